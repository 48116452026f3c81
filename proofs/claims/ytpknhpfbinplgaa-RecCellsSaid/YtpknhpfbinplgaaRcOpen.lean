/-
Arguments opened: what a handed value reads as: numbers, bytes, images, records, geometries.
-/
import Derived.Test.YtpknhpfbinplgaaRcBase
import Derived.ProofKit
import Derived.Deep.Slices
namespace Go.Proofs.Ytpknhpfbinplgaa
open Go.ChangeShapes Go.WideShapes Go.ChangeAt Go.RowKit Go.Deep

theorem list3 {α : Type} : ∀ {l : List α}, l.length = 3 → ∃ x0 x1 x2, l = [x0, x1, x2]
  | [x0, x1, x2], _ => ⟨x0, x1, x2, rfl⟩
theorem list5 {α : Type} : ∀ {l : List α}, l.length = 5 → ∃ x0 x1 x2 x3 x4, l = [x0, x1, x2, x3, x4]
  | [x0, x1, x2, x3, x4], _ => ⟨x0, x1, x2, x3, x4, rfl⟩
theorem list6 {α : Type} : ∀ {l : List α}, l.length = 6 → ∃ x0 x1 x2 x3 x4 x5, l = [x0, x1, x2, x3, x4, x5]
  | [x0, x1, x2, x3, x4, x5], _ => ⟨x0, x1, x2, x3, x4, x5, rfl⟩
theorem list8 {α : Type} : ∀ {l : List α}, l.length = 8 → ∃ x0 x1 x2 x3 x4 x5 x6 x7, l = [x0, x1, x2, x3, x4, x5, x6, x7]
  | [x0, x1, x2, x3, x4, x5, x6, x7], _ => ⟨x0, x1, x2, x3, x4, x5, x6, x7, rfl⟩
variable {H : Type} {enc : TypeId × Value → H}

/-- Whatever a type's cells read as is an element of α. -/
def OpenAs (enc : TypeId × Value → H) (w : World) (t : TypeId) (α : Type) [Rp α] (p : α → Prop) : Prop :=
  ∀ n cs x, DataW.trod enc Try.prog w 0 (fun _ => true) true n t cs = some x → ∃ a : α, Rp.E w noM cs a ∧ p a

theorem chain_elems {α : Type} [Rp α] {p : α → Prop} {w : World} {b off : Nat} : ∀ (n : Nat), (∀ i, i < n → ∃ cs, ∃ a : α, (Rp.E w noM cs a ∧ p a) ∧ ∀ j u, cs[j]? = some u → w.cell? ⟨b, off + (i * Rp.sz α + j), none⟩ = some u) →
    ∃ (l : List α) (xs : List Value), l.length = n ∧ (Elems (Rp.sz α) (Rp.E w noM) xs l ∧ ∀ a ∈ l, p a) ∧ ∀ j u, xs[j]? = some u → w.cell? ⟨b, off + j, none⟩ = some u
  | 0, _ => ⟨[], [], rfl, ⟨rfl, fun a h => by cases h⟩, fun j u h => by simp at h⟩
  | n + 1, h => by
    obtain ⟨l, xs, hl, ⟨he, hp⟩, hc⟩ := chain_elems n (fun i hi => h i (by omega))
    obtain ⟨cs, a, ⟨hE, hpa⟩, hcs⟩ := h n (by omega)
    refine ⟨l ++ [a], xs ++ cs, by simp [hl], ⟨he.append (Elems.one (Rp.len hE) hE), fun x hx => (List.mem_append.1 hx).elim (hp x) (fun h => by simp at h; rw [h]; exact hpa)⟩, fun j u hu => ?_⟩
    have hlen := he.length
    rw [hl] at hlen
    by_cases hj : j < xs.length
    · rw [List.getElem?_append_left hj] at hu
      exact hc j u hu
    · rw [List.getElem?_append_right (by omega)] at hu
      have := hcs _ u hu
      rw [hlen] at this
      rw [show j = n * Rp.sz α + (j - n * Rp.sz α) by omega]
      exact this

theorem spot_none {w : World} {a : Addr} {u : Value} (h : w.cell? a = some u) : a.spot = none := by
  unfold World.cell? at h
  split at h
  · split at h
    · cases h
    · rename_i hn
      cases hs : a.spot with
      | none => rfl
      | some x => rw [hs] at hn; exact absurd rfl hn
  · cases h

theorem open_sl {α : Type} [Rp α] {p : α → Prop} {w : World} {t e : TypeId} (ht : Try.prog.underlying t = some (.slice e)) (hsz : Try.prog.cellsOf e = Rp.sz α) (hel : OpenAs enc w e α p) {n : Nat} {cs : List Value} {x : DataW H × List MemPlace}
    (h : DataW.trod enc Try.prog w 0 (fun _ => true) true n t cs = some x) : ∃ v, ∃ l : List α, cs = [v] ∧ SlR w noM v l ∧ ∀ a ∈ l, p a := by
  rcases open_slice ht h with ⟨rfl, -⟩ | ⟨a, len, cap, m, n', D, Pl, rfl, -, hlc, hcm, hm, -, hel'⟩
  · exact ⟨_, [], rfl, ⟨none, 0, [], rfl, by simp, by simp [maxLen], rfl, fun h => absurd rfl h⟩, fun a h => by cases h⟩
  · simp only [if_true] at hm
    subst hm
    obtain ⟨b, off, spot⟩ := a
    by_cases h0 : len = 0
    · subst h0
      exact ⟨_, [], rfl, ⟨_, m, [], rfl, by simp, hcm, rfl, fun h => absurd rfl h⟩, fun a h => by cases h⟩
    · have hsp : spot = none := by
        obtain ⟨cs', hc, htr⟩ := hel' 0 (by omega)
        obtain ⟨a, hE, _⟩ := hel n' cs' _ htr
        obtain ⟨-, hl, hcell⟩ := World.cells?_some hc
        have hp := Rp.pos (α := α)
        have hle := Rp.len hE
        have := hcell 0 (by omega)
        rw [List.getElem?_eq_getElem (by omega)] at this
        simp only [Addr.add, Nat.zero_mul, if_true] at this
        exact spot_none this
      subst hsp
      have key : ∀ i, i < len → ∃ cs, ∃ a : α, (Rp.E w noM cs a ∧ p a) ∧ ∀ j u, cs[j]? = some u → w.cell? ⟨b, off + (i * Rp.sz α + j), none⟩ = some u := fun i hi => by
        obtain ⟨cs', hc, htr⟩ := hel' i (by omega)
        obtain ⟨a, hE, hpa⟩ := hel n' cs' _ htr
        refine ⟨cs', a, ⟨hE, hpa⟩, fun j u hu => ?_⟩
        obtain ⟨-, hl, hcell⟩ := World.cells?_some hc
        have hj : j < Try.prog.cellsOf e := by rw [← hl]; exact (List.getElem?_eq_some_iff.1 hu).1
        have := (hcell j hj).trans hu
        rw [Addr.add_lit, Addr.add_lit, hsz, Nat.add_assoc] at this
        exact this
      obtain ⟨l, xs, hl, ⟨he, hpl⟩, hc⟩ := chain_elems len key
      subst hl
      exact ⟨_, l, rfl, ⟨_, m, xs, rfl, hlc, hcm, he, fun _ => ⟨b, off, rfl, fun h => h, hc⟩⟩, hpl⟩
theorem open_arg {α : Type} [Rp α] {p : α → Prop} {w : World} {t e : TypeId} (ht : Try.prog.underlying t = some (.slice e)) (hsz : Try.prog.cellsOf e = Rp.sz α) (hel : OpenAs enc w e α p) {v : Value} (hv : v.cells.toList = [v]) {d : DataW H} {ps : List MemPlace}
    (h : DataW.Trod enc Try.prog w 0 (fun _ => true) true t v d ps) : ∃ l : List α, SlR w noM v l ∧ ∀ a ∈ l, p a := by
  obtain ⟨n, hn⟩ := h
  obtain ⟨v', l, e, hs, hp⟩ := open_sl ht hsz hel hn
  rw [hv] at e
  injection e with e
  subst e
  exact ⟨l, hs, hp⟩
theorem int_max {k : Int} (h : (Lit.int .i64 k).wf = true) : k ≤ 9223372036854775807 := by
  have h2 : IntKind.i64.min ≤ k ∧ k ≤ IntKind.i64.max := by
    simp only [Lit.wf, Bool.and_eq_true, decide_eq_true_eq] at h
    exact h
  have e2 : IntKind.i64.max = 9223372036854775807 := by decide
  omega
theorem open_asInt {w : World} {t : TypeId} (ht : Try.prog.underlying t = some (.int .i64)) : OpenAs enc w t Int (fun k => k ≤ 9223372036854775807) := fun n cs x h => by
  obtain ⟨k, rfl, -, hw⟩ := DataW.trod_int ht h
  exact ⟨k, rfl, int_max hw⟩
theorem int_min {k : Int} (h : (Lit.int .i64 k).wf = true) : -9223372036854775808 ≤ k := by
  have h2 : IntKind.i64.min ≤ k ∧ k ≤ IntKind.i64.max := by
    simp only [Lit.wf, Bool.and_eq_true, decide_eq_true_eq] at h
    exact h
  have e2 : IntKind.i64.min = -9223372036854775808 := by decide
  omega
theorem u8_wf {k : Int} (h : (Lit.int .u8 k).wf = true) : ∃ x : UInt8, k = x.toNat := by
  have h2 : 0 ≤ k ∧ k < 256 := by
    simp only [Lit.wf, Bool.and_eq_true, decide_eq_true_eq] at h
    have e1 : IntKind.u8.min = 0 := by decide
    have e2 : IntKind.u8.max = 255 := by decide
    omega
  obtain ⟨j, rfl⟩ := Int.eq_ofNat_of_zero_le h2.1
  exact ⟨UInt8.ofNat j, by rw [UInt8.toNat_ofNat_of_lt' (show j < 256 by omega)]⟩
theorem open_asU8 {w : World} {t : TypeId} (ht : Try.prog.underlying t = some (.int .u8)) : OpenAs enc w t UInt8 (fun _ => True) := fun n cs x h => by
  obtain ⟨k, rfl, -, hw⟩ := DataW.trod_int ht h
  obtain ⟨y, rfl⟩ := u8_wf hw
  exact ⟨y, rfl, trivial⟩
theorem cellsI : Try.prog.cellsOf 3 = 1 := by kernel_rfl
theorem cellsU : Try.prog.cellsOf 5 = 1 := by kernel_rfl
theorem cellsB : Try.prog.cellsOf 24 = 1 := by kernel_rfl
theorem open_bytes {w : World} {n : Nat} {cs : List Value} {x : DataW H × List MemPlace} (h : DataW.trod enc Try.prog w 0 (fun _ => true) true n 24 cs = some x) : ∃ v, ∃ l : List UInt8, cs = [v] ∧ SlR w noM v l := by
  obtain ⟨v, l, e, hs, -⟩ := open_sl Try.underlying24 cellsU (open_asU8 Try.underlying5) h
  exact ⟨v, l, e, hs⟩
theorem cells_img : Try.prog.cellsOf 26 = 3 := by kernel_rfl
theorem open_img {w : World} : OpenAs enc w 26 Img (fun _ => True) := fun n cs x h => by
  obtain ⟨xs, n', _, rfl, hl, hlen, hf⟩ := DataW.trod_struct Try.underlying26 h
  have hlc : cs.length = 3 := hl.trans cells_img
  obtain ⟨c0, c1, c2, rfl⟩ : ∃ c0 c1 c2, cs = [c0, c1, c2] := list3 hlc
  obtain ⟨y0, y1, y2, rfl⟩ : ∃ y0 y1 y2, xs = [y0, y1, y2] := list3 hlen
  have h0 : DataW.trod enc Try.prog w 0 (fun _ => true) true n' 3 (([c0, c1, c2].drop 0).take (Try.prog.cellsOf 3)) = some y0 := hf 0 _ rfl
  rw [cellsI] at h0
  obtain ⟨k0, e0, -, -⟩ := DataW.trod_int Try.underlying3 h0
  have h1 : DataW.trod enc Try.prog w 0 (fun _ => true) true n' 3 (([c0, c1, c2].drop 1).take (Try.prog.cellsOf 3)) = some y1 := hf 1 _ rfl
  rw [cellsI] at h1
  obtain ⟨k1, e1, -, -⟩ := DataW.trod_int Try.underlying3 h1
  have h2 : DataW.trod enc Try.prog w 0 (fun _ => true) true n' 24 (([c0, c1, c2].drop 2).take (Try.prog.cellsOf 24)) = some y2 := hf 2 _ rfl
  rw [cellsB] at h2
  obtain ⟨v2, l2, e2, s2⟩ := open_bytes h2
  simp at e0 e1 e2
  subst e0
  subst e1
  subst e2
  exact ⟨⟨k0, k1, l2⟩, ⟨_, rfl, s2⟩, trivial⟩
theorem cells_rec : Try.prog.cellsOf 28 = 8 := by kernel_rfl
theorem open_rec {w : World} : OpenAs enc w 28 Rc (fun _ => True) := fun n cs x h => by
  obtain ⟨xs, n', _, rfl, hl, hlen, hf⟩ := DataW.trod_struct Try.underlying28 h
  have hlc : cs.length = 8 := hl.trans cells_rec
  obtain ⟨c0, c1, c2, c3, c4, c5, c6, c7, rfl⟩ : ∃ c0 c1 c2 c3 c4 c5 c6 c7, cs = [c0, c1, c2, c3, c4, c5, c6, c7] := list8 hlc
  obtain ⟨y0, y1, y2, y3, y4, y5, rfl⟩ : ∃ y0 y1 y2 y3 y4 y5, xs = [y0, y1, y2, y3, y4, y5] := list6 hlen
  have h0 : DataW.trod enc Try.prog w 0 (fun _ => true) true n' 3 (([c0, c1, c2, c3, c4, c5, c6, c7].drop 0).take (Try.prog.cellsOf 3)) = some y0 := hf 0 _ rfl
  rw [cellsI] at h0
  obtain ⟨k0, e0, -, -⟩ := DataW.trod_int Try.underlying3 h0
  have h1 : DataW.trod enc Try.prog w 0 (fun _ => true) true n' 3 (([c0, c1, c2, c3, c4, c5, c6, c7].drop 1).take (Try.prog.cellsOf 3)) = some y1 := hf 1 _ rfl
  rw [cellsI] at h1
  obtain ⟨k1, e1, -, -⟩ := DataW.trod_int Try.underlying3 h1
  have h2 : DataW.trod enc Try.prog w 0 (fun _ => true) true n' 3 (([c0, c1, c2, c3, c4, c5, c6, c7].drop 2).take (Try.prog.cellsOf 3)) = some y2 := hf 2 _ rfl
  rw [cellsI] at h2
  obtain ⟨k2, e2, -, -⟩ := DataW.trod_int Try.underlying3 h2
  have h3 : DataW.trod enc Try.prog w 0 (fun _ => true) true n' 3 (([c0, c1, c2, c3, c4, c5, c6, c7].drop 3).take (Try.prog.cellsOf 3)) = some y3 := hf 3 _ rfl
  rw [cellsI] at h3
  obtain ⟨k3, e3, -, -⟩ := DataW.trod_int Try.underlying3 h3
  have h4 : DataW.trod enc Try.prog w 0 (fun _ => true) true n' 3 (([c0, c1, c2, c3, c4, c5, c6, c7].drop 4).take (Try.prog.cellsOf 3)) = some y4 := hf 4 _ rfl
  rw [cellsI] at h4
  obtain ⟨k4, e4, -, -⟩ := DataW.trod_int Try.underlying3 h4
  have h5 : DataW.trod enc Try.prog w 0 (fun _ => true) true n' 26 (([c0, c1, c2, c3, c4, c5, c6, c7].drop 5).take (Try.prog.cellsOf 26)) = some y5 := hf 5 _ rfl
  rw [cells_img] at h5
  obtain ⟨m5, e5, -⟩ := open_img n' _ _ h5
  obtain ⟨r5, e5, s5⟩ := e5
  simp at e0 e1 e2 e3 e4 e5
  subst e0
  subst e1
  subst e2
  subst e3
  subst e4
  obtain ⟨e5a, e5b, e5c⟩ := e5
  subst e5a e5b e5c
  exact ⟨⟨k0, k1, k2, k3, k4, m5⟩, ⟨_, rfl, s5⟩, trivial⟩
instance : Rp Geo where
  sz := 5
  agg := true
  pos := by omega
  E := fun _ _ cs g => cs = [.int .i64 g.z, .int .i64 g.d, .int .i64 g.sp, .int .i64 g.sl, .int .i64 g.an]
  len := fun h => by rw [h]; rfl
  one := fun h u hu => by rw [h] at hu; simp at hu; rcases hu with rfl | rfl | rfl | rfl | rfl <;> rfl
  mono := fun _ h => h
theorem cells_geo : Try.prog.cellsOf 23 = 5 := by kernel_rfl
theorem open_geo {w : World} : OpenAs enc w 23 Geo (fun _ => True) := fun n cs x h => by
  obtain ⟨xs, n', _, rfl, hl, hlen, hf⟩ := DataW.trod_struct Try.underlying23 h
  have hlc : cs.length = 5 := hl.trans cells_geo
  obtain ⟨c0, c1, c2, c3, c4, rfl⟩ : ∃ c0 c1 c2 c3 c4, cs = [c0, c1, c2, c3, c4] := list5 hlc
  obtain ⟨y0, y1, y2, y3, y4, rfl⟩ : ∃ y0 y1 y2 y3 y4, xs = [y0, y1, y2, y3, y4] := list5 hlen
  have h0 : DataW.trod enc Try.prog w 0 (fun _ => true) true n' 3 (([c0, c1, c2, c3, c4].drop 0).take (Try.prog.cellsOf 3)) = some y0 := hf 0 _ rfl
  rw [cellsI] at h0
  obtain ⟨k0, e0, -, -⟩ := DataW.trod_int Try.underlying3 h0
  have h1 : DataW.trod enc Try.prog w 0 (fun _ => true) true n' 3 (([c0, c1, c2, c3, c4].drop 1).take (Try.prog.cellsOf 3)) = some y1 := hf 1 _ rfl
  rw [cellsI] at h1
  obtain ⟨k1, e1, -, -⟩ := DataW.trod_int Try.underlying3 h1
  have h2 : DataW.trod enc Try.prog w 0 (fun _ => true) true n' 3 (([c0, c1, c2, c3, c4].drop 2).take (Try.prog.cellsOf 3)) = some y2 := hf 2 _ rfl
  rw [cellsI] at h2
  obtain ⟨k2, e2, -, -⟩ := DataW.trod_int Try.underlying3 h2
  have h3 : DataW.trod enc Try.prog w 0 (fun _ => true) true n' 3 (([c0, c1, c2, c3, c4].drop 3).take (Try.prog.cellsOf 3)) = some y3 := hf 3 _ rfl
  rw [cellsI] at h3
  obtain ⟨k3, e3, -, -⟩ := DataW.trod_int Try.underlying3 h3
  have h4 : DataW.trod enc Try.prog w 0 (fun _ => true) true n' 3 (([c0, c1, c2, c3, c4].drop 4).take (Try.prog.cellsOf 3)) = some y4 := hf 4 _ rfl
  rw [cellsI] at h4
  obtain ⟨k4, e4, -, -⟩ := DataW.trod_int Try.underlying3 h4
  simp at e0 e1 e2 e3 e4
  subst e0
  subst e1
  subst e2
  subst e3
  subst e4
  exact ⟨⟨k0, k1, k2, k3, k4⟩, rfl, trivial⟩
theorem open_geoA {w : World} {cs : Array Value} {d : DataW H} {ps : List MemPlace} (h : DataW.Trod enc Try.prog w 0 (fun _ => true) true 23 (.agg cs) d ps) : ∃ g : Geo, .agg cs = gv g := by
  obtain ⟨n, hn⟩ := h
  obtain ⟨x, hx, -⟩ := open_geo n _ _ hn
  have hx : cs.toList = [.int .i64 x.z, .int .i64 x.d, .int .i64 x.sp, .int .i64 x.sl, .int .i64 x.an] := hx
  exact ⟨x, by unfold gv; rw [← hx]⟩
theorem open_recA {w : World} {cs : Array Value} {d : DataW H} {ps : List MemPlace} (h : DataW.Trod enc Try.prog w 0 (fun _ => true) true 28 (.agg cs) d ps) : ∃ (r : Rc) (v : Value), .agg cs = Value.agg #[.int .i64 r.kind, .int .i64 r.seq, .int .i64 r.epoch, .int .i64 r.at_, .int .i64 r.of_, .int .i64 r.img.zone, .int .i64 r.img.what, v] ∧ SlR w noM v r.img.bytes := by
  obtain ⟨n, hn⟩ := h
  obtain ⟨x, ⟨v, hx, hs⟩, -⟩ := open_rec n _ _ hn
  have hx : cs.toList = _ := hx
  exact ⟨x, v, by rw [← hx], hs⟩
theorem open_imgA {w : World} {cs : Array Value} {d : DataW H} {ps : List MemPlace} (h : DataW.Trod enc Try.prog w 0 (fun _ => true) true 26 (.agg cs) d ps) : ∃ (r : Img) (v : Value), .agg cs = Value.agg #[.int .i64 r.zone, .int .i64 r.what, v] ∧ SlR w noM v r.bytes := by
  obtain ⟨n, hn⟩ := h
  obtain ⟨x, ⟨v, hx, hs⟩, -⟩ := open_img n _ _ hn
  have hx : cs.toList = _ := hx
  exact ⟨x, v, by rw [← hx], hs⟩
end Go.Proofs.Ytpknhpfbinplgaa
