/-
Plain laws on how Go data lies in memory: what a slice of a type reads as, what keeps it, what an append onto a row of the call's own leaves. No program is named here.
-/
import Derived.WalkKit
import Derived.WalkSpells
import Derived.WalkLawsBesides
import Derived.Lib.Hide
import Derived.Maps.AppendAt
import Derived.Deep.RegionHeld3
import Derived.Deep.AppendLies
import Derived.Deep.DrawnRows
import Derived.BigQuiet
import Derived.Deep.QuietTactic
import Derived.Deep.DeepFit
namespace Go.Proofs.Ytpknhpfbinplgaa
open Go.RowKit

/-- Which blocks may be written. -/
abbrev Ms := Nat → Prop
def noM : Ms := fun _ => False

/-- What is there and may not be written stays, and stays so. -/
def Keep (w : World) (M : Ms) (w' : World) (M' : Ms) : Prop := ∀ b, b < w.heap.size → ¬ M b → ¬ M' b ∧ w'.heap[b]? = w.heap[b]?

theorem Keep.refl (w : World) (M : Ms) : Keep w M w M := fun _ _ h => ⟨h, rfl⟩
theorem Keep.below {w w' : World} {M : Ms} (h : Below w.heap.size w w') : Keep w M w' M := fun b hb hm => ⟨hm, h.block b hb⟩
theorem Keep.trans {w w' w'' : World} {M M' M'' : Ms} (h : Keep w M w' M') (k : Keep w' M' w'' M'') : Keep w M w'' M'' := fun b hb hm => by
  obtain ⟨h1, h2⟩ := h b hb hm
  have hb' : b < w'.heap.size := by
    rcases Nat.lt_or_ge b w'.heap.size with h3 | h3
    · exact h3
    · rw [Array.getElem?_eq_none h3, Array.getElem?_eq_getElem hb] at h2; cases h2
  obtain ⟨h3, h4⟩ := k b hb' h1
  exact ⟨h3, h4.trans h2⟩
theorem Keep.cell {w w' : World} {M M' : Ms} (h : Keep w M w' M') {a : Addr} {u : Value} (hm : ¬ M a.block) (hc : w.cell? a = some u) : w'.cell? a = some u :=
  (World.cell?_of_block (h a.block (World.block_lt_of_cell? w a hc) hm).2).trans hc

abbrev El (α : Type) := World → Ms → List Value → α → Prop

def Elems {α : Type} (sz : Nat) (E : List Value → α → Prop) : List Value → List α → Prop
  | xs, [] => xs = []
  | xs, x :: l => ∃ cs ys, xs = cs ++ ys ∧ cs.length = sz ∧ E cs x ∧ Elems sz E ys l

section
variable {α : Type} {sz : Nat} {E E' : List Value → α → Prop}
theorem Elems.length : ∀ {l : List α} {xs : List Value}, Elems sz E xs l → xs.length = l.length * sz
  | [], _, h => by simp only [Elems] at h; simp [h]
  | x :: l, _, h => by
    obtain ⟨cs, ys, rfl, hc, _, hy⟩ := h
    rw [List.length_append, hc, Elems.length hy, List.length_cons, Nat.add_mul]; omega
theorem Elems.mono : ∀ {l : List α} {xs : List Value}, (∀ cs x, x ∈ l → E cs x → E' cs x) → Elems sz E xs l → Elems sz E' xs l
  | [], _, _, h => h
  | x :: l, _, hE, h => by
    obtain ⟨cs, ys, rfl, hc, he, hy⟩ := h
    exact ⟨cs, ys, rfl, hc, hE _ _ (by simp) he, Elems.mono (fun cs x hx => hE cs x (by simp [hx])) hy⟩
theorem Elems.get : ∀ {l : List α} {xs : List Value} {i : Nat} {x : α}, Elems sz E xs l → l[i]? = some x → ∃ cs, cs.length = sz ∧ E cs x ∧ ∀ j, j < sz → xs[i * sz + j]? = cs[j]?
  | [], _, _, _, _, hx => by simp at hx
  | y :: l, _, 0, x, h, hx => by
    obtain ⟨cs, ys, rfl, hc, he, hy⟩ := h
    simp only [List.getElem?_cons_zero, Option.some.injEq] at hx
    subst hx
    exact ⟨cs, hc, he, fun j hj => by rw [Nat.zero_mul, Nat.zero_add, List.getElem?_append_left (by omega)]⟩
  | y :: l, _, i + 1, x, h, hx => by
    obtain ⟨cs, ys, rfl, hc, he, hy⟩ := h
    obtain ⟨cs', h1, h2, h3⟩ := Elems.get (i := i) hy (by simpa using hx)
    refine ⟨cs', h1, h2, fun j hj => ?_⟩
    rw [← h3 j hj, List.getElem?_append_right (by rw [hc, Nat.add_mul]; omega)]
    congr 1
    rw [hc, Nat.add_mul]; omega
theorem Elems.append : ∀ {l m : List α} {xs ys : List Value}, Elems sz E xs l → Elems sz E ys m → Elems sz E (xs ++ ys) (l ++ m)
  | [], _, _, _, h, k => by simp only [Elems] at h; subst h; simpa using k
  | x :: l, m, _, _, h, k => by
    obtain ⟨cs, zs, rfl, hc, he, hy⟩ := h
    exact ⟨cs, zs ++ _, by rw [List.append_assoc], hc, he, Elems.append hy k⟩
theorem Elems.one {cs : List Value} {x : α} (hc : cs.length = sz) (he : E cs x) : Elems sz E cs [x] := ⟨cs, [], by simp, hc, he, rfl⟩
theorem Elems.set : ∀ {l : List α} {xs : List Value} {i : Nat} {x : α} {cs : List Value}, Elems sz E xs l → i < l.length → cs.length = sz → E cs x →
    Elems sz E (xs.take (i * sz) ++ cs ++ xs.drop (i * sz + sz)) (l.set i x)
  | [], _, _, _, _, _, hi, _, _ => by simp at hi
  | y :: l, _, 0, x, cs, h, _, hc, he => by
    obtain ⟨ds, ys, rfl, hd, _, hy⟩ := h
    refine ⟨cs, ys, ?_, hc, he, hy⟩
    simp [hd ▸ List.drop_left (l₁ := ds) (l₂ := ys)]
  | y :: l, _, i + 1, x, cs, h, hi, hc, he => by
    obtain ⟨ds, ys, rfl, hd, hy', hy⟩ := h
    refine ⟨ds, ys.take (i * sz) ++ cs ++ ys.drop (i * sz + sz), ?_, hd, hy', Elems.set hy (by simpa using hi) hc he⟩
    have e1 : (i + 1) * sz = ds.length + i * sz := by rw [hd, Nat.add_mul]; omega
    rw [e1, List.take_append, List.drop_append]
    rw [show ds.length + i * sz - ds.length = i * sz by omega, show ds.length + i * sz + sz - ds.length = i * sz + sz by omega]
    rw [List.take_of_length_le (by omega), List.drop_eq_nil_of_le (by omega)]
    simp
theorem Elems.nil_iff {xs : List Value} : Elems sz E xs ([] : List α) ↔ xs = [] := Iff.rfl
theorem Elems.of_get : ∀ {l : List α} {xs : List Value}, xs.length = l.length * sz →
    (∀ i x, l[i]? = some x → ∃ cs, cs.length = sz ∧ E cs x ∧ ∀ j, j < sz → xs[i * sz + j]? = cs[j]?) → Elems sz E xs l
  | [], xs, hl, _ => by simp at hl; exact hl
  | x :: l, xs, hl, h => by
    obtain ⟨cs, hc, he, hj⟩ := h 0 x rfl
    have hlen : sz ≤ xs.length := by rw [hl, List.length_cons, Nat.add_mul]; omega
    refine ⟨cs, xs.drop sz, ?_, hc, he, Elems.of_get (by rw [List.length_drop, hl, List.length_cons, Nat.add_mul]; omega) fun i y hy => ?_⟩
    · rw [← List.take_append_drop sz xs]
      congr 1
      · apply List.ext_getElem?
        intro j
        rcases Nat.lt_or_ge j sz with h1 | h1
        · rw [List.getElem?_take_of_lt h1, ← hj j h1]; simp
        · rw [List.getElem?_eq_none (by rw [List.length_take]; omega), List.getElem?_eq_none (by omega)]
      · rw [List.take_append_drop]
    · obtain ⟨ds, hd, hed, hjd⟩ := h (i + 1) y (by simpa using hy)
      refine ⟨ds, hd, hed, fun j h1 => ?_⟩
      rw [← hjd j h1, List.getElem?_drop]
      congr 1
      rw [Nat.add_mul]; omega
theorem Elems.put {l : List α} {xs xs' : List Value} {k : Nat} {y : α} {cs : List Value} (h : Elems sz E xs l) (hk : k < l.length) (hlen : xs'.length = xs.length)
    (hsame : ∀ i, i < k * sz ∨ k * sz + sz ≤ i → xs'[i]? = xs[i]?) (hc : cs.length = sz) (he : E cs y) (hnew : ∀ j, j < sz → xs'[k * sz + j]? = cs[j]?) : Elems sz E xs' (l.set k y) := by
  refine Elems.of_get (by rw [hlen, h.length, List.length_set]) fun i x hx => ?_
  by_cases hik : i = k
  · subst hik
    rw [List.getElem?_set_self hk] at hx
    cases hx
    exact ⟨cs, hc, he, hnew⟩
  · rw [List.getElem?_set_ne (Ne.symm hik)] at hx
    obtain ⟨ds, hd, hed, hj⟩ := h.get hx
    refine ⟨ds, hd, hed, fun j hjs => ?_⟩
    rw [hsame]
    · exact hj j hjs
    · rcases Nat.lt_or_ge i k with h1 | h1
      · left
        have : (i + 1) * sz ≤ k * sz := Nat.mul_le_mul_right _ h1
        rw [Nat.add_mul] at this; omega
      · right
        have : (k + 1) * sz ≤ i * sz := Nat.mul_le_mul_right _ (by omega)
        rw [Nat.add_mul] at this; omega
theorem Elems.mem : ∀ {l : List α} {xs : List Value} {u : Value}, Elems sz E xs l → u ∈ xs → ∃ cs x, x ∈ l ∧ E cs x ∧ u ∈ cs
  | [], _, _, h, hu => by simp only [Elems] at h; subst h; cases hu
  | x :: l, _, u, h, hu => by
    obtain ⟨cs, ys, rfl, hc, he, hy⟩ := h
    rcases List.mem_append.1 hu with h1 | h1
    · exact ⟨cs, x, by simp, he, h1⟩
    · obtain ⟨ds, y, h2, h3, h4⟩ := Elems.mem hy h1
      exact ⟨ds, y, by simp [h2], h3, h4⟩
end


/-- A type of Go data: how many cells, what they hold, whether it stands as an aggregate. -/
class Rp (α : Type) where
  sz : Nat
  agg : Bool
  pos : 0 < sz
  E : El α
  len : ∀ {w M cs x}, E w M cs x → cs.length = sz
  one : ∀ {w M cs x}, E w M cs x → ∀ u ∈ cs, u.oneCell' = true
  mono : ∀ {w M w' M' cs x}, Keep w M w' M' → E w M cs x → E w' M' cs x

/-- A value of the type. -/
def Rv {α : Type} [Rp α] (w : World) (M : Ms) (v : Value) (x : α) : Prop := ∃ cs, v = (if Rp.agg α then .agg cs.toArray else cs.headD undef) ∧ Rp.E w M cs x

theorem Rv.mono {α : Type} [Rp α] {w w' : World} {M M' : Ms} {v : Value} {x : α} (h : Rv w M v x) (k : Keep w M w' M') : Rv w' M' v x :=
  let ⟨cs, e, r⟩ := h; ⟨cs, e, Rp.mono k r⟩
theorem Rv.below {α : Type} [Rp α] {w w' : World} {M : Ms} {v : Value} {x : α} (h : Rv w M v x) (k : Below w.heap.size w w') : Rv w' M v x := h.mono (Keep.below k)

/-- A slice as a list. -/
def SlR {α : Type} [Rp α] (w : World) (M : Ms) (v : Value) (l : List α) : Prop :=
  ∃ a c xs, v = .slice a l.length c ∧ l.length ≤ c ∧ c ≤ maxLen ∧ Elems (Rp.sz α) (Rp.E w M) xs l ∧
    (l ≠ [] → ∃ b off, a = some ⟨b, off, none⟩ ∧ ¬ M b ∧ ∀ j u, xs[j]? = some u → w.cell? ⟨b, off + j, none⟩ = some u)

theorem SlR.mono {α : Type} [Rp α] {w w' : World} {M M' : Ms} {v : Value} {l : List α} (h : SlR w M v l) (k : Keep w M w' M') : SlR w' M' v l := by
  obtain ⟨a, c, xs, rfl, h1, h2, h3, h4⟩ := h
  refine ⟨a, c, xs, rfl, h1, h2, h3.mono fun cs x _ => Rp.mono k, fun hne => ?_⟩
  obtain ⟨b, off, rfl, hm, hc⟩ := h4 hne
  have hl : 0 < xs.length := by rw [h3.length]; exact Nat.mul_pos (List.length_pos_iff.2 hne) Rp.pos
  refine ⟨b, off, rfl, ?_, fun j u hu => k.cell (by exact hm) (hc j u hu)⟩
  have := hc 0 xs[0] (List.getElem?_eq_getElem hl)
  exact (k b (World.block_lt_of_cell? w _ this) hm).1

/-- An element of a slice: where its cells lie. -/
theorem SlR.at_ {α : Type} [Rp α] {w : World} {M : Ms} {a : Option Addr} {n c k : Nat} {l : List α} (h : SlR w M (.slice a n c) l) (hk : k < l.length) :
    ∃ b off cs, a = some ⟨b, off, none⟩ ∧ ¬ M b ∧ Rp.E w M cs l[k] ∧ ∀ j u, cs[j]? = some u → w.cell? ⟨b, off + k * Rp.sz α + j, none⟩ = some u := by
  obtain ⟨a', c', xs, e, h1, h2, h3, h4⟩ := h
  cases e
  obtain ⟨b, off, rfl, hm, hc⟩ := h4 (by intro e; rw [e] at hk; simp at hk)
  obtain ⟨cs, hcl, he, hj⟩ := h3.get (List.getElem?_eq_getElem hk)
  refine ⟨b, off, cs, rfl, hm, he, fun j u hu => ?_⟩
  have hlt : j < Rp.sz α := by rw [← hcl]; exact (List.getElem?_eq_some_iff.1 hu).1
  rw [Nat.add_assoc]
  exact hc _ u ((hj j hlt).trans hu)
theorem SlR.len_ {α : Type} [Rp α] {w : World} {M : Ms} {a : Option Addr} {n c : Nat} {l : List α} (h : SlR w M (.slice a n c) l) : n = l.length := by
  obtain ⟨a', c', xs, e, h1, h2, h3, h4⟩ := h
  cases e; rfl
theorem SlR.form {α : Type} [Rp α] {w : World} {M : Ms} {v : Value} {l : List α} (h : SlR w M v l) : ∃ a c, v = .slice a l.length c := by
  obtain ⟨a', c', xs, e, _⟩ := h
  exact ⟨_, _, e⟩

theorem Elems.oneCell {α : Type} [Rp α] {w : World} {M : Ms} {xs : List Value} {l : List α} (h : Elems (Rp.sz α) (Rp.E w M) xs l) : ∀ u ∈ xs, u.oneCell' = true := fun u hu => by
  obtain ⟨cs, x, _, he, hc⟩ := h.mem hu
  exact Rp.one he u hc

instance : Rp UInt8 where
  sz := 1
  agg := false
  pos := by omega
  E := fun _ _ cs x => cs = [.int .u8 x.toNat]
  len := fun h => by simp [h]
  one := fun h u hu => by rw [h] at hu; simp at hu; subst hu; rfl
  mono := fun _ h => h
instance : Rp Int where
  sz := 1
  agg := false
  pos := by omega
  E := fun _ _ cs x => cs = [.int .i64 x]
  len := fun h => by simp [h]
  one := fun h u hu => by rw [h] at hu; simp at hu; subst hu; rfl
  mono := fun _ h => h
instance : Rp Bool where
  sz := 1
  agg := false
  pos := by omega
  E := fun _ _ cs x => cs = [.bool x]
  len := fun h => by simp [h]
  one := fun h u hu => by rw [h] at hu; simp at hu; subst hu; rfl
  mono := fun _ h => h
instance {α : Type} [Rp α] : Rp (List α) where
  sz := 1
  agg := false
  pos := by omega
  E := fun w M cs x => ∃ v, cs = [v] ∧ SlR w M v x
  len := fun h => by obtain ⟨v, rfl, _⟩ := h; rfl
  one := fun h u hu => by obtain ⟨v, rfl, a, c, xs, rfl, _⟩ := h; simp at hu; subst hu; rfl
  mono := fun k h => by obtain ⟨v, rfl, h⟩ := h; exact ⟨v, rfl, h.mono k⟩

theorem rv_int {w : World} {M : Ms} {v : Value} {x : Int} : Rv w M v x ↔ v = .int .i64 x := by
  constructor
  · rintro ⟨cs, rfl, h⟩; have h : cs = [.int .i64 x] := h; subst h; rfl
  · rintro rfl; exact ⟨_, rfl, rfl⟩
theorem rv_bool {w : World} {M : Ms} {v : Value} {x : Bool} : Rv w M v x ↔ v = .bool x := by
  constructor
  · rintro ⟨cs, rfl, h⟩; have h : cs = [.bool x] := h; subst h; rfl
  · rintro rfl; exact ⟨_, rfl, rfl⟩
theorem rv_list {α : Type} [Rp α] {w : World} {M : Ms} {v : Value} {x : List α} : Rv w M v x ↔ SlR w M v x := by
  constructor
  · rintro ⟨cs, rfl, u, rfl, h⟩; exact h
  · intro h; exact ⟨[v], rfl, v, rfl, h⟩
theorem e_list {α : Type} [Rp α] {w : World} {M : Ms} {v : Value} {x : List α} : Rp.E w M [v] x ↔ SlR w M v x :=
  ⟨fun ⟨_, e, h⟩ => by cases e; exact h, fun h => ⟨v, rfl, h⟩⟩

/-- A slice in a row of the call's own. -/
def OwR {α : Type} [Rp α] (w : World) (M : Ms) (base : Nat) (e : TypeId) (v : Value) (l : List α) : Prop :=
  ∃ xs, w.ownsRow base e (Rp.sz α) v l.length xs ∧ Elems (Rp.sz α) (Rp.E w fun b => M b ∨ v.ownBlock = some b) xs l

section
variable {α : Type} [Rp α] {w w' : World} {M : Ms} {base : Nat} {e : TypeId} {v : Value} {l : List α}
theorem OwR.nil (w : World) (M : Ms) (base : Nat) (e : TypeId) : OwR w M base e (.slice none 0 0) ([] : List α) := ⟨[], World.ownsRow_nil _ _ _ _, rfl⟩
theorem OwR.made (w : World) (M : Ms) (e : TypeId) : OwR (w.alloc (.cells #[] e)) M w.heap.size e (.slice (some ⟨w.heap.size, 0, none⟩) 0 0) ([] : List α) :=
  ⟨[], World.ownsRow_made w #[] 0 (Nat.le_refl _) (by simp [maxLen]) (by simp), rfl⟩
theorem OwR.form (h : OwR w M base e v l) : ∃ A c, v = .slice A l.length c := by
  obtain ⟨xs, ho, he⟩ := h
  rcases ho.2 with ⟨rfl, hn⟩ | ⟨g, cap, cur, rfl, _⟩
  · exact ⟨none, 0, by rw [hn]⟩
  · exact ⟨_, _, rfl⟩
theorem OwR.sl (h : OwR w M base e v l) (hM : ∀ b, base ≤ b → ¬ M b) : SlR w M v l := by
  obtain ⟨xs, ho, he⟩ := h
  have he' : Elems (Rp.sz α) (Rp.E w M) xs l := he.mono fun cs x _ => Rp.mono fun b _ hb => ⟨fun hm => hb (.inl hm), rfl⟩
  rcases ho.2 with ⟨rfl, hn⟩ | ⟨g, cap, cur, rfl, hb, hg, hnc, hcm, hcs, ht⟩
  · have : l = [] := List.eq_nil_of_length_eq_zero hn
    subst this
    exact ⟨none, 0, xs, rfl, by simp, by simp [maxLen], he', fun h => absurd rfl h⟩
  · refine ⟨_, cap, xs, rfl, hnc, hcm, he', fun _ => ⟨g, 0, rfl, hM g hb, fun j u hu => ?_⟩⟩
    have := ho.cells (g := g) rfl j u hu
    rwa [Addr.add_lit] at this
theorem OwR.rv (h : OwR w M base e v l) (hM : ∀ b, base ≤ b → ¬ M b) : Rv w M v l := rv_list.2 (h.sl hM)
theorem OwR.kept {row : Option Nat} (h : OwR w M base e v l) (hg : w.grownBy w' row) (hne : v.ownBlock = none ∨ v.ownBlock ≠ row) (hr : ∀ b, row = some b → M b) : OwR w' M base e v l := by
  obtain ⟨xs, ho, he⟩ := h
  refine ⟨xs, ho.kept hg hne, he.mono fun cs x _ => Rp.mono fun b hb hm => ⟨hm, hg.block b hb fun e => hm (.inl (hr b e.symm))⟩⟩
theorem OwR.below (h : OwR w M base e v l) (hb : Below w.heap.size w w') : OwR w' M base e v l :=
  h.kept (row := none) ⟨hb.os, hb.tape, hb.output, hb.size, fun k hk _ => hb.block k hk⟩ (by cases v.ownBlock <;> simp) (by simp)
theorem OwR.alloc (h : OwR w M base e v l) (o : Obj) : OwR (w.alloc o) M base e v l := h.below ((Below.refl _ _).alloc (Nat.le_refl _) _)
end

/-- A slice type of the program, its elements, what they are. -/
structure SlT (P : Program) (t e : TypeId) (α : Type) [Rp α] : Prop where
  und : P.underlying t = some (.slice e)
  inf : ∃ z n b, (P.info? e).map (fun i => (i.zero, i.size, i.bytes)) = some (some z, n, b) ∧ n = Rp.sz α ∧ b ≤ 1000 ∧ z.cells.size = Rp.sz α

/-- append, whatever the source: nil, empty or not. -/
theorem run_append_R {α : Type} [Rp α] {P : Program} {w : World} {M : Ms} {base : Nat} {t ty e : TypeId} (T : SlT P t e α)
    {v : Value} {l m : List α} (hown : OwR w M base e v l) {s : Value} (hs : SlR w (fun b => M b ∨ v.ownBlock = some b) s m)
    (hn : l.length + m.length ≤ 1000000000) (hbase : base ≤ w.heap.size) :
    ∃ v' w', (Builtin.append_ #[t, t] ty #[v, s]).run P w = .ok v' w' ∧ OwR w' M base e v' (l ++ m) ∧ w.grownBy w' v.ownBlock ∧
      (v'.ownBlock = v.ownBlock ∨ v'.ownBlock = some w.heap.size) := by
  obtain ⟨ht, z, sz, bytes, hinf, hsz0, hb1, hzs⟩ := T
  obtain ⟨i, hi, hz, hsize, hby⟩ := info_parts hinf
  rw [hsz0] at hsize
  obtain ⟨a, c, ys, rfl, h1, h2, h3, h4⟩ := hs
  obtain ⟨xs, ho, he⟩ := hown
  have key : ∀ v' w', w.grownBy w' v.ownBlock → (v'.ownBlock = v.ownBlock ∨ v'.ownBlock = some w.heap.size) → w'.ownsRow base e (Rp.sz α) v' (l.length + m.length) (xs ++ ys) → OwR w' M base e v' (l ++ m) := by
    intro v' w' hg hat hr
    have hk : Keep w (fun b => M b ∨ v.ownBlock = some b) w' (fun b => M b ∨ v'.ownBlock = some b) := fun b hb hm => by
      refine ⟨fun h => ?_, hg.block b hb fun h => hm (.inr h.symm)⟩
      rcases h with h | h
      · exact hm (.inl h)
      · rcases hat with h5 | h5
        · exact hm (.inr (h5 ▸ h))
        · rw [h5] at h; injection h with h; omega
    exact ⟨xs ++ ys, by rw [List.length_append]; exact hr, (he.mono fun cs x _ => Rp.mono hk).append (h3.mono fun cs x _ => Rp.mono hk)⟩
  cases m with
  | nil =>
    have hy : ys = [] := h3
    subst hy
    have hrun : (Builtin.append_ #[t, t] ty #[v, .slice a ([] : List α).length c]).run P w = .ok v w := by
      rcases ho.2 with ⟨rfl, h0⟩ | ⟨g, cap, cur, rfl, _, hg, hnc, _⟩
      · cases a <;> simp [Builtin.append_, run_underlying ht, sizeOf, typeInfo, hi, Builtin.lenOf, Builtin.firstCells, loadCells, loadCellsFrom]
      · cases a <;> simp [Builtin.append_, run_underlying ht, sizeOf, typeInfo, hi, Builtin.lenOf, Builtin.firstCells, hnc, storeCells, loadCells, loadCellsFrom]
    exact ⟨v, w, hrun, key v w (World.grownBy.refl w _) (.inl rfl) (by simpa using ho), World.grownBy.refl w _, .inl rfl⟩
  | cons y m =>
    obtain ⟨b, off, rfl, hm, hc⟩ := h4 (by simp)
    have hbd : (l.length + (y :: m).length) * bytes ≤ 1000000000 * 1000 := Nat.mul_le_mul hn hb1
    obtain ⟨v', w', hrun, hr, hg, _, hat⟩ := run_append_own_at (P := P) w base t ty e i z (Rp.sz α) bytes ht hi hz hsize hby hzs Rp.pos v l.length xs ho ⟨b, off, none⟩ (y :: m).length c ys h3.length
      (fun j u hu => by rw [Addr.add_lit]; exact hc j u hu) h3.oneCell (by unfold maxLen; omega) (by omega) hbase
    exact ⟨v', w', hrun, key v' w' hg hat hr, hg, hat⟩

theorem wp_append_R {α : Type} [Rp α] {P : Program} {w : World} {M : Ms} {base : Nat} {t e : TypeId} {o : Oper} {a : Act} {K : Act → World → Prop} {Q : Exit → Act → World → Prop} {s x : Operand}
    (ho : o.op = .call { callee := .builtin .append, args := #[s, x], argTypes := #[t, t] }) (T : SlT P t e α)
    {v : Value} {l m : List α} (hv : a.eval s = v) (hown : OwR w M base e v l) {u : Value} (hu : a.eval x = u) (hs : SlR w (fun b => M b ∨ v.ownBlock = some b) u m)
    (hn : l.length + m.length ≤ 1000000000) (hbase : base ≤ w.heap.size)
    (h : ∀ v' w', OwR w' M base e v' (l ++ m) → w.grownBy w' v.ownBlock → (v'.ownBlock = v.ownBlock ∨ v'.ownBlock = some w.heap.size) → K (a.put o.dst v') w') : o.wp P a w K Q := by
  obtain ⟨v', w', hrun, h2, h3, h4⟩ := run_append_R (P := P) (ty := o.type) T hown hs hn hbase
  unfold Oper.wp execOp
  simp only [ho, resolve, invoke, builtin, Sem.run_bind, Sem.run_pure, Result.andThen_ok, List.map_toArray, List.map_cons, List.map_nil, hv, hu, hrun]
  exact h v' w' h2 h3 h4

theorem wpList_append_R {α : Type} [Rp α] {P : Program} {w : World} {M : Ms} {base : Nat} {t e : TypeId} {o : Oper} {a : Act} {ops : Array Oper} {rest : List Oper} {Q : Exit → Act → World → Prop} {s x : Operand}
    (hgd : o.guard = none) (ho : o.op = .call { callee := .builtin .append, args := #[s, x], argTypes := #[t, t] }) (T : SlT P t e α)
    {v : Value} {l m : List α} (hv : a.eval s = v) (hown : OwR w M base e v l) {u : Value} (hu : a.eval x = u) (hs : SlR w (fun b => M b ∨ v.ownBlock = some b) u m)
    (hn : l.length + m.length ≤ 1000000000) (hbase : base ≤ w.heap.size)
    (h : ∀ v' w', OwR w' M base e v' (l ++ m) → w.grownBy w' v.ownBlock → (v'.ownBlock = v.ownBlock ∨ v'.ownBlock = some w.heap.size) → wpList P ops Q rest (a.put o.dst v') w') : wpList P ops Q (o :: rest) a w :=
  wpList_plain hgd fun _ hK => wp_append_R ho T hv hown hu hs hn hbase fun v' w' h2 h3 h4 => hK _ _ (h v' w' h2 h3 h4)

theorem step_append_R {α : Type} [Rp α] {P : Program} {w : World} {M : Ms} {base : Nat} {t e : TypeId} {o : Oper} {a : Act} {ops : Array Oper} {K : Act → World → Prop} {Q : Exit → Act → World → Prop} {E : Prop} {s x : Operand}
    (hgd : o.guard = none) (ho : o.op = .call { callee := .builtin .append, args := #[s, x], argTypes := #[t, t] }) (T : SlT P t e α)
    {v : Value} {l m : List α} (hv : a.eval s = v) (hown : OwR w M base e v l) {u : Value} (hu : a.eval x = u) (hs : SlR w (fun b => M b ∨ v.ownBlock = some b) u m)
    (hn : l.length + m.length ≤ 1000000000) (hbase : base ≤ w.heap.size)
    (h : ∀ v' w', OwR w' M base e v' (l ++ m) → w.grownBy w' v.ownBlock → (v'.ownBlock = v.ownBlock ∨ v'.ownBlock = some w.heap.size) → K (a.put o.dst v') w') : if Region.wanted o (yielded ops a.tmps) = true then Oper.wp P o a w K Q else E := by
  have hw : Region.wanted o (yielded ops a.tmps) = true := by simp [Region.wanted, hgd]
  rw [if_pos hw]
  exact wp_append_R ho T hv hown hu hs hn hbase h

theorem Keep.ownNil (w : World) (M : Ms) (c : Nat) : Keep w M w (fun b => M b ∨ (Value.slice none 0 c).ownBlock = some b) := fun _ _ h => ⟨fun h' => h'.elim h (by simp [Value.ownBlock]), rfl⟩
theorem Below.ofNil {w w' : World} {c : Nat} (h : w.grownBy w' (Value.slice none 0 c).ownBlock) : Below w.heap.size w w' := ⟨h.os, h.tape, h.output, h.size, fun k hk => h.block k hk (by simp [Value.ownBlock])⟩
/-- The blocks that may be written are there. -/
abbrev MOk (w : World) (M : Ms) : Prop := ∀ b, M b → b < w.heap.size
theorem MOk.new {w : World} {M : Ms} (h : MOk w M) : ∀ b, w.heap.size ≤ b → ¬ M b := fun b hb hm => by have := h b hm; omega

theorem retB {a b : Bool} (h : a = true ↔ b = true) : Ending.returned (.bool a) = .returned (.bool b) := by rw [Bool.eq_iff_iff.2 h]
theorem retI {k : IntKind} {a b : Int} (h : a = b) : Ending.returned (.int k a) = .returned (.int k b) := by rw [h]
theorem below_cell {w w' : World} (h : Below w.heap.size w w') {a : Addr} {u : Value} (hc : w.cell? a = some u) : w'.cell? a = some u := (h.cell (World.block_lt_of_cell? w a hc)).trans hc
theorem bcell {W w1 : World} (hb : Below W.heap.size W w1) : (∀ b o, b < W.heap.size → w1.cell? ⟨b, o, none⟩ = W.cell? ⟨b, o, none⟩) ∧ (∀ b o, b < W.heap.size → w1.frozen? ⟨b, o, none⟩ = W.frozen? ⟨b, o, none⟩) :=
  ⟨fun b o h => hb.cell (p := ⟨b, o, none⟩) h, fun b o h => hb.frozen (p := ⟨b, o, none⟩) h⟩
/-- A block that is known whole, and may be written. -/
def Blk (w : World) (g : Nat) (t : TypeId) (cs : Array Value) : Prop := w.heap[g]? = some (.cells cs t (0, 0))
section
variable {w w' : World} {g : Nat} {t : TypeId} {cs : Array Value}
theorem Blk.lt (h : Blk w g t cs) : g < w.heap.size := (Array.getElem?_eq_some_iff.1 h).1
theorem Blk.cell (h : Blk w g t cs) (i : Nat) : w.cell? ⟨g, i, none⟩ = cs[i]? := cell_of_row w g i cs t (0, 0) h
theorem Blk.frozen (h : Blk w g t cs) (i : Nat) : w.frozen? ⟨g, i, none⟩ = false := frozen_of_row w g i cs t h
theorem Blk.new (w : World) (t : TypeId) (cs : Array Value) : Blk (w.alloc (.cells cs t)) w.heap.size t cs := heap_alloc_new w _
theorem Blk.drew (h : Blk w g t cs) : Blk w.drew g t cs := h
theorem Blk.alloc (h : Blk w g t cs) (o : Obj) : Blk (w.alloc o) g t cs := (Below.heap_alloc w o g h.lt).trans h
theorem Blk.set_ (h : Blk w g t cs) (i : Nat) (u : Value) : Blk (w.setCell ⟨g, i, none⟩ u) g t (cs.setIfInBounds i u) := by
  unfold Blk at h ⊢
  simp [World.setCell, Array.getElem?_modify, h]
theorem Blk.far (h : Blk w g t cs) {p : Addr} (hp : g ≠ p.block) (u : Value) : Blk (w.setCell p u) g t cs := (Below.heap_setCell w p u g hp).trans h
theorem Blk.below (h : Blk w g t cs) (hb : Below w.heap.size w w') : Blk w' g t cs := (hb.block g h.lt).trans h
theorem Blk.keep {M M' : Ms} (h : Blk w g t cs) (hk : Keep w M w' M') (hm : ¬ M g) : Blk w' g t cs := (hk g h.lt hm).2.trans h
theorem Blk.grown {row : Option Nat} (h : Blk w g t cs) (hb : w.grownBy w' row) (hg : some g ≠ row) : Blk w' g t cs := (hb.block g h.lt hg).trans h
theorem Blk.ne_ {g' : Nat} {t' : TypeId} {cs' : Array Value} (h : Blk w g t cs) (h' : Blk w g' t' cs') (hne : t ≠ t') : g ≠ g' := by
  rintro rfl
  unfold Blk at h h'
  rw [h] at h'
  injection h' with h'
  injection h' with _ ht
  exact hne ht
/-- What a walk asks of such a block: its cells, that none is frozen, that it is there. -/
theorem Blk.all (h : Blk w g t cs) : (∀ i, w.cell? ⟨g, i, none⟩ = cs[i]?) ∧ (∀ i, w.frozen? ⟨g, i, none⟩ = false) ∧ g < w.heap.size := ⟨h.cell, h.frozen, h.lt⟩
end
/-- A row of the call's own and a block of another type are two. -/
theorem OwR.ne_ {α : Type} [Rp α] {w : World} {M : Ms} {base : Nat} {e t : TypeId} {v : Value} {l : List α} {g : Nat} {cs : Array Value} (h : OwR w M base e v l) (hg : Blk w g t cs) (hne : e ≠ t) : v.ownBlock ≠ some g := by
  obtain ⟨xs, ho, _⟩ := h
  rcases ho.2 with ⟨rfl, _⟩ | ⟨g', cap, cur, rfl, _, hh, _⟩
  · simp [Value.ownBlock]
  · intro he
    have : g' = g := by simpa [Value.ownBlock] using he
    subst this
    exact Blk.ne_ (t := e) hh hg hne rfl
theorem OwR.own_ge {α : Type} [Rp α] {w : World} {M : Ms} {base : Nat} {e : TypeId} {v : Value} {l : List α} {g : Nat} (h : OwR w M base e v l) (hg : v.ownBlock = some g) : base ≤ g := by
  obtain ⟨xs, ho, _⟩ := h
  exact (ho.lt g hg).1
theorem OwR.own_lt {α : Type} [Rp α] {w : World} {M : Ms} {base : Nat} {e : TypeId} {v : Value} {l : List α} {g : Nat} (h : OwR w M base e v l) (hg : v.ownBlock = some g) : g < w.heap.size := by
  obtain ⟨xs, ho, _⟩ := h
  exact (ho.lt g hg).2
theorem OwR.mono_base {α : Type} [Rp α] {w : World} {M : Ms} {base base' : Nat} {e : TypeId} {v : Value} {l : List α} (h : OwR w M base e v l) (hb : base' ≤ base) : OwR w M base' e v l := by
  obtain ⟨xs, ⟨h1, h2⟩, he⟩ := h
  refine ⟨xs, ⟨h1, h2.imp id ?_⟩, he⟩
  rintro ⟨g, cap, cur, hv, hg, r⟩
  exact ⟨g, cap, cur, hv, by omega, r⟩
theorem OwR.drew {α : Type} [Rp α] {w : World} {M : Ms} {base : Nat} {e : TypeId} {v : Value} {l : List α} (h : OwR w M base e v l) : OwR w.drew M base e v l := h.below ⟨rfl, rfl, rfl, Nat.le_refl _, fun _ _ => rfl⟩
/-- A store elsewhere. -/
theorem OwR.setCell {α : Type} [Rp α] {w : World} {M : Ms} {base : Nat} {e : TypeId} {v : Value} {l : List α} (h : OwR w M base e v l) {p : Addr} (hp : v.ownBlock ≠ some p.block) (hM : M p.block) (u : Value) : OwR (w.setCell p u) M base e v l :=
  h.kept (row := some p.block) ⟨rfl, rfl, rfl, by simp, fun k hk hne => Below.heap_setCell _ _ _ _ (fun e => hne (by rw [e]))⟩ (.inr hp) (fun b e => by cases e; exact hM)
/-- M, and the block g besides. -/
def Ms.and (M : Ms) (g : Nat) : Ms := fun b => M b ∨ b = g
theorem Keep.boxed {w w' : World} {M : Ms} (h : Below w.heap.size w w') {g : Nat} (hg : w.heap.size ≤ g) : Keep w M w' (Ms.and M g) := fun b hb hm => ⟨fun h' => h'.elim hm (by omega), h.block b hb⟩
theorem MOk.boxed {w w' : World} {M : Ms} (h : MOk w M) (hz : w.heap.size ≤ w'.heap.size) {g : Nat} (hg : g < w'.heap.size) : MOk w' (Ms.and M g) := fun b hb => hb.elim (fun h' => Nat.lt_of_lt_of_le (h b h') hz) (fun e => by omega)
theorem MOk.below {w w' : World} {M : Ms} (h : MOk w M) (hz : w.heap.size ≤ w'.heap.size) : MOk w' M := fun b hb => Nat.lt_of_lt_of_le (h b hb) hz
theorem Keep.less {w : World} {M M' : Ms} (h : ∀ b, M' b → M b) : Keep w M w M' := fun b _ hm => ⟨fun h' => hm (h b h'), rfl⟩
theorem OwR.less {α : Type} [Rp α] {w : World} {M M' : Ms} {base : Nat} {e : TypeId} {v : Value} {l : List α} (h : OwR w M base e v l) (hm : ∀ b, M' b → M b) : OwR w M' base e v l := by
  obtain ⟨xs, ho, he⟩ := h
  exact ⟨xs, ho, he.mono fun cs x _ => Rp.mono (Keep.less fun b hb => hb.imp (hm b) id)⟩
/-- M, and all that is new from block number n on. -/
def Ms.new (M : Ms) (n : Nat) : Ms := fun b => M b ∨ n ≤ b
theorem Keep.fresh {w w' : World} {M : Ms} (h : Below w.heap.size w w') : Keep w M w' (Ms.new M w.heap.size) := fun b hb hm => ⟨fun h' => h'.elim hm (by omega), h.block b hb⟩
/-- A slice of one element that was just built. -/
theorem SlR.one {α : Type} [Rp α] {w : World} {M : Ms} {g : Nat} {t : TypeId} {cs : List Value} {x : α} (hb : Blk w g t cs.toArray) (he : Rp.E w M cs x) (hm : ¬ M g) : SlR w M (.slice (some ⟨g, 0, none⟩) 1 1) [x] :=
  ⟨_, 1, cs, rfl, Nat.le_refl _, by simp [maxLen], Elems.one (Rp.len he) he, fun _ => ⟨g, 0, rfl, hm, fun j u hu => by rw [Nat.zero_add, hb.cell]; simpa using hu⟩⟩
/-- An element of an owned row: where its cells lie. -/
theorem OwR.at_ {α : Type} [Rp α] {w : World} {M : Ms} {base : Nat} {e : TypeId} {v : Value} {l : List α} {k : Nat} (h : OwR w M base e v l) (hk : k < l.length) :
    ∃ g c cs, v = .slice (some ⟨g, 0, none⟩) l.length c ∧ base ≤ g ∧ l.length ≤ c ∧ (∀ i, w.frozen? ⟨g, i, none⟩ = false) ∧ Rp.E w (fun b => M b ∨ v.ownBlock = some b) cs l[k] ∧ ∀ j u, cs[j]? = some u → w.cell? ⟨g, k * Rp.sz α + j, none⟩ = some u := by
  obtain ⟨xs, ho, he⟩ := h
  rcases ho.2 with ⟨rfl, hn⟩ | ⟨g, cap, cur, rfl, hb, hg, hnc, hcm, hcs, ht⟩
  · omega
  · obtain ⟨cs, hcl, hce, hj⟩ := he.get (List.getElem?_eq_getElem hk)
    refine ⟨g, cap, cs, rfl, hb, hnc, fun i => frozen_of_row w g i cur e hg, hce, fun j u hu => ?_⟩
    have hlt : j < Rp.sz α := by rw [← hcl]; exact (List.getElem?_eq_some_iff.1 hu).1
    have := ho.cells (g := g) rfl _ u ((hj j hlt).trans hu)
    rwa [Addr.add_lit, Nat.zero_add] at this
theorem below_drew (w : World) : Below w.heap.size w w.drew := (Below.refl _ _).drew
theorem Keep.ownNew {w : World} {M : Ms} {o : Obj} {n c : Nat} : Keep w M (w.alloc o) (fun b => M b ∨ (Value.slice (some ⟨w.heap.size, 0, none⟩) n c).ownBlock = some b) := fun b hb h =>
  ⟨fun h' => h'.elim h (by simp [Value.ownBlock]; omega), Below.heap_alloc w o b hb⟩
end Go.Proofs.Ytpknhpfbinplgaa
