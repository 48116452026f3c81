/-
Locks in memory of the call's own: the row, and each lock's readers in a row of its own.
-/
import Derived.Test.YtombdkdidnoomaaLAt
import Derived.Test.YtombdkdidnoomaaLTwin
namespace Go.Proofs.Ytombdkdidnoomaa
open Go.RowKit

def cellsL : List Lk → List Value → List Value
  | x :: l, r :: vs => .int .i64 x.lba :: r :: .int .i64 x.writer :: cellsL l vs
  | _, _ => []
theorem cl_len : ∀ {l : List Lk} {vs : List Value}, vs.length = l.length → (cellsL l vs).length = l.length * 3
  | [], [], _ => rfl
  | x :: l, r :: vs, h => by
    have := cl_len (l := l) (vs := vs) (by simpa using h)
    simp only [cellsL, List.length_cons, this]; omega
  | [], _ :: _, h => by simp at h
  | _ :: _, [], h => by simp at h
theorem cl_get : ∀ {l : List Lk} {vs : List Value} {j : Nat} {x : Lk} {r : Value}, l[j]? = some x → vs[j]? = some r → (cellsL l vs)[j * 3]? = some (.int .i64 x.lba) ∧ (cellsL l vs)[j * 3 + 1]? = some r ∧ (cellsL l vs)[j * 3 + 2]? = some (.int .i64 x.writer)
  | x :: l, r :: vs, 0, _, _, h1, h2 => by simp at h1 h2; subst h1 h2; exact ⟨rfl, rfl, rfl⟩
  | x :: l, r :: vs, j + 1, _, _, h1, h2 => by
    have := cl_get (l := l) (vs := vs) (j := j) (by simpa using h1) (by simpa using h2)
    simp only [cellsL, Nat.add_mul]
    exact this
  | [], _, _, _, _, h1, _ => by simp at h1
  | _ :: _, [], _, _, _, _, h2 => by simp at h2
theorem cl_setR : ∀ {l : List Lk} {vs : List Value} {j : Nat} (r : Value), (cellsL l vs).set (j * 3 + 1) r = cellsL l (vs.set j r)
  | x :: l, s :: vs, 0, r => rfl
  | x :: l, s :: vs, j + 1, r => by
    have := cl_setR (l := l) (vs := vs) (j := j) r
    simp only [cellsL, Nat.add_mul, List.set_cons_succ, ← this]
  | [], _, _, _ => by simp [cellsL]
  | _ :: _, [], _, _ => by simp [cellsL]
theorem cl_setW : ∀ {l : List Lk} {vs : List Value} {j : Nat} {x : Lk} (n : Int), l[j]? = some x → (cellsL l vs).set (j * 3 + 2) (.int .i64 n) = cellsL (l.set j { x with writer := n }) vs
  | x :: l, s :: vs, 0, _, n, h => by simp at h; subst h; rfl
  | x :: l, s :: vs, j + 1, _, n, h => by
    have := cl_setW (l := l) (vs := vs) (j := j) n (by simpa using h)
    simp only [cellsL, Nat.add_mul, List.set_cons_succ, ← this]
  | [], _, _, _, _, h => by simp at h
  | _ :: l, [], 0, _, _, _ => by simp [cellsL]
  | _ :: l, [], j + 1, _, _, _ => by simp [cellsL]
theorem cl_reads : ∀ {l : List Lk} {vs : List Value} {j : Nat} {x : Lk} (m : List Int), l[j]? = some x → cellsL (l.set j { x with reads := m }) vs = cellsL l vs
  | x :: l, [], 0, _, _, _ => rfl
  | x :: l, [], j + 1, _, _, _ => rfl
  | x :: l, s :: vs, 0, _, m, h => by simp at h; subst h; rfl
  | x :: l, s :: vs, j + 1, _, m, h => by
    have := cl_reads (l := l) (vs := vs) (j := j) m (by simpa using h)
    simp only [cellsL, List.set_cons_succ, this]
  | [], _, _, _, _, h => by simp at h
theorem cl_append : ∀ {l m : List Lk} {vs us : List Value}, vs.length = l.length → cellsL (l ++ m) (vs ++ us) = cellsL l vs ++ cellsL m us
  | [], _, [], _, _ => rfl
  | x :: l, m, r :: vs, us, h => by
    have := cl_append (l := l) (m := m) (vs := vs) (us := us) (by simpa using h)
    simp only [cellsL, List.cons_append, this]
  | [], _, _ :: _, _, h => by simp at h
  | _ :: _, _, [], _, h => by simp at h
theorem cl_take : ∀ {l : List Lk} {vs : List Value} (i : Nat), (cellsL l vs).take (i * 3) = cellsL (l.take i) (vs.take i)
  | x :: l, r :: vs, 0 => by simp [cellsL]
  | x :: l, r :: vs, i + 1 => by
    have := cl_take (l := l) (vs := vs) i
    simp only [cellsL, Nat.add_mul, List.take_succ_cons, ← this]
  | [], _, i => by simp [cellsL]
  | _ :: _, [], 0 => by simp [cellsL]
  | _ :: _, [], i + 1 => by simp [cellsL]
theorem cl_drop : ∀ {l : List Lk} {vs : List Value} (i : Nat), (cellsL l vs).drop (i * 3) = cellsL (l.drop i) (vs.drop i)
  | x :: l, r :: vs, 0 => by simp [cellsL]
  | x :: l, r :: vs, i + 1 => by
    have := cl_drop (l := l) (vs := vs) i
    simp only [cellsL, Nat.add_mul, List.drop_succ_cons, ← this]
  | [], _, i => by simp [cellsL]
  | _ :: _, [], 0 => by simp [cellsL]
  | _ :: _, [], i + 1 => by
    simp only [cellsL, List.drop_nil, List.drop_succ_cons]
    cases (List.drop i _ : List Lk) <;> rfl
theorem cl_one : ∀ {l : List Lk} {vs : List Value}, (∀ r ∈ vs, r.oneCell' = true) → ∀ u ∈ cellsL l vs, u.oneCell' = true
  | x :: l, r :: vs, h, u, hu => by
    simp only [cellsL, List.mem_cons] at hu
    rcases hu with rfl | rfl | rfl | hu
    · rfl
    · exact h _ (by simp)
    · rfl
    · exact cl_one (l := l) (vs := vs) (fun r hr => h r (by simp [hr])) u hu
  | [], _, _, _, hu => by simp [cellsL] at hu
  | _ :: _, [], _, _, hu => by simp [cellsL] at hu
theorem cl_elems {w : World} {M : Ms} : ∀ {l : List Lk} {vs : List Value}, vs.length = l.length → (∀ (j : Nat) (x : Lk) (r : Value), l[j]? = some x → vs[j]? = some r → SlR w M r x.reads) → Elems 3 (Rp.E w M) (cellsL l vs) l
  | [], [], _, _ => rfl
  | x :: l, r :: vs, h, hs => ⟨[.int .i64 x.lba, r, .int .i64 x.writer], cellsL l vs, rfl, rfl, (show Rp.E w M [.int .i64 x.lba, r, .int .i64 x.writer] x from ⟨r, rfl, hs 0 x r rfl rfl⟩), cl_elems (by simpa using h) fun j y s hy hs' => hs (j + 1) y s (by simpa using hy) (by simpa using hs')⟩
  | [], _ :: _, h, _ => by simp at h
  | _ :: _, [], h, _ => by simp at h
theorem cl_of {w : World} {M : Ms} : ∀ {l : List Lk} {xs : List Value}, Elems 3 (Rp.E w M) xs l → ∃ vs, vs.length = l.length ∧ xs = cellsL l vs ∧ ∀ (j : Nat) (x : Lk) (r : Value), l[j]? = some x → vs[j]? = some r → SlR w M r x.reads
  | [], _, h => ⟨[], rfl, h, fun j x r h => by simp at h⟩
  | x :: l, _, ⟨cs, ys, rfl, _, he, hy⟩ => by
    obtain ⟨r, rfl, hr⟩ := he
    obtain ⟨vs, h1, rfl, h3⟩ := cl_of hy
    refine ⟨r :: vs, by simp [h1], rfl, fun j y s h4 h5 => ?_⟩
    cases j with
    | zero => simp at h4 h5; subst h4 h5; exact hr
    | succ j => exact h3 j y s (by simpa using h4) (by simpa using h5)

/-- One cell of a row of the call's own is stored anew. -/
theorem ownsRow_set {w : World} {base sz n c g p : Nat} {e : TypeId} {xs : List Value} (h : w.ownsRow base e sz (.slice (some ⟨g, 0, none⟩) n c) n xs) (u : Value) :
    (w.setCell ⟨g, p, none⟩ u).ownsRow base e sz (.slice (some ⟨g, 0, none⟩) n c) n (xs.set p u) := by
  refine ⟨by rw [List.length_set]; exact h.1, ?_⟩
  rcases h.2 with ⟨h', _⟩ | ⟨g', c', cur, h', hb, hg, hnc, hcm, hcs, ht⟩
  · cases h'
  · cases h'
    refine .inr ⟨g, c, cur.setIfInBounds p u, rfl, hb, Blk.set_ (w := w) (g := g) (t := e) (cs := cur) hg p u, hnc, hcm, by simpa using hcs, ?_⟩
    rw [← ht, Array.toList_setIfInBounds, List.take_set]
theorem ownsRow_base {w : World} {base base' sz n : Nat} {e : TypeId} {v : Value} {xs : List Value} (h : w.ownsRow base e sz v n xs) (hb : base' ≤ base) : w.ownsRow base' e sz v n xs :=
  ⟨h.1, h.2.imp id fun ⟨g, c, cur, h1, h2, r⟩ => ⟨g, c, cur, h1, Nat.le_trans hb h2, r⟩⟩

/-- A row of the call's own read as a slice, if what may be written is not it. -/
theorem OwR.sl' {α : Type} [Rp α] {w : World} {M : Ms} {base : Nat} {e : TypeId} {v : Value} {l : List α} (h : OwR w M base e v l) (hM : ∀ b, v.ownBlock = some b → ¬ M b) : SlR w M v l := by
  obtain ⟨xs, ho, he⟩ := h
  have he' : Elems (Rp.sz α) (Rp.E w M) xs l := he.mono fun cs x _ => Rp.mono fun b _ hb => ⟨fun hm => hb (.inl hm), rfl⟩
  rcases ho.2 with ⟨rfl, hn⟩ | ⟨g, cap, cur, rfl, hb, hg, hnc, hcm, hcs, ht⟩
  · have : l = [] := List.eq_nil_of_length_eq_zero hn
    subst this
    exact ⟨none, 0, xs, rfl, by simp, by simp [maxLen], he', fun h => absurd rfl h⟩
  · refine ⟨_, cap, xs, rfl, hnc, hcm, he', fun _ => ⟨g, 0, rfl, hM g rfl, fun j u hu => ?_⟩⟩
    have := ho.cells (g := g) rfl j u hu
    rwa [Addr.add_lit] at this

/-- The row of locks; of the first k the readers lie in rows of their own, no two in one; those of the others are read as they are. -/
def DL (w : World) (M : Ms) (base : Nat) (v : Value) (l : List Lk) (k : Nat) (vs : List Value) : Prop :=
  vs.length = l.length ∧ w.ownsRow base 39 3 v l.length (cellsL l vs) ∧
  (∀ (j : Nat) (x : Lk) (r : Value), l[j]? = some x → vs[j]? = some r → (j < k → OwR w noM base 3 r x.reads) ∧ (k ≤ j → SlR w M r x.reads)) ∧
  (∀ (i j : Nat) (r s : Value) (b : Nat), i < k → j < k → i ≠ j → vs[i]? = some r → vs[j]? = some s → r.ownBlock = some b → s.ownBlock ≠ some b)
/-- All readers lie in rows of their own. -/
def DeepL (w : World) (base : Nat) (v : Value) (l : List Lk) : Prop := ∃ vs, DL w (fun _ => True) base v l l.length vs

theorem DL.row_ne {w : World} {M : Ms} {base k j b : Nat} {v r : Value} {l : List Lk} {vs : List Value} (h : DL w M base v l k vs) (hj : j < k) (hv : vs[j]? = some r) (hr : r.ownBlock = some b) : v.ownBlock ≠ some b := by
  obtain ⟨hl, hrow, hel, _⟩ := h
  have hjl : j < l.length := by rw [← hl]; exact (List.getElem?_eq_some_iff.1 hv).1
  obtain ⟨xs, ho, _⟩ := (hel j l[j] r (List.getElem?_eq_getElem hjl) hv).1 hj
  intro e
  rcases ho.2 with ⟨rfl, _⟩ | ⟨g, _, cur, rfl, _, hg, _⟩
  · simp [Value.ownBlock] at hr
  · have e1 : g = b := by simpa [Value.ownBlock] using hr
    subst e1
    rcases hrow.2 with ⟨rfl, _⟩ | ⟨g', _, cur', rfl, _, hg', _⟩
    · simp [Value.ownBlock] at e
    · have e2 : g' = g := by simpa [Value.ownBlock] using e
      subst e2
      rw [hg] at hg'
      injection hg' with hg'
      injection hg' with _ ht
      exact absurd ht (by decide)

/-- The row alone has grown or turned. -/
theorem DL.form {w : World} {M : Ms} {base k : Nat} {v : Value} {l : List Lk} {vs : List Value} (h : DL w M base v l k vs) : ∃ A c, v = .slice A l.length c := by
  rcases h.2.1.2 with ⟨rfl, hn⟩ | ⟨g, cap, cur, rfl, _⟩
  · exact ⟨none, 0, by rw [hn]⟩
  · exact ⟨_, _, rfl⟩
theorem DeepL.form {w : World} {base : Nat} {v : Value} {l : List Lk} (h : DeepL w base v l) : ∃ A c, v = .slice A l.length c := let ⟨_, h⟩ := h; h.form
theorem DL.sl {w : World} {M : Ms} {base : Nat} {v : Value} {l : List Lk} {vs : List Value} (h : DL w M base v l l.length vs) {M' : Ms} (hM : ∀ b, base ≤ b → ¬ M' b) : SlR w M' v l := by
  obtain ⟨hl, hrow, hel, _⟩ := h
  have : OwR w M' base 39 v l := by
    refine ⟨cellsL l vs, hrow, cl_elems hl fun j x r hx hr => ?_⟩
    have hj : j < l.length := (List.getElem?_eq_some_iff.1 hx).1
    have ho := (hel j x r hx hr).1 hj
    obtain ⟨xs, h1, h2⟩ := id ho
    rcases h1.2 with ⟨rfl, hn⟩ | ⟨g, cap, cur, rfl, hb, hg, hnc, hcm, hcs, ht⟩
    · have e : x.reads = [] := List.eq_nil_of_length_eq_zero hn
      rw [e]
      exact sl_nil _ _ _ (by simp [maxLen])
    · have hne := DL.row_ne ⟨hl, hrow, hel, ‹_›⟩ hj hr (show Value.ownBlock _ = some g from rfl)
      refine (OwR.ints (M' := fun b => M' b ∨ v.ownBlock = some b) ⟨xs, h1, h2⟩).sl' fun b hb' hbb => ?_
      obtain rfl : b = g := by simpa [Value.ownBlock] using hb'.symm
      exact hbb.elim (hM _ hb) (fun e => hne e)
  exact this.sl hM
theorem DeepL.sl {w : World} {M : Ms} {base : Nat} {v : Value} {l : List Lk} (h : DeepL w base v l) (hM : ∀ b, base ≤ b → ¬ M b) : SlR w M v l := let ⟨_, h⟩ := h; h.sl hM
end Go.Proofs.Ytombdkdidnoomaa
