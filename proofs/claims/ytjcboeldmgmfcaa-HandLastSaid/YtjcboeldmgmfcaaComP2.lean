/-
Several texts in one.
-/
import Derived.Test.YtjcboeldmgmfcaaComP1
import Derived.Lib.Overlaps
import Derived.Lib.AppendZerosOnto
import Derived.Laws.Externs
import Derived.Test.YtjcboeldmgmfcaaProg

/-
Calls that write own memory of their caller's: contracts by their own numbering of blocks, and how a caller takes them.
-/
section
namespace Go.Proofs.Ytjcboeldmgmfcaa.A
open Go.RowKit

mutual
def AV.ren (f : Nat → Nat) : AV → AV
  | .ow k n => .ow (f k) n
  | .bp k o => .bp (f k) o
  | .ep k n i sz off => .ep (f k) n i sz off
  | .ag l => .ag (AV.renL f l)
  | .tp l => .tp (AV.renL f l)
  | .fn p l => .fn p (AV.renL f l)
  | .top => .top
  | .v x => .v x
  | .sl sz n get => .sl sz n get
  | .rp cs => .rp cs
def AV.renL (f : Nat → Nat) : List AV → List AV
  | [] => []
  | x :: l => x.ren f :: AV.renL f l
end
/-- A bound of the new numbers. -/
def rbd (f : Nat → Nat) : Nat → Nat
  | 0 => 0
  | n + 1 => max (rbd f n) (f n + 1)
theorem rbd_lt {f : Nat → Nat} : ∀ {n k : Nat}, k < n → f k < rbd f n
  | n + 1, k, h => by
    simp only [rbd]
    by_cases e : k = n
    · subst e; omega
    · have := rbd_lt (f := f) (n := n) (k := k) (by omega); omega
mutual
theorem AV.ren_lt {f : Nat → Nat} {m : Nat} : ∀ (x : AV), x.lt m = true → (x.ren f).lt (rbd f m) = true
  | .top, _ => rfl
  | .v _, _ => rfl
  | .sl _ _ _, _ => rfl
  | .rp _, _ => rfl
  | .bp k _, h => by simp only [AV.ren, AV.lt, Nat.blt_eq] at h ⊢; exact rbd_lt h
  | .ow k _, h => by simp only [AV.ren, AV.lt, Nat.blt_eq] at h ⊢; exact rbd_lt h
  | .ep k _ _ _ _, h => by simp only [AV.ren, AV.lt, Nat.blt_eq] at h ⊢; exact rbd_lt h
  | .ag cs, h => by simp only [AV.ren, AV.lt] at h ⊢; exact AV.renL_lt cs h
  | .tp cs, h => by simp only [AV.ren, AV.lt] at h ⊢; exact AV.renL_lt cs h
  | .fn _ cs, h => by simp only [AV.ren, AV.lt] at h ⊢; exact AV.renL_lt cs h
theorem AV.renL_lt {f : Nat → Nat} {m : Nat} : ∀ (l : List AV), AV.ltL l m = true → AV.ltL (AV.renL f l) (rbd f m) = true
  | [], _ => rfl
  | x :: l, h => by
    simp only [AV.renL, AV.ltL, Bool.and_eq_true] at h ⊢
    exact ⟨AV.ren_lt x h.1, AV.renL_lt l h.2⟩
end
theorem AV.renL_app (f : Nat → Nat) : ∀ (a b : List AV), AV.renL f (a ++ b) = AV.renL f a ++ AV.renL f b
  | [], _ => rfl
  | x :: a, b => by simp [AV.renL, AV.renL_app f a b]
theorem AV.renL_flat (f : Nat → Nat) : ∀ (l : List (List AV)), (l.map (AV.renL f)).flatten = AV.renL f l.flatten
  | [] => rfl
  | x :: l => by simp only [List.map_cons, List.flatten_cons, AV.renL_app, AV.renL_flat f l]
theorem AV.renL_len (f : Nat → Nat) : ∀ (l : List AV), (AV.renL f l).length = l.length
  | [] => rfl
  | x :: l => by simp [AV.renL, AV.renL_len f l]
def AB.ren (f : Nat → Nat) : AB → AB
  | .box t cs => .box t (AV.renL f cs)
  | .row t sz es => .row t sz es
  | .iter s pos => .iter s pos
  | .dead => .dead
  | .rowo t sz es m => .rowo t sz (es.map (AV.renL f)) (rbd f m)
theorem AB.ren_live (f : Nat → Nat) (x : AB) : (x.ren f).live = x.live := by cases x <;> rfl

mutual
theorem Rd.ren {f : Nat → Nat} {c c' : Ctx} (hf : ∀ k, k < c.dom → f k < c'.dom ∧ c'.rho (f k) = c.rho k ∧ c'.len (f k) = c.len k) (e : Ext c.closed c'.closed) : ∀ (x : AV) {u : Value}, Rd x c u → Rd (x.ren f) c' u
  | .top, _, _ => by simp [AV.ren, Rd]
  | .v _, _, h => by simpa [AV.ren, Rd] using h
  | .sl sz n get, u, h => by
    simp only [AV.ren, Rd] at h ⊢
    obtain ⟨a, k, rfl, h1, h2, h3⟩ := h
    refine ⟨a, k, rfl, h1, h2, h3.imp id ?_⟩
    rintro ⟨b, off, rfl, hm, hb, hc⟩
    exact ⟨b, off, rfl, (e.keep b hb hm).1, Nat.lt_of_lt_of_le hb e.size, fun i hi => ⟨(hc i hi).1, RdAt.ext (get i) e hb hm (hc i hi).2⟩⟩
  | .rp cs, u, h => by
    simp only [AV.ren, Rd] at h ⊢
    obtain ⟨b, off, rfl, hm, hb, hc⟩ := h
    exact ⟨b, off, rfl, (e.keep b hb hm).1, Nat.lt_of_lt_of_le hb e.size, RdAt.ext cs e hb hm hc⟩
  | .bp k off, u, h => by
    simp only [AV.ren, Rd] at h ⊢
    obtain ⟨h1, g, h2, h3⟩ := h
    obtain ⟨q1, q2, q3⟩ := hf k h1
    exact ⟨q1, g, by rw [q2]; exact h2, h3⟩
  | .ow k n, u, h => by
    simp only [AV.ren, Rd] at h ⊢
    obtain ⟨h1, h2, h3, h4⟩ := h
    obtain ⟨q1, q2, q3⟩ := hf k h1
    rw [q2, q3]
    exact ⟨q1, h2, h3, h4⟩
  | .ep k n i sz off, u, h => by
    simp only [AV.ren, Rd] at h ⊢
    obtain ⟨h1, h2, h3⟩ := h
    obtain ⟨q1, q2, q3⟩ := hf k h1
    rw [q2, q3]
    exact ⟨q1, h2, h3⟩
  | .ag l, u, h => by
    simp only [AV.ren, Rd] at h ⊢
    obtain ⟨xs, rfl, h1⟩ := h
    exact ⟨xs, rfl, RdL.ren hf e l h1⟩
  | .tp l, u, h => by
    simp only [AV.ren, Rd] at h ⊢
    obtain ⟨xs, rfl, h1⟩ := h
    exact ⟨xs, rfl, RdL.ren hf e l h1⟩
  | .fn p l, u, h => by
    simp only [AV.ren, Rd] at h ⊢
    obtain ⟨xs, rfl, h1⟩ := h
    exact ⟨xs, rfl, RdL.ren hf e l h1⟩
theorem RdL.ren {f : Nat → Nat} {c c' : Ctx} (hf : ∀ k, k < c.dom → f k < c'.dom ∧ c'.rho (f k) = c.rho k ∧ c'.len (f k) = c.len k) (e : Ext c.closed c'.closed) : ∀ (l : List AV) {us : List Value}, RdL l c us → RdL (AV.renL f l) c' us
  | [], _, h => by simp only [AV.renL, RdL] at h ⊢; exact h
  | x :: l, us, h => by
    simp only [AV.renL, RdL] at h ⊢
    obtain ⟨u, us, rfl, h1, h2⟩ := h
    exact ⟨u, us, rfl, Rd.ren hf e x h1, RdL.ren hf e l h2⟩
end
mutual
theorem Rd.unren {f : Nat → Nat} {c c' : Ctx} (hf : ∀ k, k < c'.dom → c'.rho k = c.rho (f k) ∧ c'.len k = c.len (f k)) (e : Ext c.closed c'.closed) : ∀ (x : AV) {u : Value}, x.lt c'.dom = true → Rd (x.ren f) c u → Rd x c' u
  | .top, _, _, _ => by simp [Rd]
  | .v _, _, _, h => by simpa [AV.ren, Rd] using h
  | .sl sz n get, u, _, h => by
    simp only [AV.ren, Rd] at h ⊢
    obtain ⟨a, k, rfl, h1, h2, h3⟩ := h
    refine ⟨a, k, rfl, h1, h2, h3.imp id ?_⟩
    rintro ⟨b, off, rfl, hm, hb, hc⟩
    exact ⟨b, off, rfl, (e.keep b hb hm).1, Nat.lt_of_lt_of_le hb e.size, fun i hi => ⟨(hc i hi).1, RdAt.ext (get i) e hb hm (hc i hi).2⟩⟩
  | .rp cs, u, _, h => by
    simp only [AV.ren, Rd] at h ⊢
    obtain ⟨b, off, rfl, hm, hb, hc⟩ := h
    exact ⟨b, off, rfl, (e.keep b hb hm).1, Nat.lt_of_lt_of_le hb e.size, RdAt.ext cs e hb hm hc⟩
  | .bp k off, u, hl, h => by
    simp only [AV.lt, Nat.blt_eq] at hl
    simp only [AV.ren, Rd] at h ⊢
    obtain ⟨h1, g, h2, h3⟩ := h
    obtain ⟨q2, q3⟩ := hf k hl
    exact ⟨hl, g, by rw [q2]; exact h2, h3⟩
  | .ow k n, u, hl, h => by
    simp only [AV.lt, Nat.blt_eq] at hl
    simp only [AV.ren, Rd] at h ⊢
    obtain ⟨h1, h2, h3, h4⟩ := h
    obtain ⟨q2, q3⟩ := hf k hl
    rw [q2, q3]
    exact ⟨hl, h2, h3, h4⟩
  | .ep k n i sz off, u, hl, h => by
    simp only [AV.lt, Nat.blt_eq] at hl
    simp only [AV.ren, Rd] at h ⊢
    obtain ⟨h1, h2, h3⟩ := h
    obtain ⟨q2, q3⟩ := hf k hl
    rw [q2, q3]
    exact ⟨hl, h2, h3⟩
  | .ag l, u, hl, h => by
    simp only [AV.lt] at hl
    simp only [AV.ren, Rd] at h ⊢
    obtain ⟨xs, rfl, h1⟩ := h
    exact ⟨xs, rfl, RdL.unren hf e l hl h1⟩
  | .tp l, u, hl, h => by
    simp only [AV.lt] at hl
    simp only [AV.ren, Rd] at h ⊢
    obtain ⟨xs, rfl, h1⟩ := h
    exact ⟨xs, rfl, RdL.unren hf e l hl h1⟩
  | .fn p l, u, hl, h => by
    simp only [AV.lt] at hl
    simp only [AV.ren, Rd] at h ⊢
    obtain ⟨xs, rfl, h1⟩ := h
    exact ⟨xs, rfl, RdL.unren hf e l hl h1⟩
theorem RdL.unren {f : Nat → Nat} {c c' : Ctx} (hf : ∀ k, k < c'.dom → c'.rho k = c.rho (f k) ∧ c'.len k = c.len (f k)) (e : Ext c.closed c'.closed) : ∀ (l : List AV) {us : List Value}, AV.ltL l c'.dom = true → RdL (AV.renL f l) c us → RdL l c' us
  | [], _, _, h => by simp only [AV.renL, RdL] at h ⊢; exact h
  | x :: l, us, hl, h => by
    simp only [AV.ltL, Bool.and_eq_true] at hl
    simp only [AV.renL, RdL] at h ⊢
    obtain ⟨u, us, rfl, h1, h2⟩ := h
    exact ⟨u, us, rfl, Rd.unren hf e x hl.1 h1, RdL.unren hf e l hl.2 h2⟩
end

/-- Where a block of the callee's numbering stands with the caller. -/
def ixm : List Nat → Nat → Nat → Nat
  | [], d, i => d + i
  | x :: _, _, 0 => x
  | _ :: r, d, i + 1 => ixm r d i
theorem ixm_or : ∀ (s : List Nat) (d i : Nat), (i < s.length ∧ ixm s d i ∈ s) ∨ (s.length ≤ i ∧ ixm s d i = d + (i - s.length))
  | [], d, i => .inr ⟨Nat.zero_le _, by simp [ixm]⟩
  | x :: r, d, 0 => .inl ⟨by simp, by simp [ixm]⟩
  | x :: r, d, i + 1 => by
    rcases ixm_or r d i with ⟨h1, h2⟩ | ⟨h1, h2⟩
    · exact .inl ⟨by simp; omega, by simp only [ixm]; exact List.mem_cons_of_mem _ h2⟩
    · exact .inr ⟨by simp; omega, by simp only [ixm, h2, List.length_cons]; omega⟩
theorem ixm_inj : ∀ {s : List Nat} {d i j : Nat}, s.Nodup → (∀ x ∈ s, x < d) → ixm s d i = ixm s d j → i = j
  | [], d, i, j, _, _, h => by simp only [ixm] at h; omega
  | x :: r, d, 0, 0, _, _, _ => rfl
  | x :: r, d, 0, j + 1, hn, hb, h => by
    simp only [ixm] at h
    have hx := hb x (by simp)
    rcases ixm_or r d j with ⟨_, h2⟩ | ⟨_, h2⟩
    · rw [← h] at h2; exact ((List.nodup_cons.1 hn).1 h2).elim
    · omega
  | x :: r, d, i + 1, 0, hn, hb, h => by
    simp only [ixm] at h
    have hx := hb x (by simp)
    rcases ixm_or r d i with ⟨_, h2⟩ | ⟨_, h2⟩
    · rw [h] at h2; exact ((List.nodup_cons.1 hn).1 h2).elim
    · omega
  | x :: r, d, i + 1, j + 1, hn, hb, h => by
    simp only [ixm] at h
    rw [ixm_inj (List.nodup_cons.1 hn).2 (fun y hy => hb y (List.mem_cons_of_mem _ hy)) h]
def mergeH (f : Nat → Nat) : List Nat → List AB → List AB → List AB
  | [], R, H => H ++ R.map (AB.ren f)
  | x :: s, y :: R, H => mergeH f s R (H.set x (y.ren f))
  | _ :: _, [], H => H
theorem mergeH_len (f : Nat → Nat) : ∀ {s : List Nat} {R H : List AB}, s.length ≤ R.length → (mergeH f s R H).length = H.length + (R.length - s.length)
  | [], R, H, _ => by simp [mergeH]
  | x :: s, y :: R, H, h => by simp only [mergeH]; rw [mergeH_len f (by simpa using h)]; simp
  | _ :: _, [], _, h => by simp at h
theorem mergeH_get (f : Nat → Nat) : ∀ {s : List Nat} {R H : List AB}, s.length ≤ R.length → ∀ {k : Nat} {y : AB}, (mergeH f s R H)[k]? = some y →
    (∃ j x, R[j]? = some x ∧ y = x.ren f ∧ k = ixm s H.length j) ∨ (k < H.length ∧ k ∉ s ∧ H[k]? = some y)
  | [], R, H, _, k, y, h => by
    simp only [mergeH] at h
    by_cases hk : k < H.length
    · rw [List.getElem?_append_left hk] at h
      exact .inr ⟨hk, by simp, h⟩
    · rw [List.getElem?_append_right (by omega), List.getElem?_map] at h
      cases hx : R[k - H.length]? with
      | none => rw [hx] at h; simp at h
      | some x =>
        rw [hx] at h
        simp at h
        exact .inl ⟨k - H.length, x, hx, h.symm, by simp only [ixm]; omega⟩
  | x :: s, y0 :: R, H, hl, k, y, h => by
    simp only [mergeH] at h
    rcases mergeH_get f (by simpa using hl) h with ⟨j, z, h1, h2, h3⟩ | ⟨h1, h2, h3⟩
    · exact .inl ⟨j + 1, z, by simpa using h1, h2, by simpa [ixm] using h3⟩
    · rw [List.length_set] at h1
      by_cases hkx : k = x
      · subst hkx
        rw [List.getElem?_set_self h1] at h3
        cases h3
        exact .inl ⟨0, y0, rfl, rfl, rfl⟩
      · rw [List.getElem?_set_ne (Ne.symm hkx)] at h3
        exact .inr ⟨h1, by simp only [List.mem_cons, not_or]; exact ⟨hkx, h2⟩, h3⟩
  | _ :: _, [], _, hl, _, _, _ => by simp at hl
def putH (f : Nat → Nat) : List Nat → List AB → List AB → (List AB → Prop) → Prop
  | [], R, H, k => appK H (R.map (AB.ren f)) 0 fun _ H => k H
  | x :: s, y :: R, H, k => setK x (y.ren f) H fun H => putH f s R H k
  | _ :: _, [], _, _ => False
theorem putH_iff {f : Nat → Nat} : ∀ {s : List Nat} {R H : List AB} {k : List AB → Prop}, putH f s R H k → s.length ≤ R.length ∧ k (mergeH f s R H)
  | [], R, H, k, h => ⟨Nat.zero_le _, appK_iff (k := fun _ H => k H) h⟩
  | x :: s, y :: R, H, k, h => by
    simp only [putH] at h
    obtain ⟨h1, h2⟩ := putH_iff (setK_iff h)
    exact ⟨by simpa using h1, h2⟩
  | _ :: _, [], _, _, h => h.elim
def cntK : List AB → Nat → (Nat → Prop) → Prop
  | [], n, k => k n
  | _ :: r, n, k => cntK r (n + 1) k
theorem cntK_iff : ∀ {H : List AB} {n : Nat} {k : Nat → Prop}, cntK H n k → k (n + H.length)
  | [], _, _, h => h
  | _ :: r, n, k, h => by
    have := cntK_iff (H := r) h
    rw [List.length_cons, show n + (r.length + 1) = n + 1 + r.length by omega]
    exact this
def SelOk (H : List AB) (f : Nat → Nat) : List AB → Nat → Prop
  | [], _ => True
  | x :: r, i => hget H (f i) = some (x.ren f) ∧ SelOk H f r (i + 1)
theorem SelOk.get {H : List AB} {f : Nat → Nat} : ∀ {R : List AB} {i j : Nat} {x : AB}, SelOk H f R i → R[j]? = some x → H[f (i + j)]? = some (x.ren f)
  | [], _, _, _, _, h => by simp at h
  | y :: r, i, 0, x, h, hx => by
    simp at hx; subst hx
    have := h.1
    rwa [hget_eq] at this
  | y :: r, i, j + 1, x, h, hx => by
    have := SelOk.get (j := j) h.2 (by simpa using hx)
    rwa [show i + 1 + j = i + (j + 1) by omega] at this

open Classical in
/-- The caller's context behind such a call. -/
noncomputable def Ctx.after (c c' : Ctx) (f : Nat → Nat) (n : Nat) : Ctx :=
  { w := c'.w, base := c.base, M := c'.M, dom := n,
    rho := fun k => if h : ∃ i, i < c'.dom ∧ f i = k then c'.rho h.choose else c.rho k,
    len := fun k => if h : ∃ i, i < c'.dom ∧ f i = k then c'.len h.choose else c.len k }
def noO : List AB → Bool
  | [] => true
  | .rowo _ _ _ _ :: _ => false
  | _ :: r => noO r
theorem noO_get : ∀ {H : List AB}, noO H = true → ∀ {k : Nat} {t : TypeId} {sz : Nat} {es : List (List AV)} {m : Nat}, H[k]? = some (.rowo t sz es m) → False
  | [], _, k, _, _, _, _, h => by simp at h
  | x :: r, h, k, t, sz, es, m, hk => by
    cases k with
    | zero => simp at hk; subst hk; simp [noO] at h
    | succ k =>
      simp at hk
      refine noO_get (H := r) ?_ hk
      cases x <;> simp only [noO] at h <;> first | exact h | cases h
theorem ACalls.frame {P : Program} {q : Bool} {f : FuncId} {args : List AV} {H : List AB} {k : AV → List AB → Prop} (s : List Nat) {args' : List AV} {Hin : List AB} {K : AV → List AB → Prop} (h : ACalls P q f args' Hin K)
    (ha : args = AV.renL (ixm s H.length) args') (hlt : AV.ltL args' Hin.length = true) (hin : okH Hin.length Hin = true) (hs : s.length = Hin.length) (hn : s.Nodup) (hb : ∀ x ∈ s, x < H.length) (hsel : SelOk H (ixm s H.length) Hin 0)
    (hk : ∀ r R, K r R → cntK H 0 fun d => putH (ixm s d) s R H fun H => forceK (r.ren (ixm s d)) fun r => k r H) (hnr : noO Hin = true := by rfl) : ACalls P q f args H k := by
  refine ⟨h.go, fun w0 M0 c us hs0 hr => ?_⟩
  let g := ixm s H.length
  have hginj : ∀ {i j : Nat}, g i = g j → i = j := fun e => ixm_inj hn hb e
  have hget0 : ∀ {i : Nat} {x : AB}, Hin[i]? = some x → H[g i]? = some (x.ren g) := fun hx => by have := hsel.get hx; rwa [Nat.zero_add] at this
  have hlow : ∀ {i : Nat}, i < Hin.length → g i ∈ s := fun hi => by
    rcases ixm_or s H.length _ with ⟨_, h2⟩ | ⟨h1, _⟩
    · exact h2
    · omega
  have hhigh : ∀ {i : Nat}, g i < H.length → i < Hin.length := fun {i} hi => by
    rcases ixm_or s H.length i with ⟨h1, _⟩ | ⟨h1, h2⟩
    · omega
    · simp only [g] at hi; omega
  let cl : Ctx := { w := c.w, base := c.base, M := c.M, dom := Hin.length, rho := fun i => c.rho (g i), len := fun i => c.len (g i) }
  let w1 : Fl := ⟨c.w, fun b => b < c.w.heap.size ∧ ∀ i x, Hin[i]? = some x → x.live = true → oB (c.rho (g i)) ≠ some b, fun _ h => h.1, fun w' h1 h2 => w0.gl w' (Nat.le_trans hs0.low.size h1) fun b hb' => (h2 b ⟨Nat.lt_of_lt_of_le (w0.lt b hb') hs0.low.size, fun i x hx hl ho => (hs0.own _ _ _ (hget0 hx) (by rw [AB.ren_live]; exact hl) ho).2 hb'⟩).trans (hs0.low.block b hb'), True⟩
  have hcl : Ext c.closed cl.closed := ⟨rfl, rfl, rfl, Nat.le_refl _, fun _ _ h => ⟨h, rfl⟩, Nat.zero_le _, fun k hk => absurd hk (Nat.not_lt_zero k), fun k hk => absurd hk (Nat.not_lt_zero k), fun k _ hk => absurd hk (Nat.not_lt_zero k)⟩
  have hun : ∀ k, k < cl.dom → cl.rho k = c.rho (g k) ∧ cl.len k = c.len (g k) := fun _ _ => ⟨rfl, rfl⟩
  have hown : ∀ {i : Nat} {x : AB} {b : Nat}, Hin[i]? = some x → x.live = true → oB (c.rho (g i)) = some b → c.M b ∧ ¬ w0.old b := fun hx hl ho => hs0.own _ _ _ (hget0 hx) (by rw [AB.ren_live]; exact hl) ho
  have hHS : HS w1 c.M cl Hin := by
    refine ⟨⟨rfl, rfl, rfl, Nat.le_refl _, fun _ _ => rfl⟩, hs0.base, rfl, fun _ _ => Iff.rfl, hs0.lt, fun i x hx => ?_, fun i x b hx hl ho => ⟨(hown hx hl ho).1, fun hold => hold.2 i x hx hl ho⟩, fun i j x y b hi hj hx hy ho ho' => ?_⟩
    · have hbk := hs0.blk _ _ (hget0 hx)
      cases x with
      | dead => trivial
      | box t cs =>
        obtain ⟨b, xs, h1, h2, h3, h4⟩ := hbk
        exact ⟨b, xs, h1, h2, RdL.unren hun hcl cs (okH_get hin i t cs hx) h3, h4⟩
      | iter s pos =>
        obtain ⟨b, h1, h2⟩ := hbk
        exact ⟨b, h1, h2⟩
      | row t sz es =>
        obtain ⟨h1, h2, h3, xs, h4, h5, h6⟩ := hbk
        exact ⟨h1, h2, h3, xs, h4, RdL.ext _ hcl h5, h6⟩
      | rowo t sz es m =>
        obtain ⟨h1, h2, h3, h3', xs, h4, h5, h6⟩ := hbk
        exact (noO_get hnr hx).elim
    · exact hginj (hs0.dis _ _ _ _ b (hget0 hi) (hget0 hj) (by rw [AB.ren_live]; exact hx) (by rw [AB.ren_live]; exact hy) ho ho')
  refine (h.calls w1 c.M cl us hHS (RdL.unren hun hcl args' hlt (by rw [← ha]; exact hr))).mono ?_
  rintro e w' ⟨v, c', r, R, rfl, rfl, q1, q2, q3, q4, q5⟩
  have h1 := cntK_iff (hk r R q1)
  rw [Nat.zero_add] at h1
  obtain ⟨hlen, h1⟩ := putH_iff h1
  have h1 := forceK_iff h1
  have hdom : c'.dom = R.length := q2.dom
  have hmR : Hin.length ≤ R.length := by omega
  let n := H.length + (R.length - s.length)
  have hgn : ∀ {i : Nat}, i < R.length → g i < n := fun {i} hi => by
    rcases ixm_or s H.length i with ⟨_, h2⟩ | ⟨h2, h3⟩
    · have := hb _ h2; simp only [g, n]; omega
    · simp only [g, n, h3]; omega
  let cj := c.after c' g n
  have hrho : ∀ {i : Nat}, i < c'.dom → cj.rho (g i) = c'.rho i ∧ cj.len (g i) = c'.len i := fun {i} hi => by
    have hex : ∃ j, j < c'.dom ∧ g j = g i := ⟨i, hi, rfl⟩
    have := hginj hex.choose_spec.2
    simp only [cj, Ctx.after]
    rw [dif_pos hex, dif_pos hex, this]
    exact ⟨rfl, rfl⟩
  have hrho2 : ∀ {k : Nat}, k < H.length → k ∉ s → cj.rho k = c.rho k ∧ cj.len k = c.len k := fun {k} hk hks => by
    have hex : ¬ ∃ j, j < c'.dom ∧ g j = k := by
      rintro ⟨j, _, rfl⟩
      exact hks (hlow (hhigh hk))
    simp only [cj, Ctx.after]
    rw [dif_neg hex, dif_neg hex]
    exact ⟨rfl, rfl⟩
  have hmem : ∀ {k : Nat}, k ∈ s → ∃ i, i < Hin.length ∧ g i = k := by
    have : ∀ (s : List Nat) (d k : Nat), k ∈ s → ∃ i, i < s.length ∧ ixm s d i = k := by
      intro s d k hk
      induction s with
      | nil => simp at hk
      | cons x r ih =>
        rcases List.mem_cons.1 hk with rfl | hk
        · exact ⟨0, by simp, rfl⟩
        · obtain ⟨i, h1, h2⟩ := ih hk
          exact ⟨i + 1, by simp; omega, h2⟩
    intro k hk
    obtain ⟨i, h1, h2⟩ := this s H.length k hk
    exact ⟨i, by omega, h2⟩
  have hold : ∀ {b : Nat}, w0.old b → w1.old b := fun {b} hb' => ⟨Nat.lt_of_lt_of_le (w0.lt b hb') hs0.low.size, fun i x hx hl ho => (hown hx hl ho).2 hb'⟩
  have hold2 : ∀ {b : Nat}, b < c.w.heap.size → ¬ c.M b → w1.old b := fun {b} hb' hm => ⟨hb', fun i x hx hl ho => hm (hown hx hl ho).1⟩
  have hold3 : ∀ {k : Nat} {y : AB} {b : Nat}, k ∉ s → H[k]? = some y → y.live = true → oB (c.rho k) = some b → w1.old b := fun {k y b} hks hy hl ho =>
    ⟨hs0.sub hy hl ho, fun i x hx hl' ho' => by
      have := hs0.dis k (g i) y _ b hy (hget0 hx) hl (by rw [AB.ren_live]; exact hl') ho ho'
      exact hks (this ▸ hlow (List.getElem?_eq_some_iff.1 hx).1)⟩
  have hcj : Ext c'.closed cj.closed := ⟨rfl, rfl, rfl, Nat.le_refl _, fun _ _ h => ⟨h, rfl⟩, Nat.zero_le _, fun k hk => absurd hk (Nat.not_lt_zero k), fun k hk => absurd hk (Nat.not_lt_zero k), fun k _ hk => absurd hk (Nat.not_lt_zero k)⟩
  have hren : ∀ k, k < c'.dom → g k < cj.dom ∧ cj.rho (g k) = c'.rho k ∧ cj.len (g k) = c'.len k := fun k hk => ⟨hgn (by omega), hrho hk⟩
  have hE : Ext c cj := by
    refine ⟨q2.low.os, q2.low.tape, q2.low.output, q2.low.size, fun b hb' hm => ?_, ?_, fun k hk => ?_, fun k hk hl => ?_, fun k b hk hg => ?_⟩
    · have ho := hold2 hb' hm
      exact ⟨fun hm' => hm ((q2.foreign b ho).1 hm'), q2.low.block b ho⟩
    · show c.dom ≤ n; rw [hs0.dom]; exact Nat.le_add_right _ _
    · rw [hs0.dom] at hk
      by_cases hks : k ∈ s
      · obtain ⟨i, hi, rfl⟩ := hmem hks
        rw [(hrho (by omega : i < c'.dom)).2]
        exact q3.len i hi
      · rw [(hrho2 hk hks).2]; exact Nat.le_refl _
    · rw [hs0.dom] at hk
      by_cases hks : k ∈ s
      · obtain ⟨i, hi, rfl⟩ := hmem hks
        rw [(hrho (by omega : i < c'.dom)).2] at hl
        rw [(hrho (by omega : i < c'.dom)).1]
        exact q3.rho i hi hl
      · exact (hrho2 hk hks).1
    · rw [hs0.dom] at hk
      by_cases hks : k ∈ s
      · obtain ⟨i, hi, rfl⟩ := hmem hks
        rw [(hrho (by omega : i < c'.dom)).1]
        exact q3.box i b hi hg
      · rw [(hrho2 hk hks).1]; exact hg
  refine ⟨v, cj, r.ren g, _, rfl, rfl, h1, ?_, hE, Rd.ren hren hcj r q4, q5⟩
  have hdj : ∀ {j : Nat} {x : AB}, R[j]? = some x → j < c'.dom := fun hx => by rw [hdom]; exact (List.getElem?_eq_some_iff.1 hx).1
  refine ⟨⟨q2.low.os.trans hs0.low.os, q2.low.tape.trans hs0.low.tape, q2.low.output.trans hs0.low.output, Nat.le_trans hs0.low.size q2.low.size, fun b hb' => (q2.low.block b (hold hb')).trans (hs0.low.block b hb')⟩, hs0.base, (mergeH_len _ hlen).symm, fun b hb' => (q2.foreign b (hold hb')).trans (hs0.foreign b hb'), q2.lt, fun k y hy => ?_, fun k y b hy hl ho => ?_, fun i k y z b hi hk' hy hz hoi hok => ?_⟩
  · rcases mergeH_get _ hlen hy with ⟨j, x, h2, rfl, rfl⟩ | ⟨h2, h3, h4⟩
    · have hbk := q2.blk j x h2
      have hj := hrho (hdj h2)
      cases x with
      | dead => trivial
      | box t cs =>
        obtain ⟨b, xs, h5, h6, h7, h8⟩ := hbk
        exact ⟨b, xs, hj.1.trans h5, h6, RdL.ren hren hcj cs h7, h8⟩
      | iter s pos =>
        obtain ⟨b, h5, h6⟩ := hbk
        exact ⟨b, hj.1.trans h5, h6⟩
      | row t sz es =>
        obtain ⟨h5, h6, h7, xs, h8, h9, h10⟩ := hbk
        refine ⟨hj.2.trans h5, h6, h7, xs, ?_, RdL.ext _ hcj h9, h10⟩
        have eb : cj.base = c'.base := hs0.base.trans q2.base.symm
        show c'.w.ownsRow cj.base t sz (cj.rho (g j)) es.length xs
        rw [hj.1, eb]
        exact h8
      | rowo t sz es m =>
        obtain ⟨h5, h6, h7, h7', xs, h8, h9, h10⟩ := hbk
        refine ⟨by rw [List.length_map]; exact hj.2.trans h5, h6, fun e he => ?_, ?_, xs, ?_, ?_, h10⟩
        · obtain ⟨e0, he0, rfl⟩ := List.mem_map.1 he
          rw [AV.renL_len]; exact h7 e0 he0
        · rw [AV.renL_flat]; exact AV.renL_lt _ h7'
        · have eb : cj.base = c'.base := hs0.base.trans q2.base.symm
          show c'.w.ownsRow cj.base t sz (cj.rho (g j)) (es.map (AV.renL g)).length xs
          rw [hj.1, eb, List.length_map]
          exact h8
        · rw [AV.renL_flat]; exact RdL.ren hren hcj _ h9
    · have hkd : k < c.dom := by rw [hs0.dom]; exact h2
      exact BlkOk.ext hE rfl hkd (hrho2 h2 h3).2 (fun b hl ho => q2.low.block b (hold3 h3 h4 hl ho)) (hs0.blk k y h4)
  · rcases mergeH_get _ hlen hy with ⟨j, x, h2, rfl, rfl⟩ | ⟨h2, h3, h4⟩
    · have ho' : oB (cj.rho (g j)) = some b := ho
      rw [(hrho (hdj h2)).1] at ho'
      have := q2.own j x b h2 (by rw [AB.ren_live] at hl; exact hl) ho'
      exact ⟨this.1, fun hb' => this.2 (hold hb')⟩
    · rw [(hrho2 h2 h3).1] at ho
      have ho2 := hold3 h3 h4 hl ho
      have := hs0.own k y b h4 hl ho
      exact ⟨(q2.foreign b ho2).2 this.1, this.2⟩
  · rcases mergeH_get _ hlen hi with ⟨j, x, h2, rfl, rfl⟩ | ⟨h2, h3, h4⟩ <;> rcases mergeH_get _ hlen hk' with ⟨j', x', h2', rfl, rfl⟩ | ⟨h2', h3', h4'⟩
    · have e1 : oB (cj.rho (g j)) = some b := hoi
      have e2 : oB (cj.rho (g j')) = some b := hok
      rw [(hrho (hdj h2)).1] at e1
      rw [(hrho (hdj h2')).1] at e2
      rw [AB.ren_live] at hy hz
      rw [q2.dis j j' x x' b h2 h2' hy hz e1 e2]
    · have e1 : oB (cj.rho (g j)) = some b := hoi
      rw [(hrho (hdj h2)).1] at e1
      rw [(hrho2 h2' h3').1] at hok
      rw [AB.ren_live] at hy
      exact ((q2.own j x b h2 hy e1).2 (hold3 h3' h4' hz hok)).elim
    · have e2 : oB (cj.rho (g j')) = some b := hok
      rw [(hrho (hdj h2')).1] at e2
      rw [(hrho2 h2 h3).1] at hoi
      rw [AB.ren_live] at hz
      exact ((q2.own j' x' b h2' hz e2).2 (hold3 h3 h4 hy hoi)).elim
    · rw [(hrho2 h2 h3).1] at hoi
      rw [(hrho2 h2' h3').1] at hok
      exact hs0.dis i k y z b h4 h4' hy hz hoi hok

/-- The end of a function that was handed own memory: its result is given up for reading, what it no longer needs is dropped. -/
def sealH (x : AV) (H : List AB) (k : AV → List AB → Prop) : Prop :=
  match x with
  | .tp l => sealA l H fun l H => k (.tp l) H
  | x => seal1 x H k
def finG (T : Tys) (m : Nat) (rs : List ResultVar) (K : AV → List AB → Prop) : QA := fun ex fr H => match ex with
  | .exit _ => False
  | _ => retK T rs fr H fun x => sealH x H fun x H => ∃ r H2, (∀ c v, Rd x c v → Rd r c v) ∧ wkH H2 H ∧ okH H2.length H2 = true ∧ Nat.ble m H2.length = true ∧ K r H2
theorem sealH_sound {w0 : Fl} {M0 : Ms} {c : Ctx} {H : List AB} {x : AV} {u : Value} {k : AV → List AB → Prop} (hs : HS w0 M0 c H) (hr : Rd x c u) (h : sealH x H k) :
    ∃ r H' c', k r H' ∧ c'.w = c.w ∧ HS w0 M0 c' H' ∧ Ext c c' ∧ Rd r c'.closed u := by
  unfold sealH at h
  split at h
  · simp only [Rd] at hr
    obtain ⟨xs, rfl, hx⟩ := hr
    obtain ⟨l', H', c', q1, q2, q3, q4, q5, q6⟩ := sealA_sound hs hx h
    exact ⟨_, H', c', q1, q2, q3, q4, by simp only [Rd]; exact ⟨xs, rfl, q5⟩⟩
  · obtain ⟨r, H', c', q1, q2, q3, q4, q5, _⟩ := seal1_sound hs hr h
    exact ⟨r, H', c', q1, q2, q3, q4, q5⟩
theorem ACalls.of {P : Program} {T : Tys} (hT : TOk P T) {f : FuncId} {fn : Func} {body : Code} {args : List AV} {Hin : List AB} {K : AV → List AB → Prop} (hf : P.funcs[f]? = some fn) (hb : fn.body = some body) (hname : (fn.name == "runtime.NumGoroutine") = false) (hn : args.length ≤ fn.ntmps)
    (h : aCode P T fn.ntmps Hin.length body (finG T Hin.length fn.results.toList K) (frOf 0 args) Hin) : ACalls P false f args Hin K := by
  refine ⟨⟨fn, hf, by rw [hb]; rfl, hname⟩, fun w0 M0 c0 us hs0 hr => ?_⟩
  have hlen := hr.length
  have hFR : FR (w0.at c0.w hs0.low) c0 fn.ntmps (frOf 0 args) { tmps := us.toArray ++ Array.replicate (fn.ntmps - us.toArray.size) undef, defers := [] } := by
    refine ⟨by simp; omega, trivial, fun i => ?_⟩
    have := frOf_rd (c := c0) (m := fn.ntmps - us.length) (l := args) (i := 0) (pre := []) rfl hr i
    rw [Array.getD_eq_getD_getElem?]
    have e : (us.toArray ++ Array.replicate (fn.ntmps - us.toArray.size) undef)[i]? = ([] ++ us ++ List.replicate (fn.ntmps - us.length) undef)[i]? := by
      have : (us.toArray ++ Array.replicate (fn.ntmps - us.toArray.size) undef) = ([] ++ us ++ List.replicate (fn.ntmps - us.length) undef).toArray := Array.ext' (by simp)
      rw [this]; simp only [List.getElem?_toArray]
    rw [e]
    exact this
  have fin : ∀ a w, Lift (w0.at c0.w hs0.low) M0 c0 fn.ntmps (fun fr H => retK T fn.results.toList fr H fun x => sealH x H fun x H => ∃ r H2, (∀ c v, Rd x c v → Rd r c v) ∧ wkH H2 H ∧ okH H2.length H2 = true ∧ Nat.ble Hin.length H2.length = true ∧ K r H2) a w → ∃ v, (results fn a.tmps).run P w = .ok v w ∧ ∃ v' c' r H', Ending.returned v = .returned v' ∧ c'.w = w ∧ K r H' ∧ HS w0 M0 c' H' ∧ Ext c0 c' ∧ Rd r c' v' ∧ (false = true → Old c0.w w) := by
    rintro a w ⟨c, fr, H, rfl, h1, h2, h3, h4⟩
    obtain ⟨x, v, q1, q2, q3⟩ := retK_sound hT h2 h3 h1
    obtain ⟨x', H', c1, ⟨r, H2, o1, o2, o3, o4, o5⟩, p2, p3, p4, p5⟩ := sealH_sound h2 q2 q1
    have hcut : Cut c1 { c1 with dom := H2.length } := ⟨⟨rfl, rfl, rfl, Nat.le_refl _, fun _ _ h => ⟨h, rfl⟩, Nat.le_refl _, fun k hk => absurd hk (Nat.not_lt_zero k), fun k hk => absurd hk (Nat.not_lt_zero k), fun k _ hk => absurd hk (Nat.not_lt_zero k)⟩, fun _ _ => ⟨rfl, rfl⟩⟩
    have hml := Nat.le_of_ble_eq_true o4
    have he := h4.trans p4
    refine ⟨v, q3, v, { c1 with dom := H2.length }, r, H2, rfl, p2, o5, ⟨LowF.ofAt p3.low, p3.base, rfl, p3.foreign, p3.lt, fun k y hk => ?_, fun k y g hk hl ho => p3.own k y g (wkH_get o2 k y hk hl) hl ho, fun j k y z g hj hk hy hz ho ho' => p3.dis j k y z g (wkH_get o2 j y hj hy) (wkH_get o2 k z hk hz) hy hz ho ho'⟩, ⟨he.os, he.tape, he.output, he.size, he.keep, by show c0.dom ≤ H2.length; rw [hs0.dom]; exact hml, he.len, he.rho, he.box⟩, o1 _ _ (Rd.ext (c := c1.closed) (c' := { c1 with dom := H2.length }) _ ⟨rfl, rfl, rfl, Nat.le_refl _, fun _ _ h => ⟨h, rfl⟩, Nat.zero_le _, fun k hk => absurd hk (Nat.not_lt_zero k), fun k hk => absurd hk (Nat.not_lt_zero k), fun k _ hk => absurd hk (Nat.not_lt_zero k)⟩ p5), fun e => by cases e⟩
    cases y with
    | dead => trivial
    | box t cs =>
      obtain ⟨g, xs, h1, h2, h3, h4⟩ := p3.blk k _ (wkH_get o2 k _ hk rfl)
      exact ⟨g, xs, h1, h2, RdL.cut cs hcut (okH_get o3 k t cs hk) h3, h4⟩
    | iter s pos =>
      obtain ⟨g, h1, h2⟩ := p3.blk k _ (wkH_get o2 k _ hk rfl)
      exact ⟨g, h1, h2⟩
    | row t sz es =>
      obtain ⟨h1, h2, h3, xs, h4, h5, h6⟩ := p3.blk k _ (wkH_get o2 k _ hk rfl)
      exact ⟨h1, h2, h3, xs, h4, h5, h6⟩
    | rowo t sz es m =>
      obtain ⟨h1, h2, h3, h3', xs, h4, h5, h6⟩ := p3.blk k _ (wkH_get o2 k _ hk rfl)
      exact ⟨h1, h2, h3, h3', xs, h4, RdL.cut _ hcut (okH_rowo o3 hk h3') h5, h6⟩
  refine calls_marks hf hb trivial (Nat.le_refl _) fin ?_
  refine aCode_sound (w0 := w0.at c0.w hs0.low) (M0 := M0) (ce := c0) hT hs0.dom body _ _ c0 _ Hin _ (lift_ends rfl rfl fun _ _ _ h => h) hs0.toAt hFR (Ext.refl _) h
end Go.Proofs.Ytjcboeldmgmfcaa.A
end

/-
Functions that are handed own memory of their caller's, the result kept as the caller's own.
-/
section
namespace Go.Proofs.Ytjcboeldmgmfcaa.A
open Go.RowKit

def finGO (T : Tys) (m : Nat) (rs : List ResultVar) (K : AV → List AB → Prop) : QA := fun ex fr H => match ex with
  | .exit _ => False
  | _ => retK T rs fr H fun x => ∃ r H2, (∀ c v, Rd x c v → Rd r c v) ∧ wkH H2 H ∧ okH H2.length H2 = true ∧ (Nat.ble m H2.length = true ∧ r.lt H2.length = true) ∧ K r H2
theorem ACalls.ofO {P : Program} {T : Tys} (hT : TOk P T) {f : FuncId} {fn : Func} {body : Code} {args : List AV} {Hin : List AB} {K : AV → List AB → Prop} (hf : P.funcs[f]? = some fn) (hb : fn.body = some body) (hname : (fn.name == "runtime.NumGoroutine") = false) (hn : args.length ≤ fn.ntmps)
    (h : aCode P T fn.ntmps Hin.length body (finGO T Hin.length fn.results.toList K) (frOf 0 args) Hin) : ACalls P false f args Hin K := by
  refine ⟨⟨fn, hf, by rw [hb]; rfl, hname⟩, fun w0 M0 c0 us hs0 hr => ?_⟩
  have hlen := hr.length
  have hFR : FR (w0.at c0.w hs0.low) c0 fn.ntmps (frOf 0 args) { tmps := us.toArray ++ Array.replicate (fn.ntmps - us.toArray.size) undef, defers := [] } := by
    refine ⟨by simp; omega, trivial, fun i => ?_⟩
    have := frOf_rd (c := c0) (m := fn.ntmps - us.length) (l := args) (i := 0) (pre := []) rfl hr i
    rw [Array.getD_eq_getD_getElem?]
    have e : (us.toArray ++ Array.replicate (fn.ntmps - us.toArray.size) undef)[i]? = ([] ++ us ++ List.replicate (fn.ntmps - us.length) undef)[i]? := by
      have : (us.toArray ++ Array.replicate (fn.ntmps - us.toArray.size) undef) = ([] ++ us ++ List.replicate (fn.ntmps - us.length) undef).toArray := Array.ext' (by simp)
      rw [this]; simp only [List.getElem?_toArray]
    rw [e]
    exact this
  have fin : ∀ a w, Lift (w0.at c0.w hs0.low) M0 c0 fn.ntmps (fun fr H => retK T fn.results.toList fr H fun x => ∃ r H2, (∀ c v, Rd x c v → Rd r c v) ∧ wkH H2 H ∧ okH H2.length H2 = true ∧ (Nat.ble Hin.length H2.length = true ∧ r.lt H2.length = true) ∧ K r H2) a w → ∃ v, (results fn a.tmps).run P w = .ok v w ∧ ∃ v' c' r H', Ending.returned v = .returned v' ∧ c'.w = w ∧ K r H' ∧ HS w0 M0 c' H' ∧ Ext c0 c' ∧ Rd r c' v' ∧ (false = true → Old c0.w w) := by
    rintro a w ⟨c, fr, H, rfl, h1, h2, h3, h4⟩
    obtain ⟨x, v, ⟨r, H2, o1, o2, o3, ⟨o4, o6⟩, o5⟩, q2, q3⟩ := retK_sound hT h2 h3 h1
    obtain ⟨c1, p3, hcc⟩ : ∃ c1 : Ctx, HS (w0.at c0.w hs0.low) M0 c1 H ∧ c1 = c := ⟨c, h2, rfl⟩
    subst hcc
    have hcut : Cut c1 { c1 with dom := H2.length } := ⟨⟨rfl, rfl, rfl, Nat.le_refl _, fun _ _ h => ⟨h, rfl⟩, Nat.le_refl _, fun k hk => absurd hk (Nat.not_lt_zero k), fun k hk => absurd hk (Nat.not_lt_zero k), fun k _ hk => absurd hk (Nat.not_lt_zero k)⟩, fun _ _ => ⟨rfl, rfl⟩⟩
    have hml := Nat.le_of_ble_eq_true o4
    have he := h4
    refine ⟨v, q3, v, { c1 with dom := H2.length }, r, H2, rfl, rfl, o5, ⟨LowF.ofAt p3.low, p3.base, rfl, p3.foreign, p3.lt, fun k y hk => ?_, fun k y g hk hl ho => p3.own k y g (wkH_get o2 k y hk hl) hl ho, fun j k y z g hj hk hy hz ho ho' => p3.dis j k y z g (wkH_get o2 j y hj hy) (wkH_get o2 k z hk hz) hy hz ho ho'⟩, ⟨he.os, he.tape, he.output, he.size, he.keep, by show c0.dom ≤ H2.length; rw [hs0.dom]; exact hml, he.len, he.rho, he.box⟩, Rd.cut r hcut o6 (o1 _ _ q2), fun e => by cases e⟩
    cases y with
    | dead => trivial
    | box t cs =>
      obtain ⟨g, xs, h1, h2, h3, h4⟩ := p3.blk k _ (wkH_get o2 k _ hk rfl)
      exact ⟨g, xs, h1, h2, RdL.cut cs hcut (okH_get o3 k t cs hk) h3, h4⟩
    | iter s pos =>
      obtain ⟨g, h1, h2⟩ := p3.blk k _ (wkH_get o2 k _ hk rfl)
      exact ⟨g, h1, h2⟩
    | row t sz es =>
      obtain ⟨h1, h2, h3, xs, h4, h5, h6⟩ := p3.blk k _ (wkH_get o2 k _ hk rfl)
      exact ⟨h1, h2, h3, xs, h4, h5, h6⟩
    | rowo t sz es m =>
      obtain ⟨h1, h2, h3, h3', xs, h4, h5, h6⟩ := p3.blk k _ (wkH_get o2 k _ hk rfl)
      exact ⟨h1, h2, h3, h3', xs, h4, RdL.cut _ hcut (okH_rowo o3 hk h3') h5, h6⟩
  refine calls_marks hf hb trivial (Nat.le_refl _) fin ?_
  refine aCode_sound (w0 := w0.at c0.w hs0.low) (M0 := M0) (ce := c0) hT hs0.dom body _ _ c0 _ Hin _ (lift_ends rfl rfl fun _ _ _ h => h) hs0.toAt hFR (Ext.refl _) h
end Go.Proofs.Ytjcboeldmgmfcaa.A
end

/-
Functions that are handed own memory: at the end slices that are nil may be taken for own rows that are empty.
-/
section
namespace Go.Proofs.Ytjcboeldmgmfcaa.A
open Go.RowKit

def finGW (T : Tys) (m : Nat) (rs : List ResultVar) (K : AV → List AB → Prop) : QA := fun ex fr H => match ex with
  | .exit _ => False
  | _ => retK T rs fr H fun x => ∃ y r H2, (∀ c v, Rd x c v → Rd y c v) ∧ Wk m [(0, y)] H [(0, r)] H2 ∧ K r H2
theorem ACalls.ofW {P : Program} {T : Tys} (hT : TOk P T) {f : FuncId} {fn : Func} {body : Code} {args : List AV} {Hin : List AB} {K : AV → List AB → Prop} (hf : P.funcs[f]? = some fn) (hb : fn.body = some body) (hname : (fn.name == "runtime.NumGoroutine") = false) (hn : args.length ≤ fn.ntmps)
    (h : aCode P T fn.ntmps Hin.length body (finGW T Hin.length fn.results.toList K) (frOf 0 args) Hin) : ACalls P false f args Hin K := by
  refine ⟨⟨fn, hf, by rw [hb]; rfl, hname⟩, fun w0 M0 c0 us hs0 hr => ?_⟩
  have hlen := hr.length
  have hFR : FR (w0.at c0.w hs0.low) c0 fn.ntmps (frOf 0 args) { tmps := us.toArray ++ Array.replicate (fn.ntmps - us.toArray.size) undef, defers := [] } := by
    refine ⟨by simp; omega, trivial, fun i => ?_⟩
    have := frOf_rd (c := c0) (m := fn.ntmps - us.length) (l := args) (i := 0) (pre := []) rfl hr i
    rw [Array.getD_eq_getD_getElem?]
    have e : (us.toArray ++ Array.replicate (fn.ntmps - us.toArray.size) undef)[i]? = ([] ++ us ++ List.replicate (fn.ntmps - us.length) undef)[i]? := by
      have : (us.toArray ++ Array.replicate (fn.ntmps - us.toArray.size) undef) = ([] ++ us ++ List.replicate (fn.ntmps - us.length) undef).toArray := Array.ext' (by simp)
      rw [this]; simp only [List.getElem?_toArray]
    rw [e]
    exact this
  have fin : ∀ a w, Lift (w0.at c0.w hs0.low) M0 c0 fn.ntmps (fun fr H => retK T fn.results.toList fr H fun x => ∃ y r H2, (∀ c v, Rd x c v → Rd y c v) ∧ Wk Hin.length [(0, y)] H [(0, r)] H2 ∧ K r H2) a w → ∃ v, (results fn a.tmps).run P w = .ok v w ∧ ∃ v' c' r H', Ending.returned v = .returned v' ∧ c'.w = w ∧ K r H' ∧ HS w0 M0 c' H' ∧ Ext c0 c' ∧ Rd r c' v' ∧ (false = true → Old c0.w w) := by
    rintro a w ⟨c, fr, H, rfl, h1, h2, h3, h4⟩
    obtain ⟨x, v, ⟨y, r, H2, o1, o2, o3⟩, q2, q3⟩ := retK_sound hT h2 h3 h1
    have hfr : FR (w0.at c0.w hs0.low) c 1 [(0, y)] { tmps := #[v], defers := [] } := by
      refine ⟨rfl, trivial, fun i => ?_⟩
      unfold fget
      cases i with
      | zero => exact o1 _ _ q2
      | succ i => show Rd .top c _; simp [Rd]
    obtain ⟨c', e1, e2, e3, e4⟩ := o2.sound hs0.dom h2 hfr h4
    have hr' := e3.get 0
    refine ⟨v, q3, v, c', r, H2, rfl, e1, o3, ⟨LowF.ofAt e2.low, e2.base, e2.dom, e2.foreign, e2.lt, e2.blk, e2.own, e2.dis⟩, e4, ?_, fun e => by cases e⟩
    simpa [fget] using hr'
  refine calls_marks hf hb trivial (Nat.le_refl _) fin ?_
  refine aCode_sound (w0 := w0.at c0.w hs0.low) (M0 := M0) (ce := c0) hT hs0.dom body _ _ c0 _ Hin _ (lift_ends rfl rfl fun _ _ _ h => h) hs0.toAt hFR (Ext.refl _) h
end Go.Proofs.Ytjcboeldmgmfcaa.A
end

/-
Memory said in another way: own rows that hold own rows, rows within them given up for reading; functions that are lent own rows; functions that make a row grow.
-/
section
namespace Go.Proofs.Ytjcboeldmgmfcaa.A
open Go.RowKit

theorem aLoop.ruleC {d0 : Nat} {body : QA → Fr → List AB → Prop} {Q : QA} {fr : Fr} {H : List AB} (ι : Type) (st : ι → Fr × List AB) (I : ι → Prop) (μ : ι → Nat) (x0 : ι) (h0 : I x0) (hw : WkC d0 fr H (st x0).1 (st x0).2)
    (round : ∀ x, I x → body (fun ex fr' H' => match ex with | .normal => ∃ x', I x' ∧ μ x' < μ x ∧ WkC d0 fr' H' (st x').1 (st x').2 | e => Q e fr' H') (st x).1 (st x).2) : aLoop d0 body Q fr H :=
  ⟨.inr (.inr ⟨ι, st, I, μ, ⟨x0, h0, hw⟩, round⟩)⟩

/-- An own row, taken for one whose cells may be own. -/
theorem ConvH.rowo {H : List AB} {k : Nat} {t : TypeId} {sz : Nat} {es : List (List AV)} (hk : H[k]? = some (.row t sz es)) : ConvH H (H.set k (.rowo t sz es 0)) := fun _ _ c hs =>
  ⟨c, rfl, hs.recell hk rfl fun ⟨h1, h2, h3, xs, h4, h5, h6⟩ => ⟨h1, h2, h3, RdL.lt_dom _ h5, xs, h4, RdL.ext _ (Ext.ofClosed c) h5, h6⟩, Ext.refl c⟩
/-- One whose cells are not own is an own row again. -/
theorem ConvH.row {H : List AB} {k : Nat} {t : TypeId} {sz m : Nat} {es : List (List AV)} (hk : H[k]? = some (.rowo t sz es m)) (hl : AV.ltL es.flatten 0 = true) : ConvH H (H.set k (.row t sz es)) := fun _ _ c hs =>
  ⟨c, rfl, hs.recell hk rfl fun ⟨h1, h2, h3, _, xs, h4, h5, h6⟩ => ⟨h1, h2, h3, xs, h4, RdL.cut (c := c) (c' := c.closed) _ ⟨Ext.refl c.closed, fun k hk => absurd hk (Nat.not_lt_zero k)⟩ hl h5, h6⟩, Ext.refl c⟩
/-- A cell in which an own row is taken for reading. -/
def AV.slIn (k n : Nat) (s : AV) (x : AV) : AV := match x with
  | .ow j m => if j = k then (if m = n then s else .top) else .ow j m
  | x => x
theorem slIn_lt {k n : Nat} {y : AV} (hs : y.lt 0 = true) {m : Nat} {x : AV} (h : x.lt m = true) : (AV.slIn k n y x).lt m = true := by
  unfold AV.slIn
  split
  · split
    · split
      · exact AV.lt_mono y (Nat.zero_le _) hs
      · rfl
    · exact h
  · exact h
/-- A row within an own row is given up for reading. -/
theorem ConvH.sealIn {H : List AB} (j k : Nat) {t t' : TypeId} {sz sz' m : Nat} {es es' es2 : List (List AV)} (hj : H[j]? = some (.rowo t sz es m)) (hk : H[k]? = some (.row t' sz' es'))
    (he : es.map (List.map (AV.slIn k es'.length (.sl sz' es'.length fun i => es'.getD i []))) = es2) : ConvH H ((H.set k .dead).set j (.rowo t sz es2 m)) := by
  intro w0 M0 c hs
  subst he
  have hjk : j ≠ k := by rintro rfl; rw [hj] at hk; cases hk
  obtain ⟨c1, e1, s1, x1, r1⟩ := hs.freeze hk
  have hj1 : (H.set k .dead)[j]? = some (.rowo t sz es m) := by rw [List.getElem?_set_ne (Ne.symm hjk)]; exact hj
  refine ⟨c1, e1, s1.recell hj1 rfl ?_, x1⟩
  rintro ⟨h1, h2, h3, h4, _⟩
  obtain ⟨q0, _, _, _, ys, q1, q2, q3⟩ := hs.blk j _ hj
  have hrho := x1.rho j (hs.klt hj) (by omega)
  have hbase : c1.base = c.base := s1.base.trans hs.base.symm
  refine ⟨by rw [List.length_map]; exact h1, h2, fun e he => ?_, ?_, ys, by rw [List.length_map, e1, hrho, hbase]; exact q1, ?_, q3⟩
  · obtain ⟨e0, h8, rfl⟩ := List.mem_map.1 he
    rw [List.length_map]
    exact h3 e0 h8
  · rw [← List.map_flatten, ltL_iff]
    intro x hx
    obtain ⟨y, hy, rfl⟩ := List.mem_map.1 hx
    exact slIn_lt rfl (ltL_iff.1 h4 y hy)
  · rw [← List.map_flatten]
    have h8 : ∀ (l : List AV) (us : List Value), RdL l c us → RdL (l.map (AV.slIn k es'.length (.sl sz' es'.length fun i => es'.getD i []))) c1 us := by
      intro l
      induction l with
      | nil => intro us h; simp only [RdL] at h; subst h; simp [RdL]
      | cons x l ih =>
        intro us h
        simp only [RdL] at h
        obtain ⟨u, vs, rfl, a1, a2⟩ := h
        simp only [List.map_cons, RdL]
        refine ⟨u, vs, rfl, ?_, ih vs a2⟩
        unfold AV.slIn
        split
        · rename_i i n
          split
          · rename_i hik
            subst hik
            split
            · rename_i hn
              subst hn
              exact r1 u a1
            · simp [Rd]
          · exact Rd.ext _ x1 a1
        · exact Rd.ext _ x1 a1
    exact h8 _ _ q2

/-- What stands at a function's end, said in another way. -/
def finGC (T : Tys) (m : Nat) (rs : List ResultVar) (K : AV → List AB → Prop) : QA := fun ex fr H => match ex with
  | .exit _ => False
  | _ => retK T rs fr H fun x => ∃ y r H2, (∀ c v, Rd x c v → Rd y c v) ∧ WkC m [(0, y)] H [(0, r)] H2 ∧ K r H2
theorem ACalls.ofC {P : Program} {T : Tys} (hT : TOk P T) {f : FuncId} {fn : Func} {body : Code} {args : List AV} {Hin : List AB} {K : AV → List AB → Prop} (hf : P.funcs[f]? = some fn) (hb : fn.body = some body) (hname : (fn.name == "runtime.NumGoroutine") = false) (hn : args.length ≤ fn.ntmps)
    (h : aCode P T fn.ntmps Hin.length body (finGC T Hin.length fn.results.toList K) (frOf 0 args) Hin) : ACalls P false f args Hin K := by
  refine ⟨⟨fn, hf, by rw [hb]; rfl, hname⟩, fun w0 M0 c0 us hs0 hr => ?_⟩
  have hlen := hr.length
  have hFR : FR (w0.at c0.w hs0.low) c0 fn.ntmps (frOf 0 args) { tmps := us.toArray ++ Array.replicate (fn.ntmps - us.toArray.size) undef, defers := [] } := by
    refine ⟨by simp; omega, trivial, fun i => ?_⟩
    have := frOf_rd (c := c0) (m := fn.ntmps - us.length) (l := args) (i := 0) (pre := []) rfl hr i
    rw [Array.getD_eq_getD_getElem?]
    have e : (us.toArray ++ Array.replicate (fn.ntmps - us.toArray.size) undef)[i]? = ([] ++ us ++ List.replicate (fn.ntmps - us.length) undef)[i]? := by
      have : (us.toArray ++ Array.replicate (fn.ntmps - us.toArray.size) undef) = ([] ++ us ++ List.replicate (fn.ntmps - us.length) undef).toArray := Array.ext' (by simp)
      rw [this]; simp only [List.getElem?_toArray]
    rw [e]
    exact this
  have fin : ∀ a w, Lift (w0.at c0.w hs0.low) M0 c0 fn.ntmps (fun fr H => retK T fn.results.toList fr H fun x => ∃ y r H2, (∀ c v, Rd x c v → Rd y c v) ∧ WkC Hin.length [(0, y)] H [(0, r)] H2 ∧ K r H2) a w → ∃ v, (results fn a.tmps).run P w = .ok v w ∧ ∃ v' c' r H', Ending.returned v = .returned v' ∧ c'.w = w ∧ K r H' ∧ HS w0 M0 c' H' ∧ Ext c0 c' ∧ Rd r c' v' ∧ (false = true → Old c0.w w) := by
    rintro a w ⟨c, fr, H, rfl, h1, h2, h3, h4⟩
    obtain ⟨x, v, ⟨y, r, H2, o1, o2, o3⟩, q2, q3⟩ := retK_sound hT h2 h3 h1
    have hfr : FR (w0.at c0.w hs0.low) c 1 [(0, y)] { tmps := #[v], defers := [] } := by
      refine ⟨rfl, trivial, fun i => ?_⟩
      unfold fget
      cases i with
      | zero => exact o1 _ _ q2
      | succ i => show Rd .top c _; simp [Rd]
    obtain ⟨c', e1, e2, e3, e4⟩ := o2.sound hs0.dom h2 hfr h4
    have hr' := e3.get 0
    refine ⟨v, q3, v, c', r, H2, rfl, e1, o3, ⟨LowF.ofAt e2.low, e2.base, e2.dom, e2.foreign, e2.lt, e2.blk, e2.own, e2.dis⟩, e4, ?_, fun e => by cases e⟩
    simpa [fget] using hr'
  refine calls_marks hf hb trivial (Nat.le_refl _) fin ?_
  refine aCode_sound (w0 := w0.at c0.w hs0.low) (M0 := M0) (ce := c0) hT hs0.dom body _ _ c0 _ Hin _ (lift_ends rfl rfl fun _ _ _ h => h) hs0.toAt hFR (Ext.refl _) h

/-- The same of a function that writes nothing of its caller's: what it makes is given up for reading at last. -/
theorem ACalls.fn {P : Program} {q : Bool} {f : FuncId} {args : List AV} {K : AV → List AB → Prop} {K' : AV → Prop} (h : ACalls P q f args [] K) (hk : ∀ r H, K r H → ∃ Hc, ConvH H Hc ∧ sealR r Hc fun x => ∃ y, (∀ c v, Rd x c v → Rd y c v) ∧ K' y) : Fn P f args K' := by
  refine ⟨h.go, fun c0 us hd hM hg hr => ?_⟩
  let ce : Ctx := { c0 with base := 0 }
  have hce : Ext c0 ce := ⟨rfl, rfl, rfl, Nat.le_refl _, fun _ _ h => ⟨h, rfl⟩, Nat.le_refl _, fun _ _ => Nat.le_refl _, fun _ _ _ => rfl, fun _ _ _ h => h⟩
  have hHS : HS (Fl.all c0.w hg) c0.M ce [] := ⟨LowF.refl _ hg, rfl, hd, fun _ _ => Iff.rfl, hM, by simp, by simp, by simp⟩
  refine (h.calls (Fl.all c0.w hg) c0.M ce us hHS (RdL.ext _ hce hr)).mono ?_
  rintro e w' ⟨v, c', r, H', rfl, rfl, q1, q2, q3, q4, _⟩
  obtain ⟨Hc, o1, o2⟩ := hk r H' q1
  obtain ⟨c1, e1, s1, x1⟩ := o1 _ _ c' q2
  obtain ⟨x, H2, c2, ⟨y, p0, p1⟩, p2, p3, p4, p5⟩ := sealR_sound s1 (Rd.ext _ x1 q4) o2
  refine ⟨v, y, rfl, p1, q2.low.below, p0 _ _ ?_⟩
  have e2 : c2.w = c'.w := p2.trans e1
  have hE : Ext c2.closed { c0 with w := c'.w } := by
    refine ⟨by simp [Ctx.closed, e2], by simp [Ctx.closed, e2], by simp [Ctx.closed, e2], by simp [Ctx.closed, e2], fun b hb hm => ⟨fun h => hm ?_, by simp [Ctx.closed, e2]⟩, Nat.zero_le _, fun k hk => absurd hk (Nat.not_lt_zero k), fun k hk => absurd hk (Nat.not_lt_zero k), fun k _ hk => absurd hk (Nat.not_lt_zero k)⟩
    exact (p3.foreign b (hM b h)).2 h
  exact Rd.ext _ hE p5
/-- A call, the memory behind it said in another way. -/
theorem ACalls.conv {P : Program} {q : Bool} {f : FuncId} {args : List AV} {H : List AB} {K K' : AV → List AB → Prop} (h : ACalls P q f args H K) (hk : ∀ r H', K r H' → ∃ H'', ConvH H' H'' ∧ K' r H'') : ACalls P q f args H K' := by
  refine ⟨h.go, fun w0 M0 c us hs hr => (h.calls w0 M0 c us hs hr).mono ?_⟩
  rintro e w' ⟨v, c', r, H', rfl, rfl, q1, q2, q3, q4, q5⟩
  obtain ⟨H'', o1, o2⟩ := hk r H' q1
  obtain ⟨c1, e1, s1, x1⟩ := o1 _ _ c' q2
  exact ⟨v, c1, r, H'', rfl, e1, o2, s1, q3.trans x1, Rd.ext _ x1 q4, q5⟩
mutual
theorem AV.ren_id {f : Nat → Nat} : ∀ (x : AV), x.lt 0 = true → x.ren f = x
  | .top, _ => rfl
  | .v _, _ => rfl
  | .sl _ _ _, _ => rfl
  | .rp _, _ => rfl
  | .bp k _, h => by simp [AV.lt, Nat.blt] at h
  | .ow k _, h => by simp [AV.lt, Nat.blt] at h
  | .ep k _ _ _ _, h => by simp [AV.lt, Nat.blt] at h
  | .ag cs, h => by simp only [AV.lt] at h; simp only [AV.ren, AV.renL_id cs h]
  | .tp cs, h => by simp only [AV.lt] at h; simp only [AV.ren, AV.renL_id cs h]
  | .fn _ cs, h => by simp only [AV.lt] at h; simp only [AV.ren, AV.renL_id cs h]
theorem AV.renL_id {f : Nat → Nat} : ∀ (l : List AV), AV.ltL l 0 = true → AV.renL f l = l
  | [], _ => rfl
  | x :: l, h => by
    simp only [AV.ltL, Bool.and_eq_true] at h
    simp only [AV.renL, AV.ren_id x h.1, AV.renL_id l h.2]
end
/-- A function that is handed no own memory leaves all that there was. -/
theorem ACalls.quiet {P : Program} {q q' : Bool} {f : FuncId} {args : List AV} {K : AV → List AB → Prop} (h : ACalls P q f args [] K) : ACalls P q' f args [] K := by
  refine ⟨h.go, fun w0 M0 c us hs hr => ?_⟩
  have hs1 : HS (Fl.all c.w hs.glob) c.M c [] := ⟨LowF.refl _ _, hs.base, hs.dom, fun _ _ => Iff.rfl, hs.lt, by simp, by simp, by simp⟩
  refine (h.calls _ c.M c us hs1 hr).mono ?_
  rintro e w' ⟨v, c', r, H', rfl, rfl, q1, q2, q3, q4, _⟩
  have hlt : ∀ b, w0.old b → b < c.w.heap.size := fun b hb => Nat.lt_of_lt_of_le (w0.lt b hb) hs.low.size
  exact ⟨v, c', r, H', rfl, rfl, q1, ⟨hs.low.trans q2.low.below, q2.base, q2.dom, fun b hb => (q2.foreign b (hlt b hb)).trans (hs.foreign b hb), q2.lt, q2.blk, fun k x g hk hl ho => ⟨(q2.own k x g hk hl ho).1, fun hb => (q2.own k x g hk hl ho).2 (hlt g hb)⟩, q2.dis⟩, q3, q4, fun _ => q2.low.below.old⟩
/-- A function that is handed no own memory makes some: it stands behind the caller's. -/
theorem ACalls.beside {P : Program} {q q' : Bool} {f : FuncId} {args : List AV} {H : List AB} {k K : AV → List AB → Prop} (h : ACalls P q' f args [] K) (hc : AV.ltL args 0 = true)
    (hk : ∀ r R, K r R → cntK H 0 fun d => putH (ixm [] d) [] R H fun H => forceK (r.ren (ixm [] d)) fun r => k r H) : ACalls P q f args H k :=
  ACalls.frame [] (h.quiet (q' := q)) (AV.renL_id args hc).symm hc rfl rfl List.nodup_nil (fun _ h => by cases h) trivial hk
/-- Values without memory. -/
def flatV : AV → Bool
  | .v _ => true
  | .tp l => l.all fun x => match x with | .v _ => true | _ => false
  | _ => false
theorem flatV_rd {x : AV} (h : flatV x = true) {c c' : Ctx} {v : Value} (hr : Rd x c v) : Rd x c' v := by
  unfold flatV at h
  split at h
  · simpa [Rd] using hr
  · rename_i l
    simp only [Rd] at hr ⊢
    obtain ⟨xs, rfl, hx⟩ := hr
    refine ⟨xs, rfl, ?_⟩
    induction l generalizing xs with
    | nil => simpa [RdL] using hx
    | cons x l ih =>
      simp only [List.all_cons, Bool.and_eq_true] at h
      simp only [RdL] at hx ⊢
      obtain ⟨u, us, rfl, h1, h2⟩ := hx
      refine ⟨u, us, rfl, ?_, ih h.2 us h2⟩
      cases x <;> simp at h
      simpa [Rd] using h1
  · cases h
/-- A function that only reads, and answers without memory, may be lent own rows. -/
theorem Fn.lend {P : Program} {f : FuncId} {args args' : List AV} {H : List AB} {K : AV → Prop} {q : Bool} {k : AV → List AB → Prop} (h : Fn P f args' K) (hs : sealA args H fun a _ => a = args') (hk : ∀ r, K r → flatV r = true ∧ k r H) : ACalls P q f args H k := by
  refine ⟨h.1, fun w0 M0 c us hs0 hr => ?_⟩
  obtain ⟨l', H', c', rfl, h2, h3, h4, h5, _⟩ := sealA_sound hs0 hr hs
  have := h.2 c'.closed us rfl h3.lt h3.glob h5
  rw [show c'.closed.w = c.w from h2] at this
  refine this.mono ?_
  rintro e w' ⟨v, r, rfl, q1, q2, q3⟩
  obtain ⟨p1, p2⟩ := hs0.grow q2
  obtain ⟨p3, p4⟩ := hk r q1
  exact ⟨v, _, r, H, rfl, rfl, p4, p1, p2, flatV_rd p3 q3, fun _ => q2.old⟩
end Go.Proofs.Ytjcboeldmgmfcaa.A
end

/-
Bytes, numbers as abstract values; copies and comparisons of bytes; what reads in one way reads in another.
-/
section
namespace Go.Proofs.Ytjcboeldmgmfcaa.A
open Go.RowKit

def bA (b : List UInt8) : AV := .sl 1 b.length fun i => [.v (.int .u8 (b.getD i 0).toNat)]
def iA (l : List Int) : AV := .sl 1 l.length fun i => [.v (.int .i64 (l.getD i 0))]
theorem wi {n : Int} (h : -9223372036854775808 ≤ n ∧ n ≤ 9223372036854775807) : IntKind.i64.wrap n = n := IntWalk.i64_in n h
theorem wsucc {k : Nat} (h : k < 1000000000000) : AV.v (.int .i64 (IntKind.i64.wrap ((k : Int) + 1))) = .v (.int .i64 ((k + 1 : Nat) : Int)) := by
  rw [wi (by omega)]; rfl

theorem toBytes {c : Ctx} {u : Value} {b : List UInt8} (h : Rd (bA b) c u) : SlR c.w c.M u b := by
  simp only [bA, Rd] at h
  obtain ⟨a, k, rfl, h1, h2, h3⟩ := h
  refine ⟨a, k, b.map fun x => .int .u8 x.toNat, rfl, h1, h2, ?_, fun hne => ?_⟩
  · refine Elems.of_get (by simp [Rp.sz]) fun i x hx => ⟨[.int .u8 x.toNat], rfl, rfl, fun j hj => ?_⟩
    have hj : j < 1 := hj
    obtain rfl : j = 0 := by omega
    simp [Rp.sz, hx]
  · rcases h3 with h3 | ⟨bl, off, rfl, hm, hb, hc⟩
    · exact absurd (List.eq_nil_of_length_eq_zero h3) hne
    · refine ⟨bl, off, rfl, hm, fun j u hu => ?_⟩
      rw [List.getElem?_map] at hu
      cases hq : b[j]? with
      | none => rw [hq] at hu; simp at hu
      | some x =>
        rw [hq] at hu
        simp at hu
        subst hu
        have hlt := (List.getElem?_eq_some_iff.1 hq).1
        have := (hc j hlt).2
        simp only [RdAt, Rd] at this
        obtain ⟨⟨u, e1, _, rfl⟩, _⟩ := this
        rw [Nat.mul_one] at e1
        rw [show b.getD j 0 = x by rw [List.getD_eq_getElem?_getD, hq]; rfl] at e1
        exact e1
theorem ofBytes {c : Ctx} {u : Value} {b : List UInt8} (h : SlR c.w c.M u b) : Rd (bA b) c u := by
  obtain ⟨a, k, xs, rfl, h1, h2, h3, h4⟩ := h
  simp only [bA, Rd]
  refine ⟨a, k, rfl, h1, h2, ?_⟩
  by_cases hne : b = []
  · exact .inl (by rw [hne]; rfl)
  · obtain ⟨bl, off, rfl, hm, hc⟩ := h4 hne
    have cell : ∀ i, i < b.length → c.w.cell? ⟨bl, off + i, none⟩ = some (.int .u8 (b.getD i 0).toNat) := by
      intro i hi
      obtain ⟨cs, e1, e2, e3⟩ := h3.get (List.getElem?_eq_getElem hi)
      have e2 : cs = [.int .u8 b[i].toNat] := e2
      subst e2
      have := hc (i * 1 + 0) _ ((e3 0 (by decide)).trans rfl)
      rw [show b.getD i 0 = b[i] by rw [List.getD_eq_getElem?_getD, List.getElem?_eq_getElem hi]; rfl]
      simpa using this
    have h0 := cell 0 (List.length_pos_iff.2 hne)
    refine .inr ⟨bl, off, rfl, hm, World.block_lt_of_cell? _ _ h0, fun i hi => ⟨rfl, ?_⟩⟩
    simp only [RdAt, Rd, Nat.mul_one, and_true]
    exact ⟨_, cell i hi, rfl, rfl⟩
/-- New bytes are no one's that may be written. -/
theorem ofOwn {c0 : Ctx} {w' : World} {t : TypeId} {u : Value} {b : List UInt8} (h : OwR w' noM c0.w.heap.size t u b) (hM : ∀ b, c0.M b → b < c0.w.heap.size) : Rd (bA b) { c0 with w := w' } u := by
  refine ofBytes (c := { c0 with w := w' }) ?_
  have h' : OwR w' c0.M c0.w.heap.size t u b := by
    obtain ⟨xs, h1, h2⟩ := h
    exact ⟨xs, h1, h2.mono fun cs x _ h => h⟩
  exact h'.sl fun b hb hm => by have := hM b hm; omega
theorem take_succ_eq {α : Type} {d : α} {a b : List α} {k : Nat} (h : a.take k = b.take k) (ha : k < a.length) (hb : k < b.length) (e : a.getD k d = b.getD k d) : a.take (k + 1) = b.take (k + 1) := by
  rw [List.take_succ_eq_append_getElem ha, List.take_succ_eq_append_getElem hb, h]
  rw [List.getD_eq_getElem?_getD, List.getD_eq_getElem?_getD, List.getElem?_eq_getElem ha, List.getElem?_eq_getElem hb] at e
  simp only [Option.getD_some] at e
  rw [e]
theorem ne_of_getD {α : Type} {d : α} {a b : List α} {k : Nat} (e : a.getD k d ≠ b.getD k d) : a ≠ b := fun h => e (by rw [h])
theorem eq_of_take {α : Type} {a b : List α} {k : Nat} (h : a.take k = b.take k) (ha : a.length ≤ k) (hb : b.length ≤ k) : a = b := by
  rwa [List.take_of_length_le ha, List.take_of_length_le hb] at h
theorem u8_ne {a b : UInt8} : ((a.toNat : Int) != b.toNat) = (a != b) := by
  rw [Bool.eq_iff_iff, bne_iff_ne, bne_iff_ne, ne_eq, ne_eq, Int.natCast_inj, UInt8.toNat_inj]

theorem getD_mem {α : Type} {d : α} {l : List α} {k : Nat} (h : k < l.length) : l.getD k d ∈ l := by
  rw [List.getD_eq_getElem?_getD, List.getElem?_eq_getElem h]; exact List.getElem_mem h
theorem getD_range {α : Type} {d : α} {f : Nat → α} {n i : Nat} (h : i < n) : ((List.range n).map f).getD i d = f i := by
  rw [List.getD_eq_getElem?_getD, List.getElem?_map, List.getElem?_range h]; rfl
theorem take_map_succ {α β : Type} {d : α} {f : α → β} {l : List α} {k : Nat} (h : k < l.length) : (l.take (k + 1)).map f = (l.take k).map f ++ [f (l.getD k d)] := by
  rw [List.take_succ_eq_append_getElem h, List.map_append, List.getD_eq_getElem?_getD, List.getElem?_eq_getElem h]; rfl
theorem take_map_getD {α β : Type} {d : α} {e : β} {f : α → β} {l : List α} {k i : Nat} (h : i < l.length) (hk : i < k) : ((l.take k).map f).getD i e = f (l.getD i d) := by
  rw [List.getD_eq_getElem?_getD, List.getD_eq_getElem?_getD, List.getElem?_map, List.getElem?_take_of_lt hk, List.getElem?_eq_getElem h]; rfl
theorem Rd.congr {c : Ctx} {sz n n' : Nat} {get get' : Nat → List AV} {u : Value} (hn : n = n') (hg : ∀ i, i < n → get i = get' i) (h : Rd (.sl sz n get) c u) : Rd (.sl sz n' get') c u := by
  subst hn
  simp only [Rd] at h ⊢
  obtain ⟨a, k, rfl, h1, h2, h3⟩ := h
  refine ⟨a, k, rfl, h1, h2, h3.imp id ?_⟩
  rintro ⟨b, off, rfl, q1, q2, q3⟩
  exact ⟨b, off, rfl, q1, q2, fun i hi => by rw [← hg i hi]; exact q3 i hi⟩
theorem bytes_fn (a b : List UInt8) (ha : a.length ≤ 100000000000) : Fn Try.prog 19 [bA a, bA b] fun r => r = .v (.bool (decide (a = b))) := by
  refine Fn.of tys_ok Try.func19 rfl rfl (by show 2 ≤ 26; decide) ?_
  conv => whnf
  refine boolK_intro (fun h => ?_) (fun h => ?_) <;> conv => whnf
  · exact ⟨_, fun _ _ h => h, by simp at h; rw [decide_eq_false (fun e => h (by rw [e]))]⟩
  simp at h
  refine aLoop.rule Nat (fun k => ([(0, bA a), (1, bA b), (5, .v (.int .i64 k))], [])) (fun k => k ≤ a.length ∧ a.take k = b.take k) (fun k => a.length - k) 0 ⟨Nat.zero_le _, by simp⟩ ⟨[], trivial, ⟨rfl, rfl, rfl, trivial⟩, trivial, rfl, rfl, rfl⟩ ?_
  rintro k ⟨hk, hI⟩
  conv => whnf
  refine boolK_intro (fun h2 => ?_) (fun h2 => ?_) <;> simp at h2 <;> conv => whnf
  · refine aDraw.seq tys_ok mixed (by kernel_rfl) ?_
    conv => whnf
    refine ⟨⟨by omega, by omega⟩, ?_⟩
    conv => whnf
    refine ⟨⟨by omega, by omega⟩, ?_⟩
    conv => whnf
    refine boolK_intro (fun h3 => ?_) (fun h3 => ?_) <;> conv => whnf
    · exact ⟨_, fun _ _ h => h, by simp only [u8_ne, bne_iff_ne, Int.toNat_natCast] at h3; rw [decide_eq_false (ne_of_getD h3)]⟩
    · simp only [u8_ne, bne_eq_false_iff_eq, Int.toNat_natCast] at h3
      exact ⟨k + 1, ⟨by omega, take_succ_eq hI (by omega) (by omega) h3⟩, by omega, ⟨[], trivial, ⟨rfl, rfl, wsucc (by omega), trivial⟩, trivial, rfl, rfl, rfl⟩⟩
  · exact ⟨_, fun _ _ h => h, by rw [decide_eq_true (eq_of_take hI (by omega) (by omega))]⟩
theorem twin_fn (b : List UInt8) (hb : b.length ≤ 1000000000) : Fn Try.prog 41 [bA b] fun r => r = bA b := by
  refine Fn.of tys_ok Try.func41 rfl rfl (by show 1 ≤ 7; decide) ?_
  conv => whnf
  refine ⟨hb, ?_⟩
  conv => whnf
  refine ⟨by simp, ?_⟩
  conv => whnf
  exact ⟨bA b, fun c v h => Rd.congr rfl (fun i hi => getD_range hi) h, rfl⟩
theorem map_getD {α β : Type} {d : α} {e : β} {f : α → β} {l : List α} {i : Nat} (h : i < l.length) : (l.map f).getD i e = f (l.getD i d) := by
  rw [List.getD_eq_getElem?_getD, List.getD_eq_getElem?_getD, List.getElem?_map, List.getElem?_eq_getElem h]; rfl
theorem rowEq {t sz : Nat} {a b c : List (List AV)} (h : a = b ++ c) : AB.row t sz a = .row t sz (b ++ c) := by rw [h]
theorem getD_app {α : Type} {d : α} {a b : List α} {i : Nat} (h : i < a.length) : (a ++ b).getD i d = a.getD i d := by
  rw [List.getD_eq_getElem?_getD, List.getD_eq_getElem?_getD, List.getElem?_append_left h]
theorem getD_appR {α : Type} {d : α} {a b : List α} {i : Nat} (h : a.length ≤ i) : (a ++ b).getD i d = b.getD (i - a.length) d := by
  rw [List.getD_eq_getElem?_getD, List.getD_eq_getElem?_getD, List.getElem?_append_right h]
/-- Cell by cell. -/
def SubL : List AV → List AV → Prop
  | [], [] => True
  | x :: l, y :: m => (∀ c u, Rd x c u → Rd y c u) ∧ SubL l m
  | _, _ => False
theorem SubL.refl : ∀ l, SubL l l
  | [] => trivial
  | _ :: l => ⟨fun _ _ h => h, SubL.refl l⟩
theorem SubL.len : ∀ {l m}, SubL l m → l.length = m.length
  | [], [], _ => rfl
  | _ :: _, _ :: _, h => by simp [SubL.len h.2]
  | [], _ :: _, h => h.elim
  | _ :: _, [], h => h.elim
theorem SubL.rd : ∀ {l m} {c : Ctx} {b off : Nat}, SubL l m → RdAt l c b off → RdAt m c b off
  | [], [], _, _, _, _, _ => by simp [RdAt]
  | x :: l, y :: m, c, b, off, h, hr => by
    simp only [RdAt] at hr ⊢
    obtain ⟨⟨u, h1, h2, h3⟩, h4⟩ := hr
    exact ⟨⟨u, h1, h2, h.1 _ _ h3⟩, SubL.rd h.2 h4⟩
  | [], _ :: _, _, _, _, h, _ => h.elim
  | _ :: _, [], _, _, _, h, _ => h.elim
theorem Rd.sub {c : Ctx} {sz n n' : Nat} {get get' : Nat → List AV} {u : Value} (hn : n = n') (hg : ∀ i, i < n → SubL (get i) (get' i)) (h : Rd (.sl sz n get) c u) : Rd (.sl sz n' get') c u := by
  subst hn
  simp only [Rd] at h ⊢
  obtain ⟨a, k, rfl, h1, h2, h3⟩ := h
  refine ⟨a, k, rfl, h1, h2, h3.imp id ?_⟩
  rintro ⟨b, off, rfl, q1, q2, q3⟩
  exact ⟨b, off, rfl, q1, q2, fun i hi => ⟨by rw [← (hg i hi).len]; exact (q3 i hi).1, (hg i hi).rd (q3 i hi).2⟩⟩
theorem nil_sl (sz : Nat) (get : Nat → List AV) (c : Ctx) (u : Value) (h : Rd (.v (.slice none 0 0)) c u) : Rd (.sl sz 0 get) c u := by
  simp only [Rd] at h ⊢
  exact ⟨none, 0, h, by omega, by simp [maxLen], .inl trivial⟩
theorem SubL.rdl : ∀ {l m} {c : Ctx} {xs : List Value}, SubL l m → RdL l c xs → RdL m c xs
  | [], [], _, _, _, h => h
  | x :: l, y :: m, c, xs, h, hr => by
    simp only [RdL] at hr ⊢
    obtain ⟨u, us, rfl, h1, h2⟩ := hr
    exact ⟨u, us, rfl, h.1 _ _ h1, SubL.rdl h.2 h2⟩
  | [], _ :: _, _, _, h, _ => h.elim
  | _ :: _, [], _, _, h, _ => h.elim
theorem ag_sub {l m : List AV} (h : SubL l m) (c : Ctx) (u : Value) (hr : Rd (.ag l) c u) : Rd (.ag m) c u := by
  simp only [Rd] at hr ⊢
  obtain ⟨xs, rfl, h1⟩ := hr
  exact ⟨xs, rfl, h.rdl h1⟩
theorem ACalls.sub {P : Program} {q : Bool} {f : FuncId} {args : List AV} {H : List AB} {k : AV → List AB → Prop} (args' : List AV) (hs : SubL args args') (h : ACalls P q f args' H k) : ACalls P q f args H k :=
  ⟨h.go, fun w0 M0 c us h1 h2 => h.calls w0 M0 c us h1 (hs.rdl h2)⟩
/-- A row of numbers that was written out. -/
theorem lit_ints {es : List (List AV)} {l : List Int} (h : es = l.map fun x => [.v (.int .i64 x)]) : SubL [.sl 1 l.length fun i => es.getD i []] [iA l] :=
  ⟨fun _ _ hr => Rd.congr rfl (fun i hi => by rw [h, map_getD (d := 0) hi]) hr, trivial⟩
end Go.Proofs.Ytjcboeldmgmfcaa.A
end

/-
Functions that are handed an own row and hand it back, longer or shorter: inserting, deleting.
-/
section
namespace Go.Proofs.Ytjcboeldmgmfcaa.A
open Go.RowKit

/-- An own row that comes back, written anew, at its place or at another. -/
theorem HS.rerow {w0 : Fl} {M0 : Ms} {c : Ctx} {H : List AB} (hs : HS w0 M0 c H) {j : Nat} {t : TypeId} {sz : Nat} {es es' : List (List AV)} (hj : H[j]? = some (.row t sz es)) {w' : World} {v' : Value} {zs : List Value}
    (ho' : w'.ownsRow c.base t sz v' es'.length zs) (hgr : c.w.grownBy w' (oB (c.rho j))) (hat : oB v' = oB (c.rho j) ∨ oB v' = some c.w.heap.size ∨ oB v' = none) (hz : 0 < sz) (hle : ∀ e ∈ es', e.length = sz)
    (hr : RdL es'.flatten c.closed zs) (h1 : ∀ u ∈ zs, u.oneCell' = true) :
    HS w0 M0 (c.new w' v' es'.length) (H.set j .dead ++ [.row t sz es']) ∧ Ext c (c.new w' v' es'.length) ∧ Rd (.ow H.length es'.length) (c.new w' v' es'.length) v' := by
  have hjl := hs.klt hj
  have hmg : ∀ g, oB (c.rho j) = some g → c.M g ∧ ¬ w0.old g := fun g hg => hs.own j _ g hj rfl hg
  have hog : ∀ g, oB v' = some g → g < w'.heap.size := by
    intro g hg
    rcases ho'.2 with ⟨e, _⟩ | ⟨g', cap, cur, e, q, hh, _⟩
    · rw [e] at hg; simp [oB] at hg
    · rw [e] at hg; simp [oB] at hg; subst hg; exact (Array.getElem?_eq_some_iff.1 hh).1
  have hold : ∀ g, oB v' = some g → ¬ w0.old g := by
    intro g hg ho
    rcases hat with h7 | h7 | h7
    · rw [h7] at hg; exact (hmg g hg).2 ho
    · rw [h7] at hg; cases hg; have := Nat.lt_of_lt_of_le (w0.lt _ ho) hs.low.size; omega
    · rw [h7] at hg; cases hg
  have e : Ext c (c.new w' v' es'.length) := by
    refine ⟨hgr.os, hgr.tape, hgr.output, hgr.size, fun b hb hmb => ⟨fun hm' => ?_, hgr.block b hb fun e => ?_⟩, Nat.le_succ _, fun k hk => ?_, fun k hk _ => ?_, fun k g hk hg => ?_⟩
    · rcases hm' with h | h
      · exact hmb h
      · rcases hat with h7 | h7 | h7
        · rw [h7] at h; exact hmb (hmg b h).1
        · rw [h7] at h; cases h; omega
        · rw [h7] at h; cases h
    · exact hmb (hmg b e.symm).1
    · simp only [Ctx.new]; rw [if_neg (by omega)]; exact Nat.le_refl _
    · simp only [Ctx.new]; rw [if_neg (by omega)]
    · simp only [Ctx.new]; rw [if_neg (by omega)]; exact hg
  have hget : ∀ k y, (H.set j .dead ++ [AB.row t sz es'])[k]? = some y → y.live = true → (k = c.dom ∧ y = .row t sz es') ∨ (k < c.dom ∧ k ≠ j ∧ H[k]? = some y) := by
    intro k y hk hl
    rw [hs.dom]
    rcases Nat.lt_trichotomy k H.length with hlt | rfl | hgt
    · rw [List.getElem?_append_left (by simpa using hlt)] at hk
      by_cases hkj : k = j
      · subst hkj
        rw [List.getElem?_set_self hlt] at hk
        cases hk; cases hl
      · rw [List.getElem?_set_ne (Ne.symm hkj)] at hk
        exact .inr ⟨hlt, hkj, hk⟩
    · rw [List.getElem?_append_right (by simp)] at hk
      simp at hk
      exact .inl ⟨rfl, hk.symm⟩
    · rw [List.getElem?_eq_none (by simp; omega)] at hk; cases hk
  have hother : ∀ k y g, k ≠ j → H[k]? = some y → y.live = true → oB (c.rho k) = some g → w'.heap[g]? = c.w.heap[g]? := by
    intro k y g hkj hk hl hg
    exact hgr.block g (hs.sub hk hl hg) fun e => hkj (hs.dis k j y _ g hk hj hl rfl hg e.symm)
  have hlow : LowF w0 w' := ⟨hgr.os.trans hs.low.os, hgr.tape.trans hs.low.tape, hgr.output.trans hs.low.output, Nat.le_trans hs.low.size hgr.size, fun b hb => (hgr.block b (Nat.lt_of_lt_of_le (w0.lt b hb) hs.low.size) fun e => (hmg b e.symm).2 hb).trans (hs.low.block b hb)⟩
  have hrho : ∀ k, k < c.dom → (c.new w' v' es'.length).rho k = c.rho k := fun k hk => by simp only [Ctx.new]; rw [if_neg (by omega)]
  have hrhod : (c.new w' v' es'.length).rho c.dom = v' := by simp [Ctx.new]
  have hx : ∀ g k, oB v' = some g → k < c.dom → k ≠ j → ∀ y, H[k]? = some y → y.live = true → oB (c.rho k) = some g → False := by
    intro g k hg hk hkj y hy hl ho
    rcases hat with h7 | h7 | h7
    · rw [h7] at hg; exact hkj (hs.dis k j y _ g hy hj hl rfl ho hg)
    · rw [h7] at hg; cases hg; have := hs.sub hy hl ho; omega
    · rw [h7] at hg; cases hg
  refine ⟨⟨hlow, hs.base, by simp [Ctx.new, hs.dom], fun b hb => ?_, fun b hmb => ?_, fun k y hk => ?_, fun k y g hk hl hg => ?_, fun i k y z g hi hk hly hlz hgi hgk => ?_⟩, e, ?_⟩
  · refine ⟨fun hmb => ?_, fun hmb => .inl ((hs.foreign b hb).2 hmb)⟩
    rcases hmb with h | h
    · exact (hs.foreign b hb).1 h
    · exact (hold b h hb).elim
  · rcases hmb with h | h
    · exact Nat.lt_of_lt_of_le (hs.lt b h) hgr.size
    · exact hog b h
  · cases hy : y.live with
    | false => cases y <;> simp [AB.live] at hy; trivial
    | true =>
      rcases hget k y hk hy with ⟨rfl, rfl⟩ | ⟨hkd, hkj, hk'⟩
      · exact ⟨by simp [Ctx.new], hz, hle, zs, by rw [hrhod]; exact ho', RdL.ext _ e.closed hr, h1⟩
      · exact BlkOk.ext e rfl hkd (by simp only [Ctx.new]; rw [if_neg (by omega)]) (fun g hl hg => hother k y g hkj hk' hl hg) (hs.blk k y hk')
  · rcases hget k y hk hl with ⟨rfl, rfl⟩ | ⟨hkd, hkj, hk'⟩
    · rw [hrhod] at hg
      exact ⟨.inr hg, hold g hg⟩
    · rw [hrho k hkd] at hg
      have := hs.own k y g hk' hl hg
      exact ⟨.inl this.1, this.2⟩
  · rcases hget i y hi hly with ⟨rfl, rfl⟩ | ⟨hid, hij, hi'⟩ <;> rcases hget k z hk hlz with ⟨rfl, rfl⟩ | ⟨hkd, hkj, hk'⟩
    · rfl
    · rw [hrhod] at hgi
      rw [hrho k hkd] at hgk
      exact (hx g k hgi hkd hkj z hk' hlz hgk).elim
    · rw [hrhod] at hgk
      rw [hrho i hid] at hgi
      exact (hx g i hgk hid hij y hi' hly hgi).elim
    · rw [hrho i hid] at hgi
      rw [hrho k hkd] at hgk
      exact hs.dis i k y z g hi' hk' hly hlz hgi hgk
  · simp only [Rd]
    refine ⟨by simp [Ctx.new, hs.dom], by simp [Ctx.new, hs.dom], ?_, fun _ => by simp [Ctx.new, hs.dom]⟩
    rcases ho'.2 with ⟨rfl, hn⟩ | ⟨g', cap, cur, rfl, _⟩
    · exact ⟨none, 0, by rw [hn], fun e => absurd hn e⟩
    · exact ⟨_, _, rfl, fun _ => ⟨g', rfl⟩⟩

theorem flat_take {es : List (List AV)} {sz : Nat} (h : ∀ e ∈ es, e.length = sz) (i : Nat) : (es.take i).flatten = es.flatten.take (i * sz) := by
  induction es generalizing i with
  | nil => simp
  | cons e es ih =>
    cases i with
    | zero => simp
    | succ i =>
      have he := h e (by simp)
      rw [List.take_succ_cons, List.flatten_cons, List.flatten_cons, ih (fun x hx => h x (by simp [hx])), List.take_append, List.take_of_length_le (l := e) (by rw [he, Nat.add_mul]; omega), he, Nat.add_mul, Nat.one_mul, Nat.add_sub_cancel]
theorem flat_dropr {es : List (List AV)} {sz : Nat} (h : ∀ e ∈ es, e.length = sz) (i : Nat) : (es.drop i).flatten = es.flatten.drop (i * sz) := by
  induction es generalizing i with
  | nil => simp
  | cons e es ih =>
    cases i with
    | zero => simp
    | succ i =>
      have he := h e (by simp)
      rw [List.drop_succ_cons, List.flatten_cons, ih (fun x hx => h x (by simp [hx])), List.drop_append, @List.drop_eq_nil_of_le _ e _ (by rw [he, Nat.add_mul]; omega), he, Nat.add_mul, Nat.one_mul, Nat.add_sub_cancel, List.nil_append]
/-- What is asked of slices.Insert of one element at an element type. -/
def InsC (P : Program) (f : FuncId) (t : TypeId) (sz : Nat) : Prop := ∀ (v : Value) (n i : Nat) (xs ys : List Value) (vb base : Nat) (w : World), w.ownsRow base t sz v n xs → ∀ (vc : Nat) (vcur : Array Value), w.heap[vb]? = some (.cells vcur t (0, 0)) → vcur.toList.take sz = ys → ys.length = sz →
    (∀ u ∈ xs, u.oneCell' = true) → (∀ u ∈ ys, u.oneCell' = true) → v.ownBlock ≠ some vb → i ≤ n → n ≤ 1000000 → base ≤ w.heap.size →
    Calls P f #[v, .int .i64 i, .slice (some ⟨vb, 0, none⟩) 1 vc] w fun e w' => ∃ v', e = .returned v' ∧ w'.ownsRow base t sz v' (n + 1) (xs.take (i * sz) ++ ys ++ xs.drop (i * sz)) ∧ w.grownBy w' v.ownBlock ∧ (v'.ownBlock = v.ownBlock ∨ v'.ownBlock = some w.heap.size)
/-- slices.Insert of one element into an own row. -/
theorem ACalls.insert {P : Program} {f : FuncId} {t : TypeId} {sz : Nat} (hg : IsGo P f) (hc : InsC P f t sz) (es : List (List AV)) (e : List AV) (i : Nat) (hi : i ≤ es.length) (hn : es.length ≤ 1000000) :
    ACalls P false f [.ow 0 es.length, .v (.int .i64 i), .ow 1 1] [.row t sz es, .row t sz [e]] fun r H => r = .ow 2 (es.length + 1) ∧ H = [.dead, .row t sz [e], .row t sz (es.take i ++ [e] ++ es.drop i)] := by
  refine ⟨hg, fun w0 M0 c us hs hr => ?_⟩
  have hj : ([.row t sz es, .row t sz [e]] : List AB)[0]? = some (.row t sz es) := rfl
  have hk : ([.row t sz es, .row t sz [e]] : List AB)[1]? = some (.row t sz [e]) := rfl
  obtain ⟨h1, h2, h3, xs, h4, h5, h6⟩ := hs.blk 0 _ hj
  obtain ⟨k1, k2, k3, ys, k4, k5, k6⟩ := hs.blk 1 _ hk
  simp only [RdL] at hr
  obtain ⟨v, us1, rfl, r1, v1, us2, rfl, r2, v2, us3, rfl, r3, rfl⟩ := hr
  simp only [Rd] at r1 r2 r3
  have hv := r1.2.2.2 h1.symm
  have hv2 := r3.2.2.2 k1.symm
  subst r2
  have hob := ownB h4
  rcases k4.2 with ⟨_, h0⟩ | ⟨g2, vc, vcur, q1, q2, q3, q4, q5, q6, q7⟩
  · cases h0
  have hys : ys.length = sz := by rw [k4.1]; simp
  have hne : v.ownBlock ≠ some g2 := by
    rw [hv, ← hob]
    intro e
    have := hs.dis 0 1 _ _ g2 hj hk rfl rfl e (by rw [q1]; rfl)
    cases this
  have hbase : c.base ≤ c.w.heap.size := by rw [hs.base]; exact Nat.zero_le _
  have := hc v es.length i xs ys g2 c.base c.w (by rw [hv]; exact h4) vc vcur q3 (by rw [← q7]; simp) hys h6 k6 hne hi hn hbase
  rw [hv2, q1]
  refine this.mono ?_
  rintro e' w' ⟨v', rfl, p1, p2, p3⟩
  have hlen : (es.take i ++ [e] ++ es.drop i).length = es.length + 1 := by simp only [List.length_append, List.length_take, List.length_drop, List.length_cons, List.length_nil]; omega
  have hob' := ownB p1
  rw [hv, ← hob] at p2 p3
  rw [← hob'] at p3
  obtain ⟨s1, s2, s3⟩ := hs.rerow (es' := es.take i ++ [e] ++ es.drop i) hj (by rw [hlen]; exact p1) p2 (by rcases p3 with p | p; exact .inl p; exact .inr (.inl p)) h2 (fun x hx => by
      rcases List.mem_append.1 hx with hx | hx
      · rcases List.mem_append.1 hx with hx | hx
        · exact h3 x (List.mem_of_mem_take hx)
        · exact k3 x hx
      · exact h3 x (List.mem_of_mem_drop hx)) (by
      rw [List.flatten_append, List.flatten_append, flat_take h3, flat_dropr h3]
      exact ((h5.take _).append k5).append (h5.drop _)) (fun u hu => by
      rcases List.mem_append.1 hu with hu | hu
      · rcases List.mem_append.1 hu with hu | hu
        · exact h6 u (List.mem_of_mem_take hu)
        · exact k6 u hu
      · exact h6 u (List.mem_of_mem_drop hu))
  exact ⟨v', _, _, _, rfl, rfl, ⟨rfl, rfl⟩, s1, s2, by rw [← hlen]; exact s3, fun e => by cases e⟩
end Go.Proofs.Ytjcboeldmgmfcaa.A
end

/-
A statement whose order Go leaves open, where a load stands beside a store: what is taken where it comes up, not first (a mask names it).
-/
section
namespace Go.Proofs.Ytjcboeldmgmfcaa.A
open Go.RowKit

inductive TrM where
  | fin
  | one (i : Nat) (r : TrM)
  | two (i : Nat) (a : TrM) (j : Nat) (b : TrM)
  | three (i : Nat) (a : TrM) (j : Nat) (b : TrM) (k : Nat) (d : TrM)
def TrM.depth : TrM → Nat
  | .fin => 0
  | .one _ r => r.depth + 1
  | .two _ a _ b => max a.depth b.depth + 1
  | .three _ a _ b _ d => max a.depth (max b.depth d.depth) + 1
def mayM (ops : Array Oper) (B : List Nat) (mk : Nat) (j : Nat) : Bool :=
  (List.range ops.size).any fun i => !(((ops[i]?).map fun o => isEff o.op || pureOp o.op).getD true) && !mk.testBit i && i != j && !(B.getD j 0).testBit i && !(B.getD i 0).testBit j
section
variable {P : Program} {ops : Array Oper} {B : List Nat} {Q : Exit → Act → World → Prop} {mk : Nat}
def HeldM (P : Program) (ops : Array Oper) (B : List Nat) (mk : Nat) (Q : Exit → Act → World → Prop) : Nat → Array Bool → Act → World → Prop
  | 0, l, a, w => Region.ready .any ops l = [] ∧ Q .normal a w
  | n + 1, l, a, w => (Region.ready .any ops l = [] → Q .normal a w) ∧
      ∀ i ∈ Region.ready .any ops l, wpOp P ops Q i (fun a' w' => (mayM ops B mk i = true → Old w w') ∧ HeldM P ops B mk Q n (l.setIfInBounds i true) a' w') a w
theorem HeldM.any : ∀ (n : Nat) (l : Array Bool) (a : Act) (w : World), HeldM P ops B mk Q n l a w → wpAny P .any ops Q n l a w
  | 0, _, _, _, h => h
  | n + 1, _, _, _, h => ⟨h.1, fun i hi => wpOp_mono (fun a' w' h' => HeldM.any n _ a' w' h'.2) (h.2 i hi)⟩
theorem HeldM.first (hB : befOk ops B = true) {i : Nat} {oi : Oper} {v : Value} (hi : ops[i]? = some oi) (hmk : mk.testBit i = false) (hdet : isEff oi.op = false)
    (hsel : ∀ (j : Nat) (o : Oper) cs b, ops[j]? = some o → o.op ≠ .select cs b)
    (hQ : ∀ c a w, Q (.panic c) (a.put oi.dst v) w → Q (.panic c) a w) {S : World → Prop} (hk : ∀ w w', S w → (pureOp oi.op = false → Old w w') → S w') : ∀ (n : Nat) (l : Array Bool) (a : Act) (w : World), Cl ops l →
      (∀ j oj, ops[j]? = some oj → j ≠ i → l.getD j true = false → (∀ e ∈ oj.after, Region.binds .any e = true → e.on ≠ i) → oi.apart ops oj = true) →
      i ∈ Region.ready .any ops l → YieldsIf P ops S oi v a → S w → HeldM P ops B mk Q n (l.setIfInBounds i true) (a.put oi.dst v) w → HeldM P ops B mk Q (n + 1) l a w := by
  intro n
  induction n with
  | zero =>
    intro l a w _ _ hr hy hS H
    refine ⟨fun h => (by rw [h] at hr; cases hr), fun j hj => ?_⟩
    by_cases hji : j = i
    · subst hji; exact hy.wpOp hi hS ⟨fun _ => Old.refl _, H⟩
    · have h1 := ready_mono hj hji
      rw [H.1] at h1
      cases h1
  | succ n ih =>
    intro l a w hcl hfree hr hy hS H
    refine ⟨fun h => (by rw [h] at hr; cases hr), fun j hj => ?_⟩
    by_cases hji : j = i
    · subst hji; exact hy.wpOp hi hS ⟨fun _ => Old.refl _, H⟩
    have h1 := H.2 j (ready_mono hj hji)
    obtain ⟨hjun, oj, hoj, hall⟩ := mem_ready.1 hj
    obtain ⟨hiun, oi', hoi', halli⟩ := mem_ready.1 hr
    rw [hi] at hoi'
    cases hoi'
    have unl : ∀ k, l.getD k true = false → l.getD k false = true → False := by
      intro k h1 h2
      rcases Nat.lt_or_ge k l.size with h' | h'
      · simp [h'] at h1 h2; rw [h1] at h2; cases h2
      · simp [Array.getElem?_eq_none h'] at h2
    have hnot : ∀ e ∈ oj.after, Region.binds .any e = true → e.on ≠ i := fun e he hb heq => unl i hiun (heq ▸ hall e he hb)
    have hmay : pureOp oi.op = false → mayM ops B mk j = true := by
      intro hpu
      refine List.any_eq_true.2 ⟨i, List.mem_range.2 (Array.getElem?_eq_some_iff.1 hi).1, ?_⟩
      have hne : (i != j) = true := by rw [bne_iff_ne]; exact fun h => hji h.symm
      have b1 : (B.getD j 0).testBit i = false := by
        rw [← Bool.not_eq_true]; exact fun h => unl i hiun (anc hB hcl j oj hoj hall i h)
      have b2 : (B.getD i 0).testBit j = false := by
        rw [← Bool.not_eq_true]; exact fun h => unl j hjun (anc hB hcl i oi hi halli j h)
      simp only [hi, Option.map_some, Option.getD_some, hdet, hpu, hne, b1, b2, hmk, Bool.or_false, Bool.not_false, Bool.and_true]
    have h2 := wpOp_putIf hoj (hfree j oj hoj hji hjun hnot) (fun cs b => hsel i oi cs b hi) (fun cs b => hsel j oj cs b hoj) hQ hy h1
    refine wpOp_mono (fun a' w' h3 => ⟨h3.2.1, ih (l.setIfInBounds j true) a' w' (hcl.set hj) (fun k ok hk hki hun hno => ?_) (ready_mono hr (Ne.symm hji)) h3.1 (hk _ _ hS fun hp => h3.2.1 (hmay hp)) ?_⟩) h2
    · refine hfree k ok hk hki ?_ hno
      by_cases hjk : j = k
      · subst hjk; exact hjun
      · rw [getD_set_ne true hjk] at hun; exact hun
    · rw [Array.setIfInBounds_comm _ _ hji]
      exact h3.2.2

theorem HeldM.first1 (hB : befOk ops B = true) {i : Nat} {oi : Oper} {v : Value} (hi : ops[i]? = some oi) (hmk : mk.testBit i = false) (hdet : isEff oi.op = false)
    (hsel : ∀ (j : Nat) (o : Oper) cs b, ops[j]? = some o → o.op ≠ .select cs b)
    (hQ : ∀ c a w, Q (.panic c) (a.put oi.dst v) w → Q (.panic c) a w) (n : Nat) (l : Array Bool) (a : Act) (w : World) (hcl : Cl ops l)
    (hfree : ∀ j oj, ops[j]? = some oj → j ≠ i → l.getD j true = false → (∀ e ∈ oj.after, Region.binds .any e = true → e.on ≠ i) → oi.apart ops oj = true)
    (hr : i ∈ Region.ready .any ops l) (hy : YieldsIf P ops (Old w) oi v a) (H : HeldM P ops B mk Q n (l.setIfInBounds i true) (a.put oi.dst v) w) : HeldM P ops B mk Q (n + 1) l a w := by
  cases hp : pureOp oi.op with
  | true =>
    refine HeldM.first hB hi hmk hdet hsel hQ (S := fun _ => True) (fun _ _ _ _ => trivial) n l a w hcl hfree hr ?_ trivial H
    rcases hy with ⟨h1, h2⟩ | h
    · exact .inl ⟨h1, fun w' _ => pureRun hp (h2 w (Old.refl w)) w'⟩
    · exact .inr h
  | false =>
    exact HeldM.first hB hi hmk hdet hsel hQ (S := Old w) (fun _ _ h1 h2 => h1.trans (h2 hp)) n l a w hcl hfree hr hy (Old.refl w) H

/-- May what this operation does be hidden from those that stand beside it? (bit 128 + i of the mask: no) -/
def qM (mk : Nat) (i : Nat) (o : Op) : Bool := qOf o && !mk.testBit (i + 128)
def stepTM (P : Program) (T : Tys) (n mk : Nat) (ops : Array Oper) (i : Nat) (fr : Fr) (H : List AB) (K : Fr → List AB → Prop) : Prop :=
  match lget ops.toList i with
  | none => False
  | some o => guardK ops.toList o fr (fun fr => stepK P T n (qM mk i o.op) o fr H K) fun fr => putK n o.dst (.v undef) fr fun fr => K fr H
def effM (ops : Array Oper) (B : List Nat) (mk : Nat) (i : Nat) : Bool := match ops[i]? with | some o => (qM mk i o.op || !mayM ops B mk i) | none => false
def treeM (ops : Array Oper) (B : List Nat) (mk : Nat) : TrM → Array Bool → Bool
  | .fin, l => (Region.ready .any ops l).isEmpty
  | .one i r, l => (match ops[i]? with
      | none => false
      | some o => match isEff o.op with
        | true => (match Region.ready .any ops l with | [j] => Nat.beq i j | _ => false) && (qM mk i o.op || !mayM ops B mk i)
        | false => match mk.testBit i with
          | true => (match Region.ready .any ops l with | [j] => Nat.beq i j | _ => false) && (qM mk i o.op || !mayM ops B mk i)
          | false => Region.free .any ops l i && (Region.ready .any ops l).contains i) && treeM ops B mk r (l.setIfInBounds i true)
  | .two i a j b, l => (match Region.ready .any ops l with | [x, y] => Nat.beq x i && Nat.beq y j | _ => false) && effM ops B mk i && effM ops B mk j && treeM ops B mk a (l.setIfInBounds i true) && treeM ops B mk b (l.setIfInBounds j true)
  | .three i a j b k d, l => (match Region.ready .any ops l with | [x, y, z] => Nat.beq x i && Nat.beq y j && Nat.beq z k | _ => false) && effM ops B mk i && effM ops B mk j && effM ops B mk k && treeM ops B mk a (l.setIfInBounds i true) && treeM ops B mk b (l.setIfInBounds j true) && treeM ops B mk d (l.setIfInBounds k true)
def opsM (P : Program) (T : Tys) (n mk : Nat) (ops : Array Oper) : TrM → Fr → List AB → (Fr → List AB → Prop) → Prop
  | .fin, fr, H, K => K fr H
  | .one i r, fr, H, K => stepTM P T n mk ops i fr H fun fr H => opsM P T n mk ops r fr H K
  | .two i a j b, fr, H, K => (stepTM P T n mk ops i fr H fun fr H => opsM P T n mk ops a fr H K) ∧ (stepTM P T n mk ops j fr H fun fr H => opsM P T n mk ops b fr H K)
  | .three i a j b k d, fr, H, K => (stepTM P T n mk ops i fr H fun fr H => opsM P T n mk ops a fr H K) ∧ (stepTM P T n mk ops j fr H fun fr H => opsM P T n mk ops b fr H K) ∧ (stepTM P T n mk ops k fr H fun fr H => opsM P T n mk ops d fr H K)
variable {T : Tys} {w0 : Fl} {M0 : Ms} {n d0 : Nat} {ce : Ctx}
theorem effM_sound (hT : TOk P T) {i : Nat} {o : Oper} (ho : ops[i]? = some o) {m : Nat} {l : Array Bool} (hmq : (qM mk i o.op || !mayM ops B mk i) = true) {c : Ctx} {fr : Fr} {H : List AB} {a : Act} (hs : HS w0 M0 c H) (hf : FR w0 c n fr a) (he : Ext ce c) {K : Fr → List AB → Prop}
    (hk : ∀ (c' : Ctx) (fr' : Fr) (H' : List AB) (a' : Act), HS w0 M0 c' H' → FR w0 c' n fr' a' → Ext ce c' → K fr' H' → HeldM P ops B mk Q m (l.setIfInBounds i true) a' c'.w)
    (h : stepTM P T n mk ops i fr H K) : wpOp P ops Q i (fun a' w' => (mayM ops B mk i = true → Old c.w w') ∧ HeldM P ops B mk Q m (l.setIfInBounds i true) a' w') a c.w := by
  simp only [stepTM, lget_eq] at h
  rw [show ops.toList[i]? = some o by simpa using ho] at h
  simp only at h
  refine wpOp_step ho fun KK hK => ?_
  rcases guardK_sound hf h with ⟨hw, fr', hf', h⟩ | ⟨hw, fr', hf', h⟩
  · rw [if_pos hw]
    refine stepK_sound hT hs hf' he h ?_
    rintro a' w' ⟨c', fr2, H', rfl, h1, h2, h3, h4⟩ hold
    refine hK _ _ ⟨fun hmay => hold ?_, hk c' fr2 H' a' h2 h3 h4 h1⟩
    rw [hmay] at hmq
    simpa using hmq
  · rw [if_neg (by rw [hw]; simp)]
    obtain ⟨fr2, h1, h2⟩ := putK_sound (v := undef) hf' (by simp [Rd]) h
    exact hK _ _ ⟨fun _ => Old.refl _, hk c fr2 H _ hs h2 he h1⟩
theorem opsM_sound (hT : TOk P T) (hB : befOk ops B = true) (hns : Region.noSelect ops = true) {K : Fr → List AB → Prop} (hq : ∀ a w, Lift w0 M0 ce n K a w → Q .normal a w) (hpan : ∀ c a w, ¬ Q (.panic c) a w) :
    ∀ (r : TrM) (m : Nat) (l : Array Bool) (c : Ctx) (fr : Fr) (H : List AB) (a : Act), r.depth ≤ m → Cl ops l → treeM ops B mk r l = true → HS w0 M0 c H → FR w0 c n fr a → Ext ce c → opsM P T n mk ops r fr H K → HeldM P ops B mk Q m l a c.w
  | .fin, m, l, c, fr, H, a, hm, hcl, hd, hs, hf, he, h => by
    simp only [treeM, List.isEmpty_iff] at hd
    cases m with
    | zero => exact ⟨hd, hq _ _ ⟨c, fr, H, rfl, h, hs, hf, he⟩⟩
    | succ m => exact ⟨fun _ => hq _ _ ⟨c, fr, H, rfl, h, hs, hf, he⟩, by rw [hd]; simp⟩
  | .two i x j y, m, l, c, fr, H, a, hm, hcl, hd, hs, hf, he, h => by
    cases m with
    | zero => simp [TrM.depth] at hm
    | succ m =>
      simp only [TrM.depth] at hm
      simp only [treeM, Bool.and_eq_true] at hd
      obtain ⟨⟨⟨⟨hr, hi⟩, hj⟩, hx⟩, hy⟩ := hd
      have hr' : Region.ready .any ops l = [i, j] := by
        split at hr
        · rename_i p q hpq
          simp only [Bool.and_eq_true] at hr
          rw [hpq, Nat.eq_of_beq_eq_true hr.1, Nat.eq_of_beq_eq_true hr.2]
        · cases hr
      obtain ⟨h1, h2⟩ := h
      have go : ∀ k r, effM ops B mk k = true → r.depth ≤ m → k ∈ Region.ready .any ops l → treeM ops B mk r (l.setIfInBounds k true) = true → (stepTM P T n mk ops k fr H fun fr H => opsM P T n mk ops r fr H K) → (∀ (c : Ctx) (fr : Fr) (H : List AB) (a : Act), HS w0 M0 c H → FR w0 c n fr a → Ext ce c → opsM P T n mk ops r fr H K → HeldM P ops B mk Q m (l.setIfInBounds k true) a c.w) →
          wpOp P ops Q k (fun a' w' => (mayM ops B mk k = true → Old c.w w') ∧ HeldM P ops B mk Q m (l.setIfInBounds k true) a' w') a c.w := by
        intro k r hk _ _ _ hst hrec
        unfold effM at hk
        split at hk
        · rename_i o ho
          exact effM_sound hT ho hk hs hf he hrec hst
        · cases hk
      refine ⟨fun h0 => (by rw [hr'] at h0; cases h0), fun k hk => ?_⟩
      have hi' : i ∈ Region.ready .any ops l := by rw [hr']; simp
      have hj' : j ∈ Region.ready .any ops l := by rw [hr']; simp
      rw [hr', List.mem_cons, List.mem_singleton] at hk
      rcases hk with rfl | rfl
      · exact go k x hi (by omega) hi' hx h1 fun c' fr' H' a' q1 q2 q3 q4 => opsM_sound hT hB hns hq hpan x m _ c' fr' H' a' (by omega) (hcl.set hi') hx q1 q2 q3 q4
      · exact go k y hj (by omega) hj' hy h2 fun c' fr' H' a' q1 q2 q3 q4 => opsM_sound hT hB hns hq hpan y m _ c' fr' H' a' (by omega) (hcl.set hj') hy q1 q2 q3 q4
  | .three i x j y k0 z, m, l, c, fr, H, a, hm, hcl, hd, hs, hf, he, h => by
    cases m with
    | zero => simp [TrM.depth] at hm
    | succ m =>
      simp only [TrM.depth] at hm
      simp only [treeM, Bool.and_eq_true] at hd
      obtain ⟨⟨⟨⟨⟨⟨hr, hi⟩, hj⟩, hk0⟩, hx⟩, hy⟩, hz⟩ := hd
      have hr' : Region.ready .any ops l = [i, j, k0] := by
        split at hr
        · rename_i p q u hpq
          simp only [Bool.and_eq_true] at hr
          rw [hpq, Nat.eq_of_beq_eq_true hr.1.1, Nat.eq_of_beq_eq_true hr.1.2, Nat.eq_of_beq_eq_true hr.2]
        · cases hr
      obtain ⟨h1, h2, h3⟩ := h
      have go : ∀ k r, effM ops B mk k = true → r.depth ≤ m → k ∈ Region.ready .any ops l → treeM ops B mk r (l.setIfInBounds k true) = true → (stepTM P T n mk ops k fr H fun fr H => opsM P T n mk ops r fr H K) → (∀ (c : Ctx) (fr : Fr) (H : List AB) (a : Act), HS w0 M0 c H → FR w0 c n fr a → Ext ce c → opsM P T n mk ops r fr H K → HeldM P ops B mk Q m (l.setIfInBounds k true) a c.w) →
          wpOp P ops Q k (fun a' w' => (mayM ops B mk k = true → Old c.w w') ∧ HeldM P ops B mk Q m (l.setIfInBounds k true) a' w') a c.w := by
        intro k r hk _ _ _ hst hrec
        unfold effM at hk
        split at hk
        · rename_i o ho
          exact effM_sound hT ho hk hs hf he hrec hst
        · cases hk
      refine ⟨fun h0 => (by rw [hr'] at h0; cases h0), fun k hk => ?_⟩
      have hi' : i ∈ Region.ready .any ops l := by rw [hr']; simp
      have hj' : j ∈ Region.ready .any ops l := by rw [hr']; simp
      have hk' : k0 ∈ Region.ready .any ops l := by rw [hr']; simp
      rw [hr', List.mem_cons, List.mem_cons, List.mem_singleton] at hk
      rcases hk with rfl | rfl | rfl
      · exact go k x hi (by omega) hi' hx h1 fun c' fr' H' a' q1 q2 q3 q4 => opsM_sound hT hB hns hq hpan x m _ c' fr' H' a' (by omega) (hcl.set hi') hx q1 q2 q3 q4
      · exact go k y hj (by omega) hj' hy h2 fun c' fr' H' a' q1 q2 q3 q4 => opsM_sound hT hB hns hq hpan y m _ c' fr' H' a' (by omega) (hcl.set hj') hy q1 q2 q3 q4
      · exact go k z hk0 (by omega) hk' hz h3 fun c' fr' H' a' q1 q2 q3 q4 => opsM_sound hT hB hns hq hpan z m _ c' fr' H' a' (by omega) (hcl.set hk') hz q1 q2 q3 q4
  | .one i r, m, l, c, fr, H, a, hm, hcl, hd, hs, hf, he, h => by
    cases m with
    | zero => simp [TrM.depth] at hm
    | succ m =>
      simp only [TrM.depth, Nat.add_le_add_iff_right] at hm
      simp only [treeM, Bool.and_eq_true] at hd
      obtain ⟨hd1, hd2⟩ := hd
      simp only [opsM] at h
      cases ho : ops[i]? with
      | none => rw [ho] at hd1; simp at hd1
      | some o =>
        rw [ho] at hd1
        simp only at hd1
        cases hE : isEff o.op with
        | true =>
          rw [hE] at hd1
          simp only [Bool.and_eq_true] at hd1
          obtain ⟨hr, hmq⟩ := hd1
          have hr' : Region.ready .any ops l = [i] := by
            split at hr
            · rename_i j hj; rw [hj, Nat.eq_of_beq_eq_true hr]
            · cases hr
          have hri : i ∈ Region.ready .any ops l := by rw [hr']; simp
          refine ⟨fun h0 => (by rw [hr'] at h0; cases h0), fun j hj => ?_⟩
          rw [hr', List.mem_singleton] at hj
          subst hj
          exact effM_sound hT ho hmq hs hf he (fun c' fr' H' a' q1 q2 q3 q4 => opsM_sound hT hB hns hq hpan r m _ c' fr' H' a' hm (hcl.set hri) hd2 q1 q2 q3 q4) h
        | false =>
          rw [hE] at hd1
          dsimp only at hd1
          cases hM : mk.testBit i with
          | true =>
            rw [hM] at hd1
            simp only [Bool.and_eq_true] at hd1
            obtain ⟨hr, hmq⟩ := hd1
            have hr' : Region.ready .any ops l = [i] := by
              split at hr
              · rename_i j hj; rw [hj, Nat.eq_of_beq_eq_true hr]
              · cases hr
            have hri : i ∈ Region.ready .any ops l := by rw [hr']; simp
            refine ⟨fun h0 => (by rw [hr'] at h0; cases h0), fun j hj => ?_⟩
            rw [hr', List.mem_singleton] at hj
            subst hj
            exact effM_sound hT ho hmq hs hf he (fun c' fr' H' a' q1 q2 q3 q4 => opsM_sound hT hB hns hq hpan r m _ c' fr' H' a' hm (hcl.set hri) hd2 q1 q2 q3 q4) h
          | false =>
          rw [hM] at hd1
          simp only [Bool.and_eq_true] at hd1
          obtain ⟨hfree, hr⟩ := hd1
          have hri : i ∈ Region.ready .any ops l := by simpa using hr
          simp only [stepTM, lget_eq] at h
          rw [show ops.toList[i]? = some o by simpa using ho] at h
          simp only at h
          have step : ∀ v fr2, YieldsIf P ops (Old c.w) o v a → FR w0 c n fr2 (a.put o.dst v) → opsM P T n mk ops r fr2 H K → HeldM P ops B mk Q (m + 1) l a c.w := by
            intro v fr2 hy hf2 h2
            exact HeldM.first1 hB ho hM hE (Region.noSelect_spec hns) (fun c a w h => (hpan _ _ _ h).elim) m l a c.w hcl (Region.free_spec ho hfree) hri hy
              (opsM_sound hT hB hns hq hpan r m _ c fr2 H _ hm (hcl.set hri) hd2 hs hf2 he h2)
          rcases guardK_sound hf h with ⟨hw, fr', hf', h⟩ | ⟨hw, fr', hf', h⟩
          · unfold stepK at h
            rw [hE] at h
            obtain ⟨rr, v, h1, h2, h3⟩ := (det_sound hT hs hf' h).y
            obtain ⟨fr2, h4, h5⟩ := putK_sound hf' h3 h1
            exact step v fr2 (.inl ⟨hw, h2⟩) h5 h4
          · obtain ⟨fr2, h4, h5⟩ := putK_sound (v := undef) hf' (by simp [Rd]) h
            exact step undef fr2 (.inr ⟨hw, rfl⟩) h5 h4
def treeAllM (ops : Array Oper) (mk : Nat) (tr : TrM) : Bool := befOk ops (befC ops) && Region.noSelect ops && Nat.ble tr.depth ops.size && treeM ops (befC ops) mk tr (Array.replicate ops.size false)
theorem aDraw.treeM (mk : Nat) (hT : TOk P T) (hm : P.follows .mixedOrders = true) {id : Nat} {K : Fr → List AB → Prop} {fr : Fr} {H : List AB} (tr : TrM) (ds : List Nat) {F : Fr} {H2 : List AB} (hok : treeAllM ops mk tr = true)
    (h : opsM P T n mk ops tr fr H fun fr' H' => canonK (ds ++ slots fr) fr' fun l => l = F ∧ H' = H2) (hk : K F H2) : aDraw P T n d0 id ops K fr H := by
  simp only [treeAllM, Bool.and_eq_true] at hok
  obtain ⟨⟨⟨hB, hns⟩, hlen⟩, hok⟩ := hok
  refine ⟨fun w0 M0 ce c a hs hf he hd Q hQ => ?_⟩
  refine wp_mono (Q := fun e a w => e = .normal ∧ Lift w0 M0 ce n (fun fr' H' => canonK (ds ++ slots fr) fr' fun l => l = F ∧ H' = H2) a w) ?_ ?_
  · refine wp_region_any hm (HeldM.any (B := befC ops) (mk := mk) _ _ _ _ ?_)
    have hb := (Below.refl c.w.heap.size c.w).drew
    obtain ⟨h1, h2⟩ := hs.grow hb
    refine opsM_sound (w0 := w0) (M0 := M0) (ce := ce) hT hB hns (fun a w hl => ⟨rfl, hl⟩) (fun c a w h => by cases h.1) tr _ _ { c with w := c.w.drew } fr H a (Nat.le_of_ble_eq_true hlen) ?_ hok h1 (hf.ext h2) (he.trans h2) h
    intro j o hj hlj
    rcases Nat.lt_or_ge j ops.size with h' | h'
    · simp [h'] at hlj
    · simp [Array.getElem?_eq_none h'] at hj
  · rintro e a w ⟨rfl, c', fr', H', rfl, h1, h2, h3, h4⟩
    obtain ⟨e1, rfl⟩ := canonK_iff h1
    exact hQ c' F H' a hk h2 (e1 ▸ h3.canon _) h4
/-- The ways are gone each to its own end. -/
theorem aDraw.treeK (mk : Nat) (hT : TOk P T) (hm : P.follows .mixedOrders = true) {id : Nat} {K : Fr → List AB → Prop} {fr : Fr} {H : List AB} (tr : TrM) (hok : treeAllM ops mk tr = true)
    (h : opsM P T n mk ops tr fr H K) : aDraw P T n d0 id ops K fr H := by
  simp only [treeAllM, Bool.and_eq_true] at hok
  obtain ⟨⟨⟨hB, hns⟩, hlen⟩, hok⟩ := hok
  refine ⟨fun w0 M0 ce c a hs hf he hd Q hQ => ?_⟩
  refine wp_mono (Q := fun e a w => e = .normal ∧ Lift w0 M0 ce n K a w) ?_ ?_
  · refine wp_region_any hm (HeldM.any (B := befC ops) (mk := mk) _ _ _ _ ?_)
    have hb := (Below.refl c.w.heap.size c.w).drew
    obtain ⟨h1, h2⟩ := hs.grow hb
    refine opsM_sound (w0 := w0) (M0 := M0) (ce := ce) hT hB hns (fun a w hl => ⟨rfl, hl⟩) (fun c a w h => by cases h.1) tr _ _ { c with w := c.w.drew } fr H a (Nat.le_of_ble_eq_true hlen) ?_ hok h1 (hf.ext h2) (he.trans h2) h
    intro j o hj hlj
    rcases Nat.lt_or_ge j ops.size with h' | h'
    · simp [h'] at hlj
    · simp [Array.getElem?_eq_none h'] at hj
  · rintro e a w ⟨rfl, c', fr', H', rfl, h1, h2, h3, h4⟩
    exact hQ c' fr' H' a h1 h2 h3 h4
end
end Go.Proofs.Ytjcboeldmgmfcaa.A
end

/-
Package hand: handles as plain data; copies in memory of the caller's own.
-/
section
namespace Go.Proofs.Ytjcboeldmgmfcaa.A
open Go.RowKit

structure Hd where
  id : Int
  lbas : List Int
  blocks : List (List UInt8)
deriving DecidableEq
def rowsA (l : List (List UInt8)) : AV := .sl 1 l.length fun i => [bA (l.getD i [])]
def hdC (h : Hd) : List AV := [.v (.int .i64 h.id), iA h.lbas, rowsA h.blocks]
def hdsA (l : List Hd) : AV := .sl 3 l.length fun i => hdC (l.getD i ⟨0, [], []⟩)
def icC (x : Int) : List AV := [.v (.int .i64 x)]
def bcC (b : List UInt8) : List AV := [bA b]
theorem range_map {α : Type} {d : α} {β : Type} (f : α → β) (l : List α) : (List.range l.length).map (fun i => f (l.getD i d)) = l.map f := by
  refine List.ext_getElem (by simp) fun i h1 h2 => ?_
  simp only [List.length_map, List.length_range] at h1
  simp [List.getD_eq_getElem?_getD, List.getElem?_eq_getElem h1]

set_option maxRecDepth 100000 in
theorem iclone_own (l : List Int) (hl : l.length ≤ 1000000000) : ACalls Try.prog false 58 [iA l] [] fun r H => r = .ow 0 l.length ∧ H = [.row 3 1 (l.map icC)] := by
  refine ACalls.ofC tys_ok Try.func58 rfl rfl (by show 1 ≤ _; decide) ?_
  conv => whnf
  refine And.intro (fun h => ?_) ?_
  · conv => whnf
    have h0 := List.length_eq_zero_iff.1 h
    subst h0
    exact ⟨_, .ow 0 0, [.row 3 1 []], fun _ _ h => h, Wk.conv ⟨[(0, 3, 1)], ⟨rfl, rfl, trivial⟩, ⟨rfl, trivial⟩, ⟨rfl, trivial⟩, rfl, rfl, rfl⟩, rfl, rfl⟩
  · conv => whnf
    refine And.intro ⟨rfl, by omega⟩ ?_
    conv => whnf
    exact ⟨.ow 0 l.length, .ow 0 l.length, [.row 3 1 (l.map icC)], fun _ _ h => by rwa [Nat.zero_add] at h, Wk.conv ⟨[], trivial, ⟨rfl, trivial⟩, ⟨(congrArg (AB.row _ _) (range_map (d := 0) icC l)).symm, trivial⟩, rfl, rfl, rfl⟩, rfl, rfl⟩
set_option maxRecDepth 100000 in
theorem rclone_own (l : List (List UInt8)) (hl : l.length ≤ 1000000000) : ACalls Try.prog false 59 [rowsA l] [] fun r H => r = .ow 0 l.length ∧ H = [.row 23 1 (l.map bcC)] := by
  refine ACalls.ofC tys_ok Try.func59 rfl rfl (by show 1 ≤ _; decide) ?_
  conv => whnf
  refine And.intro (fun h => ?_) ?_
  · conv => whnf
    have h0 := List.length_eq_zero_iff.1 h
    subst h0
    exact ⟨_, .ow 0 0, [.row 23 1 []], fun _ _ h => h, Wk.conv ⟨[(0, 23, 1)], ⟨rfl, rfl, trivial⟩, ⟨rfl, trivial⟩, ⟨rfl, trivial⟩, rfl, rfl, rfl⟩, rfl, rfl⟩
  · conv => whnf
    refine And.intro ⟨rfl, by omega⟩ ?_
    conv => whnf
    exact ⟨.ow 0 l.length, .ow 0 l.length, [.row 23 1 (l.map bcC)], fun _ _ h => by rwa [Nat.zero_add] at h, Wk.conv ⟨[], trivial, ⟨rfl, trivial⟩, ⟨(congrArg (AB.row _ _) (range_map (d := []) bcC l)).symm, trivial⟩, rfl, rfl, rfl⟩, rfl, rfl⟩
set_option maxRecDepth 100000 in
theorem hclone_own (l : List Hd) (hl : l.length ≤ 1000000000) : ACalls Try.prog false 44 [hdsA l] [] fun r H => r = .ow 0 l.length ∧ H = [.row 36 3 (l.map hdC)] := by
  refine ACalls.ofC tys_ok Try.func44 rfl rfl (by show 1 ≤ _; decide) ?_
  conv => whnf
  refine And.intro (fun h => ?_) ?_
  · conv => whnf
    have h0 := List.length_eq_zero_iff.1 h
    subst h0
    exact ⟨_, .ow 0 0, [.row 36 3 []], fun _ _ h => h, Wk.conv ⟨[(0, 36, 3)], ⟨rfl, rfl, trivial⟩, ⟨rfl, trivial⟩, ⟨rfl, trivial⟩, rfl, rfl, rfl⟩, rfl, rfl⟩
  · conv => whnf
    refine And.intro ⟨rfl, by omega⟩ ?_
    conv => whnf
    exact ⟨.ow 0 l.length, .ow 0 l.length, [.row 36 3 (l.map hdC)], fun _ _ h => by rwa [Nat.zero_add] at h, Wk.conv ⟨[], trivial, ⟨rfl, trivial⟩, ⟨(congrArg (AB.row _ _) (range_map (d := ⟨0, [], []⟩) hdC l)).symm, trivial⟩, rfl, rfl, rfl⟩, rfl, rfl⟩
end Go.Proofs.Ytjcboeldmgmfcaa.A
end

/-
Copies of slices: bytes.Clone and slices.Clone.
-/
section
namespace Go.Proofs.Ytjcboeldmgmfcaa.A
open Go.RowKit

set_option maxRecDepth 100000 in
theorem bclone_fn (b : List UInt8) (hb : b.length ≤ 1000000000) : Fn Try.prog 29 [bA b] fun r => r = bA b := by
  refine Fn.of tys_ok Try.func29 rfl rfl (Nat.le_of_ble_eq_true rfl) ?_
  conv => whnf
  refine And.intro (fun h => ?_) ?_
  · conv => whnf
    exact ⟨bA b, fun c v hv => by rw [List.length_eq_zero_iff.1 h]; exact nil_sl 1 _ c v hv, rfl⟩
  · conv => whnf
    refine And.intro ⟨rfl, by omega⟩ ?_
    conv => whnf
    refine And.intro (by simp) ?_
    conv => whnf
    exact ⟨bA b, fun c v hv => Rd.congr (by omega) (fun i hi => getD_range (by omega)) hv, rfl⟩
end Go.Proofs.Ytjcboeldmgmfcaa.A
end

/-
Package hand: a handle, handles in memory of the caller's own.
-/
section
namespace Go.Proofs.Ytjcboeldmgmfcaa.A
open Go.RowKit

theorem set_self {α β : Type} {d : α} (f : α → β) (l : List α) (k : Nat) : (l.map f).set k (f (l.getD k d)) = l.map f := by
  by_cases h : k < l.length
  · rw [List.getD_eq_getElem?_getD, List.getElem?_eq_getElem h]
    apply List.ext_getElem (by simp)
    intro i h1 h2
    rw [List.getElem_set]
    split
    · rename_i e; subst e; simp
    · rfl
  · rw [List.set_eq_of_length_le (by simp; omega)]
set_option maxRecDepth 100000 in
theorem htwin_own (h : Hd) (hl : h.lbas.length ≤ 1000) (hb : h.blocks.length ≤ 1000) (hbb : ∀ b ∈ h.blocks, b.length ≤ 1000000) :
    ACalls Try.prog false 45 [.ag (hdC h)] [] fun r H => r = .ag [.v (.int .i64 h.id), .ow 2 h.lbas.length, .ow 3 h.blocks.length] ∧ H = [.dead, .dead, .row 3 1 (h.lbas.map icC), .row 23 1 (h.blocks.map bcC)] := by
  refine ACalls.ofC tys_ok Try.func45 rfl rfl (Nat.le_of_ble_eq_true rfl) ?_
  conv => whnf
  apply aDraw.tree tys_ok mixed (.one 0 (.one 1 (.one 3 (.one 4 (.one 2 (.one 6 (.one 5 (.one 7 (.one 8 (.one 9 .fin)))))))))) [5, 6, 7, 8, 9, 10, 11, 12] (by kernel_rfl)
  · conv => whnf
    (refine ACalls.beside (iclone_own h.lbas (by omega)) rfl ?_; rintro _ _ ⟨rfl, rfl⟩)
    conv => whnf
    (refine ACalls.beside (rclone_own h.blocks (by omega)) rfl ?_; rintro _ _ ⟨rfl, rfl⟩)
    conv => whnf
    try (refine And.intro ⟨rfl, by first | rfl | (simp; done) | (simp; omega), by first | omega | (simp; omega)⟩ ?_; conv => whnf)
    try (refine And.intro ⟨rfl, by first | rfl | (simp; done) | (simp; omega), by first | omega | (simp; omega)⟩ ?_; conv => whnf)
    exact ⟨rfl, rfl⟩
  conv => whnf
  refine aLoop.rule Nat (fun k => ([(1, .bp 0 0), (2, .bp 1 0), (14, .ow 3 h.blocks.length), (15, .v (.int .i64 h.blocks.length)), (16, .v (.int .i64 k))], [.box 36 [.v (.int .i64 h.id), .ow 2 h.lbas.length, .ow 3 h.blocks.length], .box 36 [.v (.int .i64 0), .v (.slice none 0 0), .v (.slice none 0 0)], .row 3 1 (h.lbas.map icC), .row 23 1 (h.blocks.map bcC)])) (fun k => k ≤ h.blocks.length) (fun k => h.blocks.length - k) 0 (Nat.zero_le _) ⟨[], trivial, ⟨rfl, rfl, rfl, rfl, rfl, trivial⟩, ⟨rfl, rfl, rfl, rfl, trivial⟩, rfl, rfl, rfl⟩ ?_
  rintro k hk
  conv => whnf
  refine boolI (fun h2 => ?_) (fun h2 => ?_) <;> (repeat rw [Int.toNat_natCast] at h2) <;> conv => whnf
  · have hk' : k < h.blocks.length := by omega
    have hE : (h.blocks.map bcC).getD k [] = bcC (h.blocks.getD k []) := map_getD hk'
    refine ⟨by first | omega | (refine ⟨rfl, ?_, ?_⟩ <;> first | omega | (simp only [List.length_map]; done) | (simp only [List.length_map]; omega)) | (simp only [List.length_map]; omega), ?_⟩
    conv => whnf
    refine And.intro ⟨rfl, (List.length_map _).symm, by simpa using hk'⟩ ?_
    conv => whnf
    rw [show ((k : Int)).toNat = k from Int.toNat_natCast k, hE]
    conv => whnf
    apply aDraw.tree tys_ok mixed (.one 0 (.one 1 (.one 2 (.one 3 (.one 4 (.one 5 (.one 6 .fin))))))) [21, 22, 23, 24, 25, 26] (by kernel_rfl)
    · conv => whnf
      refine Fn.closed (bclone_fn (h.blocks.getD k []) (by have := hbb _ (getD_mem (d := []) hk'); omega)) rfl ?_
      rintro _ rfl
      conv => whnf
      try (refine And.intro (by first | omega | (simp; done)) ?_; conv => whnf)
      try (refine And.intro ⟨rfl, by first | rfl | (simp; done) | (simp; omega), by first | omega | (simp; omega)⟩ ?_; conv => whnf)
      (rw [Int.toNat_natCast, hE])
      conv => whnf
      exact ⟨rfl, rfl⟩
    conv => whnf
    refine ⟨k + 1, by omega, by omega, [], trivial, ⟨rfl, rfl, rfl, rfl, wsucc (by omega), trivial⟩, ⟨rfl, rfl, rfl, ?_, trivial⟩, rfl, rfl, rfl⟩
    exact congrArg (AB.row _ _) (set_self (d := []) bcC h.blocks k).symm
  · conv => whnf
    exact ⟨.ag [.v (.int .i64 h.id), .ow 2 h.lbas.length, .ow 3 h.blocks.length], _, [.dead, .dead, .row 3 1 (h.lbas.map icC), .row 23 1 (h.blocks.map bcC)], fun _ _ h => h, Wk.conv ⟨[], trivial, ⟨rfl, trivial⟩, ⟨rfl, rfl, trivial⟩, rfl, rfl, rfl⟩, rfl, rfl⟩
end Go.Proofs.Ytjcboeldmgmfcaa.A
end

/-
Numbers that rise: plain laws.
-/
section
namespace Go.Proofs.Ytjcboeldmgmfcaa.A
open Go.RowKit

theorem allR_succ (p : Nat → Bool) (k : Nat) : (List.range (k + 1)).all p = ((List.range k).all p && p k) := by
  rw [List.range_succ, List.all_append]; simp
theorem allR_no {p : Nat → Bool} {k n : Nat} (hk : k < n) (h : p k = false) : (List.range n).all p = false := by
  rw [List.all_eq_false]; exact ⟨k, List.mem_range.2 hk, by rw [h]; simp⟩
theorem allR_get {p : Nat → Bool} {n : Nat} (h : (List.range n).all p = true) {k : Nat} (hk : k < n) : p k = true := List.all_eq_true.1 h k (List.mem_range.2 hk)
/-- Numbers rise, from 0 on. -/
def risK (l : List Int) (i : Nat) : Bool := decide (0 ≤ l.getD i 0) && (decide (i = 0) || decide (l.getD (i - 1) 0 < l.getD i 0))
def ris (l : List Int) : Bool := (List.range l.length).all (risK l)
theorem ris_pos {l : List Int} (h : ris l = true) {i : Nat} (hi : i < l.length) : 0 ≤ l.getD i 0 := by
  have := allR_get h hi
  simp only [risK, Bool.and_eq_true, decide_eq_true_eq] at this
  exact this.1
theorem ris_adj {l : List Int} (h : ris l = true) {i : Nat} (hi : i + 1 < l.length) : l.getD i 0 < l.getD (i + 1) 0 := by
  have := allR_get h hi
  simp only [risK, Bool.and_eq_true, Bool.or_eq_true, decide_eq_true_eq] at this
  rcases this.2 with h | h
  · omega
  · simpa using h
theorem ris_lt {l : List Int} (h : ris l = true) {i j : Nat} (hij : i < j) (hj : j < l.length) : l.getD i 0 < l.getD j 0 := by
  induction j with
  | zero => omega
  | succ j ih =>
    have h1 := ris_adj h hj
    by_cases e : i = j
    · subst e; exact h1
    · have := ih (by omega) (by omega); omega
theorem ris_le {l : List Int} (h : ris l = true) {i j : Nat} (hij : i ≤ j) (hj : j < l.length) : l.getD i 0 ≤ l.getD j 0 := by
  rcases Nat.lt_or_eq_of_le hij with h1 | h1
  · exact Int.le_of_lt (ris_lt h h1 hj)
  · rw [h1]; exact Int.le_refl _
/-- How many are less. -/
def lb (l : List Int) (x : Int) : Nat := l.countP (· < x)
theorem lb_of {l : List Int} {i : Nat} {x : Int} (hi : i ≤ l.length) (h1 : ∀ j, j < i → l.getD j 0 < x) (h2 : ∀ j, i ≤ j → j < l.length → x ≤ l.getD j 0) : lb l x = i := by
  unfold lb
  have e : l = l.take i ++ l.drop i := (List.take_append_drop i l).symm
  rw [e, List.countP_append]
  have a : (l.take i).countP (· < x) = (l.take i).length := List.countP_eq_length.2 fun y hy => by
    obtain ⟨j, hj, rfl⟩ := List.mem_iff_getElem.1 hy
    simp only [List.length_take] at hj
    have := h1 j (by omega)
    rw [List.getD_eq_getElem?_getD, List.getElem?_eq_getElem (by omega)] at this
    simpa using this
  have b : (l.drop i).countP (· < x) = 0 := List.countP_eq_zero.2 fun y hy => by
    obtain ⟨j, hj, rfl⟩ := List.mem_iff_getElem.1 hy
    simp only [List.length_drop] at hj
    have := h2 (i + j) (by omega) (by omega)
    rw [List.getD_eq_getElem?_getD, List.getElem?_eq_getElem (by omega)] at this
    simp only [List.getElem_drop, decide_eq_true_eq]
    simp at this; omega
  rw [a, b, List.length_take]; omega
end Go.Proofs.Ytjcboeldmgmfcaa.A
end

/-
Where the first element of a list is that something holds of.
-/
section
namespace Go.Proofs.Ytjcboeldmgmfcaa.A
open Go.RowKit

def ixI {α : Type} (p : α → Bool) (l : List α) : Int := if l.any p then ((l.findIdx p : Nat) : Int) else -1
theorem ixI_hit {α : Type} {p : α → Bool} {l : List α} {k : Nat} {d : α} (hk : k < l.length) (h : (l.take k).any p = false) (hp : p (l.getD k d) = true) : ixI p l = k := by
  rw [List.getD_eq_getElem?_getD, List.getElem?_eq_getElem hk] at hp
  have hp : p l[k] = true := hp
  unfold ixI
  rw [List.any_eq_true.2 ⟨l[k], List.getElem_mem hk, hp⟩]
  simp only [if_true, Int.natCast_inj]
  refine (List.findIdx_eq hk).2 ⟨hp, fun j hj => ?_⟩
  rw [List.any_eq_false] at h
  have := h l[j] (List.mem_take_iff_getElem.2 ⟨j, by omega, rfl⟩)
  simpa using this
theorem ixI_none {α : Type} {p : α → Bool} {l : List α} (h : l.any p = false) : ixI p l = -1 := by
  unfold ixI; rw [h]; rfl
theorem ixI_ge {α : Type} {p : α → Bool} {l : List α} : decide (0 ≤ ixI p l) = l.any p := by
  unfold ixI
  cases h : l.any p with
  | true => simp
  | false => rfl
theorem ixI_lt {α : Type} {p : α → Bool} {l : List α} (h : l.any p = true) : ixI p l = (l.findIdx p : Nat) ∧ l.findIdx p < l.length := by
  refine ⟨by unfold ixI; rw [h]; rfl, ?_⟩
  obtain ⟨x, hx, hp⟩ := List.any_eq_true.1 h
  exact List.findIdx_lt_length_of_exists ⟨x, hx, hp⟩
theorem any_take_succ {α : Type} {p : α → Bool} {l : List α} {k : Nat} {d : α} (hk : k < l.length) (h : (l.take k).any p = false) (hp : p (l.getD k d) = false) : (l.take (k + 1)).any p = false := by
  rw [List.take_succ_eq_append_getElem hk, List.any_append, h]
  rw [List.getD_eq_getElem?_getD, List.getElem?_eq_getElem hk] at hp
  simpa using hp
end Go.Proofs.Ytjcboeldmgmfcaa.A
end

/-
Package hand: whether handles are right, where one is.
-/
section
namespace Go.Proofs.Ytjcboeldmgmfcaa.A
open Go.RowKit

theorem rising_fn (l : List Int) (hl : l.length ≤ 1000) : Fn Try.prog 37 [iA l] fun r => r = .v (.bool (ris l)) := by
  refine Fn.of tys_ok Try.func37 rfl rfl (Nat.le_of_ble_eq_true rfl) ?_
  conv => whnf
  refine aLoop.rule Nat (fun k => ([(0, iA l), (5, iA l), (6, .v (.int .i64 l.length)), (7, .v (.int .i64 k))], [])) (fun k => k ≤ l.length ∧ (List.range k).all (risK l) = true) (fun k => l.length - k) 0 ⟨Nat.zero_le _, by simp⟩ ⟨[], trivial, ⟨rfl, rfl, rfl, rfl, trivial⟩, trivial, rfl, rfl, rfl⟩ ?_
  rintro k ⟨hk, hI⟩
  conv => whnf
  refine boolK_intro (fun h2 => ?_) (fun h2 => ?_) <;> simp at h2 <;> conv => whnf
  · refine ⟨by first | omega | (refine ⟨rfl, ?_, ?_⟩ <;> first | omega | (simp only [List.length_map]; done) | (simp only [List.length_map]; omega)) | (simp only [List.length_map]; omega), ?_⟩
    conv => whnf
    have e0 : ∀ b, risK l k = b → b = false → ris l = false := fun b e1 e2 => allR_no h2 (by rw [e1, e2])
    have wr : ∀ b, risK l k = b → b = true → (List.range (k + 1)).all (risK l) = true := fun b e1 e2 => by rw [allR_succ, hI, e1, e2]; rfl
    refine boolK_intro (fun h3 => ?_) (fun h3 => ?_) <;> conv => whnf
    · exact ⟨_, fun _ _ h => h, by rw [e0 _ rfl (by simp only [Int.toNat_natCast, decide_eq_true_eq] at h3; rw [risK, decide_eq_false (show ¬ 0 ≤ l.getD k 0 by omega), Bool.false_and])]⟩
    refine boolK_intro (fun h4 => ?_) (fun h4 => ?_) <;> conv => whnf
    · simp only [Int.toNat_natCast, decide_eq_true_eq, decide_eq_false_iff_not] at h3 h4
      have w1 : IntKind.i64.wrap ((k : Int) - 1) = ((k - 1 : Nat) : Int) := by rw [wi (by omega)]; omega
      refine ⟨by rw [w1]; constructor <;> omega, ?_⟩
      conv => whnf
      rw [w1]
      refine boolK_intro (fun h5 => ?_) (fun h5 => ?_) <;> conv => whnf
      · exact ⟨_, fun _ _ h => h, by
          simp only [Int.toNat_natCast, decide_eq_true_eq] at h5
          rw [e0 _ rfl]
          have : ¬ k = 0 := by omega
          simp [risK, this] ; intro _; simpa using h5⟩
      · simp only [Int.toNat_natCast, decide_eq_false_iff_not] at h5
        exact ⟨k + 1, ⟨by omega, wr _ rfl (by simp [risK]; simp at h3 h5; omega)⟩, by omega, [], trivial, ⟨rfl, rfl, rfl, wsucc (by omega), trivial⟩, trivial, rfl, rfl, rfl⟩
    · simp only [Int.toNat_natCast, decide_eq_false_iff_not] at h3 h4
      have : k = 0 := by omega
      exact ⟨k + 1, ⟨by omega, wr _ rfl (by simp at h3; simp [risK, this]; simpa [this] using h3)⟩, by omega, [], trivial, ⟨rfl, rfl, rfl, wsucc (by omega), trivial⟩, trivial, rfl, rfl, rfl⟩
  · exact ⟨_, fun _ _ h => h, by have : k = l.length := by omega
                                 rw [this] at hI; rw [ris, hI]⟩
theorem one1_fn (b : List UInt8) : Fn Try.prog 55 [bA b] fun r => r = .v (.bool (decide (b.length ≠ 8))) := by
  refine Fn.of tys_ok Try.func55 rfl rfl (Nat.le_of_ble_eq_true rfl) ?_
  conv => whnf
  exact ⟨_, fun _ _ h => h, by congr 2; rw [Bool.eq_iff_iff]; simp; omega⟩
theorem one1_ix (l : List (List UInt8))  (hl : l.length ≤ 1000000) : Fn Try.prog 64 [rowsA l, .v (.func (.func 55) #[] #[])] fun r => r = .v (.int .i64 (ixI (fun b => decide (b.length ≠ 8)) l)) := by
  refine Fn.of tys_ok Try.func64 rfl rfl (Nat.le_of_ble_eq_true rfl) ?_
  conv => whnf
  refine aLoop.rule Nat (fun k => ([(0, rowsA l), (1, .v (.func (.func 55) #[] #[])), (7, .v (.int .i64 l.length)), (8, .v (.int .i64 k))], [])) (fun k => k ≤ l.length ∧ (l.take k).any (fun b => decide (b.length ≠ 8)) = false) (fun k => l.length - k) 0 ⟨Nat.zero_le _, by simp⟩ ⟨[], trivial, ⟨rfl, rfl, rfl, rfl, trivial⟩, trivial, rfl, rfl, rfl⟩ ?_
  rintro k ⟨hk, hI⟩
  conv => whnf
  refine boolK_intro (fun h2 => ?_) (fun h2 => ?_) <;> simp at h2 <;> conv => whnf
  · refine ⟨by first | omega | (refine ⟨rfl, ?_, ?_⟩ <;> first | omega | (simp only [List.length_map]; done) | (simp only [List.length_map]; omega)) | (simp only [List.length_map]; omega), ?_⟩
    conv => whnf
    refine Fn.closed (one1_fn (l.getD k [])) rfl ?_
    rintro _ rfl
    conv => whnf
    refine boolK_intro (fun h3 => ?_) (fun h3 => ?_) <;> conv => whnf
    · exact ⟨_, fun _ _ h => h, by rw [ixI_hit (d := []) h2 hI (by first | exact h3 | (rw [Int.toNat_natCast] at h3; exact h3) | simpa using h3)]⟩
    · refine ⟨k + 1, ⟨by omega, any_take_succ (d := []) h2 hI (by first | exact h3 | (rw [Int.toNat_natCast] at h3; exact h3) | simpa using h3)⟩, by omega, [], trivial, ⟨rfl, rfl, rfl, wsucc (by omega), trivial⟩, trivial, rfl, rfl, rfl⟩
  · exact ⟨_, fun _ _ h => h, by rw [List.take_of_length_le h2] at hI; rw [ixI_none hI]⟩
theorem one1_cf (l : List (List UInt8))  (hl : l.length ≤ 1000000) : Fn Try.prog 56 [rowsA l, .v (.func (.func 55) #[] #[])] fun r => r = .v (.bool (l.any (fun b => decide (b.length ≠ 8)))) := by
  refine Fn.of tys_ok Try.func56 rfl rfl (Nat.le_of_ble_eq_true rfl) ?_
  conv => whnf
  refine Fn.closed (one1_ix l  hl) rfl ?_
  rintro _ rfl
  conv => whnf
  exact ⟨_, fun _ _ h => h, by rw [ixI_ge]⟩

def hdOk (h : Hd) : Bool := decide (h.lbas.length = h.blocks.length) && (decide (h.lbas.length ≤ 4) && (ris h.lbas && h.blocks.all fun b => decide (b.length = 8)))
theorem one_fn (h : Hd) (hl : h.lbas.length ≤ 1000) (hb : h.blocks.length ≤ 1000) : Fn Try.prog 40 [.ag (hdC h)] fun r => r = .v (.bool (hdOk h)) := by
  refine Fn.of tys_ok Try.func40 rfl rfl (Nat.le_of_ble_eq_true rfl) ?_
  conv => whnf
  refine boolK_intro (fun h1 => ?_) (fun h1 => ?_) <;> conv => whnf
  · refine boolK_intro (fun h2 => ?_) (fun h2 => ?_) <;> conv => whnf
    · refine Fn.closed (rising_fn h.lbas hl) rfl ?_
      rintro _ rfl
      conv => whnf
      refine boolK_intro (fun h3 => ?_) (fun h3 => ?_) <;> conv => whnf
      · refine Fn.closed (one1_cf h.blocks (by omega)) rfl ?_
        rintro _ rfl
        conv => whnf
        exact ⟨_, fun _ _ h => h, by
          simp only [beq_iff_eq, Int.natCast_inj] at h1
          simp only [decide_eq_true_eq] at h2
          unfold hdOk
          rw [decide_eq_true h1, decide_eq_true (show h.lbas.length ≤ 4 by omega), h3, List.all_eq_not_any_not]
          simp⟩
      · exact ⟨_, fun _ _ h => h, by unfold hdOk; rw [h3]; simp⟩
    · exact ⟨_, fun _ _ h => h, by simp only [decide_eq_false_iff_not] at h2; unfold hdOk; rw [decide_eq_false (show ¬ h.lbas.length ≤ 4 by omega)]; simp⟩
  · exact ⟨_, fun _ _ h => h, by
      have h1 : ¬ h.lbas.length = h.blocks.length := fun e => by rw [e] at h1; simp at h1
      unfold hdOk; rw [decide_eq_false h1]; simp⟩
theorem check1_fn (h : Hd) (hl : h.lbas.length ≤ 1000) (hb : h.blocks.length ≤ 1000) : Fn Try.prog 39 [.ag (hdC h)] fun r => r = .v (.bool (!hdOk h)) := by
  refine Fn.of tys_ok Try.func39 rfl rfl (Nat.le_of_ble_eq_true rfl) ?_
  conv => whnf
  refine Fn.closed (one_fn h hl hb) rfl ?_
  rintro _ rfl
  conv => whnf
  exact ⟨_, fun _ _ h => h, rfl⟩
def HdS (h : Hd) : Prop := h.lbas.length ≤ 1000 ∧ h.blocks.length ≤ 1000
theorem chk1_ix (l : List Hd) (hs : ∀ h ∈ l, HdS h) (hl : l.length ≤ 1000000) : Fn Try.prog 46 [hdsA l, .v (.func (.func 39) #[] #[])] fun r => r = .v (.int .i64 (ixI (fun h => !hdOk h) l)) := by
  refine Fn.of tys_ok Try.func46 rfl rfl (Nat.le_of_ble_eq_true rfl) ?_
  conv => whnf
  refine aLoop.rule Nat (fun k => ([(0, hdsA l), (1, .v (.func (.func 39) #[] #[])), (7, .v (.int .i64 l.length)), (8, .v (.int .i64 k))], [])) (fun k => k ≤ l.length ∧ (l.take k).any (fun h => !hdOk h) = false) (fun k => l.length - k) 0 ⟨Nat.zero_le _, by simp⟩ ⟨[], trivial, ⟨rfl, rfl, rfl, rfl, trivial⟩, trivial, rfl, rfl, rfl⟩ ?_
  rintro k ⟨hk, hI⟩
  conv => whnf
  refine boolK_intro (fun h2 => ?_) (fun h2 => ?_) <;> simp at h2 <;> conv => whnf
  · refine ⟨by first | omega | (refine ⟨rfl, ?_, ?_⟩ <;> first | omega | (simp only [List.length_map]; done) | (simp only [List.length_map]; omega)) | (simp only [List.length_map]; omega), ?_⟩
    conv => whnf
    refine Fn.closed (check1_fn (l.getD k ⟨0, [], []⟩) (hs _ (getD_mem h2)).1 (hs _ (getD_mem h2)).2) rfl ?_
    rintro _ rfl
    conv => whnf
    refine boolK_intro (fun h3 => ?_) (fun h3 => ?_) <;> conv => whnf
    · exact ⟨_, fun _ _ h => h, by rw [ixI_hit (d := ⟨0, [], []⟩) h2 hI (by first | exact h3 | (rw [Int.toNat_natCast] at h3; exact h3) | simpa using h3)]⟩
    · refine ⟨k + 1, ⟨by omega, any_take_succ (d := ⟨0, [], []⟩) h2 hI (by first | exact h3 | (rw [Int.toNat_natCast] at h3; exact h3) | simpa using h3)⟩, by omega, [], trivial, ⟨rfl, rfl, rfl, wsucc (by omega), trivial⟩, trivial, rfl, rfl, rfl⟩
  · exact ⟨_, fun _ _ h => h, by rw [List.take_of_length_le h2] at hI; rw [ixI_none hI]⟩
theorem chk1_cf (l : List Hd) (hs : ∀ h ∈ l, HdS h) (hl : l.length ≤ 1000000) : Fn Try.prog 38 [hdsA l, .v (.func (.func 39) #[] #[])] fun r => r = .v (.bool (l.any (fun h => !hdOk h))) := by
  refine Fn.of tys_ok Try.func38 rfl rfl (Nat.le_of_ble_eq_true rfl) ?_
  conv => whnf
  refine Fn.closed (chk1_ix l hs hl) rfl ?_
  rintro _ rfl
  conv => whnf
  exact ⟨_, fun _ _ h => h, by rw [ixI_ge]⟩

theorem at1_fn (h : Hd) (id : Int) : Fn Try.prog 47 [.ag (hdC h), .rp [.v (.int .i64 id)]] fun r => r = .v (.bool (h.id == id)) := by
  refine Fn.of tys_ok Try.func47 rfl rfl (Nat.le_of_ble_eq_true rfl) ?_
  conv => whnf
  exact ⟨_, fun _ _ h => h, rfl⟩
theorem at1_ix (l : List Hd) (id : Int) (hl : l.length ≤ 1000000) : Fn Try.prog 46 [hdsA l, .fn 47 [.rp [.v (.int .i64 id)]]] fun r => r = .v (.int .i64 (ixI (fun h => h.id == id) l)) := by
  refine Fn.of tys_ok Try.func46 rfl rfl (Nat.le_of_ble_eq_true rfl) ?_
  conv => whnf
  refine aLoop.rule Nat (fun k => ([(0, hdsA l), (1, .fn 47 [.rp [.v (.int .i64 id)]]), (7, .v (.int .i64 l.length)), (8, .v (.int .i64 k))], [])) (fun k => k ≤ l.length ∧ (l.take k).any (fun h => h.id == id) = false) (fun k => l.length - k) 0 ⟨Nat.zero_le _, by simp⟩ ⟨[], trivial, ⟨rfl, rfl, rfl, rfl, trivial⟩, trivial, rfl, rfl, rfl⟩ ?_
  rintro k ⟨hk, hI⟩
  conv => whnf
  refine boolK_intro (fun h2 => ?_) (fun h2 => ?_) <;> simp at h2 <;> conv => whnf
  · refine ⟨by first | omega | (refine ⟨rfl, ?_, ?_⟩ <;> first | omega | (simp only [List.length_map]; done) | (simp only [List.length_map]; omega)) | (simp only [List.length_map]; omega), ?_⟩
    conv => whnf
    refine Fn.closed (at1_fn (l.getD k ⟨0, [], []⟩) id) rfl ?_
    rintro _ rfl
    conv => whnf
    refine boolK_intro (fun h3 => ?_) (fun h3 => ?_) <;> conv => whnf
    · exact ⟨_, fun _ _ h => h, by rw [ixI_hit (d := ⟨0, [], []⟩) h2 hI (by first | exact h3 | (rw [Int.toNat_natCast] at h3; exact h3) | simpa using h3)]⟩
    · refine ⟨k + 1, ⟨by omega, any_take_succ (d := ⟨0, [], []⟩) h2 hI (by first | exact h3 | (rw [Int.toNat_natCast] at h3; exact h3) | simpa using h3)⟩, by omega, [], trivial, ⟨rfl, rfl, rfl, wsucc (by omega), trivial⟩, trivial, rfl, rfl, rfl⟩
  · exact ⟨_, fun _ _ h => h, by rw [List.take_of_length_le h2] at hI; rw [ixI_none hI]⟩
theorem at1_cf (l : List Hd) (id : Int) (hl : l.length ≤ 1000000) : Fn Try.prog 38 [hdsA l, .fn 47 [.rp [.v (.int .i64 id)]]] fun r => r = .v (.bool (l.any (fun h => h.id == id))) := by
  refine Fn.of tys_ok Try.func38 rfl rfl (Nat.le_of_ble_eq_true rfl) ?_
  conv => whnf
  refine Fn.closed (at1_ix l id hl) rfl ?_
  rintro _ rfl
  conv => whnf
  exact ⟨_, fun _ _ h => h, by rw [ixI_ge]⟩

theorem at_fn (l : List Hd) (id : Int) (hl : l.length ≤ 1000000) : Fn Try.prog 26 [hdsA l, .v (.int .i64 id)] fun r => r = .tp [.v (.int .i64 (max (ixI (fun h : Hd => h.id == id) l) 0)), .v (.bool (l.any fun h => h.id == id))] := by
  refine Fn.of tys_ok Try.func26 rfl rfl (Nat.le_of_ble_eq_true rfl) ?_
  conv => whnf
  refine Fn.closed (at1_ix l id hl) rfl ?_
  rintro _ rfl
  conv => whnf
  exact ⟨_, fun _ _ h => h, by rw [← ixI_ge]; congr 4; show (if _ < (0 : Int) then (0 : Int) else _) = _; split <;> omega⟩
theorem ci_ix (l : List Int) (x : Int) (hl : l.length ≤ 1000000) : Fn Try.prog 60 [iA l, .v (.int .i64 x)] fun r => r = .v (.int .i64 (ixI (fun y => x == y) l)) := by
  refine Fn.of tys_ok Try.func60 rfl rfl (Nat.le_of_ble_eq_true rfl) ?_
  conv => whnf
  refine aLoop.rule Nat (fun k => ([(0, iA l), (1, .v (.int .i64 x)), (7, .v (.int .i64 l.length)), (8, .v (.int .i64 k))], [])) (fun k => k ≤ l.length ∧ (l.take k).any (fun y => x == y) = false) (fun k => l.length - k) 0 ⟨Nat.zero_le _, by simp⟩ ⟨[], trivial, ⟨rfl, rfl, rfl, rfl, trivial⟩, trivial, rfl, rfl, rfl⟩ ?_
  rintro k ⟨hk, hI⟩
  conv => whnf
  refine boolK_intro (fun h2 => ?_) (fun h2 => ?_) <;> simp at h2 <;> conv => whnf
  · refine ⟨by first | omega | (refine ⟨rfl, ?_, ?_⟩ <;> first | omega | (simp only [List.length_map]; done) | (simp only [List.length_map]; omega)) | (simp only [List.length_map]; omega), ?_⟩
    conv => whnf
    refine boolK_intro (fun h3 => ?_) (fun h3 => ?_) <;> conv => whnf
    · exact ⟨_, fun _ _ h => h, by rw [ixI_hit (d := 0) h2 hI (by first | exact h3 | (rw [Int.toNat_natCast] at h3; exact h3) | simpa using h3)]⟩
    · refine ⟨k + 1, ⟨by omega, any_take_succ (d := 0) h2 hI (by first | exact h3 | (rw [Int.toNat_natCast] at h3; exact h3) | simpa using h3)⟩, by omega, [], trivial, ⟨rfl, rfl, rfl, wsucc (by omega), trivial⟩, trivial, rfl, rfl, rfl⟩
  · exact ⟨_, fun _ _ h => h, by rw [List.take_of_length_le h2] at hI; rw [ixI_none hI]⟩
theorem ci_cf (l : List Int) (x : Int) (hl : l.length ≤ 1000000) : Fn Try.prog 48 [iA l, .v (.int .i64 x)] fun r => r = .v (.bool (l.any (fun y => x == y))) := by
  refine Fn.of tys_ok Try.func48 rfl rfl (Nat.le_of_ble_eq_true rfl) ?_
  conv => whnf
  refine Fn.closed (ci_ix l x hl) rfl ?_
  rintro _ rfl
  conv => whnf
  exact ⟨_, fun _ _ h => h, by rw [ixI_ge]⟩

theorem full_fn (h : Hd) (x : Int) (hl : h.lbas.length ≤ 1000) : Fn Try.prog 27 [.ag (hdC h), .v (.int .i64 x)] fun r => r = .v (.bool (decide (4 ≤ h.lbas.length) && !h.lbas.any fun y => x == y)) := by
  refine Fn.of tys_ok Try.func27 rfl rfl (Nat.le_of_ble_eq_true rfl) ?_
  conv => whnf
  refine boolK_intro (fun h1 => ?_) (fun h1 => ?_) <;> conv => whnf
  · refine Fn.closed (ci_cf h.lbas x (by omega)) rfl ?_
    rintro _ rfl
    conv => whnf
    exact ⟨_, fun _ _ h => h, by simp only [decide_eq_true_eq] at h1; rw [decide_eq_true (show 4 ≤ h.lbas.length by omega)]; rfl⟩
  · exact ⟨_, fun _ _ h => h, by simp only [decide_eq_false_iff_not] at h1; rw [decide_eq_false (show ¬ 4 ≤ h.lbas.length by omega)]; rfl⟩
theorem cnan_fn (x : Int) : Fn Try.prog 61 [.v (.int .i64 x)] fun r => r = .v (.bool false) := by
  refine Fn.of tys_ok Try.func61 rfl rfl (Nat.le_of_ble_eq_true rfl) ?_
  conv => whnf
  exact ⟨_, fun _ _ h => h, by simp⟩
theorem snan_fn (x : Int) : Fn Try.prog 50 [.v (.int .i64 x)] fun r => r = .v (.bool false) := by
  refine Fn.of tys_ok Try.func50 rfl rfl (Nat.le_of_ble_eq_true rfl) ?_
  conv => whnf
  exact ⟨_, fun _ _ h => h, by simp⟩
theorem less_fn (x y : Int) : Fn Try.prog 49 [.v (.int .i64 x), .v (.int .i64 y)] fun r => r = .v (.bool (decide (x < y))) := by
  refine Fn.of tys_ok Try.func49 rfl rfl (Nat.le_of_ble_eq_true rfl) ?_
  conv => whnf
  refine Fn.closed (cnan_fn x) rfl ?_
  rintro _ rfl
  conv => whnf
  exact ⟨_, fun _ _ h => h, rfl⟩
theorem bs_fn (l : List Int) (x : Int) (hl : l.length ≤ 1000) (hr : ris l = true) : Fn Try.prog 28 [iA l, .v (.int .i64 x)] fun r => r = .tp [.v (.int .i64 (lb l x : Nat)), .v (.bool (decide (lb l x < l.length) && (l.getD (lb l x) 0 == x)))] := by
  refine Fn.of tys_ok Try.func28 rfl rfl (Nat.le_of_ble_eq_true rfl) ?_
  conv => whnf
  refine aLoop.rule (Nat × Nat) (fun k => ([(0, iA l), (1, .v (.int .i64 x)), (6, .v (.int .i64 l.length)), (7, .v (.int .i64 k.1)), (8, .v (.int .i64 k.2))], [])) (fun k => k.1 ≤ k.2 ∧ k.2 ≤ l.length ∧ (∀ t, t < k.1 → l.getD t 0 < x) ∧ (∀ t, k.2 ≤ t → t < l.length → x ≤ l.getD t 0)) (fun k => k.2 - k.1) (0, l.length) ⟨Nat.zero_le _, Nat.le_refl _, fun t ht => absurd ht (Nat.not_lt_zero _), fun t h1 h2 => by omega⟩ ⟨[], trivial, ⟨rfl, rfl, rfl, rfl, rfl, trivial⟩, trivial, rfl, rfl, rfl⟩ ?_
  rintro ⟨lo, hi⟩ ⟨h1, h2, h3, h4⟩
  simp only at h1 h2 h3 h4
  conv => whnf
  refine boolK_intro (fun h5 => ?_) (fun h5 => ?_) <;> simp only [decide_eq_true_eq, decide_eq_false_iff_not] at h5 <;> conv => whnf
  · refine And.intro (by decide) ?_
    conv => whnf
    have wm : IntKind.i64.wrap ((IntKind.u64.wrap (IntKind.i64.wrap ((lo : Int) + hi))).fdiv (2 ^ min (Int.toNat 1) IntKind.u64.bits)) = (((lo + hi) / 2 : Nat) : Int) := by
      rw [wi (n := (lo : Int) + hi) (by omega), show IntKind.u64.wrap ((lo : Int) + hi) = (lo : Int) + hi from IntWalk.u64_in _ (by omega), show (2 ^ min (Int.toNat 1) IntKind.u64.bits : Int) = 2 by decide, Int.fdiv_eq_ediv_of_nonneg _ (by omega), wi (by omega)]
      omega
    rw [wm]
    refine And.intro ⟨by omega, by omega⟩ ?_
    conv => whnf
    rw [Int.toNat_natCast]
    refine Fn.closed (less_fn (l.getD ((lo + hi) / 2) 0) x) rfl ?_
    rintro _ rfl
    conv => whnf
    refine boolK_intro (fun h6 => ?_) (fun h6 => ?_) <;> simp only [decide_eq_true_eq, decide_eq_false_iff_not] at h6 <;> conv => whnf
    · exact ⟨((lo + hi) / 2 + 1, hi), ⟨by show (lo + hi) / 2 + 1 ≤ hi; omega, h2, fun t ht => by have := ris_le hr (i := t) (j := (lo + hi) / 2) (by simp only at ht; omega) (by omega); omega, h4⟩, by show hi - ((lo + hi) / 2 + 1) < hi - lo; omega, [], trivial, ⟨rfl, rfl, rfl, by show AV.v (.int .i64 (IntKind.i64.wrap ((((lo + hi) / 2 : Nat) : Int) + 1))) = _; exact wsucc (by omega), rfl, trivial⟩, trivial, rfl, rfl, rfl⟩
    · exact ⟨(lo, (lo + hi) / 2), ⟨by show lo ≤ (lo + hi) / 2; omega, by show (lo + hi) / 2 ≤ _; omega, h3, fun t ht ht2 => by have := ris_le hr (i := (lo + hi) / 2) (j := t) ht ht2; omega⟩, by show (lo + hi) / 2 - lo < hi - lo; omega, [], trivial, ⟨rfl, rfl, rfl, rfl, rfl, trivial⟩, trivial, rfl, rfl, rfl⟩
  · have e : lo = hi := by omega
    subst e
    have el := lb_of h2 h3 h4
    refine boolK_intro (fun h6 => ?_) (fun h6 => ?_) <;> simp only [decide_eq_true_eq, decide_eq_false_iff_not] at h6 <;> conv => whnf
    · refine And.intro ⟨by omega, by omega⟩ ?_
      conv => whnf
      refine boolK_intro (fun h7 => ?_) (fun h7 => ?_) <;> (repeat rw [Int.toNat_natCast] at h7) <;> conv => whnf
      · exact ⟨_, fun _ _ h => h, by rw [el, h7, decide_eq_true (show lo < l.length by omega)]; rfl⟩
      · refine And.intro ⟨by omega, by omega⟩ ?_
        conv => whnf
        refine Fn.closed (snan_fn _) rfl ?_
        rintro _ rfl
        conv => whnf
        exact ⟨_, fun _ _ h => h, by rw [el, h7, Bool.and_false]⟩
    · exact ⟨_, fun _ _ h => h, by rw [el, decide_eq_false (show ¬ lo < l.length by omega), Bool.false_and]⟩
end Go.Proofs.Ytjcboeldmgmfcaa.A
end

/-
Package hand: whether handles are right.
-/
section
namespace Go.Proofs.Ytjcboeldmgmfcaa.A
open Go.RowKit

theorem sub_map {α : Type} {sz n : Nat} {f : α → List AV} {l : List α} {d : α} (hn : n = l.length) (c : Ctx) (u : Value) (h : Rd (.sl sz n fun i => (l.map f).getD i []) c u) : Rd (.sl sz l.length fun i => f (l.getD i d)) c u := by
  subst hn
  exact Rd.congr rfl (fun i hi => map_getD hi) h
theorem Fn.sub {P : Program} {f : FuncId} {args args' : List AV} {K : AV → Prop} (h : Fn P f args' K) (hs : SubL args args') : Fn P f args K :=
  ⟨h.go, fun c us hd hM hg hr => h.calls c us hd hM hg (hs.rdl hr)⟩
def hdsOk (l : List Hd) : Bool := decide (l.length ≤ 3) && (ris (l.map Hd.id) && ((decide (l.length = 0) || decide ((l.map Hd.id).getD (l.length - 1) 0 ≤ 99)) && l.all hdOk))
def eB (b : Bool) : Int := if b then 0 else 1
set_option maxRecDepth 100000 in
theorem hcheck_fn (l : List Hd) (hl : l.length ≤ 1000) (hs : ∀ h ∈ l, HdS h) : Fn Try.prog 14 [hdsA l] fun r => r = .v (.int .i64 (eB (hdsOk l))) := by
  refine Fn.of tys_ok Try.func14 rfl rfl (Nat.le_of_ble_eq_true rfl) ?_
  conv => whnf
  refine aLoop.rule Nat (fun k => ([(0, hdsA l), (3, .ow 0 k), (6, hdsA l), (7, .v (.int .i64 l.length)), (8, .v (.int .i64 k))], [.row 3 1 (((l.take k).map Hd.id).map icC)])) (fun k => k ≤ l.length) (fun k => l.length - k) 0 (Nat.zero_le _) ⟨[(3, 3, 1)], ⟨rfl, rfl, trivial⟩, ⟨rfl, rfl, rfl, rfl, rfl, trivial⟩, ⟨rfl, trivial⟩, rfl, rfl, rfl⟩ ?_
  rintro k hk
  conv => whnf
  refine boolI (fun h2 => ?_) (fun h2 => ?_) <;> (repeat rw [Int.toNat_natCast] at h2) <;> conv => whnf
  · refine ⟨by first | omega | (refine ⟨rfl, ?_, ?_⟩ <;> first | omega | (simp only [List.length_map]; done) | (simp only [List.length_map]; omega)) | (simp only [List.length_map]; omega), ?_⟩
    conv => whnf
    refine And.intro rfl ?_
    conv => whnf
    refine And.intro ⟨by simp; omega, by omega⟩ ?_
    conv => whnf
    refine ⟨k + 1, by omega, by omega, [], trivial, ⟨rfl, rfl, rfl, rfl, wsucc (by omega), trivial⟩, ⟨?_, trivial⟩, rfl, rfl, rfl⟩
    rw [Int.toNat_natCast, take_map_succ (d := ⟨0, [], []⟩) h2, List.map_append]; rfl
  · have e : k = l.length := by omega
    subst e
    rw [List.take_length]
    refine boolK_intro (fun h3 => ?_) (fun h3 => ?_) <;> simp only [decide_eq_true_eq, decide_eq_false_iff_not] at h3 <;> conv => whnf
    · exact ⟨_, fun _ _ h => h, by rw [hdsOk, decide_eq_false (show ¬ l.length ≤ 3 by omega), Bool.false_and]; rfl⟩
    have d3 : decide (l.length ≤ 3) = true := decide_eq_true (by omega)
    refine Fn.lend (args' := [.sl 1 l.length fun i => ((l.map Hd.id).map icC).getD i []]) ((rising_fn (l.map Hd.id) (by simpa using hl)).sub ⟨fun c u h => sub_map (f := icC) (d := 0) (by simp) c u h, trivial⟩) ⟨by simp, rfl⟩ ?_
    rintro _ rfl
    refine ⟨rfl, ?_⟩
    conv => whnf
    refine boolK_intro (fun h4 => ?_) (fun h4 => ?_) <;> conv => whnf
    · exact ⟨_, fun _ _ h => h, by rw [hdsOk, d3, show ris (l.map Hd.id) = false by simpa using h4]; rfl⟩
    have d4 : ris (l.map Hd.id) = true := by simpa using h4
    refine boolK_intro (fun h5 => ?_) (fun h5 => ?_) <;> simp only [decide_eq_true_eq, decide_eq_false_iff_not] at h5 <;> conv => whnf
    · have w1 : IntKind.i64.wrap ((l.length : Int) - 1) = ((l.length - 1 : Nat) : Int) := by rw [wi (by omega)]; omega
      refine ⟨by rw [w1]; constructor <;> omega, ?_⟩
      conv => whnf
      refine And.intro ⟨rfl, by simp, by rw [w1]; omega⟩ ?_
      conv => whnf
      rw [w1, Int.toNat_natCast, show ((l.map Hd.id).map icC).getD (l.length - 1) [] = icC ((l.map Hd.id).getD (l.length - 1) 0) from map_getD (by simp; omega)]
      conv => whnf
      refine boolK_intro (fun h6 => ?_) (fun h6 => ?_) <;> simp only [decide_eq_true_eq, decide_eq_false_iff_not] at h6 <;> conv => whnf
      · exact ⟨_, fun _ _ h => h, by rw [hdsOk, d3, d4, decide_eq_false (show ¬ l.length = 0 by omega), decide_eq_false (show ¬ (l.map Hd.id).getD (l.length - 1) 0 ≤ 99 by omega)]; rfl⟩
      · refine Fn.closed (chk1_cf l hs (by omega)) rfl ?_
        rintro _ rfl
        conv => whnf
        have d5 : (decide (l.length = 0) || decide ((l.map Hd.id).getD (l.length - 1) 0 ≤ 99)) = true := by rw [decide_eq_true (show (l.map Hd.id).getD (l.length - 1) 0 ≤ 99 by omega), Bool.or_true]
        refine boolK_intro (fun h7 => ?_) (fun h7 => ?_) <;> conv => whnf
        · exact ⟨_, fun _ _ h => h, by rw [hdsOk, d3, d4, d5, List.all_eq_not_any_not, h7]; rfl⟩
        · exact ⟨_, fun _ _ h => h, by rw [hdsOk, d3, d4, d5, List.all_eq_not_any_not, h7]; rfl⟩
    · refine Fn.closed (chk1_cf l hs (by omega)) rfl ?_
      rintro _ rfl
      conv => whnf
      have d5 : (decide (l.length = 0) || decide ((l.map Hd.id).getD (l.length - 1) 0 ≤ 99)) = true := by rw [decide_eq_true (show l.length = 0 by omega), Bool.true_or]
      refine boolK_intro (fun h7 => ?_) (fun h7 => ?_) <;> conv => whnf
      · exact ⟨_, fun _ _ h => h, by rw [hdsOk, d3, d4, d5, List.all_eq_not_any_not, h7]; rfl⟩
      · exact ⟨_, fun _ _ h => h, by rw [hdsOk, d3, d4, d5, List.all_eq_not_any_not, h7]; rfl⟩
end Go.Proofs.Ytjcboeldmgmfcaa.A
end

/-
slices.Delete of one element in the abstract.
-/
section
namespace Go.Proofs.Ytjcboeldmgmfcaa.A
open Go.RowKit

/-- What is asked of slices.Delete of one element at an element type. -/
def DelC (P : Program) (f : FuncId) (t : TypeId) (sz : Nat) : Prop := ∀ (g c n i : Nat) (xs : List Value) (base : Nat) (w : World), w.ownsRow base t sz (.slice (some ⟨g, 0, none⟩) n c) n xs → (∀ u ∈ xs, u.oneCell' = true) → i < n → n ≤ 1000000 →
    Calls P f #[.slice (some ⟨g, 0, none⟩) n c, .int .i64 i, .int .i64 (i + 1 : Nat)] w fun e w' => ∃ v', e = .returned v' ∧ w'.ownsRow base t sz v' (n - 1) (xs.take (i * sz) ++ xs.drop ((i + 1) * sz)) ∧ w.grownBy w' (some g) ∧ v'.ownBlock = some g
/-- slices.Delete of one element of an own row. -/
theorem ACalls.delete {P : Program} {f : FuncId} {t : TypeId} {sz : Nat} (hg : IsGo P f) (hc : DelC P f t sz) (es : List (List AV)) (i : Nat) (hi : i < es.length) (hn : es.length ≤ 1000000) :
    ACalls P false f [.ow 0 es.length, .v (.int .i64 i), .v (.int .i64 (i + 1 : Nat))] [.row t sz es] fun r H => r = .ow 1 (es.length - 1) ∧ H = [.dead, .row t sz (es.take i ++ es.drop (i + 1))] := by
  refine ⟨hg, fun w0 M0 c us hs hr => ?_⟩
  have hj : ([.row t sz es] : List AB)[0]? = some (.row t sz es) := rfl
  obtain ⟨h1, h2, h3, xs, h4, h5, h6⟩ := hs.blk 0 _ hj
  simp only [RdL] at hr
  obtain ⟨v, us1, rfl, r1, v1, us2, rfl, r2, v2, us3, rfl, r3, rfl⟩ := hr
  simp only [Rd] at r1 r2 r3
  have hv := r1.2.2.2 h1.symm
  subst r2 r3
  have hob := ownB h4
  rcases h4.2 with ⟨_, h0⟩ | ⟨g, cc, cur, q1, q2, q3, q4, q5, q6, q7⟩
  · omega
  have hv' : v = .slice (some ⟨g, 0, none⟩) es.length cc := hv.trans q1
  have := hc g cc es.length i xs c.base c.w (by rw [← hv', hv]; exact h4) h6 hi hn
  rw [hv']
  refine this.mono ?_
  rintro e' w' ⟨v', rfl, p1, p2, p3⟩
  have hlen : (es.take i ++ es.drop (i + 1)).length = es.length - 1 := by simp only [List.length_append, List.length_take, List.length_drop]; omega
  have hob' := ownB p1
  have hog : oB (c.rho 0) = some g := by rw [q1]; rfl
  rw [← hog] at p2 p3
  rw [← hob'] at p3
  obtain ⟨s1, s2, s3⟩ := hs.rerow (es' := es.take i ++ es.drop (i + 1)) hj (by rw [hlen]; exact p1) p2 (.inl p3) h2 (fun x hx => by
      rcases List.mem_append.1 hx with hx | hx
      · exact h3 x (List.mem_of_mem_take hx)
      · exact h3 x (List.mem_of_mem_drop hx)) (by
      rw [List.flatten_append, flat_take h3, flat_dropr h3]
      exact (h5.take _).append (h5.drop _)) (fun u hu => by
      rcases List.mem_append.1 hu with hu | hu
      · exact h6 u (List.mem_of_mem_take hu)
      · exact h6 u (List.mem_of_mem_drop hu))
  exact ⟨v', _, _, _, rfl, rfl, ⟨rfl, rfl⟩, s1, s2, by rw [← hlen]; exact s3, fun e => by cases e⟩
end Go.Proofs.Ytjcboeldmgmfcaa.A
end

/-
Package hand: twins of handles.
-/
section
namespace Go.Proofs.Ytjcboeldmgmfcaa.A
open Go.RowKit

def HdB (h : Hd) : Prop := h.lbas.length ≤ 1000 ∧ h.blocks.length ≤ 1000 ∧ ∀ b ∈ h.blocks, b.length ≤ 1000000
theorem SubL.app : ∀ {a b x y : List AV}, SubL a b → SubL x y → SubL (a ++ x) (b ++ y)
  | [], [], _, _, _, k => k
  | _ :: _, _ :: _, _, _, h, k => ⟨h.1, SubL.app h.2 k⟩
  | [], _ :: _, _, _, h, _ => h.elim
  | _ :: _, [], _, _, h, _ => h.elim
theorem SubL.flat : ∀ {a b : List (List AV)}, a.length = b.length → (∀ i, SubL (a.getD i []) (b.getD i [])) → SubL a.flatten b.flatten
  | [], [], _, _ => trivial
  | x :: a, y :: b, hl, h => by
    rw [List.flatten_cons, List.flatten_cons]
    exact SubL.app (h 0) (SubL.flat (by simpa using hl) fun i => h (i + 1))
  | [], _ :: _, hl, _ => by simp at hl
  | _ :: _, [], hl, _ => by simp at hl
/-- A row's elements read in another way. -/
theorem ConvH.subRow {H : List AB} {k : Nat} {t : TypeId} {sz : Nat} {es es' : List (List AV)} (hk : H[k]? = some (.row t sz es)) (hl : es.length = es'.length) (h : ∀ i, SubL (es.getD i []) (es'.getD i [])) : ConvH H (H.set k (.row t sz es')) := fun _ _ c hs =>
  ⟨c, rfl, hs.recell hk rfl fun ⟨h1, h2, h3, xs, h4, h5, h6⟩ => ⟨h1.trans hl, h2, fun e he => by
    obtain ⟨i, hi, rfl⟩ := List.mem_iff_getElem.1 he
    have := (h i).len
    rw [List.getD_eq_getElem?_getD, List.getD_eq_getElem?_getD, List.getElem?_eq_getElem hi, List.getElem?_eq_getElem (by omega)] at this
    simp only [Option.getD_some] at this
    rw [← this]
    exact h3 _ (List.getElem_mem _), xs, by rw [← hl]; exact h4, (SubL.flat hl h).rdl h5, h6⟩, Ext.refl c⟩
theorem ri_eq (l : List Int) : SubL [.sl 1 l.length fun i => (l.map icC).getD i []] [iA l] := ⟨fun c u h => sub_map (f := icC) (d := 0) rfl c u h, trivial⟩
theorem hd_sub (h : Hd) : SubL [.v (.int .i64 h.id), .sl 1 h.lbas.length fun i => (h.lbas.map icC).getD i [], .sl 1 h.blocks.length fun i => (h.blocks.map bcC).getD i []] (hdC h) :=
  ⟨fun _ _ h => h, fun c u h => sub_map (f := icC) (d := 0) rfl c u h, fun c u h => sub_map (f := bcC) (d := []) rfl c u h, trivial⟩
theorem set_sub {l : List Hd} {k : Nat} {e : List AV} (hk : k < l.length) (h : SubL e (hdC (l.getD k (⟨0, [], []⟩ : Hd)))) (i : Nat) : SubL (((l.map hdC).set k e).getD i []) ((l.map hdC).getD i []) := by
  by_cases e : i = k
  · subst e
    rw [List.getD_eq_getElem?_getD, List.getElem?_set_self (by simpa using hk), map_getD hk]
    exact h
  · rw [List.getD_eq_getElem?_getD, List.getElem?_set_ne (Ne.symm e), ← List.getD_eq_getElem?_getD]
    exact SubL.refl _
set_option maxRecDepth 100000 in
theorem htwins_own (l : List Hd) (hl : l.length ≤ 1000) (hs : ∀ h ∈ l, HdB h) : ACalls Try.prog false 25 [hdsA l] [] fun r H => r = .ow 0 l.length ∧ H = [.row 36 3 (l.map hdC)] := by
  refine ACalls.ofC tys_ok Try.func25 rfl rfl (Nat.le_of_ble_eq_true rfl) ?_
  conv => whnf
  refine ACalls.beside (hclone_own l (by omega)) rfl ?_
  rintro _ _ ⟨rfl, rfl⟩
  conv => whnf
  refine aLoop.ruleC Nat (fun k => ([(0, .ow 0 l.length), (7, .ow 0 l.length), (8, .v (.int .i64 l.length)), (9, .v (.int .i64 k))], [.row 36 3 (l.map hdC)])) (fun k => k ≤ l.length) (fun k => l.length - k) 0 (Nat.zero_le _) (Wk.conv ⟨[], trivial, ⟨rfl, rfl, rfl, rfl, trivial⟩, ⟨rfl, trivial⟩, rfl, rfl, rfl⟩) ?_
  rintro k hk
  conv => whnf
  refine boolI (fun h2 => ?_) (fun h2 => ?_) <;> (repeat rw [Int.toNat_natCast] at h2) <;> conv => whnf
  · have hk' : k < l.length := by omega
    have hE : (l.map hdC).getD k [] = hdC (l.getD k (⟨0, [], []⟩ : Hd)) := map_getD hk'
    refine And.intro ⟨by omega, by omega⟩ ?_
    conv => whnf
    refine And.intro ⟨rfl, (List.length_map _).symm, by simpa using hk'⟩ ?_
    conv => whnf
    rw [show ((k : Int)).toNat = k from Int.toNat_natCast k, hE]
    conv => whnf
    have hb := hs _ (getD_mem (d := (⟨0, [], []⟩ : Hd)) hk')
    refine ACalls.beside (htwin_own (l.getD k (⟨0, [], []⟩ : Hd)) hb.1 hb.2.1 hb.2.2) rfl ?_
    rintro _ _ ⟨rfl, rfl⟩
    conv => whnf
    refine And.intro ⟨by omega, by omega⟩ ?_
    conv => whnf
    refine And.intro (List.length_map _).symm ?_
    conv => whnf
    refine And.intro (List.length_map _).symm ?_
    conv => whnf
    refine And.intro ⟨rfl, (List.length_map _).symm, by rw [Int.toNat_natCast]; exact hk'⟩ ?_
    conv => whnf
    rw [show ((k : Int)).toNat = k from Int.toNat_natCast k, hE]
    conv => whnf
    refine ⟨k + 1, by omega, by omega, _, ConvH.subRow (k := 0) rfl (es' := l.map hdC) (by simp) (fun i => ?_), [], trivial, ⟨rfl, rfl, rfl, wsucc (by omega), trivial⟩, ⟨rfl, trivial⟩, rfl, rfl, rfl⟩
    exact set_sub hk' (hd_sub _) i
  · conv => whnf
    exact ⟨.ow 0 l.length, _, [.row 36 3 (l.map hdC)], fun _ _ h => h, Wk.conv ⟨[], trivial, ⟨rfl, trivial⟩, ⟨rfl, trivial⟩, rfl, rfl, rfl⟩, rfl, rfl⟩
/-- Another saying of a row that may hold own rows. -/
theorem ConvH.subRowo {H : List AB} {k : Nat} {t : TypeId} {sz m m' : Nat} {es es' : List (List AV)} (hk : H[k]? = some (.rowo t sz es m)) (hl : es.length = es'.length) (h : ∀ i, SubL (es.getD i []) (es'.getD i [])) (hm : AV.ltL es'.flatten m' = true) : ConvH H (H.set k (.rowo t sz es' m')) := fun _ _ c hs =>
  ⟨c, rfl, hs.recell hk rfl fun ⟨h1, h2, h3, h7, xs, h4, h5, h6⟩ => ⟨h1.trans hl, h2, fun e he => by
    obtain ⟨i, hi, rfl⟩ := List.mem_iff_getElem.1 he
    have := (h i).len
    rw [List.getD_eq_getElem?_getD, List.getD_eq_getElem?_getD, List.getElem?_eq_getElem hi, List.getElem?_eq_getElem (by omega)] at this
    simp only [Option.getD_some] at this
    rw [← this]
    exact h3 _ (List.getElem_mem _), hm, xs, by rw [← hl]; exact h4, (SubL.flat hl h).rdl h5, h6⟩, Ext.refl c⟩
theorem set_getD_ne {α : Type} {d x : α} {l : List α} {i k : Nat} (h : i ≠ k) : (l.set i x).getD k d = l.getD k d := by
  rw [List.getD_eq_getElem?_getD, List.getElem?_set_ne h, ← List.getD_eq_getElem?_getD]
theorem set_getD_eq {α : Type} {d x : α} {l : List α} {i : Nat} (h : i < l.length) : (l.set i x).getD i d = x := by
  rw [List.getD_eq_getElem?_getD, List.getElem?_set_self h]; rfl
theorem hd_lt (l : List Hd) : AV.ltL (l.map hdC).flatten 0 = true := by
  rw [ltL_iff]
  intro x hx
  obtain ⟨e, he, hxe⟩ := List.mem_flatten.1 hx
  obtain ⟨h, _, rfl⟩ := List.mem_map.1 he
  simp only [hdC, List.mem_cons, List.not_mem_nil, or_false] at hxe
  rcases hxe with rfl | rfl | rfl <;> rfl
theorem mm_getD {f g : AV → AV} {B : List (List AV)} (j : Nat) : ((B.map (List.map f)).map (List.map g)).getD j [] = ((B.getD j []).map f).map g := by
  rw [List.getD_eq_getElem?_getD, List.getD_eq_getElem?_getD, List.getElem?_map, List.getElem?_map]
  cases B[j]? <;> rfl
theorem seal_set {B : List (List AV)} {k : Nat} {f g : AV → AV} {X : List AV} (hk : k < B.length) (hB : ∀ j, j ≠ k → SubL (((B.getD j []).map f).map g) (B.getD j [])) (hX : SubL ((X.map f).map g) (B.getD k [])) (j : Nat) :
    SubL ((((B.set k X).map (List.map f)).map (List.map g)).getD j []) (B.getD j []) := by
  rw [mm_getD]
  by_cases e : j = k
  · subst e
    rw [set_getD_eq hk]; exact hX
  · rw [set_getD_ne (Ne.symm e)]; exact hB j e
def owC (h : Hd) (a b : Nat) : List AV := [.v (.int .i64 h.id), .ow a h.lbas.length, .ow b h.blocks.length]
/-- Twins, one of them in rows of the caller's own. -/
def twB (l : List Hd) (i : Nat) : List AB := [.rowo 36 3 ((l.map hdC).set i (owC (l.getD i (⟨0, [], []⟩ : Hd)) 4 5)) 6, .dead, .dead, .dead, .row 3 1 ((l.getD i (⟨0, [], []⟩ : Hd)).lbas.map icC), .row 23 1 ((l.getD i (⟨0, [], []⟩ : Hd)).blocks.map bcC)]
def twH (l : List Hd) (i : Nat) : Bool → List AB
  | false => [.rowo 36 3 (l.map hdC) 0]
  | true => twB l i
theorem ow_seal {n n' : Nat} {a : Nat} {s : AV} (h : n = n') : AV.slIn a n' s (.ow a n) = s := by
  subst h; simp [AV.slIn]
theorem ow_keep {n n' : Nat} {a b : Nat} {s : AV} (h : ¬ b = a) : AV.slIn a n' s (.ow b n) = .ow b n := by
  simp [AV.slIn, h]
theorem hd_seal {a b : Nat} (hab : ¬ b = a) (h : Hd) : SubL (((owC h a b).map (AV.slIn a (h.lbas.map icC).length (.sl 1 (h.lbas.map icC).length fun i => (h.lbas.map icC).getD i []))).map (AV.slIn b (h.blocks.map bcC).length (.sl 1 (h.blocks.map bcC).length fun i => (h.blocks.map bcC).getD i []))) (hdC h) := by
  simp only [owC, List.map_cons, List.map_nil, ow_seal (List.length_map _).symm, ow_keep hab]
  exact ⟨fun _ _ h => h, fun c u h' => sub_map (f := icC) (d := 0) (List.length_map _) c u h', fun c u h' => sub_map (f := bcC) (d := []) (List.length_map _) c u h', trivial⟩
set_option maxRecDepth 100000 in
theorem htwinsI_own (l : List Hd) (i : Nat) (hi : i < l.length) (hl : l.length ≤ 1000) (hs : ∀ h ∈ l, HdB h) : ACalls Try.prog false 25 [hdsA l] [] fun r H => r = .ow 0 l.length ∧ H = twB l i := by
  refine ACalls.ofC tys_ok Try.func25 rfl rfl (Nat.le_of_ble_eq_true rfl) ?_
  conv => whnf
  refine ACalls.beside (hclone_own l (by omega)) rfl ?_
  rintro _ _ ⟨rfl, rfl⟩
  conv => whnf
  refine aLoop.ruleC (Nat × Bool) (fun k => ([(0, .ow 0 l.length), (7, .ow 0 l.length), (8, .v (.int .i64 l.length)), (9, .v (.int .i64 k.1))], twH l i k.2)) (fun k => k.1 ≤ l.length ∧ (k.2 = false → k.1 ≤ i) ∧ (k.2 = true → i < k.1)) (fun k => l.length - k.1) (0, false) ⟨Nat.zero_le _, fun _ => Nat.zero_le _, fun h => by cases h⟩ ⟨_, ConvH.rowo (k := 0) rfl, [], trivial, ⟨rfl, rfl, rfl, rfl, trivial⟩, ⟨rfl, trivial⟩, rfl, rfl, rfl⟩ ?_
  rintro ⟨k, b⟩ ⟨hk, hf, ht⟩
  simp only at hk hf ht
  cases b with
  | false =>
    have hki := hf rfl
    conv => whnf
    refine boolI (fun h2 => ?_) (fun h2 => ?_) <;> (repeat rw [Int.toNat_natCast] at h2) <;> conv => whnf
    · have hk' : k < l.length := by simpa using h2
      have hE : (l.map hdC).getD k [] = hdC (l.getD k (⟨0, [], []⟩ : Hd)) := map_getD hk'
      refine And.intro ⟨by simp, by simpa using hk'⟩ ?_
      conv => whnf
      refine And.intro ⟨rfl, (List.length_map _).symm, by simpa using hk'⟩ ?_
      conv => whnf
      rw [show (((k, false).1 : Int)).toNat = k from Int.toNat_natCast k, hE]
      conv => whnf
      have hb := hs _ (getD_mem (d := (⟨0, [], []⟩ : Hd)) hk')
      refine ACalls.beside (htwin_own (l.getD k (⟨0, [], []⟩ : Hd)) hb.1 hb.2.1 hb.2.2) rfl ?_
      rintro _ _ ⟨rfl, rfl⟩
      conv => whnf
      refine And.intro ⟨by simp, by simpa using hk'⟩ ?_
      conv => whnf
      refine And.intro ⟨rfl, (List.length_map _).symm, by simpa using hk'⟩ ?_
      conv => whnf
      rw [show (((k, false).1 : Int)).toNat = k from Int.toNat_natCast k, hE]
      conv => whnf
      by_cases e : k = i
      · subst e
        exact ⟨(k + 1, true), ⟨hk', fun h => (by cases h), fun _ => Nat.lt_succ_self _⟩, by show l.length - (k + 1) < l.length - k; omega, Wk.conv ⟨[], trivial, ⟨rfl, rfl, rfl, wsucc (by omega), trivial⟩, ⟨rfl, rfl, rfl, trivial⟩, rfl, rfl, rfl⟩⟩
      · refine ⟨(k + 1, false), ⟨hk', fun _ => by show k + 1 ≤ i; omega, fun h => by cases h⟩, by show l.length - (k + 1) < l.length - k; omega, _, ConvH.trans (ConvH.sealIn 0 4 rfl rfl rfl) (ConvH.trans (ConvH.sealIn 0 5 rfl rfl rfl) (ConvH.subRowo (k := 0) rfl (es' := l.map hdC) (m' := 0) (by simp) (fun j => ?_) (hd_lt l))), [], trivial, ⟨rfl, rfl, rfl, wsucc (by omega), trivial⟩, ⟨rfl, trivial⟩, rfl, rfl, rfl⟩
        refine seal_set (by simpa using hk') (fun j hj => ?_) ?_ j
        · by_cases hj2 : j < l.length
          · rw [map_getD (d := (⟨0, [], []⟩ : Hd)) hj2]; exact SubL.refl _
          · rw [show (l.map hdC).getD j [] = [] by rw [List.getD_eq_getElem?_getD, List.getElem?_eq_none (by simpa using hj2)]; rfl]; trivial
        · rw [hE]
          exact hd_seal (by decide) _
    · simp at h2; omega
  | true =>
    have hki := ht rfl
    conv => whnf
    refine boolI (fun h2 => ?_) (fun h2 => ?_) <;> (repeat rw [Int.toNat_natCast] at h2) <;> conv => whnf
    · have hk' : k < l.length := by simpa using h2
      have hE : ((l.map hdC).set i (owC (l.getD i (⟨0, [], []⟩ : Hd)) 4 5)).getD k [] = hdC (l.getD k (⟨0, [], []⟩ : Hd)) := by rw [set_getD_ne (by omega)]; exact map_getD hk'
      have hL : l.length = ((l.map hdC).set i (owC (l.getD i (⟨0, [], []⟩ : Hd)) 4 5)).length := by simp
      refine And.intro ⟨by simp, by simpa using hk'⟩ ?_
      conv => whnf
      refine And.intro ⟨rfl, hL, by simpa using hk'⟩ ?_
      conv => whnf
      rw [show (((k, true).1 : Int)).toNat = k from Int.toNat_natCast k, hE]
      conv => whnf
      have hb := hs _ (getD_mem (d := (⟨0, [], []⟩ : Hd)) hk')
      refine ACalls.beside (htwin_own (l.getD k (⟨0, [], []⟩ : Hd)) hb.1 hb.2.1 hb.2.2) rfl ?_
      rintro _ _ ⟨rfl, rfl⟩
      conv => whnf
      refine And.intro ⟨by simp, by simpa using hk'⟩ ?_
      conv => whnf
      refine And.intro ⟨rfl, hL, by simpa using hk'⟩ ?_
      conv => whnf
      rw [show (((k, true).1 : Int)).toNat = k from Int.toNat_natCast k, hE]
      conv => whnf
      refine ⟨(k + 1, true), ⟨hk', fun h => (by cases h), fun _ => by show i < k + 1; omega⟩, by show l.length - (k + 1) < l.length - k; omega, _, ConvH.trans (ConvH.sealIn 0 9 rfl rfl rfl) (ConvH.trans (ConvH.sealIn 0 10 rfl rfl rfl) (ConvH.subRowo (k := 0) rfl (es' := (l.map hdC).set i (owC (l.getD i (⟨0, [], []⟩ : Hd)) 4 5)) (m' := 6) (by simp) (fun j => ?_) ?_)), [], trivial, ⟨rfl, rfl, rfl, wsucc (by omega), trivial⟩, ⟨rfl, rfl, rfl, trivial⟩, rfl, rfl, rfl⟩
      · refine seal_set (by simpa using hk') (fun j hj => ?_) ?_ j
        · by_cases hji : j = i
          · subst hji
            rw [set_getD_eq (by simpa using hi)]
            simp only [owC, List.map_cons, List.map_nil]
            rw [ow_keep (by decide), ow_keep (by decide), ow_keep (by decide), ow_keep (by decide)]
            exact SubL.refl _
          · rw [set_getD_ne (Ne.symm hji)]
            by_cases hj2 : j < l.length
            · rw [map_getD (d := (⟨0, [], []⟩ : Hd)) hj2]; exact SubL.refl _
            · rw [show (l.map hdC).getD j [] = [] by rw [List.getD_eq_getElem?_getD, List.getElem?_eq_none (by simpa using hj2)]; rfl]; trivial
        · rw [hE]
          exact hd_seal (by decide) _
      · rw [ltL_iff]
        intro x hx
        obtain ⟨e, he, hxe⟩ := List.mem_flatten.1 hx
        rcases List.mem_or_eq_of_mem_set he with he | rfl
        · exact AV.lt_mono x (Nat.zero_le 6) (ltL_iff.1 (hd_lt l) x (List.mem_flatten.2 ⟨e, he, hxe⟩))
        · simp only [owC, List.mem_cons, List.not_mem_nil, or_false] at hxe
          rcases hxe with rfl | rfl | rfl <;> rfl
    · conv => whnf
      exact ⟨.ow 0 l.length, _, twB l i, fun _ _ h => h, Wk.conv ⟨[], trivial, ⟨rfl, trivial⟩, ⟨rfl, rfl, rfl, trivial⟩, rfl, rfl, rfl⟩, rfl, rfl⟩
end Go.Proofs.Ytjcboeldmgmfcaa.A
end

/-
slices.Insert of one element into a row of the call's own: the row with the element in its place.
-/
section
namespace Go.Proofs.Ytjcboeldmgmfcaa
open Go.RowKit
attribute [local go_sem ↓] Go.wp_at_zero Go.wp_at_succ

theorem run_copy_K {P : Program} (w : World) (dT sT ty elem : TypeId) (g o dLen dCap : Nat) (a : Addr) (sLen sCap : Nat) (cur : Array Value) (t : TypeId) (cs : List Value) (sz : Nat)
    (hu : P.underlying dT = some (.slice elem)) (hs : (P.info? elem).map (·.size) = some sz)
    (hg : w.heap[g]? = some (.cells cur t (0, 0))) (hn : cs.length = Nat.min sLen dLen * sz)
    (hsrc : ∀ j v, cs[j]? = some v → w.cell? (a.add j) = some v) (hfit : o + cs.length ≤ cur.size) (h1 : ∀ v ∈ cs, v.oneCell' = true) :
    (Builtin.copy_ #[dT, sT] ty #[.slice (some ⟨g, o, none⟩) dLen dCap, .slice (some a) sLen sCap]).run P w =
      .ok (goInt (Nat.min sLen dLen)) (w.setRow g (cur.toList.take o ++ cs ++ cur.toList.drop (o + cs.length)).toArray) := by
  have hl := run_loadCells_list (P := P) w a cs hsrc
  have hst := run_storeCells_at P g o t cs 0 cur w hg (by simpa using hfit) h1
  cases hq : P.info? elem with
  | none => simp [hq] at hs
  | some i =>
    have hi : i.size = sz := by simpa [hq] using hs
    have e' : Nat.min sLen dLen * sz = cs.length := hn.symm
    simp [Builtin.copy_, run_underlying hu, Builtin.lenOf, Builtin.firstCells, sizeOf, typeInfo, hq, hi, e', hl, hst]

theorem step_copy_R {P : Program} {ops : Array Oper} {o : Oper} {a : Act} {w : World} {K : Act → World → Prop} {Q : Exit → Act → World → Prop} {E : Prop}
    (hg : o.guard = none) (d x : Operand) (dT sT : TypeId) (hop : o.op = Op.call { callee := Callee.builtin Builtin.copy, args := #[d, x], argTypes := #[dT, sT] })
    {v u : Value} (hd : a.eval d = v) (hx : a.eval x = u) {v' : Value} {w' : World} (hr : (Builtin.copy_ #[dT, sT] o.type #[v, u]).run P w = .ok v' w') (hK : K (a.put o.dst v') w') :
    if Region.wanted o (yielded ops a.tmps) = true then Oper.wp P o a w K Q else E := by
  have hw : Region.wanted o (yielded ops a.tmps) = true := by simp [Region.wanted, hg]
  rw [if_pos hw]
  unfold Oper.wp
  simp [execOp, hop, resolve, invoke, builtin, hd, hx, hr, Result.andThen]
  exact hK
theorem wpList_copy_R {P : Program} {w : World} {ops : Array Oper} {rest : List Oper} {o : Oper} {a : Act} {Q : Exit → Act → World → Prop} (hgd : o.guard = none) (d s : Operand) (t t' : TypeId)
    (ho : o.op = .call { callee := .builtin .copy, args := #[d, s], argTypes := #[t, t'] }) {v u : Value} (hd : a.eval d = v) (hs : a.eval s = u) {v' : Value} {w' : World}
    (hr : (Builtin.copy_ #[t, t'] o.type #[v, u]).run P w = .ok v' w') (h : wpList P ops Q rest (a.put o.dst v') w') : wpList P ops Q (o :: rest) a w := by
  refine wpList_plain hgd fun _ hK => ?_
  unfold Oper.wp execOp
  simp only [ho, resolve, invoke, builtin, Sem.run_bind, Sem.run_pure, Result.andThen_ok, List.map_toArray, List.map_cons, List.map_nil, hd, hs, hr]
  exact hK _ _ h
theorem wpList_append_run' {P : Program} {w : World} {ops : Array Oper} {rest : List Oper} {o : Oper} {a : Act} {Q : Exit → Act → World → Prop} (hgd : o.guard = none) (d s : Operand) (t t' : TypeId)
    (ho : o.op = .call { callee := .builtin .append, args := #[d, s], argTypes := #[t, t'] }) {v u : Value} (hd : a.eval d = v) (hs : a.eval s = u) {v' : Value} {w' : World}
    (hr : (Builtin.append_ #[t, t'] o.type #[v, u]).run P w = .ok v' w') (h : wpList P ops Q rest (a.put o.dst v') w') : wpList P ops Q (o :: rest) a w := by
  refine wpList_plain hgd fun _ hK => ?_
  unfold Oper.wp execOp
  simp only [ho, resolve, invoke, builtin, Sem.run_bind, Sem.run_pure, Result.andThen_ok, List.map_toArray, List.map_cons, List.map_nil, hd, hs, hr]
  exact hK _ _ h

theorem take_cell {L : Array Value} {ys : List Value} {n j : Nat} {u : Value} (h : L.toList.take n = ys) (hu : ys[j]? = some u) : L[j]? = some u := by
  rw [← h, List.getElem?_take] at hu
  split at hu
  · simpa using hu
  · cases hu
/-- cs laid over L from place o on. -/
def spl {α : Type} (L : List α) (o : Nat) (cs : List α) : List α := L.take o ++ (cs ++ L.drop (o + cs.length))
theorem length_spl {α : Type} (L : List α) (o : Nat) (cs : List α) (h : o + cs.length ≤ L.length) : (spl L o cs).length = L.length := by simp [spl]; omega
theorem setRow_grown {w : World} {g : Nat} {cs : Array Value} {row : Option Nat} (h : row = some g) : w.grownBy (w.setRow g cs) row :=
  ⟨rfl, rfl, rfl, by simp [World.setRow], fun k _ hne => setRow_other w g k cs (fun e => hne (by rw [h, e]))⟩
/-- A list with something laid over it. -/
theorem over_get {α : Type} {L cs : List α} {o : Nat} (_ : o + cs.length ≤ L.length) : L.take o ++ cs ++ L.drop (o + cs.length) = spl L o cs := by simp [spl]
theorem ins_lists {xs ys : List Value} {cur : List Value} {p n sz : Nat} (hx : xs.length = n * sz) (hy : ys.length = sz) (hp : p ≤ xs.length) (hc : (n + 1) * sz ≤ cur.length) (ht : cur.take (n * sz) = xs) :
    (spl (spl cur (p + sz) (xs.drop p)) p ys).take ((n + 1) * sz) = xs.take p ++ ys ++ xs.drop p := by
  have hp' : cur.take p = xs.take p := by rw [← ht, List.take_take]; congr 1; omega
  have e : (n + 1) * sz = n * sz + sz := by rw [Nat.add_mul, Nat.one_mul]
  have hdl : (xs.drop p).length = n * sz - p := by rw [List.length_drop, hx]
  unfold spl
  have a1 : ((cur.take (p + sz)) ++ (xs.drop p ++ cur.drop (p + sz + (xs.drop p).length))).take p = xs.take p := by
    rw [List.take_append_of_le_length (by rw [List.length_take]; omega), List.take_take]
    rw [← hp']; congr 1; omega
  have a2 : ((cur.take (p + sz)) ++ (xs.drop p ++ cur.drop (p + sz + (xs.drop p).length))).drop (p + ys.length) = xs.drop p ++ cur.drop (p + sz + (xs.drop p).length) := by
    rw [List.drop_left' (by rw [List.length_take]; omega)]
  rw [a1, a2, ← List.append_assoc, ← List.append_assoc, List.take_left' (by rw [List.length_append, List.length_append, List.length_take, hdl]; omega)]
theorem ins_lists2 {xs ys cur : List Value} {p n sz : Nat} (hx : xs.length = n * sz) (hy : ys.length = sz) (hp : p ≤ xs.length) (hc : (n + 1) * sz ≤ cur.length) (ht : cur.take p = xs.take p) :
    (spl (spl cur p ys) (p + sz) (xs.drop p)).take ((n + 1) * sz) = xs.take p ++ ys ++ xs.drop p := by
  have e : (n + 1) * sz = n * sz + sz := by rw [Nat.add_mul, Nat.one_mul]
  have hdl : (xs.drop p).length = n * sz - p := by rw [List.length_drop, hx]
  unfold spl
  have hl : (cur.take p).length = p := by rw [List.length_take]; omega
  have a1 : (cur.take p ++ (ys ++ cur.drop (p + ys.length))).take (p + sz) = xs.take p ++ ys := by
    rw [← List.append_assoc, List.take_left' (by rw [List.length_append, hl, hy]), ht]
  rw [a1, ← List.append_assoc, List.take_left' (by rw [List.length_append, List.length_append, List.length_take, hdl]; omega)]

set_option maxHeartbeats 4000000 in
theorem insI_end (v : Value) (n : Nat) (xs ys : List Value) (vb base : Nat) (w : World) (ho : w.ownsRow base 3 1 v n xs) (vc : Nat) (vcur : Array Value) (hb : w.heap[vb]? = some (.cells vcur 3 (0, 0))) (hbt : vcur.toList.take 1 = ys) (hy : ys.length = 1)
    (h1y : ∀ u ∈ ys, u.oneCell' = true) (hn : n ≤ 1000000) (hbase : base ≤ w.heap.size) :
    Calls Try.prog 30 #[v, .int .i64 n, .slice (some ⟨vb, 0, none⟩) 1 vc] w fun e w' => ∃ v', e = .returned v' ∧ w'.ownsRow base 3 1 v' (n + 1) (xs ++ ys) ∧ w.grownBy w' v.ownBlock ∧
      (v'.ownBlock = v.ownBlock ∨ v'.ownBlock = some w.heap.size) := by
  obtain ⟨i0, hi0, hz0, hz1, hz2⟩ := info_parts (show (Try.prog.info? 3).map (fun i => (i.zero, i.size, i.bytes)) = some (some (.int .i64 0), 1, 8) by kernel_rfl)
  obtain ⟨v', w2, hrun, h2, h3, h4, h5⟩ := run_append_own_at (P := Try.prog) w base 33 33 3 i0 _ 1 8 Try.underlying33 hi0 hz0 hz1 hz2 rfl (by omega) v n xs ho ⟨vb, 0, none⟩ 1 vc ys (by omega)
    (fun j u hu => by rw [Addr.add_lit, Nat.zero_add, cell_of_row w vb _ vcur 3 (0, 0) hb]; exact take_cell hbt hu) h1y (by unfold maxLen; omega) (by omega) hbase
  have H2 := Lib.hid (And.intro h2 (And.intro h3 h5))
  rcases ho.2 with ⟨rfl, rfl⟩ | ⟨g, c, cur, rfl, hbg, hg, hnc, hcm, hcs, ht⟩
  · clear h2 h3 h4 h5 hz0 hz1 hz2 hi0 ho hb hbt hy h1y hbase
    go_enter Try.func30, Try.ntmps30
    go_wp2_with (at_builtin; refine wpList_append_run' rfl _ _ _ _ rfl (by rfl) (by rfl) hrun ?_)
    go_ret
    exact ⟨_, rfl, H2.out⟩
  · unfold maxLen at hcm
    have hg' := Lib.hid hg
    have hn0 : (0 : Int) ≤ n := by omega
    clear h2 h3 h4 h5 hz0 hz1 hz2 hi0 ho hb hbt hy h1y hbase hg hcs ht
    by_cases hcn : c = n
    · subst hcn
      go_enter Try.func30, Try.ntmps30
      go_wp2_with (at_builtin; refine wpList_append_run' rfl _ _ _ _ rfl (by rfl) (by rfl) hrun ?_)
      go_ret
      exact ⟨_, rfl, H2.out⟩
    · go_enter Try.func30, Try.ntmps30
      go_wp2_with (at_builtin; refine wpList_append_run' rfl _ _ _ _ rfl (by rfl) (by rfl) hrun ?_)
      go_ret
      exact ⟨_, rfl, H2.out⟩

set_option maxHeartbeats 4000000 in
theorem insI_shift (g c n i : Nat) (xs ys : List Value) (vb base : Nat) (w : World) (ho : w.ownsRow base 3 1 (.slice (some ⟨g, 0, none⟩) n c) n xs) (vc : Nat) (vcur : Array Value) (hb : w.heap[vb]? = some (.cells vcur 3 (0, 0))) (hbt : vcur.toList.take 1 = ys) (hy : ys.length = 1)
    (h1x : ∀ u ∈ xs, u.oneCell' = true) (h1y : ∀ u ∈ ys, u.oneCell' = true) (hne : vb ≠ g) (hi : i < n) (hroom : n + 1 ≤ c) (hn : n ≤ 1000000) :
    Calls Try.prog 30 #[.slice (some ⟨g, 0, none⟩) n c, .int .i64 i, .slice (some ⟨vb, 0, none⟩) 1 vc] w fun e w' => ∃ v', e = .returned v' ∧ w'.ownsRow base 3 1 v' (n + 1) (xs.take (i) ++ ys ++ xs.drop (i)) ∧ w.grownBy w' (some g) ∧
      v'.ownBlock = some g := by
  have hsz : (Try.prog.info? 3).map (·.size) = some 1 := by kernel_rfl
  rcases ho.2 with ⟨e, _⟩ | ⟨g', c', cur, e, hbg, hg, hnc, hcm, hcs, ht⟩
  · cases e
  cases e
  have hxl := ho.1
  have hov : ∀ lb cb, (callFunc 51 #[.slice (some ⟨vb, 0, none⟩) 1 vc, .slice (some ⟨g, i + 1, none⟩) lb cb]).run Try.prog w = .ok (.value (.bool false)) w := fun lb cb => by
    rw [run_callFunc_extern Try.func51 (by kernel_rfl) (by kernel_rfl) (by kernel_rfl) (e := Extern.SlicesOverlaps.overlaps #[33, 33] #[4]) (by kernel_rfl),
      Lib.run_overlaps_apart w 33 4 3 Try.underlying33 1 (fun _ => by kernel_rfl) ⟨vb, 0, none⟩ ⟨g, i + 1, none⟩ 1 vc lb cb hne 3 3 vcur.size cur.size
        (by simp [World.shape?, hb]) (by simp [World.shape?, hg]) (by omega) (frozen_of_row w vb _ vcur _ hb) (frozen_of_row w vb _ vcur _ hb)]
    rfl
  have hnlt : (i : Int) < n := by omega
  have hne' : ¬ ((i : Int) = n) := by omega
  have hroom' : (n : Int) + 1 ≤ c := by omega
  unfold maxLen at hcm
  have hcp1 : ∀ (W : World), W.heap = w.heap → ∀ ty dc sc, (Builtin.copy_ #[33, 33] ty #[.slice (some ⟨g, i + 1, none⟩) (n - i) dc, .slice (some ⟨g, i, none⟩) (n + 1 - i) sc]).run Try.prog W = .ok (goInt ((n - i : Nat) : Int)) (W.setRow g (spl cur.toList (i + 1) (xs.drop (i))).toArray) := fun W hW ty dc sc => by
    have hmin : Nat.min (n + 1 - i) (n - i) = n - i := by simp only [Nat.min_def]; split <;> omega
    have := run_copy_K (P := Try.prog) W 33 33 ty 3 g (i + 1) (n - i) dc ⟨g, i, none⟩ (n + 1 - i) sc cur 3 (xs.drop (i)) 1 Try.underlying33 hsz (by rw [hW]; exact hg)
      (by rw [hmin, List.length_drop, hxl]; omega) (fun j u hu => by
        rw [List.getElem?_drop, ← ht, List.getElem?_take] at hu
        split at hu
        · rw [Addr.add_lit, cell_of_row W g _ cur 3 (0, 0) (by rw [hW]; exact hg)]
          simpa using hu
        · cases hu) (by rw [List.length_drop, hxl, hcs]; omega) (fun u hu => h1x u (List.mem_of_mem_drop hu))
    rw [hmin] at this
    rw [this]
    congr 2
    have e : (i + 1) = i + 1 := by omega
    rw [e]
    exact congrArg List.toArray (over_get (by rw [List.length_drop, hxl, Array.length_toList, hcs]; omega))
  obtain ⟨L1, hL1⟩ : ∃ L1, L1 = spl cur.toList (i + 1) (xs.drop (i)) := ⟨_, rfl⟩
  have hL1l : L1.length = c * 1 := by rw [hL1, length_spl _ _ _ (by rw [List.length_drop, hxl, Array.length_toList, hcs]; omega), Array.length_toList, hcs]
  rw [← hL1] at hcp1
  have hcp2 : ∀ (W : World), W.heap[g]? = some (.cells L1.toArray 3 (0, 0)) → W.heap[vb]? = w.heap[vb]? → ∀ ty dc, (Builtin.copy_ #[33, 33] ty #[.slice (some ⟨g, i, none⟩) (n + 1 - i) dc, .slice (some ⟨vb, 0, none⟩) 1 vc]).run Try.prog W = .ok (goInt 1) (W.setRow g (spl L1 (i) ys).toArray) := fun W hW hV ty dc => by
    have hmin : Nat.min 1 (n + 1 - i) = 1 := by simp only [Nat.min_def]; split <;> omega
    have := run_copy_K (P := Try.prog) W 33 33 ty 3 g (i) (n + 1 - i) dc ⟨vb, 0, none⟩ 1 vc L1.toArray 3 ys 1 Try.underlying33 hsz hW
      (by rw [hmin, hy]) (fun j u hu => by
        rw [Addr.add_lit, Nat.zero_add, cell_of_row W vb _ vcur 3 (0, 0) (by rw [hV]; exact hb)]
        exact take_cell hbt hu) (by rw [List.size_toArray, hL1l, hy]; omega) h1y
    rw [hmin] at this
    rw [this]
    congr 2
    exact congrArg List.toArray (over_get (by rw [hL1l, hy]; omega))
  have hfin : ∀ (W : World), W.heap[g]? = some (.cells L1.toArray 3 (0, 0)) → (W.setRow g (spl L1 (i) ys).toArray).ownsRow base 3 1 (.slice (some ⟨g, 0, none⟩) (n + 1) c) (n + 1) (xs.take (i) ++ ys ++ xs.drop (i)) := fun W hW => by
    refine ⟨by simp only [List.length_append, List.length_take, List.length_drop, hxl, hy]; omega, .inr ⟨g, c, _, rfl, hbg, setRow_heap W g _ _ 3 _ hW, by omega, by unfold maxLen; omega, ?_, ?_⟩⟩
    · rw [List.size_toArray, length_spl _ _ _ (by rw [hL1l, hy]; omega), hL1l]
    · rw [hL1]
      exact ins_lists hxl hy (by rw [hxl]; omega) (by rw [Array.length_toList, hcs]; omega) ht
  have HF := Lib.hid hfin
  have hgw := Lib.hid hg
  have hvb := Lib.hid (show ∀ (W : World) (cs : Array Value), W.heap = w.heap → (W.setRow g cs).heap[vb]? = w.heap[vb]? from fun W cs hW => (setRow_other W g vb cs (fun e => hne e)).trans (by rw [hW]))
  have hcg : ¬ (c = i) := by omega
  have hcg1 : ¬ (c = i + 1) := by omega
  have hwr : IntKind.i64.wrap ((i : Int) + 1) = (i : Int) + 1 := by rw [IntKind.wrap_i64]; omega
  have hb1 : (0 : Int) ≤ (i : Int) + 1 := by omega
  have htn : ((i : Int) + 1).toNat = i + 1 := by omega
  have hb2 : (i : Int) ≤ (n : Int) + 1 := by omega
  have hb3 : (i : Int) + 1 ≤ (n : Int) + 1 := by omega
  clear hfin ho hb hbt hy h1x h1y hg hcs ht hxl hL1 hL1l hsz hbg hne
  go_enter Try.func30, Try.ntmps30
  go_wp2_with (simp only [hov])
  refine rp_enter [] (fun _ => True) (by kernel_rfl) ?_
  apply rp_pure 0 rfl (by kernel_rfl) (fun _ _ _ h => h) rfl
  · (intro W; go_simp; try rfl)
  · (go_simp; try rfl)
  apply rp_pure 1 rfl (by kernel_rfl) (fun _ _ _ h => h) rfl
  · (intro W; go_simp; try rfl)
  · (go_simp; try rfl)
  apply rp_pure 2 rfl (by kernel_rfl) (fun _ _ _ h => h) rfl
  · (intro W; go_simp; try rfl)
  · (go_simp; try rfl)
  apply rp_pure 3 rfl (by kernel_rfl) (fun _ _ _ h => h) rfl
  · (intro W; go_simp; try rfl)
  · (go_simp; try rfl)
  apply rp_pure 4 rfl (by kernel_rfl) (fun _ _ _ h => h) rfl
  · (intro W; go_simp; try rfl)
  · (go_simp; try rfl)
  apply rp_pure 5 rfl (by kernel_rfl) (fun _ _ _ h => h) rfl
  · (intro W; go_simp; try rfl)
  · (go_simp; try rfl)
  apply rp_pure 6 rfl (by kernel_rfl) (fun _ _ _ h => h) rfl
  · (intro W; go_simp; try rfl)
  · (go_simp; try rfl)
  apply rp_pure 7 rfl (by kernel_rfl) (fun _ _ _ h => h) rfl
  · (intro W; go_simp; try rfl)
  · (go_simp; try rfl)
  refine rp_only 8 (by kernel_rfl) rfl (fun K hK => ?_)
  refine step_copy_R rfl _ _ 33 33 rfl (by rfl) (by rfl) (hcp1 w.drew rfl _ _ _) ?_
  refine hK _ _ ⟨fun _ _ => trivial, ?_⟩; clear hK K
  refine rp_done (by kernel_rfl) ?_
  have hg1 := setRow_heap w.drew g cur L1.toArray 3 (0, 0) hgw.out
  go_wp2_with (with_reducible refine wpList_copy_R rfl (.tmp 80) (.tmp 81) _ _ rfl rfl rfl (hcp2 _ hg1 (hvb.out w.drew _ rfl) _ _) ?_)
  go_ret
  exact ⟨_, rfl, HF.out _ hg1, ((show w.grownBy w.drew (some g) from ⟨rfl, rfl, rfl, Nat.le_refl _, fun _ _ _ => rfl⟩).trans (setRow_grown rfl)).trans (setRow_grown rfl), rfl⟩

set_option maxHeartbeats 4000000 in
theorem insI_grow (g n i : Nat) (xs ys : List Value) (vb base : Nat) (w : World) (ho : w.ownsRow base 3 1 (.slice (some ⟨g, 0, none⟩) n n) n xs) (vc : Nat) (vcur : Array Value) (hb : w.heap[vb]? = some (.cells vcur 3 (0, 0))) (hbt : vcur.toList.take 1 = ys) (hy : ys.length = 1)
    (h1x : ∀ u ∈ xs, u.oneCell' = true) (h1y : ∀ u ∈ ys, u.oneCell' = true) (hi : i < n) (hn : n ≤ 1000000) (hbase : base ≤ w.heap.size) :
    Calls Try.prog 30 #[.slice (some ⟨g, 0, none⟩) n n, .int .i64 i, .slice (some ⟨vb, 0, none⟩) 1 vc] w fun e w' => ∃ v', e = .returned v' ∧ w'.ownsRow base 3 1 v' (n + 1) (xs.take (i) ++ ys ++ xs.drop (i)) ∧ w.grownBy w' (some g) ∧
      v'.ownBlock = some w.heap.size := by
  have hsz : (Try.prog.info? 3).map (·.size) = some 1 := by kernel_rfl
  obtain ⟨i0, hi0, hz0, hz1, hz2⟩ := info_parts (show (Try.prog.info? 3).map (fun i => (i.zero, i.size, i.bytes)) = some (some (.int .i64 0), 1, 8) by kernel_rfl)
  rcases ho.2 with ⟨e, _⟩ | ⟨g', c', cur, e, hbg, hg, hnc, hcm, hcs, ht⟩
  · cases e
  cases e
  have hxl := ho.1
  have hcl := ho.cells (g := g) rfl
  have hold : (Builtin.firstCells i0.size i (.slice (some ⟨g, 0, none⟩) i n)).run Try.prog w.drew = .ok (xs.take (i)).toArray w.drew := by
    rw [hz1]
    exact run_firstCells_some w.drew 1 i ⟨g, 0, none⟩ i n (xs.take (i)) (by rw [List.length_take]; omega) (fun j v hj => by
      rw [List.getElem?_take] at hj
      split at hj
      · exact hcl j v hj
      · cases hj)
  have hrz : ∀ ty, (Builtin.append_ #[33, 3] ty #[.slice (some ⟨g, 0, none⟩) i n, .int .i64 ((n : Int) + 1 - (i : Int))]).run Try.prog w =
      .ok (.slice (some ⟨w.heap.size, 0, none⟩) (n + 1) (grownCap w (n + 1) n 3)) (w.drew.alloc (.cells ((xs.take (i)).toArray ++ Builtin.zeroCells ((.int .i64 0) : Value).cells (n + 1 - i) ++ Builtin.zeroCells ((.int .i64 0) : Value).cells (grownCap w (n + 1) n 3 - (n + 1))) 3)) := fun ty => by
    have hik : i + (n + 1 - i) = n + 1 := by omega
    have h := Lib.run_append_grow_zeros (P := Try.prog) w 33 3 ty 3 i0 _ .i64 .i64 Try.underlying33 Try.underlying3 hi0 hz0 (some ⟨g, 0, none⟩) i n (xs.take (i)) hold (n + 1 - i) (by omega) (by omega) (by omega) (by omega) (by rw [hz2]; omega) (by rw [hz2, hik]; exact growslice_fits (by omega) (by omega))
    rw [hik] at h
    rw [show (n : Int) + 1 - (i : Int) = ((n + 1 - i : Nat) : Int) by omega]
    exact h
  obtain ⟨G, hG⟩ : ∃ G, G = grownCap w (n + 1) n 3 := ⟨_, rfl⟩
  have hGn : n + 1 ≤ G := by rw [hG]; exact grownCap_ge w _ _ _
  have hGm : G ≤ maxLen := by rw [hG]; exact grownCap_le_maxLen w (n + 1) n 3 (by unfold maxLen; omega)
  obtain ⟨ROW, hROW⟩ : ∃ ROW : List Value, ROW = xs.take (i) ++ ((Builtin.zeroCells ((.int .i64 0) : Value).cells (n + 1 - i)).toList ++ (Builtin.zeroCells ((.int .i64 0) : Value).cells (G - (n + 1))).toList) := ⟨_, rfl⟩
  have hRa : (xs.take (i)).toArray ++ Builtin.zeroCells ((.int .i64 0) : Value).cells (n + 1 - i) ++ Builtin.zeroCells ((.int .i64 0) : Value).cells (G - (n + 1)) = ROW.toArray := by rw [hROW]; apply Array.toList_inj.1; simp
  have hRl : ROW.length = G * 1 := by
    rw [hROW]
    simp only [List.length_append, List.length_take, Array.length_toList, size_zeroCells, hxl]
    simp only [Value.cells, List.size_toArray, List.length_cons, List.length_nil]
    omega
  have hRt : ROW.take (i) = xs.take (i) := by
    rw [hROW, List.take_append_of_le_length (by rw [List.length_take]; omega), List.take_take, Nat.min_self]
  rw [← hG, hRa] at hrz
  have hcpA : ∀ (W : World), W.heap[w.heap.size]? = some (.cells ROW.toArray 3 (0, 0)) → W.heap[vb]? = w.heap[vb]? → ∀ ty dc, (Builtin.copy_ #[33, 33] ty #[.slice (some ⟨w.heap.size, i, none⟩) (n + 1 - i) dc, .slice (some ⟨vb, 0, none⟩) 1 vc]).run Try.prog W = .ok (goInt 1) (W.setRow w.heap.size (spl ROW (i) ys).toArray) := fun W hW hV ty dc => by
    have hmin : Nat.min 1 (n + 1 - i) = 1 := by simp only [Nat.min_def]; split <;> omega
    have := run_copy_K (P := Try.prog) W 33 33 ty 3 w.heap.size (i) (n + 1 - i) dc ⟨vb, 0, none⟩ 1 vc ROW.toArray 3 ys 1 Try.underlying33 hsz hW
      (by rw [hmin, hy]) (fun j u hu => by
        rw [Addr.add_lit, Nat.zero_add, cell_of_row W vb _ vcur 3 (0, 0) (by rw [hV]; exact hb)]
        exact take_cell hbt hu) (by rw [List.size_toArray, hRl, hy]; omega) h1y
    rw [hmin] at this
    rw [this]
    congr 2
    exact congrArg List.toArray (over_get (by rw [hRl, hy]; omega))
  obtain ⟨L1, hL1⟩ : ∃ L1, L1 = spl ROW (i) ys := ⟨_, rfl⟩
  have hL1l : L1.length = G * 1 := by rw [hL1, length_spl _ _ _ (by rw [hRl, hy]; omega), hRl]
  rw [← hL1] at hcpA
  have hcpB : ∀ (W : World), W.heap[w.heap.size]? = some (.cells L1.toArray 3 (0, 0)) → W.heap[g]? = w.heap[g]? → ∀ ty dc sc, (Builtin.copy_ #[33, 33] ty #[.slice (some ⟨w.heap.size, i + 1, none⟩) (n - i) dc, .slice (some ⟨g, i, none⟩) (n - i) sc]).run Try.prog W = .ok (goInt ((n - i : Nat) : Int)) (W.setRow w.heap.size (spl L1 (i + 1) (xs.drop (i))).toArray) := fun W hW hV ty dc sc => by
    have hmin : Nat.min (n - i) (n - i) = n - i := Nat.min_self _
    have := run_copy_K (P := Try.prog) W 33 33 ty 3 w.heap.size (i + 1) (n - i) dc ⟨g, i, none⟩ (n - i) sc L1.toArray 3 (xs.drop (i)) 1 Try.underlying33 hsz hW
      (by rw [hmin, List.length_drop, hxl]; omega) (fun j u hu => by
        rw [List.getElem?_drop, ← ht, List.getElem?_take] at hu
        split at hu
        · rw [Addr.add_lit, cell_of_row W g _ cur 3 (0, 0) (by rw [hV]; exact hg)]
          simpa using hu
        · cases hu) (by rw [List.length_drop, hxl, List.size_toArray, hL1l]; omega) (fun u hu => h1x u (List.mem_of_mem_drop hu))
    rw [hmin] at this
    rw [this]
    congr 2
    have e : (i + 1) = i + 1 := by omega
    rw [e]
    exact congrArg List.toArray (over_get (by rw [List.length_drop, hxl, hL1l]; omega))
  have hlg := (Array.getElem?_eq_some_iff.1 hg).1
  have hlv := (Array.getElem?_eq_some_iff.1 hb).1
  have hfin : ∀ (W : World), W.heap[w.heap.size]? = some (.cells L1.toArray 3 (0, 0)) → (W.setRow w.heap.size (spl L1 (i + 1) (xs.drop (i))).toArray).ownsRow base 3 1 (.slice (some ⟨w.heap.size, 0, none⟩) (n + 1) G) (n + 1) (xs.take (i) ++ ys ++ xs.drop (i)) := fun W hW => by
    refine ⟨by simp only [List.length_append, List.length_take, List.length_drop, hxl, hy]; omega, .inr ⟨w.heap.size, G, _, rfl, hbase, setRow_heap W w.heap.size _ _ 3 _ hW, hGn, hGm, ?_, ?_⟩⟩
    · rw [List.size_toArray, length_spl _ _ _ (by rw [List.length_drop, hxl, hL1l]; omega), hL1l]
    · rw [hL1]
      exact ins_lists2 hxl hy (by rw [hxl]; omega) (by rw [hRl]; omega) hRt
  have HF := Lib.hid hfin
  obtain ⟨W1, hW1⟩ : ∃ W1, W1 = w.drew.alloc (.cells ROW.toArray 3) := ⟨_, rfl⟩
  have hn1 : W1.heap[w.heap.size]? = some (.cells ROW.toArray 3 (0, 0)) := by rw [hW1]; exact heap_alloc_new w.drew _
  have ho1 : ∀ k, k < w.heap.size → W1.heap[k]? = w.heap[k]? := fun k hk => by rw [hW1]; exact Below.heap_alloc w.drew _ k hk
  have hgr1 : w.grownBy W1 (some g) := by rw [hW1]; exact (show w.grownBy w.drew (some g) from ⟨rfl, rfl, rfl, Nat.le_refl _, fun _ _ _ => rfl⟩).trans (World.grownBy_alloc _ _ _)
  rw [← hW1] at hrz
  have hcA := hcpA W1 hn1 (ho1 vb hlv)
  have hn2 := setRow_heap W1 w.heap.size _ L1.toArray 3 (0, 0) hn1
  have hcB := hcpB (W1.setRow w.heap.size L1.toArray).drew hn2 ((setRow_other W1 w.heap.size g _ (by omega)).trans (ho1 g hlg))
  have hgr2 : w.grownBy ((W1.setRow w.heap.size L1.toArray).drew.setRow w.heap.size (spl L1 (i + 1) (xs.drop (i))).toArray) (some g) :=
    ⟨hgr1.os, hgr1.tape, hgr1.output, by simpa [World.setRow, World.drew] using hgr1.size, fun k hk hne => (setRow_other _ _ k _ (by omega)).trans ((setRow_other W1 _ k _ (by omega)).trans (ho1 k hk))⟩
  have HG := Lib.hid (And.intro (hfin (W1.setRow w.heap.size L1.toArray).drew hn2) hgr2)
  have hwr : IntKind.i64.wrap ((i : Int) + 1) = (i : Int) + 1 := by rw [IntKind.wrap_i64]; omega
  have hb1 : (0 : Int) ≤ (i : Int) + 1 := by omega
  have htn : ((i : Int) + 1).toNat = i + 1 := by omega
  have hb2 : (i : Int) ≤ (n : Int) + 1 := by omega
  have hb3 : (i : Int) + 1 ≤ (n : Int) + 1 := by omega
  have hb4 : (i : Int) ≤ (n : Int) := by omega
  have hnlt : (i : Int) < n := by omega
  have hne' : ¬ ((i : Int) = n) := by omega
  have hgi : ¬ (G = i) := by omega
  have hgi1 : ¬ (G = i + 1) := by omega
  have hni : ¬ (n = i) := by omega
  unfold maxLen at hGm
  clear hfin ho hb hbt hy h1x h1y hg hcs ht hxl hcl hL1 hL1l hsz hbg hz0 hz1 hz2 hi0 hold hG hROW hRa hRl hRt hW1 ho1 hgr1 hgr2 hcpA hcpB hn1 hn2 hcm hlg hlv hbase HF
  have hrz := hrz
  go_enter Try.func30, Try.ntmps30
  go_wp2_with (first | (with_reducible refine wpList_append_run' rfl (.tmp 34) (.tmp 39) _ _ rfl rfl rfl (hrz _) ?_) | (with_reducible refine wpList_copy_R rfl (.tmp 43) (.tmp 44) _ _ rfl rfl rfl (hcA _ _) ?_))
  refine rp_enter [] (fun _ => True) (by kernel_rfl) ?_
  apply rp_pure 0 rfl (by kernel_rfl) (fun _ _ _ h => h) rfl
  · (intro W; go_simp; try rfl)
  · (go_simp; try rfl)
  apply rp_pure 1 rfl (by kernel_rfl) (fun _ _ _ h => h) rfl
  · (intro W; go_simp; try rfl)
  · (go_simp; try rfl)
  apply rp_pure 2 rfl (by kernel_rfl) (fun _ _ _ h => h) rfl
  · (intro W; go_simp; try rfl)
  · (go_simp; try rfl)
  apply rp_pure 3 rfl (by kernel_rfl) (fun _ _ _ h => h) rfl
  · (intro W; go_simp; try rfl)
  · (go_simp; try rfl)
  apply rp_pure 4 rfl (by kernel_rfl) (fun _ _ _ h => h) rfl
  · (intro W; go_simp; try rfl)
  · (go_simp; try rfl)
  apply rp_pure 5 rfl (by kernel_rfl) (fun _ _ _ h => h) rfl
  · (intro W; go_simp; try rfl)
  · (go_simp; try rfl)
  apply rp_pure 6 rfl (by kernel_rfl) (fun _ _ _ h => h) rfl
  · (intro W; go_simp; try rfl)
  · (go_simp; try rfl)
  apply rp_pure 7 rfl (by kernel_rfl) (fun _ _ _ h => h) rfl
  · (intro W; go_simp; try rfl)
  · (go_simp; try rfl)
  refine rp_only 8 (by kernel_rfl) rfl (fun K hK => ?_)
  refine step_copy_R rfl _ _ 33 33 rfl (by rfl) (by rfl) (hcB _ _ _) ?_
  refine hK _ _ ⟨fun _ _ => trivial, ?_⟩; clear hK K
  refine rp_done (by kernel_rfl) ?_
  go_wp2
  go_ret
  exact ⟨_, rfl, HG.out.1, HG.out.2, rfl⟩

/-- slices.Insert of one element. -/
theorem insI_any (v : Value) (n i : Nat) (xs ys : List Value) (vb base : Nat) (w : World) (ho : w.ownsRow base 3 1 v n xs) (vc : Nat) (vcur : Array Value) (hb : w.heap[vb]? = some (.cells vcur 3 (0, 0))) (hbt : vcur.toList.take 1 = ys) (hy : ys.length = 1)
    (h1x : ∀ u ∈ xs, u.oneCell' = true) (h1y : ∀ u ∈ ys, u.oneCell' = true) (hne : v.ownBlock ≠ some vb) (hi : i ≤ n) (hn : n ≤ 1000000) (hbase : base ≤ w.heap.size) :
    Calls Try.prog 30 #[v, .int .i64 i, .slice (some ⟨vb, 0, none⟩) 1 vc] w fun e w' => ∃ v', e = .returned v' ∧ w'.ownsRow base 3 1 v' (n + 1) (xs.take (i) ++ ys ++ xs.drop (i)) ∧ w.grownBy w' v.ownBlock ∧
      (v'.ownBlock = v.ownBlock ∨ v'.ownBlock = some w.heap.size) := by
  by_cases hin : i = n
  · subst hin
    refine (insI_end v i xs ys vb base w ho vc vcur hb hbt hy h1y hn hbase).mono ?_
    rintro e w' ⟨v', h1, h2, h3, h4⟩
    refine ⟨v', h1, ?_, h3, h4⟩
    rw [List.take_of_length_le (by rw [ho.1]; omega), List.drop_eq_nil_of_le (by rw [ho.1]; omega), List.append_nil]
    exact h2
  · rcases id ho.2 with ⟨rfl, rfl⟩ | ⟨g, c, cur, rfl, hbg, hg, hnc, hcm, hcs, ht⟩
    · omega
    · by_cases hc : n + 1 ≤ c
      · exact (insI_shift g c n i xs ys vb base w ho vc vcur hb hbt hy h1x h1y (fun e => hne (by rw [e]; rfl)) (by omega) hc hn).mono fun e w' ⟨v', h1, h2, h3, h4⟩ => ⟨v', h1, h2, h3, .inl h4⟩
      · obtain rfl : c = n := by omega
        exact (insI_grow g c i xs ys vb base w ho vc vcur hb hbt hy h1x h1y (by omega) hn hbase).mono fun e w' ⟨v', h1, h2, h3, h4⟩ => ⟨v', h1, h2, h3, .inr h4⟩
end Go.Proofs.Ytjcboeldmgmfcaa
end
