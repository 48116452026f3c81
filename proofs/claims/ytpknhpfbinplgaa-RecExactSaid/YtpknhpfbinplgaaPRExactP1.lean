/-
Several texts in one.
-/
import Derived.Test.YtpknhpfbinplgaaPRExactP0
import Derived.Test.YtpknhpfbinplgaaProg
import Derived.Deep.DeepMust
import Derived.Lib.AppendZeros
import Derived.Deep.LoopGhost
import Derived.Laws.BitsLemmas
import Derived.Shelf.Abstract
import Derived.Laws.BytesArg
import Derived.Lib.Strings
import Derived.Lib.Slices
import Derived.Lib.Walk
import Derived.Lib.Bytes

/-
Functions in the abstract: results, what is given up at the end, contracts of functions that write nothing of their caller's.
-/
section
namespace Go.Proofs.Ytpknhpfbinplgaa.A
open Go.RowKit

def retOne (T : Tys) (fr : Fr) (H : List AB) (r : ResultVar) (k : AV → Prop) : Prop :=
  match r with
  | .tmp t => forceK (fget fr t) k
  | .cell a t => match tget T t with
    | some ty => ptK H (fget fr a) fun cs => ldK ty cs k
    | none => False
def retL (T : Tys) (fr : Fr) (H : List AB) : List ResultVar → (List AV → Prop) → Prop
  | [], k => k []
  | r :: l, k => retOne T fr H r fun x => retL T fr H l fun xs => k (x :: xs)
def retK (T : Tys) (rs : List ResultVar) (fr : Fr) (H : List AB) (k : AV → Prop) : Prop :=
  retL T fr H rs fun l => match l with | [x] => k x | l => k (.tp l)
/-- A value, its own rows given up for reading. -/
def seal1 (x : AV) (H : List AB) (k : AV → List AB → Prop) : Prop :=
  match x with
  | .ag cs => sealK cs H fun l H => k (.ag l) H
  | .v u => k (.v u) H
  | .sl sz n get => k (.sl sz n get) H
  | .ow j n => match hget H j with
      | some (.row _ sz es) => n = es.length ∧ setK j .dead H fun H => k (.sl sz n (fun i => es.getD i [])) H
      | _ => False
  | _ => False
def sealA : List AV → List AB → (List AV → List AB → Prop) → Prop
  | [], H, k => k [] H
  | x :: l, H, k => seal1 x H fun x H => sealA l H fun l H => k (x :: l) H
def sealR (x : AV) (H : List AB) (k : AV → Prop) : Prop :=
  match x with
  | .tp l => sealA l H fun l _ => k (.tp l)
  | x => seal1 x H fun x _ => k x

theorem seal1_sound {w0 : World} {M0 : Ms} {c : Ctx} {H : List AB} {x : AV} {u : Value} {k : AV → List AB → Prop} (hs : HS w0 M0 c H) (hr : Rd x c u) (h : seal1 x H k) :
    ∃ r H' c', k r H' ∧ c'.w = c.w ∧ HS w0 M0 c' H' ∧ Ext c c' ∧ Rd r c'.closed u ∧ H'.length = H.length := by
  unfold seal1 at h
  split at h
  · rename_i cs
    simp only [Rd] at hr
    obtain ⟨xs, rfl, hx⟩ := hr
    obtain ⟨l', H', c', q1, q2, q3, q4, q5, q6, q7, q8⟩ := sealK_sound hs hx h
    exact ⟨_, H', c', q1, q2, q3, q4, by simp only [Rd]; exact ⟨xs, rfl, q5⟩, q6⟩
  · exact ⟨_, H, c, h, rfl, hs, Ext.refl c, by simpa [Rd] using hr, rfl⟩
  · exact ⟨_, H, c, h, rfl, hs, Ext.refl c, by simp only [Rd] at hr ⊢; exact hr, rfl⟩
  · rename_i j n
    rw [hget_eq] at h
    split at h
    · rename_i t sz es hj
      obtain ⟨rfl, h⟩ := h
      have h := setK_iff h
      obtain ⟨c1, e1, e2, e3, e4⟩ := hs.freeze hj
      refine ⟨_, _, c1, h, e1, e2, e3, ?_, by simp⟩
      have := e4 u hr
      simp only [Rd] at this ⊢
      exact this
    · exact h.elim
  · exact h.elim
theorem sealA_sound : ∀ {l : List AV} {w0 : World} {M0 : Ms} {c : Ctx} {H : List AB} {xs : List Value} {k : List AV → List AB → Prop}, HS w0 M0 c H → RdL l c xs → sealA l H k →
    ∃ l' H' c', k l' H' ∧ c'.w = c.w ∧ HS w0 M0 c' H' ∧ Ext c c' ∧ RdL l' c'.closed xs ∧ H'.length = H.length
  | [], _, _, c, H, xs, k, hs, hr, h => ⟨[], H, c, h, rfl, hs, Ext.refl c, by simp only [RdL] at hr ⊢; exact hr, rfl⟩
  | x :: l, w0, M0, c, H, xs, k, hs, hr, h => by
    simp only [RdL] at hr
    obtain ⟨u, us, rfl, h1, h2⟩ := hr
    simp only [sealA] at h
    obtain ⟨r, H1, c1, q1, q2, q3, q4, q5, q6⟩ := seal1_sound hs h1 h
    obtain ⟨l', H2, c2, p1, p2, p3, p4, p5, p6⟩ := sealA_sound q3 (RdL.ext _ q4 h2) q1
    refine ⟨_, H2, c2, p1, p2.trans q2, p3, q4.trans p4, ?_, by omega⟩
    simp only [RdL]
    exact ⟨u, us, rfl, Rd.ext _ p4.closed q5, p5⟩
theorem sealR_sound {w0 : World} {M0 : Ms} {c : Ctx} {H : List AB} {x : AV} {u : Value} {k : AV → Prop} (hs : HS w0 M0 c H) (hr : Rd x c u) (h : sealR x H k) :
    ∃ r H' c', k r ∧ c'.w = c.w ∧ HS w0 M0 c' H' ∧ Ext c c' ∧ Rd r c'.closed u := by
  unfold sealR at h
  split at h
  · simp only [Rd] at hr
    obtain ⟨xs, rfl, hx⟩ := hr
    obtain ⟨l', H', c', q1, q2, q3, q4, q5, q6⟩ := sealA_sound hs hx h
    exact ⟨_, H', c', q1, q2, q3, q4, by simp only [Rd]; exact ⟨xs, rfl, q5⟩⟩
  · obtain ⟨r, H', c', q1, q2, q3, q4, q5, _⟩ := seal1_sound hs hr h
    exact ⟨r, H', c', q1, q2, q3, q4, q5⟩

def resOne (tmps : Array Value) (r : ResultVar) : Sem Value :=
  match r with
  | .tmp t => pure (tmps.getD t undef)
  | .cell a t => do loadVar t (← asAddr (tmps.getD a undef))
theorem results_eq (fn : Func) (tmps : Array Value) : results fn tmps = (do let vs ← fn.results.mapM (resOne tmps); pure (if h : vs.size = 1 then vs[0] else .tuple vs)) := by
  unfold results
  congr 1
theorem retOne_sound {P : Program} {T : Tys} (hT : TOk P T) {w0 : World} {M0 : Ms} {c : Ctx} {H : List AB} (hs : HS w0 M0 c H) {n : Nat} {fr : Fr} {a : Act} (hf : FR c n fr a) {r : ResultVar} {k : AV → Prop} (h : retOne T fr H r k) :
    ∃ x v, k x ∧ Rd x c v ∧ (resOne a.tmps r).run P c.w = .ok v c.w := by
  cases r with
  | tmp t => exact ⟨_, _, forceK_iff h, hf.get _, rfl⟩
  | cell ad t =>
    simp only [retOne] at h
    split at h
    · rename_i ty ht
      obtain ⟨b, off, cs, hu, hc, hk⟩ := pt_sound hs (hf.get ad) h
      obtain ⟨x, v, h1, h2, h3⟩ := ld_sound (P := P) (hT.get ht) hc hk
      exact ⟨x, v, h1, h3, by simp only [resOne, hu, asAddr, Sem.run_bind, Sem.run_pure, Result.andThen_ok]; exact h2 c.w (Old.refl _)⟩
    · exact h.elim
theorem retL_sound {P : Program} {T : Tys} (hT : TOk P T) {w0 : World} {M0 : Ms} {c : Ctx} {H : List AB} (hs : HS w0 M0 c H) {n : Nat} {fr : Fr} {a : Act} (hf : FR c n fr a) : ∀ {l : List ResultVar} {k : List AV → Prop}, retL T fr H l k →
    ∃ xs vs, k xs ∧ RdL xs c vs ∧ (l.mapM (resOne a.tmps)).run P c.w = .ok vs c.w
  | [], k, h => ⟨[], [], h, by simp [RdL], by simp⟩
  | r :: l, k, h => by
    simp only [retL] at h
    obtain ⟨x, v, h1, h2, h3⟩ := retOne_sound hT hs hf h
    obtain ⟨xs, vs, h4, h5, h6⟩ := retL_sound hT hs hf h1
    refine ⟨x :: xs, v :: vs, h4, by simp only [RdL]; exact ⟨v, vs, rfl, h2, h5⟩, ?_⟩
    rw [List.mapM_cons, Sem.run_bind, h3, Result.andThen_ok, Sem.run_bind, h6]
    rfl
theorem retK_sound {P : Program} {T : Tys} (hT : TOk P T) {w0 : World} {M0 : Ms} {c : Ctx} {H : List AB} (hs : HS w0 M0 c H) {n : Nat} {fr : Fr} {a : Act} (hf : FR c n fr a) {fn : Func} {k : AV → Prop} (h : retK T fn.results.toList fr H k) :
    ∃ x v, k x ∧ Rd x c v ∧ (results fn a.tmps).run P c.w = .ok v c.w := by
  unfold retK at h
  obtain ⟨xs, vs, h1, h2, h3⟩ := retL_sound hT hs hf h
  have hrun : ∀ v, (if h : vs.toArray.size = 1 then vs.toArray[0] else .tuple vs.toArray) = v → (results fn a.tmps).run P c.w = .ok v c.w := by
    intro v hv
    rw [results_eq, Sem.run_bind, Array.mapM_eq_mapM_toList, Sem.run_map, h3]
    simp only [Result.andThen_ok, Sem.run_pure]
    rw [← hv]
  have hl := h2.length
  cases xs with
  | nil =>
    simp only [RdL] at h2
    subst h2
    exact ⟨.tp [], .tuple #[], h1, by simp only [Rd]; exact ⟨[], rfl, by simp [RdL]⟩, hrun _ (by simp)⟩
  | cons x xs =>
    have h2' := h2
    simp only [RdL] at h2
    obtain ⟨v, us, rfl, h4, h5⟩ := h2
    cases xs with
    | nil =>
      simp only [RdL] at h5
      subst h5
      exact ⟨x, v, h1, h4, hrun v (by simp)⟩
    | cons y xs =>
      refine ⟨.tp (x :: y :: xs), .tuple (v :: us).toArray, h1, by simp only [Rd]; exact ⟨_, rfl, h2'⟩, hrun _ ?_⟩
      rw [dif_neg]
      have := h5.length
      simp at this ⊢
      intro e; subst e; simp at this

def IsGo (P : Program) (f : FuncId) : Prop := ∃ fn, P.funcs[f]? = some fn ∧ fn.body.isNone = false ∧ (fn.name == "runtime.NumGoroutine") = false
/-- A function that writes nothing of its caller's: what it answers to such arguments. -/
structure Fn (P : Program) (f : FuncId) (args : List AV) (K : AV → Prop) : Prop where
  go : IsGo P f
  calls : ∀ (c0 : Ctx) (us : List Value), c0.dom = 0 → (∀ b, c0.M b → b < c0.w.heap.size) → RdL args c0 us →
    Calls P f us.toArray c0.w fun e w' => ∃ v r, e = .returned v ∧ K r ∧ Below c0.w.heap.size c0.w w' ∧ Rd r { c0 with w := w' } v
theorem Fn.mono {P : Program} {f : FuncId} {args : List AV} {K K' : AV → Prop} (h : Fn P f args K) (hk : ∀ r, K r → K' r) : Fn P f args K' :=
  ⟨h.1, fun c0 us h1 h2 h3 => (h.2 c0 us h1 h2 h3).mono fun _ _ ⟨v, r, h4, h5, h6⟩ => ⟨v, r, h4, hk _ h5, h6⟩⟩
theorem Fn.closed {P : Program} {f : FuncId} {args : List AV} {H : List AB} {K : AV → Prop} {q : Bool} {k : AV → List AB → Prop} (h : Fn P f args K) (hc : AV.ltL args 0 = true) (hk : ∀ r, K r → k r H) : ACalls P q f args H k := by
  refine ⟨h.go, fun w0 M0 c us hs0 hr => ?_⟩
  have hcut : Cut c c.closed := ⟨Ext.refl _, fun k hk => absurd hk (Nat.not_lt_zero k)⟩
  refine (h.calls c.closed us rfl hs0.lt (RdL.cut args hcut hc hr)).mono ?_
  rintro e w' ⟨v, r, rfl, q1, q2, q3⟩
  obtain ⟨p1, p2⟩ := hs0.grow (w' := w') q2
  exact ⟨v, _, r, H, rfl, rfl, hk r q1, p1, p2, Rd.ext r (Ext.ofClosed { c with w := w' }) q3, fun _ => q2.old⟩
theorem ACalls.shut {P : Program} {q : Bool} {f : FuncId} {args : List AV} {H : List AB} {k : AV → List AB → Prop} (h : IsGo P f) (hs : sealA args H fun a H => ACalls P q f a H k) : ACalls P q f args H k := by
  refine ⟨h, fun w0 M0 c us hs0 hr => ?_⟩
  obtain ⟨l', H', c', h1, h2, h3, h4, h5, _⟩ := sealA_sound hs0 hr hs
  have := h1.calls w0 M0 c' us h3 (RdL.ext _ (Ext.ofClosed c') h5)
  rw [h2] at this
  refine this.mono ?_
  rintro e w' ⟨v, c2, r, H2, rfl, rfl, q1, q2, q3, q4, q5⟩
  exact ⟨v, c2, r, H2, rfl, rfl, q1, q2, h4.trans q3, q4, q5⟩
theorem Fn.shut {P : Program} {f : FuncId} {args args' : List AV} {H : List AB} {K : AV → Prop} {q : Bool} {k : AV → List AB → Prop} (h : Fn P f args' K) (hs : sealA args H fun a H => a = args' ∧ ∀ r, K r → k r H) : ACalls P q f args H k := by
  refine ⟨h.1, fun w0 M0 c us hs0 hr => ?_⟩
  obtain ⟨l', H', c', ⟨rfl, h1⟩, h2, h3, h4, h5, _⟩ := sealA_sound hs0 hr hs
  have := h.2 c'.closed us rfl h3.lt h5
  rw [show c'.closed.w = c.w from h2] at this
  refine this.mono ?_
  rintro e w' ⟨v, r, rfl, q1, q2, q3⟩
  have hB : Below c'.w.heap.size c'.w w' := by rw [h2]; exact q2
  obtain ⟨p1, p2⟩ := h3.grow hB
  exact ⟨v, _, r, H', rfl, rfl, h1 r q1, p1, h4.trans p2, Rd.ext r (Ext.ofClosed { c' with w := w' }) q3, fun _ => q2.old⟩

def frOf : Nat → List AV → Fr
  | _, [] => []
  | i, x :: l => (i, x) :: frOf (i + 1) l
theorem frOf_rd {c : Ctx} {us : List Value} {m : Nat} : ∀ {l : List AV} {i : Nat} {pre : List Value}, pre.length = i → RdL l c us → ∀ j, Rd (fget (frOf i l) j) c ((pre ++ us ++ List.replicate m undef)[j]?.getD undef) := by
  intro l
  induction l generalizing us with
  | nil => intro i pre _ _ j; simp [frOf, fget, Rd]
  | cons x l ih =>
    intro i pre hp hr j
    simp only [RdL] at hr
    obtain ⟨y, ys, rfl, h1, h2⟩ := hr
    simp only [frOf, fget]
    cases hb : Nat.beq i j with
    | true =>
      have := Nat.eq_of_beq_eq_true hb
      subst this
      simp only [cond_true]
      rw [List.append_assoc, List.getElem?_append_right (by omega), hp]
      simpa using h1
    | false =>
      have := ih (us := ys) (i := i + 1) (pre := pre ++ [y]) (by simp [hp]) h2 j
      simpa using this
/-- What stands at a function's end. -/
def finQ (T : Tys) (rs : List ResultVar) (K : AV → Prop) : QA := fun ex fr H => match ex with
  | .exit _ => False
  | _ => retK T rs fr H fun x => sealR x H fun r => ∃ r', (∀ c v, Rd r c v → Rd r' c v) ∧ K r'
theorem Fn.of {P : Program} {T : Tys} (hT : TOk P T) {f : FuncId} {fn : Func} {body : Code} {args : List AV} {K : AV → Prop} (hf : P.funcs[f]? = some fn) (hb : fn.body = some body) (hname : (fn.name == "runtime.NumGoroutine") = false) (hn : args.length ≤ fn.ntmps)
    (h : aCode P T fn.ntmps 0 body (finQ T fn.results.toList K) (frOf 0 args) []) : Fn P f args K := by
  refine ⟨⟨fn, hf, by rw [hb]; rfl, hname⟩, fun c0 us hd hM hr => ?_⟩
  refine calls_of_wp hf hb ?_
  let ce : Ctx := { c0 with base := c0.w.heap.size }
  have hce : Ext c0 ce := ⟨rfl, rfl, rfl, Nat.le_refl _, fun _ _ h => ⟨h, rfl⟩, Nat.le_refl _, fun _ _ => Nat.le_refl _, fun _ _ _ => rfl, fun _ _ _ h => h⟩
  have hHS : HS c0.w c0.M ce [] := ⟨Below.refl _ _, rfl, hd, fun _ _ => Iff.rfl, hM, by simp, by simp, by simp⟩
  have hlen := hr.length
  have hFR : FR ce fn.ntmps (frOf 0 args) { tmps := us.toArray ++ Array.replicate (fn.ntmps - us.toArray.size) undef, defers := [] } := by
    refine ⟨by simp; omega, rfl, fun i => ?_⟩
    have := frOf_rd (c := ce) (m := fn.ntmps - us.length) (l := args) (i := 0) (pre := []) rfl (RdL.ext _ hce hr) i
    rw [Array.getD_eq_getD_getElem?]
    have e : (us.toArray ++ Array.replicate (fn.ntmps - us.toArray.size) undef)[i]? = ([] ++ us ++ List.replicate (fn.ntmps - us.length) undef)[i]? := by
      have : (us.toArray ++ Array.replicate (fn.ntmps - us.toArray.size) undef) = ([] ++ us ++ List.replicate (fn.ntmps - us.length) undef).toArray := Array.ext' (by simp)
      rw [this]; simp only [List.getElem?_toArray]
    rw [e]
    exact this
  refine aCode_sound (w0 := c0.w) (M0 := c0.M) (ce := ce) hT hd body _ _ ce _ [] _ ?_ hHS hFR (Ext.refl _) h
  have fin : ∀ a w, Lift c0.w c0.M ce fn.ntmps (fun fr H => retK T fn.results.toList fr H fun x => sealR x H fun r => ∃ r', (∀ c v, Rd r c v → Rd r' c v) ∧ K r') a w → a.defers = [] ∧ ∃ v, (results fn a.tmps).run P w = .ok v w ∧ ∃ v' r, Ending.returned v = .returned v' ∧ K r ∧ Below c0.w.heap.size c0.w w ∧ Rd r { c0 with w := w } v' := by
    rintro a w ⟨c, fr, H, rfl, h1, h2, h3, h4⟩
    obtain ⟨x, v, q1, q2, q3⟩ := retK_sound hT h2 h3 h1
    obtain ⟨r, H', c', p1, p2, p3, p4, p5⟩ := sealR_sound h2 q2 q1
    obtain ⟨r', o1, o2⟩ := p1
    refine ⟨h3.defers, v, q3, v, r', rfl, o2, h2.low, ?_⟩
    refine o1 _ _ ?_
    have hE : Ext c'.closed { c0 with w := c.w } := by
      refine ⟨by simp [Ctx.closed, p2], by simp [Ctx.closed, p2], by simp [Ctx.closed, p2], by simp [Ctx.closed, p2], fun b hb hm => ⟨fun h => hm ?_, by simp [Ctx.closed, p2]⟩, Nat.zero_le _, fun k hk => absurd hk (Nat.not_lt_zero k), fun k hk => absurd hk (Nat.not_lt_zero k), fun k _ hk => absurd hk (Nat.not_lt_zero k)⟩
      exact (p3.foreign b (hM b h)).2 h
    exact Rd.ext _ hE p5
  intro e a w hl
  cases e with
  | normal => exact fin a w hl
  | ret => exact fin a w hl
  | exit id =>
    obtain ⟨c, fr, H, _, h1, _⟩ := hl
    exact h1.elim
  | _ => exact hl.elim
end Go.Proofs.Ytpknhpfbinplgaa.A
end

/-
Plain laws on a statement whose order Go leaves open: an operation that only computes or loads is taken first, as long as what it loads stands while it may still wait; whatever is done behind it need keep only what somebody may still be waiting to load.
-/
section
namespace Go.Proofs.Ytpknhpfbinplgaa

section
variable {P : Program} {ops : Array Oper} {Q : Exit → Act → World → Prop} {D : List Nat} {S : World → Prop}

/-- May one of D still be waiting when operation j has been done? -/
def mayWait (ops : Array Oper) (D : List Nat) (j : Nat) : Bool :=
  D.any fun i => i != j && !((ops[j]?).map fun o => o.after.any fun e => Region.binds .any e && e.on == i).getD false

def Held (P : Program) (ops : Array Oper) (Q : Exit → Act → World → Prop) (D : List Nat) (S : World → Prop) : Nat → Array Bool → Act → World → Prop
  | 0, l, a, w => Region.ready .any ops l = [] ∧ Q .normal a w
  | n + 1, l, a, w => (Region.ready .any ops l = [] → Q .normal a w) ∧
      ∀ i ∈ Region.ready .any ops l, wpOp P ops Q i (fun a' w' => (mayWait ops D i = true → S w') ∧ Held P ops Q D S n (l.setIfInBounds i true) a' w') a w

theorem Held.any : ∀ (n : Nat) (l : Array Bool) (a : Act) (w : World), Held P ops Q D S n l a w → wpAny P .any ops Q n l a w
  | 0, _, _, _, h => h
  | n + 1, _, _, _, h => ⟨h.1, fun i hi => wpOp_mono (fun a' w' h' => Held.any n _ a' w' h'.2) (h.2 i hi)⟩

theorem mayWait_of {i j : Nat} {oj : Oper} (hD : i ∈ D) (hj : ops[j]? = some oj) (hne : j ≠ i) (hno : ∀ e ∈ oj.after, Region.binds .any e = true → e.on ≠ i) : mayWait ops D j = true := by
  refine List.any_eq_true.2 ⟨i, hD, ?_⟩
  have hany : oj.after.any (fun e => Region.binds .any e && e.on == i) = false := by
    rw [← Bool.not_eq_true]
    intro h
    obtain ⟨e, he, hb⟩ := Array.any_eq_true'.1 h
    simp only [Bool.and_eq_true, beq_iff_eq] at hb
    exact hno e he hb.1 hb.2
  simp only [hj, Option.map_some, Option.getD_some, hany, Bool.not_false, Bool.and_true, bne_iff_ne, ne_eq]
  exact fun h => hne h.symm

theorem Held.first {S' : World → Prop} {i : Nat} {oi : Oper} {v : Value} (hi : ops[i]? = some oi)
    (hD : ∀ (j : Nat) (oj : Oper) (w : World), ops[j]? = some oj → j ≠ i → (∀ e ∈ oj.after, Region.binds .any e = true → e.on ≠ i) → (mayWait ops D j = true → S w) → S' w)
    (hD' : ∀ w, S' w → mayWait ops D i = true → S w) (hsel : ∀ (j : Nat) (o : Oper) cs b, ops[j]? = some o → o.op ≠ .select cs b)
    (hQ : ∀ c a w, Q (.panic c) (a.put oi.dst v) w → Q (.panic c) a w) : ∀ (n : Nat) (l : Array Bool) (a : Act) (w : World),
      (∀ j oj, ops[j]? = some oj → j ≠ i → l.getD j true = false → (∀ e ∈ oj.after, Region.binds .any e = true → e.on ≠ i) → oi.apart ops oj = true) →
      i ∈ Region.ready .any ops l → YieldsIf P ops S' oi v a → S' w → (mayWait ops D i = true → S w) → Held P ops Q D S n (l.setIfInBounds i true) (a.put oi.dst v) w → Held P ops Q D S (n + 1) l a w := by
  intro n
  induction n with
  | zero =>
    intro l a w _ hr hy hS hSS H
    refine ⟨fun h => (by rw [h] at hr; cases hr), fun j hj => ?_⟩
    by_cases hji : j = i
    · subst hji; exact hy.wpOp hi hS ⟨hSS, H⟩
    · have h1 := ready_mono hj hji
      rw [H.1] at h1
      cases h1
  | succ n ih =>
    intro l a w hfree hr hy hS hSS H
    refine ⟨fun h => (by rw [h] at hr; cases hr), fun j hj => ?_⟩
    by_cases hji : j = i
    · subst hji; exact hy.wpOp hi hS ⟨hSS, H⟩
    have h1 := H.2 j (ready_mono hj hji)
    obtain ⟨hjun, oj, hoj, hall⟩ := mem_ready.1 hj
    have hnot : ∀ e ∈ oj.after, Region.binds .any e = true → e.on ≠ i := fun e he hb heq => by
      have h2 := hall e he hb
      have h3 := (mem_ready.1 hr).1
      rw [heq] at h2
      rcases Nat.lt_or_ge i l.size with h' | h'
      · simp [h'] at h2 h3; rw [h3] at h2; cases h2
      · simp [Array.getElem?_eq_none h'] at h2
    have h2 := wpOp_putIf hoj (hfree j oj hoj hji hjun hnot) (fun cs b => hsel i oi cs b hi) (fun cs b => hsel j oj cs b hoj) hQ hy h1
    refine wpOp_mono (fun a' w' h3 => ⟨h3.2.1, ih (l.setIfInBounds j true) a' w' (fun k ok hk hki hun hno => ?_) (ready_mono hr (Ne.symm hji)) h3.1 (hD j oj w' hoj hji hnot h3.2.1) (fun hm => hD' _ (hD j oj w' hoj hji hnot h3.2.1) hm) ?_⟩) h2
    · refine hfree k ok hk hki ?_ hno
      by_cases hjk : j = k
      · subst hjk; exact hjun
      · rw [getD_set_ne true hjk] at hun; exact hun
    · rw [Array.setIfInBounds_comm _ _ hji]
      exact h3.2.2

/-- The beginning. -/
theorem rg_enter (D : List Nat) (S : World → Prop) {id : Nat} {a : Act} {w : World} (hm : P.follows .mixedOrders = true)
    (h : Held P ops Q D S ops.size (Array.replicate ops.size false) a w.drew) : (Code.region id ops true).wp P Q a w :=
  wp_region_any hm (Held.any _ _ _ _ h)
theorem Held.take {i : Nat} {oi : Oper} {v : Value} {n : Nat} {l : Array Bool} {a : Act} {w : World} (hi : ops[i]? = some oi)
    (hs : (Region.noSelect ops && Region.free .any ops l i && (Region.ready .any ops l).contains i && D.contains i) = true)
    (hQ : ∀ c a w, Q (.panic c) (a.put oi.dst v) w → Q (.panic c) a w) (hS : S w) (hy : YieldsIf P ops S oi v a)
    (h : Held P ops Q D S n (l.setIfInBounds i true) (a.put oi.dst v) w) : Held P ops Q D S (n + 1) l a w := by
  simp only [Bool.and_eq_true] at hs
  exact Held.first hi (fun j oj w' hj hne hno hm => hm (mayWait_of (by simpa using hs.2) hj hne hno)) (fun _ h _ => h) (Region.noSelect_spec hs.1.1.1) hQ n l a w (Region.free_spec hi hs.1.1.2) (by simpa using hs.1.2) hy hS (fun _ => hS) h
/-- Number i is taken first. -/
theorem rg_take (i : Nat) {oi : Oper} {v : Value} {n : Nat} {l : Array Bool} {a : Act} {w : World} (hi : ops[i]? = some oi)
    (hs : (Region.noSelect ops && Region.free .any ops l i && (Region.ready .any ops l).contains i && D.contains i) = true)
    (hQ : ∀ c a w, Q (.panic c) (a.put oi.dst v) w → Q (.panic c) a w) (hS : S w) (hw : Region.wanted oi (yielded ops a.tmps) = true)
    (hy : ∀ w, S w → (execOp a.eval oi).run P w = .ok (.value v) w) {a' : Act} (ha : a.put oi.dst v = a')
    (h : Held P ops Q D S n (l.setIfInBounds i true) a' w) : Held P ops Q D S (n + 1) l a w := by
  subst ha
  exact Held.take hi hs hQ hS (.inl ⟨hw, hy⟩) h
/-- Number i, whose guard says no, is taken first. -/
theorem rg_skip (i : Nat) {oi : Oper} {n : Nat} {l : Array Bool} {a : Act} {w : World} (hi : ops[i]? = some oi)
    (hs : (Region.noSelect ops && Region.free .any ops l i && (Region.ready .any ops l).contains i && D.contains i) = true)
    (hQ : ∀ c a w, Q (.panic c) (a.put oi.dst undef) w → Q (.panic c) a w) (hS : S w) (hw : Region.wanted oi (yielded ops a.tmps) = false) {a' : Act} (ha : a.put oi.dst undef = a')
    (h : Held P ops Q D S n (l.setIfInBounds i true) a' w) : Held P ops Q D S (n + 1) l a w := by
  subst ha
  exact Held.take hi hs hQ hS (.inr ⟨hw, rfl⟩) h
/-- Number i, for which nobody waits, is taken first; it looks at no memory. -/
theorem rg_pure (i : Nat) {oi : Oper} {v : Value} {n : Nat} {l : Array Bool} {a : Act} {w : World} (hi : ops[i]? = some oi)
    (hs : (Region.noSelect ops && Region.free .any ops l i && (Region.ready .any ops l).contains i && !mayWait ops D i) = true)
    (hQ : ∀ c a w, Q (.panic c) (a.put oi.dst v) w → Q (.panic c) a w) (hw : Region.wanted oi (yielded ops a.tmps) = true)
    (hy : ∀ w, (execOp a.eval oi).run P w = .ok (.value v) w) {a' : Act} (ha : a.put oi.dst v = a')
    (h : Held P ops Q D S n (l.setIfInBounds i true) a' w) : Held P ops Q D S (n + 1) l a w := by
  subst ha
  simp only [Bool.and_eq_true, Bool.not_eq_true'] at hs
  exact Held.first (S' := fun _ => True) hi (fun _ _ _ _ _ _ _ => trivial) (fun _ _ hm => by rw [hs.2] at hm; cases hm) (Region.noSelect_spec hs.1.1.1) hQ n l a w (Region.free_spec hi hs.1.1.2) (by simpa using hs.1.2)
    (.inl ⟨hw, fun w _ => hy w⟩) trivial (fun hm => by rw [hs.2] at hm; cases hm) h
/-- The next of D that may be taken first. -/
def nextOf (ops : Array Oper) (D : List Nat) (l : Array Bool) : Nat := (D.find? fun i => (Region.ready .any ops l).contains i && Region.free .any ops l i).getD ops.size
theorem nextOf_spec {l : Array Bool} {oi : Oper} (h : ops[nextOf ops D l]? = some oi) : Region.free .any ops l (nextOf ops D l) = true ∧ (Region.ready .any ops l).contains (nextOf ops D l) = true ∧ nextOf ops D l ∈ D := by
  unfold nextOf at *
  cases hf : D.find? fun i => (Region.ready .any ops l).contains i && Region.free .any ops l i with
  | none => rw [hf] at h; simp at h
  | some i =>
    have h1 := List.find?_some hf
    simp only [Bool.and_eq_true] at h1
    exact ⟨h1.2, h1.1, List.mem_of_find?_eq_some hf⟩
theorem rg_next {oi : Oper} {v : Value} {n : Nat} {l : Array Bool} {a : Act} {w : World} (hS : S w) (hi : ops[nextOf ops D l]? = some oi) (hs : Region.noSelect ops = true)
    (hQ : ∀ c a w, Q (.panic c) (a.put oi.dst v) w → Q (.panic c) a w) (hw : Region.wanted oi (yielded ops a.tmps) = true)
    (hy : ∀ w, S w → (execOp a.eval oi).run P w = .ok (.value v) w) {a' : Act} (ha : a.put oi.dst v = a') {l' : Array Bool} (hl : l.setIfInBounds (nextOf ops D l) true = l')
    (h : Held P ops Q D S n l' a' w) : Held P ops Q D S (n + 1) l a w := by
  subst ha; subst hl
  obtain ⟨h1, h2, h3⟩ := nextOf_spec hi
  exact Held.take hi (by simp only [Bool.and_eq_true]; exact ⟨⟨⟨hs, h1⟩, h2⟩, by simpa using h3⟩) hQ hS (.inl ⟨hw, hy⟩) h
theorem rg_nskip {oi : Oper} {n : Nat} {l : Array Bool} {a : Act} {w : World} (hS : S w) (hi : ops[nextOf ops D l]? = some oi) (hs : Region.noSelect ops = true)
    (hQ : ∀ c a w, Q (.panic c) (a.put oi.dst undef) w → Q (.panic c) a w) (hw : Region.wanted oi (yielded ops a.tmps) = false) {a' : Act} (ha : a.put oi.dst undef = a') {l' : Array Bool} (hl : l.setIfInBounds (nextOf ops D l) true = l')
    (h : Held P ops Q D S n l' a' w) : Held P ops Q D S (n + 1) l a w := by
  subst ha; subst hl
  obtain ⟨h1, h2, h3⟩ := nextOf_spec hi
  exact Held.take hi (by simp only [Bool.and_eq_true]; exact ⟨⟨⟨hs, h1⟩, h2⟩, by simpa using h3⟩) hQ hS (.inr ⟨hw, rfl⟩) h
/-- Number i is the only one that may come up. -/
theorem rg_only (i : Nat) {o : Oper} {n : Nat} {l : Array Bool} {a : Act} {w : World} (hr : Region.ready .any ops l = [i]) (ho : ops[i]? = some o)
    (h : ∀ K : Act → World → Prop, (∀ a w, (mayWait ops D i = true → S w) ∧ Held P ops Q D S n (l.setIfInBounds i true) a w → K a w) →
      if Region.wanted o (yielded ops a.tmps) = true then Oper.wp P o a w K Q else K (a.put o.dst undef) w) : Held P ops Q D S (n + 1) l a w :=
  ⟨fun h0 => (by rw [h0] at hr; cases hr), fun j hj => by
    rw [hr, List.mem_singleton] at hj
    subst hj
    exact wpOp_step ho fun K hK => h K hK⟩
/-- .. and nobody waits any more. -/
theorem rg_free (i : Nat) {o : Oper} {n : Nat} {l : Array Bool} {a : Act} {w : World} (hr : Region.ready .any ops l = [i]) (hm : mayWait ops D i = false) (ho : ops[i]? = some o)
    (h : ∀ K : Act → World → Prop, (∀ a w, Held P ops Q D S n (l.setIfInBounds i true) a w → K a w) →
      if Region.wanted o (yielded ops a.tmps) = true then Oper.wp P o a w K Q else K (a.put o.dst undef) w) : Held P ops Q D S (n + 1) l a w :=
  rg_only i hr ho fun K hK => h K fun a w hh => hK a w ⟨fun h0 => (by rw [hm] at h0; cases h0), hh⟩
/-- The end. -/
theorem rg_done {l : Array Bool} {a : Act} {w : World} {n : Nat} (hr : Region.ready .any ops l = []) (h : Q .normal a w) : Held P ops Q D S n l a w := by
  cases n with
  | zero => exact ⟨hr, h⟩
  | succ n => exact ⟨fun _ => h, by rw [hr]; simp⟩
end
end Go.Proofs.Ytpknhpfbinplgaa
end

/-
Plain law on a statement whose order Go leaves open: two operations may come up.
-/
section
namespace Go.Proofs.Ytpknhpfbinplgaa

theorem rg_two {P : Program} {ops : Array Oper} {Q : Exit → Act → World → Prop} {D : List Nat} {S : World → Prop} (i j : Nat) {oi oj : Oper} {n : Nat} {l : Array Bool} {a : Act} {w : World} (hr : Region.ready .any ops l = [i, j]) (hi : ops[i]? = some oi) (hj : ops[j]? = some oj)
    (h1 : ∀ K : Act → World → Prop, (∀ a w, (mayWait ops D i = true → S w) ∧ Held P ops Q D S n (l.setIfInBounds i true) a w → K a w) →
      if Region.wanted oi (yielded ops a.tmps) = true then Oper.wp P oi a w K Q else K (a.put oi.dst undef) w)
    (h2 : ∀ K : Act → World → Prop, (∀ a w, (mayWait ops D j = true → S w) ∧ Held P ops Q D S n (l.setIfInBounds j true) a w → K a w) →
      if Region.wanted oj (yielded ops a.tmps) = true then Oper.wp P oj a w K Q else K (a.put oj.dst undef) w) : Held P ops Q D S (n + 1) l a w :=
  ⟨fun h0 => (by rw [h0] at hr; cases hr), fun k hk => by
    rw [hr] at hk
    simp only [List.mem_cons, List.not_mem_nil, or_false] at hk
    rcases hk with rfl | rfl
    · exact wpOp_step hi fun K hK => h1 K hK
    · exact wpOp_step hj fun K hK => h2 K hK⟩
end Go.Proofs.Ytpknhpfbinplgaa
end

/-
Plain laws on a statement whose order Go leaves open, the second form: what may still be waiting must be kept only as far as it stood; what only computes asks nothing.
-/
section
namespace Go.Proofs.Ytpknhpfbinplgaa

section
variable {P : Program} {ops : Array Oper} {Q : Exit → Act → World → Prop} {D : List Nat} {S : World → Prop}

def HeldP (P : Program) (ops : Array Oper) (Q : Exit → Act → World → Prop) (D : List Nat) (S : World → Prop) : Nat → Array Bool → Act → World → Prop
  | 0, l, a, w => Region.ready .any ops l = [] ∧ Q .normal a w
  | n + 1, l, a, w => (Region.ready .any ops l = [] → Q .normal a w) ∧
      ∀ i ∈ Region.ready .any ops l, wpOp P ops Q i (fun a' w' => (mayWait ops D i = true → S w → S w') ∧ HeldP P ops Q D S n (l.setIfInBounds i true) a' w') a w

theorem HeldP.any : ∀ (n : Nat) (l : Array Bool) (a : Act) (w : World), HeldP P ops Q D S n l a w → wpAny P .any ops Q n l a w
  | 0, _, _, _, h => h
  | n + 1, _, _, _, h => ⟨h.1, fun i hi => wpOp_mono (fun a' w' h' => HeldP.any n _ a' w' h'.2) (h.2 i hi)⟩

theorem HeldP.first {S' : World → Prop} {i : Nat} {oi : Oper} {v : Value} (hi : ops[i]? = some oi)
    (hD : ∀ (j : Nat) (oj : Oper) (w w' : World), ops[j]? = some oj → j ≠ i → (∀ e ∈ oj.after, Region.binds .any e = true → e.on ≠ i) → (mayWait ops D j = true → S w → S w') → S' w → S' w')
    (hsel : ∀ (j : Nat) (o : Oper) cs b, ops[j]? = some o → o.op ≠ .select cs b)
    (hQ : ∀ c a w, Q (.panic c) (a.put oi.dst v) w → Q (.panic c) a w) : ∀ (n : Nat) (l : Array Bool) (a : Act) (w : World),
      (∀ j oj, ops[j]? = some oj → j ≠ i → l.getD j true = false → (∀ e ∈ oj.after, Region.binds .any e = true → e.on ≠ i) → oi.apart ops oj = true) →
      i ∈ Region.ready .any ops l → YieldsIf P ops S' oi v a → S' w → HeldP P ops Q D S n (l.setIfInBounds i true) (a.put oi.dst v) w → HeldP P ops Q D S (n + 1) l a w := by
  intro n
  induction n with
  | zero =>
    intro l a w _ hr hy hS H
    refine ⟨fun h => (by rw [h] at hr; cases hr), fun j hj => ?_⟩
    by_cases hji : j = i
    · subst hji; exact hy.wpOp hi hS ⟨fun _ h => h, H⟩
    · have h1 := ready_mono hj hji
      rw [H.1] at h1
      cases h1
  | succ n ih =>
    intro l a w hfree hr hy hS H
    refine ⟨fun h => (by rw [h] at hr; cases hr), fun j hj => ?_⟩
    by_cases hji : j = i
    · subst hji; exact hy.wpOp hi hS ⟨fun _ h => h, H⟩
    have h1 := H.2 j (ready_mono hj hji)
    obtain ⟨hjun, oj, hoj, hall⟩ := mem_ready.1 hj
    have hnot : ∀ e ∈ oj.after, Region.binds .any e = true → e.on ≠ i := fun e he hb heq => by
      have h2 := hall e he hb
      have h3 := (mem_ready.1 hr).1
      rw [heq] at h2
      rcases Nat.lt_or_ge i l.size with h' | h'
      · simp [h'] at h2 h3; rw [h3] at h2; cases h2
      · simp [Array.getElem?_eq_none h'] at h2
    have h2 := wpOp_putIf hoj (hfree j oj hoj hji hjun hnot) (fun cs b => hsel i oi cs b hi) (fun cs b => hsel j oj cs b hoj) hQ hy h1
    refine wpOp_mono (fun a' w' h3 => ⟨h3.2.1, ih (l.setIfInBounds j true) a' w' (fun k ok hk hki hun hno => ?_) (ready_mono hr (Ne.symm hji)) h3.1 (hD j oj w w' hoj hji hnot h3.2.1 hS) ?_⟩) h2
    · refine hfree k ok hk hki ?_ hno
      by_cases hjk : j = k
      · subst hjk; exact hjun
      · rw [getD_set_ne true hjk] at hun; exact hun
    · rw [Array.setIfInBounds_comm _ _ hji]
      exact h3.2.2

theorem rp_enter (D : List Nat) (S : World → Prop) {id : Nat} {a : Act} {w : World} (hm : P.follows .mixedOrders = true)
    (h : HeldP P ops Q D S ops.size (Array.replicate ops.size false) a w.drew) : (Code.region id ops true).wp P Q a w :=
  wp_region_any hm (HeldP.any _ _ _ _ h)
theorem rp_take (i : Nat) {oi : Oper} {v : Value} {n : Nat} {l : Array Bool} {a : Act} {w : World} (hi : ops[i]? = some oi)
    (hs : (Region.noSelect ops && Region.free .any ops l i && (Region.ready .any ops l).contains i && D.contains i) = true)
    (hQ : ∀ c a w, Q (.panic c) (a.put oi.dst v) w → Q (.panic c) a w) (hS : S w) (hw : Region.wanted oi (yielded ops a.tmps) = true)
    (hy : ∀ w, S w → (execOp a.eval oi).run P w = .ok (.value v) w) {a' : Act} (ha : a.put oi.dst v = a')
    (h : HeldP P ops Q D S n (l.setIfInBounds i true) a' w) : HeldP P ops Q D S (n + 1) l a w := by
  subst ha
  simp only [Bool.and_eq_true] at hs
  exact HeldP.first (S' := S) hi (fun j oj w w' hj hne hno hm hS => hm (mayWait_of (by simpa using hs.2) hj hne hno) hS) (Region.noSelect_spec hs.1.1.1) hQ n l a w (Region.free_spec hi hs.1.1.2) (by simpa using hs.1.2) (.inl ⟨hw, hy⟩) hS h
theorem rp_skip (i : Nat) {oi : Oper} {n : Nat} {l : Array Bool} {a : Act} {w : World} (hi : ops[i]? = some oi)
    (hs : (Region.noSelect ops && Region.free .any ops l i && (Region.ready .any ops l).contains i) = true)
    (hQ : ∀ c a w, Q (.panic c) (a.put oi.dst undef) w → Q (.panic c) a w) (hw : Region.wanted oi (yielded ops a.tmps) = false) {a' : Act} (ha : a.put oi.dst undef = a')
    (h : HeldP P ops Q D S n (l.setIfInBounds i true) a' w) : HeldP P ops Q D S (n + 1) l a w := by
  subst ha
  simp only [Bool.and_eq_true] at hs
  exact HeldP.first (S' := fun _ => True) hi (fun _ _ _ _ _ _ _ _ _ => trivial) (Region.noSelect_spec hs.1.1) hQ n l a w (Region.free_spec hi hs.1.2) (by simpa using hs.2) (.inr ⟨hw, rfl⟩) trivial h
theorem rp_pure (i : Nat) {oi : Oper} {v : Value} {n : Nat} {l : Array Bool} {a : Act} {w : World} (hi : ops[i]? = some oi)
    (hs : (Region.noSelect ops && Region.free .any ops l i && (Region.ready .any ops l).contains i) = true)
    (hQ : ∀ c a w, Q (.panic c) (a.put oi.dst v) w → Q (.panic c) a w) (hw : Region.wanted oi (yielded ops a.tmps) = true)
    (hy : ∀ w, (execOp a.eval oi).run P w = .ok (.value v) w) {a' : Act} (ha : a.put oi.dst v = a')
    (h : HeldP P ops Q D S n (l.setIfInBounds i true) a' w) : HeldP P ops Q D S (n + 1) l a w := by
  subst ha
  simp only [Bool.and_eq_true] at hs
  exact HeldP.first (S' := fun _ => True) hi (fun _ _ _ _ _ _ _ _ _ => trivial) (Region.noSelect_spec hs.1.1) hQ n l a w (Region.free_spec hi hs.1.2) (by simpa using hs.2) (.inl ⟨hw, fun w _ => hy w⟩) trivial h
theorem rp_only (i : Nat) {o : Oper} {n : Nat} {l : Array Bool} {a : Act} {w : World} (hr : Region.ready .any ops l = [i]) (ho : ops[i]? = some o)
    (h : ∀ K : Act → World → Prop, (∀ a w', (mayWait ops D i = true → S w → S w') ∧ HeldP P ops Q D S n (l.setIfInBounds i true) a w' → K a w') →
      if Region.wanted o (yielded ops a.tmps) = true then Oper.wp P o a w K Q else K (a.put o.dst undef) w) : HeldP P ops Q D S (n + 1) l a w :=
  ⟨fun h0 => (by rw [h0] at hr; cases hr), fun j hj => by
    rw [hr, List.mem_singleton] at hj
    subst hj
    exact wpOp_step ho fun K hK => h K hK⟩
theorem rp_free (i : Nat) {o : Oper} {n : Nat} {l : Array Bool} {a : Act} {w : World} (hr : Region.ready .any ops l = [i]) (hm : mayWait ops D i = false) (ho : ops[i]? = some o)
    (h : ∀ K : Act → World → Prop, (∀ a w', HeldP P ops Q D S n (l.setIfInBounds i true) a w' → K a w') →
      if Region.wanted o (yielded ops a.tmps) = true then Oper.wp P o a w K Q else K (a.put o.dst undef) w) : HeldP P ops Q D S (n + 1) l a w :=
  rp_only i hr ho fun K hK => h K fun a w hh => hK a w ⟨fun h0 => (by rw [hm] at h0; cases h0), hh⟩
theorem rp_two (i j : Nat) {oi oj : Oper} {n : Nat} {l : Array Bool} {a : Act} {w : World} (hr : Region.ready .any ops l = [i, j]) (hi : ops[i]? = some oi) (hj : ops[j]? = some oj)
    (h1 : ∀ K : Act → World → Prop, (∀ a w', (mayWait ops D i = true → S w → S w') ∧ HeldP P ops Q D S n (l.setIfInBounds i true) a w' → K a w') →
      if Region.wanted oi (yielded ops a.tmps) = true then Oper.wp P oi a w K Q else K (a.put oi.dst undef) w)
    (h2 : ∀ K : Act → World → Prop, (∀ a w', (mayWait ops D j = true → S w → S w') ∧ HeldP P ops Q D S n (l.setIfInBounds j true) a w' → K a w') →
      if Region.wanted oj (yielded ops a.tmps) = true then Oper.wp P oj a w K Q else K (a.put oj.dst undef) w) : HeldP P ops Q D S (n + 1) l a w :=
  ⟨fun h0 => (by rw [h0] at hr; cases hr), fun k hk => by
    rw [hr] at hk
    simp only [List.mem_cons, List.not_mem_nil, or_false] at hk
    rcases hk with rfl | rfl
    · exact wpOp_step hi fun K hK => h1 K hK
    · exact wpOp_step hj fun K hK => h2 K hK⟩
theorem rp_done {l : Array Bool} {a : Act} {w : World} {n : Nat} (hr : Region.ready .any ops l = []) (h : Q .normal a w) : HeldP P ops Q D S n l a w := by
  cases n with
  | zero => exact ⟨hr, h⟩
  | succ n => exact ⟨fun _ => h, by rw [hr]; simp⟩
end
end Go.Proofs.Ytpknhpfbinplgaa
end

/-
A statement whose order Go leaves open, in the abstract: one order that stands for all.
-/
section
namespace Go.Proofs.Ytpknhpfbinplgaa.A
open Go.RowKit

/-- Which operations stand ahead of which, by whatever way: as numbers whose bits are asked. -/
def orL (B : List Nat) (l : List Edge) : Nat := l.foldl (fun s e => s ||| (match Region.binds .any e with | true => 2 ^ e.on ||| B.getD e.on 0 | false => 0)) 0
def befC (ops : Array Oper) : List Nat := ops.toList.foldl (fun B o => B ++ [orL B o.after.toList]) []
def befOk (ops : Array Oper) (B : List Nat) : Bool :=
  (List.range ops.size).all fun j => match ops[j]? with
    | none => true
    | some o => o.after.toList.all (fun e => !Region.binds .any e || Nat.blt e.on j) && Nat.beq (B.getD j 0) (orL B o.after.toList)
def mayT (ops : Array Oper) (B : List Nat) (j : Nat) : Bool :=
  (List.range ops.size).any fun i => !(((ops[i]?).map fun o => isEff o.op).getD true) && i != j && !(B.getD j 0).testBit i && !(B.getD i 0).testBit j
theorem orL_bit {B : List Nat} {i : Nat} : ∀ (l : List Edge) (s : Nat), (l.foldl (fun s e => s ||| (match Region.binds .any e with | true => 2 ^ e.on ||| B.getD e.on 0 | false => 0)) s).testBit i = true →
    s.testBit i = true ∨ ∃ e ∈ l, Region.binds .any e = true ∧ (e.on = i ∨ (B.getD e.on 0).testBit i = true)
  | [], s, h => .inl h
  | e :: l, s, h => by
    rw [List.foldl_cons] at h
    rcases orL_bit l _ h with h | ⟨x, hx, h1, h2⟩
    · rw [Nat.testBit_or, Bool.or_eq_true] at h
      rcases h with h | h
      · exact .inl h
      · cases hb : Region.binds .any e with
        | false => rw [hb] at h; simp at h
        | true =>
          rw [hb] at h
          simp only [Nat.testBit_or, Bool.or_eq_true, Nat.testBit_two_pow, decide_eq_true_eq] at h
          exact .inr ⟨e, by simp, hb, h⟩
    · exact .inr ⟨x, by simp [hx], h1, h2⟩

section
variable {P : Program} {ops : Array Oper} {B : List Nat} {Q : Exit → Act → World → Prop}
/-- What has come up is closed under 'ahead'. -/
def Cl (ops : Array Oper) (l : Array Bool) : Prop := ∀ j o, ops[j]? = some o → l.getD j false = true → ∀ e ∈ o.after, Region.binds .any e = true → l.getD e.on false = true
theorem anc (hB : befOk ops B = true) {l : Array Bool} (hl : Cl ops l) : ∀ (j : Nat) (o : Oper), ops[j]? = some o → (∀ e ∈ o.after, Region.binds .any e = true → l.getD e.on false = true) → ∀ i, (B.getD j 0).testBit i = true → l.getD i false = true := by
  intro j
  induction j using Nat.strongRecOn with
  | _ j ih =>
    intro o ho hall i hi
    have h1 := List.all_eq_true.1 hB j (List.mem_range.2 (Array.getElem?_eq_some_iff.1 ho).1)
    rw [ho] at h1
    simp only [Bool.and_eq_true] at h1
    obtain ⟨h2, h3⟩ := h1
    rw [Nat.eq_of_beq_eq_true h3] at hi
    rcases orL_bit _ _ hi with h | ⟨e, he, hb, h⟩
    · simp at h
    · have he' : e ∈ o.after := by simpa using he
      have hl1 := hall e he' hb
      rcases h with rfl | h
      · exact hl1
      · have hlt := List.all_eq_true.1 h2 e he
        simp only [hb, Bool.not_true, Bool.false_or] at hlt
        have hlt : e.on < j := by simpa using hlt
        have hsz : e.on < ops.size := Nat.lt_trans hlt (Array.getElem?_eq_some_iff.1 ho).1
        exact ih e.on hlt ops[e.on] (Array.getElem?_eq_getElem hsz) (fun e' he2 hb2 => hl e.on _ (Array.getElem?_eq_getElem hsz) hl1 e' he2 hb2) i h
theorem Cl.set {l : Array Bool} (hl : Cl ops l) {j : Nat} (hj : j ∈ Region.ready .any ops l) : Cl ops (l.setIfInBounds j true) := by
  obtain ⟨hjun, oj, hoj, hall⟩ := mem_ready.1 hj
  intro k o hk hlk e he hb
  refine getD_set_true ?_
  by_cases hkj : k = j
  · subst hkj
    rw [hoj] at hk
    cases hk
    exact hall e he hb
  · rw [getD_set_ne false (Ne.symm hkj)] at hlk
    exact hl k o hk hlk e he hb
def HeldR (P : Program) (ops : Array Oper) (B : List Nat) (Q : Exit → Act → World → Prop) : Nat → Array Bool → Act → World → Prop
  | 0, l, a, w => Region.ready .any ops l = [] ∧ Q .normal a w
  | n + 1, l, a, w => (Region.ready .any ops l = [] → Q .normal a w) ∧
      ∀ i ∈ Region.ready .any ops l, wpOp P ops Q i (fun a' w' => (mayT ops B i = true → Old w w') ∧ HeldR P ops B Q n (l.setIfInBounds i true) a' w') a w
theorem HeldR.any : ∀ (n : Nat) (l : Array Bool) (a : Act) (w : World), HeldR P ops B Q n l a w → wpAny P .any ops Q n l a w
  | 0, _, _, _, h => h
  | n + 1, _, _, _, h => ⟨h.1, fun i hi => wpOp_mono (fun a' w' h' => HeldR.any n _ a' w' h'.2) (h.2 i hi)⟩
theorem HeldR.first (hB : befOk ops B = true) {i : Nat} {oi : Oper} {v : Value} (hi : ops[i]? = some oi) (hdet : isEff oi.op = false)
    (hsel : ∀ (j : Nat) (o : Oper) cs b, ops[j]? = some o → o.op ≠ .select cs b)
    (hQ : ∀ c a w, Q (.panic c) (a.put oi.dst v) w → Q (.panic c) a w) {wS : World} : ∀ (n : Nat) (l : Array Bool) (a : Act) (w : World), Cl ops l →
      (∀ j oj, ops[j]? = some oj → j ≠ i → l.getD j true = false → (∀ e ∈ oj.after, Region.binds .any e = true → e.on ≠ i) → oi.apart ops oj = true) →
      i ∈ Region.ready .any ops l → YieldsIf P ops (Old wS) oi v a → Old wS w → HeldR P ops B Q n (l.setIfInBounds i true) (a.put oi.dst v) w → HeldR P ops B Q (n + 1) l a w := by
  intro n
  induction n with
  | zero =>
    intro l a w _ _ hr hy hS H
    refine ⟨fun h => (by rw [h] at hr; cases hr), fun j hj => ?_⟩
    by_cases hji : j = i
    · subst hji; exact hy.wpOp hi hS ⟨fun _ => Old.refl _, H⟩
    · have h1 := ready_mono hj hji
      rw [H.1] at h1
      cases h1
  | succ n ih =>
    intro l a w hcl hfree hr hy hS H
    refine ⟨fun h => (by rw [h] at hr; cases hr), fun j hj => ?_⟩
    by_cases hji : j = i
    · subst hji; exact hy.wpOp hi hS ⟨fun _ => Old.refl _, H⟩
    have h1 := H.2 j (ready_mono hj hji)
    obtain ⟨hjun, oj, hoj, hall⟩ := mem_ready.1 hj
    obtain ⟨hiun, oi', hoi', halli⟩ := mem_ready.1 hr
    rw [hi] at hoi'
    cases hoi'
    have unl : ∀ k, l.getD k true = false → l.getD k false = true → False := by
      intro k h1 h2
      rcases Nat.lt_or_ge k l.size with h' | h'
      · simp [h'] at h1 h2; rw [h1] at h2; cases h2
      · simp [Array.getElem?_eq_none h'] at h2
    have hnot : ∀ e ∈ oj.after, Region.binds .any e = true → e.on ≠ i := fun e he hb heq => unl i hiun (heq ▸ hall e he hb)
    have hmay : mayT ops B j = true := by
      refine List.any_eq_true.2 ⟨i, List.mem_range.2 (Array.getElem?_eq_some_iff.1 hi).1, ?_⟩
      have hne : (i != j) = true := by rw [bne_iff_ne]; exact fun h => hji h.symm
      have b1 : (B.getD j 0).testBit i = false := by
        rw [← Bool.not_eq_true]; exact fun h => unl i hiun (anc hB hcl j oj hoj hall i h)
      have b2 : (B.getD i 0).testBit j = false := by
        rw [← Bool.not_eq_true]; exact fun h => unl j hjun (anc hB hcl i oi hi halli j h)
      simp only [hi, Option.map_some, Option.getD_some, hdet, hne, b1, b2, Bool.not_false, Bool.and_true]
    have h2 := wpOp_putIf hoj (hfree j oj hoj hji hjun hnot) (fun cs b => hsel i oi cs b hi) (fun cs b => hsel j oj cs b hoj) hQ hy h1
    refine wpOp_mono (fun a' w' h3 => ⟨h3.2.1, ih (l.setIfInBounds j true) a' w' (hcl.set hj) (fun k ok hk hki hun hno => ?_) (ready_mono hr (Ne.symm hji)) h3.1 (hS.trans (h3.2.1 hmay)) ?_⟩) h2
    · refine hfree k ok hk hki ?_ hno
      by_cases hjk : j = k
      · subst hjk; exact hjun
      · rw [getD_set_ne true hjk] at hun; exact hun
    · rw [Array.setIfInBounds_comm _ _ hji]
      exact h3.2.2

def qOf : Op → Bool
  | .store _ _ _ => false
  | .call ⟨.builtin .append, _, _⟩ => false
  | _ => true
/-- Is such an order one that stands for all? -/
def drawOk (ops : Array Oper) (B : List Nat) : List Nat → Array Bool → Bool
  | [], l => (Region.ready .any ops l).isEmpty
  | i :: r, l => (match ops[i]? with
      | none => false
      | some o => match isEff o.op with
        | true => (match Region.ready .any ops l with | [j] => Nat.beq i j | _ => false) && (qOf o.op || !mayT ops B i)
        | false => Region.free .any ops l i && (Region.ready .any ops l).contains i) && drawOk ops B r (l.setIfInBounds i true)
def opsD (P : Program) (T : Tys) (n : Nat) (ops : Array Oper) : List Nat → Fr → List AB → (Fr → List AB → Prop) → Prop
  | [], fr, H, K => K fr H
  | i :: r, fr, H, K => match lget ops.toList i with
    | none => False
    | some o => guardK ops.toList o fr (fun fr => stepK P T n (qOf o.op) o fr H fun fr H => opsD P T n ops r fr H K) fun fr => putK n o.dst (.v undef) fr fun fr => opsD P T n ops r fr H K
variable {T : Tys} {w0 : World} {M0 : Ms} {n d0 : Nat} {ce : Ctx}
theorem guardK_sound {c : Ctx} {fr : Fr} {a : Act} (hf : FR c n fr a) {o : Oper} {run skip : Fr → Prop} (h : guardK ops.toList o fr run skip) :
    (Region.wanted o (yielded ops a.tmps) = true ∧ ∃ fr', FR c n fr' a ∧ run fr') ∨ (Region.wanted o (yielded ops a.tmps) = false ∧ ∃ fr', FR c n fr' a ∧ skip fr') := by
  unfold guardK at h
  split at h
  · rename_i hg
    exact .inl ⟨by simp [Region.wanted, hg], fr, hf, h⟩
  · rename_i j want hg
    rw [lget_eq] at h
    split at h
    · rename_i oj hj
      have hj' : ops[j]? = some oj := by simpa using hj
      split at h
      · rename_i d hd
        have hgd := hf.get d
        split at h
        · rename_i t ht
          rw [ht] at hgd
          simp only [Rd] at hgd
          have hy : yielded ops a.tmps j = some t := by
            unfold yielded
            simp only [hj', Option.bind_some, hd]
            have : a.tmps[d]? = some (.bool t) := by
              rw [Array.getD_eq_getD_getElem?] at hgd
              cases hq : a.tmps[d]? with
              | none => rw [hq] at hgd; simp [undef] at hgd
              | some x => rw [hq] at hgd; simp at hgd; rw [hgd]
            rw [this]
          have hl := hf.lit ht
          split at h
          · obtain ⟨h1, h2⟩ := boolK_iff h
            cases t with
            | true => exact .inl ⟨by simp [Region.wanted, hg, hy], _, hl, h1 rfl⟩
            | false => exact .inr ⟨by simp [Region.wanted, hg, hy], _, hl, h2 rfl⟩
          · obtain ⟨h1, h2⟩ := boolK_iff h
            cases t with
            | true => exact .inr ⟨by simp [Region.wanted, hg, hy], _, hl, h1 rfl⟩
            | false => exact .inl ⟨by simp [Region.wanted, hg, hy], _, hl, h2 rfl⟩
        · rename_i vs ht
          rw [ht] at hgd
          simp only [Rd] at hgd
          have hy : yielded ops a.tmps j = none := by
            unfold yielded
            simp only [hj', Option.bind_some, hd]
            rw [Array.getD_eq_getD_getElem?] at hgd
            cases hq : a.tmps[d]? with
            | none => rfl
            | some x => rw [hq] at hgd; simp at hgd; rw [hgd]
          exact .inr ⟨by simp [Region.wanted, hg, hy], fr, hf, h⟩
        · exact h.elim
      · exact h.elim
    · exact h.elim
theorem opsD_sound (hT : TOk P T) (hB : befOk ops B = true) (hns : Region.noSelect ops = true) {K : Fr → List AB → Prop} (hq : ∀ a w, Lift w0 M0 ce n K a w → Q .normal a w) (hpan : ∀ c a w, ¬ Q (.panic c) a w) :
    ∀ (r : List Nat) (m : Nat) (l : Array Bool) (c : Ctx) (fr : Fr) (H : List AB) (a : Act), r.length ≤ m → Cl ops l → drawOk ops B r l = true → HS w0 M0 c H → FR c n fr a → Ext ce c → opsD P T n ops r fr H K → HeldR P ops B Q m l a c.w
  | [], m, l, c, fr, H, a, hm, hcl, hd, hs, hf, he, h => by
    simp only [drawOk, List.isEmpty_iff] at hd
    cases m with
    | zero => exact ⟨hd, hq _ _ ⟨c, fr, H, rfl, h, hs, hf, he⟩⟩
    | succ m => exact ⟨fun _ => hq _ _ ⟨c, fr, H, rfl, h, hs, hf, he⟩, by rw [hd]; simp⟩
  | i :: r, m, l, c, fr, H, a, hm, hcl, hd, hs, hf, he, h => by
    cases m with
    | zero => simp at hm
    | succ m =>
      simp only [List.length_cons, Nat.add_le_add_iff_right] at hm
      simp only [drawOk, Bool.and_eq_true] at hd
      obtain ⟨hd1, hd2⟩ := hd
      simp only [opsD, lget_eq] at h
      cases ho : ops[i]? with
      | none => rw [ho] at hd1; simp at hd1
      | some o =>
        rw [ho] at hd1
        simp only at hd1
        rw [show ops.toList[i]? = some o by simpa using ho] at h
        simp only at h
        cases hE : isEff o.op with
        | true =>
          rw [hE] at hd1
          simp only [Bool.and_eq_true] at hd1
          obtain ⟨hr, hmq⟩ := hd1
          have hr' : Region.ready .any ops l = [i] := by
            split at hr
            · rename_i j hj; rw [hj, Nat.eq_of_beq_eq_true hr]
            · cases hr
          have hri : i ∈ Region.ready .any ops l := by rw [hr']; simp
          refine ⟨fun h0 => (by rw [hr'] at h0; cases h0), fun j hj => ?_⟩
          rw [hr', List.mem_singleton] at hj
          subst hj
          refine wpOp_step ho fun KK hK => ?_
          rcases guardK_sound hf h with ⟨hw, fr', hf', h⟩ | ⟨hw, fr', hf', h⟩
          · rw [if_pos hw]
            refine stepK_sound hT hs hf' he h ?_
            rintro a' w' ⟨c', fr2, H', rfl, h1, h2, h3, h4⟩ hold
            refine hK _ _ ⟨fun hmay => hold ?_, opsD_sound hT hB hns hq hpan r m _ c' fr2 H' a' hm (hcl.set hri) hd2 h2 h3 h4 h1⟩
            rw [hmay] at hmq
            simpa using hmq
          · rw [if_neg (by rw [hw]; simp)]
            obtain ⟨fr2, h1, h2⟩ := putK_sound (v := undef) hf' (by simp [Rd]) h
            exact hK _ _ ⟨fun _ => Old.refl _, opsD_sound hT hB hns hq hpan r m _ c fr2 H _ hm (hcl.set hri) hd2 hs h2 he h1⟩
        | false =>
          rw [hE] at hd1
          simp only [Bool.and_eq_true] at hd1
          obtain ⟨hfree, hr⟩ := hd1
          have hri : i ∈ Region.ready .any ops l := by simpa using hr
          have step : ∀ v fr2, YieldsIf P ops (Old c.w) o v a → FR c n fr2 (a.put o.dst v) → opsD P T n ops r fr2 H K → HeldR P ops B Q (m + 1) l a c.w := by
            intro v fr2 hy hf2 h2
            exact HeldR.first hB ho hE (Region.noSelect_spec hns) (fun c a w h => (hpan _ _ _ h).elim) m l a c.w hcl (Region.free_spec ho hfree) hri hy (Old.refl _)
              (opsD_sound hT hB hns hq hpan r m _ c fr2 H _ hm (hcl.set hri) hd2 hs hf2 he h2)
          rcases guardK_sound hf h with ⟨hw, fr', hf', h⟩ | ⟨hw, fr', hf', h⟩
          · unfold stepK at h
            rw [hE] at h
            obtain ⟨rr, v, h1, h2, h3⟩ := (det_sound hT hs hf' h).y
            obtain ⟨fr2, h4, h5⟩ := putK_sound hf' h3 h1
            exact step v fr2 (.inl ⟨hw, h2⟩) h5 h4
          · obtain ⟨fr2, h4, h5⟩ := putK_sound (v := undef) hf' (by simp [Rd]) h
            exact step undef fr2 (.inr ⟨hw, rfl⟩) h5 h4
def drawAll (ops : Array Oper) (ord : List Nat) : Bool := befOk ops (befC ops) && Region.noSelect ops && Nat.ble ord.length ops.size && drawOk ops (befC ops) ord (Array.replicate ops.size false)
theorem aDraw.of (hT : TOk P T) (hm : P.follows .mixedOrders = true) {id : Nat} {K : Fr → List AB → Prop} {fr : Fr} {H : List AB} (ord : List Nat) (hok : drawAll ops ord = true) (h : opsD P T n ops ord fr H K) : aDraw P T n d0 id ops K fr H := by
  simp only [drawAll, Bool.and_eq_true] at hok
  obtain ⟨⟨⟨hB, hns⟩, hlen⟩, hok⟩ := hok
  refine ⟨fun w0 M0 ce c a hs hf he hd Q hQ => ?_⟩
  refine wp_mono (Q := fun e a w => e = .normal ∧ Lift w0 M0 ce n K a w) ?_ ?_
  · refine wp_region_any hm (HeldR.any (B := befC ops) _ _ _ _ ?_)
    have hb := (Below.refl c.w.heap.size c.w).drew
    obtain ⟨h1, h2⟩ := hs.grow hb
    refine opsD_sound (w0 := w0) (M0 := M0) (ce := ce) hT hB hns (fun a w hl => ⟨rfl, hl⟩) (fun c a w h => by cases h.1) ord _ _ { c with w := c.w.drew } fr H a (Nat.le_of_ble_eq_true hlen) ?_ hok h1 (hf.ext h2) (he.trans h2) h
    intro j o hj hlj
    rcases Nat.lt_or_ge j ops.size with h' | h'
    · simp [h'] at hlj
    · simp [Array.getElem?_eq_none h'] at hj
  · rintro e a w ⟨rfl, c', fr', H', rfl, h1, h2, h3, h4⟩
    exact hQ c' fr' H' a h1 h2 h3 h4
end
end Go.Proofs.Ytpknhpfbinplgaa.A
namespace Go.Proofs.Ytpknhpfbinplgaa.A
open Go.RowKit
/-- A loop by a state that hangs on a ghost. -/
theorem aLoop.rule {d0 : Nat} {body : QA → Fr → List AB → Prop} {Q : QA} {fr : Fr} {H : List AB} (ι : Type) (st : ι → Fr × List AB) (I : ι → Prop) (μ : ι → Nat) (x0 : ι) (h0 : I x0) (hw : Wk d0 fr H (st x0).1 (st x0).2)
    (round : ∀ x, I x → body (fun ex fr' H' => match ex with | .normal => ∃ x', I x' ∧ μ x' < μ x ∧ Wk d0 fr' H' (st x').1 (st x').2 | e => Q e fr' H') (st x).1 (st x).2) : aLoop d0 body Q fr H :=
  ⟨ι, st, I, μ, ⟨x0, h0, hw⟩, round⟩
theorem aDraw.seq {P : Program} {T : Tys} {n d0 : Nat} (hT : TOk P T) (hm : P.follows .mixedOrders = true) {id : Nat} {ops : Array Oper} {K : Fr → List AB → Prop} {fr : Fr} {H : List AB} (hok : drawAll ops (List.range ops.size) = true) (h : opsD P T n ops (List.range ops.size) fr H K) : aDraw P T n d0 id ops K fr H :=
  aDraw.of hT hm _ hok h
end Go.Proofs.Ytpknhpfbinplgaa.A
end

/-
The program's types, as a table, and that it is right.
-/
section
namespace Go.Proofs.Ytpknhpfbinplgaa.A
open Go.RowKit

def tys : Tys := [
  (2, ⟨1, false, [.int .i64 0], .int .i64⟩),
  (3, ⟨1, false, [.int .i64 0], .int .i64⟩),
  (4, ⟨1, false, [.bool false], .bool⟩),
  (5, ⟨1, false, [.int .u8 0], .int .u8⟩),
  (6, ⟨1, false, [.int .u8 0], .int .u8⟩),
  (7, ⟨4, true, [.int .i64 0, .int .i64 0, .bool false, .int .u8 0], .struct [(0, 1), (1, 1), (2, 1), (3, 1)]⟩),
  (9, ⟨1, false, [.string ⟨#[]⟩], .str⟩),
  (12, ⟨1, false, [.int .u64 0], .int .u64⟩),
  (13, ⟨2, true, [.string ⟨#[]⟩, .int .u64 0], .struct [(0, 1), (1, 1)]⟩),
  (18, ⟨1, true, [.pointer none], .struct [(0, 1)]⟩),
  (20, ⟨1, false, [.nilIface], .other⟩),
  (21, ⟨1, false, [.int .i32 0], .int .i32⟩),
  (22, ⟨5, true, [.int .i64 0, .int .i64 0, .int .i64 0, .int .i64 0, .int .i64 0], .struct [(0, 1), (1, 1), (2, 1), (3, 1), (4, 1)]⟩),
  (23, ⟨5, true, [.int .i64 0, .int .i64 0, .int .i64 0, .int .i64 0, .int .i64 0], .struct [(0, 1), (1, 1), (2, 1), (3, 1), (4, 1)]⟩),
  (24, ⟨1, false, [.slice none 0 0], .slice 5 1⟩),
  (25, ⟨3, true, [.int .i64 0, .int .i64 0, .slice none 0 0], .struct [(0, 1), (1, 1), (2, 1)]⟩),
  (26, ⟨3, true, [.int .i64 0, .int .i64 0, .slice none 0 0], .struct [(0, 1), (1, 1), (2, 1)]⟩),
  (27, ⟨8, true, [.int .i64 0, .int .i64 0, .int .i64 0, .int .i64 0, .int .i64 0, .int .i64 0, .int .i64 0, .slice none 0 0], .struct [(0, 1), (1, 1), (2, 1), (3, 1), (4, 1), (5, 3)]⟩),
  (28, ⟨8, true, [.int .i64 0, .int .i64 0, .int .i64 0, .int .i64 0, .int .i64 0, .int .i64 0, .int .i64 0, .slice none 0 0], .struct [(0, 1), (1, 1), (2, 1), (3, 1), (4, 1), (5, 3)]⟩),
  (37, ⟨1, false, [.int .u64 0], .int .u64⟩),
  (40, ⟨1, false, [.slice none 0 0], .slice 26 3⟩),
  (42, ⟨1, false, [.slice none 0 0], .slice 28 8⟩),
  (64, ⟨3, true, [.int .i64 0, .int .i64 0, .slice none 0 0], .struct [(0, 1), (1, 1), (2, 1)]⟩),
  (65, ⟨3, true, [.int .i64 0, .int .i64 0, .slice none 0 0], .struct [(0, 1), (1, 1), (2, 1)]⟩),
  (73, ⟨1, false, [.slice none 0 0], .slice 3 1⟩),
  (78, ⟨3, true, [.int .i64 0, .int .i64 0, .slice none 0 0], .struct [(0, 1), (1, 1), (2, 1)]⟩),
  (79, ⟨3, true, [.int .i64 0, .int .i64 0, .slice none 0 0], .struct [(0, 1), (1, 1), (2, 1)]⟩),
  (87, ⟨1, false, [.slice none 0 0], .slice 110 3⟩),
  (88, ⟨1, true, [.slice none 0 0], .struct [(0, 1)]⟩),
  (89, ⟨1, true, [.slice none 0 0], .struct [(0, 1)]⟩),
  (109, ⟨3, true, [.int .i64 0, .int .i64 0, .bool false], .struct [(0, 1), (1, 1), (2, 1)]⟩),
  (110, ⟨3, true, [.int .i64 0, .int .i64 0, .bool false], .struct [(0, 1), (1, 1), (2, 1)]⟩),
  (115, ⟨1, false, [.int .u32 0], .int .u32⟩),
  (122, ⟨1, false, [.int .u16 0], .int .u16⟩),
  (123, ⟨1, false, [.slice none 0 0], .slice 24 1⟩),
  (134, ⟨4, true, [.pointer none, .pointer none, .pointer none, .string ⟨#[]⟩], .struct [(0, 1), (1, 1), (2, 1), (3, 1)]⟩),
  (135, ⟨4, true, [.pointer none, .pointer none, .pointer none, .string ⟨#[]⟩], .struct [(0, 1), (1, 1), (2, 1), (3, 1)]⟩),
  (140, ⟨1, false, [.int .u8 0], .int .u8⟩),
  (143, ⟨1, false, [.pointer none], .other⟩),
  (144, ⟨1, false, [.int .i32 0], .int .i32⟩),
  (145, ⟨1, false, [.int .i32 0], .int .i32⟩),
  (148, ⟨1, false, [.pointer none], .other⟩)]
theorem tys_ok : TOk Try.prog tys := by
  refine ⟨?_, ?_, ?_, ?_, ?_, ?_, ?_, ?_, ?_, ?_, ?_, ?_, ?_, ?_, ?_, ?_, ?_, ?_, ?_, ?_, ?_, ?_, ?_, ?_, ?_, ?_, ?_, ?_, ?_, ?_, ?_, ?_, ?_, ?_, ?_, ?_, ?_, ?_, ?_, ?_, ?_, ?_, trivial⟩ <;> (unfold TyOk; kernel_rfl)
theorem mixed : Try.prog.follows .mixedOrders = true := by kernel_rfl
end Go.Proofs.Ytpknhpfbinplgaa.A
end

/-
Geometries, images, records, entries, tables as plain data; copies and comparisons of bytes.
-/
section
namespace Go.Proofs.Ytpknhpfbinplgaa
open Go.RowKit
attribute [local go_sem ↓] Go.wp_at_zero Go.wp_at_succ

structure Geo where
  z : Int
  d : Int
  sp : Int
  sl : Int
  an : Int
structure Img where
  zone : Int
  what : Int
  bytes : List UInt8
deriving DecidableEq
structure Rc where
  kind : Int
  seq : Int
  epoch : Int
  at_ : Int
  of_ : Int
  img : Img
deriving DecidableEq
structure Ent where
  stamp : Int
  sum : Int
  lost : Bool
deriving DecidableEq
/-- A geometry as a value. -/
def gv (g : Geo) : Value := .agg #[.int .i64 g.z, .int .i64 g.d, .int .i64 g.sp, .int .i64 g.sl, .int .i64 g.an]
instance : Rp Img where
  sz := 3
  agg := true
  pos := by omega
  E := fun w M cs x => ∃ r, cs = [.int .i64 x.zone, .int .i64 x.what, r] ∧ SlR w M r x.bytes
  len := fun h => by obtain ⟨b, rfl, _⟩ := h; rfl
  one := fun h u hu => by
    obtain ⟨b, rfl, a, c, xs, rfl, _⟩ := h
    simp at hu; rcases hu with rfl | rfl | rfl <;> rfl
  mono := fun k h => by obtain ⟨b, rfl, h1⟩ := h; exact ⟨b, rfl, h1.mono k⟩
instance : Rp Rc where
  sz := 8
  agg := true
  pos := by omega
  E := fun w M cs x => ∃ r, cs = [.int .i64 x.kind, .int .i64 x.seq, .int .i64 x.epoch, .int .i64 x.at_, .int .i64 x.of_, .int .i64 x.img.zone, .int .i64 x.img.what, r] ∧ SlR w M r x.img.bytes
  len := fun h => by obtain ⟨b, rfl, _⟩ := h; rfl
  one := fun h u hu => by
    obtain ⟨b, rfl, a, c, xs, rfl, _⟩ := h
    simp at hu; rcases hu with rfl | rfl | rfl | rfl | rfl | rfl | rfl | rfl <;> rfl
  mono := fun k h => by obtain ⟨b, rfl, h1⟩ := h; exact ⟨b, rfl, h1.mono k⟩
instance : Rp Ent where
  sz := 3
  agg := true
  pos := by omega
  E := fun _ _ cs x => cs = [.int .i64 x.stamp, .int .i64 x.sum, .bool x.lost]
  len := fun h => by rw [h]; rfl
  one := fun h u hu => by rw [h] at hu; simp at hu; rcases hu with rfl | rfl | rfl <;> rfl
  mono := fun _ h => h

section
variable {w : World} {M : Ms} {a : Option Addr} {n c k : Nat}
theorem u8_at {l : List UInt8} (h : SlR w M (.slice a n c) l) (hk : k < l.length) : ∃ b off, a = some ⟨b, off, none⟩ ∧ ¬ M b ∧ w.cell? ⟨b, off + k, none⟩ = some (.int .u8 l[k].toNat) := by
  obtain ⟨b, off, cs, rfl, hm, he, hc⟩ := h.at_ hk
  have he' : cs = [.int .u8 l[k].toNat] := he
  subst he'
  refine ⟨b, off, rfl, hm, ?_⟩
  have := hc 0 _ rfl
  simpa [Rp.sz] using this
theorem int_at {l : List Int} (h : SlR w M (.slice a n c) l) (hk : k < l.length) : ∃ b off, a = some ⟨b, off, none⟩ ∧ ¬ M b ∧ w.cell? ⟨b, off + k, none⟩ = some (.int .i64 l[k]) := by
  obtain ⟨b, off, cs, rfl, hm, he, hc⟩ := h.at_ hk
  have he' : cs = [.int .i64 l[k]] := he
  subst he'
  refine ⟨b, off, rfl, hm, ?_⟩
  have := hc 0 _ rfl
  simpa [Rp.sz] using this
theorem ent_at {l : List Ent} (h : SlR w M (.slice a n c) l) (hk : k < l.length) : ∃ b off, a = some ⟨b, off, none⟩ ∧ ¬ M b ∧ w.cell? ⟨b, off + k * 3, none⟩ = some (.int .i64 l[k].stamp) ∧
    w.cell? ⟨b, off + k * 3 + 1, none⟩ = some (.int .i64 l[k].sum) ∧ w.cell? ⟨b, off + k * 3 + 2, none⟩ = some (.bool l[k].lost) := by
  obtain ⟨b, off, cs, rfl, hm, he, hc⟩ := h.at_ hk
  have he : cs = [.int .i64 l[k].stamp, .int .i64 l[k].sum, .bool l[k].lost] := he
  subst he
  exact ⟨b, off, rfl, hm, hc 0 _ rfl, hc 1 _ rfl, hc 2 _ rfl⟩
theorem img_at {l : List Img} (h : SlR w M (.slice a n c) l) (hk : k < l.length) : ∃ b off A C, a = some ⟨b, off, none⟩ ∧ ¬ M b ∧ w.cell? ⟨b, off + k * 3, none⟩ = some (.int .i64 l[k].zone) ∧
    w.cell? ⟨b, off + k * 3 + 1, none⟩ = some (.int .i64 l[k].what) ∧ w.cell? ⟨b, off + k * 3 + 2, none⟩ = some (.slice A l[k].bytes.length C) ∧ SlR w M (.slice A l[k].bytes.length C) l[k].bytes := by
  obtain ⟨b, off, cs, rfl, hm, he, hc⟩ := h.at_ hk
  obtain ⟨vb, rfl, hb⟩ := he
  obtain ⟨A, C, rfl⟩ := hb.form
  exact ⟨b, off, A, C, rfl, hm, hc 0 _ rfl, hc 1 _ rfl, hc 2 _ rfl, hb⟩
theorem rc_at {l : List Rc} (h : SlR w M (.slice a n c) l) (hk : k < l.length) : ∃ b off A C, a = some ⟨b, off, none⟩ ∧ ¬ M b ∧ w.cell? ⟨b, off + k * 8, none⟩ = some (.int .i64 l[k].kind) ∧
    w.cell? ⟨b, off + k * 8 + 1, none⟩ = some (.int .i64 l[k].seq) ∧ w.cell? ⟨b, off + k * 8 + 2, none⟩ = some (.int .i64 l[k].epoch) ∧ w.cell? ⟨b, off + k * 8 + 3, none⟩ = some (.int .i64 l[k].at_) ∧
    w.cell? ⟨b, off + k * 8 + 4, none⟩ = some (.int .i64 l[k].of_) ∧ w.cell? ⟨b, off + k * 8 + 5, none⟩ = some (.int .i64 l[k].img.zone) ∧ w.cell? ⟨b, off + k * 8 + 6, none⟩ = some (.int .i64 l[k].img.what) ∧
    w.cell? ⟨b, off + k * 8 + 7, none⟩ = some (.slice A l[k].img.bytes.length C) ∧ SlR w M (.slice A l[k].img.bytes.length C) l[k].img.bytes := by
  obtain ⟨b, off, cs, rfl, hm, he, hc⟩ := h.at_ hk
  obtain ⟨vb, rfl, hb⟩ := he
  obtain ⟨A, C, rfl⟩ := hb.form
  exact ⟨b, off, A, C, rfl, hm, hc 0 _ rfl, hc 1 _ rfl, hc 2 _ rfl, hc 3 _ rfl, hc 4 _ rfl, hc 5 _ rfl, hc 6 _ rfl, hc 7 _ rfl, hb⟩
end
theorem sl_nil {α : Type} [Rp α] (w : World) (M : Ms) (c : Nat) (hc : c ≤ maxLen) : SlR w M (.slice none 0 c) ([] : List α) := ⟨none, c, [], rfl, Nat.zero_le _, hc, rfl, fun h => absurd rfl h⟩
theorem SlR.bare {α : Type} [Rp α] {w : World} {M : Ms} {v : Value} {l : List α} (h : SlR w M v l) : SlR w noM v l := h.mono (Keep.less fun _ h' => h'.elim)
/-- Elements that own nothing: an owned row of them keeps away from whatever is older. -/
theorem OwR.plain {α : Type} [Rp α] (hp : ∀ w M M' cs (x : α), Rp.E w M cs x → Rp.E w M' cs x) {w : World} {M M' : Ms} {base : Nat} {e : TypeId} {v : Value} {l : List α} (h : OwR w M base e v l) : OwR w M' base e v l := by
  obtain ⟨xs, ho, he⟩ := h
  exact ⟨xs, ho, he.mono fun cs x _ h => hp _ _ _ _ _ h⟩
theorem noMok (w : World) : MOk w noM := fun _ h => h.elim
theorem tyB : SlT Try.prog 24 5 UInt8 := ⟨Try.underlying24, .int .u8 0, 1, 1, by kernel_rfl, rfl, by omega, rfl⟩
theorem tyI : SlT Try.prog 73 3 Int := ⟨Try.underlying73, .int .i64 0, 1, 8, by kernel_rfl, rfl, by omega, rfl⟩
theorem tyE : SlT Try.prog 87 110 Ent := ⟨Try.underlying87, .agg #[.int .i64 0, .int .i64 0, .bool false], 3, 24, by kernel_rfl, rfl, by omega, rfl⟩
theorem tyR : SlT Try.prog 42 28 Rc := ⟨Try.underlying42, .agg #[.int .i64 0, .int .i64 0, .int .i64 0, .int .i64 0, .int .i64 0, .int .i64 0, .int .i64 0, .slice none 0 0], 8, 80, by kernel_rfl, rfl, by omega, rfl⟩

set_option maxHeartbeats 400000 in
theorem twin_any (v : Value) (l : List UInt8) (w : World) (M Mi : Ms) (h : SlR w Mi v l) (hM : MOk w M) (hl : l.length ≤ 1000000000) :
    Calls Try.prog 14 #[v] w fun e w' => ∃ r, e = .returned r ∧ SlR w' M r l ∧ Below w.heap.size w w' := by
  have hs := h.bare
  go_enter Try.func14, Try.ntmps14
  go_wp2_with (at_builtin; go_must (refine wpList_append_R (α := UInt8) (M := noM) (base := w.heap.size) (l := []) (m := l) (v := .slice none 0 0) (u := v) rfl (by rfl) tyB (by rfl) (OwR.nil _ _ _ _) (by rfl) (hs.mono (Keep.ownNil _ _ _)) (by simpa using hl) (Nat.le_refl _) ?_; intro v1 w1 ho hg hat))
  go_ret
  exact ⟨_, rfl, (OwR.plain (M' := M) (fun _ _ _ _ _ h => h) ho).sl hM.new, Below.ofNil hg⟩

set_option maxHeartbeats 400000 in
theorem bclone_any (v : Value) (l : List UInt8) (w : World) (M Mi : Ms) (h : SlR w Mi v l) (hl : l.length ≤ 1000000000) :
    Calls Try.prog 42 #[v] w fun e w' => ∃ r, e = .returned r ∧ OwR w' M w.heap.size 5 r l ∧ Below w.heap.size w w' := by
  have hs := h.bare
  obtain ⟨a, c, xs, rfl, h1, h2, h3, h4⟩ := id hs
  have he := fun w n => Lib.run_eql_slice_nil (P := Try.prog) w 24 5 a n c 0 0 Try.underlying24
  cases a with
  | none =>
    have hl0 : l = [] := Classical.byContradiction fun hne => by obtain ⟨b, off, e, _⟩ := h4 hne; cases e
    subst hl0
    clear h3 h4 h1 h2 h hs
    simp only [List.length_nil] at hl ⊢
    go_enter Try.func42, Try.ntmps42
    go_wp2
    go_ret
    exact ⟨_, rfl, OwR.nil _ _ _ _, Below.refl _ _⟩
  | some ad =>
    clear h3 h4 h1 h2 h
    go_enter Try.func42, Try.ntmps42
    go_wp2_with (at_builtin; go_must (refine wpList_append_R (α := UInt8) (M := noM) (base := w.heap.size) (l := []) (m := l) (u := .slice (some ad) l.length c) rfl (by rfl) tyB (by rfl) (OwR.made _ _ _) (by rfl) (hs.mono Keep.ownNew) (by simpa using hl) (by simp) ?_); intro v1 w1 ho hg hat)
    go_ret
    exact ⟨_, rfl, OwR.plain (fun _ _ _ _ _ h => h) ho, ((Below.refl _ _).alloc (Nat.le_refl _) _).grown hg (by simp) (by simp [Value.ownBlock])⟩
end Go.Proofs.Ytpknhpfbinplgaa
end

/-
Bytes, numbers, images, records as abstract values.
-/
section
namespace Go.Proofs.Ytpknhpfbinplgaa.A
open Go.RowKit

def bA (b : List UInt8) : AV := .sl 1 b.length fun i => [.v (.int .u8 (b.getD i 0).toNat)]
def iA (l : List Int) : AV := .sl 1 l.length fun i => [.v (.int .i64 (l.getD i 0))]
def imgC (x : Img) : List AV := [.v (.int .i64 x.zone), .v (.int .i64 x.what), bA x.bytes]
def imgsA (l : List Img) : AV := .sl 3 l.length fun i => imgC (l.getD i ⟨0, 0, []⟩)
def rcC (x : Rc) : List AV := [.v (.int .i64 x.kind), .v (.int .i64 x.seq), .v (.int .i64 x.epoch), .v (.int .i64 x.at_), .v (.int .i64 x.of_), .v (.int .i64 x.img.zone), .v (.int .i64 x.img.what), bA x.img.bytes]
def recsA (l : List Rc) : AV := .sl 8 l.length fun i => rcC (l.getD i ⟨0, 0, 0, 0, 0, ⟨0, 0, []⟩⟩)
def geoC (g : Geo) : List AV := [.v (.int .i64 g.z), .v (.int .i64 g.d), .v (.int .i64 g.sp), .v (.int .i64 g.sl), .v (.int .i64 g.an)]

theorem wi {n : Int} (h : -9223372036854775808 ≤ n ∧ n ≤ 9223372036854775807) : IntKind.i64.wrap n = n := IntWalk.i64_in n h
theorem wsucc {k : Nat} (h : k < 1000000000000) : AV.v (.int .i64 (IntKind.i64.wrap ((k : Int) + 1))) = .v (.int .i64 ((k + 1 : Nat) : Int)) := by
  rw [wi (by omega)]; rfl

theorem toBytes {c : Ctx} {u : Value} {b : List UInt8} (h : Rd (bA b) c u) : SlR c.w c.M u b := by
  simp only [bA, Rd] at h
  obtain ⟨a, k, rfl, h1, h2, h3⟩ := h
  refine ⟨a, k, b.map fun x => .int .u8 x.toNat, rfl, h1, h2, ?_, fun hne => ?_⟩
  · refine Elems.of_get (by simp [Rp.sz]) fun i x hx => ⟨[.int .u8 x.toNat], rfl, rfl, fun j hj => ?_⟩
    have hj : j < 1 := hj
    obtain rfl : j = 0 := by omega
    simp [Rp.sz, hx]
  · rcases h3 with h3 | ⟨bl, off, rfl, hm, hb, hc⟩
    · exact absurd (List.eq_nil_of_length_eq_zero h3) hne
    · refine ⟨bl, off, rfl, hm, fun j u hu => ?_⟩
      rw [List.getElem?_map] at hu
      cases hq : b[j]? with
      | none => rw [hq] at hu; simp at hu
      | some x =>
        rw [hq] at hu
        simp at hu
        subst hu
        have hlt := (List.getElem?_eq_some_iff.1 hq).1
        have := (hc j hlt).2
        simp only [RdAt, Rd] at this
        obtain ⟨⟨u, e1, _, rfl⟩, _⟩ := this
        rw [Nat.mul_one] at e1
        rw [show b.getD j 0 = x by rw [List.getD_eq_getElem?_getD, hq]; rfl] at e1
        exact e1
theorem ofBytes {c : Ctx} {u : Value} {b : List UInt8} (h : SlR c.w c.M u b) : Rd (bA b) c u := by
  obtain ⟨a, k, xs, rfl, h1, h2, h3, h4⟩ := h
  simp only [bA, Rd]
  refine ⟨a, k, rfl, h1, h2, ?_⟩
  by_cases hne : b = []
  · exact .inl (by rw [hne]; rfl)
  · obtain ⟨bl, off, rfl, hm, hc⟩ := h4 hne
    have cell : ∀ i, i < b.length → c.w.cell? ⟨bl, off + i, none⟩ = some (.int .u8 (b.getD i 0).toNat) := by
      intro i hi
      obtain ⟨cs, e1, e2, e3⟩ := h3.get (List.getElem?_eq_getElem hi)
      have e2 : cs = [.int .u8 b[i].toNat] := e2
      subst e2
      have := hc (i * 1 + 0) _ ((e3 0 (by decide)).trans rfl)
      rw [show b.getD i 0 = b[i] by rw [List.getD_eq_getElem?_getD, List.getElem?_eq_getElem hi]; rfl]
      simpa using this
    have h0 := cell 0 (List.length_pos_iff.2 hne)
    refine .inr ⟨bl, off, rfl, hm, World.block_lt_of_cell? _ _ h0, fun i hi => ⟨rfl, ?_⟩⟩
    simp only [RdAt, Rd, Nat.mul_one, and_true]
    exact ⟨_, cell i hi, rfl, rfl⟩
/-- New bytes are no one's that may be written. -/
theorem ofOwn {c0 : Ctx} {w' : World} {t : TypeId} {u : Value} {b : List UInt8} (h : OwR w' noM c0.w.heap.size t u b) (hM : ∀ b, c0.M b → b < c0.w.heap.size) : Rd (bA b) { c0 with w := w' } u := by
  refine ofBytes (c := { c0 with w := w' }) ?_
  have h' : OwR w' c0.M c0.w.heap.size t u b := by
    obtain ⟨xs, h1, h2⟩ := h
    exact ⟨xs, h1, h2.mono fun cs x _ h => h⟩
  exact h'.sl fun b hb hm => by have := hM b hm; omega
end Go.Proofs.Ytpknhpfbinplgaa.A
end

/-
The keep package: copies and comparisons.
-/
section
namespace Go.Proofs.Ytpknhpfbinplgaa.A
open Go.RowKit

theorem take_succ_eq {α : Type} {d : α} {a b : List α} {k : Nat} (h : a.take k = b.take k) (ha : k < a.length) (hb : k < b.length) (e : a.getD k d = b.getD k d) : a.take (k + 1) = b.take (k + 1) := by
  rw [List.take_succ_eq_append_getElem ha, List.take_succ_eq_append_getElem hb, h]
  rw [List.getD_eq_getElem?_getD, List.getD_eq_getElem?_getD, List.getElem?_eq_getElem ha, List.getElem?_eq_getElem hb] at e
  simp only [Option.getD_some] at e
  rw [e]
theorem ne_of_getD {α : Type} {d : α} {a b : List α} {k : Nat} (e : a.getD k d ≠ b.getD k d) : a ≠ b := fun h => e (by rw [h])
theorem eq_of_take {α : Type} {a b : List α} {k : Nat} (h : a.take k = b.take k) (ha : a.length ≤ k) (hb : b.length ≤ k) : a = b := by
  rwa [List.take_of_length_le ha, List.take_of_length_le hb] at h
theorem u8_ne {a b : UInt8} : ((a.toNat : Int) != b.toNat) = (a != b) := by
  rw [Bool.eq_iff_iff, bne_iff_ne, bne_iff_ne, ne_eq, ne_eq, Int.natCast_inj, UInt8.toNat_inj]

theorem getD_mem {α : Type} {d : α} {l : List α} {k : Nat} (h : k < l.length) : l.getD k d ∈ l := by
  rw [List.getD_eq_getElem?_getD, List.getElem?_eq_getElem h]; exact List.getElem_mem h
theorem getD_range {α : Type} {d : α} {f : Nat → α} {n i : Nat} (h : i < n) : ((List.range n).map f).getD i d = f i := by
  rw [List.getD_eq_getElem?_getD, List.getElem?_map, List.getElem?_range h]; rfl
theorem take_map_succ {α β : Type} {d : α} {f : α → β} {l : List α} {k : Nat} (h : k < l.length) : (l.take (k + 1)).map f = (l.take k).map f ++ [f (l.getD k d)] := by
  rw [List.take_succ_eq_append_getElem h, List.map_append, List.getD_eq_getElem?_getD, List.getElem?_eq_getElem h]; rfl
theorem take_map_getD {α β : Type} {d : α} {e : β} {f : α → β} {l : List α} {k i : Nat} (h : i < l.length) (hk : i < k) : ((l.take k).map f).getD i e = f (l.getD i d) := by
  rw [List.getD_eq_getElem?_getD, List.getD_eq_getElem?_getD, List.getElem?_map, List.getElem?_take_of_lt hk, List.getElem?_eq_getElem h]; rfl
theorem Rd.congr {c : Ctx} {sz n n' : Nat} {get get' : Nat → List AV} {u : Value} (hn : n = n') (hg : ∀ i, i < n → get i = get' i) (h : Rd (.sl sz n get) c u) : Rd (.sl sz n' get') c u := by
  subst hn
  simp only [Rd] at h ⊢
  obtain ⟨a, k, rfl, h1, h2, h3⟩ := h
  refine ⟨a, k, rfl, h1, h2, h3.imp id ?_⟩
  rintro ⟨b, off, rfl, q1, q2, q3⟩
  exact ⟨b, off, rfl, q1, q2, fun i hi => by rw [← hg i hi]; exact q3 i hi⟩
theorem bytes_fn (a b : List UInt8) (ha : a.length ≤ 100000000000) : Fn Try.prog 13 [bA a, bA b] fun r => r = .v (.bool (decide (a = b))) := by
  refine Fn.of tys_ok Try.func13 rfl rfl (by show 2 ≤ 26; decide) ?_
  conv => whnf
  refine boolK_intro (fun h => ?_) (fun h => ?_) <;> conv => whnf
  · exact ⟨_, fun _ _ h => h, by simp at h; rw [decide_eq_false (fun e => h (by rw [e]))]⟩
  simp at h
  refine aLoop.rule Nat (fun k => ([(0, bA a), (1, bA b), (5, .v (.int .i64 k))], [])) (fun k => k ≤ a.length ∧ a.take k = b.take k) (fun k => a.length - k) 0 ⟨Nat.zero_le _, by simp⟩ ⟨[], trivial, ⟨rfl, rfl, rfl, trivial⟩, trivial, rfl, rfl, rfl⟩ ?_
  rintro k ⟨hk, hI⟩
  conv => whnf
  refine boolK_intro (fun h2 => ?_) (fun h2 => ?_) <;> simp at h2 <;> conv => whnf
  · refine aDraw.seq tys_ok mixed (by kernel_rfl) ?_
    conv => whnf
    refine ⟨⟨by omega, by omega⟩, ?_⟩
    conv => whnf
    refine ⟨⟨by omega, by omega⟩, ?_⟩
    conv => whnf
    refine boolK_intro (fun h3 => ?_) (fun h3 => ?_) <;> conv => whnf
    · exact ⟨_, fun _ _ h => h, by simp only [u8_ne, bne_iff_ne, Int.toNat_natCast] at h3; rw [decide_eq_false (ne_of_getD h3)]⟩
    · simp only [u8_ne, bne_eq_false_iff_eq, Int.toNat_natCast] at h3
      exact ⟨k + 1, ⟨by omega, take_succ_eq hI (by omega) (by omega) h3⟩, by omega, ⟨[], trivial, ⟨rfl, rfl, wsucc (by omega), trivial⟩, trivial, rfl, rfl, rfl⟩⟩
  · exact ⟨_, fun _ _ h => h, by rw [decide_eq_true (eq_of_take hI (by omega) (by omega))]⟩
theorem twin_fn (b : List UInt8) (hb : b.length ≤ 1000000000) : Fn Try.prog 14 [bA b] fun r => r = bA b := by
  refine Fn.of tys_ok Try.func14 rfl rfl (by show 1 ≤ 7; decide) ?_
  conv => whnf
  refine ⟨hb, ?_⟩
  conv => whnf
  refine ⟨by simp, ?_⟩
  conv => whnf
  exact ⟨bA b, fun c v h => Rd.congr rfl (fun i hi => getD_range hi) h, rfl⟩
theorem image_fn (x y : Img) (hx : x.bytes.length ≤ 100000000000) : Fn Try.prog 18 [.ag (imgC x), .ag (imgC y)] fun r => r = .v (.bool (decide (x = y))) := by
  obtain ⟨x1, x2, x3⟩ := x
  obtain ⟨y1, y2, y3⟩ := y
  refine Fn.of tys_ok Try.func18 rfl rfl (by show 2 ≤ 24; decide) ?_
  conv => whnf
  repeat' (first | (refine boolK_intro (fun h => ?_) (fun h => ?_) <;> simp at h <;> conv => whnf) | (refine Fn.closed (bytes_fn x3 y3 hx) rfl ?_; rintro _ rfl; conv => whnf))
  all_goals exact ⟨_, fun _ _ h => h, by simp [*]⟩
theorem images_fn (l m : List Img) (hl : l.length ≤ 1000000000) (hb : ∀ x ∈ l, x.bytes.length ≤ 100000000000) : Fn Try.prog 23 [imgsA l, imgsA m] fun r => r = .v (.bool (decide (l = m))) := by
  refine Fn.of tys_ok Try.func23 rfl rfl (by show 2 ≤ 27; decide) ?_
  conv => whnf
  refine boolK_intro (fun h => ?_) (fun h => ?_) <;> conv => whnf
  · exact ⟨_, fun _ _ h => h, by simp at h; rw [decide_eq_false (fun e => h (by rw [e]))]⟩
  simp at h
  refine aLoop.rule Nat (fun k => ([(0, imgsA l), (1, imgsA m), (5, .v (.int .i64 k))], [])) (fun k => k ≤ l.length ∧ l.take k = m.take k) (fun k => l.length - k) 0 ⟨Nat.zero_le _, by simp⟩ ⟨[], trivial, ⟨rfl, rfl, rfl, trivial⟩, trivial, rfl, rfl, rfl⟩ ?_
  rintro k ⟨hk, hI⟩
  conv => whnf
  refine boolK_intro (fun h2 => ?_) (fun h2 => ?_) <;> simp at h2 <;> conv => whnf
  · refine aDraw.seq tys_ok mixed (by kernel_rfl) ?_
    conv => whnf
    refine ⟨⟨by omega, by omega⟩, ?_⟩
    conv => whnf
    refine ⟨⟨by omega, by omega⟩, ?_⟩
    conv => whnf
    refine Fn.closed (image_fn (l.getD k ⟨0, 0, []⟩) (m.getD k ⟨0, 0, []⟩) (hb _ (getD_mem h2))) rfl ?_
    rintro _ rfl
    conv => whnf
    refine boolK_intro (fun h3 => ?_) (fun h3 => ?_) <;> conv => whnf
    · exact ⟨_, fun _ _ h => h, by rw [decide_eq_false (ne_of_getD (by simpa using h3))]⟩
    · exact ⟨k + 1, ⟨by omega, take_succ_eq hI (by omega) (by omega) (by simpa using h3)⟩, by omega, ⟨[], trivial, ⟨rfl, rfl, wsucc (by omega), trivial⟩, trivial, rfl, rfl, rfl⟩⟩
  · exact ⟨_, fun _ _ h => h, by rw [decide_eq_true (eq_of_take hI (by omega) (by omega))]⟩
theorem twinimages_fn (l : List Img) (hl : l.length ≤ 1000000) (hb : ∀ x ∈ l, x.bytes.length ≤ 1000000000) : Fn Try.prog 21 [imgsA l] fun r => r = imgsA l := by
  refine Fn.of tys_ok Try.func21 rfl rfl (by show 1 ≤ 32; decide) ?_
  conv => whnf
  refine aLoop.rule Nat (fun k => ([(0, imgsA l), (3, .ow 0 k), (4, .v (.int .i64 k))], [.row 26 3 ((l.take k).map imgC)])) (fun k => k ≤ l.length) (fun k => l.length - k) 0 (Nat.zero_le _) ⟨[(3, 26, 3)], ⟨rfl, rfl, trivial⟩, ⟨rfl, rfl, rfl, trivial⟩, ⟨rfl, trivial⟩, rfl, rfl, rfl⟩ ?_
  rintro k hk
  conv => whnf
  refine boolK_intro (fun h2 => ?_) (fun h2 => ?_) <;> simp at h2 <;> conv => whnf
  · refine aDraw.seq tys_ok mixed (by kernel_rfl) ?_
    conv => whnf
    refine ⟨⟨by omega, by omega⟩, ?_⟩
    conv => whnf
    refine ⟨⟨by omega, by omega⟩, ?_⟩
    conv => whnf
    refine ⟨⟨by omega, by omega⟩, ?_⟩
    conv => whnf
    refine Fn.closed (twin_fn (l.getD k ⟨0, 0, []⟩).bytes (hb _ (getD_mem h2))) rfl ?_
    rintro _ rfl
    conv => whnf
    refine ⟨rfl, ?_⟩
    conv => whnf
    refine ⟨⟨by simp; omega, by omega⟩, ?_⟩
    conv => whnf
    exact ⟨k + 1, by omega, by omega, [], trivial, ⟨rfl, rfl, wsucc (by omega), trivial⟩, ⟨congrArg (AB.row _ _) (take_map_succ h2), trivial⟩, rfl, rfl, rfl⟩
  · refine ⟨by simp; omega, ?_⟩
    conv => whnf
    exact ⟨imgsA l, fun c v h => Rd.congr (by omega) (fun i hi => take_map_getD (by omega) (by omega)) h, rfl⟩
end Go.Proofs.Ytpknhpfbinplgaa.A
end

/-
Numbers between two; whether a geometry is right.
-/
section
namespace Go.Proofs.Ytpknhpfbinplgaa
open Go.RowKit
attribute [local go_sem ↓] Go.wp_at_zero Go.wp_at_succ

def inB (n lo hi : Int) : Bool := decide (lo ≤ n) && decide (n ≤ hi)
theorem inB_iff {n lo hi : Int} : inB n lo hi = true ↔ lo ≤ n ∧ n ≤ hi := by simp [inB]
def errV (b : Bool) : Value := .int .i64 (if b then 0 else 1)
def okG (g : Geo) : Bool := inB g.z 1 4 && inB g.d 1 4 && inB g.sp 0 2 && inB g.sl 14 30 && inB g.an 1 3
theorem okG_iff {g : Geo} : okG g = true ↔ (1 ≤ g.z ∧ g.z ≤ 4) ∧ (1 ≤ g.d ∧ g.d ≤ 4) ∧ (0 ≤ g.sp ∧ g.sp ≤ 2) ∧ (14 ≤ g.sl ∧ g.sl ≤ 30) ∧ (1 ≤ g.an ∧ g.an ≤ 3) := by
  simp only [okG, Bool.and_eq_true, inB_iff, and_assoc]

theorem gin_any (n lo hi : Int) (w : World) : Calls Try.prog 59 #[.int .i64 n, .int .i64 lo, .int .i64 hi] w fun e w' => e = .returned (.bool (inB n lo hi)) ∧ w' = w := by
  by_cases h1 : lo ≤ n
  · by_cases h2 : n ≤ hi
    · have hE := Lib.hid (show inB n lo hi = true by simp [inB, h1, h2])
      go_enter Try.func59, Try.ntmps59
      go_wp2
      go_ret
      rw [hE.out]
      exact ⟨rfl, rfl⟩
    · have hE := Lib.hid (show inB n lo hi = false by simp [inB, h2])
      go_enter Try.func59, Try.ntmps59
      go_wp2
      go_ret
      rw [hE.out]
      exact ⟨rfl, rfl⟩
  · have hE := Lib.hid (show inB n lo hi = false by simp [inB, h1])
    go_enter Try.func59, Try.ntmps59
    go_wp2
    go_ret
    rw [hE.out]
    exact ⟨rfl, rfl⟩

theorem rin_any (n lo hi : Int) (w : World) : Calls Try.prog 41 #[.int .i64 n, .int .i64 lo, .int .i64 hi] w fun e w' => e = .returned (.bool (inB n lo hi)) ∧ w' = w := by
  by_cases h1 : lo ≤ n
  · by_cases h2 : n ≤ hi
    · have hE := Lib.hid (show inB n lo hi = true by simp [inB, h1, h2])
      go_enter Try.func41, Try.ntmps41
      go_wp2
      go_ret
      rw [hE.out]
      exact ⟨rfl, rfl⟩
    · have hE := Lib.hid (show inB n lo hi = false by simp [inB, h2])
      go_enter Try.func41, Try.ntmps41
      go_wp2
      go_ret
      rw [hE.out]
      exact ⟨rfl, rfl⟩
  · have hE := Lib.hid (show inB n lo hi = false by simp [inB, h1])
    go_enter Try.func41, Try.ntmps41
    go_wp2
    go_ret
    rw [hE.out]
    exact ⟨rfl, rfl⟩

theorem rf1in_any (n lo hi : Int) (w : World) : Calls Try.prog 43 #[.int .i64 n, .int .i64 lo, .int .i64 hi] w fun e w' => e = .returned (.bool (inB n lo hi)) ∧ w' = w := by
  by_cases h1 : lo ≤ n
  · by_cases h2 : n ≤ hi
    · have hE := Lib.hid (show inB n lo hi = true by simp [inB, h1, h2])
      go_enter Try.func43, Try.ntmps43
      go_wp2
      go_ret
      rw [hE.out]
      exact ⟨rfl, rfl⟩
    · have hE := Lib.hid (show inB n lo hi = false by simp [inB, h2])
      go_enter Try.func43, Try.ntmps43
      go_wp2
      go_ret
      rw [hE.out]
      exact ⟨rfl, rfl⟩
  · have hE := Lib.hid (show inB n lo hi = false by simp [inB, h1])
    go_enter Try.func43, Try.ntmps43
    go_wp2
    go_ret
    rw [hE.out]
    exact ⟨rfl, rfl⟩

theorem rf15in_any (n lo hi : Int) (w : World) : Calls Try.prog 44 #[.int .i64 n, .int .i64 lo, .int .i64 hi] w fun e w' => e = .returned (.bool (inB n lo hi)) ∧ w' = w := by
  by_cases h1 : lo ≤ n
  · by_cases h2 : n ≤ hi
    · have hE := Lib.hid (show inB n lo hi = true by simp [inB, h1, h2])
      go_enter Try.func44, Try.ntmps44
      go_wp2
      go_ret
      rw [hE.out]
      exact ⟨rfl, rfl⟩
    · have hE := Lib.hid (show inB n lo hi = false by simp [inB, h2])
      go_enter Try.func44, Try.ntmps44
      go_wp2
      go_ret
      rw [hE.out]
      exact ⟨rfl, rfl⟩
  · have hE := Lib.hid (show inB n lo hi = false by simp [inB, h1])
    go_enter Try.func44, Try.ntmps44
    go_wp2
    go_ret
    rw [hE.out]
    exact ⟨rfl, rfl⟩

theorem rf8in_any (n lo hi : Int) (w : World) : Calls Try.prog 62 #[.int .i64 n, .int .i64 lo, .int .i64 hi] w fun e w' => e = .returned (.bool (inB n lo hi)) ∧ w' = w := by
  by_cases h1 : lo ≤ n
  · by_cases h2 : n ≤ hi
    · have hE := Lib.hid (show inB n lo hi = true by simp [inB, h1, h2])
      go_enter Try.func62, Try.ntmps62
      go_wp2
      go_ret
      rw [hE.out]
      exact ⟨rfl, rfl⟩
    · have hE := Lib.hid (show inB n lo hi = false by simp [inB, h2])
      go_enter Try.func62, Try.ntmps62
      go_wp2
      go_ret
      rw [hE.out]
      exact ⟨rfl, rfl⟩
  · have hE := Lib.hid (show inB n lo hi = false by simp [inB, h1])
    go_enter Try.func62, Try.ntmps62
    go_wp2
    go_ret
    rw [hE.out]
    exact ⟨rfl, rfl⟩

set_option maxHeartbeats 4000000 in
theorem gcheck_any (g : Geo) (w : World) : Calls Try.prog 33 #[gv g] w fun e w' => e = .returned (errV (okG g)) ∧ Below w.heap.size w w' := by
  have HB := Lib.hid ((Below.refl w.heap.size w).alloc (Nat.le_refl _) (.cells #[.int .i64 g.z, .int .i64 g.d, .int .i64 g.sp, .int .i64 g.sl, .int .i64 g.an] 23))
  unfold gv
  cases h0 : inB g.z 1 4 with
  | false =>
    have hE := Lib.hid (show okG g = false by simp [okG, h0])
    have c0 := fun w => gin_any g.z 1 4 w
    simp only [h0] at c0
    clear h0
    go_enter Try.func33, Try.ntmps33
    go_wp2_with (go_at_call 59; go_must (first | (with_reducible refine (c0 _).mono ?_)); rintro e w' ⟨rfl, rfl⟩)
    go_ret
    rw [hE.out]
    exact ⟨rfl, HB.out⟩
  | true =>
    cases h1 : inB g.d 1 4 with
    | false =>
      have hE := Lib.hid (show okG g = false by simp [okG, h0, h1])
      have c0 := fun w => gin_any g.z 1 4 w
      simp only [h0] at c0
      have c1 := fun w => gin_any g.d 1 4 w
      simp only [h1] at c1
      clear h0 h1
      go_enter Try.func33, Try.ntmps33
      go_wp2_with (go_at_call 59; go_must (first | (with_reducible refine (c0 _).mono ?_) | (with_reducible refine (c1 _).mono ?_)); rintro e w' ⟨rfl, rfl⟩)
      go_ret
      rw [hE.out]
      exact ⟨rfl, HB.out⟩
    | true =>
      cases h2 : inB g.sp 0 2 with
      | false =>
        have hE := Lib.hid (show okG g = false by simp [okG, h0, h1, h2])
        have c0 := fun w => gin_any g.z 1 4 w
        simp only [h0] at c0
        have c1 := fun w => gin_any g.d 1 4 w
        simp only [h1] at c1
        have c2 := fun w => gin_any g.sp 0 2 w
        simp only [h2] at c2
        clear h0 h1 h2
        go_enter Try.func33, Try.ntmps33
        go_wp2_with (go_at_call 59; go_must (first | (with_reducible refine (c0 _).mono ?_) | (with_reducible refine (c1 _).mono ?_) | (with_reducible refine (c2 _).mono ?_)); rintro e w' ⟨rfl, rfl⟩)
        go_ret
        rw [hE.out]
        exact ⟨rfl, HB.out⟩
      | true =>
        cases h3 : inB g.sl 14 30 with
        | false =>
          have hE := Lib.hid (show okG g = false by simp [okG, h0, h1, h2, h3])
          have c0 := fun w => gin_any g.z 1 4 w
          simp only [h0] at c0
          have c1 := fun w => gin_any g.d 1 4 w
          simp only [h1] at c1
          have c2 := fun w => gin_any g.sp 0 2 w
          simp only [h2] at c2
          have c3 := fun w => gin_any g.sl 14 30 w
          simp only [h3] at c3
          clear h0 h1 h2 h3
          go_enter Try.func33, Try.ntmps33
          go_wp2_with (go_at_call 59; go_must (first | (with_reducible refine (c0 _).mono ?_) | (with_reducible refine (c1 _).mono ?_) | (with_reducible refine (c2 _).mono ?_) | (with_reducible refine (c3 _).mono ?_)); rintro e w' ⟨rfl, rfl⟩)
          go_ret
          rw [hE.out]
          exact ⟨rfl, HB.out⟩
        | true =>
          cases h4 : inB g.an 1 3 with
          | false =>
            have hE := Lib.hid (show okG g = false by simp [okG, h0, h1, h2, h3, h4])
            have c0 := fun w => gin_any g.z 1 4 w
            simp only [h0] at c0
            have c1 := fun w => gin_any g.d 1 4 w
            simp only [h1] at c1
            have c2 := fun w => gin_any g.sp 0 2 w
            simp only [h2] at c2
            have c3 := fun w => gin_any g.sl 14 30 w
            simp only [h3] at c3
            have c4 := fun w => gin_any g.an 1 3 w
            simp only [h4] at c4
            clear h0 h1 h2 h3 h4
            go_enter Try.func33, Try.ntmps33
            go_wp2_with (go_at_call 59; go_must (first | (with_reducible refine (c0 _).mono ?_) | (with_reducible refine (c1 _).mono ?_) | (with_reducible refine (c2 _).mono ?_) | (with_reducible refine (c3 _).mono ?_) | (with_reducible refine (c4 _).mono ?_)); rintro e w' ⟨rfl, rfl⟩)
            go_ret
            rw [hE.out]
            exact ⟨rfl, HB.out⟩
          | true =>
            have hE := Lib.hid (show okG g = true by simp [okG, h0, h1, h2, h3, h4])
            have c0 := fun w => gin_any g.z 1 4 w
            simp only [h0] at c0
            have c1 := fun w => gin_any g.d 1 4 w
            simp only [h1] at c1
            have c2 := fun w => gin_any g.sp 0 2 w
            simp only [h2] at c2
            have c3 := fun w => gin_any g.sl 14 30 w
            simp only [h3] at c3
            have c4 := fun w => gin_any g.an 1 3 w
            simp only [h4] at c4
            clear h0 h1 h2 h3 h4
            go_enter Try.func33, Try.ntmps33
            go_wp2_with (go_at_call 59; go_must (first | (with_reducible refine (c0 _).mono ?_) | (with_reducible refine (c1 _).mono ?_) | (with_reducible refine (c2 _).mono ?_) | (with_reducible refine (c3 _).mono ?_) | (with_reducible refine (c4 _).mono ?_)); rintro e w' ⟨rfl, rfl⟩)
            go_ret
            rw [hE.out]
            exact ⟨rfl, HB.out⟩

set_option maxHeartbeats 4000000 in
theorem rgeom_any (g : Geo) (w : World) : Calls Try.prog 19 #[gv g] w fun e w' => e = .returned (.bool (okG g)) ∧ Below w.heap.size w w' := by
  have HB := Lib.hid ((Below.refl w.heap.size w).alloc (Nat.le_refl _) (.cells #[.int .i64 g.z, .int .i64 g.d, .int .i64 g.sp, .int .i64 g.sl, .int .i64 g.an] 23))
  unfold gv
  cases h0 : inB g.z 1 4 with
  | false =>
    have hE := Lib.hid (show okG g = false by simp [okG, h0])
    have c0 := fun w => rf1in_any g.z 1 4 w
    simp only [h0] at c0
    clear h0
    go_enter Try.func19, Try.ntmps19
    go_wp2_with (go_at_call 43; go_must (first | (with_reducible refine (c0 _).mono ?_)); rintro e w' ⟨rfl, rfl⟩)
    go_ret
    rw [hE.out]
    exact ⟨rfl, HB.out⟩
  | true =>
    cases h1 : inB g.d 1 4 with
    | false =>
      have hE := Lib.hid (show okG g = false by simp [okG, h0, h1])
      have c0 := fun w => rf1in_any g.z 1 4 w
      simp only [h0] at c0
      have c1 := fun w => rf1in_any g.d 1 4 w
      simp only [h1] at c1
      clear h0 h1
      go_enter Try.func19, Try.ntmps19
      go_wp2_with (go_at_call 43; go_must (first | (with_reducible refine (c0 _).mono ?_) | (with_reducible refine (c1 _).mono ?_)); rintro e w' ⟨rfl, rfl⟩)
      go_ret
      rw [hE.out]
      exact ⟨rfl, HB.out⟩
    | true =>
      cases h2 : inB g.sp 0 2 with
      | false =>
        have hE := Lib.hid (show okG g = false by simp [okG, h0, h1, h2])
        have c0 := fun w => rf1in_any g.z 1 4 w
        simp only [h0] at c0
        have c1 := fun w => rf1in_any g.d 1 4 w
        simp only [h1] at c1
        have c2 := fun w => rf1in_any g.sp 0 2 w
        simp only [h2] at c2
        clear h0 h1 h2
        go_enter Try.func19, Try.ntmps19
        go_wp2_with (go_at_call 43; go_must (first | (with_reducible refine (c0 _).mono ?_) | (with_reducible refine (c1 _).mono ?_) | (with_reducible refine (c2 _).mono ?_)); rintro e w' ⟨rfl, rfl⟩)
        go_ret
        rw [hE.out]
        exact ⟨rfl, HB.out⟩
      | true =>
        cases h3 : inB g.sl 14 30 with
        | false =>
          have hE := Lib.hid (show okG g = false by simp [okG, h0, h1, h2, h3])
          have c0 := fun w => rf1in_any g.z 1 4 w
          simp only [h0] at c0
          have c1 := fun w => rf1in_any g.d 1 4 w
          simp only [h1] at c1
          have c2 := fun w => rf1in_any g.sp 0 2 w
          simp only [h2] at c2
          have c3 := fun w => rf1in_any g.sl 14 30 w
          simp only [h3] at c3
          clear h0 h1 h2 h3
          go_enter Try.func19, Try.ntmps19
          go_wp2_with (go_at_call 43; go_must (first | (with_reducible refine (c0 _).mono ?_) | (with_reducible refine (c1 _).mono ?_) | (with_reducible refine (c2 _).mono ?_) | (with_reducible refine (c3 _).mono ?_)); rintro e w' ⟨rfl, rfl⟩)
          go_ret
          rw [hE.out]
          exact ⟨rfl, HB.out⟩
        | true =>
          cases h4 : inB g.an 1 3 with
          | false =>
            have hE := Lib.hid (show okG g = false by simp [okG, h0, h1, h2, h3, h4])
            have c0 := fun w => rf1in_any g.z 1 4 w
            simp only [h0] at c0
            have c1 := fun w => rf1in_any g.d 1 4 w
            simp only [h1] at c1
            have c2 := fun w => rf1in_any g.sp 0 2 w
            simp only [h2] at c2
            have c3 := fun w => rf1in_any g.sl 14 30 w
            simp only [h3] at c3
            have c4 := fun w => rf1in_any g.an 1 3 w
            simp only [h4] at c4
            clear h0 h1 h2 h3 h4
            go_enter Try.func19, Try.ntmps19
            go_wp2_with (go_at_call 43; go_must (first | (with_reducible refine (c0 _).mono ?_) | (with_reducible refine (c1 _).mono ?_) | (with_reducible refine (c2 _).mono ?_) | (with_reducible refine (c3 _).mono ?_) | (with_reducible refine (c4 _).mono ?_)); rintro e w' ⟨rfl, rfl⟩)
            go_ret
            rw [hE.out]
            exact ⟨rfl, HB.out⟩
          | true =>
            have hE := Lib.hid (show okG g = true by simp [okG, h0, h1, h2, h3, h4])
            have c0 := fun w => rf1in_any g.z 1 4 w
            simp only [h0] at c0
            have c1 := fun w => rf1in_any g.d 1 4 w
            simp only [h1] at c1
            have c2 := fun w => rf1in_any g.sp 0 2 w
            simp only [h2] at c2
            have c3 := fun w => rf1in_any g.sl 14 30 w
            simp only [h3] at c3
            have c4 := fun w => rf1in_any g.an 1 3 w
            simp only [h4] at c4
            clear h0 h1 h2 h3 h4
            go_enter Try.func19, Try.ntmps19
            go_wp2_with (go_at_call 43; go_must (first | (with_reducible refine (c0 _).mono ?_) | (with_reducible refine (c1 _).mono ?_) | (with_reducible refine (c2 _).mono ?_) | (with_reducible refine (c3 _).mono ?_) | (with_reducible refine (c4 _).mono ?_)); rintro e w' ⟨rfl, rfl⟩)
            go_ret
            rw [hE.out]
            exact ⟨rfl, HB.out⟩

def num32 (n : Int) : Bool := inB n 0 4294967295
theorem num_any (n : Int) (w : World) : Calls Try.prog 75 #[.int .i64 n] w fun e w' => e = .returned (.bool (num32 n)) ∧ w' = w := by
  by_cases h1 : 0 ≤ n
  · by_cases h2 : n ≤ 4294967295
    · have hE := Lib.hid (show num32 n = true by simp [num32, inB, h1, h2])
      go_enter Try.func75, Try.ntmps75
      go_wp2
      go_ret
      rw [hE.out]
      exact ⟨rfl, rfl⟩
    · have hE := Lib.hid (show num32 n = false by simp [num32, inB, h2])
      go_enter Try.func75, Try.ntmps75
      go_wp2
      go_ret
      rw [hE.out]
      exact ⟨rfl, rfl⟩
  · have hE := Lib.hid (show num32 n = false by simp [num32, inB, h1])
    go_enter Try.func75, Try.ntmps75
    go_wp2
    go_ret
    rw [hE.out]
    exact ⟨rfl, rfl⟩
end Go.Proofs.Ytpknhpfbinplgaa
end

/-
Package pack: a number in a type of so many bytes, its bytes.
-/
section
namespace Go.Proofs.Ytpknhpfbinplgaa
open Go.RowKit
attribute [local go_sem ↓] Go.wp_at_zero Go.wp_at_succ

def limS (size : Int) : Int := if size = 1 then 256 else if size = 2 then 65536 else 4294967296
def szOk (size : Int) : Prop := size = 1 ∨ size = 2 ∨ size = 4
def sizedV (n size : Int) : Value := if size = 1 then .iface 5 (.int .u8 n) else if size = 2 then .iface 122 (.int .u16 n) else .iface 115 (.int .u32 n)
theorem as8 (w : World) (v : Value) : (Instr.typeAssert (.iface 5 v) 20 5 true).run Try.prog w = .ok (.tuple #[v, .bool true]) w := by kernel_rfl
theorem as8no16 (w : World) (v : Value) : (Instr.typeAssert (.iface 122 v) 20 5 true).run Try.prog w = .ok (.tuple #[.int .u8 0, .bool false]) w := by kernel_rfl
theorem as8no32 (w : World) (v : Value) : (Instr.typeAssert (.iface 115 v) 20 5 true).run Try.prog w = .ok (.tuple #[.int .u8 0, .bool false]) w := by kernel_rfl
theorem as16 (w : World) (v : Value) : (Instr.typeAssert (.iface 122 v) 20 122 true).run Try.prog w = .ok (.tuple #[v, .bool true]) w := by kernel_rfl
theorem as16no32 (w : World) (v : Value) : (Instr.typeAssert (.iface 115 v) 20 122 true).run Try.prog w = .ok (.tuple #[.int .u16 0, .bool false]) w := by kernel_rfl
theorem as32 (w : World) (v : Value) : (Instr.typeAssert (.iface 115 v) 20 115 false).run Try.prog w = .ok v w := by kernel_rfl
attribute [local go_sem] as8 as8no16 as8no32 as16 as16no32 as32
/-- A number's bytes, the least one first. -/
def leB : Nat → Nat → List UInt8
  | 0, _ => []
  | k + 1, n => UInt8.ofNat (n % 256) :: leB k (n / 256)
theorem leB_len : ∀ (k n : Nat), (leB k n).length = k
  | 0, _ => rfl
  | k + 1, n => by simp [leB, leB_len k]

theorem OwR.litB (w : World) (M : Ms) (l : List UInt8) (hl : l.length ≤ 1000) : OwR (w.alloc (.cells (l.map fun x => Value.int .u8 x.toNat).toArray 5)) M w.heap.size 5 (.slice (some ⟨w.heap.size, 0, none⟩) l.length l.length) l := by
  refine ⟨l.map fun x => Value.int .u8 x.toNat, ⟨by simp [Rp.sz], .inr ⟨w.heap.size, l.length, _, rfl, Nat.le_refl _, heap_alloc_new w _, Nat.le_refl _, by unfold maxLen; omega, by simp [Rp.sz], ?_⟩⟩, ?_⟩
  · simp only [Rp.sz, Nat.mul_one]
    exact List.take_of_length_le (by simp)
  · clear hl
    induction l with
    | nil => rfl
    | cons x l ih => exact ⟨[.int .u8 x.toNat], _, rfl, rfl, rfl, ih⟩

set_option maxHeartbeats 4000000 in
theorem sized_any (n size : Int) (w : World) (hs : szOk size) : Calls Try.prog 67 #[.int .i64 n, .int .i64 size] w fun e w' => e = .returned (if 0 ≤ n ∧ n < limS size then sizedV n size else .nilIface) ∧ w' = w := by
  by_cases h0 : 0 ≤ n
  · by_cases h1 : n < limS size
    · have w8 : size = 1 → IntKind.u8.wrap n = n := fun h => by subst h; simp [limS] at h1; rw [IntKind.wrap_u8]; omega
      have w16 : size = 2 → IntKind.u16.wrap n = n := fun h => by subst h; simp [limS] at h1; rw [IntKind.wrap_u16]; omega
      have w32 : size = 4 → IntKind.u32.wrap n = n := fun h => by subst h; simp [limS] at h1; rw [IntKind.wrap_u32]; omega
      have hE := Lib.hid (show (if 0 ≤ n ∧ n < limS size then sizedV n size else .nilIface) = sizedV n size from if_pos ⟨h0, h1⟩)
      rw [hE.out]
      rcases hs with rfl | rfl | rfl
      · have h2 : n < 256 := h1
        have w0 := w8 rfl
        clear h1 w8 w16 w32 hE
        go_enter Try.func67, Try.ntmps67
        go_wp2
        go_ret
        exact ⟨rfl, rfl⟩
      · have h2 : n < 65536 := h1
        have w0 := w16 rfl
        clear h1 w8 w16 w32 hE
        go_enter Try.func67, Try.ntmps67
        go_wp2
        go_ret
        exact ⟨rfl, rfl⟩
      · have h2 : n < 4294967296 := h1
        have w0 := w32 rfl
        clear h1 w8 w16 w32 hE
        go_enter Try.func67, Try.ntmps67
        go_wp2
        go_ret
        exact ⟨rfl, rfl⟩
    · have hE := Lib.hid (show (if 0 ≤ n ∧ n < limS size then sizedV n size else .nilIface) = .nilIface from if_neg (by omega))
      rw [hE.out]
      rcases hs with rfl | rfl | rfl
      · have h2 : ¬ n < 256 := h1
        clear h1 hE
        go_enter Try.func67, Try.ntmps67
        go_wp2
        go_ret
        exact ⟨rfl, rfl⟩
      · have h2 : ¬ n < 65536 := h1
        clear h1 hE
        go_enter Try.func67, Try.ntmps67
        go_wp2
        go_ret
        exact ⟨rfl, rfl⟩
      · have h2 : ¬ n < 4294967296 := h1
        clear h1 hE
        go_enter Try.func67, Try.ntmps67
        go_wp2
        go_ret
        exact ⟨rfl, rfl⟩
  · have hE := Lib.hid (show (if 0 ≤ n ∧ n < limS size then sizedV n size else .nilIface) = .nilIface from if_neg (by omega))
    rw [hE.out]
    clear hE
    rcases hs with rfl | rfl | rfl
    · go_enter Try.func67, Try.ntmps67
      go_wp2
      go_ret
      exact ⟨rfl, rfl⟩
    · go_enter Try.func67, Try.ntmps67
      go_wp2
      go_ret
      exact ⟨rfl, rfl⟩
    · go_enter Try.func67, Try.ntmps67
      go_wp2
      go_ret
      exact ⟨rfl, rfl⟩

set_option maxHeartbeats 4000000 in
set_option maxRecDepth 100000 in
theorem bytesOf_any (n size : Int) (w : World) (M : Ms) (hs : szOk size) (h0 : 0 ≤ n) (h1 : n < limS size) : Calls Try.prog 69 #[sizedV n size] w fun e w' => ∃ r, e = .returned r ∧ OwR w' M w.heap.size 5 r (leB size.toNat n.toNat) ∧ Below w.heap.size w w' := by
  have hB := fun o => (Below.refl w.heap.size w).alloc (Nat.le_refl _) o
  obtain ⟨m, rfl⟩ : ∃ m : Nat, n = m := ⟨n.toNat, by omega⟩
  rcases hs with rfl | rfl | rfl
  · have h2 : (m : Int) < 256 := h1
    have hL := Lib.hid (OwR.litB w M (leB 1 m) (by rw [leB_len]; omega))
    have e : (UInt8.ofNat (m % 256)).toNat = m := by simp; omega
    simp only [leB, List.map_cons, List.map_nil, e, List.length_cons, List.length_nil] at hL
    have HB := Lib.hid hB
    clear hB h1 e h0
    unfold sizedV
    simp only [if_true]
    go_enter Try.func69, Try.ntmps69
    go_wp2
    go_ret
    exact ⟨_, rfl, hL.out, HB.out _⟩
  · have h2 : (m : Int) < 65536 := h1
    have hL := Lib.hid (OwR.litB w M (leB 2 m) (by rw [leB_len]; omega))
    have e0 : ((UInt8.ofNat (m % 256)).toNat : Int) = (m : Int) % 256 := by simp
    have e1 : ((UInt8.ofNat (m / 256 % 256)).toNat : Int) = (m : Int) / 256 := by simp; omega
    simp only [leB, List.map_cons, List.map_nil, e0, e1, List.length_cons, List.length_nil] at hL
    have HB := Lib.hid hB
    clear hB h1 e0 e1 h0
    unfold sizedV
    simp only [if_true]
    rw [if_neg (by decide)]
    go_enter Try.func69, Try.ntmps69
    go_wp2
    go_ret
    exact ⟨_, rfl, hL.out, HB.out _⟩
  · have h2 : (m : Int) < 4294967296 := h1
    have hL := Lib.hid (OwR.litB w M (leB 4 m) (by rw [leB_len]; omega))
    have e0 : ((UInt8.ofNat (m % 256)).toNat : Int) = (m : Int) % 256 := by simp
    have e1 : ((UInt8.ofNat (m / 256 % 256)).toNat : Int) = (m : Int) / 256 % 256 := by simp
    have e2 : ((UInt8.ofNat (m / 256 / 256 % 256)).toNat : Int) = (m : Int) / 65536 % 256 := by simp; omega
    have e3 : ((UInt8.ofNat (m / 256 / 256 / 256 % 256)).toNat : Int) = (m : Int) / 16777216 := by simp; omega
    simp only [leB, List.map_cons, List.map_nil, e0, e1, e2, e3, List.length_cons, List.length_nil] at hL
    have HB := Lib.hid hB
    clear hB h1 e0 e1 e2 e3 h0
    unfold sizedV
    rw [if_neg (by decide), if_neg (by decide)]
    go_enter Try.func69, Try.ntmps69
    go_wp2
    go_ret
    exact ⟨_, rfl, hL.out, HB.out _⟩
end Go.Proofs.Ytpknhpfbinplgaa
end

/-
slices.Grow of nothing; slices.Concat of two.
-/
section
namespace Go.Proofs.Ytpknhpfbinplgaa
open Go.RowKit
attribute [local go_sem ↓] Go.wp_at_zero Go.wp_at_succ

set_option maxRecDepth 100000 in
set_option maxHeartbeats 4000000 in
theorem grow_any (n : Nat) (w : World) (M : Ms) (hn : n ≤ 1000000000) : Calls Try.prog 73 #[.slice none 0 0, .int .i64 n] w fun e w' => ∃ r, e = .returned r ∧ OwR w' M w.heap.size 5 r ([] : List UInt8) ∧ Below w.heap.size w w' := by
  have hn0 : ¬ (n : Int) < 0 := by omega
  by_cases h0 : n = 0
  · subst h0
    clear hn
    go_enter Try.func73, Try.ntmps73
    go_wp2
    go_ret
    exact ⟨_, rfl, OwR.nil _ _ _ _, Below.refl _ _⟩
  · obtain ⟨i0, hi0, hz0, hz1, hz2⟩ := info_parts (show (Try.prog.info? 5).map (fun i => (i.zero, i.size, i.bytes)) = some (some (.int .u8 0), 1, 1) by kernel_rfl)
    have hrz : ∀ ty, _ := fun ty => Lib.run_append_nil_zeros (P := Try.prog) w 24 3 ty 5 i0 _ .i64 .i64 Try.underlying24 Try.underlying3 hi0 hz0 n (by omega) (by omega) (by omega) (by rw [hz2]; omega)
    have hG := grownCap_ge w n 0 5
    have hGm := grownCap_le_maxLen w n 0 5 (by unfold maxLen; omega)
    obtain ⟨G, hGe⟩ : ∃ G, G = grownCap w n 0 5 := ⟨_, rfl⟩
    rw [← hGe] at hG hGm
    simp only [← hGe] at hrz
    obtain ⟨Z, hZ⟩ : ∃ Z, Z = Builtin.zeroCells (Value.int .u8 0).cells n ++ Builtin.zeroCells (Value.int .u8 0).cells (G - n) := ⟨_, rfl⟩
    have hZs : Z.size = G * 1 := by
      rw [hZ, Array.size_append, size_zeroCells, size_zeroCells]
      simp [Value.cells]
      omega
    rw [← hZ] at hrz
    have hO := Lib.hid (show OwR (w.drew.alloc (.cells Z 5)) M w.heap.size 5 (.slice (some ⟨w.heap.size, 0, none⟩) 0 G) ([] : List UInt8) from ⟨[], World.ownsRow_made w.drew Z G (Nat.le_refl _) hGm hZs, rfl⟩)
    have hB := Lib.hid ((below_drew w).trans ((Below.refl w.drew.heap.size w.drew).alloc (Nat.le_refl _) (.cells Z 5)))
    have h0' : (0 : Int) < n := by omega
    unfold maxLen at hGm
    have hGi : (n : Int) ≤ G := by omega
    clear hi0 hz0 hz1 hz2 hZ hZs hGe h0 hn
    go_enter Try.func73, Try.ntmps73
    go_wp2_with (with_reducible refine Lib.wpList_append_run w rfl (.tmp 20) (.tmp 21) _ _ rfl _ _ rfl rfl _ _ (hrz _) ?_)
    go_ret
    exact ⟨_, rfl, hO.out, hB.out⟩
theorem row_at {α : Type} [Rp α] {w : World} {M : Ms} {a : Option Addr} {n c k : Nat} {l : List (List α)} (h : SlR w M (.slice a n c) l) (hk : k < l.length) : ∃ b off A C, a = some ⟨b, off, none⟩ ∧ ¬ M b ∧ w.cell? ⟨b, off + k, none⟩ = some (.slice A l[k].length C) ∧ SlR w M (.slice A l[k].length C) l[k] := by
  obtain ⟨b, off, cs, rfl, hm, he, hc⟩ := h.at_ hk
  obtain ⟨v, rfl, hv⟩ := he
  obtain ⟨A, C, rfl⟩ := hv.form
  refine ⟨b, off, A, C, rfl, hm, ?_, hv⟩
  have := hc 0 _ rfl
  simpa [Rp.sz] using this
theorem Keep.own {α : Type} [Rp α] {w w4 : World} {M : Ms} {e : TypeId} {v : Value} {L : List α} (hb : Below w.heap.size w w4) (ho : OwR w4 M w.heap.size e v L) : Keep w noM w4 (fun b => noM b ∨ v.ownBlock = some b) := fun b hlt _ =>
  ⟨fun h => h.elim (fun h => h) (fun h => by have := ho.own_ge h; omega), hb.block b hlt⟩
theorem flat_step {α : Type} {ls : List (List α)} {k : Nat} (hk : k < ls.length) : (ls.take (k + 1)).flatten = (ls.take k).flatten ++ ls[k] := by
  rw [List.take_add_one, List.getElem?_eq_getElem hk, List.flatten_append]; simp
theorem flat_le {α : Type} {ls : List (List α)} (k : Nat) : (ls.take k).flatten.length ≤ ls.flatten.length := by
  conv => rhs; rw [← List.take_append_drop k ls]
  rw [List.flatten_append, List.length_append]; omega

set_option maxRecDepth 100000 in
set_option maxHeartbeats 8000000 in
theorem concat_any (v : Value) (ls : List (List UInt8)) (w : World) (M Mi : Ms) (h : SlR w Mi v ls) (hl : ls.flatten.length ≤ 1000000000) (hn : ls.length ≤ 1000000) :
    Calls Try.prog 68 #[v] w fun e w' => ∃ r, e = .returned r ∧ OwR w' M w.heap.size 5 r ls.flatten ∧ Below w.heap.size w w' := by
  obtain ⟨a, c, rfl⟩ := h.form
  have H := Lib.hid h.bare
  have HL := Lib.hid hl
  clear h hl
  go_enter Try.func68, Try.ntmps68
  go_wp2
  go_loopg [3, 11] ls.length (fun g s3 s11 wr => ∃ k s : Nat, s11 = .int .i64 k ∧ s3 = .int .i64 s ∧ k ≤ ls.length ∧ ls.length - k ≤ g ∧ Hid (s = (ls.take k).flatten.length) ∧ wr = w)
  case atStart => exact ⟨0, 0, rfl, rfl, Nat.zero_le _, by omega, Lib.hid (by simp), rfl⟩
  case round =>
    obtain ⟨k, s, rfl, rfl, hkl, hg, hs, rfl⟩ := hrel
    by_cases hlt : k < ls.length
    · obtain ⟨b, off, A, C, rfl, -, x1, -⟩ := row_at H.out hlt
      have hlt' : (k : Int) < ls.length := by omega
      have hst := Lib.hid (flat_step hlt)
      have hb : s + ls[k].length ≤ 1000000000 := by
        have h1 := flat_le (ls := ls) (k + 1)
        rw [hst.out, List.length_append, ← hs.out] at h1
        have := HL.out
        omega
      have hw1 : IntKind.i64.wrap ((s : Int) + ls[k].length) = ((s + ls[k].length : Nat) : Int) := by rw [IntKind.wrap_i64]; omega
      have hw0 : ¬ (((s + ls[k].length : Nat) : Int) < 0) := by omega
      go_wp2
      go_roundg (ls.length - (k + 1))
      case measure => omega
      case rel => exact ⟨k + 1, s + ls[k].length, by go_num, by first | rfl | go_num, by omega, by omega, Lib.hid (by rw [hst.out, List.length_append, hs.out]), rfl⟩
    · obtain rfl : k = ls.length := by omega
      have hb : s ≤ 1000000000 := by
        have := hs.out
        rw [List.take_length] at this
        have := HL.out
        omega
      obtain ⟨w0, rfl⟩ : ∃ w0, w0 = wr := ⟨_, rfl⟩
      have hgr := Lib.hid (grow_any s w0 noM hb)
      clear hb hs
      go_wp2_with (go_at_call 73; go_must (with_reducible refine hgr.out.mono ?_); rintro e w2 ⟨r, rfl, ho2, hB2⟩)
      have HO := Lib.hid (And.intro ho2 hB2)
      clear ho2 hB2 hgr
      go_loopg [6, 27] ls.length (fun g s6 s27 w3 => ∃ k : Nat, s27 = .int .i64 k ∧ k ≤ ls.length ∧ ls.length - k ≤ g ∧ Hid (OwR w3 noM w0.heap.size 5 s6 ((ls.take k).flatten) ∧ Below w0.heap.size w0 w3))
      case atStart => exact ⟨0, rfl, Nat.zero_le _, by omega, Lib.hid (by simpa using HO.out)⟩
      case round =>
        obtain ⟨k, rfl, hkl, hg, hI⟩ := hrel
        by_cases hlt : k < ls.length
        · obtain ⟨ho, hB⟩ := hI.out
          obtain ⟨b, off, A, C, rfl, -, x0, x2⟩ := row_at H.out hlt
          have x1 := (Keep.below (M := noM) hB).cell (fun h => h) x0
          have hS := Lib.hid (x2.mono (Keep.own hB ho))
          have O3 := Lib.hid ho
          have HB3 := Lib.hid hB
          have hlt' : (k : Int) < ls.length := by omega
          have hst := Lib.hid (flat_step hlt)
          have hb : ((ls.take k).flatten).length + ls[k].length ≤ 1000000000 := by
            have h1 := flat_le (ls := ls) (k + 1)
            rw [hst.out, List.length_append] at h1
            have := HL.out
            omega
          clear x0 x2 ho hB hI
          go_wp2_with (at_builtin; go_must (refine wpList_append_R (α := UInt8) (M := noM) (base := w0.heap.size) (l := (ls.take k).flatten) (m := ls[k]) rfl (by rfl) tyB (by rfl) O3.out (by rfl) hS.out hb HB3.out.size ?_); intro v4 w4 ho4 hg4 hat4)
          go_roundg (ls.length - (k + 1))
          case measure => omega
          case rel => exact ⟨k + 1, by go_num, by omega, by omega, Lib.hid ⟨by rw [hst.out]; exact ho4, HB3.out.grown hg4 HB3.out.size (fun b e => O3.out.own_ge e)⟩⟩
        · obtain rfl : k = ls.length := by omega
          obtain ⟨ho, hB⟩ := hI.out
          rw [List.take_length] at ho
          have HF := Lib.hid (And.intro (OwR.plain (M' := M) (fun _ _ _ _ _ h => h) ho) hB)
          clear ho hB hI
          go_wp2
          go_ret
          exact ⟨_, rfl, HF.out.1, HF.out.2⟩
end Go.Proofs.Ytpknhpfbinplgaa
end

/-
pack.Put.
-/
section
namespace Go.Proofs.Ytpknhpfbinplgaa
open Go.RowKit
attribute [local go_sem ↓] Go.wp_at_zero Go.wp_at_succ

theorem OwR.pair {w : World} {v1 v2 : Value} {l1 l2 : List UInt8} (h1 : SlR w noM v1 l1) (h2 : SlR w noM v2 l2) (t : TypeId) : OwR (w.alloc (.cells #[v1, v2] t)) noM w.heap.size t (.slice (some ⟨w.heap.size, 0, none⟩) 2 2) [l1, l2] :=
  ⟨[v1, v2], ⟨rfl, .inr ⟨_, 2, _, rfl, Nat.le_refl _, heap_alloc_new w _, Nat.le_refl _, by unfold maxLen; omega, rfl, rfl⟩⟩, ⟨[v1], [v2], rfl, rfl, ⟨v1, rfl, h1.mono Keep.ownNew⟩, ⟨[v2], [], rfl, rfl, ⟨v2, rfl, h2.mono Keep.ownNew⟩, rfl⟩⟩⟩
theorem sized_iface (n size : Int) : ∃ t u, sizedV n size = .iface t u := by
  unfold sizedV
  split
  · exact ⟨_, _, rfl⟩
  · split <;> exact ⟨_, _, rfl⟩

set_option maxRecDepth 100000 in
set_option maxHeartbeats 8000000 in
theorem put_any (v : Value) (l : List UInt8) (n size : Int) (w : World) (M Mi : Ms) (h : SlR w Mi v l) (hs : szOk size) (hl : l.length ≤ 1000000) (h0 : 0 ≤ n) (h1 : n < limS size) :
    Calls Try.prog 60 #[v, .int .i64 n, .int .i64 size] w fun e w' => ∃ r, e = .returned (.tuple #[r, .int .i64 0]) ∧ OwR w' M w.heap.size 5 r (l ++ leB size.toNat n.toNat) ∧ Below w.heap.size w w' := by
  obtain ⟨a, c, rfl⟩ := h.form
  have H := Lib.hid h.bare
  have hsz := Lib.hid (sized_any n size w hs)
  rw [if_pos ⟨h0, h1⟩] at hsz
  have hby := Lib.hid (bytesOf_any n size w noM hs h0 h1)
  obtain ⟨t, u, e⟩ := sized_iface n size
  rw [e] at hsz hby
  have hlb : (leB size.toNat n.toNat).length ≤ 4 := by rw [leB_len]; rcases hs with rfl | rfl | rfl <;> decide
  obtain ⟨L, hL⟩ : ∃ L, L = leB size.toNat n.toNat := ⟨_, rfl⟩
  rw [← hL] at hby hlb ⊢
  clear e hs h0 h1 h hL
  go_enter Try.func60, Try.ntmps60
  go_wp2_with fail
  ((with_reducible refine hsz.out.mono ?_); rintro e w1 ⟨rfl, rfl⟩)
  go_wp2_with fail
  ((with_reducible refine hby.out.mono ?_); rintro e w2 ⟨r1, rfl, ho1, hB1⟩)
  obtain ⟨A1, C1, rfl⟩ := ho1.form
  have HB1 := Lib.hid hB1
  have HA := Lib.hid ((Below.refl w2.heap.size w2).alloc (Nat.le_refl _) (.cells #[.slice a l.length c, .slice A1 L.length C1] 24))
  have hcc := Lib.hid (concat_any _ [l, L] (w2.alloc (.cells #[.slice a l.length c, .slice A1 L.length C1] 24)) M noM ((OwR.pair (H.out.mono (Keep.below hB1)) (ho1.sl (fun _ _ h => h)) 24).sl (fun _ _ h => h)) (by simp; omega) (by simp))
  clear ho1 hB1 hby hsz
  go_wp2_with fail
  ((with_reducible refine hcc.out.mono ?_); rintro e w3 ⟨r3, rfl, ho3, hB3⟩)
  have HO := Lib.hid (ho3.mono_base (base' := w1.heap.size) (Nat.le_trans HB1.out.size HA.out.size))
  have HF := Lib.hid (HB1.out.trans ((HA.out.trans (hB3.mono HA.out.size)).mono HB1.out.size))
  clear ho3 hB3 hcc
  go_wp2
  go_ret2
  refine ⟨_, rfl, ?_, HF.out⟩
  have := HO.out
  simpa using this
end Go.Proofs.Ytpknhpfbinplgaa
end

/-
pack.Row, pack.Part.
-/
section
namespace Go.Proofs.Ytpknhpfbinplgaa
open Go.RowKit
attribute [local go_sem ↓] Go.wp_at_zero Go.wp_at_succ

def rowB : List Int → List Int → List UInt8
  | n :: ns, s :: ss => leB s.toNat n.toNat ++ rowB ns ss
  | _, _ => []
theorem rowB_step : ∀ (ns ss : List Int) (k : Nat) (h1 : k < ns.length) (h2 : k < ss.length), rowB (ns.take (k + 1)) (ss.take (k + 1)) = rowB (ns.take k) (ss.take k) ++ leB ss[k].toNat ns[k].toNat
  | n :: ns, s :: ss, 0, _, _ => by simp [rowB]
  | n :: ns, s :: ss, k + 1, h1, h2 => by
    have := rowB_step ns ss k (by simpa using h1) (by simpa using h2)
    simp only [List.take_succ_cons, rowB, List.getElem_cons_succ, List.append_assoc]
    rw [this]
theorem rowB_len : ∀ (ns ss : List Int), (∀ s ∈ ss, szOk s) → (rowB ns ss).length ≤ 4 * ss.length
  | [], ss, _ => by simp [rowB]
  | n :: ns, [], _ => by simp [rowB]
  | n :: ns, s :: ss, h => by
    have := rowB_len ns ss (fun x hx => h x (by simp [hx]))
    have h1 : s.toNat ≤ 4 := by rcases h s (by simp) with rfl | rfl | rfl <;> decide
    simp only [rowB, List.length_append, leB_len, List.length_cons]
    omega

set_option maxRecDepth 100000 in
set_option maxHeartbeats 8000000 in
theorem row_any (v1 v2 : Value) (ns ss : List Int) (w : World) (M M1 M2 : Ms) (h1 : SlR w M1 v1 ns) (h2 : SlR w M2 v2 ss) (hl : ns.length = ss.length) (hn : ns.length ≤ 1000)
    (hf : ∀ k (a : k < ns.length) (b : k < ss.length), szOk ss[k] ∧ 0 ≤ ns[k] ∧ ns[k] < limS ss[k]) :
    Calls Try.prog 34 #[v1, v2] w fun e w' => ∃ r, e = .returned (.tuple #[r, .int .i64 0]) ∧ OwR w' M w.heap.size 5 r (rowB ns ss) ∧ Below w.heap.size w w' := by
  obtain ⟨a1, c1, rfl⟩ := h1.form
  obtain ⟨a2, c2, rfl⟩ := h2.form
  have H1 := Lib.hid h1.bare
  have H2 := Lib.hid h2.bare
  have HF := Lib.hid hf
  have hlen' : ((ns.length : Int) != ss.length) = false := by simp [hl]
  have Hl := Lib.hid hl
  have Hss : Hid (∀ s ∈ ss, szOk s) := Lib.hid fun s hs => by
    obtain ⟨k, hk, rfl⟩ := List.getElem_of_mem hs
    exact (hf k (by omega) hk).1
  clear h1 h2 hf hl
  go_enter Try.func34, Try.ntmps34
  go_wp2
  clear hlen'
  go_loopg [6, 18] ns.length (fun g s6 s18 wr => ∃ k : Nat, s18 = .int .i64 k ∧ k ≤ ns.length ∧ ns.length - k ≤ g ∧ Hid (OwR wr noM w.heap.size 5 s6 (rowB (ns.take k) (ss.take k)) ∧ Below w.heap.size w wr))
  case atStart => exact ⟨0, rfl, Nat.zero_le _, by omega, Lib.hid ⟨OwR.nil _ _ _ _, Below.refl _ _⟩⟩
  case round =>
    obtain ⟨k, rfl, hkl, hg, hI⟩ := hrel
    by_cases hlt : k < ns.length
    · obtain ⟨ho, hB⟩ := hI.out
      have hl := Hl.out
      have hlt2 : k < ss.length := by omega
      have hl2 : (ss.take k).length ≤ 1000 := by rw [List.length_take]; omega
      obtain ⟨b1, o1, rfl, -, x1⟩ := int_at (H1.out.mono (Keep.below hB)) hlt
      obtain ⟨b2, o2, rfl, -, x2⟩ := int_at (H2.out.mono (Keep.below hB)) hlt2
      have hlt' : (k : Int) < ns.length := by omega
      have hlt2' : (k : Int) < ss.length := by omega
      obtain ⟨f1, f2, f3⟩ := HF.out k hlt hlt2
      have hle := rowB_len (ns.take k) (ss.take k) (fun s hs => Hss.out s (List.mem_of_mem_take hs))
      have hp := Lib.hid (put_any _ _ ns[k] ss[k] wr noM noM (ho.sl (fun _ _ h => h)) f1 (by omega) f2 f3)
      have hst := Lib.hid (rowB_step ns ss k hlt hlt2)
      have HB := Lib.hid hB
      clear f1 f2 f3 ho hB hI hle hl hl2
      go_wp2_with (go_at_call 60; go_must (with_reducible refine hp.out.mono ?_); rintro e w2 ⟨r, rfl, ho2, hB2⟩)
      go_roundg (ns.length - (k + 1))
      case measure => omega
      case rel => exact ⟨k + 1, by go_num, by omega, by omega, Lib.hid ⟨by rw [hst.out]; exact ho2.mono_base HB.out.size, HB.out.trans (hB2.mono HB.out.size)⟩⟩
    · obtain rfl : k = ns.length := by omega
      obtain ⟨ho, hB⟩ := hI.out
      rw [List.take_length, Hl.out, List.take_length] at ho
      have HX := Lib.hid (And.intro (OwR.plain (M' := M) (fun _ _ _ _ _ h => h) ho) hB)
      clear ho hB hI
      go_wp2
      go_ret2
      exact ⟨_, rfl, HX.out.1, HX.out.2⟩
end Go.Proofs.Ytpknhpfbinplgaa
end

/-
pack.Part.
-/
section
namespace Go.Proofs.Ytpknhpfbinplgaa
open Go.RowKit
attribute [local go_sem ↓] Go.wp_at_zero Go.wp_at_succ

set_option maxRecDepth 100000 in
set_option maxHeartbeats 8000000 in
theorem part_any (v : Value) (l : List UInt8) (w : World) (M Mi : Ms) (h : SlR w Mi v l) (hl : l.length ≤ 255) :
    Calls Try.prog 36 #[v] w fun e w' => ∃ r, e = .returned (.tuple #[r, .int .i64 0]) ∧ OwR w' M w.heap.size 5 r (UInt8.ofNat l.length :: l) ∧ Below w.heap.size w w' := by
  obtain ⟨a, c, rfl⟩ := h.form
  have hL := OwR.litB w noM [UInt8.ofNat l.length] (by simp)
  have e : ((UInt8.ofNat l.length).toNat : Int) = (l.length : Int) := by simp; omega
  simp only [List.map_cons, List.map_nil, e, List.length_cons, List.length_nil] at hL
  have hL := Lib.hid hL
  have hS := Lib.hid (h.bare.mono (Keep.ownNew (o := .cells #[Value.int .u8 (l.length : Int)] 5) (n := 1) (c := 1)))
  have HB := Lib.hid ((Below.refl w.heap.size w).alloc (Nat.le_refl _) (.cells #[Value.int .u8 (l.length : Int)] 5))
  have hl' : ¬ (255 : Int) < l.length := by omega
  have hw8 : IntKind.u8.wrap (l.length : Int) = l.length := by rw [IntKind.wrap_u8]; omega
  have hb : [UInt8.ofNat l.length].length + l.length ≤ 1000000000 := by simp; omega
  clear h e hl
  go_enter Try.func36, Try.ntmps36
  go_wp2_with (at_builtin; go_must (refine wpList_append_R (α := UInt8) (M := noM) (base := w.heap.size) (l := [UInt8.ofNat l.length]) (m := l) rfl (by rfl) tyB (by rfl) hL.out (by rfl) hS.out hb HB.out.size ?_); intro v4 w4 ho4 hg4 hat4)
  have HO := Lib.hid (And.intro (OwR.plain (M' := M) (fun _ _ _ _ _ h => h) ho4) (HB.out.grown hg4 HB.out.size (fun b e => hL.out.own_ge e)))
  clear ho4 hg4 hat4
  go_wp2
  go_ret2
  exact ⟨_, rfl, HO.out.1, HO.out.2⟩
theorem part_long (v : Value) (l : List UInt8) (w : World) (Mi : Ms) (h : SlR w Mi v l) (hl : 255 < l.length) :
    Calls Try.prog 36 #[v] w fun e w' => e = .returned (.tuple #[.slice none 0 0, .int .i64 2]) ∧ Below w.heap.size w w' := by
  obtain ⟨a, c, rfl⟩ := h.form
  have hl' : (255 : Int) < l.length := by omega
  clear h
  go_enter Try.func36, Try.ntmps36
  go_wp2
  go_ret2
  exact ⟨rfl, Below.refl _ _⟩
end Go.Proofs.Ytpknhpfbinplgaa
end

/-
A byte above bytes: what `|` leaves.
-/
section
namespace Go.Proofs.Ytpknhpfbinplgaa
open Go.RowKit
theorem or_byte (a x k : Nat) (ha : a < 256 ^ k) (hx : x < 256) (hk : k < 4) : bits BinOp.or IntKind.i64 (a : Int) (wrap64 ((x : Int) * 2 ^ (8 * k))) = ((a + 256 ^ k * x : Nat) : Int) := by
  have e : (256 : Nat) ^ k = 2 ^ (8 * k) := by rw [Nat.pow_mul]
  have h1 : 256 ^ k ≤ 16777216 := by
    rcases k with _ | _ | _ | _ | k
    all_goals first | decide | omega
  have h2 : 256 ^ k * x < 4294967296 := by
    have : 256 ^ k * x ≤ 16777216 * 255 := Nat.mul_le_mul h1 (by omega)
    omega
  have hw : wrap64 ((x : Int) * 2 ^ (8 * k)) = ((256 ^ k * x : Nat) : Int) := by
    have : (x : Int) * 2 ^ (8 * k) = ((256 ^ k * x : Nat) : Int) := by rw [e]; push_cast; rw [Int.mul_comm]
    rw [this]
    unfold wrap64
    omega
  rw [hw]
  have h62 : (4294967296 : Nat) < 2 ^ 62 := by decide
  rw [(bits_nat .i64 62 (by decide) (fun n h0 h1 => by rw [IntKind.wrap_i64]; omega) a (256 ^ k * x) (by omega) (by omega)).2]
  rw [e] at ha ⊢
  rw [Nat.or_comm, ← Nat.two_pow_add_eq_or_of_lt ha x, Nat.add_comm]
end Go.Proofs.Ytpknhpfbinplgaa
end

/-
pack.Get.
-/
section
namespace Go.Proofs.Ytpknhpfbinplgaa
open Go.RowKit
attribute [local go_sem ↓] Go.wp_at_zero Go.wp_at_succ

theorem SlR.cap {α : Type} [Rp α] {w : World} {M : Ms} {a : Option Addr} {n c : Nat} {l : List α} (h : SlR w M (.slice a n c) l) : n = l.length ∧ l.length ≤ c ∧ c ≤ 9223372036854775807 := by
  obtain ⟨a', c', xs, e, h1, h2, _⟩ := h
  cases e
  exact ⟨rfl, h1, by unfold maxLen at h2; omega⟩
theorem Elems.drop_ {α : Type} {sz : Nat} {E : List Value → α → Prop} : ∀ {l : List α} {xs : List Value} (i : Nat), Elems sz E xs l → i ≤ l.length → Elems sz E (xs.drop (i * sz)) (l.drop i)
  | l, xs, 0, h, _ => by simpa using h
  | x :: l, _, i + 1, ⟨cs, ys, e, hc, he, hy⟩, hi => by
    subst e
    have e1 : (i + 1) * sz = cs.length + i * sz := by rw [hc, Nat.add_mul]; omega
    rw [e1, List.drop_append, List.drop_eq_nil_of_le (by omega), List.nil_append, List.drop_succ_cons]
    rw [show cs.length + i * sz - cs.length = i * sz by omega]
    exact Elems.drop_ i hy (by simpa using hi)
  | [], xs, i + 1, h, hi => by simp at hi
theorem SlR.drop_ {α : Type} [Rp α] {w : World} {M : Ms} {b off n c i : Nat} {l : List α} (h : SlR w M (.slice (some ⟨b, off, none⟩) n c) l) (hi : i ≤ l.length) : SlR w M (.slice (if c = i then some ⟨b, off, none⟩ else some ⟨b, off + i * Rp.sz α, none⟩) (n - i) (c - i)) (l.drop i) := by
  obtain ⟨a', c', xs, e, h1, h2, h3, h4⟩ := h
  cases e
  have hl : (l.drop i).length = l.length - i := by rw [List.length_drop]
  refine ⟨_, c - i, xs.drop (i * Rp.sz α), by rw [hl], by omega, by omega, h3.drop_ i hi, fun hne => ?_⟩
  have hci : c ≠ i := fun e => hne (by rw [List.drop_eq_nil_of_le (by omega)])
  rw [if_neg hci]
  obtain ⟨b', off', e, hm, hc⟩ := h4 (by intro e; rw [e] at hne; simp at hne)
  cases e
  refine ⟨b, off + i * Rp.sz α, rfl, hm, fun j u hu => ?_⟩
  rw [List.getElem?_drop] at hu
  have := hc _ u hu
  rwa [← Nat.add_assoc] at this
/-- The number that bytes are, the least one first. -/
def leN : List UInt8 → Nat
  | [] => 0
  | x :: l => x.toNat + 256 * leN l
theorem leN_lt : ∀ l : List UInt8, leN l < 256 ^ l.length
  | [] => by simp [leN]
  | x :: l => by
    have := leN_lt l
    have := x.toNat_lt
    simp only [leN, List.length_cons, Nat.pow_succ]
    omega
theorem leN_snoc : ∀ (l : List UInt8) (x : UInt8), leN (l ++ [x]) = leN l + 256 ^ l.length * x.toNat
  | [], x => by simp [leN]
  | y :: l, x => by
    simp only [List.cons_append, leN, leN_snoc l x, List.length_cons, Nat.pow_succ, Nat.mul_add]
    rw [← Nat.add_assoc, ← Nat.mul_assoc, Nat.mul_comm 256 (256 ^ l.length)]

theorem get_step {l : List UInt8} {k : Nat} (hk : k < l.length) (h4 : k < 4) : bits BinOp.or IntKind.i64 ((leN (l.take k) : Nat) : Int) (wrap64 ((l[k].toNat : Int) * 2 ^ (8 * k))) = ((leN (l.take (k + 1)) : Nat) : Int) := by
  have hlen : (l.take k).length = k := by rw [List.length_take]; omega
  have := leN_lt (l.take k)
  rw [hlen] at this
  rw [or_byte _ _ k this l[k].toNat_lt h4, List.take_add_one, List.getElem?_eq_getElem hk]
  show _ = ((leN (l.take k ++ [l[k]]) : Nat) : Int)
  rw [leN_snoc, hlen]

set_option maxRecDepth 100000 in
set_option maxHeartbeats 8000000 in
theorem get_any (v : Value) (l : List UInt8) (size : Int) (w : World) (M Mi : Ms) (h : SlR w Mi v l) (hs : szOk size) (hl : size ≤ l.length) (hn : l.length ≤ 1000000) :
    Calls Try.prog 55 #[v, .int .i64 size] w fun e w' => ∃ r, e = .returned (.tuple #[.int .i64 (leN (l.take size.toNat) : Nat), r, .int .i64 0]) ∧ OwR w' M w.heap.size 5 r (l.drop size.toNat) ∧ Below w.heap.size w w' := by
  obtain ⟨a, c, rfl⟩ := h.form
  have H := Lib.hid h.bare
  obtain ⟨-, hc1, hc2⟩ := h.cap
  obtain ⟨m, rfl⟩ : ∃ m : Nat, size = m := ⟨size.toNat, by rcases hs with rfl | rfl | rfl <;> rfl⟩
  have hm : ((m : Int) != 1 && ((m : Int) != 2 && (m : Int) != 4)) = false := by rcases hs with h | h | h <;> rw [h] <;> decide
  have hm4 : m ≤ 4 := by rcases hs with h | h | h <;> omega
  have hlt : ¬ (l.length : Int) < m := by omega
  have hml : m ≤ l.length := by omega
  clear h
  rcases hs with h | h | h
  · obtain rfl : m = 1 := by omega
    clear hm h hm4
    go_enter Try.func55, Try.ntmps55
    go_wp2
    go_loopg [4, 29] 4 (fun g s4 s29 wr => ∃ k : Nat, s29 = .int .i64 k ∧ k ≤ 1 ∧ 1 - k ≤ g ∧ wr = w ∧ s4 = .int .i64 (leN (l.take k) : Nat))
    case atStart => exact ⟨0, rfl, by omega, by omega, rfl, rfl⟩
    case round =>
      obtain ⟨k, rfl, hkl, hg, rfl, rfl⟩ := hrel
      by_cases hk : k < 1
      · have hkl' : k < l.length := by omega
        obtain ⟨b, off, rfl, -, x1⟩ := u8_at H.out hkl'
        have hk' : (k : Int) < 1 := by omega
        have hw1 : IntKind.i64.wrap (l[k].toNat : Int) = l[k].toNat := by have := l[k].toNat_lt; rw [IntKind.wrap_i64]; omega
        have hor := Lib.hid (get_step hkl' (by omega))
        go_wp2
        go_roundg (1 - (k + 1))
        case measure => omega
        case rel => exact ⟨k + 1, by go_num, by omega, by omega, rfl, congrArg (Value.int .i64) hor.out⟩
      · obtain rfl : k = 1 := by omega
        obtain ⟨b, off, rfl, -, -⟩ := u8_at H.out (show 0 < l.length by omega)
        have hdr := Lib.hid (H.out.drop_ hml)
        have hdl : (l.drop 1).length ≤ 1000000000 := by rw [List.length_drop]; omega
        simp only [show Rp.sz UInt8 = 1 from rfl] at hdr
        go_wp2_with fail
        · rename_i h
          rw [if_pos h] at hdr
          subst h
          have hbc := Lib.hid (bclone_any _ _ wr M noM hdr.out hdl)
          ((with_reducible refine hbc.out.mono ?_); rintro e w3 ⟨r3, rfl, ho3, hB3⟩)
          have HO := Lib.hid (And.intro ho3 hB3)
          clear ho3 hB3
          go_wp2
          go_ret3
          exact ⟨_, rfl, HO.out.1, HO.out.2⟩
        · rename_i h
          rw [if_neg h] at hdr
          have hbc := Lib.hid (bclone_any _ _ wr M noM hdr.out hdl)
          ((with_reducible refine hbc.out.mono ?_); rintro e w3 ⟨r3, rfl, ho3, hB3⟩)
          have HO := Lib.hid (And.intro ho3 hB3)
          clear ho3 hB3
          go_wp2
          go_ret3
          exact ⟨_, rfl, HO.out.1, HO.out.2⟩
  · obtain rfl : m = 2 := by omega
    clear hm h hm4
    go_enter Try.func55, Try.ntmps55
    go_wp2
    go_loopg [4, 29] 4 (fun g s4 s29 wr => ∃ k : Nat, s29 = .int .i64 k ∧ k ≤ 2 ∧ 2 - k ≤ g ∧ wr = w ∧ s4 = .int .i64 (leN (l.take k) : Nat))
    case atStart => exact ⟨0, rfl, by omega, by omega, rfl, rfl⟩
    case round =>
      obtain ⟨k, rfl, hkl, hg, rfl, rfl⟩ := hrel
      by_cases hk : k < 2
      · have hkl' : k < l.length := by omega
        obtain ⟨b, off, rfl, -, x1⟩ := u8_at H.out hkl'
        have hk' : (k : Int) < 2 := by omega
        have hw1 : IntKind.i64.wrap (l[k].toNat : Int) = l[k].toNat := by have := l[k].toNat_lt; rw [IntKind.wrap_i64]; omega
        have hor := Lib.hid (get_step hkl' (by omega))
        go_wp2
        go_roundg (2 - (k + 1))
        case measure => omega
        case rel => exact ⟨k + 1, by go_num, by omega, by omega, rfl, congrArg (Value.int .i64) hor.out⟩
      · obtain rfl : k = 2 := by omega
        obtain ⟨b, off, rfl, -, -⟩ := u8_at H.out (show 0 < l.length by omega)
        have hdr := Lib.hid (H.out.drop_ hml)
        have hdl : (l.drop 2).length ≤ 1000000000 := by rw [List.length_drop]; omega
        simp only [show Rp.sz UInt8 = 1 from rfl] at hdr
        go_wp2_with fail
        · rename_i h
          rw [if_pos h] at hdr
          subst h
          have hbc := Lib.hid (bclone_any _ _ wr M noM hdr.out hdl)
          ((with_reducible refine hbc.out.mono ?_); rintro e w3 ⟨r3, rfl, ho3, hB3⟩)
          have HO := Lib.hid (And.intro ho3 hB3)
          clear ho3 hB3
          go_wp2
          go_ret3
          exact ⟨_, rfl, HO.out.1, HO.out.2⟩
        · rename_i h
          rw [if_neg h] at hdr
          have hbc := Lib.hid (bclone_any _ _ wr M noM hdr.out hdl)
          ((with_reducible refine hbc.out.mono ?_); rintro e w3 ⟨r3, rfl, ho3, hB3⟩)
          have HO := Lib.hid (And.intro ho3 hB3)
          clear ho3 hB3
          go_wp2
          go_ret3
          exact ⟨_, rfl, HO.out.1, HO.out.2⟩
  · obtain rfl : m = 4 := by omega
    clear hm h hm4
    go_enter Try.func55, Try.ntmps55
    go_wp2
    go_loopg [4, 29] 4 (fun g s4 s29 wr => ∃ k : Nat, s29 = .int .i64 k ∧ k ≤ 4 ∧ 4 - k ≤ g ∧ wr = w ∧ s4 = .int .i64 (leN (l.take k) : Nat))
    case atStart => exact ⟨0, rfl, by omega, by omega, rfl, rfl⟩
    case round =>
      obtain ⟨k, rfl, hkl, hg, rfl, rfl⟩ := hrel
      by_cases hk : k < 4
      · have hkl' : k < l.length := by omega
        obtain ⟨b, off, rfl, -, x1⟩ := u8_at H.out hkl'
        have hk' : (k : Int) < 4 := by omega
        have hw1 : IntKind.i64.wrap (l[k].toNat : Int) = l[k].toNat := by have := l[k].toNat_lt; rw [IntKind.wrap_i64]; omega
        have hor := Lib.hid (get_step hkl' (by omega))
        go_wp2
        go_roundg (4 - (k + 1))
        case measure => omega
        case rel => exact ⟨k + 1, by go_num, by omega, by omega, rfl, congrArg (Value.int .i64) hor.out⟩
      · obtain rfl : k = 4 := by omega
        obtain ⟨b, off, rfl, -, -⟩ := u8_at H.out (show 0 < l.length by omega)
        have hdr := Lib.hid (H.out.drop_ hml)
        have hdl : (l.drop 4).length ≤ 1000000000 := by rw [List.length_drop]; omega
        simp only [show Rp.sz UInt8 = 1 from rfl] at hdr
        go_wp2_with fail
        · rename_i h
          rw [if_pos h] at hdr
          subst h
          have hbc := Lib.hid (bclone_any _ _ wr M noM hdr.out hdl)
          ((with_reducible refine hbc.out.mono ?_); rintro e w3 ⟨r3, rfl, ho3, hB3⟩)
          have HO := Lib.hid (And.intro ho3 hB3)
          clear ho3 hB3
          go_wp2
          go_ret3
          exact ⟨_, rfl, HO.out.1, HO.out.2⟩
        · rename_i h
          rw [if_neg h] at hdr
          have hbc := Lib.hid (bclone_any _ _ wr M noM hdr.out hdl)
          ((with_reducible refine hbc.out.mono ?_); rintro e w3 ⟨r3, rfl, ho3, hB3⟩)
          have HO := Lib.hid (And.intro ho3 hB3)
          clear ho3 hB3
          go_wp2
          go_ret3
          exact ⟨_, rfl, HO.out.1, HO.out.2⟩
end Go.Proofs.Ytpknhpfbinplgaa
end

/-
pack.Get of too few bytes.
-/
section
namespace Go.Proofs.Ytpknhpfbinplgaa
open Go.RowKit
attribute [local go_sem ↓] Go.wp_at_zero Go.wp_at_succ

set_option maxRecDepth 100000 in
set_option maxHeartbeats 8000000 in
theorem get_few (v : Value) (l : List UInt8) (size : Int) (w : World) (Mi : Ms) (h : SlR w Mi v l) (hs : szOk size) (hl : l.length < size) :
    Calls Try.prog 55 #[v, .int .i64 size] w fun e w' => e = .returned (.tuple #[.int .i64 0, .slice none 0 0, .int .i64 4]) ∧ Below w.heap.size w w' := by
  obtain ⟨a, c, rfl⟩ := h.form
  clear h
  rcases hs with rfl | rfl | rfl
  · go_enter Try.func55, Try.ntmps55
    go_wp2
    go_ret3
    exact ⟨rfl, Below.refl _ _⟩
  · go_enter Try.func55, Try.ntmps55
    go_wp2
    go_ret3
    exact ⟨rfl, Below.refl _ _⟩
  · go_enter Try.func55, Try.ntmps55
    go_wp2
    go_ret3
    exact ⟨rfl, Below.refl _ _⟩
end Go.Proofs.Ytpknhpfbinplgaa
end

/-
Laws on rows and slices that the packages below use: of two types, of elements that own nothing, cut, stored into.
-/
section
namespace Go.Proofs.Ytpknhpfbinplgaa
open Go.RowKit

abbrev OM (M : Ms) (v : Value) : Ms := fun b => M b ∨ v.ownBlock = some b
theorem OwR.own_ne {α β : Type} [Rp α] [Rp β] {w : World} {M1 M2 : Ms} {n1 n2 : Nat} {e1 e2 : TypeId} {v1 v2 : Value} {l1 : List α} {l2 : List β} (h1 : OwR w M1 n1 e1 v1 l1) (h2 : OwR w M2 n2 e2 v2 l2) (hne : e1 ≠ e2) :
    v2.ownBlock = none ∨ v2.ownBlock ≠ v1.ownBlock := by
  obtain ⟨xs, ho', _⟩ := h1
  obtain ⟨ys, ho'', _⟩ := h2
  rcases ho''.2 with ⟨rfl, _⟩ | ⟨g2, cap2, cur2, rfl, _, hh2, _⟩
  · exact .inl (by simp [Value.ownBlock])
  · refine .inr fun e => ?_
    rcases ho'.2 with ⟨rfl, _⟩ | ⟨g1, cap, cur, rfl, _, hh, _⟩
    · simp [Value.ownBlock] at e
    · simp [Value.ownBlock] at e
      subst e
      rw [hh] at hh2
      injection hh2 with hh2
      injection hh2 with _ ht
      exact hne ht
/-- A row that is newer than another one is not it. -/
theorem OwR.own_new {α β : Type} [Rp α] [Rp β] {w w' : World} {M1 M2 : Ms} {n1 : Nat} {e1 e2 : TypeId} {v1 v2 : Value} {l1 : List α} {l2 : List β} (h1 : OwR w M1 n1 e1 v1 l1) (h2 : OwR w' M2 w.heap.size e2 v2 l2) :
    v2.ownBlock = none ∨ v2.ownBlock ≠ v1.ownBlock := by
  cases h : v2.ownBlock with
  | none => exact .inl rfl
  | some g =>
    refine .inr fun e => ?_
    have a := h2.own_ge h
    have b := h1.own_lt e.symm
    omega
theorem OwR.own_old {α β : Type} [Rp α] [Rp β] {w w' : World} {M1 M2 : Ms} {n1 : Nat} {e1 e2 : TypeId} {v1 v2 : Value} {l1 : List α} {l2 : List β} (h1 : OwR w M1 n1 e1 v1 l1) (h2 : OwR w' M2 w.heap.size e2 v2 l2) :
    v1.ownBlock = none ∨ v1.ownBlock ≠ v2.ownBlock := by
  cases h : v1.ownBlock with
  | none => exact .inl rfl
  | some g =>
    refine .inr fun e => ?_
    have a := h2.own_ge e.symm
    have b := h1.own_lt h
    omega
abbrev Plain (α : Type) [Rp α] : Prop := ∀ w M w' M' cs (x : α), Rp.E w M cs x → Rp.E w' M' cs x
theorem plU : Plain UInt8 := fun _ _ _ _ _ _ h => h
theorem plI : Plain Int := fun _ _ _ _ _ _ h => h
theorem plO : Plain Bool := fun _ _ _ _ _ _ h => h
theorem plE : Plain Ent := fun _ _ _ _ _ _ h => h
section
variable {α : Type} [Rp α] {w w' : World} {M M' : Ms} {base : Nat} {e : TypeId} {v : Value} {l : List α}
theorem OwR.pl (hp : Plain α) (h : OwR w M base e v l) : OwR w M' base e v l := OwR.plain (fun _ _ _ _ _ h => hp _ _ _ _ _ _ h) h
theorem OwR.keptP (hp : Plain α) {row : Option Nat} (h : OwR w M base e v l) (hg : w.grownBy w' row) (hne : v.ownBlock = none ∨ v.ownBlock ≠ row) : OwR w' M base e v l :=
  OwR.pl (M := fun _ => True) hp ((OwR.pl hp h).kept hg hne fun _ _ => trivial)
theorem OwR.setP (hp : Plain α) (h : OwR w M base e v l) {p : Addr} (hne : v.ownBlock ≠ some p.block) (u : Value) : OwR (w.setCell p u) M base e v l :=
  OwR.pl (M := fun _ => True) hp ((OwR.pl hp h).setCell hne trivial u)
/-- A row of the call's own read as a slice, if what may be written is not it. -/
theorem OwR.sl' (h : OwR w M base e v l) (hM : ∀ b, v.ownBlock = some b → ¬ M b) : SlR w M v l := by
  obtain ⟨xs, ho, he⟩ := h
  have he' : Elems (Rp.sz α) (Rp.E w M) xs l := he.mono fun cs x _ => Rp.mono fun b _ hb => ⟨fun hm => hb (.inl hm), rfl⟩
  rcases ho.2 with ⟨rfl, hn⟩ | ⟨g, cap, cur, rfl, hb, hg, hnc, hcm, hcs, ht⟩
  · have : l = [] := List.eq_nil_of_length_eq_zero hn
    subst this
    exact ⟨none, 0, xs, rfl, by simp, by simp [maxLen], he', fun h => absurd rfl h⟩
  · refine ⟨_, cap, xs, rfl, hnc, hcm, he', fun _ => ⟨g, 0, rfl, hM g rfl, fun j u hu => ?_⟩⟩
    have := ho.cells (g := g) rfl j u hu
    rwa [Addr.add_lit] at this
end
theorem Elems.take_ {α : Type} {sz : Nat} {E : List Value → α → Prop} : ∀ {l : List α} {xs : List Value} (i : Nat), Elems sz E xs l → i ≤ l.length → Elems sz E (xs.take (i * sz)) (l.take i)
  | l, xs, 0, _, _ => by simp [Elems]
  | x :: l, _, i + 1, ⟨cs, ys, e, hc, he, hy⟩, hi => by
    subst e
    have e1 : (i + 1) * sz = cs.length + i * sz := by rw [hc, Nat.add_mul]; omega
    rw [e1, List.take_append, List.take_of_length_le (by omega), List.take_succ_cons]
    rw [show cs.length + i * sz - cs.length = i * sz by omega]
    exact ⟨cs, _, rfl, hc, he, Elems.take_ i hy (by simpa using hi)⟩
  | [], xs, i + 1, h, hi => by simp at hi
theorem SlR.take_ {α : Type} [Rp α] {w : World} {M : Ms} {a : Option Addr} {n c i : Nat} {l : List α} (h : SlR w M (.slice a n c) l) (hi : i ≤ l.length) : SlR w M (.slice a i c) (l.take i) := by
  obtain ⟨a', c', xs, e, h1, h2, h3, h4⟩ := h
  cases e
  have hl : (l.take i).length = i := by rw [List.length_take]; omega
  refine ⟨a, c, xs.take (i * Rp.sz α), by rw [hl], by omega, h2, h3.take_ i hi, fun hne => ?_⟩
  obtain ⟨b, off, e, hm, hc⟩ := h4 (by intro e; rw [e] at hne; simp at hne)
  refine ⟨b, off, e, hm, fun j u hu => hc j u ?_⟩
  rw [List.getElem?_take] at hu
  split at hu
  · exact hu
  · cases hu
theorem SlR.dropN {α : Type} [Rp α] {w : World} {M : Ms} {n c : Nat} {l : List α} (h : SlR w M (.slice none n c) l) : l = [] ∧ n = 0 := by
  obtain ⟨a', c', xs, e, h1, h2, h3, h4⟩ := h
  cases e
  by_cases hl : l = []
  · subst hl; exact ⟨rfl, rfl⟩
  · obtain ⟨b, off, e, _⟩ := h4 hl; cases e
theorem grownBy_set (w : World) (g i : Nat) (u : Value) : w.grownBy (w.setCell ⟨g, i, none⟩ u) (some g) :=
  ⟨rfl, rfl, rfl, by simp, fun k _ hne => Below.heap_setCell _ _ _ _ (fun e => hne (by rw [e]))⟩
theorem grownBy_trans {a b c : World} {r : Option Nat} (h : a.grownBy b r) (k : b.grownBy c r) : a.grownBy c r :=
  ⟨k.os.trans h.os, k.tape.trans h.tape, k.output.trans h.output, Nat.le_trans h.size k.size, fun i hi hne => (k.block i (Nat.lt_of_lt_of_le hi h.size) hne).trans (h.block i hi hne)⟩
/-- One value of an owned row's element stored anew. -/
theorem OwR.setF {α : Type} [Rp α] {w : World} {M : Ms} {base g c j f : Nat} {e : TypeId} {n : Nat} {l : List α} (h : OwR w M base e (.slice (some ⟨g, 0, none⟩) n c) l) (hj : j < l.length) (hf : f < Rp.sz α) (u : Value) (y : α)
    (hE : ∀ cs, Rp.E w (OM M (.slice (some ⟨g, 0, none⟩) n c)) cs l[j] → Rp.E w (OM M (.slice (some ⟨g, 0, none⟩) n c)) (cs.set f u) y) :
    OwR (w.setCell ⟨g, j * Rp.sz α + f, none⟩ u) M base e (.slice (some ⟨g, 0, none⟩) n c) (l.set j y) := by
  have hgr := grownBy_set w g (j * Rp.sz α + f) u
  obtain ⟨A', c', hv⟩ := h.form
  simp only [Value.slice.injEq] at hv
  obtain ⟨-, hnl, -⟩ := hv
  subst hnl
  obtain ⟨xs, ho, he⟩ := h
  have s1 := (ho.stored (j * Rp.sz α + f) u).1
  obtain ⟨cs, hcl, hEcs, hcj⟩ := he.get (List.getElem?_eq_getElem hj)
  have hkeep : Keep w (OM M (.slice (some ⟨g, 0, none⟩) l.length c)) (w.setCell ⟨g, j * Rp.sz α + f, none⟩ u) (OM M (.slice (some ⟨g, 0, none⟩) l.length c)) :=
    fun b hb hm => ⟨hm, hgr.block b hb (fun e => hm (.inr (by simpa [Value.ownBlock] using e.symm)))⟩
  have hlen := he.length
  have hlt : j * Rp.sz α + Rp.sz α ≤ xs.length := by
    have : (j + 1) * Rp.sz α ≤ l.length * Rp.sz α := Nat.mul_le_mul_right _ hj
    rw [Nat.succ_mul] at this
    omega
  have hp := Elems.put (xs' := xs.set (j * Rp.sz α + f) u) (y := y) (cs := cs.set f u) (he.mono fun cs x _ => Rp.mono hkeep) hj (by simp)
    (fun i hi => List.getElem?_set_ne (by omega)) (by simp [hcl]) (Rp.mono hkeep (hE cs hEcs)) (fun i hi => by
      by_cases hif : f = i
      · subst hif; rw [List.getElem?_set_self (by omega), List.getElem?_set_self (by omega)]
      · rw [List.getElem?_set_ne (by omega), List.getElem?_set_ne hif]; exact hcj i hi)
  exact ⟨_, by rw [List.length_set]; exact s1, hp⟩
theorem OwR.setI {w : World} {M : Ms} {base g c j n : Nat} {e : TypeId} {l : List Int} (h : OwR w M base e (.slice (some ⟨g, 0, none⟩) n c) l) (hj : j < l.length) (y : Int) :
    OwR (w.setCell ⟨g, j, none⟩ (.int .i64 y)) M base e (.slice (some ⟨g, 0, none⟩) n c) (l.set j y) := by
  have := h.setF hj (f := 0) (show 0 < 1 by omega) (.int .i64 y) y (fun cs hcs => by
    have hcs' : cs = [.int .i64 l[j]] := hcs
    subst hcs'
    rfl)
  rwa [show j * Rp.sz Int + 0 = j by show j * 1 + 0 = j; omega] at this
/-- A literal of numbers. -/
theorem OwR.litI (w : World) (M : Ms) (l : List Int) (hl : l.length ≤ 1000) : OwR (w.alloc (.cells (l.map (Value.int .i64)).toArray 3)) M w.heap.size 3 (.slice (some ⟨w.heap.size, 0, none⟩) l.length l.length) l := by
  refine ⟨l.map (Value.int .i64), ⟨by simp [Rp.sz], .inr ⟨w.heap.size, l.length, _, rfl, Nat.le_refl _, heap_alloc_new w _, Nat.le_refl _, by unfold maxLen; omega, by simp [Rp.sz], ?_⟩⟩, ?_⟩
  · simp only [Rp.sz, Nat.mul_one]
    exact List.take_of_length_le (by simp)
  · clear hl
    induction l with
    | nil => rfl
    | cons x l ih => exact ⟨[.int .i64 x], _, rfl, rfl, rfl, ih⟩
end Go.Proofs.Ytpknhpfbinplgaa
end

/-
Plain laws on the numbers that bytes begin with.
-/
section
namespace Go.Proofs.Ytpknhpfbinplgaa

/-- How many bytes numbers of these sizes take. -/
def tot : List Int → Nat
  | [] => 0
  | s :: ss => s.toNat + tot ss
/-- The numbers that bytes begin with. -/
def nums : List Int → List UInt8 → List Int
  | [], _ => []
  | s :: ss, b => ((leN (b.take s.toNat) : Nat) : Int) :: nums ss (b.drop s.toNat)
theorem tot_step : ∀ (ss : List Int) (k : Nat) (h : k < ss.length), tot (ss.take (k + 1)) = tot (ss.take k) + ss[k].toNat
  | s :: ss, 0, _ => by simp [tot]
  | s :: ss, k + 1, h => by
    have := tot_step ss k (by simpa using h)
    simp only [List.take_succ_cons, tot, List.getElem_cons_succ]
    omega
theorem tot_take_le : ∀ (ss : List Int) (k : Nat), tot (ss.take k) ≤ tot ss
  | [], _ => by simp
  | s :: ss, 0 => by simp [tot]
  | s :: ss, k + 1 => by
    have := tot_take_le ss k
    simp only [List.take_succ_cons, tot]
    omega
theorem nums_step : ∀ (ss : List Int) (b : List UInt8) (k : Nat) (h : k < ss.length), nums (ss.take (k + 1)) b = nums (ss.take k) b ++ [((leN ((b.drop (tot (ss.take k))).take ss[k].toNat) : Nat) : Int)]
  | s :: ss, b, 0, _ => by simp [nums, tot]
  | s :: ss, b, k + 1, h => by
    have := nums_step ss (b.drop s.toNat) k (by simpa using h)
    simp only [List.take_succ_cons, nums, tot, List.getElem_cons_succ, List.cons_append]
    rw [this, List.drop_drop]
theorem nums_len : ∀ (ss : List Int) (b : List UInt8), (nums ss b).length = ss.length
  | [], _ => rfl
  | s :: ss, b => by simp [nums, nums_len ss]
theorem leN_leB : ∀ (k n : Nat), n < 256 ^ k → leN (leB k n) = n
  | 0, n, h => by simp at h; simp [leB, leN, h]
  | k + 1, n, h => by
    have h2 : n / 256 < 256 ^ k := by rw [Nat.pow_succ] at h; omega
    simp only [leB, leN, leN_leB k (n / 256) h2]
    simp
    omega
theorem leB_leN : ∀ (l : List UInt8), leB l.length (leN l) = l
  | [] => rfl
  | x :: l => by
    have hx := x.toNat_lt
    have e1 : (x.toNat + 256 * leN l) % 256 = x.toNat := by omega
    have e2 : (x.toNat + 256 * leN l) / 256 = leN l := by omega
    simp only [List.length_cons, leB, leN, e1, e2, leB_leN l]
    simp
theorem lim_pow {s : Int} (h : szOk s) : limS s = ((256 ^ s.toNat : Nat) : Int) := by rcases h with rfl | rfl | rfl <;> decide
theorem tot_rowB : ∀ (ns ss : List Int), ns.length = ss.length → (rowB ns ss).length = tot ss
  | [], [], _ => rfl
  | n :: ns, s :: ss, h => by
    have := tot_rowB ns ss (by simpa using h)
    simp [rowB, tot, leB_len, this]
/-- Numbers that fit are read back, whatever stands behind them. -/
theorem nums_rowB : ∀ (ns ss : List Int) (r : List UInt8), ns.length = ss.length → (∀ k (a : k < ns.length) (b : k < ss.length), szOk ss[k] ∧ 0 ≤ ns[k] ∧ ns[k] < limS ss[k]) → nums ss (rowB ns ss ++ r) = ns
  | [], [], _, _, _ => rfl
  | n :: ns, s :: ss, r, h, hf => by
    have ih := nums_rowB ns ss r (by simpa using h) (fun k a b => hf (k + 1) (by simp; omega) (by simp; omega))
    obtain ⟨h1, h2, h3⟩ := hf 0 (by simp) (by simp)
    simp only [List.getElem_cons_zero] at h1 h2 h3
    rw [lim_pow h1] at h3
    have e1 : ((leB s.toNat n.toNat ++ rowB ns ss) ++ r).take s.toNat = leB s.toNat n.toNat := by
      rw [List.append_assoc, List.take_append_of_le_length (by rw [leB_len]; exact Nat.le_refl _), List.take_of_length_le (by rw [leB_len]; exact Nat.le_refl _)]
    have e2 : ((leB s.toNat n.toNat ++ rowB ns ss) ++ r).drop s.toNat = rowB ns ss ++ r := by
      rw [List.append_assoc, List.drop_append, List.drop_eq_nil_of_le (by rw [leB_len]; exact Nat.le_refl _), leB_len]
      simp
    simp only [rowB, nums, e1, e2, ih, leN_leB _ _ (show n.toNat < 256 ^ s.toNat by omega)]
    rw [Int.toNat_of_nonneg h2]
/-- The bytes of what was read are the bytes. -/
theorem rowB_nums : ∀ (ss : List Int) (b : List UInt8), tot ss ≤ b.length → rowB (nums ss b) ss = b.take (tot ss)
  | [], b, _ => by simp [rowB, tot, nums]
  | s :: ss, b, h => by
    simp only [tot] at h
    have ih := rowB_nums ss (b.drop s.toNat) (by rw [List.length_drop]; omega)
    have hl : (b.take s.toNat).length = s.toNat := by rw [List.length_take]; omega
    have e := leB_leN (b.take s.toNat)
    rw [hl] at e
    simp only [nums, rowB, ih, tot, Int.toNat_natCast, e]
    rw [← List.take_add]
/-- What is read fits. -/
theorem nums_fit : ∀ (ss : List Int) (b : List UInt8), (∀ s ∈ ss, szOk s) → ∀ k (a : k < (nums ss b).length) (c : k < ss.length), szOk ss[k] ∧ 0 ≤ (nums ss b)[k] ∧ (nums ss b)[k] < limS ss[k]
  | [], _, _, k, a, c => by simp at c
  | s :: ss, b, h, 0, a, c => by
    have h1 := h s (by simp)
    refine ⟨h1, by simp [nums], ?_⟩
    simp only [nums, List.getElem_cons_zero, lim_pow h1]
    have := leN_lt (b.take s.toNat)
    have h2 : 256 ^ (b.take s.toNat).length ≤ 256 ^ s.toNat := Nat.pow_le_pow_right (by omega) (by rw [List.length_take]; omega)
    omega
  | s :: ss, b, h, k + 1, a, c => by
    have := nums_fit ss (b.drop s.toNat) (fun x hx => h x (by simp [hx])) k (by simpa [nums] using a) (by simpa using c)
    simpa [nums] using this
end Go.Proofs.Ytpknhpfbinplgaa
end

/-
pack.Unrow.
-/
section
namespace Go.Proofs.Ytpknhpfbinplgaa
open Go.RowKit
attribute [local go_sem ↓] Go.wp_at_zero Go.wp_at_succ

/-- What Unrow leaves: the numbers and the rest, or nothing. -/
def UnrowP (w' : World) (base : Nat) (b : List UInt8) (ss : List Int) (e : Ending) : Prop :=
  (tot ss ≤ b.length ∧ ∃ v1 v2, e = .returned (.tuple #[v1, v2, .int .i64 0]) ∧ OwR w' noM base 3 v1 (nums ss b) ∧ OwR w' noM base 5 v2 (b.drop (tot ss))) ∨
  (b.length < tot ss ∧ e = .returned (.tuple #[.slice none 0 0, .slice none 0 0, .int .i64 4]))

set_option maxRecDepth 100000 in
set_option maxHeartbeats 8000000 in
theorem unrow_any (v1 v2 : Value) (b : List UInt8) (ss : List Int) (w : World) (M1 M2 : Ms) (h1 : SlR w M1 v1 b) (h2 : SlR w M2 v2 ss) (hss : ∀ s ∈ ss, szOk s) (hl : b.length ≤ 1000000) (hn : ss.length ≤ 1000) :
    Calls Try.prog 38 #[v1, v2] w fun e w' => UnrowP w' w.heap.size b ss e ∧ Below w.heap.size w w' := by
  obtain ⟨a1, c1, rfl⟩ := h1.form
  obtain ⟨a2, c2, rfl⟩ := h2.form
  have hcl := Lib.hid (bclone_any _ b w noM M1 h1 (by omega))
  have H2 := Lib.hid h2.bare
  have HS := Lib.hid hss
  have HL := Lib.hid hl
  clear h1 h2 hss hl
  go_enter Try.func38, Try.ntmps38
  go_wp2_with (go_at_call 42; go_must (with_reducible refine hcl.out.mono ?_); rintro e w1 ⟨r, rfl, ho1, hB1⟩)
  have HO := Lib.hid (And.intro ho1 hB1)
  clear ho1 hB1 hcl
  go_loopg [4, 5, 16] ss.length (fun g s4 s5 s16 wr => ∃ k : Nat, s16 = .int .i64 k ∧ k ≤ ss.length ∧ ss.length - k ≤ g ∧ Hid (tot (ss.take k) ≤ b.length ∧ OwR wr noM w.heap.size 3 s4 (nums (ss.take k) b) ∧ OwR wr noM w.heap.size 5 s5 (b.drop (tot (ss.take k))) ∧ Below w.heap.size w wr))
  case atStart => exact ⟨0, rfl, Nat.zero_le _, by omega, Lib.hid ⟨by simp [tot], OwR.nil _ _ _ _, by simpa [tot] using HO.out.1, HO.out.2⟩⟩
  case round =>
    obtain ⟨k, rfl, hkl, hg, hI⟩ := hrel
    obtain ⟨w0, rfl⟩ : ∃ w0, w0 = wr := ⟨_, rfl⟩
    by_cases hlt : k < ss.length
    · obtain ⟨hT, ho4, ho5, hB⟩ := hI.out
      obtain ⟨bb, off, rfl, -, x1⟩ := int_at (H2.out.mono (Keep.below hB)) hlt
      have hlt' : (k : Int) < ss.length := by omega
      have hsz := HS.out ss[k] (List.getElem_mem hlt)
      have hstep := tot_step ss k hlt
      have hle := tot_take_le ss (k + 1)
      by_cases hfit : ss[k].toNat ≤ (b.drop (tot (ss.take k))).length
      · have hpos : 0 ≤ ss[k] := by rcases hsz with h | h | h <;> rw [h] <;> decide
        have hge := Lib.hid (get_any _ (b.drop (tot (ss.take k))) ss[k] w0 noM noM (ho5.sl (fun _ _ h => h)) hsz (by omega) (by rw [List.length_drop]; have := HL.out; omega))
        have hns := Lib.hid (nums_step ss b k hlt)
        have hts := Lib.hid hstep
        have hT2 := Lib.hid (show tot (ss.take (k + 1)) ≤ b.length by rw [hstep]; rw [List.length_drop] at hfit; omega)
        obtain ⟨x, hx⟩ : ∃ x : Nat, x = leN ((b.drop (tot (ss.take k))).take ss[k].toNat) := ⟨_, rfl⟩
        rw [← hx] at hge hns
        have H4 := Lib.hid ho4
        have HB := Lib.hid hB
        have hnl : (nums (ss.take k) b).length + 1 ≤ 1000000000 := by rw [nums_len, List.length_take]; omega
        clear hx hsz hpos hfit hstep hle hT ho4 ho5 hB hI
        go_wp2_with fail
        ((with_reducible refine hge.out.mono ?_); rintro e w2 ⟨r2, rfl, ho2, hB2⟩)
        have hbA := (Below.refl w2.heap.size w2).alloc (Nat.le_refl _) (.cells #[.int .i64 x] 3)
        have O4 := Lib.hid ((H4.out.below hB2).below hbA)
        have O5 := Lib.hid (And.intro (H4.out.own_new ho2) (ho2.below hbA))
        have HB2 := Lib.hid (HB.out.trans ((hB2.trans (hbA.mono hB2.size)).mono HB.out.size))
        have hS := Lib.hid (show SlR (w2.alloc (.cells #[.int .i64 x] 3)) (fun b => noM b ∨ u4.ownBlock = some b) (.slice (some ⟨w2.heap.size, 0, none⟩) 1 1) [(x : Int)] from
          SlR.one (Blk.new w2 3 #[.int .i64 x]) rfl (fun h' => h'.elim (fun h => h) (fun h => by have := (H4.out.below hB2).own_lt h; omega)))
        clear hbA ho2 hB2 hge
        go_wp2_with (at_builtin; go_must (refine wpList_append_R (α := Int) (M := noM) (base := w.heap.size) (l := nums (ss.take k) b) (m := [(x : Int)]) rfl (by rfl) tyI (by rfl) O4.out (by rfl) hS.out (by simpa using hnl) HB2.out.size ?_); intro v4 w4 ho4 hg4 hat4)
        go_roundg (ss.length - (k + 1))
        case measure => omega
        case rel =>
          refine ⟨k + 1, by go_num, by omega, by omega, Lib.hid ⟨hT2.out, by rw [hns.out]; exact ho4, ?_, HB2.out.grown hg4 HB2.out.size (fun b e => O4.out.own_ge e)⟩⟩
          rw [hts.out, ← List.drop_drop]
          exact (O5.out.2.keptP plU hg4 O5.out.1).mono_base HB.out.size
      · have hge := Lib.hid (get_few _ (b.drop (tot (ss.take k))) ss[k] w0 noM (ho5.sl (fun _ _ h => h)) hsz (by omega))
        have hT2 := Lib.hid (show b.length < tot ss by rw [List.length_drop] at hfit; omega)
        have HB := Lib.hid hB
        clear hsz hfit hstep hle hT ho4 ho5 hB hI
        go_wp2_with fail
        ((with_reducible refine hge.out.mono ?_); rintro e w2 ⟨rfl, hB2⟩)
        have HB2 := Lib.hid (HB.out.trans (hB2.mono HB.out.size))
        clear hB2 hge
        go_wp2
        go_ret3
        exact ⟨.inr ⟨hT2.out, rfl⟩, HB2.out⟩
    · obtain rfl : k = ss.length := by omega
      rw [List.take_length] at hI
      go_wp2
      go_ret3
      exact ⟨.inl ⟨hI.out.1, _, _, rfl, hI.out.2.1, hI.out.2.2.1⟩, hI.out.2.2.2⟩
end Go.Proofs.Ytpknhpfbinplgaa
end

/-
pack.Unpart.
-/
section
namespace Go.Proofs.Ytpknhpfbinplgaa
open Go.RowKit
attribute [local go_sem ↓] Go.wp_at_zero Go.wp_at_succ

theorem SlR.dropU {w : World} {M : Ms} {b off n c i : Nat} {l : List UInt8} (h : SlR w M (.slice (some ⟨b, off, none⟩) n c) l) (hi : i ≤ l.length) : SlR w M (.slice (if c = i then some ⟨b, off, none⟩ else some ⟨b, off + i, none⟩) (n - i) (c - i)) (l.drop i) := by
  have := h.drop_ hi
  rwa [show Rp.sz UInt8 = 1 from rfl, Nat.mul_one] at this
/-- How long the part is that bytes begin with. -/
def partN (b : List UInt8) : Nat := (b.headD 0).toNat
def partOk (b : List UInt8) : Bool := decide (1 ≤ b.length ∧ 1 + partN b ≤ b.length)
def UnpartP (w' : World) (base : Nat) (b : List UInt8) (e : Ending) : Prop :=
  (partOk b = true ∧ ∃ v1 v2, e = .returned (.tuple #[v1, v2, .int .i64 0]) ∧ OwR w' noM base 5 v1 ((b.drop 1).take (partN b)) ∧ OwR w' noM base 5 v2 (b.drop (1 + partN b))) ∨
  (partOk b = false ∧ e = .returned (.tuple #[.slice none 0 0, .slice none 0 0, .int .i64 4]))

set_option maxRecDepth 100000 in
set_option maxHeartbeats 8000000 in
theorem unpart_any (v1 : Value) (b : List UInt8) (w : World) (M1 : Ms) (h1 : SlR w M1 v1 b) (hl : b.length ≤ 1000000) :
    Calls Try.prog 57 #[v1] w fun e w' => UnpartP w' w.heap.size b e ∧ Below w.heap.size w w' := by
  obtain ⟨a1, c1, rfl⟩ := h1.form
  obtain ⟨-, hc1, hc2⟩ := h1.cap
  have H1 := Lib.hid h1.bare
  clear h1
  by_cases h0 : b.length = 0
  · have hE := Lib.hid (show partOk b = false by simp [partOk, h0])
    have h0' : ((b.length : Int) == 0) = true := by simp [h0]
    clear h0
    go_enter Try.func57, Try.ntmps57
    go_wp2
    go_ret3
    exact ⟨.inr ⟨hE.out, rfl⟩, Below.refl _ _⟩
  · have hpos : 0 < b.length := by omega
    have h0' : ((b.length : Int) == 0) = false := by simpa using h0
    obtain ⟨B, off, rfl, -, x1⟩ := u8_at H1.out hpos
    rw [Nat.add_zero] at x1
    have hw : IntKind.i64.wrap (b[0].toNat : Int) = b[0].toNat := by have := b[0].toNat_lt; rw [IntKind.wrap_i64]; omega
    have hbt : (b[0].toNat : Int) ≤ 255 := by have := b[0].toNat_lt; omega
    obtain ⟨m, hm⟩ : ∃ m : Nat, (1 : Int) + ((b[0].toNat : Nat) : Int) = (m : Int) := ⟨1 + b[0].toNat, by omega⟩
    have hm1 : (1 : Int) ≤ m := by omega
    have hm2 : (m : Int) ≤ 256 := by omega
    have hN : Hid (1 + partN b = m) := Lib.hid (by cases b with | nil => simp at hpos | cons x l => simp only [partN, List.headD_cons]; simp only [List.getElem_cons_zero] at hm; omega)
    have hpos' : (0 : Int) < b.length := by omega
    clear h0
    by_cases hlt : b.length < m
    · have hE := Lib.hid (show partOk b = false by simp only [partOk, hN.out]; simp; omega)
      have hlt' : (b.length : Int) < m := by omega
      go_enter Try.func57, Try.ntmps57
      go_wp2
      go_ret3
      exact ⟨.inr ⟨hE.out, rfl⟩, Below.refl _ _⟩
    · have hE := Lib.hid (show partOk b = true by simp only [partOk, hN.out]; simp; omega)
      have hlt' : ¬ (b.length : Int) < m := by omega
      have hmc : (m : Int) ≤ c1 := by omega
      have hm0 : (0 : Int) ≤ m := by omega
      go_enter Try.func57, Try.ntmps57
      go_wp2_with fail
      refine rp_enter [] (fun _ => True) (by kernel_rfl) ?_
      apply rp_pure 0 rfl (by kernel_rfl) (fun _ _ _ h => h) rfl
      · (intro W; go_simp; try rfl)
      · (go_simp; try rfl)
      apply rp_pure 1 rfl (by kernel_rfl) (fun _ _ _ h => h) rfl
      · (intro W; go_simp; try rfl)
      · (go_simp; try rfl)
      apply rp_pure 2 rfl (by kernel_rfl) (fun _ _ _ h => h) rfl
      · (intro W; go_simp; try rfl)
      · (go_simp; try rfl)
      apply rp_pure 4 rfl (by kernel_rfl) (fun _ _ _ h => h) rfl
      · (intro W; go_simp; try rfl)
      · (go_simp; try rfl)
      apply rp_pure 5 rfl (by kernel_rfl) (fun _ _ _ h => h) rfl
      · (intro W; go_simp; try rfl)
      · (go_simp; try rfl)
      apply rp_pure 6 rfl (by kernel_rfl) (fun _ _ _ h => h) rfl
      · (intro W; go_simp; try rfl)
      · (go_simp; try rfl)
      refine rp_only 3 (by kernel_rfl) rfl (fun K hK => ?_)
      have hcl := Lib.hid (bclone_any _ ((b.take m).drop 1) w.drew noM noM ((H1.out.take_ (i := m) (by omega)).dropU (i := 1) (by rw [List.length_take]; omega)) (by rw [List.length_drop, List.length_take]; omega))
      go_simp
      refine hcl.out.mono ?_
      rintro e w2 ⟨r2, rfl, ho2, hB2⟩
      have hcl2 := Lib.hid (bclone_any _ (b.drop m) w2 noM noM ((H1.out.mono (Keep.below ((below_drew w).trans hB2))).dropU (i := m) (by omega)) (by rw [List.length_drop]; omega))
      refine hK _ _ ⟨fun _ _ => trivial, ?_⟩; clear hK K
      refine rp_only 7 (by kernel_rfl) rfl (fun K hK => ?_)
      go_simp
      refine hcl2.out.mono ?_
      rintro e w3 ⟨r3, rfl, ho3, hB3⟩
      refine hK _ _ ⟨fun _ _ => trivial, ?_⟩; clear hK K
      have hlist : (b.take m).drop 1 = (b.drop 1).take (partN b) := by rw [List.drop_take]; congr 1; have := hN.out; omega
      have hdr : b.drop m = b.drop (1 + partN b) := by rw [hN.out]
      rw [hlist] at ho2
      rw [hdr] at ho3
      have HX := Lib.hid (And.intro (And.intro ((ho2.below hB3).mono_base (base' := w.heap.size) (below_drew w).size) (ho3.mono_base (base' := w.heap.size) hB2.size)) (((below_drew w).trans hB2).trans (hB3.mono hB2.size)))
      clear ho2 ho3 hB2 hB3 hcl hcl2 hlist hdr
      apply rp_pure 8 rfl (by kernel_rfl) (fun _ _ _ h => h) rfl
      · (intro W; go_simp; try rfl)
      · (go_simp; try rfl)
      apply rp_pure 9 rfl (by kernel_rfl) (fun _ _ _ h => h) rfl
      · (intro W; go_simp; try rfl)
      · (go_simp; try rfl)
      apply rp_pure 10 rfl (by kernel_rfl) (fun _ _ _ h => h) rfl
      · (intro W; go_simp; try rfl)
      · (go_simp; try rfl)
      refine rp_done (by kernel_rfl) ?_
      go_wp2
      all_goals
        go_ret3
        exact ⟨.inl ⟨hE.out, _, _, rfl, HX.out.1.1, HX.out.1.2⟩, HX.out.2⟩
end Go.Proofs.Ytpknhpfbinplgaa
end

/-
Package table: whether a table is right.
-/
section
namespace Go.Proofs.Ytpknhpfbinplgaa
open Go.RowKit
attribute [local go_sem ↓] Go.wp_at_zero Go.wp_at_succ

def ev (x : Ent) : Value := .agg #[.int .i64 x.stamp, .int .i64 x.sum, .bool x.lost]
def entOk (x : Ent) : Bool := num32 x.stamp && num32 x.sum
/-- Is one of them lost? -/
def lostAt (l : List Ent) (k : Nat) : Bool := (l[k]?.map Ent.lost).getD true
def okT (g : Geo) (l : List Ent) : Bool := okG g && decide ((l.length : Int) = g.d + 1) && l.all entOk && !lostAt l g.d.toNat

theorem wrong_any (x : Ent) (w : World) : Calls Try.prog 74 #[ev x] w fun e w' => e = .returned (.bool (!entOk x)) ∧ Below w.heap.size w w' := by
  have hB := Lib.hid ((Below.refl w.heap.size w).alloc (Nat.le_refl _) (.cells #[.int .i64 x.stamp, .int .i64 x.sum, .bool x.lost] 110))
  unfold ev
  have c1 := fun w => num_any x.stamp w
  have c2 := fun w => num_any x.sum w
  cases h1 : num32 x.stamp with
  | false =>
    have hE := Lib.hid (show (!entOk x) = true by simp [entOk, h1])
    simp only [h1] at c1
    clear h1 c2
    go_enter Try.func74, Try.ntmps74
    go_wp2_with (go_at_call 75; go_must (with_reducible refine (c1 _).mono ?_); rintro e w' ⟨rfl, rfl⟩)
    go_ret
    rw [hE.out]
    exact ⟨rfl, hB.out⟩
  | true =>
    cases h2 : num32 x.sum with
    | false =>
      have hE := Lib.hid (show (!entOk x) = true by simp [entOk, h1, h2])
      simp only [h1] at c1
      simp only [h2] at c2
      clear h1 h2
      go_enter Try.func74, Try.ntmps74
      go_wp2_with (go_at_call 75; go_must (first | (with_reducible refine (c1 _).mono ?_) | (with_reducible refine (c2 _).mono ?_)); rintro e w' ⟨rfl, rfl⟩)
      go_ret
      rw [hE.out]
      exact ⟨rfl, hB.out⟩
    | true =>
      have hE := Lib.hid (show (!entOk x) = false by simp [entOk, h1, h2])
      simp only [h1] at c1
      simp only [h2] at c2
      clear h1 h2
      go_enter Try.func74, Try.ntmps74
      go_wp2_with (go_at_call 75; go_must (first | (with_reducible refine (c1 _).mono ?_) | (with_reducible refine (c2 _).mono ?_)); rintro e w' ⟨rfl, rfl⟩)
      go_ret
      rw [hE.out]
      exact ⟨rfl, hB.out⟩

/-- The place of the first one of which q holds, or -1. -/
def idxP {α : Type} (q : α → Bool) (l : List α) : Int := match l.findIdx? q with | some k => k | none => -1
theorem idxP_hit {α : Type} {q : α → Bool} {l : List α} {k : Nat} (hk : k < l.length) (h : q l[k] = true) (hA : ∀ j (hj : j < l.length), j < k → q l[j] = false) : idxP q l = k := by
  have : l.findIdx? q = some k := List.findIdx?_eq_some_iff_getElem.2 ⟨hk, h, fun j hj => by rw [hA j (by omega) hj]; simp⟩
  simp [idxP, this]
theorem idxP_miss {α : Type} {q : α → Bool} {l : List α} (hA : ∀ j (hj : j < l.length), q l[j] = false) : idxP q l = -1 := by
  have : l.findIdx? q = none := List.findIdx?_eq_none_iff.2 fun x hx => by
    obtain ⟨j, hj, rfl⟩ := List.getElem_of_mem hx
    exact hA j hj
  simp [idxP, this]
theorem idxP_any {α : Type} (q : α → Bool) (l : List α) : decide (0 ≤ idxP q l) = l.any q := by
  unfold idxP
  cases h : l.findIdx? q with
  | some k =>
    obtain ⟨hk, h1, -⟩ := List.findIdx?_eq_some_iff_getElem.1 h
    have : l.any q = true := List.any_eq_true.2 ⟨_, List.getElem_mem hk, h1⟩
    rw [this]; simp
  | none =>
    have : l.any q = false := by
      rw [List.any_eq_false]
      intro x hx; rw [List.findIdx?_eq_none_iff.1 h x hx]; simp
    rw [this]; rfl

set_option maxHeartbeats 4000000 in
theorem ixE_any (v : Value) (l : List Ent) (w : World) (Mi : Ms) (h : SlR w Mi v l) (hl : l.length ≤ 1000000000) :
    Calls Try.prog 78 #[v, .func (.func 74) #[] #[]] w fun e w' => e = .returned (.int .i64 (idxP (fun x => !entOk x) l)) ∧ Below w.heap.size w w' := by
  obtain ⟨a, c, rfl⟩ := h.form
  have H := Lib.hid h.bare
  clear h
  go_enter Try.func78, Try.ntmps78
  go_wp2
  go_loopg [5, 8] l.length (fun g s5 s8 wr => ∃ k : Nat, s8 = .int .i64 k ∧ k ≤ l.length ∧ l.length - k ≤ g ∧ Hid (Below w.heap.size w wr) ∧ Hid (∀ j (hj : j < l.length), j < k → (!entOk l[j]) = false))
  case atStart => exact ⟨0, rfl, Nat.zero_le _, by omega, Lib.hid (Below.refl _ _), Lib.hid fun j _ hj => absurd hj (Nat.not_lt_zero _)⟩
  case round =>
    obtain ⟨k, rfl, hk, hg, hB, hA⟩ := hrel
    obtain ⟨w0, rfl⟩ : ∃ w0, w0 = wr := ⟨_, rfl⟩
    by_cases hlt : k < l.length
    · obtain ⟨b1, o1, rfl, -, x1, x2, x3⟩ := ent_at (H.out.mono (Keep.below hB.out)) hlt
      have hlt' : (k : Int) < l.length := by omega
      have hc := Lib.hid (wrong_any l[k] w0)
      unfold ev at hc
      cases hq : (!entOk l[k]) with
      | true =>
        have hE := Lib.hid (idxP_hit (q := fun x => !entOk x) hlt hq hA.out)
        rw [hq] at hc
        clear hq
        go_wp2_with (go_at_call 74; go_must (with_reducible refine hc.out.mono ?_); rintro e w' ⟨rfl, hB2⟩)
        go_ret
        rw [hE.out]
        exact ⟨rfl, hB.out.trans (hB2.mono hB.out.size)⟩
      | false =>
        have hE := Lib.hid (show ∀ j (hj : j < l.length), j < k + 1 → (!entOk l[j]) = false from fun j hj hjk => by
          by_cases e : j = k
          · subst e; exact hq
          · exact hA.out j hj (by omega))
        rw [hq] at hc
        clear hq
        go_wp2_with (go_at_call 74; go_must (with_reducible refine hc.out.mono ?_); rintro e w' ⟨rfl, hB2⟩)
        go_roundg (l.length - (k + 1))
        case measure => omega
        case rel => exact ⟨k + 1, by go_num, by omega, by omega, Lib.hid (hB.out.trans (hB2.mono hB.out.size)), hE⟩
    · obtain rfl : k = l.length := by omega
      have hE := Lib.hid (idxP_miss (q := fun x => !entOk x) (fun j hj => hA.out j hj hj))
      go_wp2
      go_ret
      rw [hE.out]
      exact ⟨rfl, hB.out⟩

set_option maxHeartbeats 4000000 in
theorem cfE_any (v : Value) (l : List Ent) (w : World) (Mi : Ms) (h : SlR w Mi v l) (hl : l.length ≤ 1000000000) :
    Calls Try.prog 76 #[v, .func (.func 74) #[] #[]] w fun e w' => e = .returned (.bool (!l.all entOk)) ∧ Below w.heap.size w w' := by
  have hc := Lib.hid (ixE_any v l w Mi h hl)
  have hE := Lib.hid (show (!l.all entOk) = decide (0 ≤ idxP (fun x => !entOk x) l) by rw [idxP_any, List.not_all_eq_any_not])
  obtain ⟨a, c, rfl⟩ := h.form
  rw [hE.out]
  clear h
  go_enter Try.func76, Try.ntmps76
  go_wp2_with (go_at_call 78; go_must (with_reducible refine hc.out.mono ?_); rintro e w' ⟨rfl, hB⟩)
  go_ret
  exact ⟨rfl, hB⟩

set_option maxHeartbeats 4000000 in
theorem tcheck_any (g : Geo) (v : Value) (l : List Ent) (w : World) (Mi : Ms) (h : SlR w Mi v l) (hl : l.length ≤ 1000000) :
    Calls Try.prog 70 #[gv g, .agg #[v]] w fun e w' => e = .returned (errV (okT g l)) ∧ Below w.heap.size w w' := by
  obtain ⟨a, c, rfl⟩ := h.form
  have hb1 := (Below.refl w.heap.size w).alloc (Nat.le_refl _) (.cells #[.int .i64 g.z, .int .i64 g.d, .int .i64 g.sp, .int .i64 g.sl, .int .i64 g.an] 23)
  have hb2 := hb1.alloc (by simp) (.cells #[.slice a l.length c] 89)
  have hG := (Blk.new w 23 #[.int .i64 g.z, .int .i64 g.d, .int .i64 g.sp, .int .i64 g.sl, .int .i64 g.an]).alloc (.cells #[.slice a l.length c] 89)
  have hT := Blk.new (w.alloc (.cells #[.int .i64 g.z, .int .i64 g.d, .int .i64 g.sp, .int .i64 g.sl, .int .i64 g.an] 23)) 89 #[.slice a l.length c]
  simp only [World.size_alloc] at hT
  have HB := Lib.hid hb2
  have HG := Lib.hid hG
  have HT := Lib.hid hT
  have H := Lib.hid (h.bare.mono (Keep.below hb2))
  have hgc := Lib.hid (gcheck_any g ((w.alloc (.cells #[.int .i64 g.z, .int .i64 g.d, .int .i64 g.sp, .int .i64 g.sl, .int .i64 g.an] 23)).alloc (.cells #[.slice a l.length c] 89)))
  unfold gv at hgc ⊢
  clear hb1 hb2 hG hT
  cases hok : okG g with
  | false =>
    have hE := Lib.hid (show okT g l = false by simp [okT, hok])
    rw [hok] at hgc
    clear hok
    unfold errV at hgc
    go_enter Try.func70, Try.ntmps70
    go_wp2_with (go_at_call 33; go_must (with_reducible refine hgc.out.mono ?_); rintro e w1 ⟨rfl, hB1⟩)
    go_ret
    rw [hE.out]
    exact ⟨rfl, HB.out.trans (hB1.mono HB.out.size)⟩
  | true =>
    rw [hok] at hgc
    unfold errV at hgc
    obtain ⟨z, d, sp, sl, an⟩ := g
    obtain ⟨-, hd, -⟩ := okG_iff.1 hok
    obtain ⟨k, rfl⟩ : ∃ k : Nat, d = k := ⟨d.toNat, by simp only at hd; omega⟩
    have hk1 : (1 : Int) ≤ k := hd.1
    have hk2 : (k : Int) ≤ 4 := hd.2
    have hk0 : (0 : Int) ≤ k := by omega
    clear hd
    simp only at hgc HB HG HT H ⊢
    by_cases hn : l.length = k + 1
    · have hn' : ((l.length : Int) != (k : Int) + 1) = false := by simp; omega
      have hN := Lib.hid hn
      clear hn
      have hrest := fun (w1 : World) (hB : Below w.heap.size w w1) => Lib.hid (cfE_any (.slice a l.length c) l w1 noM (h.bare.mono (Keep.below hB)) (by omega))
      cases hw : l.all entOk with
      | false =>
        have hE := Lib.hid (show okT ⟨z, k, sp, sl, an⟩ l = false by simp [okT, hw])
        have Hw := Lib.hid hw
        clear hok hw
        go_enter Try.func70, Try.ntmps70
        go_wp2_with fail
        ((with_reducible refine hgc.out.mono ?_); rintro e w1 ⟨rfl, hB1⟩)
        obtain ⟨g1, g2, g3⟩ := (HG.out.below hB1).all
        obtain ⟨t1, t2, t3⟩ := (HT.out.below hB1).all
        have HB1 := Lib.hid (HB.out.trans (hB1.mono HB.out.size))
        have hcf := hrest w1 HB1.out
        rw [Hw.out] at hcf
        go_wp2_with fail
        ((with_reducible refine hcf.out.mono ?_); rintro e w2 ⟨rfl, hB2⟩)
        go_wp2
        go_ret
        rw [hE.out]
        exact ⟨rfl, HB1.out.trans (hB2.mono HB1.out.size)⟩
      | true =>
        have hE := Lib.hid (show okT ⟨z, k, sp, sl, an⟩ l = !lostAt l k by simp [okT, hw, hok, hN.out])
        have Hw := Lib.hid hw
        have hkl : k < l.length := by have := hN.out; omega
        have hkl' : (k : Int) < l.length := by omega
        have hL := Lib.hid (show lostAt l k = l[k].lost by simp [lostAt, List.getElem?_eq_getElem hkl])
        clear hok hw
        go_enter Try.func70, Try.ntmps70
        go_wp2_with fail
        ((with_reducible refine hgc.out.mono ?_); rintro e w1 ⟨rfl, hB1⟩)
        obtain ⟨g1, g2, g3⟩ := (HG.out.below hB1).all
        obtain ⟨t1, t2, t3⟩ := (HT.out.below hB1).all
        have HB1 := Lib.hid (HB.out.trans (hB1.mono HB.out.size))
        have hcf := hrest w1 HB1.out
        rw [Hw.out] at hcf
        go_wp2_with fail
        ((with_reducible refine hcf.out.mono ?_); rintro e w2 ⟨rfl, hB2⟩)
        have HB2 := Lib.hid (HB1.out.trans (hB2.mono HB1.out.size))
        obtain ⟨G1, G2, G3⟩ := ((HG.out.below hB1).below hB2).all
        obtain ⟨T1, T2, T3⟩ := ((HT.out.below hB1).below hB2).all
        obtain ⟨bb, off, rfl, -, x1, x2, x3⟩ := ent_at (h.bare.mono (Keep.below HB2.out)) hkl
        cases hlo : l[k].lost with
        | false =>
          rw [hlo] at x3
          have hlo' := Lib.hid hlo
          clear hlo
          go_wp2
          go_ret
          rw [hE.out, hL.out, hlo'.out]
          exact ⟨rfl, HB2.out⟩
        | true =>
          rw [hlo] at x3
          have hlo' := Lib.hid hlo
          clear hlo
          go_wp2
          go_ret
          rw [hE.out, hL.out, hlo'.out]
          exact ⟨rfl, HB2.out⟩
    · have hn' : ((l.length : Int) != (k : Int) + 1) = true := by simp; omega
      have hE := Lib.hid (show okT ⟨z, k, sp, sl, an⟩ l = false by
        have : ¬ ((l.length : Int) = (k : Int) + 1) := by omega
        simp [okT, this])
      clear hok hn
      go_enter Try.func70, Try.ntmps70
      go_wp2_with fail
      ((with_reducible refine hgc.out.mono ?_); rintro e w1 ⟨rfl, hB1⟩)
      obtain ⟨g1, g2, g3⟩ := (HG.out.below hB1).all
      obtain ⟨t1, t2, t3⟩ := (HT.out.below hB1).all
      go_wp2
      go_ret
      rw [hE.out]
      exact ⟨rfl, HB.out.trans (hB1.mono HB.out.size)⟩
end Go.Proofs.Ytpknhpfbinplgaa
end

/-
table.Bytes.
-/
section
namespace Go.Proofs.Ytpknhpfbinplgaa
open Go.RowKit
attribute [local go_sem ↓] Go.wp_at_zero Go.wp_at_succ

def lostN (b : Bool) : Int := if b then 1 else 0
def entB (x : Ent) : List UInt8 := rowB [x.stamp, x.sum, lostN x.lost] [4, 4, 1]
def tblB (l : List Ent) : List UInt8 := (l.map entB).flatten
theorem tblB_step {l : List Ent} {k : Nat} (hk : k < l.length) : tblB (l.take (k + 1)) = tblB (l.take k) ++ entB l[k] := by
  unfold tblB
  rw [List.take_add_one, List.getElem?_eq_getElem hk, List.map_append, List.flatten_append]
  simp
theorem entB_len (x : Ent) : (entB x).length = 9 := by simp [entB, tot_rowB, tot]
theorem tblB_len (l : List Ent) : (tblB l).length = 9 * l.length := by
  unfold tblB
  induction l with
  | nil => rfl
  | cons x l ih => simp only [List.map_cons, List.flatten_cons, List.length_append, entB_len, ih, List.length_cons]; omega
theorem num32_iff {n : Int} : num32 n = true ↔ 0 ≤ n ∧ n < 4294967296 := by unfold num32; rw [inB_iff]; omega
theorem ent_fits {x : Ent} (h : entOk x = true) : ∀ k (_ : k < [x.stamp, x.sum, lostN x.lost].length) (b : k < [(4 : Int), 4, 1].length), szOk [(4 : Int), 4, 1][k] ∧ 0 ≤ [x.stamp, x.sum, lostN x.lost][k] ∧ [x.stamp, x.sum, lostN x.lost][k] < limS [(4 : Int), 4, 1][k] := by
  simp only [entOk, Bool.and_eq_true, num32_iff] at h
  intro k a _
  match k, a with
  | 0, _ => exact ⟨.inr (.inr rfl), h.1.1, h.1.2⟩
  | 1, _ => exact ⟨.inr (.inr rfl), h.2.1, h.2.2⟩
  | 2, _ => refine ⟨.inl rfl, ?_, ?_⟩ <;> (simp only [List.getElem_cons_succ, List.getElem_cons_zero]; unfold lostN; split <;> decide)

theorem row_lit (ns ss : List Int) (W : World) (hl : ns.length = ss.length) (hn : ns.length ≤ 1000) (hf : ∀ k (a : k < ns.length) (b : k < ss.length), szOk ss[k] ∧ 0 ≤ ns[k] ∧ ns[k] < limS ss[k]) :
    Calls Try.prog 34 #[.slice (some ⟨W.heap.size, 0, none⟩) ns.length ns.length, .slice (some ⟨W.heap.size + 1, 0, none⟩) ss.length ss.length]
      ((W.alloc (.cells (ns.map (Value.int .i64)).toArray 3)).alloc (.cells (ss.map (Value.int .i64)).toArray 3)) fun e w' =>
      ∃ r, e = .returned (.tuple #[r, .int .i64 0]) ∧ OwR w' noM W.heap.size 5 r (rowB ns ss) ∧ Below W.heap.size W w' := by
  have h1 := (OwR.litI W noM ns hn).alloc (.cells (ss.map (Value.int .i64)).toArray 3)
  have h2 := OwR.litI (W.alloc (.cells (ns.map (Value.int .i64)).toArray 3)) noM ss (by omega)
  have hb := ((Below.refl W.heap.size W).alloc (Nat.le_refl _) (.cells (ns.map (Value.int .i64)).toArray 3)).alloc (by simp) (.cells (ss.map (Value.int .i64)).toArray 3)
  rw [World.size_alloc] at h2
  refine (row_any _ _ ns ss _ noM noM noM (h1.sl fun _ _ h => h) (h2.sl fun _ _ h => h) hl hn hf).mono fun e w' ⟨r, he, ho, hB⟩ => ⟨r, he, ho.mono_base hb.size, hb.trans (hB.mono hb.size)⟩
def TbytesP (w' : World) (base : Nat) (g : Geo) (l : List Ent) (e : Ending) : Prop :=
  (okT g l = true ∧ ∃ v, e = .returned (.tuple #[v, .int .i64 0]) ∧ OwR w' noM base 5 v (tblB l)) ∨ (okT g l = false ∧ e = .returned (.tuple #[.slice none 0 0, .int .i64 1]))

set_option maxRecDepth 100000 in
set_option maxHeartbeats 8000000 in
theorem tbytes_any (g : Geo) (v : Value) (l : List Ent) (w : World) (Mi : Ms) (h : SlR w Mi v l) (hl : l.length ≤ 100000) :
    Calls Try.prog 64 #[gv g, .agg #[v]] w fun e w' => TbytesP w' w.heap.size g l e ∧ Below w.heap.size w w' := by
  obtain ⟨a, c, rfl⟩ := h.form
  have hb1 := (Below.refl w.heap.size w).alloc (Nat.le_refl _) (.cells #[.int .i64 g.z, .int .i64 g.d, .int .i64 g.sp, .int .i64 g.sl, .int .i64 g.an] 23)
  have hb2 := hb1.alloc (by simp) (.cells #[.slice a l.length c] 89)
  have hT := Blk.new (w.alloc (.cells #[.int .i64 g.z, .int .i64 g.d, .int .i64 g.sp, .int .i64 g.sl, .int .i64 g.an] 23)) 89 #[.slice a l.length c]
  simp only [World.size_alloc] at hT
  have HB := Lib.hid hb2
  have HT := Lib.hid hT
  have H := Lib.hid h.bare
  have hck := Lib.hid (tcheck_any g _ l _ noM (h.bare.mono (Keep.below hb2)) (by omega))
  unfold gv at hck ⊢
  clear hb1 hb2 hT h
  cases hok : okT g l with
  | false =>
    have hE := Lib.hid hok
    rw [hok] at hck
    unfold errV at hck
    clear hok
    go_enter Try.func64, Try.ntmps64
    go_wp2_with fail
    ((with_reducible refine hck.out.mono ?_); rintro e w1 ⟨rfl, hB1⟩)
    go_wp2
    go_ret2
    exact ⟨.inr ⟨hE.out, rfl⟩, HB.out.trans (hB1.mono HB.out.size)⟩
  | true =>
    have hE := Lib.hid hok
    have hall : Hid (∀ x ∈ l, entOk x = true) := Lib.hid (by
      simp only [okT, Bool.and_eq_true, List.all_eq_true] at hok
      exact hok.1.2)
    rw [hok] at hck
    unfold errV at hck
    clear hok
    go_enter Try.func64, Try.ntmps64
    go_wp2_with fail
    ((with_reducible refine hck.out.mono ?_); rintro e w1 ⟨rfl, hB1⟩)
    obtain ⟨t1, t2, t3⟩ := (HT.out.below hB1).all
    have HB1 := Lib.hid (HB.out.trans (hB1.mono HB.out.size))
    clear hB1
    go_wp2
    clear t1 t2 t3
    go_loopg [7, 22] l.length (fun g s7 s22 wr => ∃ k : Nat, s22 = .int .i64 k ∧ k ≤ l.length ∧ l.length - k ≤ g ∧ Hid (OwR wr noM w.heap.size 5 s7 (tblB (l.take k)) ∧ Below w.heap.size w wr))
    case atStart => exact ⟨0, rfl, Nat.zero_le _, by omega, Lib.hid ⟨OwR.nil _ _ _ _, HB1.out⟩⟩
    case round =>
      obtain ⟨k, rfl, hkl, hg, hI⟩ := hrel
      obtain ⟨w0, rfl⟩ : ∃ w0, w0 = wr := ⟨_, rfl⟩
      by_cases hlt : k < l.length
      · obtain ⟨ho, hB⟩ := hI.out
        obtain ⟨b1, o1, rfl, -, x1, x2, x3⟩ := ent_at (H.out.mono (Keep.below hB)) hlt
        have hlt' : (k : Int) < l.length := by omega
        have hst := Lib.hid (tblB_step hlt)
        have hfit := Lib.hid (ent_fits (hall.out l[k] (List.getElem_mem hlt)))
        have hol := tblB_len (l.take k)
        rw [List.length_take] at hol
        have hol := Lib.hid hol
        have HO := Lib.hid ho
        have HB0 := Lib.hid hB
        clear ho hB hI
        cases hlo : l[k].lost with
        | false =>
          rw [hlo] at x3
          have hrow := row_lit [l[k].stamp, l[k].sum, lostN l[k].lost] [4, 4, 1] (w0.alloc (.cells #[.int .i64 l[k].stamp, .int .i64 l[k].sum, .bool l[k].lost] 110)) rfl (by simp) hfit.out
          have hlB := (Below.refl w0.heap.size w0).alloc (Nat.le_refl _) (.cells #[.int .i64 l[k].stamp, .int .i64 l[k].sum, .bool l[k].lost] 110)
          have hen := Lib.hid (show rowB [l[k].stamp, l[k].sum, lostN l[k].lost] [4, 4, 1] = entB l[k] from rfl)
          rw [hen.out, hlo] at hrow
          rw [hlo] at hlB
          simp only [lostN, List.map_cons, List.map_nil, List.length_cons, List.length_nil, Nat.reduceAdd, Bool.false_eq_true, if_true, if_false, World.size_alloc] at hrow
          have hrow := Lib.hid hrow
          have hlB := Lib.hid hlB
          clear hlo
          have hel := entB_len l[k]
          have hbd : (tblB (l.take k)).length + (entB l[k]).length ≤ 1000000000 := by rw [hol.out, hel]; omega
          clear hel
          obtain ⟨eb, heb⟩ : ∃ eb, eb = entB l[k] := ⟨_, rfl⟩
          rw [← heb] at hrow hst hbd
          clear heb hen
          go_wp2_with fail
          ((with_reducible refine hrow.out.mono ?_); rintro e w2 ⟨r2, rfl, ho2, hB2⟩)
          have HB2 := Lib.hid (hlB.out.trans (hB2.mono (Nat.le_succ _)))
          have O7 := Lib.hid (HO.out.below HB2.out)
          have HB3 := Lib.hid (HB0.out.trans (HB2.out.mono HB0.out.size))
          have ho2 := ho2.mono_base (Nat.le_succ _)
          obtain ⟨A2, C2, rfl⟩ := ho2.form
          have hS := Lib.hid (show SlR w2 (fun b => noM b ∨ u7.ownBlock = some b) (.slice A2 eb.length C2) eb from (OwR.pl plU ho2).sl' (fun b hb hm => hm.elim (fun h => h) (fun h => by have a1 := HO.out.own_lt h; have a2 := ho2.own_ge hb; omega)))
          clear ho2 hB2 hrow
          go_wp2_with (at_builtin; go_must (refine wpList_append_R (α := UInt8) (M := noM) (base := w.heap.size) (l := tblB (l.take k)) (m := eb) rfl (by rfl) tyB (by rfl) O7.out (by rfl) hS.out hbd HB3.out.size ?_); intro v4 w4 ho4 hg4 hat4)
          go_roundg (l.length - (k + 1))
          case measure => omega
          case rel => exact ⟨k + 1, by go_num, by omega, by omega, Lib.hid ⟨by rw [hst.out]; exact ho4, HB3.out.grown hg4 HB3.out.size (fun b e => O7.out.own_ge e)⟩⟩
        | true =>
          rw [hlo] at x3
          have hrow := row_lit [l[k].stamp, l[k].sum, lostN l[k].lost] [4, 4, 1] (w0.alloc (.cells #[.int .i64 l[k].stamp, .int .i64 l[k].sum, .bool l[k].lost] 110)) rfl (by simp) hfit.out
          have hlB := (Below.refl w0.heap.size w0).alloc (Nat.le_refl _) (.cells #[.int .i64 l[k].stamp, .int .i64 l[k].sum, .bool l[k].lost] 110)
          have hen := Lib.hid (show rowB [l[k].stamp, l[k].sum, lostN l[k].lost] [4, 4, 1] = entB l[k] from rfl)
          rw [hen.out, hlo] at hrow
          rw [hlo] at hlB
          simp only [lostN, List.map_cons, List.map_nil, List.length_cons, List.length_nil, Nat.reduceAdd, Bool.false_eq_true, if_true, if_false, World.size_alloc] at hrow
          have hrow := Lib.hid hrow
          have hlB := Lib.hid hlB
          clear hlo
          have hel := entB_len l[k]
          have hbd : (tblB (l.take k)).length + (entB l[k]).length ≤ 1000000000 := by rw [hol.out, hel]; omega
          clear hel
          obtain ⟨eb, heb⟩ : ∃ eb, eb = entB l[k] := ⟨_, rfl⟩
          rw [← heb] at hrow hst hbd
          clear heb hen
          go_wp2_with fail
          ((with_reducible refine hrow.out.mono ?_); rintro e w2 ⟨r2, rfl, ho2, hB2⟩)
          have HB2 := Lib.hid (hlB.out.trans (hB2.mono (Nat.le_succ _)))
          have O7 := Lib.hid (HO.out.below HB2.out)
          have HB3 := Lib.hid (HB0.out.trans (HB2.out.mono HB0.out.size))
          have ho2 := ho2.mono_base (Nat.le_succ _)
          obtain ⟨A2, C2, rfl⟩ := ho2.form
          have hS := Lib.hid (show SlR w2 (fun b => noM b ∨ u7.ownBlock = some b) (.slice A2 eb.length C2) eb from (OwR.pl plU ho2).sl' (fun b hb hm => hm.elim (fun h => h) (fun h => by have a1 := HO.out.own_lt h; have a2 := ho2.own_ge hb; omega)))
          clear ho2 hB2 hrow
          go_wp2_with (at_builtin; go_must (refine wpList_append_R (α := UInt8) (M := noM) (base := w.heap.size) (l := tblB (l.take k)) (m := eb) rfl (by rfl) tyB (by rfl) O7.out (by rfl) hS.out hbd HB3.out.size ?_); intro v4 w4 ho4 hg4 hat4)
          go_roundg (l.length - (k + 1))
          case measure => omega
          case rel => exact ⟨k + 1, by go_num, by omega, by omega, Lib.hid ⟨by rw [hst.out]; exact ho4, HB3.out.grown hg4 HB3.out.size (fun b e => O7.out.own_ge e)⟩⟩
      · obtain rfl : k = l.length := by omega
        rw [List.take_length] at hI
        go_wp2
        go_ret2
        exact ⟨.inl ⟨hE.out, _, rfl, hI.out.1⟩, hI.out.2⟩
end Go.Proofs.Ytpknhpfbinplgaa
end

/-
bytes.Equal.
-/
section
namespace Go.Proofs.Ytpknhpfbinplgaa
open Go.RowKit
attribute [local go_sem ↓] Go.wp_at_zero Go.wp_at_succ

/-- What `string(b)` is. -/
theorem conv_any (v : Value) (l : List UInt8) (w : World) (Mi : Ms) (h : SlR w Mi v l) : (convert 24 9 v).run Try.prog w = .ok (.string (strOfNums (l.map fun x => (x.toNat : Int)))) w := by
  by_cases hl : l = []
  · subst hl
    obtain ⟨a, c, rfl⟩ := h.form
    rw [List.length_nil, run_convert_bytes_string w 24 9 5 _ 0 c Try.underlying24 Try.underlying5 Try.underlying9]
    cases a <;> simp [Conv.bytesToString, loadCells]
    all_goals rfl
  · have hpos : 0 < l.length := List.length_pos_iff.2 hl
    obtain ⟨a, c, rfl⟩ := h.form
    obtain ⟨b, off, rfl, -, -⟩ := u8_at h hpos
    refine run_convert_bytes_arg (P := Try.prog) w 24 5 Try.underlying24 Try.underlying5 b off l.length c _ (by simp) (fun i hi => ?_) 9 Try.underlying9
    obtain ⟨b', off', e, -, x⟩ := u8_at h hi
    cases e
    rw [x, List.getD_eq_getElem?_getD, List.getElem?_map, List.getElem?_eq_getElem hi]
    rfl
theorem strOf_list (l : List UInt8) : Lib.bytesOf (l.map fun x => (x.toNat : Int)) = l := by
  unfold Lib.bytesOf
  rw [List.map_map]
  conv => rhs; rw [← List.map_id l]
  apply List.map_congr_left
  intro x _
  simp

set_option maxHeartbeats 1000000 in
theorem equal_any (v1 v2 : Value) (l1 l2 : List UInt8) (w : World) (M1 M2 : Ms) (h1 : SlR w M1 v1 l1) (h2 : SlR w M2 v2 l2) :
    Calls Try.prog 40 #[v1, v2] w fun e w' => e = .returned (.bool (decide (l1 = l2))) ∧ w' = w := by
  have c1 := conv_any v1 l1 w M1 h1
  have c2 := conv_any v2 l2 w M2 h2
  have hE : decide (l1 = l2) = (Lib.bytesOf (l1.map fun x => (x.toNat : Int)) == Lib.bytesOf (l2.map fun x => (x.toNat : Int))) := by rw [strOf_list, strOf_list]; by_cases h : l1 = l2 <;> simp [h]
  rw [hE, ← Lib.strOfNums_toList, ← Lib.strOfNums_toList]
  obtain ⟨s1, hs1⟩ : ∃ s, s = strOfNums (l1.map fun x => (x.toNat : Int)) := ⟨_, rfl⟩
  obtain ⟨s2, hs2⟩ : ∃ s, s = strOfNums (l2.map fun x => (x.toNat : Int)) := ⟨_, rfl⟩
  rw [← hs1] at c1 ⊢
  rw [← hs2] at c2 ⊢
  clear hE hs1 hs2 h1 h2
  go_enter Try.func40, Try.ntmps40
  go_wp2
  go_ret
  exact ⟨rfl, rfl⟩
end Go.Proofs.Ytpknhpfbinplgaa
end
