/-
Several texts in one.
-/
import Derived.Test.YteecmgonbdbhdaaGreatDoorComP5
import Derived.Test.YteecmgonbdbhdaaGreatDoorComP1
import Derived.Test.YteecmgonbdbhdaaGreatDoorComP4
import Derived.Test.YteecmgonbdbhdaaGreatDoorComP3

/-
Package casematekeep: readings, writes, transactions compared and copied.
-/
section
namespace Go.Proofs.YteecmgonbdbhdaaGreatDoor.A
open Go.RowKit

theorem tx_ext {x y : Tx} (h1 : x.seq = y.seq) (h2 : x.pos = y.pos) (h3 : x.n = y.n) (h4 : x.images = y.images) : x = y := by
  cases x; cases y; simp_all
theorem txns_fn (l m : List Tx) (hl : l.length ≤ 1000000000) (hb : ∀ t ∈ l, t.images.length ≤ 1000000000 ∧ ∀ x ∈ t.images, x.bytes.length ≤ 100000000000) : Fn Tryz.prog 14 [txsA l, txsA m] fun r => r = .v (.bool (decide (l = m))) := by
  refine Fn.of tys_ok Tryz.func14 rfl rfl (Nat.le_of_ble_eq_true rfl) ?_
  conv => whnf
  refine boolI (fun h => ?_) (fun h => ?_) <;> (repeat rw [Int.toNat_natCast] at h) <;> conv => whnf
  · exact ⟨_, fun _ _ h => h, by rw [decide_eq_false (fun e => h (by rw [e]))]⟩
  refine aLoop.rule Nat (fun k => ([(0, txsA l), (1, txsA m), (5, .v (.int .i64 k))], [])) (fun k => k ≤ l.length ∧ l.take k = m.take k) (fun k => l.length - k) 0 ⟨Nat.zero_le _, by simp⟩ ⟨[], trivial, ⟨rfl, rfl, rfl, trivial⟩, trivial, rfl, rfl, rfl⟩ ?_
  rintro k ⟨hk, hI⟩
  conv => whnf
  refine boolI (fun h2 => ?_) (fun h2 => ?_) <;> (repeat rw [Int.toNat_natCast] at h2) <;> conv => whnf
  · have hm := hb _ (getD_mem (d := ⟨0, 0, 0, []⟩) (show k < l.length by omega))
    refine aDraw.seq tys_ok mixed (by kernel_rfl) ?_
    conv => whnf
    repeat' (first | (refine aSeq.go ?_; conv => whnf) | (refine boolI (fun _ => ?_) (fun _ => ?_) <;> conv => whnf) | (refine Fn.closed (images_fn (l.getD k ⟨0, 0, 0, []⟩).images (m.getD k ⟨0, 0, 0, []⟩).images hm.1 hm.2) rfl ?_; rintro _ rfl; conv => whnf) | (refine And.intro (by first | omega | exact of_decide_eq_true rfl) ?_; conv => whnf) | fail)
    all_goals first
      | exact ⟨_, fun _ _ h => h, by rw [decide_eq_false (ne_of_getD (fun e => absurd (congrArg Tx.seq e) ‹_›))]⟩
      | exact ⟨_, fun _ _ h => h, by rw [decide_eq_false (ne_of_getD (fun e => absurd (congrArg Tx.pos e) ‹_›))]⟩
      | exact ⟨_, fun _ _ h => h, by rw [decide_eq_false (ne_of_getD (fun e => absurd (congrArg Tx.n e) ‹_›))]⟩
      | exact ⟨_, fun _ _ h => h, by rw [decide_eq_false (ne_of_getD (fun e => absurd (congrArg Tx.images e) ‹_›))]⟩
      | exact ⟨k + 1, ⟨by omega, take_succ_eq hI (by omega) (by omega) (tx_ext ‹_› ‹_› ‹_› ‹_›)⟩, by omega, ⟨[], trivial, ⟨rfl, rfl, wsucc (by omega), trivial⟩, trivial, rfl, rfl, rfl⟩⟩
  · exact ⟨_, fun _ _ h => h, by rw [decide_eq_true (eq_of_take hI (by omega) (by omega))]⟩
theorem twingots_fn (l : List Gt) (hl : l.length ≤ 1000000) (hb : ∀ x ∈ l, x.bytes.length ≤ 1000000000) : Fn Tryz.prog 7 [gotsA l] fun r => r = gotsA l := by
  refine Fn.of tys_ok Tryz.func7 rfl rfl (Nat.le_of_ble_eq_true rfl) ?_
  conv => whnf
  refine aLoop.rule Nat (fun k => ([(0, gotsA l), (3, .ow 0 k), (4, .v (.int .i64 k))], [.row 54 2 ((l.take k).map gotC)])) (fun k => k ≤ l.length) (fun k => l.length - k) 0 (Nat.zero_le _) ⟨[(3, 54, 2)], ⟨rfl, rfl, trivial⟩, ⟨rfl, rfl, rfl, trivial⟩, ⟨rfl, trivial⟩, rfl, rfl, rfl⟩ ?_
  rintro k hk
  conv => whnf
  refine boolI (fun h2 => ?_) (fun h2 => ?_) <;> (repeat rw [Int.toNat_natCast] at h2) <;> conv => whnf
  · refine aDraw.seq tys_ok mixed (by kernel_rfl) ?_
    conv => whnf
    repeat' (first | (refine aSeq.go ?_; conv => whnf) | (refine boolI (fun _ => ?_) (fun _ => ?_) <;> conv => whnf) | (refine Fn.closed (twin_fn (l.getD k ⟨0, []⟩).bytes (hb _ (getD_mem (by omega)))) rfl ?_; rintro _ rfl; conv => whnf) | (refine And.intro (by first | omega | exact of_decide_eq_true rfl) ?_; conv => whnf) | fail)
    refine And.intro ⟨by simp; omega, by omega⟩ ?_
    conv => whnf
    exact ⟨k + 1, by omega, by omega, [], trivial, ⟨rfl, rfl, wsucc (by omega), trivial⟩, ⟨congrArg (AB.row _ _) (take_map_succ h2), trivial⟩, rfl, rfl, rfl⟩
  · refine ⟨by simp; omega, ?_⟩
    conv => whnf
    exact ⟨gotsA l, fun c v h => Rd.congr (by omega) (fun i hi => take_map_getD (by omega) (by omega)) h, rfl⟩
end Go.Proofs.YteecmgonbdbhdaaGreatDoor.A
end

/-
The law PairOthers.
-/
section
namespace Go.Proofs.YteecmgonbdbhdaaGreatDoor.A
open Go.RowKit

end Go.Proofs.YteecmgonbdbhdaaGreatDoor.A
end

/-
The law PairElder.
-/
section
namespace Go.Proofs.YteecmgonbdbhdaaGreatDoor.A
open Go.RowKit

theorem heavyA_no {a : An} (h : heavyA a = false) : a.homes.length ≤ 10 ∧ a.label.size ≤ 200 := by
  simp only [heavyA, Bool.or_eq_false_iff, decide_eq_false_iff_not] at h
  omega
end Go.Proofs.YteecmgonbdbhdaaGreatDoor.A
end

/-
The law PairExact.
-/
section
namespace Go.Proofs.YteecmgonbdbhdaaGreatDoor.A
open Go.RowKit

theorem row_sub {α : Type} {f : α → List AV} {d : α} {sz : Nat} {es : List (List AV)} {n : Nat} (l : List α) (hn : n = l.length) (he : es = l.map f) (c : Ctx) (u : Value) (h : Rd (.sl sz n fun i => es.getD i []) c u) : Rd (.sl sz l.length fun i => f (l.getD i d)) c u :=
  Rd.congr hn (fun i hi => by rw [he, map_getD (d := d) (by omega)]) h
theorem saysR_none {g : Geo} {x : Gt} {copy slot : Int} (h : (okG g && okL g copy slot) = false) : saysR g x copy slot = none := by
  unfold saysR
  rw [h]
  rfl
end Go.Proofs.YteecmgonbdbhdaaGreatDoor.A
end

/-
A log gone through, in plain terms: record, transaction, scan.
-/
section
namespace Go.Proofs.YteecmgonbdbhdaaGreatDoor.A
open Go.RowKit

theorem saysR_ok {g : Geo} {x : Gt} {copy slot : Int} {r : Rc} (h : saysR g x copy slot = some r) : okR g r = true ∧ okL g copy slot = true ∧ r.img.bytes.length ≤ 59 := by
  unfold saysR at h
  split at h
  · rename_i hc
    simp only [Bool.and_eq_true] at hc
    split at h
    · rename_i r' hr
      split at h
      · injection h with h
        subst h
        obtain ⟨h1, h2⟩ := readR_some hr
        have h3 := recB_short h1
        have h4 := recB_len h1
        refine ⟨h1, hc.1.1.1.2, ?_⟩
        by_cases hk : r'.kind = 1
        · rw [if_pos hk] at h4
          omega
        · have : r'.img.bytes.length = 0 := by
            unfold okR behOk at h1
            simp only [Bool.and_eq_true] at h1
            have h5 := h1.2
            split at h5
            · simp only [noneB, Bool.and_eq_true, beq_iff_eq] at h5
              omega
            · split at h5
              · simp only [noneB, Bool.and_eq_true, beq_iff_eq] at h5
                omega
              · cases h5
          omega
      · cases h
    · cases h
  · cases h
theorem lookT_facts {p q : Option Rc} {b1 b2 : Bool} {Q : Rc → Prop} (h1 : b1 = true → ∃ r, p = some r ∧ Q r) (h2 : b2 = true → ∃ r, q = some r ∧ Q r) :
    ((lookT p q b1 b2).2.2 = 1 ∧ Q (lookT p q b1 b2).1 ∧ (lookT p q b1 b2).2.1.length ≤ 1 ∧ ∀ c ∈ (lookT p q b1 b2).2.1, c = 0 ∨ c = 1) ∨ (((lookT p q b1 b2).2.2 = 2 ∨ (lookT p q b1 b2).2.2 = 3) ∧ (lookT p q b1 b2).2.1 = [] ∧ (lookT p q b1 b2).1 = zeroC) := by
  unfold lookT
  cases b1 <;> cases b2
  · by_cases h : (p.isSome || q.isSome) = true
    · simp [h]
    · simp [h]
  · obtain ⟨r, rfl, hr⟩ := h2 rfl
    exact .inl ⟨rfl, hr, by simp, by simp⟩
  · obtain ⟨r, rfl, hr⟩ := h1 rfl
    exact .inl ⟨rfl, hr, by simp, by simp⟩
  · obtain ⟨r, rfl, hr⟩ := h1 rfl
    exact .inl ⟨rfl, hr, by simp, by simp⟩
theorem one_says {g : Geo} {a : An} {x : Gt} {c slot seq at_ of_ left : Int} (h : oneO (saysR g x c slot) a seq at_ of_ left = true) : ∃ r, saysR g x c slot = some r ∧ okR g r = true ∧ r.img.bytes.length ≤ 59 ∧ isOne r a seq at_ of_ left = true := by
  cases hp : saysR g x c slot with
  | none => rw [hp] at h; cases h
  | some r =>
    rw [hp] at h
    obtain ⟨e1, -, e3⟩ := saysR_ok hp
    exact ⟨r, rfl, e1, e3, h⟩
theorem lookR_facts {g : Geo} {a : An} {x y : Gt} {slot seq at_ of_ left : Int} (hs : 0 ≤ slot ∧ slot < g.sl) :
    ((lookR g a x y slot seq at_ of_ left).2.2 = 1 ∧ (okR g (lookR g a x y slot seq at_ of_ left).1 = true ∧ (lookR g a x y slot seq at_ of_ left).1.img.bytes.length ≤ 59 ∧ isOne (lookR g a x y slot seq at_ of_ left).1 a seq at_ of_ left = true) ∧ (lookR g a x y slot seq at_ of_ left).2.1.length ≤ 1 ∧ ∀ c ∈ (lookR g a x y slot seq at_ of_ left).2.1, okL g c slot = true) ∨
    (((lookR g a x y slot seq at_ of_ left).2.2 = 2 ∨ (lookR g a x y slot seq at_ of_ left).2.2 = 3) ∧ (lookR g a x y slot seq at_ of_ left).2.1 = [] ∧ (lookR g a x y slot seq at_ of_ left).1 = zeroC) := by
  have hi : inB slot 0 (g.sl - 1) = true := inB_iff.2 (by omega)
  have o0 : okL g 0 slot = true := by rw [okL, hi]; rfl
  have o1 : okL g 1 slot = true := by rw [okL, hi]; rfl
  refine (lookT_facts (Q := fun r => okR g r = true ∧ r.img.bytes.length ≤ 59 ∧ isOne r a seq at_ of_ left = true) one_says one_says).imp (fun h => ⟨h.1, h.2.1, h.2.2.1, fun c hc => ?_⟩) id
  rcases h.2.2.2 c hc with rfl | rfl
  · exact o0
  · exact o1
def gz : Gt := ⟨0, []⟩
/-- A record is looked for: the record, how it went, what is wanting. -/
def slotM (g : Geo) (pos at_ : Int) : Int := (IntKind.i64.wrap (pos + at_)).tmod g.sl
def recM (g : Geo) (a : An) (x y : List Gt) (pos seq left at_ of_ : Int) : Rc × Int × List Wr :=
  let s := slotM g pos at_
  let q := lookR g a (x.getD s.toNat gz) (y.getD s.toNat gz) s seq at_ of_ left
  (q.1, q.2.2, q.2.1.map fun c => ⟨logAt g c s, cellB g q.1 c s⟩)
def gatherM (look : Int → Rc × Int × List Wr) : Nat → Int → Rc → List Img → List Wr → Int × List Img × List Wr
  | 0, _, r, im, w => (1, if r.kind = 1 then im ++ [r.img] else im, w)
  | f + 1, at_, r, im, w =>
    let q := look at_
    if q.2.1 ≠ 1 then (q.2.1, [], []) else gatherM look f (at_ + 1) q.1 (if r.kind = 1 then im ++ [r.img] else im) (w ++ q.2.2)
/-- The next transaction: how it went, its number of records, its images, what is to be written. -/
def txnM (g : Geo) (a : An) (x y : List Gt) (pos seq left : Int) : Int × Int × List Img × List Wr :=
  let q := recM g a x y pos seq left 0 0
  if q.2.1 ≠ 1 then (q.2.1, 0, [], []) else
    let t := gatherM (fun k => recM g a x y pos seq left k q.1.of_) (q.1.of_ - 1).toNat 1 q.1 [] q.2.2
    if t.1 ≠ 1 then (t.1, 0, [], []) else (1, q.1.of_, t.2.1, t.2.2)
def scanL (g : Geo) (a : An) (x y : List Gt) : Nat → Int → Int → Int → List Tx → List Wr → Option (List Tx × List Wr × Int)
  | 0, _, seq, _, l, w => some (l, w, seq)
  | f + 1, pos, seq, left, l, w =>
    if 0 < left ∧ seq ≤ 4294967295 then
      let t := txnM g a x y pos seq left
      if t.1 = 3 then none else if t.1 ≠ 1 then some (l, w, seq)
      else scanL g a x y f ((pos + t.2.1).tmod g.sl) (seq + 1) (left - t.2.1) (l ++ [⟨seq, pos, t.2.1, t.2.2.1⟩]) (w ++ t.2.2.2)
    else some (l, w, seq)
def damaged : Int := 12
def finM (a : An) : Option (List Tx × List Wr × Int) → List Tx × List Wr × Int
  | none => ([], [], damaged)
  | some (l, w, seq) => if seq - 1 < a.last then ([], [], damaged) else (l, w, 0)
theorem finM_pos {a : An} {l : List Tx} {w : List Wr} {seq : Int} (h : seq - 1 < a.last) : finM a (some (l, w, seq)) = ([], [], damaged) := if_pos h
theorem finM_neg {a : An} {l : List Tx} {w : List Wr} {seq : Int} (h : ¬ seq - 1 < a.last) : finM a (some (l, w, seq)) = (l, w, 0) := if_neg h
def scanM (g : Geo) (a : An) (x y : List Gt) : List Tx × List Wr × Int := finM a (scanL g a x y g.sl.toNat a.pos a.seq g.sl [] [])
end Go.Proofs.YteecmgonbdbhdaaGreatDoor.A
end

/-
Results that are the caller's own: rows that nobody else has.
-/
section
namespace Go.Proofs.YteecmgonbdbhdaaGreatDoor.A
open Go.RowKit

def open0 (x : AV) (H R : List AB) (k : AV → List AB → List AB → Prop) : Prop :=
  match x with
  | .v u => k (.v u) H R
  | .sl sz n get => k (.sl sz n get) H R
  | .ow j n => match hget H j with
    | some (.row t sz es) => setK j .dead H fun H => snocK R (.row t sz es) 0 fun i R => k (.ow i n) H R
    | _ => False
  | _ => False
def openC : List AV → List AB → List AB → (List AV → List AB → List AB → Prop) → Prop
  | [], H, R, k => k [] H R
  | x :: l, H, R, k => open0 x H R fun x H R => openC l H R fun l H R => k (x :: l) H R
def open1 (x : AV) (H R : List AB) (k : AV → List AB → List AB → Prop) : Prop :=
  match x with
  | .ag cs => openC cs H R fun cs H R => k (.ag cs) H R
  | x => open0 x H R k
def openL : List AV → List AB → List AB → (List AV → List AB → List AB → Prop) → Prop
  | [], H, R, k => k [] H R
  | x :: l, H, R, k => open1 x H R fun x H R => openL l H R fun l H R => k (x :: l) H R
def openR (x : AV) (H : List AB) (k : AV → List AB → Prop) : Prop :=
  match x with
  | .tp l => openL l H [] fun l _ R => k (.tp l) R
  | x => open1 x H [] fun x _ R => k x R

section
variable {w0 : Fl} {M0 : Ms} {c cr : Ctx} {H R : List AB}
theorem HS.kill (h : HS w0 M0 c H) (k : Nat) : HS w0 M0 c (H.set k .dead) := by
  have hget : ∀ j y, (H.set k .dead)[j]? = some y → y.live = true → j ≠ k ∧ H[j]? = some y := by
    intro j y hj hl
    by_cases hjk : j = k
    · subst hjk
      by_cases hlt : j < H.length
      · rw [List.getElem?_set_self hlt] at hj
        cases hj; cases hl
      · rw [List.getElem?_eq_none (by simp; omega)] at hj; cases hj
    · rw [List.getElem?_set_ne (Ne.symm hjk)] at hj
      exact ⟨hjk, hj⟩
  refine ⟨h.low, h.base, by simp [h.dom], h.foreign, h.lt, fun j y hj => ?_, fun j y g hj hl ho => ?_, fun i j y z g hi hj hly hlz hoi hoj => ?_⟩
  · cases hy : y.live with
    | false => cases y <;> simp [AB.live] at hy; trivial
    | true => exact h.blk j y (hget j y hj hy).2
  · exact h.own j y g (hget j y hj hl).2 hl ho
  · exact h.dis i j y z g (hget i y hi hly).2 (hget j z hj hlz).2 hly hlz hoi hoj

/-- How far the handing over has come. -/
structure OpenSt (w0 : Fl) (M0 : Ms) (c : Ctx) (H : List AB) (cr : Ctx) (R : List AB) : Prop where
  hs : HS w0 M0 c H
  hr : HS w0 M0 cr R
  w : cr.w = c.w
  M : cr.M = c.M
  dis : ∀ i k x y g, R[i]? = some x → H[k]? = some y → x.live = true → y.live = true → oB (cr.rho i) = some g → oB (c.rho k) = some g → False
  rows : ∀ x ∈ R, ∃ t sz es, x = .row t sz es
theorem OpenSt.ext (h : OpenSt w0 M0 c H cr R) : Ext c.closed cr :=
  ⟨by simp [Ctx.closed, h.w], by simp [Ctx.closed, h.w], by simp [Ctx.closed, h.w], by simp [Ctx.closed, h.w], fun b _ hm => ⟨by rw [h.M]; exact hm, by simp [Ctx.closed, h.w]⟩, Nat.zero_le _, fun k hk => absurd hk (Nat.not_lt_zero k), fun k hk => absurd hk (Nat.not_lt_zero k), fun k _ hk => absurd hk (Nat.not_lt_zero k)⟩
theorem OpenSt.take (h : OpenSt w0 M0 c H cr R) {j : Nat} {t : TypeId} {sz : Nat} {es : List (List AV)} (hj : H[j]? = some (.row t sz es)) :
    ∃ cr', OpenSt w0 M0 c (H.set j .dead) cr' (R ++ [.row t sz es]) ∧ Ext cr cr' ∧ ∀ n u, Rd (.ow j n) c u → Rd (.ow R.length n) cr' u := by
  let cr' : Ctx := { cr with dom := cr.dom + 1, rho := fun k => if k = cr.dom then c.rho j else cr.rho k, len := fun k => if k = cr.dom then c.len j else cr.len k }
  have hrho : ∀ k, k < cr.dom → cr'.rho k = cr.rho k := fun k hk => by simp only [cr']; rw [if_neg (by omega)]
  have hlen : ∀ k, k < cr.dom → cr'.len k = cr.len k := fun k hk => by simp only [cr']; rw [if_neg (by omega)]
  have hrd : cr'.rho cr.dom = c.rho j := by simp [cr']
  have hrl : cr'.len cr.dom = c.len j := by simp [cr']
  have e : Ext cr cr' := ⟨rfl, rfl, rfl, Nat.le_refl _, fun _ _ hm => ⟨hm, rfl⟩, Nat.le_succ _, fun k hk => by rw [hlen k hk]; exact Nat.le_refl _, fun k hk _ => hrho k hk, fun k g hk hg => by rw [hrho k hk]; exact hg⟩
  have hget : ∀ k y, (R ++ [AB.row t sz es])[k]? = some y → (k < cr.dom ∧ R[k]? = some y) ∨ (k = cr.dom ∧ y = .row t sz es) := by
    intro k y hk
    rw [h.hr.dom]
    rcases Nat.lt_trichotomy k R.length with hlt | rfl | hgt
    · rw [List.getElem?_append_left hlt] at hk; exact .inl ⟨hlt, hk⟩
    · simp at hk; exact .inr ⟨rfl, hk.symm⟩
    · rw [List.getElem?_eq_none (by simp; omega)] at hk; cases hk
  have hset : ∀ k y, (H.set j .dead)[k]? = some y → y.live = true → k ≠ j ∧ H[k]? = some y := by
    intro k y hk hl
    by_cases hjk : k = j
    · subst hjk
      rw [List.getElem?_set_self (List.getElem?_eq_some_iff.1 hj).1] at hk
      cases hk; cases hl
    · rw [List.getElem?_set_ne (Ne.symm hjk)] at hk
      exact ⟨hjk, hk⟩
  have hcl : Ext c.closed cr'.closed := ⟨by simp [Ctx.closed, cr', h.w], by simp [Ctx.closed, cr', h.w], by simp [Ctx.closed, cr', h.w], by simp [Ctx.closed, cr', h.w], fun b _ hm => ⟨by simp only [Ctx.closed, cr']; rw [h.M]; exact hm, by simp [Ctx.closed, cr', h.w]⟩, Nat.zero_le _, fun k hk => absurd hk (Nat.not_lt_zero k), fun k hk => absurd hk (Nat.not_lt_zero k), fun k _ hk => absurd hk (Nat.not_lt_zero k)⟩
  refine ⟨cr', ⟨h.hs.kill j, ⟨h.hr.low, h.hr.base, by simp [cr', h.hr.dom], h.hr.foreign, h.hr.lt, fun k y hk => ?_, fun k y g hk hl ho => ?_, fun i k y z g hi hk hly hlz hoi hok => ?_⟩, h.w, h.M, fun i k x y g hi hk hlx hly hoi hok => ?_, fun x hx => ?_⟩, e, fun n u hu => ?_⟩
  · rcases hget k y hk with ⟨hlt, hk'⟩ | ⟨rfl, rfl⟩
    · exact BlkOk.ext e rfl hlt (hlen k hlt) (fun _ _ _ => rfl) (h.hr.blk k y hk')
    · obtain ⟨h1, h2, h3, xs, h4, h5, h6⟩ := h.hs.blk j _ hj
      refine ⟨by rw [hrl]; exact h1, h2, h3, xs, ?_, RdL.ext _ hcl h5, h6⟩
      rw [hrd, show cr'.w = c.w from h.w, show cr'.base = c.base from h.hr.base.trans h.hs.base.symm]
      exact h4
  · rcases hget k y hk with ⟨hlt, hk'⟩ | ⟨rfl, rfl⟩
    · rw [hrho k hlt] at ho
      exact h.hr.own k y g hk' hl ho
    · rw [hrd] at ho
      have := h.hs.own j _ g hj rfl ho
      exact ⟨by show cr.M g; rw [h.M]; exact this.1, this.2⟩
  · rcases hget i y hi with ⟨hlt, hi'⟩ | ⟨rfl, rfl⟩ <;> rcases hget k z hk with ⟨hlt2, hk'⟩ | ⟨rfl, rfl⟩
    · rw [hrho i hlt] at hoi
      rw [hrho k hlt2] at hok
      exact h.hr.dis i k y z g hi' hk' hly hlz hoi hok
    · rw [hrho i hlt] at hoi
      rw [hrd] at hok
      exact (h.dis i j y _ g hi' hj hly rfl hoi hok).elim
    · rw [hrd] at hoi
      rw [hrho k hlt2] at hok
      exact (h.dis k j z _ g hk' hj hlz rfl hok hoi).elim
    · rfl
  · obtain ⟨hkj, hk'⟩ := hset k y hk hly
    rcases hget i x hi with ⟨hlt, hi'⟩ | ⟨rfl, rfl⟩
    · rw [hrho i hlt] at hoi
      exact h.dis i k x y g hi' hk' hlx hly hoi hok
    · rw [hrd] at hoi
      exact hkj (h.hs.dis k j y _ g hk' hj hly rfl hok hoi)
  · rcases List.mem_append.1 hx with hx | hx
    · exact h.rows x hx
    · exact ⟨t, sz, es, by simpa using hx⟩
  · simp only [Rd] at hu ⊢
    obtain ⟨_, q2, q3, q4⟩ := hu
    rw [← h.hr.dom]
    exact ⟨Nat.lt_succ_self _, by rw [hrl]; exact q2, q3, by rw [hrl, hrd]; exact q4⟩
theorem open0_sound (h : OpenSt w0 M0 c H cr R) {x : AV} {u : Value} (hr : Rd x c u) {k : AV → List AB → List AB → Prop} (hk : open0 x H R k) :
    ∃ x' H' cr' R', k x' H' R' ∧ OpenSt w0 M0 c H' cr' R' ∧ Ext cr cr' ∧ Rd x' cr' u := by
  unfold open0 at hk
  split at hk
  · exact ⟨_, H, cr, R, hk, h, Ext.refl _, by simpa [Rd] using hr⟩
  · refine ⟨_, H, cr, R, hk, h, Ext.refl _, Rd.ext _ h.ext ?_⟩
    simp only [Rd] at hr ⊢
    exact hr
  · rename_i j n
    rw [hget_eq] at hk
    split at hk
    · rename_i t sz es hj
      have hk := snocK_iff (setK_iff hk)
      rw [Nat.zero_add] at hk
      obtain ⟨cr', q1, q2, q3⟩ := h.take hj
      exact ⟨_, _, cr', _, hk, q1, q2, q3 n u hr⟩
    · exact hk.elim
  · exact hk.elim
theorem openC_sound : ∀ {l : List AV} {H R : List AB} {cr : Ctx} (_ : OpenSt w0 M0 c H cr R) {us : List Value} (_ : RdL l c us) {k : List AV → List AB → List AB → Prop} (_ : openC l H R k),
    ∃ l' H' cr' R', k l' H' R' ∧ OpenSt w0 M0 c H' cr' R' ∧ Ext cr cr' ∧ RdL l' cr' us
  | [], H, R, cr, h, us, hr, k, hk => ⟨[], H, cr, R, hk, h, Ext.refl _, by simp only [RdL] at hr ⊢; exact hr⟩
  | x :: l, H, R, cr, h, us, hr, k, hk => by
    simp only [RdL] at hr
    obtain ⟨u, us, rfl, h1, h2⟩ := hr
    simp only [openC] at hk
    obtain ⟨x', H1, c1, R1, q1, q2, q3, q4⟩ := open0_sound h h1 hk
    obtain ⟨l', H2, c2, R2, p1, p2, p3, p4⟩ := openC_sound q2 h2 q1
    exact ⟨_, H2, c2, R2, p1, p2, q3.trans p3, by simp only [RdL]; exact ⟨u, us, rfl, Rd.ext _ p3 q4, p4⟩⟩
theorem open1_sound (h : OpenSt w0 M0 c H cr R) {x : AV} {u : Value} (hr : Rd x c u) {k : AV → List AB → List AB → Prop} (hk : open1 x H R k) :
    ∃ x' H' cr' R', k x' H' R' ∧ OpenSt w0 M0 c H' cr' R' ∧ Ext cr cr' ∧ Rd x' cr' u := by
  unfold open1 at hk
  split at hk
  · simp only [Rd] at hr
    obtain ⟨xs, rfl, hx⟩ := hr
    obtain ⟨l', H2, c2, R2, p1, p2, p3, p4⟩ := openC_sound h hx hk
    exact ⟨_, H2, c2, R2, p1, p2, p3, by simp only [Rd]; exact ⟨xs, rfl, p4⟩⟩
  · exact open0_sound h hr hk
theorem openL_sound : ∀ {l : List AV} {H R : List AB} {cr : Ctx} (_ : OpenSt w0 M0 c H cr R) {us : List Value} (_ : RdL l c us) {k : List AV → List AB → List AB → Prop} (_ : openL l H R k),
    ∃ l' H' cr' R', k l' H' R' ∧ OpenSt w0 M0 c H' cr' R' ∧ Ext cr cr' ∧ RdL l' cr' us
  | [], H, R, cr, h, us, hr, k, hk => ⟨[], H, cr, R, hk, h, Ext.refl _, by simp only [RdL] at hr ⊢; exact hr⟩
  | x :: l, H, R, cr, h, us, hr, k, hk => by
    simp only [RdL] at hr
    obtain ⟨u, us, rfl, h1, h2⟩ := hr
    simp only [openL] at hk
    obtain ⟨x', H1, c1, R1, q1, q2, q3, q4⟩ := open1_sound h h1 hk
    obtain ⟨l', H2, c2, R2, p1, p2, p3, p4⟩ := openL_sound q2 h2 q1
    exact ⟨_, H2, c2, R2, p1, p2, q3.trans p3, by simp only [RdL]; exact ⟨u, us, rfl, Rd.ext _ p3 q4, p4⟩⟩
/-- Nothing is handed over yet. -/
def ctxR (c : Ctx) : Ctx := { c with dom := 0 }
theorem OpenSt.begin (h : HS w0 M0 c H) : OpenSt w0 M0 c H (ctxR c) [] :=
  ⟨h, ⟨h.low, h.base, rfl, h.foreign, h.lt, by simp, by simp, by simp⟩, rfl, rfl, by simp, by simp⟩
theorem openR_sound (h : HS w0 M0 c H) {x : AV} {u : Value} (hr : Rd x c u) {k : AV → List AB → Prop} (hk : openR x H k) :
    ∃ x' cr R, k x' R ∧ cr.w = c.w ∧ HS w0 M0 cr R ∧ Rd x' cr u ∧ ∀ y ∈ R, ∃ t sz es, y = .row t sz es := by
  unfold openR at hk
  split at hk
  · simp only [Rd] at hr
    obtain ⟨xs, rfl, hx⟩ := hr
    obtain ⟨l', H2, c2, R2, p1, p2, p3, p4⟩ := openL_sound (OpenSt.begin h) hx hk
    exact ⟨_, c2, R2, p1, p2.w, p2.hr, by simp only [Rd]; exact ⟨xs, rfl, p4⟩, p2.rows⟩
  · obtain ⟨x', H2, c2, R2, p1, p2, p3, p4⟩ := open1_sound (OpenSt.begin h) hr hk
    exact ⟨_, c2, R2, p1, p2.w, p2.hr, p4, p2.rows⟩
end

/-- A function that writes nothing of its caller's and hands over rows. -/
structure FnO (P : Program) (f : FuncId) (args : List AV) (K : AV → List AB → Prop) : Prop where
  go : IsGo P f
  calls : ∀ (c0 : Ctx) (us : List Value) (hg : globOk c0.w), c0.dom = 0 → (∀ b, c0.M b → b < c0.w.heap.size) → RdL args c0 us →
    Calls P f us.toArray c0.w fun e w' => ∃ v r c' R, e = .returned v ∧ K r R ∧ c'.w = w' ∧ HS (Fl.all c0.w hg) c0.M c' R ∧ Rd r c' v ∧ ∀ y ∈ R, ∃ t sz es, y = .row t sz es
theorem FnO.mono {P : Program} {f : FuncId} {args : List AV} {K K' : AV → List AB → Prop} (h : FnO P f args K) (hk : ∀ r R, K r R → K' r R) : FnO P f args K' :=
  ⟨h.1, fun c0 us hg h1 h2 h3 => (h.2 c0 us hg h1 h2 h3).mono fun _ _ ⟨v, r, c', R, h4, h5, h6⟩ => ⟨v, r, c', R, h4, hk _ _ h5, h6⟩⟩
def finO (T : Tys) (rs : List ResultVar) (K : AV → List AB → Prop) : QA := fun ex fr H => match ex with
  | .exit _ => False
  | _ => retK T rs fr H fun x => openR x H K
theorem FnO.of {P : Program} {T : Tys} (hT : TOk P T) {f : FuncId} {fn : Func} {body : Code} {args : List AV} {K : AV → List AB → Prop} (hf : P.funcs[f]? = some fn) (hb : fn.body = some body) (hname : (fn.name == "runtime.NumGoroutine") = false) (hn : args.length ≤ fn.ntmps)
    (h : aCode P T fn.ntmps 0 body (finO T fn.results.toList K) (frOf 0 args) []) : FnO P f args K := by
  refine ⟨⟨fn, hf, by rw [hb]; rfl, hname⟩, fun c0 us hg hd hM hr => ?_⟩
  refine calls_of_wp hf hb ?_
  let ce : Ctx := { c0 with base := 0 }
  have hce : Ext c0 ce := ⟨rfl, rfl, rfl, Nat.le_refl _, fun _ _ h => ⟨h, rfl⟩, Nat.le_refl _, fun _ _ => Nat.le_refl _, fun _ _ _ => rfl, fun _ _ _ h => h⟩
  have hHS : HS (Fl.all c0.w hg) c0.M ce [] := ⟨LowF.refl _ hg, rfl, hd, fun _ _ => Iff.rfl, hM, by simp, by simp, by simp⟩
  have hlen := hr.length
  have hFR : FR ce fn.ntmps (frOf 0 args) { tmps := us.toArray ++ Array.replicate (fn.ntmps - us.toArray.size) undef, defers := [] } := by
    refine ⟨by simp; omega, rfl, fun i => ?_⟩
    have := frOf_rd (c := ce) (m := fn.ntmps - us.length) (l := args) (i := 0) (pre := []) rfl (RdL.ext _ hce hr) i
    rw [Array.getD_eq_getD_getElem?]
    have e : (us.toArray ++ Array.replicate (fn.ntmps - us.toArray.size) undef)[i]? = ([] ++ us ++ List.replicate (fn.ntmps - us.length) undef)[i]? := by
      have : (us.toArray ++ Array.replicate (fn.ntmps - us.toArray.size) undef) = ([] ++ us ++ List.replicate (fn.ntmps - us.length) undef).toArray := Array.ext' (by simp)
      rw [this]; simp only [List.getElem?_toArray]
    rw [e]
    exact this
  refine aCode_sound (w0 := Fl.all c0.w hg) (M0 := c0.M) (ce := ce) hT hd body _ _ ce _ [] _ ?_ hHS hFR (Ext.refl _) h
  have fin : ∀ a w, Lift (Fl.all c0.w hg) c0.M ce fn.ntmps (fun fr H => retK T fn.results.toList fr H fun x => openR x H K) a w → a.defers = [] ∧ ∃ v, (results fn a.tmps).run P w = .ok v w ∧ ∃ v' r c' R, Ending.returned v = .returned v' ∧ K r R ∧ c'.w = w ∧ HS (Fl.all c0.w hg) c0.M c' R ∧ Rd r c' v' ∧ ∀ y ∈ R, ∃ t sz es, y = .row t sz es := by
    rintro a w ⟨c, fr, H, rfl, h1, h2, h3, h4⟩
    obtain ⟨x, v, q1, q2, q3⟩ := retK_sound hT h2 h3 h1
    obtain ⟨r, cr, R, p1, p2, p3, p4, p5⟩ := openR_sound h2 q2 q1
    exact ⟨h3.defers, v, q3, v, r, cr, R, rfl, p1, p2, p3, p4, p5⟩
  intro e a w hl
  cases e with
  | normal => exact fin a w hl
  | ret => exact fin a w hl
  | exit id =>
    obtain ⟨c, fr, H, _, h1, _⟩ := hl
    exact h1.elim
  | _ => exact hl.elim

mutual
def AV.shift (d : Nat) : AV → AV
  | .ow k n => .ow (k + d) n
  | .bp k o => .bp (k + d) o
  | .ep k n i sz off => .ep (k + d) n i sz off
  | .ag l => .ag (AV.shiftL d l)
  | .tp l => .tp (AV.shiftL d l)
  | .fn f l => .fn f (AV.shiftL d l)
  | .top => .top
  | .v x => .v x
  | .sl sz n get => .sl sz n get
  | .rp cs => .rp cs
def AV.shiftL (d : Nat) : List AV → List AV
  | [] => []
  | x :: l => x.shift d :: AV.shiftL d l
end
/-- Two contexts beside each other. -/
def Ctx.beside (c c' : Ctx) : Ctx := { w := c'.w, base := c.base, M := c'.M, dom := c.dom + c'.dom, rho := fun k => if k < c.dom then c.rho k else c'.rho (k - c.dom), len := fun k => if k < c.dom then c.len k else c'.len (k - c.dom) }
theorem Ext.closedBeside (c c' : Ctx) : Ext c'.closed (c.beside c').closed := ⟨rfl, rfl, rfl, Nat.le_refl _, fun _ _ h => ⟨h, rfl⟩, Nat.zero_le _, fun k hk => absurd hk (Nat.not_lt_zero k), fun k hk => absurd hk (Nat.not_lt_zero k), fun k _ hk => absurd hk (Nat.not_lt_zero k)⟩
mutual
theorem Rd.shift : ∀ (x : AV) {c c' : Ctx} {u : Value}, Rd x c' u → Rd (x.shift c.dom) (c.beside c') u
  | .top, _, _, _, _ => by simp [AV.shift, Rd]
  | .v _, _, _, _, h => by simpa [AV.shift, Rd] using h
  | .sl sz n get, c, c', u, h => by
    simp only [AV.shift, Rd] at h ⊢
    obtain ⟨a, k, rfl, h1, h2, h3⟩ := h
    refine ⟨a, k, rfl, h1, h2, h3.imp id ?_⟩
    rintro ⟨b, off, rfl, hm, hb, hc⟩
    exact ⟨b, off, rfl, hm, hb, fun i hi => ⟨(hc i hi).1, RdAt.ext (get i) (Ext.closedBeside c c') hb hm (hc i hi).2⟩⟩
  | .rp cs, c, c', u, h => by
    simp only [AV.shift, Rd] at h ⊢
    obtain ⟨b, off, rfl, hm, hb, hc⟩ := h
    exact ⟨b, off, rfl, hm, hb, RdAt.ext cs (Ext.closedBeside c c') hb hm hc⟩
  | .bp k off, c, c', u, h => by
    simp only [AV.shift, Rd] at h ⊢
    obtain ⟨h1, g, h2, h3⟩ := h
    refine ⟨by simp only [Ctx.beside]; omega, g, ?_, h3⟩
    simp only [Ctx.beside]
    rw [if_neg (by omega), Nat.add_sub_cancel]
    exact h2
  | .ow k n, c, c', u, h => by
    simp only [AV.shift, Rd] at h ⊢
    obtain ⟨h1, h2, h3, h4⟩ := h
    have e1 : (c.beside c').len (k + c.dom) = c'.len k := by simp only [Ctx.beside]; rw [if_neg (by omega), Nat.add_sub_cancel]
    have e2 : (c.beside c').rho (k + c.dom) = c'.rho k := by simp only [Ctx.beside]; rw [if_neg (by omega), Nat.add_sub_cancel]
    rw [e1, e2]
    exact ⟨by simp only [Ctx.beside]; omega, h2, h3, h4⟩
  | .ep k n i sz off, c, c', u, h => by
    simp only [AV.shift, Rd] at h ⊢
    obtain ⟨h1, h2, h3⟩ := h
    have e1 : (c.beside c').len (k + c.dom) = c'.len k := by simp only [Ctx.beside]; rw [if_neg (by omega), Nat.add_sub_cancel]
    have e2 : (c.beside c').rho (k + c.dom) = c'.rho k := by simp only [Ctx.beside]; rw [if_neg (by omega), Nat.add_sub_cancel]
    rw [e1, e2]
    exact ⟨by simp only [Ctx.beside]; omega, h2, h3⟩
  | .ag l, c, c', u, h => by
    simp only [AV.shift, Rd] at h ⊢
    obtain ⟨xs, rfl, h1⟩ := h
    exact ⟨xs, rfl, RdL.shift l h1⟩
  | .tp l, c, c', u, h => by
    simp only [AV.shift, Rd] at h ⊢
    obtain ⟨xs, rfl, h1⟩ := h
    exact ⟨xs, rfl, RdL.shift l h1⟩
  | .fn f l, c, c', u, h => by
    simp only [AV.shift, Rd] at h ⊢
    obtain ⟨xs, rfl, h1⟩ := h
    exact ⟨xs, rfl, RdL.shift l h1⟩
theorem RdL.shift : ∀ (l : List AV) {c c' : Ctx} {us : List Value}, RdL l c' us → RdL (AV.shiftL c.dom l) (c.beside c') us
  | [], _, _, _, h => by simp only [AV.shiftL, RdL] at h ⊢; exact h
  | x :: l, c, c', us, h => by
    simp only [AV.shiftL, RdL] at h ⊢
    obtain ⟨u, us, rfl, h1, h2⟩ := h
    exact ⟨u, us, rfl, Rd.shift x h1, RdL.shift l h2⟩
end
theorem HS.beside {w0 : Fl} {M0 : Ms} {c c' : Ctx} {H R : List AB} (h : HS w0 M0 c H) {hg : globOk c.w} (k : HS (Fl.all c.w hg) c.M c' R) (hR : ∀ y ∈ R, ∃ t sz es, y = .row t sz es) :
    HS w0 M0 (c.beside c') (H ++ R) ∧ Ext c (c.beside c') := by
  have hsz := h.low.size
  have e : Ext c (c.beside c') := by
    refine ⟨k.low.os, k.low.tape, k.low.output, k.low.size, fun b hb hm => ⟨fun hm' => hm ((k.foreign b hb).1 hm'), k.low.block b hb⟩, Nat.le_add_right _ _, fun i hi => ?_, fun i hi _ => ?_, fun i g hi hg => ?_⟩
    · simp only [Ctx.beside]; rw [if_pos hi]; exact Nat.le_refl _
    · simp only [Ctx.beside]; rw [if_pos hi]
    · simp only [Ctx.beside]; rw [if_pos hi]; exact hg
  have hrho : ∀ i, i < c.dom → (c.beside c').rho i = c.rho i := fun i hi => by simp only [Ctx.beside]; rw [if_pos hi]
  have hrho2 : ∀ i, ¬ i < c.dom → (c.beside c').rho i = c'.rho (i - c.dom) := fun i hi => by simp only [Ctx.beside]; rw [if_neg hi]
  have hget : ∀ i y, (H ++ R)[i]? = some y → (i < c.dom ∧ H[i]? = some y) ∨ (¬ i < c.dom ∧ R[i - c.dom]? = some y) := by
    intro i y hi
    rw [h.dom]
    by_cases hlt : i < H.length
    · rw [List.getElem?_append_left hlt] at hi; exact .inl ⟨hlt, hi⟩
    · rw [List.getElem?_append_right (by omega)] at hi; exact .inr ⟨hlt, hi⟩
  refine ⟨⟨h.low.trans k.low.below, h.base, by simp [Ctx.beside, h.dom, k.dom], fun b hb => ?_, k.lt, fun i y hi => ?_, fun i y g hi hl ho => ?_, fun i j y z g hi hj hly hlz hoi hoj => ?_⟩, e⟩
  · exact (k.foreign b (Nat.lt_of_lt_of_le (w0.lt b hb) hsz)).trans (h.foreign b hb)
  · rcases hget i y hi with ⟨hlt, hi'⟩ | ⟨hge, hi'⟩
    · exact BlkOk.ext e rfl hlt (by simp only [Ctx.beside]; rw [if_pos hlt]) (fun g hl ho => k.low.block g (h.sub hi' hl ho)) (h.blk i y hi')
    · obtain ⟨t, sz, es, rfl⟩ := hR y (List.mem_of_getElem? hi')
      obtain ⟨h1, h2, h3, xs, h4, h5, h6⟩ := k.blk _ _ hi'
      refine ⟨by simp only [Ctx.beside]; rw [if_neg hge]; exact h1, h2, h3, xs, ?_, RdL.ext _ (Ext.closedBeside c c') h5, h6⟩
      rw [hrho2 i hge]
      refine ⟨h4.1, h4.2.imp id ?_⟩
      rintro ⟨g, cap, cur, q1, q2, q3⟩
      refine ⟨g, cap, cur, q1, ?_, q3⟩
      show c.base ≤ g
      rw [h.base]; exact Nat.zero_le _
  · rcases hget i y hi with ⟨hlt, hi'⟩ | ⟨hge, hi'⟩
    · rw [hrho i hlt] at ho
      have := h.own i y g hi' hl ho
      exact ⟨(k.foreign g (h.lt g this.1)).2 this.1, this.2⟩
    · rw [hrho2 i hge] at ho
      have := k.own _ y g hi' hl ho
      exact ⟨this.1, fun ho => this.2 (Nat.lt_of_lt_of_le (w0.lt g ho) hsz)⟩
  · rcases hget i y hi with ⟨hlt, hi'⟩ | ⟨hge, hi'⟩ <;> rcases hget j z hj with ⟨hlt2, hj'⟩ | ⟨hge2, hj'⟩
    · rw [hrho i hlt] at hoi
      rw [hrho j hlt2] at hoj
      exact h.dis i j y z g hi' hj' hly hlz hoi hoj
    · rw [hrho i hlt] at hoi
      rw [hrho2 j hge2] at hoj
      have h1 := h.sub hi' hly hoi
      exact ((k.own _ z g hj' hlz hoj).2 h1).elim
    · rw [hrho2 i hge] at hoi
      rw [hrho j hlt2] at hoj
      have h1 := h.sub hj' hlz hoj
      exact ((k.own _ y g hi' hly hoi).2 h1).elim
    · rw [hrho2 i hge] at hoi
      rw [hrho2 j hge2] at hoj
      have := k.dis _ _ y z g hi' hj' hly hlz hoi hoj
      omega
def appK : List AB → List AB → Nat → (Nat → List AB → Prop) → Prop
  | [], R, n, k => k n R
  | y :: r, R, n, k => appK r R (n + 1) fun m l => k m (y :: l)
theorem appK_iff : ∀ {H R : List AB} {n : Nat} {k : Nat → List AB → Prop}, appK H R n k → k (n + H.length) (H ++ R)
  | [], _, _, _, h => h
  | y :: r, R, n, k, h => by
    simp only [appK] at h
    have := appK_iff h
    rw [List.length_cons, show n + (r.length + 1) = n + 1 + r.length by omega]
    exact this
theorem FnO.call {P : Program} {f : FuncId} {args : List AV} {H : List AB} {K : AV → List AB → Prop} {q : Bool} {k : AV → List AB → Prop} (h : FnO P f args K) (hc : AV.ltL args 0 = true) (hk : ∀ r R, K r R → appK H R 0 fun d H => forceK (r.shift d) fun r => k r H) : ACalls P q f args H k := by
  refine ⟨h.go, fun w0 M0 c us hs0 hr => ?_⟩
  have hcut : Cut c c.closed := ⟨Ext.refl _, fun k hk => absurd hk (Nat.not_lt_zero k)⟩
  refine (h.calls c.closed us hs0.glob rfl hs0.lt (RdL.cut args hcut hc hr)).mono ?_
  rintro e w' ⟨v, r, c', R, rfl, q1, rfl, q2, q3, q4⟩
  obtain ⟨p1, p2⟩ := hs0.beside (c' := c') q2 q4
  have h1 := forceK_iff (appK_iff (hk r R q1))
  rw [Nat.zero_add, ← hs0.dom] at h1
  exact ⟨v, c.beside c', _, _, rfl, rfl, h1, p1, p2, Rd.shift r q3, fun _ => q2.low.below.old⟩
end Go.Proofs.YteecmgonbdbhdaaGreatDoor.A
end

/-
Calls that write own memory of their caller's: contracts by their own numbering of blocks, and how a caller takes them.
-/
section
namespace Go.Proofs.YteecmgonbdbhdaaGreatDoor.A
open Go.RowKit

mutual
def AV.ren (f : Nat → Nat) : AV → AV
  | .ow k n => .ow (f k) n
  | .bp k o => .bp (f k) o
  | .ep k n i sz off => .ep (f k) n i sz off
  | .ag l => .ag (AV.renL f l)
  | .tp l => .tp (AV.renL f l)
  | .fn p l => .fn p (AV.renL f l)
  | .top => .top
  | .v x => .v x
  | .sl sz n get => .sl sz n get
  | .rp cs => .rp cs
def AV.renL (f : Nat → Nat) : List AV → List AV
  | [] => []
  | x :: l => x.ren f :: AV.renL f l
end
def AB.ren (f : Nat → Nat) : AB → AB
  | .box t cs => .box t (AV.renL f cs)
  | .row t sz es => .row t sz es
  | .iter s pos => .iter s pos
  | .dead => .dead
theorem AB.ren_live (f : Nat → Nat) (x : AB) : (x.ren f).live = x.live := by cases x <;> rfl

mutual
theorem Rd.ren {f : Nat → Nat} {c c' : Ctx} (hf : ∀ k, k < c.dom → f k < c'.dom ∧ c'.rho (f k) = c.rho k ∧ c'.len (f k) = c.len k) (e : Ext c.closed c'.closed) : ∀ (x : AV) {u : Value}, Rd x c u → Rd (x.ren f) c' u
  | .top, _, _ => by simp [AV.ren, Rd]
  | .v _, _, h => by simpa [AV.ren, Rd] using h
  | .sl sz n get, u, h => by
    simp only [AV.ren, Rd] at h ⊢
    obtain ⟨a, k, rfl, h1, h2, h3⟩ := h
    refine ⟨a, k, rfl, h1, h2, h3.imp id ?_⟩
    rintro ⟨b, off, rfl, hm, hb, hc⟩
    exact ⟨b, off, rfl, (e.keep b hb hm).1, Nat.lt_of_lt_of_le hb e.size, fun i hi => ⟨(hc i hi).1, RdAt.ext (get i) e hb hm (hc i hi).2⟩⟩
  | .rp cs, u, h => by
    simp only [AV.ren, Rd] at h ⊢
    obtain ⟨b, off, rfl, hm, hb, hc⟩ := h
    exact ⟨b, off, rfl, (e.keep b hb hm).1, Nat.lt_of_lt_of_le hb e.size, RdAt.ext cs e hb hm hc⟩
  | .bp k off, u, h => by
    simp only [AV.ren, Rd] at h ⊢
    obtain ⟨h1, g, h2, h3⟩ := h
    obtain ⟨q1, q2, q3⟩ := hf k h1
    exact ⟨q1, g, by rw [q2]; exact h2, h3⟩
  | .ow k n, u, h => by
    simp only [AV.ren, Rd] at h ⊢
    obtain ⟨h1, h2, h3, h4⟩ := h
    obtain ⟨q1, q2, q3⟩ := hf k h1
    rw [q2, q3]
    exact ⟨q1, h2, h3, h4⟩
  | .ep k n i sz off, u, h => by
    simp only [AV.ren, Rd] at h ⊢
    obtain ⟨h1, h2, h3⟩ := h
    obtain ⟨q1, q2, q3⟩ := hf k h1
    rw [q2, q3]
    exact ⟨q1, h2, h3⟩
  | .ag l, u, h => by
    simp only [AV.ren, Rd] at h ⊢
    obtain ⟨xs, rfl, h1⟩ := h
    exact ⟨xs, rfl, RdL.ren hf e l h1⟩
  | .tp l, u, h => by
    simp only [AV.ren, Rd] at h ⊢
    obtain ⟨xs, rfl, h1⟩ := h
    exact ⟨xs, rfl, RdL.ren hf e l h1⟩
  | .fn p l, u, h => by
    simp only [AV.ren, Rd] at h ⊢
    obtain ⟨xs, rfl, h1⟩ := h
    exact ⟨xs, rfl, RdL.ren hf e l h1⟩
theorem RdL.ren {f : Nat → Nat} {c c' : Ctx} (hf : ∀ k, k < c.dom → f k < c'.dom ∧ c'.rho (f k) = c.rho k ∧ c'.len (f k) = c.len k) (e : Ext c.closed c'.closed) : ∀ (l : List AV) {us : List Value}, RdL l c us → RdL (AV.renL f l) c' us
  | [], _, h => by simp only [AV.renL, RdL] at h ⊢; exact h
  | x :: l, us, h => by
    simp only [AV.renL, RdL] at h ⊢
    obtain ⟨u, us, rfl, h1, h2⟩ := h
    exact ⟨u, us, rfl, Rd.ren hf e x h1, RdL.ren hf e l h2⟩
end
mutual
theorem Rd.unren {f : Nat → Nat} {c c' : Ctx} (hf : ∀ k, k < c'.dom → c'.rho k = c.rho (f k) ∧ c'.len k = c.len (f k)) (e : Ext c.closed c'.closed) : ∀ (x : AV) {u : Value}, x.lt c'.dom = true → Rd (x.ren f) c u → Rd x c' u
  | .top, _, _, _ => by simp [Rd]
  | .v _, _, _, h => by simpa [AV.ren, Rd] using h
  | .sl sz n get, u, _, h => by
    simp only [AV.ren, Rd] at h ⊢
    obtain ⟨a, k, rfl, h1, h2, h3⟩ := h
    refine ⟨a, k, rfl, h1, h2, h3.imp id ?_⟩
    rintro ⟨b, off, rfl, hm, hb, hc⟩
    exact ⟨b, off, rfl, (e.keep b hb hm).1, Nat.lt_of_lt_of_le hb e.size, fun i hi => ⟨(hc i hi).1, RdAt.ext (get i) e hb hm (hc i hi).2⟩⟩
  | .rp cs, u, _, h => by
    simp only [AV.ren, Rd] at h ⊢
    obtain ⟨b, off, rfl, hm, hb, hc⟩ := h
    exact ⟨b, off, rfl, (e.keep b hb hm).1, Nat.lt_of_lt_of_le hb e.size, RdAt.ext cs e hb hm hc⟩
  | .bp k off, u, hl, h => by
    simp only [AV.lt, Nat.blt_eq] at hl
    simp only [AV.ren, Rd] at h ⊢
    obtain ⟨h1, g, h2, h3⟩ := h
    obtain ⟨q2, q3⟩ := hf k hl
    exact ⟨hl, g, by rw [q2]; exact h2, h3⟩
  | .ow k n, u, hl, h => by
    simp only [AV.lt, Nat.blt_eq] at hl
    simp only [AV.ren, Rd] at h ⊢
    obtain ⟨h1, h2, h3, h4⟩ := h
    obtain ⟨q2, q3⟩ := hf k hl
    rw [q2, q3]
    exact ⟨hl, h2, h3, h4⟩
  | .ep k n i sz off, u, hl, h => by
    simp only [AV.lt, Nat.blt_eq] at hl
    simp only [AV.ren, Rd] at h ⊢
    obtain ⟨h1, h2, h3⟩ := h
    obtain ⟨q2, q3⟩ := hf k hl
    rw [q2, q3]
    exact ⟨hl, h2, h3⟩
  | .ag l, u, hl, h => by
    simp only [AV.lt] at hl
    simp only [AV.ren, Rd] at h ⊢
    obtain ⟨xs, rfl, h1⟩ := h
    exact ⟨xs, rfl, RdL.unren hf e l hl h1⟩
  | .tp l, u, hl, h => by
    simp only [AV.lt] at hl
    simp only [AV.ren, Rd] at h ⊢
    obtain ⟨xs, rfl, h1⟩ := h
    exact ⟨xs, rfl, RdL.unren hf e l hl h1⟩
  | .fn p l, u, hl, h => by
    simp only [AV.lt] at hl
    simp only [AV.ren, Rd] at h ⊢
    obtain ⟨xs, rfl, h1⟩ := h
    exact ⟨xs, rfl, RdL.unren hf e l hl h1⟩
theorem RdL.unren {f : Nat → Nat} {c c' : Ctx} (hf : ∀ k, k < c'.dom → c'.rho k = c.rho (f k) ∧ c'.len k = c.len (f k)) (e : Ext c.closed c'.closed) : ∀ (l : List AV) {us : List Value}, AV.ltL l c'.dom = true → RdL (AV.renL f l) c us → RdL l c' us
  | [], _, _, h => by simp only [AV.renL, RdL] at h ⊢; exact h
  | x :: l, us, hl, h => by
    simp only [AV.ltL, Bool.and_eq_true] at hl
    simp only [AV.renL, RdL] at h ⊢
    obtain ⟨u, us, rfl, h1, h2⟩ := h
    exact ⟨u, us, rfl, Rd.unren hf e x hl.1 h1, RdL.unren hf e l hl.2 h2⟩
end

/-- Where a block of the callee's numbering stands with the caller. -/
def ixm : List Nat → Nat → Nat → Nat
  | [], d, i => d + i
  | x :: _, _, 0 => x
  | _ :: r, d, i + 1 => ixm r d i
theorem ixm_or : ∀ (s : List Nat) (d i : Nat), (i < s.length ∧ ixm s d i ∈ s) ∨ (s.length ≤ i ∧ ixm s d i = d + (i - s.length))
  | [], d, i => .inr ⟨Nat.zero_le _, by simp [ixm]⟩
  | x :: r, d, 0 => .inl ⟨by simp, by simp [ixm]⟩
  | x :: r, d, i + 1 => by
    rcases ixm_or r d i with ⟨h1, h2⟩ | ⟨h1, h2⟩
    · exact .inl ⟨by simp; omega, by simp only [ixm]; exact List.mem_cons_of_mem _ h2⟩
    · exact .inr ⟨by simp; omega, by simp only [ixm, h2, List.length_cons]; omega⟩
theorem ixm_inj : ∀ {s : List Nat} {d i j : Nat}, s.Nodup → (∀ x ∈ s, x < d) → ixm s d i = ixm s d j → i = j
  | [], d, i, j, _, _, h => by simp only [ixm] at h; omega
  | x :: r, d, 0, 0, _, _, _ => rfl
  | x :: r, d, 0, j + 1, hn, hb, h => by
    simp only [ixm] at h
    have hx := hb x (by simp)
    rcases ixm_or r d j with ⟨_, h2⟩ | ⟨_, h2⟩
    · rw [← h] at h2; exact ((List.nodup_cons.1 hn).1 h2).elim
    · omega
  | x :: r, d, i + 1, 0, hn, hb, h => by
    simp only [ixm] at h
    have hx := hb x (by simp)
    rcases ixm_or r d i with ⟨_, h2⟩ | ⟨_, h2⟩
    · rw [h] at h2; exact ((List.nodup_cons.1 hn).1 h2).elim
    · omega
  | x :: r, d, i + 1, j + 1, hn, hb, h => by
    simp only [ixm] at h
    rw [ixm_inj (List.nodup_cons.1 hn).2 (fun y hy => hb y (List.mem_cons_of_mem _ hy)) h]
def mergeH (f : Nat → Nat) : List Nat → List AB → List AB → List AB
  | [], R, H => H ++ R.map (AB.ren f)
  | x :: s, y :: R, H => mergeH f s R (H.set x (y.ren f))
  | _ :: _, [], H => H
theorem mergeH_len (f : Nat → Nat) : ∀ {s : List Nat} {R H : List AB}, s.length ≤ R.length → (mergeH f s R H).length = H.length + (R.length - s.length)
  | [], R, H, _ => by simp [mergeH]
  | x :: s, y :: R, H, h => by simp only [mergeH]; rw [mergeH_len f (by simpa using h)]; simp
  | _ :: _, [], _, h => by simp at h
theorem mergeH_get (f : Nat → Nat) : ∀ {s : List Nat} {R H : List AB}, s.length ≤ R.length → ∀ {k : Nat} {y : AB}, (mergeH f s R H)[k]? = some y →
    (∃ j x, R[j]? = some x ∧ y = x.ren f ∧ k = ixm s H.length j) ∨ (k < H.length ∧ k ∉ s ∧ H[k]? = some y)
  | [], R, H, _, k, y, h => by
    simp only [mergeH] at h
    by_cases hk : k < H.length
    · rw [List.getElem?_append_left hk] at h
      exact .inr ⟨hk, by simp, h⟩
    · rw [List.getElem?_append_right (by omega), List.getElem?_map] at h
      cases hx : R[k - H.length]? with
      | none => rw [hx] at h; simp at h
      | some x =>
        rw [hx] at h
        simp at h
        exact .inl ⟨k - H.length, x, hx, h.symm, by simp only [ixm]; omega⟩
  | x :: s, y0 :: R, H, hl, k, y, h => by
    simp only [mergeH] at h
    rcases mergeH_get f (by simpa using hl) h with ⟨j, z, h1, h2, h3⟩ | ⟨h1, h2, h3⟩
    · exact .inl ⟨j + 1, z, by simpa using h1, h2, by simpa [ixm] using h3⟩
    · rw [List.length_set] at h1
      by_cases hkx : k = x
      · subst hkx
        rw [List.getElem?_set_self h1] at h3
        cases h3
        exact .inl ⟨0, y0, rfl, rfl, rfl⟩
      · rw [List.getElem?_set_ne (Ne.symm hkx)] at h3
        exact .inr ⟨h1, by simp only [List.mem_cons, not_or]; exact ⟨hkx, h2⟩, h3⟩
  | _ :: _, [], _, hl, _, _, _ => by simp at hl
def putH (f : Nat → Nat) : List Nat → List AB → List AB → (List AB → Prop) → Prop
  | [], R, H, k => appK H (R.map (AB.ren f)) 0 fun _ H => k H
  | x :: s, y :: R, H, k => setK x (y.ren f) H fun H => putH f s R H k
  | _ :: _, [], _, _ => False
theorem putH_iff {f : Nat → Nat} : ∀ {s : List Nat} {R H : List AB} {k : List AB → Prop}, putH f s R H k → s.length ≤ R.length ∧ k (mergeH f s R H)
  | [], R, H, k, h => ⟨Nat.zero_le _, appK_iff (k := fun _ H => k H) h⟩
  | x :: s, y :: R, H, k, h => by
    simp only [putH] at h
    obtain ⟨h1, h2⟩ := putH_iff (setK_iff h)
    exact ⟨by simpa using h1, h2⟩
  | _ :: _, [], _, _, h => h.elim
def cntK : List AB → Nat → (Nat → Prop) → Prop
  | [], n, k => k n
  | _ :: r, n, k => cntK r (n + 1) k
theorem cntK_iff : ∀ {H : List AB} {n : Nat} {k : Nat → Prop}, cntK H n k → k (n + H.length)
  | [], _, _, h => h
  | _ :: r, n, k, h => by
    have := cntK_iff (H := r) h
    rw [List.length_cons, show n + (r.length + 1) = n + 1 + r.length by omega]
    exact this
def SelOk (H : List AB) (f : Nat → Nat) : List AB → Nat → Prop
  | [], _ => True
  | x :: r, i => hget H (f i) = some (x.ren f) ∧ SelOk H f r (i + 1)
theorem SelOk.get {H : List AB} {f : Nat → Nat} : ∀ {R : List AB} {i j : Nat} {x : AB}, SelOk H f R i → R[j]? = some x → H[f (i + j)]? = some (x.ren f)
  | [], _, _, _, _, h => by simp at h
  | y :: r, i, 0, x, h, hx => by
    simp at hx; subst hx
    have := h.1
    rwa [hget_eq] at this
  | y :: r, i, j + 1, x, h, hx => by
    have := SelOk.get (j := j) h.2 (by simpa using hx)
    rwa [show i + 1 + j = i + (j + 1) by omega] at this

open Classical in
/-- The caller's context behind such a call. -/
noncomputable def Ctx.after (c c' : Ctx) (f : Nat → Nat) (n : Nat) : Ctx :=
  { w := c'.w, base := c.base, M := c'.M, dom := n,
    rho := fun k => if h : ∃ i, i < c'.dom ∧ f i = k then c'.rho h.choose else c.rho k,
    len := fun k => if h : ∃ i, i < c'.dom ∧ f i = k then c'.len h.choose else c.len k }
theorem ACalls.frame {P : Program} {q : Bool} {f : FuncId} {args : List AV} {H : List AB} {k : AV → List AB → Prop} (s : List Nat) {args' : List AV} {Hin : List AB} {K : AV → List AB → Prop} (h : ACalls P q f args' Hin K)
    (ha : args = AV.renL (ixm s H.length) args') (hlt : AV.ltL args' Hin.length = true) (hin : okH Hin.length Hin = true) (hs : s.length = Hin.length) (hn : s.Nodup) (hb : ∀ x ∈ s, x < H.length) (hsel : SelOk H (ixm s H.length) Hin 0)
    (hk : ∀ r R, K r R → cntK H 0 fun d => putH (ixm s d) s R H fun H => forceK (r.ren (ixm s d)) fun r => k r H) : ACalls P q f args H k := by
  refine ⟨h.go, fun w0 M0 c us hs0 hr => ?_⟩
  let g := ixm s H.length
  have hginj : ∀ {i j : Nat}, g i = g j → i = j := fun e => ixm_inj hn hb e
  have hget0 : ∀ {i : Nat} {x : AB}, Hin[i]? = some x → H[g i]? = some (x.ren g) := fun hx => by have := hsel.get hx; rwa [Nat.zero_add] at this
  have hlow : ∀ {i : Nat}, i < Hin.length → g i ∈ s := fun hi => by
    rcases ixm_or s H.length _ with ⟨_, h2⟩ | ⟨h1, _⟩
    · exact h2
    · omega
  have hhigh : ∀ {i : Nat}, g i < H.length → i < Hin.length := fun {i} hi => by
    rcases ixm_or s H.length i with ⟨h1, _⟩ | ⟨h1, h2⟩
    · omega
    · simp only [g] at hi; omega
  let cl : Ctx := { w := c.w, base := c.base, M := c.M, dom := Hin.length, rho := fun i => c.rho (g i), len := fun i => c.len (g i) }
  let w1 : Fl := ⟨c.w, fun b => b < c.w.heap.size ∧ ∀ i x, Hin[i]? = some x → x.live = true → oB (c.rho (g i)) ≠ some b, fun _ h => h.1, fun w' h1 h2 => w0.gl w' (Nat.le_trans hs0.low.size h1) fun b hb' => (h2 b ⟨Nat.lt_of_lt_of_le (w0.lt b hb') hs0.low.size, fun i x hx hl ho => (hs0.own _ _ _ (hget0 hx) (by rw [AB.ren_live]; exact hl) ho).2 hb'⟩).trans (hs0.low.block b hb')⟩
  have hcl : Ext c.closed cl.closed := ⟨rfl, rfl, rfl, Nat.le_refl _, fun _ _ h => ⟨h, rfl⟩, Nat.zero_le _, fun k hk => absurd hk (Nat.not_lt_zero k), fun k hk => absurd hk (Nat.not_lt_zero k), fun k _ hk => absurd hk (Nat.not_lt_zero k)⟩
  have hun : ∀ k, k < cl.dom → cl.rho k = c.rho (g k) ∧ cl.len k = c.len (g k) := fun _ _ => ⟨rfl, rfl⟩
  have hown : ∀ {i : Nat} {x : AB} {b : Nat}, Hin[i]? = some x → x.live = true → oB (c.rho (g i)) = some b → c.M b ∧ ¬ w0.old b := fun hx hl ho => hs0.own _ _ _ (hget0 hx) (by rw [AB.ren_live]; exact hl) ho
  have hHS : HS w1 c.M cl Hin := by
    refine ⟨⟨rfl, rfl, rfl, Nat.le_refl _, fun _ _ => rfl⟩, hs0.base, rfl, fun _ _ => Iff.rfl, hs0.lt, fun i x hx => ?_, fun i x b hx hl ho => ⟨(hown hx hl ho).1, fun hold => hold.2 i x hx hl ho⟩, fun i j x y b hi hj hx hy ho ho' => ?_⟩
    · have hbk := hs0.blk _ _ (hget0 hx)
      cases x with
      | dead => trivial
      | box t cs =>
        obtain ⟨b, xs, h1, h2, h3, h4⟩ := hbk
        exact ⟨b, xs, h1, h2, RdL.unren hun hcl cs (okH_get hin i t cs hx) h3, h4⟩
      | iter s pos =>
        obtain ⟨b, h1, h2⟩ := hbk
        exact ⟨b, h1, h2⟩
      | row t sz es =>
        obtain ⟨h1, h2, h3, xs, h4, h5, h6⟩ := hbk
        exact ⟨h1, h2, h3, xs, h4, RdL.ext _ hcl h5, h6⟩
    · exact hginj (hs0.dis _ _ _ _ b (hget0 hi) (hget0 hj) (by rw [AB.ren_live]; exact hx) (by rw [AB.ren_live]; exact hy) ho ho')
  refine (h.calls w1 c.M cl us hHS (RdL.unren hun hcl args' hlt (by rw [← ha]; exact hr))).mono ?_
  rintro e w' ⟨v, c', r, R, rfl, rfl, q1, q2, q3, q4, q5⟩
  have h1 := cntK_iff (hk r R q1)
  rw [Nat.zero_add] at h1
  obtain ⟨hlen, h1⟩ := putH_iff h1
  have h1 := forceK_iff h1
  have hdom : c'.dom = R.length := q2.dom
  have hmR : Hin.length ≤ R.length := by omega
  let n := H.length + (R.length - s.length)
  have hgn : ∀ {i : Nat}, i < R.length → g i < n := fun {i} hi => by
    rcases ixm_or s H.length i with ⟨_, h2⟩ | ⟨h2, h3⟩
    · have := hb _ h2; simp only [g, n]; omega
    · simp only [g, n, h3]; omega
  let cj := c.after c' g n
  have hrho : ∀ {i : Nat}, i < c'.dom → cj.rho (g i) = c'.rho i ∧ cj.len (g i) = c'.len i := fun {i} hi => by
    have hex : ∃ j, j < c'.dom ∧ g j = g i := ⟨i, hi, rfl⟩
    have := hginj hex.choose_spec.2
    simp only [cj, Ctx.after]
    rw [dif_pos hex, dif_pos hex, this]
    exact ⟨rfl, rfl⟩
  have hrho2 : ∀ {k : Nat}, k < H.length → k ∉ s → cj.rho k = c.rho k ∧ cj.len k = c.len k := fun {k} hk hks => by
    have hex : ¬ ∃ j, j < c'.dom ∧ g j = k := by
      rintro ⟨j, _, rfl⟩
      exact hks (hlow (hhigh hk))
    simp only [cj, Ctx.after]
    rw [dif_neg hex, dif_neg hex]
    exact ⟨rfl, rfl⟩
  have hmem : ∀ {k : Nat}, k ∈ s → ∃ i, i < Hin.length ∧ g i = k := by
    have : ∀ (s : List Nat) (d k : Nat), k ∈ s → ∃ i, i < s.length ∧ ixm s d i = k := by
      intro s d k hk
      induction s with
      | nil => simp at hk
      | cons x r ih =>
        rcases List.mem_cons.1 hk with rfl | hk
        · exact ⟨0, by simp, rfl⟩
        · obtain ⟨i, h1, h2⟩ := ih hk
          exact ⟨i + 1, by simp; omega, h2⟩
    intro k hk
    obtain ⟨i, h1, h2⟩ := this s H.length k hk
    exact ⟨i, by omega, h2⟩
  have hold : ∀ {b : Nat}, w0.old b → w1.old b := fun {b} hb' => ⟨Nat.lt_of_lt_of_le (w0.lt b hb') hs0.low.size, fun i x hx hl ho => (hown hx hl ho).2 hb'⟩
  have hold2 : ∀ {b : Nat}, b < c.w.heap.size → ¬ c.M b → w1.old b := fun {b} hb' hm => ⟨hb', fun i x hx hl ho => hm (hown hx hl ho).1⟩
  have hold3 : ∀ {k : Nat} {y : AB} {b : Nat}, k ∉ s → H[k]? = some y → y.live = true → oB (c.rho k) = some b → w1.old b := fun {k y b} hks hy hl ho =>
    ⟨hs0.sub hy hl ho, fun i x hx hl' ho' => by
      have := hs0.dis k (g i) y _ b hy (hget0 hx) hl (by rw [AB.ren_live]; exact hl') ho ho'
      exact hks (this ▸ hlow (List.getElem?_eq_some_iff.1 hx).1)⟩
  have hcj : Ext c'.closed cj.closed := ⟨rfl, rfl, rfl, Nat.le_refl _, fun _ _ h => ⟨h, rfl⟩, Nat.zero_le _, fun k hk => absurd hk (Nat.not_lt_zero k), fun k hk => absurd hk (Nat.not_lt_zero k), fun k _ hk => absurd hk (Nat.not_lt_zero k)⟩
  have hren : ∀ k, k < c'.dom → g k < cj.dom ∧ cj.rho (g k) = c'.rho k ∧ cj.len (g k) = c'.len k := fun k hk => ⟨hgn (by omega), hrho hk⟩
  have hE : Ext c cj := by
    refine ⟨q2.low.os, q2.low.tape, q2.low.output, q2.low.size, fun b hb' hm => ?_, ?_, fun k hk => ?_, fun k hk hl => ?_, fun k b hk hg => ?_⟩
    · have ho := hold2 hb' hm
      exact ⟨fun hm' => hm ((q2.foreign b ho).1 hm'), q2.low.block b ho⟩
    · show c.dom ≤ n; rw [hs0.dom]; exact Nat.le_add_right _ _
    · rw [hs0.dom] at hk
      by_cases hks : k ∈ s
      · obtain ⟨i, hi, rfl⟩ := hmem hks
        rw [(hrho (by omega : i < c'.dom)).2]
        exact q3.len i hi
      · rw [(hrho2 hk hks).2]; exact Nat.le_refl _
    · rw [hs0.dom] at hk
      by_cases hks : k ∈ s
      · obtain ⟨i, hi, rfl⟩ := hmem hks
        rw [(hrho (by omega : i < c'.dom)).2] at hl
        rw [(hrho (by omega : i < c'.dom)).1]
        exact q3.rho i hi hl
      · exact (hrho2 hk hks).1
    · rw [hs0.dom] at hk
      by_cases hks : k ∈ s
      · obtain ⟨i, hi, rfl⟩ := hmem hks
        rw [(hrho (by omega : i < c'.dom)).1]
        exact q3.box i b hi hg
      · rw [(hrho2 hk hks).1]; exact hg
  refine ⟨v, cj, r.ren g, _, rfl, rfl, h1, ?_, hE, Rd.ren hren hcj r q4, q5⟩
  have hdj : ∀ {j : Nat} {x : AB}, R[j]? = some x → j < c'.dom := fun hx => by rw [hdom]; exact (List.getElem?_eq_some_iff.1 hx).1
  refine ⟨⟨q2.low.os.trans hs0.low.os, q2.low.tape.trans hs0.low.tape, q2.low.output.trans hs0.low.output, Nat.le_trans hs0.low.size q2.low.size, fun b hb' => (q2.low.block b (hold hb')).trans (hs0.low.block b hb')⟩, hs0.base, (mergeH_len _ hlen).symm, fun b hb' => (q2.foreign b (hold hb')).trans (hs0.foreign b hb'), q2.lt, fun k y hy => ?_, fun k y b hy hl ho => ?_, fun i k y z b hi hk' hy hz hoi hok => ?_⟩
  · rcases mergeH_get _ hlen hy with ⟨j, x, h2, rfl, rfl⟩ | ⟨h2, h3, h4⟩
    · have hbk := q2.blk j x h2
      have hj := hrho (hdj h2)
      cases x with
      | dead => trivial
      | box t cs =>
        obtain ⟨b, xs, h5, h6, h7, h8⟩ := hbk
        exact ⟨b, xs, hj.1.trans h5, h6, RdL.ren hren hcj cs h7, h8⟩
      | iter s pos =>
        obtain ⟨b, h5, h6⟩ := hbk
        exact ⟨b, hj.1.trans h5, h6⟩
      | row t sz es =>
        obtain ⟨h5, h6, h7, xs, h8, h9, h10⟩ := hbk
        refine ⟨hj.2.trans h5, h6, h7, xs, ?_, RdL.ext _ hcj h9, h10⟩
        have eb : cj.base = c'.base := hs0.base.trans q2.base.symm
        show c'.w.ownsRow cj.base t sz (cj.rho (g j)) es.length xs
        rw [hj.1, eb]
        exact h8
    · have hkd : k < c.dom := by rw [hs0.dom]; exact h2
      exact BlkOk.ext hE rfl hkd (hrho2 h2 h3).2 (fun b hl ho => q2.low.block b (hold3 h3 h4 hl ho)) (hs0.blk k y h4)
  · rcases mergeH_get _ hlen hy with ⟨j, x, h2, rfl, rfl⟩ | ⟨h2, h3, h4⟩
    · have ho' : oB (cj.rho (g j)) = some b := ho
      rw [(hrho (hdj h2)).1] at ho'
      have := q2.own j x b h2 (by rw [AB.ren_live] at hl; exact hl) ho'
      exact ⟨this.1, fun hb' => this.2 (hold hb')⟩
    · rw [(hrho2 h2 h3).1] at ho
      have ho2 := hold3 h3 h4 hl ho
      have := hs0.own k y b h4 hl ho
      exact ⟨(q2.foreign b ho2).2 this.1, this.2⟩
  · rcases mergeH_get _ hlen hi with ⟨j, x, h2, rfl, rfl⟩ | ⟨h2, h3, h4⟩ <;> rcases mergeH_get _ hlen hk' with ⟨j', x', h2', rfl, rfl⟩ | ⟨h2', h3', h4'⟩
    · have e1 : oB (cj.rho (g j)) = some b := hoi
      have e2 : oB (cj.rho (g j')) = some b := hok
      rw [(hrho (hdj h2)).1] at e1
      rw [(hrho (hdj h2')).1] at e2
      rw [AB.ren_live] at hy hz
      rw [q2.dis j j' x x' b h2 h2' hy hz e1 e2]
    · have e1 : oB (cj.rho (g j)) = some b := hoi
      rw [(hrho (hdj h2)).1] at e1
      rw [(hrho2 h2' h3').1] at hok
      rw [AB.ren_live] at hy
      exact ((q2.own j x b h2 hy e1).2 (hold3 h3' h4' hz hok)).elim
    · have e2 : oB (cj.rho (g j')) = some b := hok
      rw [(hrho (hdj h2')).1] at e2
      rw [(hrho2 h2 h3).1] at hoi
      rw [AB.ren_live] at hz
      exact ((q2.own j' x' b h2' hz e2).2 (hold3 h3 h4 hy hoi)).elim
    · rw [(hrho2 h2 h3).1] at hoi
      rw [(hrho2 h2' h3').1] at hok
      exact hs0.dis i k y z b h4 h4' hy hz hoi hok

/-- The end of a function that was handed own memory: its result is given up for reading, what it no longer needs is dropped. -/
def sealH (x : AV) (H : List AB) (k : AV → List AB → Prop) : Prop :=
  match x with
  | .tp l => sealA l H fun l H => k (.tp l) H
  | x => seal1 x H k
def finG (T : Tys) (m : Nat) (rs : List ResultVar) (K : AV → List AB → Prop) : QA := fun ex fr H => match ex with
  | .exit _ => False
  | _ => retK T rs fr H fun x => sealH x H fun x H => ∃ r H2, (∀ c v, Rd x c v → Rd r c v) ∧ wkH H2 H ∧ okH H2.length H2 = true ∧ Nat.ble m H2.length = true ∧ K r H2
theorem sealH_sound {w0 : Fl} {M0 : Ms} {c : Ctx} {H : List AB} {x : AV} {u : Value} {k : AV → List AB → Prop} (hs : HS w0 M0 c H) (hr : Rd x c u) (h : sealH x H k) :
    ∃ r H' c', k r H' ∧ c'.w = c.w ∧ HS w0 M0 c' H' ∧ Ext c c' ∧ Rd r c'.closed u := by
  unfold sealH at h
  split at h
  · simp only [Rd] at hr
    obtain ⟨xs, rfl, hx⟩ := hr
    obtain ⟨l', H', c', q1, q2, q3, q4, q5, q6⟩ := sealA_sound hs hx h
    exact ⟨_, H', c', q1, q2, q3, q4, by simp only [Rd]; exact ⟨xs, rfl, q5⟩⟩
  · obtain ⟨r, H', c', q1, q2, q3, q4, q5, _⟩ := seal1_sound hs hr h
    exact ⟨r, H', c', q1, q2, q3, q4, q5⟩
theorem ACalls.of {P : Program} {T : Tys} (hT : TOk P T) {f : FuncId} {fn : Func} {body : Code} {args : List AV} {Hin : List AB} {K : AV → List AB → Prop} (hf : P.funcs[f]? = some fn) (hb : fn.body = some body) (hname : (fn.name == "runtime.NumGoroutine") = false) (hn : args.length ≤ fn.ntmps)
    (h : aCode P T fn.ntmps Hin.length body (finG T Hin.length fn.results.toList K) (frOf 0 args) Hin) : ACalls P false f args Hin K := by
  refine ⟨⟨fn, hf, by rw [hb]; rfl, hname⟩, fun w0 M0 c0 us hs0 hr => ?_⟩
  refine calls_of_wp hf hb ?_
  have hlen := hr.length
  have hFR : FR c0 fn.ntmps (frOf 0 args) { tmps := us.toArray ++ Array.replicate (fn.ntmps - us.toArray.size) undef, defers := [] } := by
    refine ⟨by simp; omega, rfl, fun i => ?_⟩
    have := frOf_rd (c := c0) (m := fn.ntmps - us.length) (l := args) (i := 0) (pre := []) rfl hr i
    rw [Array.getD_eq_getD_getElem?]
    have e : (us.toArray ++ Array.replicate (fn.ntmps - us.toArray.size) undef)[i]? = ([] ++ us ++ List.replicate (fn.ntmps - us.length) undef)[i]? := by
      have : (us.toArray ++ Array.replicate (fn.ntmps - us.toArray.size) undef) = ([] ++ us ++ List.replicate (fn.ntmps - us.length) undef).toArray := Array.ext' (by simp)
      rw [this]; simp only [List.getElem?_toArray]
    rw [e]
    exact this
  refine aCode_sound (w0 := w0) (M0 := M0) (ce := c0) hT hs0.dom body _ _ c0 _ Hin _ ?_ hs0 hFR (Ext.refl _) h
  have fin : ∀ a w, Lift w0 M0 c0 fn.ntmps (fun fr H => retK T fn.results.toList fr H fun x => sealH x H fun x H => ∃ r H2, (∀ c v, Rd x c v → Rd r c v) ∧ wkH H2 H ∧ okH H2.length H2 = true ∧ Nat.ble Hin.length H2.length = true ∧ K r H2) a w → a.defers = [] ∧ ∃ v, (results fn a.tmps).run P w = .ok v w ∧ ∃ v' c' r H', Ending.returned v = .returned v' ∧ c'.w = w ∧ K r H' ∧ HS w0 M0 c' H' ∧ Ext c0 c' ∧ Rd r c' v' ∧ (false = true → Old c0.w w) := by
    rintro a w ⟨c, fr, H, rfl, h1, h2, h3, h4⟩
    obtain ⟨x, v, q1, q2, q3⟩ := retK_sound hT h2 h3 h1
    obtain ⟨x', H', c1, ⟨r, H2, o1, o2, o3, o4, o5⟩, p2, p3, p4, p5⟩ := sealH_sound h2 q2 q1
    have hcut : Cut c1 { c1 with dom := H2.length } := ⟨⟨rfl, rfl, rfl, Nat.le_refl _, fun _ _ h => ⟨h, rfl⟩, Nat.le_refl _, fun k hk => absurd hk (Nat.not_lt_zero k), fun k hk => absurd hk (Nat.not_lt_zero k), fun k _ hk => absurd hk (Nat.not_lt_zero k)⟩, fun _ _ => ⟨rfl, rfl⟩⟩
    have hml := Nat.le_of_ble_eq_true o4
    have he := h4.trans p4
    refine ⟨h3.defers, v, q3, v, { c1 with dom := H2.length }, r, H2, rfl, p2, o5, ⟨p3.low, p3.base, rfl, p3.foreign, p3.lt, fun k y hk => ?_, fun k y g hk hl ho => p3.own k y g (wkH_get o2 k y hk hl) hl ho, fun j k y z g hj hk hy hz ho ho' => p3.dis j k y z g (wkH_get o2 j y hj hy) (wkH_get o2 k z hk hz) hy hz ho ho'⟩, ⟨he.os, he.tape, he.output, he.size, he.keep, by show c0.dom ≤ H2.length; rw [hs0.dom]; exact hml, he.len, he.rho, he.box⟩, o1 _ _ (Rd.ext (c := c1.closed) (c' := { c1 with dom := H2.length }) _ ⟨rfl, rfl, rfl, Nat.le_refl _, fun _ _ h => ⟨h, rfl⟩, Nat.zero_le _, fun k hk => absurd hk (Nat.not_lt_zero k), fun k hk => absurd hk (Nat.not_lt_zero k), fun k _ hk => absurd hk (Nat.not_lt_zero k)⟩ p5), fun e => by cases e⟩
    cases y with
    | dead => trivial
    | box t cs =>
      obtain ⟨g, xs, h1, h2, h3, h4⟩ := p3.blk k _ (wkH_get o2 k _ hk rfl)
      exact ⟨g, xs, h1, h2, RdL.cut cs hcut (okH_get o3 k t cs hk) h3, h4⟩
    | iter s pos =>
      obtain ⟨g, h1, h2⟩ := p3.blk k _ (wkH_get o2 k _ hk rfl)
      exact ⟨g, h1, h2⟩
    | row t sz es =>
      obtain ⟨h1, h2, h3, xs, h4, h5, h6⟩ := p3.blk k _ (wkH_get o2 k _ hk rfl)
      exact ⟨h1, h2, h3, xs, h4, h5, h6⟩
  intro e a w hl
  cases e with
  | normal => exact fin a w hl
  | ret => exact fin a w hl
  | exit id =>
    obtain ⟨c, fr, H, _, h1, _⟩ := hl
    exact h1.elim
  | _ => exact hl.elim
end Go.Proofs.YteecmgonbdbhdaaGreatDoor.A
end

/-
Functions that are handed own memory of their caller's, the result kept as the caller's own.
-/
section
namespace Go.Proofs.YteecmgonbdbhdaaGreatDoor.A
open Go.RowKit

def finGO (T : Tys) (m : Nat) (rs : List ResultVar) (K : AV → List AB → Prop) : QA := fun ex fr H => match ex with
  | .exit _ => False
  | _ => retK T rs fr H fun x => ∃ r H2, (∀ c v, Rd x c v → Rd r c v) ∧ wkH H2 H ∧ okH H2.length H2 = true ∧ (Nat.ble m H2.length = true ∧ r.lt H2.length = true) ∧ K r H2
theorem ACalls.ofO {P : Program} {T : Tys} (hT : TOk P T) {f : FuncId} {fn : Func} {body : Code} {args : List AV} {Hin : List AB} {K : AV → List AB → Prop} (hf : P.funcs[f]? = some fn) (hb : fn.body = some body) (hname : (fn.name == "runtime.NumGoroutine") = false) (hn : args.length ≤ fn.ntmps)
    (h : aCode P T fn.ntmps Hin.length body (finGO T Hin.length fn.results.toList K) (frOf 0 args) Hin) : ACalls P false f args Hin K := by
  refine ⟨⟨fn, hf, by rw [hb]; rfl, hname⟩, fun w0 M0 c0 us hs0 hr => ?_⟩
  refine calls_of_wp hf hb ?_
  have hlen := hr.length
  have hFR : FR c0 fn.ntmps (frOf 0 args) { tmps := us.toArray ++ Array.replicate (fn.ntmps - us.toArray.size) undef, defers := [] } := by
    refine ⟨by simp; omega, rfl, fun i => ?_⟩
    have := frOf_rd (c := c0) (m := fn.ntmps - us.length) (l := args) (i := 0) (pre := []) rfl hr i
    rw [Array.getD_eq_getD_getElem?]
    have e : (us.toArray ++ Array.replicate (fn.ntmps - us.toArray.size) undef)[i]? = ([] ++ us ++ List.replicate (fn.ntmps - us.length) undef)[i]? := by
      have : (us.toArray ++ Array.replicate (fn.ntmps - us.toArray.size) undef) = ([] ++ us ++ List.replicate (fn.ntmps - us.length) undef).toArray := Array.ext' (by simp)
      rw [this]; simp only [List.getElem?_toArray]
    rw [e]
    exact this
  refine aCode_sound (w0 := w0) (M0 := M0) (ce := c0) hT hs0.dom body _ _ c0 _ Hin _ ?_ hs0 hFR (Ext.refl _) h
  have fin : ∀ a w, Lift w0 M0 c0 fn.ntmps (fun fr H => retK T fn.results.toList fr H fun x => ∃ r H2, (∀ c v, Rd x c v → Rd r c v) ∧ wkH H2 H ∧ okH H2.length H2 = true ∧ (Nat.ble Hin.length H2.length = true ∧ r.lt H2.length = true) ∧ K r H2) a w → a.defers = [] ∧ ∃ v, (results fn a.tmps).run P w = .ok v w ∧ ∃ v' c' r H', Ending.returned v = .returned v' ∧ c'.w = w ∧ K r H' ∧ HS w0 M0 c' H' ∧ Ext c0 c' ∧ Rd r c' v' ∧ (false = true → Old c0.w w) := by
    rintro a w ⟨c, fr, H, rfl, h1, h2, h3, h4⟩
    obtain ⟨x, v, ⟨r, H2, o1, o2, o3, ⟨o4, o6⟩, o5⟩, q2, q3⟩ := retK_sound hT h2 h3 h1
    obtain ⟨c1, p3, hcc⟩ : ∃ c1 : Ctx, HS w0 M0 c1 H ∧ c1 = c := ⟨c, h2, rfl⟩
    subst hcc
    have hcut : Cut c1 { c1 with dom := H2.length } := ⟨⟨rfl, rfl, rfl, Nat.le_refl _, fun _ _ h => ⟨h, rfl⟩, Nat.le_refl _, fun k hk => absurd hk (Nat.not_lt_zero k), fun k hk => absurd hk (Nat.not_lt_zero k), fun k _ hk => absurd hk (Nat.not_lt_zero k)⟩, fun _ _ => ⟨rfl, rfl⟩⟩
    have hml := Nat.le_of_ble_eq_true o4
    have he := h4
    refine ⟨h3.defers, v, q3, v, { c1 with dom := H2.length }, r, H2, rfl, rfl, o5, ⟨p3.low, p3.base, rfl, p3.foreign, p3.lt, fun k y hk => ?_, fun k y g hk hl ho => p3.own k y g (wkH_get o2 k y hk hl) hl ho, fun j k y z g hj hk hy hz ho ho' => p3.dis j k y z g (wkH_get o2 j y hj hy) (wkH_get o2 k z hk hz) hy hz ho ho'⟩, ⟨he.os, he.tape, he.output, he.size, he.keep, by show c0.dom ≤ H2.length; rw [hs0.dom]; exact hml, he.len, he.rho, he.box⟩, Rd.cut r hcut o6 (o1 _ _ q2), fun e => by cases e⟩
    cases y with
    | dead => trivial
    | box t cs =>
      obtain ⟨g, xs, h1, h2, h3, h4⟩ := p3.blk k _ (wkH_get o2 k _ hk rfl)
      exact ⟨g, xs, h1, h2, RdL.cut cs hcut (okH_get o3 k t cs hk) h3, h4⟩
    | iter s pos =>
      obtain ⟨g, h1, h2⟩ := p3.blk k _ (wkH_get o2 k _ hk rfl)
      exact ⟨g, h1, h2⟩
    | row t sz es =>
      obtain ⟨h1, h2, h3, xs, h4, h5, h6⟩ := p3.blk k _ (wkH_get o2 k _ hk rfl)
      exact ⟨h1, h2, h3, xs, h4, h5, h6⟩
  intro e a w hl
  cases e with
  | normal => exact fin a w hl
  | ret => exact fin a w hl
  | exit id =>
    obtain ⟨c, fr, H, _, h1, _⟩ := hl
    exact h1.elim
  | _ => exact hl.elim
end Go.Proofs.YteecmgonbdbhdaaGreatDoor.A
end

/-
Package scan: a record is looked for.
-/
section
namespace Go.Proofs.YteecmgonbdbhdaaGreatDoor.A
open Go.RowKit

theorem slotM_in {g : Geo} {pos at_ : Int} (hg : okG g = true) (hp : 0 ≤ pos ∧ pos < g.sl) (hat : 0 ≤ at_ ∧ at_ ≤ 1000) : 0 ≤ slotM g pos at_ ∧ slotM g pos at_ < g.sl := by
  obtain ⟨h1, h2, h3, h4, h5⟩ := okG_iff.1 hg
  have hw : IntKind.i64.wrap (pos + at_) = pos + at_ := by rw [IntKind.wrap_i64]; omega
  exact ⟨Int.tmod_nonneg _ (by rw [hw]; omega), Int.tmod_lt_of_pos _ (by omega)⟩
theorem recM_facts {g : Geo} {a : An} {x y : List Gt} {pos seq left at_ of_ : Int} (hg : okG g = true) (hp : 0 ≤ pos ∧ pos < g.sl) (hat : 0 ≤ at_ ∧ at_ ≤ 1000) :
    ((recM g a x y pos seq left at_ of_).2.1 = 1 ∧ (okR g (recM g a x y pos seq left at_ of_).1 = true ∧ (recM g a x y pos seq left at_ of_).1.img.bytes.length ≤ 59 ∧ isOne (recM g a x y pos seq left at_ of_).1 a seq at_ of_ left = true) ∧ (recM g a x y pos seq left at_ of_).2.2.length ≤ 1) ∨
    (((recM g a x y pos seq left at_ of_).2.1 = 2 ∨ (recM g a x y pos seq left at_ of_).2.1 = 3) ∧ (recM g a x y pos seq left at_ of_).2.2 = [] ∧ (recM g a x y pos seq left at_ of_).1 = zeroC) := by
  refine (lookR_facts (a := a) (x := x.getD (slotM g pos at_).toNat gz) (y := y.getD (slotM g pos at_).toNat gz) (seq := seq) (at_ := at_) (of_ := of_) (left := left) (slotM_in hg hp hat)).imp (fun h => ⟨h.1, h.2.1, ?_⟩) (fun h => ⟨h.1, ?_, h.2.2⟩)
  · simp only [recM, List.length_map]
    exact h.2.2.1
  · simp only [recM, h.2.1, List.map_nil]
theorem one_of {r : Rc} {g : Geo} {a : An} {seq at_ of_ left : Int} (hk : okR g r = true) (h : isOne r a seq at_ of_ left = true) : 2 ≤ r.of_ ∧ r.of_ ≤ 30 ∧ r.at_ = at_ ∧ r.at_ ≤ r.of_ - 1 ∧ (of_ = 0 → r.of_ ≤ left) ∧ (of_ ≠ 0 → r.of_ = of_) := by
  have h := of_decide_eq_true h
  unfold okR behOk at hk
  simp only [Bool.and_eq_true] at hk
  have h2 := hk.2
  rw [if_neg h.1] at h2
  split at h2
  · simp only [numsB, Bool.and_eq_true, inB_iff] at h2
    refine ⟨by omega, by omega, h.2.2.1, by omega, h.2.2.2.1, h.2.2.2.2.1⟩
  · split at h2
    · simp only [numsB, Bool.and_eq_true, inB_iff, beq_iff_eq] at h2
      refine ⟨by omega, by omega, h.2.2.1, by omega, h.2.2.2.1, h.2.2.2.2.1⟩
    · cases h2
/-- The scanner's cells. -/
@[reducible] def scC (g : Geo) (a : An) (x y : List Gt) (pos seq left : Int) (w : AV) : List AV :=
  [.v (.int .i64 g.z), .v (.int .i64 g.d), .v (.int .i64 g.sp), .v (.int .i64 g.sl), .v (.int .i64 g.an), .v (.int .i64 a.gen), .v (.int .i64 a.epoch), .v (.int .i64 a.pos), .v (.int .i64 a.seq), .v (.int .i64 a.last), .v (.string a.label), hmsA a.homes, gotsA x, gotsA y, .v (.int .i64 pos), .v (.int .i64 seq), .v (.int .i64 left), w]
set_option maxRecDepth 100000 in
theorem record_fn (g : Geo) (a : An) (x y : List Gt) (pos seq left at_ of_ : Int) (n : Nat) (W : List Wr) (hg : okG g = true) (ha : anOk g a = true) (hl : a.label.size ≤ 1000000) (hh : a.homes.length ≤ 1000000) (hx : x.length = g.sl) (hy : y.length = g.sl) (hxb : ∀ z ∈ x, z.bytes.length ≤ 100000) (hyb : ∀ z ∈ y, z.bytes.length ≤ 100000) (hp : 0 ≤ pos ∧ pos < g.sl) (hat : 0 ≤ at_ ∧ at_ ≤ 1000) :
    ACalls Tryz.prog false 46 [.bp 0 0, .v (.int .i64 at_), .v (.int .i64 of_)] [.box 63 (scC g a x y pos seq left (.ow 1 n)), .row 72 2 (W.map wrC)]
      fun r H => r = .tp [.ag (rcC (recM g a x y pos seq left at_ of_).1), .v (.int .i64 (recM g a x y pos seq left at_ of_).2.1), .ow 4 (recM g a x y pos seq left at_ of_).2.2.length] ∧
        H = [.box 63 (scC g a x y pos seq left (.ow 1 n)), .row 72 2 (W.map wrC), .dead, .dead, .row 72 2 ((recM g a x y pos seq left at_ of_).2.2.map wrC)] := by
  obtain ⟨h1, h2, h3, h4, h5⟩ := okG_iff.1 hg
  refine ACalls.ofO tys_ok Tryz.func46 rfl rfl (by show 3 ≤ _; decide) ?_
  conv => whnf
  refine aDraw.seq tys_ok mixed (by kernel_rfl) ?_
  conv => whnf
  refine And.intro (by omega) ?_
  conv => whnf
  have hw : IntKind.i64.wrap (pos + at_) = pos + at_ := by rw [IntKind.wrap_i64]; omega
  have hs : 0 ≤ slotM g pos at_ ∧ slotM g pos at_ < g.sl := ⟨Int.tmod_nonneg _ (by rw [hw]; omega), Int.tmod_lt_of_pos _ (by omega)⟩
  have hs' : 0 ≤ (IntKind.i64.wrap (pos + at_)).tmod g.sl ∧ (IntKind.i64.wrap (pos + at_)).tmod g.sl < g.sl := hs
  have hX : (x.getD (slotM g pos at_).toNat gz).bytes.length ≤ 100000 := hxb _ (getD_mem (by omega))
  have hY : (y.getD (slotM g pos at_).toNat gz).bytes.length ≤ 100000 := hyb _ (getD_mem (by omega))
  have lk := look_is (g := g) (a := a) (x := x.getD (slotM g pos at_).toNat gz) (y := y.getD (slotM g pos at_).toNat gz) (slot := slotM g pos at_) (seq := seq) (at_ := at_) (of_ := of_) (left := left) hl hh hX hY hg ha (inB_iff.2 (by omega)) rfl
  have hF := lookR_facts (g := g) (a := a) (x := x.getD (slotM g pos at_).toNat gz) (y := y.getD (slotM g pos at_).toNat gz) (slot := slotM g pos at_) (seq := seq) (at_ := at_) (of_ := of_) (left := left) hs
  unfold recM
  simp only
  generalize lookR g a (x.getD (slotM g pos at_).toNat gz) (y.getD (slotM g pos at_).toNat gz) (slotM g pos at_) seq at_ of_ left = q at lk hF ⊢
  obtain ⟨r, wants, how⟩ := q
  simp only at hF ⊢
  apply aDraw.tree tys_ok mixed (.one 0 (.one 1 (.one 2 (.one 3 (.one 4 (.one 5 (.one 6 (.one 7 (.one 8 (.one 9 (.one 10 (.one 11 (.one 12 (.one 13 (.one 14 (.one 15 (.one 16 (.one 17 (.one 18 (.one 19 (.one 20 (.one 21 (.one 22 (.one 23 (.one 24 (.one 25 (.one 26 (.one 27 (.one 28 (.one 29 (.one 30 (.one 31 (.one 32 (.two 33 (.one 34 (.one 35 (.one 36 (.one 37 (.one 38 (.one 39 (.one 40 (.one 41 (.one 42 (.one 43 .fin)))))))))) 39 (.one 33 (.one 34 (.one 35 (.one 36 (.one 37 (.one 38 (.one 40 (.one 41 (.one 42 (.one 43 .fin)))))))))))))))))))))))))))))))))))))))))))) [10, 11, 12, 13, 33, 34, 35, 36, 37, 38, 39, 40, 41, 42, 43, 44, 45, 46, 47, 48, 49, 50, 51, 52, 53, 54, 55, 56, 57, 58, 59, 60, 61, 62, 63, 64, 65, 66, 67, 68, 69, 70, 71] (by kernel_rfl)
  · conv => whnf
    try (refine And.intro (by omega) ?_; conv => whnf)
    try (refine And.intro (by omega) ?_; conv => whnf)
    refine And.intro ?_ ?_
    · conv => whnf
      refine Fn.closed (lk) rfl ?_
      rintro _ rfl
      conv => whnf
      exact ⟨rfl, rfl⟩
    · conv => whnf
      refine Fn.closed (lk) rfl ?_
      rintro _ rfl
      conv => whnf
      exact ⟨rfl, rfl⟩
  conv => whnf
  refine aLoop.rule Nat (fun k => ([(0, .bp 0 0), (6, .bp 2 0), (9, .v (.int .i64 (slotM g pos at_))), (10, .bp 3 0), (12, .v (.int .i64 how)), (14, .ow 4 k), (72, iA wants), (73, .v (.int .i64 wants.length)), (74, .v (.int .i64 k))], [.box 63 (scC g a x y pos seq left (.ow 1 n)), .row 72 2 (W.map wrC), .box 76 [.v (.int .i64 0), .v (.int .i64 0), .v (.int .i64 0), .v (.int .i64 0), .v (.int .i64 0), .v (.int .i64 0), .v (.int .i64 0), .v (.slice none 0 0)], .box 76 (rcC r), .row 72 2 ((wants.take k).map fun c => wrC ⟨logAt g c (slotM g pos at_), cellB g r c (slotM g pos at_)⟩)])) (fun k => k ≤ wants.length) (fun k => wants.length - k) 0 (Nat.zero_le _) ⟨[(14, 72, 2)], ⟨rfl, rfl, trivial⟩, ⟨rfl, rfl, rfl, rfl, rfl, rfl, rfl, rfl, rfl, trivial⟩, ⟨rfl, rfl, rfl, rfl, rfl, trivial⟩, rfl, rfl, rfl⟩ ?_
  rintro k hk
  conv => whnf
  refine boolI (fun h6 => ?_) (fun h6 => ?_) <;> (repeat rw [Int.toNat_natCast] at h6) <;> conv => whnf
  · rcases hF with ⟨rfl, ⟨q1, q2, q3⟩, q4, q5⟩ | ⟨-, q4, -⟩
    · have hc := q5 (wants.getD k 0) (getD_mem (by omega))
      have lg := log_fn g (wants.getD k 0) (slotM g pos at_)
      rw [hg, hc] at lg
      have rl := rcell_br g r (wants.getD k 0) (slotM g pos at_) (by omega)
      rw [q1, hc] at rl
      refine aSeq.go ?_
      conv => whnf
      refine ⟨by first | omega | (refine ⟨rfl, ?_, ?_⟩ <;> first | omega | (simp only [List.length_map]; done) | (simp only [List.length_map]; omega)) | (simp only [List.length_map]; omega), ?_⟩
      conv => whnf
      repeat' (first | (refine aSeq.go ?_; conv => whnf) | (refine boolI (fun _ => ?_) (fun _ => ?_) <;> conv => whnf) | (refine Fn.closed (lg) rfl ?_; rintro _ rfl; conv => whnf) | (refine Fn.closed (rl) rfl ?_; rintro _ rfl; conv => whnf) | (refine And.intro (by first | omega | exact of_decide_eq_true rfl) ?_; conv => whnf) | fail)
      refine aDraw.seq tys_ok mixed (by kernel_rfl) ?_
      conv => whnf
      repeat' (first | (refine aSeq.go ?_; conv => whnf) | (refine boolI (fun _ => ?_) (fun _ => ?_) <;> conv => whnf) | (refine Fn.closed (lg) rfl ?_; rintro _ rfl; conv => whnf) | (refine Fn.closed (rl) rfl ?_; rintro _ rfl; conv => whnf) | (refine And.intro (by first | omega | exact of_decide_eq_true rfl) ?_; conv => whnf) | fail)
      refine And.intro ⟨by simp; omega, by omega⟩ ?_
      conv => whnf
      exact ⟨k + 1, by omega, by omega, [], trivial, ⟨rfl, rfl, rfl, rfl, rfl, rfl, rfl, rfl, wsucc (by omega), trivial⟩, ⟨rfl, rfl, rfl, rfl, congrArg (AB.row _ _) (take_map_succ h6), trivial⟩, rfl, rfl, rfl⟩
    · exfalso
      rw [q4] at h6
      simp at h6
  · have ek : k = wants.length := by omega
    subst ek
    rw [List.take_length]
    refine ⟨.tp [.ag (rcC r), .v (.int .i64 how), .ow 4 (wants.map fun c => (⟨logAt g c (slotM g pos at_), cellB g r c (slotM g pos at_)⟩ : Wr)).length], [.box 63 (scC g a x y pos seq left (.ow 1 n)), .row 72 2 (W.map wrC), .dead, .dead, .row 72 2 ((wants.map fun c => (⟨logAt g c (slotM g pos at_), cellB g r c (slotM g pos at_)⟩ : Wr)).map wrC)], fun c v h => ?_, ⟨rfl, rfl, ?_, trivial⟩, rfl, ⟨rfl, rfl⟩, rfl, rfl⟩
    · rw [List.length_map]
      exact h
    · rw [List.map_map]
      rfl
end Go.Proofs.YteecmgonbdbhdaaGreatDoor.A
end

/-
A transaction's records: the package's, the reference's.
-/
section
namespace Go.Proofs.YteecmgonbdbhdaaGreatDoor.A
open Go.RowKit

theorem clone_br (b : List UInt8) (hl : b.length ≤ 1000000000) : Fn Tryz.prog 47 [bA b] fun r => r = bA b := by
  refine ⟨⟨_, Tryz.func47, rfl, by decide⟩, fun c0 us hd hM _ hr => ?_⟩
  obtain ⟨u, rfl, h1⟩ := rd1 hr
  refine (bclone_any u b c0.w c0.M c0.M (toBytes h1) hl).mono ?_
  rintro e w' ⟨r, rfl, ho, hB⟩
  exact ⟨_, _, rfl, rfl, hB, ofBytes (c := { c0 with w := w' }) (ho.sl fun b hb hm => by have := hM b hm; omega)⟩
theorem imgR_step' (seq epoch of_ : Int) {k : Nat} {l : List Img} (hk : k < l.length) : (imgR seq epoch of_ (k + 1) l).map rcC = (imgR seq epoch of_ k l).map rcC ++ [rcC ⟨1, seq, epoch, (k : Nat), of_, l.getD k ⟨0, 0, []⟩⟩] := by
  rw [imgR_step seq epoch of_ hk, List.map_append, List.getD_eq_getElem?_getD, List.getElem?_eq_getElem hk]; rfl

def lastC (seq epoch n : Int) : List AV := [.v (.int .i64 2), .v (.int .i64 seq), .v (.int .i64 epoch), .v (.int .i64 n), .v (.int .i64 (n + 1)), .v (.int .i64 0), .v (.int .i64 0), .v (.slice none 0 0)]
theorem recs_sub (seq epoch : Int) (l : List Img) (i : Nat) (hi : i < l.length + 1) :
    SubL ((List.map rcC (imgR seq epoch (l.length + 1) l.length l) ++ [lastC seq epoch l.length]).getD i [])
      (rcC ((recsOf seq epoch l).getD i ⟨0, 0, 0, 0, 0, ⟨0, 0, []⟩⟩)) := by
  have hlk : (imgR seq epoch (l.length + 1) l.length l).length = l.length := by rw [imgR_len]; omega
  rcases Nat.lt_or_ge i l.length with h | h
  · have e1 : (List.map rcC (imgR seq epoch (l.length + 1) l.length l) ++ [lastC seq epoch l.length]).getD i [] = rcC ((recsOf seq epoch l).getD i ⟨0, 0, 0, 0, 0, ⟨0, 0, []⟩⟩) := by
      unfold recsOf
      rw [getD_app (by rw [List.length_map, hlk]; exact h), getD_app (by rw [hlk]; exact h)]
      exact map_getD (by rw [hlk]; exact h)
    rw [e1]
    exact SubL.refl _
  · obtain rfl : i = l.length := by omega
    unfold recsOf
    rw [getD_appR (by rw [List.length_map, hlk]; omega), getD_appR (by rw [hlk]; omega), List.length_map, hlk, Nat.sub_self]
    simp only [List.getD_cons_zero, rcC, noImg, lastC]
    exact ⟨fun _ _ h => h, fun _ _ h => h, fun _ _ h => h, fun _ _ h => h, fun _ _ h => h, fun _ _ h => h, fun _ _ h => h, nil_sl _ _, trivial⟩
theorem recsOf_len (seq epoch : Int) (l : List Img) : (recsOf seq epoch l).length = l.length + 1 := by
  unfold recsOf; rw [List.length_append, imgR_len]; simp
theorem records_fn (seq epoch : Int) (l : List Img) (hl : l.length ≤ 1000000) (hb : ∀ x ∈ l, x.bytes.length ≤ 1000000000) : Fn Tryz.prog 36 [.v (.int .i64 seq), .v (.int .i64 epoch), imgsA l] fun r => r = recsA (recsOf seq epoch l) := by
  refine Fn.of tys_ok Tryz.func36 rfl rfl (Nat.le_of_ble_eq_true rfl) ?_
  conv => whnf
  refine aLoop.rule Nat (fun k => ([(0, .v (.int .i64 seq)), (1, .v (.int .i64 epoch)), (2, imgsA l), (7, .ow 0 k), (8, .v (.int .i64 k))], [.row 76 8 ((imgR seq epoch (l.length + 1) k l).map rcC)])) (fun k => k ≤ l.length) (fun k => l.length - k) 0 (Nat.zero_le _) ⟨[(7, 76, 8)], ⟨rfl, rfl, trivial⟩, ⟨rfl, rfl, rfl, rfl, rfl, trivial⟩, ⟨rfl, trivial⟩, rfl, rfl, rfl⟩ ?_
  rintro k hk
  have hlk := imgR_len seq epoch (l.length + 1) k l
  conv => whnf
  refine boolK_intro (fun h2 => ?_) (fun h2 => ?_) <;> simp at h2 <;> conv => whnf
  · refine aDraw.seq tys_ok mixed (by kernel_rfl) ?_
    conv => whnf
    refine ⟨by first | omega | (refine ⟨rfl, ?_, ?_⟩ <;> first | omega | (simp only [List.length_map]; done) | (simp only [List.length_map]; omega) | (simp only [List.length_set]; omega)) | (simp only [List.length_map]; omega), ?_⟩
    conv => whnf
    refine ⟨by first | omega | (refine ⟨rfl, ?_, ?_⟩ <;> first | omega | (simp only [List.length_map]; done) | (simp only [List.length_map]; omega) | (simp only [List.length_set]; omega)) | (simp only [List.length_map]; omega), ?_⟩
    conv => whnf
    refine ⟨by first | omega | (refine ⟨rfl, ?_, ?_⟩ <;> first | omega | (simp only [List.length_map]; done) | (simp only [List.length_map]; omega) | (simp only [List.length_set]; omega)) | (simp only [List.length_map]; omega), ?_⟩
    conv => whnf
    refine Fn.closed (twin_fn (l.getD k ⟨0, 0, []⟩).bytes (hb _ (getD_mem h2))) rfl ?_
    rintro _ rfl
    conv => whnf
    refine ⟨rfl, ?_⟩
    conv => whnf
    refine ⟨⟨by rw [List.length_map, hlk]; omega, by omega⟩, ?_⟩
    conv => whnf
    refine ⟨k + 1, by omega, by omega, [], trivial, ⟨rfl, rfl, rfl, rfl, wsucc (by omega), trivial⟩, ⟨rowEq ?_, trivial⟩, rfl, rfl, rfl⟩
    rw [imgR_step' _ _ _ h2, wi (by omega)]
    rfl
  · obtain rfl : k = l.length := by omega
    rw [wi (by omega)]
    refine ⟨rfl, ?_⟩
    conv => whnf
    refine ⟨⟨by rw [List.length_map, hlk]; omega, by omega⟩, ?_⟩
    conv => whnf
    refine ⟨by rw [List.length_append, List.length_map, hlk]; simp, ?_⟩
    conv => whnf
    exact ⟨recsA (recsOf seq epoch l), fun c v h => Rd.sub (recsOf_len seq epoch l).symm (recs_sub seq epoch l) h, rfl⟩

end Go.Proofs.YteecmgonbdbhdaaGreatDoor.A
end

/-
A statement whose order Go leaves open, where a load stands beside a store: what is taken where it comes up, not first (a mask names it).
-/
section
namespace Go.Proofs.YteecmgonbdbhdaaGreatDoor.A
open Go.RowKit

inductive TrM where
  | fin
  | one (i : Nat) (r : TrM)
  | two (i : Nat) (a : TrM) (j : Nat) (b : TrM)
  | three (i : Nat) (a : TrM) (j : Nat) (b : TrM) (k : Nat) (d : TrM)
def TrM.depth : TrM → Nat
  | .fin => 0
  | .one _ r => r.depth + 1
  | .two _ a _ b => max a.depth b.depth + 1
  | .three _ a _ b _ d => max a.depth (max b.depth d.depth) + 1
def mayM (ops : Array Oper) (B : List Nat) (mk : Nat) (j : Nat) : Bool :=
  (List.range ops.size).any fun i => !(((ops[i]?).map fun o => isEff o.op || pureOp o.op).getD true) && !mk.testBit i && i != j && !(B.getD j 0).testBit i && !(B.getD i 0).testBit j
section
variable {P : Program} {ops : Array Oper} {B : List Nat} {Q : Exit → Act → World → Prop} {mk : Nat}
def HeldM (P : Program) (ops : Array Oper) (B : List Nat) (mk : Nat) (Q : Exit → Act → World → Prop) : Nat → Array Bool → Act → World → Prop
  | 0, l, a, w => Region.ready .any ops l = [] ∧ Q .normal a w
  | n + 1, l, a, w => (Region.ready .any ops l = [] → Q .normal a w) ∧
      ∀ i ∈ Region.ready .any ops l, wpOp P ops Q i (fun a' w' => (mayM ops B mk i = true → Old w w') ∧ HeldM P ops B mk Q n (l.setIfInBounds i true) a' w') a w
theorem HeldM.any : ∀ (n : Nat) (l : Array Bool) (a : Act) (w : World), HeldM P ops B mk Q n l a w → wpAny P .any ops Q n l a w
  | 0, _, _, _, h => h
  | n + 1, _, _, _, h => ⟨h.1, fun i hi => wpOp_mono (fun a' w' h' => HeldM.any n _ a' w' h'.2) (h.2 i hi)⟩
theorem HeldM.first (hB : befOk ops B = true) {i : Nat} {oi : Oper} {v : Value} (hi : ops[i]? = some oi) (hmk : mk.testBit i = false) (hdet : isEff oi.op = false)
    (hsel : ∀ (j : Nat) (o : Oper) cs b, ops[j]? = some o → o.op ≠ .select cs b)
    (hQ : ∀ c a w, Q (.panic c) (a.put oi.dst v) w → Q (.panic c) a w) {S : World → Prop} (hk : ∀ w w', S w → (pureOp oi.op = false → Old w w') → S w') : ∀ (n : Nat) (l : Array Bool) (a : Act) (w : World), Cl ops l →
      (∀ j oj, ops[j]? = some oj → j ≠ i → l.getD j true = false → (∀ e ∈ oj.after, Region.binds .any e = true → e.on ≠ i) → oi.apart ops oj = true) →
      i ∈ Region.ready .any ops l → YieldsIf P ops S oi v a → S w → HeldM P ops B mk Q n (l.setIfInBounds i true) (a.put oi.dst v) w → HeldM P ops B mk Q (n + 1) l a w := by
  intro n
  induction n with
  | zero =>
    intro l a w _ _ hr hy hS H
    refine ⟨fun h => (by rw [h] at hr; cases hr), fun j hj => ?_⟩
    by_cases hji : j = i
    · subst hji; exact hy.wpOp hi hS ⟨fun _ => Old.refl _, H⟩
    · have h1 := ready_mono hj hji
      rw [H.1] at h1
      cases h1
  | succ n ih =>
    intro l a w hcl hfree hr hy hS H
    refine ⟨fun h => (by rw [h] at hr; cases hr), fun j hj => ?_⟩
    by_cases hji : j = i
    · subst hji; exact hy.wpOp hi hS ⟨fun _ => Old.refl _, H⟩
    have h1 := H.2 j (ready_mono hj hji)
    obtain ⟨hjun, oj, hoj, hall⟩ := mem_ready.1 hj
    obtain ⟨hiun, oi', hoi', halli⟩ := mem_ready.1 hr
    rw [hi] at hoi'
    cases hoi'
    have unl : ∀ k, l.getD k true = false → l.getD k false = true → False := by
      intro k h1 h2
      rcases Nat.lt_or_ge k l.size with h' | h'
      · simp [h'] at h1 h2; rw [h1] at h2; cases h2
      · simp [Array.getElem?_eq_none h'] at h2
    have hnot : ∀ e ∈ oj.after, Region.binds .any e = true → e.on ≠ i := fun e he hb heq => unl i hiun (heq ▸ hall e he hb)
    have hmay : pureOp oi.op = false → mayM ops B mk j = true := by
      intro hpu
      refine List.any_eq_true.2 ⟨i, List.mem_range.2 (Array.getElem?_eq_some_iff.1 hi).1, ?_⟩
      have hne : (i != j) = true := by rw [bne_iff_ne]; exact fun h => hji h.symm
      have b1 : (B.getD j 0).testBit i = false := by
        rw [← Bool.not_eq_true]; exact fun h => unl i hiun (anc hB hcl j oj hoj hall i h)
      have b2 : (B.getD i 0).testBit j = false := by
        rw [← Bool.not_eq_true]; exact fun h => unl j hjun (anc hB hcl i oi hi halli j h)
      simp only [hi, Option.map_some, Option.getD_some, hdet, hpu, hne, b1, b2, hmk, Bool.or_false, Bool.not_false, Bool.and_true]
    have h2 := wpOp_putIf hoj (hfree j oj hoj hji hjun hnot) (fun cs b => hsel i oi cs b hi) (fun cs b => hsel j oj cs b hoj) hQ hy h1
    refine wpOp_mono (fun a' w' h3 => ⟨h3.2.1, ih (l.setIfInBounds j true) a' w' (hcl.set hj) (fun k ok hk hki hun hno => ?_) (ready_mono hr (Ne.symm hji)) h3.1 (hk _ _ hS fun hp => h3.2.1 (hmay hp)) ?_⟩) h2
    · refine hfree k ok hk hki ?_ hno
      by_cases hjk : j = k
      · subst hjk; exact hjun
      · rw [getD_set_ne true hjk] at hun; exact hun
    · rw [Array.setIfInBounds_comm _ _ hji]
      exact h3.2.2

theorem HeldM.first1 (hB : befOk ops B = true) {i : Nat} {oi : Oper} {v : Value} (hi : ops[i]? = some oi) (hmk : mk.testBit i = false) (hdet : isEff oi.op = false)
    (hsel : ∀ (j : Nat) (o : Oper) cs b, ops[j]? = some o → o.op ≠ .select cs b)
    (hQ : ∀ c a w, Q (.panic c) (a.put oi.dst v) w → Q (.panic c) a w) (n : Nat) (l : Array Bool) (a : Act) (w : World) (hcl : Cl ops l)
    (hfree : ∀ j oj, ops[j]? = some oj → j ≠ i → l.getD j true = false → (∀ e ∈ oj.after, Region.binds .any e = true → e.on ≠ i) → oi.apart ops oj = true)
    (hr : i ∈ Region.ready .any ops l) (hy : YieldsIf P ops (Old w) oi v a) (H : HeldM P ops B mk Q n (l.setIfInBounds i true) (a.put oi.dst v) w) : HeldM P ops B mk Q (n + 1) l a w := by
  cases hp : pureOp oi.op with
  | true =>
    refine HeldM.first hB hi hmk hdet hsel hQ (S := fun _ => True) (fun _ _ _ _ => trivial) n l a w hcl hfree hr ?_ trivial H
    rcases hy with ⟨h1, h2⟩ | h
    · exact .inl ⟨h1, fun w' _ => pureRun hp (h2 w (Old.refl w)) w'⟩
    · exact .inr h
  | false =>
    exact HeldM.first hB hi hmk hdet hsel hQ (S := Old w) (fun _ _ h1 h2 => h1.trans (h2 hp)) n l a w hcl hfree hr hy (Old.refl w) H

def effM (ops : Array Oper) (B : List Nat) (mk : Nat) (i : Nat) : Bool := match ops[i]? with | some o => (qOf o.op || !mayM ops B mk i) | none => false
def treeM (ops : Array Oper) (B : List Nat) (mk : Nat) : TrM → Array Bool → Bool
  | .fin, l => (Region.ready .any ops l).isEmpty
  | .one i r, l => (match ops[i]? with
      | none => false
      | some o => match isEff o.op with
        | true => (match Region.ready .any ops l with | [j] => Nat.beq i j | _ => false) && (qOf o.op || !mayM ops B mk i)
        | false => match mk.testBit i with
          | true => (match Region.ready .any ops l with | [j] => Nat.beq i j | _ => false) && (qOf o.op || !mayM ops B mk i)
          | false => Region.free .any ops l i && (Region.ready .any ops l).contains i) && treeM ops B mk r (l.setIfInBounds i true)
  | .two i a j b, l => (match Region.ready .any ops l with | [x, y] => Nat.beq x i && Nat.beq y j | _ => false) && effM ops B mk i && effM ops B mk j && treeM ops B mk a (l.setIfInBounds i true) && treeM ops B mk b (l.setIfInBounds j true)
  | .three i a j b k d, l => (match Region.ready .any ops l with | [x, y, z] => Nat.beq x i && Nat.beq y j && Nat.beq z k | _ => false) && effM ops B mk i && effM ops B mk j && effM ops B mk k && treeM ops B mk a (l.setIfInBounds i true) && treeM ops B mk b (l.setIfInBounds j true) && treeM ops B mk d (l.setIfInBounds k true)
def opsM (P : Program) (T : Tys) (n : Nat) (ops : Array Oper) : TrM → Fr → List AB → (Fr → List AB → Prop) → Prop
  | .fin, fr, H, K => K fr H
  | .one i r, fr, H, K => stepT P T n ops i fr H fun fr H => opsM P T n ops r fr H K
  | .two i a j b, fr, H, K => (stepT P T n ops i fr H fun fr H => opsM P T n ops a fr H K) ∧ (stepT P T n ops j fr H fun fr H => opsM P T n ops b fr H K)
  | .three i a j b k d, fr, H, K => (stepT P T n ops i fr H fun fr H => opsM P T n ops a fr H K) ∧ (stepT P T n ops j fr H fun fr H => opsM P T n ops b fr H K) ∧ (stepT P T n ops k fr H fun fr H => opsM P T n ops d fr H K)
variable {T : Tys} {w0 : Fl} {M0 : Ms} {n d0 : Nat} {ce : Ctx}
theorem effM_sound (hT : TOk P T) {i : Nat} {o : Oper} (ho : ops[i]? = some o) {m : Nat} {l : Array Bool} (hmq : (qOf o.op || !mayM ops B mk i) = true) {c : Ctx} {fr : Fr} {H : List AB} {a : Act} (hs : HS w0 M0 c H) (hf : FR c n fr a) (he : Ext ce c) {K : Fr → List AB → Prop}
    (hk : ∀ (c' : Ctx) (fr' : Fr) (H' : List AB) (a' : Act), HS w0 M0 c' H' → FR c' n fr' a' → Ext ce c' → K fr' H' → HeldM P ops B mk Q m (l.setIfInBounds i true) a' c'.w)
    (h : stepT P T n ops i fr H K) : wpOp P ops Q i (fun a' w' => (mayM ops B mk i = true → Old c.w w') ∧ HeldM P ops B mk Q m (l.setIfInBounds i true) a' w') a c.w := by
  simp only [stepT, lget_eq] at h
  rw [show ops.toList[i]? = some o by simpa using ho] at h
  simp only at h
  refine wpOp_step ho fun KK hK => ?_
  rcases guardK_sound hf h with ⟨hw, fr', hf', h⟩ | ⟨hw, fr', hf', h⟩
  · rw [if_pos hw]
    refine stepK_sound hT hs hf' he h ?_
    rintro a' w' ⟨c', fr2, H', rfl, h1, h2, h3, h4⟩ hold
    refine hK _ _ ⟨fun hmay => hold ?_, hk c' fr2 H' a' h2 h3 h4 h1⟩
    rw [hmay] at hmq
    simpa using hmq
  · rw [if_neg (by rw [hw]; simp)]
    obtain ⟨fr2, h1, h2⟩ := putK_sound (v := undef) hf' (by simp [Rd]) h
    exact hK _ _ ⟨fun _ => Old.refl _, hk c fr2 H _ hs h2 he h1⟩
theorem opsM_sound (hT : TOk P T) (hB : befOk ops B = true) (hns : Region.noSelect ops = true) {K : Fr → List AB → Prop} (hq : ∀ a w, Lift w0 M0 ce n K a w → Q .normal a w) (hpan : ∀ c a w, ¬ Q (.panic c) a w) :
    ∀ (r : TrM) (m : Nat) (l : Array Bool) (c : Ctx) (fr : Fr) (H : List AB) (a : Act), r.depth ≤ m → Cl ops l → treeM ops B mk r l = true → HS w0 M0 c H → FR c n fr a → Ext ce c → opsM P T n ops r fr H K → HeldM P ops B mk Q m l a c.w
  | .fin, m, l, c, fr, H, a, hm, hcl, hd, hs, hf, he, h => by
    simp only [treeM, List.isEmpty_iff] at hd
    cases m with
    | zero => exact ⟨hd, hq _ _ ⟨c, fr, H, rfl, h, hs, hf, he⟩⟩
    | succ m => exact ⟨fun _ => hq _ _ ⟨c, fr, H, rfl, h, hs, hf, he⟩, by rw [hd]; simp⟩
  | .two i x j y, m, l, c, fr, H, a, hm, hcl, hd, hs, hf, he, h => by
    cases m with
    | zero => simp [TrM.depth] at hm
    | succ m =>
      simp only [TrM.depth] at hm
      simp only [treeM, Bool.and_eq_true] at hd
      obtain ⟨⟨⟨⟨hr, hi⟩, hj⟩, hx⟩, hy⟩ := hd
      have hr' : Region.ready .any ops l = [i, j] := by
        split at hr
        · rename_i p q hpq
          simp only [Bool.and_eq_true] at hr
          rw [hpq, Nat.eq_of_beq_eq_true hr.1, Nat.eq_of_beq_eq_true hr.2]
        · cases hr
      obtain ⟨h1, h2⟩ := h
      have go : ∀ k r, effM ops B mk k = true → r.depth ≤ m → k ∈ Region.ready .any ops l → treeM ops B mk r (l.setIfInBounds k true) = true → (stepT P T n ops k fr H fun fr H => opsM P T n ops r fr H K) → (∀ (c : Ctx) (fr : Fr) (H : List AB) (a : Act), HS w0 M0 c H → FR c n fr a → Ext ce c → opsM P T n ops r fr H K → HeldM P ops B mk Q m (l.setIfInBounds k true) a c.w) →
          wpOp P ops Q k (fun a' w' => (mayM ops B mk k = true → Old c.w w') ∧ HeldM P ops B mk Q m (l.setIfInBounds k true) a' w') a c.w := by
        intro k r hk _ _ _ hst hrec
        unfold effM at hk
        split at hk
        · rename_i o ho
          exact effM_sound hT ho hk hs hf he hrec hst
        · cases hk
      refine ⟨fun h0 => (by rw [hr'] at h0; cases h0), fun k hk => ?_⟩
      have hi' : i ∈ Region.ready .any ops l := by rw [hr']; simp
      have hj' : j ∈ Region.ready .any ops l := by rw [hr']; simp
      rw [hr', List.mem_cons, List.mem_singleton] at hk
      rcases hk with rfl | rfl
      · exact go k x hi (by omega) hi' hx h1 fun c' fr' H' a' q1 q2 q3 q4 => opsM_sound hT hB hns hq hpan x m _ c' fr' H' a' (by omega) (hcl.set hi') hx q1 q2 q3 q4
      · exact go k y hj (by omega) hj' hy h2 fun c' fr' H' a' q1 q2 q3 q4 => opsM_sound hT hB hns hq hpan y m _ c' fr' H' a' (by omega) (hcl.set hj') hy q1 q2 q3 q4
  | .three i x j y k0 z, m, l, c, fr, H, a, hm, hcl, hd, hs, hf, he, h => by
    cases m with
    | zero => simp [TrM.depth] at hm
    | succ m =>
      simp only [TrM.depth] at hm
      simp only [treeM, Bool.and_eq_true] at hd
      obtain ⟨⟨⟨⟨⟨⟨hr, hi⟩, hj⟩, hk0⟩, hx⟩, hy⟩, hz⟩ := hd
      have hr' : Region.ready .any ops l = [i, j, k0] := by
        split at hr
        · rename_i p q u hpq
          simp only [Bool.and_eq_true] at hr
          rw [hpq, Nat.eq_of_beq_eq_true hr.1.1, Nat.eq_of_beq_eq_true hr.1.2, Nat.eq_of_beq_eq_true hr.2]
        · cases hr
      obtain ⟨h1, h2, h3⟩ := h
      have go : ∀ k r, effM ops B mk k = true → r.depth ≤ m → k ∈ Region.ready .any ops l → treeM ops B mk r (l.setIfInBounds k true) = true → (stepT P T n ops k fr H fun fr H => opsM P T n ops r fr H K) → (∀ (c : Ctx) (fr : Fr) (H : List AB) (a : Act), HS w0 M0 c H → FR c n fr a → Ext ce c → opsM P T n ops r fr H K → HeldM P ops B mk Q m (l.setIfInBounds k true) a c.w) →
          wpOp P ops Q k (fun a' w' => (mayM ops B mk k = true → Old c.w w') ∧ HeldM P ops B mk Q m (l.setIfInBounds k true) a' w') a c.w := by
        intro k r hk _ _ _ hst hrec
        unfold effM at hk
        split at hk
        · rename_i o ho
          exact effM_sound hT ho hk hs hf he hrec hst
        · cases hk
      refine ⟨fun h0 => (by rw [hr'] at h0; cases h0), fun k hk => ?_⟩
      have hi' : i ∈ Region.ready .any ops l := by rw [hr']; simp
      have hj' : j ∈ Region.ready .any ops l := by rw [hr']; simp
      have hk' : k0 ∈ Region.ready .any ops l := by rw [hr']; simp
      rw [hr', List.mem_cons, List.mem_cons, List.mem_singleton] at hk
      rcases hk with rfl | rfl | rfl
      · exact go k x hi (by omega) hi' hx h1 fun c' fr' H' a' q1 q2 q3 q4 => opsM_sound hT hB hns hq hpan x m _ c' fr' H' a' (by omega) (hcl.set hi') hx q1 q2 q3 q4
      · exact go k y hj (by omega) hj' hy h2 fun c' fr' H' a' q1 q2 q3 q4 => opsM_sound hT hB hns hq hpan y m _ c' fr' H' a' (by omega) (hcl.set hj') hy q1 q2 q3 q4
      · exact go k z hk0 (by omega) hk' hz h3 fun c' fr' H' a' q1 q2 q3 q4 => opsM_sound hT hB hns hq hpan z m _ c' fr' H' a' (by omega) (hcl.set hk') hz q1 q2 q3 q4
  | .one i r, m, l, c, fr, H, a, hm, hcl, hd, hs, hf, he, h => by
    cases m with
    | zero => simp [TrM.depth] at hm
    | succ m =>
      simp only [TrM.depth, Nat.add_le_add_iff_right] at hm
      simp only [treeM, Bool.and_eq_true] at hd
      obtain ⟨hd1, hd2⟩ := hd
      simp only [opsM] at h
      cases ho : ops[i]? with
      | none => rw [ho] at hd1; simp at hd1
      | some o =>
        rw [ho] at hd1
        simp only at hd1
        cases hE : isEff o.op with
        | true =>
          rw [hE] at hd1
          simp only [Bool.and_eq_true] at hd1
          obtain ⟨hr, hmq⟩ := hd1
          have hr' : Region.ready .any ops l = [i] := by
            split at hr
            · rename_i j hj; rw [hj, Nat.eq_of_beq_eq_true hr]
            · cases hr
          have hri : i ∈ Region.ready .any ops l := by rw [hr']; simp
          refine ⟨fun h0 => (by rw [hr'] at h0; cases h0), fun j hj => ?_⟩
          rw [hr', List.mem_singleton] at hj
          subst hj
          exact effM_sound hT ho hmq hs hf he (fun c' fr' H' a' q1 q2 q3 q4 => opsM_sound hT hB hns hq hpan r m _ c' fr' H' a' hm (hcl.set hri) hd2 q1 q2 q3 q4) h
        | false =>
          rw [hE] at hd1
          dsimp only at hd1
          cases hM : mk.testBit i with
          | true =>
            rw [hM] at hd1
            simp only [Bool.and_eq_true] at hd1
            obtain ⟨hr, hmq⟩ := hd1
            have hr' : Region.ready .any ops l = [i] := by
              split at hr
              · rename_i j hj; rw [hj, Nat.eq_of_beq_eq_true hr]
              · cases hr
            have hri : i ∈ Region.ready .any ops l := by rw [hr']; simp
            refine ⟨fun h0 => (by rw [hr'] at h0; cases h0), fun j hj => ?_⟩
            rw [hr', List.mem_singleton] at hj
            subst hj
            exact effM_sound hT ho hmq hs hf he (fun c' fr' H' a' q1 q2 q3 q4 => opsM_sound hT hB hns hq hpan r m _ c' fr' H' a' hm (hcl.set hri) hd2 q1 q2 q3 q4) h
          | false =>
          rw [hM] at hd1
          simp only [Bool.and_eq_true] at hd1
          obtain ⟨hfree, hr⟩ := hd1
          have hri : i ∈ Region.ready .any ops l := by simpa using hr
          simp only [stepT, lget_eq] at h
          rw [show ops.toList[i]? = some o by simpa using ho] at h
          simp only at h
          have step : ∀ v fr2, YieldsIf P ops (Old c.w) o v a → FR c n fr2 (a.put o.dst v) → opsM P T n ops r fr2 H K → HeldM P ops B mk Q (m + 1) l a c.w := by
            intro v fr2 hy hf2 h2
            exact HeldM.first1 hB ho hM hE (Region.noSelect_spec hns) (fun c a w h => (hpan _ _ _ h).elim) m l a c.w hcl (Region.free_spec ho hfree) hri hy
              (opsM_sound hT hB hns hq hpan r m _ c fr2 H _ hm (hcl.set hri) hd2 hs hf2 he h2)
          rcases guardK_sound hf h with ⟨hw, fr', hf', h⟩ | ⟨hw, fr', hf', h⟩
          · unfold stepK at h
            rw [hE] at h
            obtain ⟨rr, v, h1, h2, h3⟩ := (det_sound hT hs hf' h).y
            obtain ⟨fr2, h4, h5⟩ := putK_sound hf' h3 h1
            exact step v fr2 (.inl ⟨hw, h2⟩) h5 h4
          · obtain ⟨fr2, h4, h5⟩ := putK_sound (v := undef) hf' (by simp [Rd]) h
            exact step undef fr2 (.inr ⟨hw, rfl⟩) h5 h4
def treeAllM (ops : Array Oper) (mk : Nat) (tr : TrM) : Bool := befOk ops (befC ops) && Region.noSelect ops && Nat.ble tr.depth ops.size && treeM ops (befC ops) mk tr (Array.replicate ops.size false)
theorem aDraw.treeM (mk : Nat) (hT : TOk P T) (hm : P.follows .mixedOrders = true) {id : Nat} {K : Fr → List AB → Prop} {fr : Fr} {H : List AB} (tr : TrM) (ds : List Nat) {F : Fr} {H2 : List AB} (hok : treeAllM ops mk tr = true)
    (h : opsM P T n ops tr fr H fun fr' H' => canonK (ds ++ slots fr) fr' fun l => l = F ∧ H' = H2) (hk : K F H2) : aDraw P T n d0 id ops K fr H := by
  simp only [treeAllM, Bool.and_eq_true] at hok
  obtain ⟨⟨⟨hB, hns⟩, hlen⟩, hok⟩ := hok
  refine ⟨fun w0 M0 ce c a hs hf he hd Q hQ => ?_⟩
  refine wp_mono (Q := fun e a w => e = .normal ∧ Lift w0 M0 ce n (fun fr' H' => canonK (ds ++ slots fr) fr' fun l => l = F ∧ H' = H2) a w) ?_ ?_
  · refine wp_region_any hm (HeldM.any (B := befC ops) (mk := mk) _ _ _ _ ?_)
    have hb := (Below.refl c.w.heap.size c.w).drew
    obtain ⟨h1, h2⟩ := hs.grow hb
    refine opsM_sound (w0 := w0) (M0 := M0) (ce := ce) hT hB hns (fun a w hl => ⟨rfl, hl⟩) (fun c a w h => by cases h.1) tr _ _ { c with w := c.w.drew } fr H a (Nat.le_of_ble_eq_true hlen) ?_ hok h1 (hf.ext h2) (he.trans h2) h
    intro j o hj hlj
    rcases Nat.lt_or_ge j ops.size with h' | h'
    · simp [h'] at hlj
    · simp [Array.getElem?_eq_none h'] at hj
  · rintro e a w ⟨rfl, c', fr', H', rfl, h1, h2, h3, h4⟩
    obtain ⟨e1, rfl⟩ := canonK_iff h1
    exact hQ c' F H' a hk h2 (e1 ▸ h3.canon _) h4
/-- The ways are gone each to its own end. -/
theorem aDraw.treeK (mk : Nat) (hT : TOk P T) (hm : P.follows .mixedOrders = true) {id : Nat} {K : Fr → List AB → Prop} {fr : Fr} {H : List AB} (tr : TrM) (hok : treeAllM ops mk tr = true)
    (h : opsM P T n ops tr fr H K) : aDraw P T n d0 id ops K fr H := by
  simp only [treeAllM, Bool.and_eq_true] at hok
  obtain ⟨⟨⟨hB, hns⟩, hlen⟩, hok⟩ := hok
  refine ⟨fun w0 M0 ce c a hs hf he hd Q hQ => ?_⟩
  refine wp_mono (Q := fun e a w => e = .normal ∧ Lift w0 M0 ce n K a w) ?_ ?_
  · refine wp_region_any hm (HeldM.any (B := befC ops) (mk := mk) _ _ _ _ ?_)
    have hb := (Below.refl c.w.heap.size c.w).drew
    obtain ⟨h1, h2⟩ := hs.grow hb
    refine opsM_sound (w0 := w0) (M0 := M0) (ce := ce) hT hB hns (fun a w hl => ⟨rfl, hl⟩) (fun c a w h => by cases h.1) tr _ _ { c with w := c.w.drew } fr H a (Nat.le_of_ble_eq_true hlen) ?_ hok h1 (hf.ext h2) (he.trans h2) h
    intro j o hj hlj
    rcases Nat.lt_or_ge j ops.size with h' | h'
    · simp [h'] at hlj
    · simp [Array.getElem?_eq_none h'] at hj
  · rintro e a w ⟨rfl, c', fr', H', rfl, h1, h2, h3, h4⟩
    exact hQ c' fr' H' a h1 h2 h3 h4
end
end Go.Proofs.YteecmgonbdbhdaaGreatDoor.A
end

/-
Package scan: a transaction.
-/
section
namespace Go.Proofs.YteecmgonbdbhdaaGreatDoor.A
open Go.RowKit

theorem tx0_sub (k : Int) (c : Ctx) (u : Value) (h : Rd (.tp [.ag [.v (.int .i64 0), .v (.int .i64 0), .v (.int .i64 0), .v (.slice none 0 0)], .v (.int .i64 k)]) c u) : Rd (.tp [.ag (txC ⟨0, 0, 0, []⟩), .v (.int .i64 k)]) c u := by
  refine tp_sub ?_ c u h
  exact ⟨ag_sub ⟨fun _ _ h => h, fun _ _ h => h, fun _ _ h => h, nil_sl _ _, trivial⟩, fun _ _ h => h, trivial⟩
theorem lt01 {m : Nat} (h : Nat.ble 2 m = true) : ∀ z ∈ [0, 1], z < m := fun z hz => by
  have := Nat.le_of_ble_eq_true h
  simp at hz
  omega
set_option maxRecDepth 100000 in
theorem txn_fn18 (g : Geo) (a : An) (x y : List Gt) (pos seq left : Int) (n : Nat) (W : List Wr) (hn : n = W.length) (hW : W.length ≤ 1000) (hg : okG g = true) (ha : anOk g a = true) (hl : a.label.size ≤ 1000000) (hh : a.homes.length ≤ 1000000) (hx : x.length = g.sl) (hy : y.length = g.sl) (hxb : ∀ z ∈ x, z.bytes.length ≤ 100000) (hyb : ∀ z ∈ y, z.bytes.length ≤ 100000) (hp : 0 ≤ pos ∧ pos < g.sl) (hs : 0 ≤ seq ∧ seq ≤ 4294967295) (hlf : left ≤ g.sl) :
    ACalls Tryz.prog false 22 [.bp 0 0] [.box 63 (scC g a x y pos seq left (.ow 1 n)), .row 72 2 (W.map wrC)]
      fun r H => r = .tp [.ag (txC (if (txnM g a x y pos seq left).1 = 1 then ⟨seq, pos, (txnM g a x y pos seq left).2.1, (txnM g a x y pos seq left).2.2.1⟩ else ⟨0, 0, 0, []⟩)), .v (.int .i64 (txnM g a x y pos seq left).1)] ∧
        H = (if (txnM g a x y pos seq left).1 = 1 then [.box 63 (scC g a x y ((pos + (txnM g a x y pos seq left).2.1).tmod g.sl) (seq + 1) (left - (txnM g a x y pos seq left).2.1) (.ow 1 (W ++ (txnM g a x y pos seq left).2.2.2).length)), .row 72 2 ((W ++ (txnM g a x y pos seq left).2.2.2).map wrC)] else [.box 63 (scC g a x y pos seq left (.ow 1 n)), .row 72 2 (W.map wrC)]) := by
  obtain ⟨h1, h2, h3, h4, h5⟩ := okG_iff.1 hg
  have rc := fun at_ of_ hat => record_fn g a x y pos seq left at_ of_ n W hg ha hl hh hx hy hxb hyb hp hat
  have rf := fun at_ of_ hat => recM_facts (a := a) (x := x) (y := y) (seq := seq) (left := left) (of_ := of_) (at_ := at_) hg hp hat
  have rc0 := rc 0 0 (by omega)
  have rf0 := rf 0 0 (by omega)
  unfold txnM
  simp only
  generalize recM g a x y pos seq left 0 0 = q0 at rc0 rf0 ⊢
  obtain ⟨r0, how0, ws0⟩ := q0
  simp only at rc0 rf0 ⊢
  rcases rf0 with ⟨rfl, ⟨k1, k2, k3⟩, k4⟩ | ⟨k1, rfl, rfl⟩
  · have hN := one_of k1 k3
    have hw1 : IntKind.i64.wrap (pos + r0.of_) = pos + r0.of_ := by rw [IntKind.wrap_i64]; omega
    have hw2 : IntKind.i64.wrap (seq + 1) = seq + 1 := by rw [IntKind.wrap_i64]; omega
    have hw3 : IntKind.i64.wrap (left - r0.of_) = left - r0.of_ := by have := hN.2.2.2.2.1 rfl; rw [IntKind.wrap_i64]; omega
    rw [if_neg (show ¬ (1 : Int) ≠ 1 by decide)]
    generalize hG : gatherM (fun k => recM g a x y pos seq left k r0.of_) (r0.of_ - 1).toNat 1 r0 [] ws0 = G
    refine ACalls.of tys_ok Tryz.func22 rfl rfl (by show 1 ≤ _; decide) ?_
    conv => whnf
    refine ACalls.frame [0, 1] rc0 rfl rfl rfl rfl (by decide) (lt01 rfl) ⟨rfl, rfl, trivial⟩ ?_
    rintro _ _ ⟨rfl, rfl⟩
    conv => whnf
    refine aDraw.seq tys_ok mixed (by kernel_rfl) ?_
    conv => whnf
    refine aLoop.rule (Nat × Rc × List Img × List Wr) (fun z => ([(0, .bp 0 0), (2, .bp 2 0), (3, .v (.int .i64 1)), (4, .bp 6 0), (5, .ow 5 z.2.2.2.length), (6, .v (.int .i64 z.1))], [.box 63 (scC g a x y pos seq left (.ow 1 n)), .row 72 2 (W.map wrC), .box 51 [.v (.int .i64 seq), .v (.int .i64 pos), .v (.int .i64 r0.of_), .ow 7 z.2.2.1.length], .dead, .dead, .row 72 2 (z.2.2.2.map wrC), .box 76 (rcC z.2.1), .row 74 3 (z.2.2.1.map imgC)]))
      (fun z => (1 ≤ z.1 ∧ z.1 ≤ r0.of_) ∧ (okR g z.2.1 = true ∧ z.2.1.img.bytes.length ≤ 59) ∧ (z.2.2.1.length ≤ z.1 ∧ z.2.2.2.length ≤ z.1) ∧ gatherM (fun k => recM g a x y pos seq left k r0.of_) (r0.of_ - z.1).toNat z.1 z.2.1 z.2.2.1 z.2.2.2 = G)
      (fun z => (r0.of_ - z.1).toNat) (1, r0, [], ws0) ⟨⟨Nat.le_refl 1, show ((1 : Nat) : Int) ≤ r0.of_ by omega⟩, ⟨k1, k2⟩, ⟨Nat.zero_le _, k4⟩, hG⟩ ⟨[(1002003, 74, 3)], ⟨rfl, rfl, trivial⟩, ⟨rfl, rfl, rfl, rfl, rfl, rfl, trivial⟩, ⟨rfl, rfl, rfl, rfl, rfl, rfl, trivial⟩, rfl, rfl, rfl⟩ ?_
    rintro ⟨k, r, im, w⟩ ⟨⟨b1, b2⟩, ⟨b3, b4⟩, ⟨b5, b6⟩, b7⟩
    dsimp only at b1 b2 b3 b4 b5 b6 b7 ⊢
    conv => whnf
    refine aSeq.go ?_
    conv => whnf
    refine aSeq.cut (List Img) (fun im2 => ([(0, .bp 0 0), (2, .bp 2 0), (3, .v (.int .i64 1)), (4, .bp 6 0), (5, .ow 5 w.length), (6, .v (.int .i64 k))], [.box 63 (scC g a x y pos seq left (.ow 1 n)), .row 72 2 (W.map wrC), .box 51 [.v (.int .i64 seq), .v (.int .i64 pos), .v (.int .i64 r0.of_), .ow 7 im2.length], .dead, .dead, .row 72 2 (w.map wrC), .box 76 (rcC r), .row 74 3 (im2.map imgC)])) (fun im2 => im2 = if r.kind = 1 then im ++ [r.img] else im) ?_ ?_
    · conv => whnf
      refine boolI (fun hk => ?_) (fun hk => ?_) <;> (repeat rw [Int.toNat_natCast] at hk) <;> conv => whnf
      · repeat' (first | (refine aSeq.go ?_; conv => whnf) | (refine boolI (fun _ => ?_) (fun _ => ?_) <;> conv => whnf) | (refine Fn.closed (clone_br r.img.bytes (by omega)) rfl ?_; rintro _ rfl; conv => whnf) | (refine And.intro (by first | omega | exact of_decide_eq_true rfl) ?_; conv => whnf) | fail)
        refine And.intro ⟨by simp, by omega⟩ ?_
        conv => whnf
        exact ⟨im ++ [r.img], by rw [if_pos hk], [], trivial, ⟨rfl, rfl, rfl, rfl, rfl, rfl, trivial⟩, ⟨rfl, rfl, by rw [List.length_append]; rfl, rfl, rfl, by rw [List.map_append]; rfl, trivial⟩, rfl, rfl, rfl⟩
      · exact ⟨im, by rw [if_neg hk], [], trivial, ⟨rfl, rfl, rfl, rfl, rfl, rfl, trivial⟩, ⟨rfl, rfl, rfl, rfl, rfl, rfl, trivial⟩, rfl, rfl, rfl⟩
    · rintro im2 him
      have hl2 : im2.length ≤ k + 1 := by
        rw [him]
        split
        · rw [List.length_append]
          simp only [List.length_cons, List.length_nil]
          omega
        · omega
      conv => whnf
      refine boolI (fun hkN => ?_) (fun hkN => ?_) <;> (repeat rw [Int.toNat_natCast] at hkN) <;> conv => whnf
      · refine And.intro (by rw [List.length_map]) ?_
        conv => whnf
        refine And.intro ⟨by rw [List.length_map]; exact hn, by omega⟩ ?_
        conv => whnf
        apply aDraw.treeM 235929600 tys_ok mixed (.one 0 (.one 1 (.one 2 (.one 3 (.one 4 (.one 5 (.one 6 (.one 7 (.one 8 (.one 9 (.one 10 (.one 11 (.one 12 (.one 13 (.one 14 (.one 15 (.one 16 (.one 17 (.one 18 (.one 19 (.one 21 (.one 22 (.one 23 (.one 24 (.one 28 (.one 29 (.three 20 (.two 25 (.two 26 (.two 27 (.one 30 (.one 31 (.one 32 (.one 33 (.one 34 (.one 35 (.one 36 .fin))))))) 30 (.one 31 (.one 32 (.two 27 (.one 33 (.one 34 (.one 35 (.one 36 .fin)))) 33 (.one 27 (.one 34 (.one 35 (.one 36 .fin)))))))) 30 (.one 31 (.one 32 (.two 26 (.two 27 (.one 33 (.one 34 (.one 35 (.one 36 .fin)))) 33 (.one 27 (.one 34 (.one 35 (.one 36 .fin))))) 33 (.one 26 (.one 27 (.one 34 (.one 35 (.one 36 .fin))))))))) 30 (.one 31 (.one 32 (.two 25 (.two 26 (.two 27 (.one 33 (.one 34 (.one 35 (.one 36 .fin)))) 33 (.one 27 (.one 34 (.one 35 (.one 36 .fin))))) 33 (.one 26 (.one 27 (.one 34 (.one 35 (.one 36 .fin)))))) 33 (.one 25 (.one 26 (.one 27 (.one 34 (.one 35 (.one 36 .fin)))))))))) 25 (.three 20 (.two 26 (.two 27 (.one 30 (.one 31 (.one 32 (.one 33 (.one 34 (.one 35 (.one 36 .fin))))))) 30 (.one 31 (.one 32 (.two 27 (.one 33 (.one 34 (.one 35 (.one 36 .fin)))) 33 (.one 27 (.one 34 (.one 35 (.one 36 .fin)))))))) 30 (.one 31 (.one 32 (.two 26 (.two 27 (.one 33 (.one 34 (.one 35 (.one 36 .fin)))) 33 (.one 27 (.one 34 (.one 35 (.one 36 .fin))))) 33 (.one 26 (.one 27 (.one 34 (.one 35 (.one 36 .fin))))))))) 26 (.three 20 (.two 27 (.one 30 (.one 31 (.one 32 (.one 33 (.one 34 (.one 35 (.one 36 .fin))))))) 30 (.one 31 (.one 32 (.two 27 (.one 33 (.one 34 (.one 35 (.one 36 .fin)))) 33 (.one 27 (.one 34 (.one 35 (.one 36 .fin)))))))) 27 (.two 20 (.one 30 (.one 31 (.one 32 (.one 33 (.one 34 (.one 35 (.one 36 .fin))))))) 30 (.one 20 (.one 31 (.one 32 (.one 33 (.one 34 (.one 35 (.one 36 .fin)))))))) 30 (.two 20 (.one 31 (.one 32 (.two 27 (.one 33 (.one 34 (.one 35 (.one 36 .fin)))) 33 (.one 27 (.one 34 (.one 35 (.one 36 .fin))))))) 27 (.one 20 (.one 31 (.one 32 (.one 33 (.one 34 (.one 35 (.one 36 .fin))))))))) 30 (.two 20 (.one 31 (.one 32 (.two 26 (.two 27 (.one 33 (.one 34 (.one 35 (.one 36 .fin)))) 33 (.one 27 (.one 34 (.one 35 (.one 36 .fin))))) 33 (.one 26 (.one 27 (.one 34 (.one 35 (.one 36 .fin)))))))) 26 (.two 20 (.one 31 (.one 32 (.two 27 (.one 33 (.one 34 (.one 35 (.one 36 .fin)))) 33 (.one 27 (.one 34 (.one 35 (.one 36 .fin))))))) 27 (.one 20 (.one 31 (.one 32 (.one 33 (.one 34 (.one 35 (.one 36 .fin)))))))))) 30 (.two 20 (.one 31 (.one 32 (.two 25 (.two 26 (.two 27 (.one 33 (.one 34 (.one 35 (.one 36 .fin)))) 33 (.one 27 (.one 34 (.one 35 (.one 36 .fin))))) 33 (.one 26 (.one 27 (.one 34 (.one 35 (.one 36 .fin)))))) 33 (.one 25 (.one 26 (.one 27 (.one 34 (.one 35 (.one 36 .fin))))))))) 25 (.two 20 (.one 31 (.one 32 (.two 26 (.two 27 (.one 33 (.one 34 (.one 35 (.one 36 .fin)))) 33 (.one 27 (.one 34 (.one 35 (.one 36 .fin))))) 33 (.one 26 (.one 27 (.one 34 (.one 35 (.one 36 .fin)))))))) 26 (.two 20 (.one 31 (.one 32 (.two 27 (.one 33 (.one 34 (.one 35 (.one 36 .fin)))) 33 (.one 27 (.one 34 (.one 35 (.one 36 .fin))))))) 27 (.one 20 (.one 31 (.one 32 (.one 33 (.one 34 (.one 35 (.one 36 .fin))))))))))))))))))))))))))))))))))))) [76, 77, 78, 79, 80, 81, 82, 83, 84, 85, 86, 87, 88, 89, 90, 91, 92, 93, 94, 95, 96, 97, 98, 99, 100, 101, 102, 103, 104, 105, 106, 107, 108, 109] (by kernel_rfl)
        · conv => whnf
          refine And.intro (by omega) ?_
          conv => whnf
          refine And.intro ?_ (And.intro ?_ ?_)
          · conv => whnf
            refine And.intro ?_ ?_
            · conv => whnf
              refine And.intro ?_ ?_
              · conv => whnf
                refine And.intro ?_ ?_
                · conv => whnf
                  exact ⟨rfl, rfl⟩
                · conv => whnf
                  refine And.intro ?_ ?_
                  · conv => whnf
                    exact ⟨rfl, rfl⟩
                  · conv => whnf
                    exact ⟨rfl, rfl⟩
              · conv => whnf
                refine And.intro ?_ ?_
                · conv => whnf
                  refine And.intro ?_ ?_
                  · conv => whnf
                    exact ⟨rfl, rfl⟩
                  · conv => whnf
                    exact ⟨rfl, rfl⟩
                · conv => whnf
                  exact ⟨rfl, rfl⟩
            · conv => whnf
              refine And.intro ?_ ?_
              · conv => whnf
                refine And.intro ?_ ?_
                · conv => whnf
                  refine And.intro ?_ ?_
                  · conv => whnf
                    exact ⟨rfl, rfl⟩
                  · conv => whnf
                    exact ⟨rfl, rfl⟩
                · conv => whnf
                  exact ⟨rfl, rfl⟩
              · conv => whnf
                exact ⟨rfl, rfl⟩
          · conv => whnf
            refine And.intro ?_ (And.intro ?_ ?_)
            · conv => whnf
              refine And.intro ?_ ?_
              · conv => whnf
                refine And.intro ?_ ?_
                · conv => whnf
                  exact ⟨rfl, rfl⟩
                · conv => whnf
                  refine And.intro ?_ ?_
                  · conv => whnf
                    exact ⟨rfl, rfl⟩
                  · conv => whnf
                    exact ⟨rfl, rfl⟩
              · conv => whnf
                refine And.intro ?_ ?_
                · conv => whnf
                  refine And.intro ?_ ?_
                  · conv => whnf
                    exact ⟨rfl, rfl⟩
                  · conv => whnf
                    exact ⟨rfl, rfl⟩
                · conv => whnf
                  exact ⟨rfl, rfl⟩
            · conv => whnf
              refine And.intro ?_ (And.intro ?_ ?_)
              · conv => whnf
                refine And.intro ?_ ?_
                · conv => whnf
                  exact ⟨rfl, rfl⟩
                · conv => whnf
                  refine And.intro ?_ ?_
                  · conv => whnf
                    exact ⟨rfl, rfl⟩
                  · conv => whnf
                    exact ⟨rfl, rfl⟩
              · conv => whnf
                refine And.intro ?_ ?_
                · conv => whnf
                  exact ⟨rfl, rfl⟩
                · conv => whnf
                  exact ⟨rfl, rfl⟩
              · conv => whnf
                refine And.intro ?_ ?_
                · conv => whnf
                  refine And.intro ?_ ?_
                  · conv => whnf
                    exact ⟨rfl, rfl⟩
                  · conv => whnf
                    exact ⟨rfl, rfl⟩
                · conv => whnf
                  exact ⟨rfl, rfl⟩
            · conv => whnf
              refine And.intro ?_ ?_
              · conv => whnf
                refine And.intro ?_ ?_
                · conv => whnf
                  refine And.intro ?_ ?_
                  · conv => whnf
                    exact ⟨rfl, rfl⟩
                  · conv => whnf
                    exact ⟨rfl, rfl⟩
                · conv => whnf
                  exact ⟨rfl, rfl⟩
              · conv => whnf
                refine And.intro ?_ ?_
                · conv => whnf
                  refine And.intro ?_ ?_
                  · conv => whnf
                    exact ⟨rfl, rfl⟩
                  · conv => whnf
                    exact ⟨rfl, rfl⟩
                · conv => whnf
                  exact ⟨rfl, rfl⟩
          · conv => whnf
            refine And.intro ?_ ?_
            · conv => whnf
              refine And.intro ?_ ?_
              · conv => whnf
                refine And.intro ?_ ?_
                · conv => whnf
                  refine And.intro ?_ ?_
                  · conv => whnf
                    exact ⟨rfl, rfl⟩
                  · conv => whnf
                    exact ⟨rfl, rfl⟩
                · conv => whnf
                  exact ⟨rfl, rfl⟩
              · conv => whnf
                exact ⟨rfl, rfl⟩
            · conv => whnf
              refine And.intro ?_ ?_
              · conv => whnf
                refine And.intro ?_ ?_
                · conv => whnf
                  refine And.intro ?_ ?_
                  · conv => whnf
                    exact ⟨rfl, rfl⟩
                  · conv => whnf
                    exact ⟨rfl, rfl⟩
                · conv => whnf
                  exact ⟨rfl, rfl⟩
              · conv => whnf
                refine And.intro ?_ ?_
                · conv => whnf
                  refine And.intro ?_ ?_
                  · conv => whnf
                    exact ⟨rfl, rfl⟩
                  · conv => whnf
                    exact ⟨rfl, rfl⟩
                · conv => whnf
                  exact ⟨rfl, rfl⟩
        conv => whnf
        refine And.intro (by rw [List.length_map]) ?_
        conv => whnf
        have e0 : (r0.of_ - (k : Int)).toNat = 0 := by omega
        rw [e0] at b7
        simp only [gatherM] at b7
        rw [← him] at b7
        subst b7
        rw [hw1, hw2, hw3]
        refine ⟨.tp [.ag (txC ⟨seq, pos, r0.of_, im2⟩), .v (.int .i64 1)], [.box 63 (scC g a x y ((pos + r0.of_).tmod g.sl) (seq + 1) (left - r0.of_) (.ow 1 (W ++ w).length)), .row 72 2 ((W ++ w).map wrC)], ?_, ⟨?_, ?_, trivial⟩, rfl, rfl, rfl, rfl⟩
        · refine tp_sub ?_
          exact ⟨ag_sub ⟨fun _ _ h => h, fun _ _ h => h, fun _ _ h => h, row_sub im2 rfl rfl, trivial⟩, fun _ _ h => h, trivial⟩
        · rw [List.length_append, ← hn]
        · rw [List.map_append]
      · have rck := rc k r0.of_ (by omega)
        have rfk := rf k r0.of_ (by omega)
        rw [show (r0.of_ - (k : Int)).toNat = (r0.of_ - ((k + 1 : Nat) : Int)).toNat + 1 by omega] at b7
        unfold gatherM at b7
        simp only at b7
        generalize recM g a x y pos seq left k r0.of_ = qk at rck rfk b7
        obtain ⟨rk, hk, wk⟩ := qk
        simp only at rck rfk b7
        rcases rfk with ⟨rfl, ⟨e1, e2, e3⟩, e4⟩ | ⟨e1, rfl, rfl⟩
        · refine ACalls.frame [0, 1] rck rfl rfl rfl rfl (by decide) (lt01 rfl) ⟨rfl, rfl, trivial⟩ ?_
          rintro _ _ ⟨rfl, rfl⟩
          conv => whnf
          refine And.intro (by rw [List.length_map]) ?_
          conv => whnf
          refine And.intro ⟨by rw [List.length_map], by omega⟩ ?_
          conv => whnf
          exact ⟨(k + 1, rk, im2, w ++ wk), ⟨⟨Nat.succ_le_succ (Nat.zero_le _), show ((k + 1 : Nat) : Int) ≤ r0.of_ by omega⟩, ⟨e1, e2⟩, ⟨hl2, show (w ++ wk).length ≤ k + 1 by rw [List.length_append]; omega⟩, by rw [if_neg (show ¬ (1 : Int) ≠ 1 by decide), ← him] at b7; exact b7⟩, show (r0.of_ - ((k + 1 : Nat) : Int)).toNat < (r0.of_ - (k : Int)).toNat by omega, [], trivial, ⟨rfl, rfl, rfl, rfl, by rw [List.length_append]; rfl, wsucc (by omega), trivial⟩, ⟨rfl, rfl, rfl, by rw [List.map_append], rfl, rfl, trivial⟩, rfl, rfl, rfl⟩
        · rcases e1 with rfl | rfl
          all_goals
            refine ACalls.frame [0, 1] rck rfl rfl rfl rfl (by decide) (lt01 rfl) ⟨rfl, rfl, trivial⟩ ?_
            rintro _ _ ⟨rfl, rfl⟩
            conv => whnf
            rw [if_pos (by decide)] at b7
            subst b7
            exact ⟨_, [.box 63 (scC g a x y pos seq left (.ow 1 n)), .row 72 2 (W.map wrC)], tx0_sub _, ⟨rfl, rfl, trivial⟩, rfl, rfl, rfl, rfl⟩
  · rw [if_pos (show how0 ≠ 1 by omega)]
    simp only [if_neg (show ¬ how0 = 1 by omega)]
    refine ACalls.of tys_ok Tryz.func22 rfl rfl (by show 1 ≤ _; decide) ?_
    rcases k1 with rfl | rfl
    all_goals
      conv => whnf
      refine ACalls.frame [0, 1] rc0 rfl rfl rfl rfl (by decide) (lt01 rfl) ⟨rfl, rfl, trivial⟩ ?_
      rintro _ _ ⟨rfl, rfl⟩
      conv => whnf
      exact ⟨_, [.box 63 (scC g a x y pos seq left (.ow 1 n)), .row 72 2 (W.map wrC)], tx0_sub _, ⟨rfl, rfl, trivial⟩, rfl, rfl, rfl, rfl⟩
end Go.Proofs.YteecmgonbdbhdaaGreatDoor.A
end

/-
Package scan: Scan.
-/
section
namespace Go.Proofs.YteecmgonbdbhdaaGreatDoor.A
open Go.RowKit

def scanA (g : Geo) (a : An) (x y : List Gt) : List Tx × List Wr × Int :=
  if okG g && anOk g a then (if (x.length : Int) = g.sl ∧ (y.length : Int) = g.sl then scanM g a x y else ([], [], 2)) else ([], [], 1)
theorem scan0_sub (k : Int) (c : Ctx) (u : Value) (h : Rd (.tp [.v (.slice none 0 0), .v (.slice none 0 0), .v (.int .i64 k)]) c u) : Rd (.tp [txsA [], wrsA [], .v (.int .i64 k)]) c u := by
  refine tp_sub ?_ c u h
  exact ⟨nil_sl _ _, nil_sl _ _, fun _ _ h => h, trivial⟩
theorem anOk_seq {g : Geo} {a : An} (h : anOk g a = true) : (0 ≤ a.seq ∧ a.seq ≤ 4294967296) ∧ 0 ≤ a.pos ∧ a.pos < g.sl := by
  simp only [anOk, List.all_cons, Bool.and_eq_true, inB_iff] at h
  omega
theorem lt24 {m : Nat} (h : Nat.ble 5 m = true) : ∀ z ∈ [2, 4], z < m := fun z hz => by
  have := Nat.le_of_ble_eq_true h
  simp at hz
  omega
theorem gatherM_len {look : Int → Rc × Int × List Wr} : ∀ (f : Nat) (k : Int) (r : Rc) (im : List Img) (w : List Wr), (∀ i, k ≤ i → i < k + f → (look i).2.2.length ≤ 1) → (gatherM look f k r im w).2.2.length ≤ w.length + f
  | 0, _, _, _, _, _ => by simp [gatherM]
  | f + 1, k, r, im, w, h => by
    have h1 := h k (by omega) (by omega)
    unfold gatherM
    simp only
    split
    · simp
    · have := gatherM_len f (k + 1) (look k).1 (if r.kind = 1 then im ++ [r.img] else im) (w ++ (look k).2.2) fun i h2 h3 => h i (by omega) (by omega)
      rw [List.length_append] at this
      omega
theorem gatherM_how {look : Int → Rc × Int × List Wr} : ∀ (f : Nat) (k : Int) (r : Rc) (im : List Img) (w : List Wr), (∀ i, k ≤ i → i < k + f → (look i).2.1 = 1 ∨ (look i).2.1 = 2 ∨ (look i).2.1 = 3) → (gatherM look f k r im w).1 = 1 ∨ (gatherM look f k r im w).1 = 2 ∨ (gatherM look f k r im w).1 = 3
  | 0, _, _, _, _, _ => .inl rfl
  | f + 1, k, r, im, w, h => by
    have h1 := h k (by omega) (by omega)
    unfold gatherM
    simp only
    split
    · exact h1
    · exact gatherM_how f (k + 1) (look k).1 (if r.kind = 1 then im ++ [r.img] else im) (w ++ (look k).2.2) fun i h2 h3 => h i (by omega) (by omega)
theorem txnM_facts {g : Geo} {a : An} {x y : List Gt} {pos seq left : Int} (hg : okG g = true) (hp : 0 ≤ pos ∧ pos < g.sl) :
    ((txnM g a x y pos seq left).1 = 1 ∧ (2 ≤ (txnM g a x y pos seq left).2.1 ∧ (txnM g a x y pos seq left).2.1 ≤ left ∧ (txnM g a x y pos seq left).2.1 ≤ 30) ∧ (txnM g a x y pos seq left).2.2.2.length ≤ 30) ∨ ((txnM g a x y pos seq left).1 = 2 ∨ (txnM g a x y pos seq left).1 = 3) := by
  have r0 := recM_facts (a := a) (x := x) (y := y) (seq := seq) (left := left) (of_ := 0) (at_ := 0) hg hp (by omega)
  unfold txnM
  simp only
  rcases r0 with ⟨e1, ⟨e2, -, e3⟩, e4⟩ | ⟨e1, -, -⟩
  · rw [if_neg (by omega)]
    have hN := one_of e2 e3
    have hA := fun (i : Int) (h1 : 1 ≤ i) (h2 : i < 1 + ((recM g a x y pos seq left 0 0).1.of_ - 1).toNat) => recM_facts (a := a) (x := x) (y := y) (seq := seq) (left := left) (of_ := (recM g a x y pos seq left 0 0).1.of_) (at_ := i) hg hp (by omega)
    have hH := gatherM_how (look := fun k => recM g a x y pos seq left k (recM g a x y pos seq left 0 0).1.of_) ((recM g a x y pos seq left 0 0).1.of_ - 1).toNat 1 (recM g a x y pos seq left 0 0).1 [] (recM g a x y pos seq left 0 0).2.2 fun i h1 h2 => (hA i h1 h2).imp (fun h => h.1) fun h => h.1
    split
    · exact .inr (hH.resolve_left ‹_›)
    · refine .inl ⟨rfl, ⟨hN.1, hN.2.2.2.2.1 rfl, hN.2.1⟩, ?_⟩
      have := gatherM_len (look := fun k => recM g a x y pos seq left k (recM g a x y pos seq left 0 0).1.of_) ((recM g a x y pos seq left 0 0).1.of_ - 1).toNat 1 (recM g a x y pos seq left 0 0).1 [] (recM g a x y pos seq left 0 0).2.2 fun i h1 h2 => by
        rcases hA i h1 h2 with ⟨_, _, h⟩ | ⟨_, h, _⟩
        · exact h
        · rw [h]; simp
      exact Nat.le_trans this (by omega)
  · rw [if_pos (by omega)]
    exact .inr e1
set_option maxRecDepth 100000 in
set_option maxHeartbeats 4000000 in
theorem scan_fn (g : Geo) (a : An) (x y : List Gt) (hl : a.label.size ≤ 1000000) (hh : a.homes.length ≤ 1000000) (hxb : ∀ z ∈ x, z.bytes.length ≤ 100000) (hyb : ∀ z ∈ y, z.bytes.length ≤ 100000) :
    Fn Tryz.prog 8 [.ag (geoC g), .ag (anC a), gotsA x, gotsA y] fun r => r = .tp [txsA (scanA g a x y).1, wrsA (scanA g a x y).2.1, .v (.int .i64 (scanA g a x y).2.2)] := by
  have s1 := acheck_fn g a hl hh
  unfold scanA
  cases hA : okG g && anOk g a with
  | false =>
    rw [hA] at s1
    refine Fn.of tys_ok Tryz.func8 rfl rfl (Nat.le_of_ble_eq_true rfl) ?_
    conv => whnf
    refine Fn.closed (s1) rfl ?_
    rintro _ rfl
    conv => whnf
    exact ⟨_, fun c u h => scan0_sub 1 c u h, rfl⟩
  | true =>
    rw [hA] at s1
    obtain ⟨hg, ha⟩ := Bool.and_eq_true_iff.1 hA
    obtain ⟨h1, h2, h3, h4, h5⟩ := okG_iff.1 hg
    rw [if_pos rfl]
    by_cases hx : (x.length : Int) = g.sl ∧ (y.length : Int) = g.sl
    · rw [if_pos hx]
      obtain ⟨hx, hy⟩ := hx
      refine Fn.of tys_ok Tryz.func8 rfl rfl (Nat.le_of_ble_eq_true rfl) ?_
      conv => whnf
      refine Fn.closed (s1) rfl ?_
      rintro _ rfl
      conv => whnf
      refine boolI (fun t1 => ?_) (fun t1 => ?_) <;> (repeat rw [Int.toNat_natCast] at t1) <;> conv => whnf
      · exact absurd hx t1
      refine boolI (fun t2 => ?_) (fun t2 => ?_) <;> (repeat rw [Int.toNat_natCast] at t2) <;> conv => whnf
      · exact absurd hy t2
      have hq := anOk_seq ha
      unfold scanM
      generalize hR : scanL g a x y g.sl.toNat a.pos a.seq g.sl [] [] = R
      refine aLoop.rule (Nat × Int × Int × Int × List Tx × List Wr) (fun z => ([(5, .bp 1 0), (11, .bp 2 0), (8, .ow 3 z.2.2.2.2.1.length)], [.box 23 (geoC g), .box 26 (anC a), .box 63 (scC g a x y z.2.1 z.2.2.1 z.2.2.2.1 (.ow 4 z.2.2.2.2.2.length)), .row 51 4 (z.2.2.2.2.1.map txC), .row 72 2 (z.2.2.2.2.2.map wrC)]))
        (fun z => scanL g a x y z.1 z.2.1 z.2.2.1 z.2.2.2.1 z.2.2.2.2.1 z.2.2.2.2.2 = R ∧ z.2.2.2.1 ≤ z.1 ∧ (0 ≤ z.2.1 ∧ z.2.1 < g.sl) ∧ (0 ≤ z.2.2.1 ∧ z.2.2.1 ≤ 4294967296) ∧ z.2.2.2.2.1.length * 2 + z.2.2.2.1 ≤ g.sl ∧ z.2.2.2.2.2.length ≤ z.2.2.2.2.1.length * 30)
        (fun z => z.1) (g.sl.toNat, a.pos, a.seq, g.sl, [], []) ⟨hR, show g.sl ≤ (g.sl.toNat : Int) by omega, hq.2, hq.1, show (0 : Int) * 2 + g.sl ≤ g.sl by omega, Nat.le_refl 0⟩ ⟨[(8, 51, 4), (1002017, 72, 2)], ⟨rfl, rfl, rfl, rfl, trivial⟩, ⟨rfl, rfl, rfl, trivial⟩, ⟨rfl, rfl, rfl, rfl, rfl, trivial⟩, rfl, rfl, rfl⟩ ?_
      rintro ⟨f, pos, seq, left, l, w⟩ ⟨b1, b2, b3, b4, b5, b6⟩
      dsimp only at b1 b2 b3 b4 b5 b6 ⊢
      conv => whnf
      refine boolI (fun c1 => ?_) (fun c1 => ?_) <;> (repeat rw [Int.toNat_natCast] at c1) <;> conv => whnf
      · refine boolI (fun c2 => ?_) (fun c2 => ?_) <;> (repeat rw [Int.toNat_natCast] at c2) <;> conv => whnf
        · cases f with
          | zero => exfalso; omega
          | succ f =>
            unfold scanL at b1
            rw [if_pos ⟨c1, c2⟩] at b1
            simp only at b1
            have tx := txn_fn18 g a x y pos seq left w.length w rfl (by omega) hg ha hl hh hx hy hxb hyb b3 ⟨b4.1, c2⟩ (by omega)
            have tf := txnM_facts (a := a) (x := x) (y := y) (seq := seq) (left := left) hg b3
            generalize txnM g a x y pos seq left = q at tx tf b1
            obtain ⟨how, n, im, ws⟩ := q
            simp only at tx tf b1
            rcases tf with ⟨rfl, tf1, tf2⟩ | tf
            · rw [if_pos rfl, if_pos rfl] at tx
              have hm := Int.tmod_lt_of_pos (pos + n) (show 0 < g.sl by omega)
              have hm0 := Int.tmod_nonneg g.sl (show 0 ≤ pos + n by omega)
              have hI2 : scanL g a x y f ((pos + n).tmod g.sl) (seq + 1) (left - n) (l ++ [⟨seq, pos, n, im⟩]) (w ++ ws) = R ∧ left - n ≤ (f : Int) ∧ (0 ≤ (pos + n).tmod g.sl ∧ (pos + n).tmod g.sl < g.sl) ∧ (0 ≤ seq + 1 ∧ seq + 1 ≤ 4294967296) ∧ ((l ++ [(⟨seq, pos, n, im⟩ : Tx)]).length : Int) * 2 + (left - n) ≤ g.sl ∧ (w ++ ws).length ≤ (l ++ [(⟨seq, pos, n, im⟩ : Tx)]).length * 30 := by
                rw [if_neg (by decide), if_neg (by decide)] at b1
                rw [List.length_append, List.length_append]
                simp only [List.length_cons, List.length_nil]
                exact ⟨b1, by omega, ⟨hm0, hm⟩, by omega, by omega, by omega⟩
              refine ACalls.frame [2, 4] tx rfl rfl rfl rfl (by decide) (lt24 rfl) ⟨rfl, rfl, trivial⟩ ?_
              rintro _ _ ⟨rfl, rfl⟩
              conv => whnf
              refine And.intro rfl ?_
              conv => whnf
              refine And.intro ⟨by rw [List.length_map], by omega⟩ ?_
              conv => whnf
              refine ⟨(f, (pos + n).tmod g.sl, seq + 1, left - n, l ++ [⟨seq, pos, n, im⟩], w ++ ws), ?_, Nat.lt_succ_self f, [], trivial, ⟨rfl, rfl, congrArg (AV.ow 3) (show l.length + 1 = (l ++ [(⟨seq, pos, n, im⟩ : Tx)]).length by rw [List.length_append]; rfl), trivial⟩, ⟨rfl, rfl, rfl, by rw [List.map_append]; rfl, rfl, trivial⟩, rfl, rfl, rfl⟩
              exact hI2
            · rw [if_neg (show ¬ how = 1 by omega), if_neg (show ¬ how = 1 by omega)] at tx
              rcases tf with rfl | rfl
              · rw [if_neg (by decide), if_pos (by decide)] at b1
                subst b1
                refine ACalls.frame [2, 4] tx rfl rfl rfl rfl (by decide) (lt24 rfl) ⟨rfl, rfl, trivial⟩ ?_
                rintro _ _ ⟨rfl, rfl⟩
                conv => whnf
                refine aDraw.seq tys_ok mixed (by kernel_rfl) ?_
                conv => whnf
                have hws : IntKind.i64.wrap (seq - 1) = seq - 1 := by rw [IntKind.wrap_i64]; omega
                refine boolI (fun e1 => ?_) (fun e1 => ?_) <;> (repeat rw [Int.toNat_natCast] at e1) <;> conv => whnf
                · rw [hws] at e1
                  exact ⟨_, fun c u h => scan0_sub 12 c u h, by rw [finM_pos e1]; rfl⟩
                · rw [hws] at e1
                  refine aDraw.seq tys_ok mixed (by kernel_rfl) ?_
                  conv => whnf
                  refine And.intro (by rw [List.length_map]) ?_
                  conv => whnf
                  refine And.intro (by rw [List.length_map]) ?_
                  conv => whnf
                  exact ⟨.tp [txsA l, wrsA w, .v (.int .i64 0)], tp_sub ⟨row_sub l rfl rfl, row_sub w rfl rfl, fun _ _ h => h, trivial⟩, by rw [finM_neg (by omega)]⟩
              · rw [if_pos rfl] at b1
                subst b1
                refine ACalls.frame [2, 4] tx rfl rfl rfl rfl (by decide) (lt24 rfl) ⟨rfl, rfl, trivial⟩ ?_
                rintro _ _ ⟨rfl, rfl⟩
                conv => whnf
                exact ⟨_, fun c u h => scan0_sub 12 c u h, rfl⟩
        · have hb : some (l, w, seq) = R := by
            cases f with
            | zero => exact b1
            | succ f => unfold scanL at b1; rw [if_neg (by omega)] at b1; exact b1
          subst hb
          refine aDraw.seq tys_ok mixed (by kernel_rfl) ?_
          conv => whnf
          have hws : IntKind.i64.wrap (seq - 1) = seq - 1 := by rw [IntKind.wrap_i64]; omega
          refine boolI (fun e1 => ?_) (fun e1 => ?_) <;> (repeat rw [Int.toNat_natCast] at e1) <;> conv => whnf
          · rw [hws] at e1
            exact ⟨_, fun c u h => scan0_sub 12 c u h, by rw [finM_pos e1]; rfl⟩
          · rw [hws] at e1
            refine aDraw.seq tys_ok mixed (by kernel_rfl) ?_
            conv => whnf
            refine And.intro (by rw [List.length_map]) ?_
            conv => whnf
            refine And.intro (by rw [List.length_map]) ?_
            conv => whnf
            exact ⟨.tp [txsA l, wrsA w, .v (.int .i64 0)], tp_sub ⟨row_sub l rfl rfl, row_sub w rfl rfl, fun _ _ h => h, trivial⟩, by rw [finM_neg (by omega)]⟩
      · have hb : some (l, w, seq) = R := by
          cases f with
          | zero => exact b1
          | succ f => unfold scanL at b1; rw [if_neg (by omega)] at b1; exact b1
        subst hb
        refine aDraw.seq tys_ok mixed (by kernel_rfl) ?_
        conv => whnf
        have hws : IntKind.i64.wrap (seq - 1) = seq - 1 := by rw [IntKind.wrap_i64]; omega
        refine boolI (fun e1 => ?_) (fun e1 => ?_) <;> (repeat rw [Int.toNat_natCast] at e1) <;> conv => whnf
        · rw [hws] at e1
          exact ⟨_, fun c u h => scan0_sub 12 c u h, by rw [finM_pos e1]; rfl⟩
        · rw [hws] at e1
          refine aDraw.seq tys_ok mixed (by kernel_rfl) ?_
          conv => whnf
          refine And.intro (by rw [List.length_map]) ?_
          conv => whnf
          refine And.intro (by rw [List.length_map]) ?_
          conv => whnf
          exact ⟨.tp [txsA l, wrsA w, .v (.int .i64 0)], tp_sub ⟨row_sub l rfl rfl, row_sub w rfl rfl, fun _ _ h => h, trivial⟩, by rw [finM_neg (by omega)]⟩
    · rw [if_neg hx]
      refine Fn.of tys_ok Tryz.func8 rfl rfl (Nat.le_of_ble_eq_true rfl) ?_
      conv => whnf
      refine Fn.closed (s1) rfl ?_
      rintro _ rfl
      conv => whnf
      refine boolI (fun t1 => ?_) (fun t1 => ?_) <;> (repeat rw [Int.toNat_natCast] at t1) <;> conv => whnf
      · exact ⟨_, fun c u h => scan0_sub 2 c u h, rfl⟩
      refine boolI (fun t2 => ?_) (fun t2 => ?_) <;> (repeat rw [Int.toNat_natCast] at t2) <;> conv => whnf
      · exact ⟨_, fun c u h => scan0_sub 2 c u h, rfl⟩
      · exact absurd ⟨t1, t2⟩ hx
end Go.Proofs.YteecmgonbdbhdaaGreatDoor.A
end

/-
The reference: whose a slot is.
-/
section
namespace Go.Proofs.YteecmgonbdbhdaaGreatDoor.A
open Go.RowKit

theorem in15_fn (n lo hi : Int) : Fn Tryz.prog 56 [.v (.int .i64 n), .v (.int .i64 lo), .v (.int .i64 hi)] fun r => r = .v (.bool (inB n lo hi)) := by
  refine Fn.of tys_ok Tryz.func56 rfl rfl (Nat.le_of_ble_eq_true rfl) ?_
  conv => whnf
  repeat' (first | (refine boolK_intro (fun h => ?_) (fun h => ?_) <;> (try simp at h) <;> conv => whnf) | (refine aDraw.seq tys_ok mixed (by kernel_rfl) ?_; conv => whnf) | (refine aSeq.go ?_; conv => whnf) | (refine And.intro (by omega) ?_; conv => whnf))
  all_goals exact ⟨_, fun _ _ h => h, by simp [inB, *] <;> omega⟩
def whoK (g : Geo) (t : Tx) (s : Int) : Int := (IntKind.i64.wrap (IntKind.i64.wrap (s - t.pos) + g.sl)).tmod g.sl
def whoOk (g : Geo) (t : Tx) (s : Int) : Bool := inB t.pos 0 (g.sl - 1) && inB t.n 0 g.sl && decide (whoK g t s < t.n)
def whoM (g : Geo) (s : Int) : List Tx → Nat → Option (Nat × Int)
  | [], _ => none
  | t :: r, i => if whoOk g t s then some (i, whoK g t s) else whoM g s r (i + 1)
def whoA : Option (Nat × Int) → AV
  | none => .tp [.v (.int .i64 0), .v (.int .i64 0), .v (.bool false)]
  | some (i, k) => .tp [.v (.int .i64 (i : Nat)), .v (.int .i64 k), .v (.bool true)]
theorem who_fn (g : Geo) (l : List Tx) (s : Int) (hg : okG g = true) (hs : 0 ≤ s ∧ s < g.sl) (hl : l.length ≤ 1000000) : Fn Tryz.prog 35 [.ag (geoC g), txsA l, .v (.int .i64 s)] fun r => r = whoA (whoM g s l 0) := by
  obtain ⟨h1, h2, h3, h4, h5⟩ := okG_iff.1 hg
  have w1 : IntKind.i64.wrap (g.sl - 1) = g.sl - 1 := by rw [IntKind.wrap_i64]; omega
  have i1 := in15_fn s 0 (g.sl - 1)
  rw [inB_iff.2 (show 0 ≤ s ∧ s ≤ g.sl - 1 by omega)] at i1
  refine Fn.of tys_ok Tryz.func35 rfl rfl (Nat.le_of_ble_eq_true rfl) ?_
  conv => whnf
  rw [w1]
  refine Fn.closed (i1) rfl ?_
  rintro _ rfl
  conv => whnf
  generalize hR : whoM g s l 0 = R
  refine aLoop.rule Nat (fun k => ([(1, txsA l), (2, .v (.int .i64 s)), (3, .bp 0 0), (9, .v (.int .i64 k))], [.box 23 (geoC g)])) (fun k => k ≤ l.length ∧ whoM g s (l.drop k) k = R) (fun k => l.length - k) 0 ⟨Nat.zero_le _, hR⟩ ⟨[], trivial, ⟨rfl, rfl, rfl, rfl, trivial⟩, ⟨rfl, trivial⟩, rfl, rfl, rfl⟩ ?_
  rintro k ⟨hk, hI⟩
  conv => whnf
  refine boolI (fun h6 => ?_) (fun h6 => ?_) <;> (repeat rw [Int.toNat_natCast] at h6) <;> conv => whnf
  · have hd : l.drop k = l.getD k ⟨0, 0, 0, []⟩ :: l.drop (k + 1) := by
      rw [List.drop_eq_getElem_cons h6, List.getD_eq_getElem?_getD, List.getElem?_eq_getElem h6]
      rfl
    rw [hd] at hI
    have i2 := in15_fn (l.getD k ⟨0, 0, 0, []⟩).pos 0 (g.sl - 1)
    have i3 := in15_fn (l.getD k ⟨0, 0, 0, []⟩).n 0 g.sl
    unfold whoM at hI
    unfold whoOk at hI
    cases c1 : inB (l.getD k ⟨0, 0, 0, []⟩).pos 0 (g.sl - 1) with
    | false =>
      rw [c1] at i2 hI
      refine aDraw.seq tys_ok mixed (by kernel_rfl) ?_
      conv => whnf
      refine ⟨by first | omega | (refine ⟨rfl, ?_, ?_⟩ <;> first | omega | (simp only [List.length_map]; done) | (simp only [List.length_map]; omega)) | (simp only [List.length_map]; omega), ?_⟩
      conv => whnf
      rw [w1]
      repeat' (first | (refine aSeq.go ?_; conv => whnf) | (refine boolI (fun _ => ?_) (fun _ => ?_) <;> conv => whnf) | (refine Fn.closed (i2) rfl ?_; rintro _ rfl; conv => whnf) | (refine And.intro (by first | omega | exact of_decide_eq_true rfl) ?_; conv => whnf) | fail)
      rw [Bool.false_and, Bool.false_and, if_neg (by decide)] at hI
      exact ⟨k + 1, ⟨by omega, hI⟩, by omega, [], trivial, ⟨rfl, rfl, rfl, wsucc (by omega), trivial⟩, ⟨rfl, trivial⟩, rfl, rfl, rfl⟩
    | true =>
      rw [c1] at i2 hI
      cases c2 : inB (l.getD k ⟨0, 0, 0, []⟩).n 0 g.sl with
      | false =>
        rw [c2] at i3 hI
        refine aDraw.seq tys_ok mixed (by kernel_rfl) ?_
        conv => whnf
        refine ⟨by first | omega | (refine ⟨rfl, ?_, ?_⟩ <;> first | omega | (simp only [List.length_map]; done) | (simp only [List.length_map]; omega)) | (simp only [List.length_map]; omega), ?_⟩
        conv => whnf
        rw [w1]
        repeat' (first | (refine aSeq.go ?_; conv => whnf) | (refine boolI (fun _ => ?_) (fun _ => ?_) <;> conv => whnf) | (refine Fn.closed (i2) rfl ?_; rintro _ rfl; conv => whnf) | (refine Fn.closed (i3) rfl ?_; rintro _ rfl; conv => whnf) | (refine And.intro (by first | omega | exact of_decide_eq_true rfl) ?_; conv => whnf) | fail)
        rw [Bool.and_false, Bool.false_and, if_neg (by decide)] at hI
        exact ⟨k + 1, ⟨by omega, hI⟩, by omega, [], trivial, ⟨rfl, rfl, rfl, wsucc (by omega), trivial⟩, ⟨rfl, trivial⟩, rfl, rfl, rfl⟩
      | true =>
        rw [c2, Bool.and_true, Bool.true_and] at hI
        rw [c2] at i3
        refine aDraw.seq tys_ok mixed (by kernel_rfl) ?_
        conv => whnf
        refine ⟨by first | omega | (refine ⟨rfl, ?_, ?_⟩ <;> first | omega | (simp only [List.length_map]; done) | (simp only [List.length_map]; omega)) | (simp only [List.length_map]; omega), ?_⟩
        conv => whnf
        rw [w1]
        repeat' (first | (refine aSeq.go ?_; conv => whnf) | (refine boolI (fun _ => ?_) (fun _ => ?_) <;> conv => whnf) | (refine Fn.closed (i2) rfl ?_; rintro _ rfl; conv => whnf) | (refine Fn.closed (i3) rfl ?_; rintro _ rfl; conv => whnf) | (refine And.intro (by first | omega | exact of_decide_eq_true rfl) ?_; conv => whnf) | fail)
        refine aDraw.seq tys_ok mixed (by kernel_rfl) ?_
        conv => whnf
        refine ⟨by first | omega | (refine ⟨rfl, ?_, ?_⟩ <;> first | omega | (simp only [List.length_map]; done) | (simp only [List.length_map]; omega)) | (simp only [List.length_map]; omega), ?_⟩
        conv => whnf
        refine And.intro (by omega) ?_
        conv => whnf
        refine ⟨by first | omega | (refine ⟨rfl, ?_, ?_⟩ <;> first | omega | (simp only [List.length_map]; done) | (simp only [List.length_map]; omega)) | (simp only [List.length_map]; omega), ?_⟩
        conv => whnf
        refine boolI (fun c3 => ?_) (fun c3 => ?_) <;> (repeat rw [Int.toNat_natCast] at c3) <;> conv => whnf
        · have c3' : decide (whoK g (l.getD k ⟨0, 0, 0, []⟩) s < (l.getD k ⟨0, 0, 0, []⟩).n) = true := decide_eq_true c3
          rw [if_pos c3'] at hI
          rw [← hI]
          exact ⟨_, fun _ _ h => h, rfl⟩
        · have c3' : ¬ decide (whoK g (l.getD k ⟨0, 0, 0, []⟩) s < (l.getD k ⟨0, 0, 0, []⟩).n) = true := fun e => absurd (of_decide_eq_true e) (Int.not_lt.2 c3)
          rw [if_neg c3'] at hI
          exact ⟨k + 1, ⟨by omega, hI⟩, by omega, [], trivial, ⟨rfl, rfl, rfl, wsucc (by omega), trivial⟩, ⟨rfl, trivial⟩, rfl, rfl, rfl⟩
  · have ek : k = l.length := by omega
    subst ek
    rw [List.drop_length] at hI
    rw [← hI]
    exact ⟨_, fun _ _ h => h, rfl⟩
end Go.Proofs.YteecmgonbdbhdaaGreatDoor.A
end

/-
Plain laws on a transaction's records.
-/
section
namespace Go.Proofs.YteecmgonbdbhdaaGreatDoor

def rc0 : Rc := ⟨0, 0, 0, 0, 0, ⟨0, 0, []⟩⟩
theorem recsOf_length (seq epoch : Int) (l : List Img) : (recsOf seq epoch l).length = l.length + 1 := by
  unfold recsOf
  rw [List.length_append, imgR_len]
  simp
structure RecAt (g : Geo) (seq epoch : Int) (l : List Img) (k : Nat) (r : Rc) : Prop where
  ok : okR g r = true
  seq : r.seq = seq
  epoch : r.epoch = epoch
  at_ : r.at_ = (k : Nat)
  of_ : r.of_ = l.length + 1
  kind : r.kind ≠ 0
  img : (r.kind = 1 ↔ k < l.length) ∧ (k < l.length → r.img = l.getD k ⟨0, 0, []⟩)
end Go.Proofs.YteecmgonbdbhdaaGreatDoor
end

/-
Both copies of a log as they were written.
-/
section
namespace Go.Proofs.YteecmgonbdbhdaaGreatDoor.A
open Go.RowKit

def tz : Tx := ⟨0, 0, 0, []⟩
def recW (g : Geo) (l : List Tx) (epoch s : Int) : Rc := match whoM g s l 0 with
  | none => zeroC
  | some (i, k) => (recsOf (l.getD i tz).seq epoch (l.getD i tz).images).getD k.toNat zeroC
def writtenM (g : Geo) (l : List Tx) (epoch copy : Int) (n : Nat) : List Gt := (List.range n).map fun s => ⟨0, cellB g (recW g l epoch (s : Nat)) copy (s : Nat)⟩
theorem writtenM_succ (g : Geo) (l : List Tx) (epoch copy : Int) (n : Nat) : writtenM g l epoch copy (n + 1) = writtenM g l epoch copy n ++ [⟨0, cellB g (recW g l epoch (n : Nat)) copy (n : Nat)⟩] := by
  simp [writtenM, List.range_succ]
structure LogOk (g : Geo) (l : List Tx) (epoch : Int) : Prop where
  len : l.length ≤ 1000
  img : ∀ t ∈ l, t.images.length ≤ 1000 ∧ ∀ x ∈ t.images, x.bytes.length ≤ 1000000
  who : ∀ s i k, 0 ≤ s ∧ s < g.sl → whoM g s l 0 = some (i, k) → i < l.length ∧ 0 ≤ k ∧ k.toNat < (l.getD i tz).images.length + 1
  ok : ∀ s, 0 ≤ s ∧ s < g.sl → okR g (recW g l epoch s) = true
set_option maxRecDepth 100000 in
theorem written_fno (g : Geo) (l : List Tx) (epoch : Int) (hg : okG g = true) (h : LogOk g l epoch) : FnO Tryz.prog 17 [.ag (geoC g), txsA l, .v (.int .i64 epoch)] fun r R =>
    r = .tp [.ow 0 g.sl.toNat, .ow 1 g.sl.toNat] ∧ R = [.row 54 2 ((writtenM g l epoch 0 g.sl.toNat).map gotC), .row 54 2 ((writtenM g l epoch 1 g.sl.toNat).map gotC)] := by
  obtain ⟨h1, h2, h3, h4, h5⟩ := okG_iff.1 hg
  refine FnO.of tys_ok Tryz.func17 rfl rfl (Nat.le_of_ble_eq_true rfl) ?_
  conv => whnf
  refine aLoop.rule Nat (fun k => ([(1, txsA l), (2, .v (.int .i64 epoch)), (3, .bp 0 0), (8, .ow 1 k), (9, .ow 2 k), (10, .v (.int .i64 k))], [.box 23 (geoC g), .row 54 2 ((writtenM g l epoch 0 k).map gotC), .row 54 2 ((writtenM g l epoch 1 k).map gotC)])) (fun k => k ≤ g.sl.toNat) (fun k => g.sl.toNat - k) 0 (Nat.zero_le _) ⟨[(8, 54, 2), (9, 54, 2)], ⟨rfl, rfl, rfl, rfl, trivial⟩, ⟨rfl, rfl, rfl, rfl, rfl, rfl, trivial⟩, ⟨rfl, rfl, rfl, trivial⟩, rfl, rfl, rfl⟩ ?_
  intro k hk
  conv => whnf
  refine boolI (fun h6 => ?_) (fun h6 => ?_) <;> (repeat rw [Int.toNat_natCast] at h6) <;> conv => whnf
  · have hin : (0 : Int) ≤ (k : Nat) ∧ ((k : Nat) : Int) < g.sl := by omega
    have wf := who_fn g l k hg hin (by have := h.len; omega)
    have hok := h.ok k hin
    have hL0 : okL g 0 (k : Nat) = true := by rw [okL, inB_iff.2 (show 0 ≤ ((k : Nat) : Int) ∧ ((k : Nat) : Int) ≤ g.sl - 1 by omega)]; rfl
    have hL1 : okL g 1 (k : Nat) = true := by rw [okL, inB_iff.2 (show 0 ≤ ((k : Nat) : Int) ∧ ((k : Nat) : Int) ≤ g.sl - 1 by omega)]; rfl
    have c0 := rrecCell_br g _ 0 (k : Nat) hok hL0
    have c1 := rrecCell_br g _ 1 (k : Nat) hok hL1
    have hlen : ∀ c, (writtenM g l epoch c k).length = k := fun c => by simp [writtenM]
    have e0 := writtenM_succ g l epoch 0 k
    have e1 := writtenM_succ g l epoch 1 k
    generalize hrw : recW g l epoch (k : Nat) = rw at c0 c1 e0 e1
    unfold recW at hrw
    cases hwm : whoM g (k : Nat) l 0 with
    | none =>
      rw [hwm] at wf hrw
      simp only at hrw
      subst hrw
      repeat' (first | (refine aSeq.go ?_; conv => whnf) | (refine boolI (fun _ => ?_) (fun _ => ?_) <;> conv => whnf) | (refine Fn.closed (wf) rfl ?_; rintro _ rfl; conv => whnf) | (refine And.intro (by first | omega | exact of_decide_eq_true rfl) ?_; conv => whnf) | fail)
      refine ACalls.sub _ ?_ (Fn.closed (c0) rfl ?_)
      · repeat' (first | exact trivial | exact fun _ _ h => h | exact nil_sl _ _ | refine And.intro ?_ ?_ | refine ag_sub ?_)
      rintro _ rfl
      conv => whnf
      refine And.intro rfl ?_
      conv => whnf
      refine And.intro ⟨by rw [List.length_map, hlen], by omega⟩ ?_
      conv => whnf
      refine ACalls.sub _ ?_ (Fn.closed (c1) rfl ?_)
      · repeat' (first | exact trivial | exact fun _ _ h => h | exact nil_sl _ _ | refine And.intro ?_ ?_ | refine ag_sub ?_)
      rintro _ rfl
      conv => whnf
      refine And.intro rfl ?_
      conv => whnf
      refine And.intro ⟨by rw [List.length_map, hlen], by omega⟩ ?_
      conv => whnf
      exact ⟨k + 1, by omega, by omega, [], trivial, ⟨rfl, rfl, rfl, rfl, rfl, wsucc (by omega), trivial⟩, ⟨rfl, by rw [e0, List.map_append]; rfl, by rw [e1, List.map_append]; rfl, trivial⟩, rfl, rfl, rfl⟩
    | some q =>
      obtain ⟨i, kk⟩ := q
      have hw := h.who k i kk hin hwm
      rw [hwm] at wf hrw
      simp only at hrw
      have hm := h.img _ (getD_mem (d := tz) hw.1)
      have hkl := recsOf_length (l.getD i tz).seq epoch (l.getD i tz).images
      have hb2 : 0 ≤ kk ∧ kk < ((recsOf (l.getD i tz).seq epoch (l.getD i tz).images).length : Int) := by omega
      have rs := records_fn (l.getD i tz).seq epoch (l.getD i tz).images (by omega) (fun x hx => by have := hm.2 x hx; omega)
      subst hrw
      repeat' (first | (refine aSeq.go ?_; conv => whnf) | (refine boolI (fun _ => ?_) (fun _ => ?_) <;> conv => whnf) | (refine Fn.closed (wf) rfl ?_; rintro _ rfl; conv => whnf) | (refine And.intro (by first | omega | exact of_decide_eq_true rfl) ?_; conv => whnf) | fail)
      refine aDraw.of tys_ok mixed [0, 1, 2, 3, 4, 5, 6, 7, 8, 9, 10, 12, 11, 13, 14, 15] (by kernel_rfl) ?_
      conv => whnf
      refine ⟨by first | omega | (refine ⟨rfl, ?_, ?_⟩ <;> first | omega | (simp only [List.length_map]; done) | (simp only [List.length_map]; omega)) | (simp only [List.length_map]; omega), ?_⟩
      conv => whnf
      refine ⟨by first | omega | (refine ⟨rfl, ?_, ?_⟩ <;> first | omega | (simp only [List.length_map]; done) | (simp only [List.length_map]; omega)) | (simp only [List.length_map]; omega), ?_⟩
      conv => whnf
      refine Fn.closed (rs) rfl ?_
      rintro _ rfl
      conv => whnf
      refine And.intro hb2 ?_
      conv => whnf
      refine Fn.closed (c0) rfl ?_
      rintro _ rfl
      conv => whnf
      refine And.intro rfl ?_
      conv => whnf
      refine And.intro ⟨by rw [List.length_map, hlen], by omega⟩ ?_
      conv => whnf
      refine Fn.closed (c1) rfl ?_
      rintro _ rfl
      conv => whnf
      refine And.intro rfl ?_
      conv => whnf
      refine And.intro ⟨by rw [List.length_map, hlen], by omega⟩ ?_
      conv => whnf
      exact ⟨k + 1, by omega, by omega, [], trivial, ⟨rfl, rfl, rfl, rfl, rfl, wsucc (by omega), trivial⟩, ⟨rfl, by rw [e0, List.map_append]; rfl, by rw [e1, List.map_append]; rfl, trivial⟩, rfl, rfl, rfl⟩
  · have ek : k = g.sl.toNat := by omega
    subst ek
    exact ⟨rfl, rfl⟩
end Go.Proofs.YteecmgonbdbhdaaGreatDoor.A
end

/-
The wake-up run of casematelaw18.
-/
section
namespace Go.Proofs.YteecmgonbdbhdaaGreatDoor.A
open Go.RowKit

def log18 : List Tx := [⟨1, 0, 2, [⟨0, -1, [7, 0, 0, 1, 2, 3, 4, 5]⟩]⟩, ⟨2, 2, 3, [⟨0, 0, [7, 1, 0, 1, 2, 3, 4, 5]⟩, ⟨0, 0, [7, 1, 1, 1, 2, 3, 4, 5]⟩]⟩]
def SubLL : List (List AV) → List (List AV) → Prop
  | [], [] => True
  | a :: r, b :: s => SubL a b ∧ SubLL r s
  | _, _ => False
theorem SubLL.get : ∀ {es fs : List (List AV)} {i : Nat}, SubLL es fs → i < es.length → SubL (es.getD i []) (fs.getD i [])
  | [], _, _, _, h => by simp at h
  | a :: r, b :: s, 0, h, _ => by simpa using h.1
  | a :: r, b :: s, i + 1, h, hi => by
    have := SubLL.get (i := i) h.2 (by simpa using hi)
    simpa using this
  | _ :: _, [], _, h, _ => h.elim
theorem rows_sub {α : Type} {f : α → List AV} {d : α} {sz n : Nat} {es : List (List AV)} (l : List α) (hn : n = l.length) (he : n = es.length) (h : SubLL es (l.map f)) (c : Ctx) (u : Value) (hr : Rd (.sl sz n fun i => es.getD i []) c u) : Rd (.sl sz l.length fun i => f (l.getD i d)) c u :=
  Rd.sub hn (fun i hi => by
    have := h.get (i := i) (by omega)
    rwa [map_getD (d := d) (by omega)] at this) hr
theorem bytes_sub {n : Nat} {es : List (List AV)} (l : List UInt8) (hn : n = l.length) (he : es = l.map fun x => [.v (.int .u8 x.toNat)]) (c : Ctx) (u : Value) (hr : Rd (.sl 1 n fun i => es.getD i []) c u) : Rd (bA l) c u :=
  row_sub (f := fun x : UInt8 => [.v (.int .u8 x.toNat)]) l hn he c u hr
set_option maxRecDepth 100000 in
theorem log18_fn : Fn Tryz.prog 16 [.ag (geoC g17), .ag (anC a17), iA [0, 1], .v (.int .u8 7)] fun r => r = txsA log18 := by
  refine Fn.of tys_ok Tryz.func16 rfl rfl (Nat.le_of_ble_eq_true rfl) ?_
  conv => whnf
  repeat' (first | (refine And.intro (by first | exact of_decide_eq_true rfl | rfl) ?_; conv => whnf) | (refine aSeq.go ?_; conv => whnf) | (refine aLoop.rounds 4 ?_; conv => whnf) | fail)
  all_goals
    apply aDraw.treeK 0 tys_ok mixed (.one 0 (.one 1 (.one 2 (.one 3 (.one 4 (.one 5 (.one 6 (.one 7 (.one 8 (.one 9 (.one 10 (.one 11 (.one 12 (.one 13 (.one 14 (.one 15 (.one 16 (.one 17 (.one 18 (.one 19 (.two 20 (.one 21 (.one 22 (.one 23 .fin))) 22 (.one 20 (.one 21 (.one 23 .fin)))))))))))))))))))))))) (by kernel_rfl)
    conv => whnf
    repeat' (first | (refine And.intro (by first | omega | exact of_decide_eq_true rfl) ?_; conv => whnf) | (refine And.intro ?_ ?_ <;> conv => whnf) | fail)
  all_goals repeat' (first | (refine And.intro (by first | exact of_decide_eq_true rfl | rfl) ?_; conv => whnf) | (refine aSeq.go ?_; conv => whnf) | (refine aLoop.rounds 4 ?_; conv => whnf) | fail)
  all_goals
    apply aDraw.treeK 0 tys_ok mixed (.one 0 (.one 1 (.one 2 (.one 3 (.one 4 (.one 5 (.one 6 (.one 7 (.one 8 (.one 9 (.one 10 (.one 11 (.one 12 (.one 13 (.one 14 (.one 15 (.one 16 (.one 17 (.one 18 (.one 19 (.two 20 (.one 21 (.one 22 (.one 23 .fin))) 22 (.one 20 (.one 21 (.one 23 .fin)))))))))))))))))))))))) (by kernel_rfl)
    conv => whnf
    repeat' (first | (refine And.intro (by first | omega | exact of_decide_eq_true rfl) ?_; conv => whnf) | (refine And.intro ?_ ?_ <;> conv => whnf) | fail)
  all_goals repeat' (first | (refine And.intro (by first | exact of_decide_eq_true rfl | rfl) ?_; conv => whnf) | (refine aSeq.go ?_; conv => whnf) | (refine aLoop.rounds 4 ?_; conv => whnf) | fail)
  all_goals
    apply aDraw.treeK 0 tys_ok mixed (.one 0 (.one 1 (.one 2 (.one 3 (.one 4 (.one 5 (.one 6 (.one 7 (.one 8 (.one 9 (.one 10 (.one 11 (.one 12 (.one 13 (.one 14 (.one 15 (.one 16 (.one 17 (.one 18 (.one 19 (.two 20 (.one 21 (.one 22 (.one 23 .fin))) 22 (.one 20 (.one 21 (.one 23 .fin)))))))))))))))))))))))) (by kernel_rfl)
    conv => whnf
    repeat' (first | (refine And.intro (by first | omega | exact of_decide_eq_true rfl) ?_; conv => whnf) | (refine And.intro ?_ ?_ <;> conv => whnf) | fail)
  all_goals repeat' (first | (refine And.intro (by first | exact of_decide_eq_true rfl | rfl) ?_; conv => whnf) | (refine aSeq.go ?_; conv => whnf) | (refine aLoop.rounds 4 ?_; conv => whnf) | fail)
  all_goals
    refine ⟨txsA log18, rows_sub (f := txC) log18 rfl rfl ?_, rfl⟩
    refine And.intro ?_ (And.intro ?_ trivial)
    · refine And.intro (fun _ _ h => h) (And.intro (fun _ _ h => h) (And.intro (fun _ _ h => h) (And.intro ?_ trivial)))
      refine rows_sub (f := imgC) [⟨0, -1, [7, 0, 0, 1, 2, 3, 4, 5]⟩] rfl rfl ?_
      refine And.intro ?_ trivial
      exact And.intro (fun _ _ h => h) (And.intro (fun _ _ h => h) (And.intro (bytes_sub _ rfl rfl) trivial))
    · refine And.intro (fun _ _ h => h) (And.intro (fun _ _ h => h) (And.intro (fun _ _ h => h) (And.intro ?_ trivial)))
      refine rows_sub (f := imgC) [⟨0, 0, [7, 1, 0, 1, 2, 3, 4, 5]⟩, ⟨0, 0, [7, 1, 1, 1, 2, 3, 4, 5]⟩] rfl rfl ?_
      refine And.intro ?_ (And.intro ?_ trivial)
      · exact And.intro (fun _ _ h => h) (And.intro (fun _ _ h => h) (And.intro (bytes_sub _ rfl rfl) trivial))
      · exact And.intro (fun _ _ h => h) (And.intro (fun _ _ h => h) (And.intro (bytes_sub _ rfl rfl) trivial))
end Go.Proofs.YteecmgonbdbhdaaGreatDoor.A
end

/-
Package scan: a record is looked for, the readings being the caller's own rows.
-/
section
namespace Go.Proofs.YteecmgonbdbhdaaGreatDoor.A
open Go.RowKit

/-- The scanner's cells. -/
@[reducible] def scX (g : Geo) (a : An) (x y : AV) (pos seq left : Int) (w : AV) : List AV :=
  [.v (.int .i64 g.z), .v (.int .i64 g.d), .v (.int .i64 g.sp), .v (.int .i64 g.sl), .v (.int .i64 g.an), .v (.int .i64 a.gen), .v (.int .i64 a.epoch), .v (.int .i64 a.pos), .v (.int .i64 a.seq), .v (.int .i64 a.last), .v (.string a.label), hmsA a.homes, x, y, .v (.int .i64 pos), .v (.int .i64 seq), .v (.int .i64 left), w]
set_option maxRecDepth 100000 in
theorem recordO_fn (g : Geo) (a : An) (x y : List Gt) (pos seq left at_ of_ : Int) (n : Nat) (W : List Wr) (hg : okG g = true) (ha : anOk g a = true) (hl : a.label.size ≤ 1000000) (hh : a.homes.length ≤ 1000000) (hx : x.length = g.sl) (hy : y.length = g.sl) (hxb : ∀ z ∈ x, z.bytes.length ≤ 100000) (hyb : ∀ z ∈ y, z.bytes.length ≤ 100000) (hp : 0 ≤ pos ∧ pos < g.sl) (hat : 0 ≤ at_ ∧ at_ ≤ 1000) :
    ACalls Tryz.prog false 46 [.bp 0 0, .v (.int .i64 at_), .v (.int .i64 of_)] [.box 63 (scX g a (.ow 2 x.length) (.ow 3 y.length) pos seq left (.ow 1 n)), .row 72 2 (W.map wrC), .row 54 2 (x.map gotC), .row 54 2 (y.map gotC)]
      fun r H => r = .tp [.ag (rcC (recM g a x y pos seq left at_ of_).1), .v (.int .i64 (recM g a x y pos seq left at_ of_).2.1), .ow 6 (recM g a x y pos seq left at_ of_).2.2.length] ∧
        H = [.box 63 (scX g a (.ow 2 x.length) (.ow 3 y.length) pos seq left (.ow 1 n)), .row 72 2 (W.map wrC), .row 54 2 (x.map gotC), .row 54 2 (y.map gotC), .dead, .dead, .row 72 2 ((recM g a x y pos seq left at_ of_).2.2.map wrC)] := by
  obtain ⟨h1, h2, h3, h4, h5⟩ := okG_iff.1 hg
  refine ACalls.ofO tys_ok Tryz.func46 rfl rfl (by show 3 ≤ _; decide) ?_
  conv => whnf
  refine aDraw.seq tys_ok mixed (by kernel_rfl) ?_
  conv => whnf
  refine And.intro (by omega) ?_
  conv => whnf
  have hw : IntKind.i64.wrap (pos + at_) = pos + at_ := by rw [IntKind.wrap_i64]; omega
  have hs : 0 ≤ slotM g pos at_ ∧ slotM g pos at_ < g.sl := ⟨Int.tmod_nonneg _ (by rw [hw]; omega), Int.tmod_lt_of_pos _ (by omega)⟩
  have hs' : 0 ≤ (IntKind.i64.wrap (pos + at_)).tmod g.sl ∧ (IntKind.i64.wrap (pos + at_)).tmod g.sl < g.sl := hs
  have hX : (x.getD (slotM g pos at_).toNat gz).bytes.length ≤ 100000 := hxb _ (getD_mem (by omega))
  have hY : (y.getD (slotM g pos at_).toNat gz).bytes.length ≤ 100000 := hyb _ (getD_mem (by omega))
  have lk := look_is (g := g) (a := a) (x := x.getD (slotM g pos at_).toNat gz) (y := y.getD (slotM g pos at_).toNat gz) (slot := slotM g pos at_) (seq := seq) (at_ := at_) (of_ := of_) (left := left) hl hh hX hY hg ha (inB_iff.2 (by omega)) rfl
  have hF := lookR_facts (g := g) (a := a) (x := x.getD (slotM g pos at_).toNat gz) (y := y.getD (slotM g pos at_).toNat gz) (slot := slotM g pos at_) (seq := seq) (at_ := at_) (of_ := of_) (left := left) hs
  unfold recM
  simp only
  generalize lookR g a (x.getD (slotM g pos at_).toNat gz) (y.getD (slotM g pos at_).toNat gz) (slotM g pos at_) seq at_ of_ left = q at lk hF ⊢
  obtain ⟨r, wants, how⟩ := q
  simp only at hF ⊢
  have hgx : (x.map gotC).getD ((IntKind.i64.wrap (pos + at_)).tmod g.sl).toNat [] = gotC (x.getD (slotM g pos at_).toNat gz) := map_getD (by have := hs.2; show (slotM g pos at_).toNat < _; omega)
  have hgy : (y.map gotC).getD ((IntKind.i64.wrap (pos + at_)).tmod g.sl).toNat [] = gotC (y.getD (slotM g pos at_).toNat gz) := map_getD (by have := hs.2; show (slotM g pos at_).toNat < _; omega)
  apply aDraw.tree tys_ok mixed (.one 0 (.one 1 (.one 2 (.one 3 (.one 4 (.one 5 (.one 6 (.one 7 (.one 8 (.one 9 (.one 10 (.one 11 (.one 12 (.one 13 (.one 14 (.one 15 (.one 16 (.one 17 (.one 18 (.one 19 (.one 20 (.one 21 (.one 22 (.one 23 (.one 24 (.one 25 (.one 26 (.one 27 (.one 28 (.one 29 (.one 30 (.one 31 (.one 32 (.two 33 (.one 34 (.one 35 (.one 36 (.one 37 (.one 38 (.one 39 (.one 40 (.one 41 (.one 42 (.one 43 .fin)))))))))) 39 (.one 33 (.one 34 (.one 35 (.one 36 (.one 37 (.one 38 (.one 40 (.one 41 (.one 42 (.one 43 .fin)))))))))))))))))))))))))))))))))))))))))))) [10, 11, 12, 13, 33, 34, 35, 36, 37, 38, 39, 40, 41, 42, 43, 44, 45, 46, 47, 48, 49, 50, 51, 52, 53, 54, 55, 56, 57, 58, 59, 60, 61, 62, 63, 64, 65, 66, 67, 68, 69, 70, 71] (by kernel_rfl)
  · conv => whnf
    repeat' (first | (refine And.intro ⟨rfl, by rw [List.length_map], by omega⟩ ?_; conv => whnf; first | rw [hgx] | rw [hgy]; conv => whnf) | (refine And.intro (by omega) ?_; conv => whnf) | fail)
    try (refine And.intro (by omega) ?_; conv => whnf)
    try (refine And.intro (by omega) ?_; conv => whnf)
    refine And.intro ?_ ?_
    · conv => whnf
      refine Fn.closed (lk) rfl ?_
      rintro _ rfl
      conv => whnf
      exact ⟨rfl, rfl⟩
    · conv => whnf
      refine Fn.closed (lk) rfl ?_
      rintro _ rfl
      conv => whnf
      exact ⟨rfl, rfl⟩
  conv => whnf
  refine aLoop.rule Nat (fun k => ([(0, .bp 0 0), (6, .bp 4 0), (9, .v (.int .i64 (slotM g pos at_))), (10, .bp 5 0), (12, .v (.int .i64 how)), (14, .ow 6 k), (72, iA wants), (73, .v (.int .i64 wants.length)), (74, .v (.int .i64 k))], [.box 63 (scX g a (.ow 2 x.length) (.ow 3 y.length) pos seq left (.ow 1 n)), .row 72 2 (W.map wrC), .row 54 2 (x.map gotC), .row 54 2 (y.map gotC), .box 76 [.v (.int .i64 0), .v (.int .i64 0), .v (.int .i64 0), .v (.int .i64 0), .v (.int .i64 0), .v (.int .i64 0), .v (.int .i64 0), .v (.slice none 0 0)], .box 76 (rcC r), .row 72 2 ((wants.take k).map fun c => wrC ⟨logAt g c (slotM g pos at_), cellB g r c (slotM g pos at_)⟩)])) (fun k => k ≤ wants.length) (fun k => wants.length - k) 0 (Nat.zero_le _) ⟨[(14, 72, 2)], ⟨rfl, rfl, trivial⟩, ⟨rfl, rfl, rfl, rfl, rfl, rfl, rfl, rfl, rfl, trivial⟩, ⟨rfl, rfl, rfl, rfl, rfl, rfl, rfl, trivial⟩, rfl, rfl, rfl⟩ ?_
  rintro k hk
  conv => whnf
  refine boolI (fun h6 => ?_) (fun h6 => ?_) <;> (repeat rw [Int.toNat_natCast] at h6) <;> conv => whnf
  · rcases hF with ⟨rfl, ⟨q1, q2, q3⟩, q4, q5⟩ | ⟨-, q4, -⟩
    · have hc := q5 (wants.getD k 0) (getD_mem (by omega))
      have lg := log_fn g (wants.getD k 0) (slotM g pos at_)
      rw [hg, hc] at lg
      have rl := rcell_br g r (wants.getD k 0) (slotM g pos at_) (by omega)
      rw [q1, hc] at rl
      refine aSeq.go ?_
      conv => whnf
      refine ⟨by first | omega | (refine ⟨rfl, ?_, ?_⟩ <;> first | omega | (simp only [List.length_map]; done) | (simp only [List.length_map]; omega)) | (simp only [List.length_map]; omega), ?_⟩
      conv => whnf
      repeat' (first | (refine aSeq.go ?_; conv => whnf) | (refine boolI (fun _ => ?_) (fun _ => ?_) <;> conv => whnf) | (refine Fn.closed (lg) rfl ?_; rintro _ rfl; conv => whnf) | (refine Fn.closed (rl) rfl ?_; rintro _ rfl; conv => whnf) | (refine And.intro (by first | omega | exact of_decide_eq_true rfl) ?_; conv => whnf) | fail)
      refine aDraw.seq tys_ok mixed (by kernel_rfl) ?_
      conv => whnf
      repeat' (first | (refine aSeq.go ?_; conv => whnf) | (refine boolI (fun _ => ?_) (fun _ => ?_) <;> conv => whnf) | (refine Fn.closed (lg) rfl ?_; rintro _ rfl; conv => whnf) | (refine Fn.closed (rl) rfl ?_; rintro _ rfl; conv => whnf) | (refine And.intro (by first | omega | exact of_decide_eq_true rfl) ?_; conv => whnf) | fail)
      refine And.intro ⟨by simp; omega, by omega⟩ ?_
      conv => whnf
      exact ⟨k + 1, by omega, by omega, [], trivial, ⟨rfl, rfl, rfl, rfl, rfl, rfl, rfl, rfl, wsucc (by omega), trivial⟩, ⟨rfl, rfl, rfl, rfl, rfl, rfl, congrArg (AB.row _ _) (take_map_succ h6), trivial⟩, rfl, rfl, rfl⟩
    · exfalso
      rw [q4] at h6
      simp at h6
  · have ek : k = wants.length := by omega
    subst ek
    rw [List.take_length]
    refine ⟨.tp [.ag (rcC r), .v (.int .i64 how), .ow 6 (wants.map fun c => (⟨logAt g c (slotM g pos at_), cellB g r c (slotM g pos at_)⟩ : Wr)).length], [.box 63 (scX g a (.ow 2 x.length) (.ow 3 y.length) pos seq left (.ow 1 n)), .row 72 2 (W.map wrC), .row 54 2 (x.map gotC), .row 54 2 (y.map gotC), .dead, .dead, .row 72 2 ((wants.map fun c => (⟨logAt g c (slotM g pos at_), cellB g r c (slotM g pos at_)⟩ : Wr)).map wrC)], fun c v h => ?_, ⟨rfl, rfl, rfl, rfl, ?_, trivial⟩, rfl, ⟨rfl, rfl⟩, rfl, rfl⟩
    · rw [List.length_map]
      exact h
    · rw [List.map_map]
      rfl
end Go.Proofs.YteecmgonbdbhdaaGreatDoor.A
end

/-
Package scan: a transaction, the readings being the caller's own rows.
-/
section
namespace Go.Proofs.YteecmgonbdbhdaaGreatDoor.A
open Go.RowKit

theorem lt03 {m : Nat} (h : Nat.ble 4 m = true) : ∀ z ∈ [0, 1, 2, 3], z < m := fun z hz => by
  have := Nat.le_of_ble_eq_true h
  simp at hz
  omega
set_option maxRecDepth 100000 in
theorem txnO_fn18 (g : Geo) (a : An) (x y : List Gt) (pos seq left : Int) (n : Nat) (W : List Wr) (hn : n = W.length) (hW : W.length ≤ 1000) (hg : okG g = true) (ha : anOk g a = true) (hl : a.label.size ≤ 1000000) (hh : a.homes.length ≤ 1000000) (hx : x.length = g.sl) (hy : y.length = g.sl) (hxb : ∀ z ∈ x, z.bytes.length ≤ 100000) (hyb : ∀ z ∈ y, z.bytes.length ≤ 100000) (hp : 0 ≤ pos ∧ pos < g.sl) (hs : 0 ≤ seq ∧ seq ≤ 4294967295) (hlf : left ≤ g.sl) :
    ACalls Tryz.prog false 22 [.bp 0 0] [.box 63 (scX g a (.ow 2 x.length) (.ow 3 y.length) pos seq left (.ow 1 n)), .row 72 2 (W.map wrC), .row 54 2 (x.map gotC), .row 54 2 (y.map gotC)]
      fun r H => r = .tp [.ag (txC (if (txnM g a x y pos seq left).1 = 1 then ⟨seq, pos, (txnM g a x y pos seq left).2.1, (txnM g a x y pos seq left).2.2.1⟩ else ⟨0, 0, 0, []⟩)), .v (.int .i64 (txnM g a x y pos seq left).1)] ∧
        H = (if (txnM g a x y pos seq left).1 = 1 then [.box 63 (scX g a (.ow 2 x.length) (.ow 3 y.length) ((pos + (txnM g a x y pos seq left).2.1).tmod g.sl) (seq + 1) (left - (txnM g a x y pos seq left).2.1) (.ow 1 (W ++ (txnM g a x y pos seq left).2.2.2).length)), .row 72 2 ((W ++ (txnM g a x y pos seq left).2.2.2).map wrC), .row 54 2 (x.map gotC), .row 54 2 (y.map gotC)] else [.box 63 (scX g a (.ow 2 x.length) (.ow 3 y.length) pos seq left (.ow 1 n)), .row 72 2 (W.map wrC), .row 54 2 (x.map gotC), .row 54 2 (y.map gotC)]) := by
  obtain ⟨h1, h2, h3, h4, h5⟩ := okG_iff.1 hg
  have rc := fun at_ of_ hat => recordO_fn g a x y pos seq left at_ of_ n W hg ha hl hh hx hy hxb hyb hp hat
  have rf := fun at_ of_ hat => recM_facts (a := a) (x := x) (y := y) (seq := seq) (left := left) (of_ := of_) (at_ := at_) hg hp hat
  have rc0 := rc 0 0 (by omega)
  have rf0 := rf 0 0 (by omega)
  unfold txnM
  simp only
  generalize recM g a x y pos seq left 0 0 = q0 at rc0 rf0 ⊢
  obtain ⟨r0, how0, ws0⟩ := q0
  simp only at rc0 rf0 ⊢
  rcases rf0 with ⟨rfl, ⟨k1, k2, k3⟩, k4⟩ | ⟨k1, rfl, rfl⟩
  · have hN := one_of k1 k3
    have hw1 : IntKind.i64.wrap (pos + r0.of_) = pos + r0.of_ := by rw [IntKind.wrap_i64]; omega
    have hw2 : IntKind.i64.wrap (seq + 1) = seq + 1 := by rw [IntKind.wrap_i64]; omega
    have hw3 : IntKind.i64.wrap (left - r0.of_) = left - r0.of_ := by have := hN.2.2.2.2.1 rfl; rw [IntKind.wrap_i64]; omega
    rw [if_neg (show ¬ (1 : Int) ≠ 1 by decide)]
    generalize hG : gatherM (fun k => recM g a x y pos seq left k r0.of_) (r0.of_ - 1).toNat 1 r0 [] ws0 = G
    refine ACalls.of tys_ok Tryz.func22 rfl rfl (by show 1 ≤ _; decide) ?_
    conv => whnf
    refine ACalls.frame [0, 1, 2, 3] rc0 rfl rfl rfl rfl (by decide) (lt03 rfl) ⟨rfl, rfl, rfl, rfl, trivial⟩ ?_
    rintro _ _ ⟨rfl, rfl⟩
    conv => whnf
    refine aDraw.seq tys_ok mixed (by kernel_rfl) ?_
    conv => whnf
    refine aLoop.rule (Nat × Rc × List Img × List Wr) (fun z => ([(0, .bp 0 0), (2, .bp 4 0), (3, .v (.int .i64 1)), (4, .bp 8 0), (5, .ow 7 z.2.2.2.length), (6, .v (.int .i64 z.1))], [.box 63 (scX g a (.ow 2 x.length) (.ow 3 y.length) pos seq left (.ow 1 n)), .row 72 2 (W.map wrC), .row 54 2 (x.map gotC), .row 54 2 (y.map gotC), .box 51 [.v (.int .i64 seq), .v (.int .i64 pos), .v (.int .i64 r0.of_), .ow 9 z.2.2.1.length], .dead, .dead, .row 72 2 (z.2.2.2.map wrC), .box 76 (rcC z.2.1), .row 74 3 (z.2.2.1.map imgC)]))
      (fun z => (1 ≤ z.1 ∧ z.1 ≤ r0.of_) ∧ (okR g z.2.1 = true ∧ z.2.1.img.bytes.length ≤ 59) ∧ (z.2.2.1.length ≤ z.1 ∧ z.2.2.2.length ≤ z.1) ∧ gatherM (fun k => recM g a x y pos seq left k r0.of_) (r0.of_ - z.1).toNat z.1 z.2.1 z.2.2.1 z.2.2.2 = G)
      (fun z => (r0.of_ - z.1).toNat) (1, r0, [], ws0) ⟨⟨Nat.le_refl 1, show ((1 : Nat) : Int) ≤ r0.of_ by omega⟩, ⟨k1, k2⟩, ⟨Nat.zero_le _, k4⟩, hG⟩ ⟨[(1004003, 74, 3)], ⟨rfl, rfl, trivial⟩, ⟨rfl, rfl, rfl, rfl, rfl, rfl, trivial⟩, ⟨rfl, rfl, rfl, rfl, rfl, rfl, rfl, rfl, trivial⟩, rfl, rfl, rfl⟩ ?_
    rintro ⟨k, r, im, w⟩ ⟨⟨b1, b2⟩, ⟨b3, b4⟩, ⟨b5, b6⟩, b7⟩
    dsimp only at b1 b2 b3 b4 b5 b6 b7 ⊢
    conv => whnf
    refine aSeq.go ?_
    conv => whnf
    refine aSeq.cut (List Img) (fun im2 => ([(0, .bp 0 0), (2, .bp 4 0), (3, .v (.int .i64 1)), (4, .bp 8 0), (5, .ow 7 w.length), (6, .v (.int .i64 k))], [.box 63 (scX g a (.ow 2 x.length) (.ow 3 y.length) pos seq left (.ow 1 n)), .row 72 2 (W.map wrC), .row 54 2 (x.map gotC), .row 54 2 (y.map gotC), .box 51 [.v (.int .i64 seq), .v (.int .i64 pos), .v (.int .i64 r0.of_), .ow 9 im2.length], .dead, .dead, .row 72 2 (w.map wrC), .box 76 (rcC r), .row 74 3 (im2.map imgC)])) (fun im2 => im2 = if r.kind = 1 then im ++ [r.img] else im) ?_ ?_
    · conv => whnf
      refine boolI (fun hk => ?_) (fun hk => ?_) <;> (repeat rw [Int.toNat_natCast] at hk) <;> conv => whnf
      · repeat' (first | (refine aSeq.go ?_; conv => whnf) | (refine boolI (fun _ => ?_) (fun _ => ?_) <;> conv => whnf) | (refine Fn.closed (clone_br r.img.bytes (by omega)) rfl ?_; rintro _ rfl; conv => whnf) | (refine And.intro (by first | omega | exact of_decide_eq_true rfl) ?_; conv => whnf) | fail)
        refine And.intro ⟨by simp, by omega⟩ ?_
        conv => whnf
        exact ⟨im ++ [r.img], by rw [if_pos hk], [], trivial, ⟨rfl, rfl, rfl, rfl, rfl, rfl, trivial⟩, ⟨rfl, rfl, rfl, rfl, by rw [List.length_append]; rfl, rfl, rfl, by rw [List.map_append]; rfl, trivial⟩, rfl, rfl, rfl⟩
      · exact ⟨im, by rw [if_neg hk], [], trivial, ⟨rfl, rfl, rfl, rfl, rfl, rfl, trivial⟩, ⟨rfl, rfl, rfl, rfl, rfl, rfl, rfl, rfl, trivial⟩, rfl, rfl, rfl⟩
    · rintro im2 him
      have hl2 : im2.length ≤ k + 1 := by
        rw [him]
        split
        · rw [List.length_append]
          simp only [List.length_cons, List.length_nil]
          omega
        · omega
      conv => whnf
      refine boolI (fun hkN => ?_) (fun hkN => ?_) <;> (repeat rw [Int.toNat_natCast] at hkN) <;> conv => whnf
      · refine And.intro (by rw [List.length_map]) ?_
        conv => whnf
        refine And.intro ⟨by rw [List.length_map]; exact hn, by omega⟩ ?_
        conv => whnf
        apply aDraw.treeM 235929600 tys_ok mixed (.one 0 (.one 1 (.one 2 (.one 3 (.one 4 (.one 5 (.one 6 (.one 7 (.one 8 (.one 9 (.one 10 (.one 11 (.one 12 (.one 13 (.one 14 (.one 15 (.one 16 (.one 17 (.one 18 (.one 19 (.one 21 (.one 22 (.one 23 (.one 24 (.one 28 (.one 29 (.three 20 (.two 25 (.two 26 (.two 27 (.one 30 (.one 31 (.one 32 (.one 33 (.one 34 (.one 35 (.one 36 .fin))))))) 30 (.one 31 (.one 32 (.two 27 (.one 33 (.one 34 (.one 35 (.one 36 .fin)))) 33 (.one 27 (.one 34 (.one 35 (.one 36 .fin)))))))) 30 (.one 31 (.one 32 (.two 26 (.two 27 (.one 33 (.one 34 (.one 35 (.one 36 .fin)))) 33 (.one 27 (.one 34 (.one 35 (.one 36 .fin))))) 33 (.one 26 (.one 27 (.one 34 (.one 35 (.one 36 .fin))))))))) 30 (.one 31 (.one 32 (.two 25 (.two 26 (.two 27 (.one 33 (.one 34 (.one 35 (.one 36 .fin)))) 33 (.one 27 (.one 34 (.one 35 (.one 36 .fin))))) 33 (.one 26 (.one 27 (.one 34 (.one 35 (.one 36 .fin)))))) 33 (.one 25 (.one 26 (.one 27 (.one 34 (.one 35 (.one 36 .fin)))))))))) 25 (.three 20 (.two 26 (.two 27 (.one 30 (.one 31 (.one 32 (.one 33 (.one 34 (.one 35 (.one 36 .fin))))))) 30 (.one 31 (.one 32 (.two 27 (.one 33 (.one 34 (.one 35 (.one 36 .fin)))) 33 (.one 27 (.one 34 (.one 35 (.one 36 .fin)))))))) 30 (.one 31 (.one 32 (.two 26 (.two 27 (.one 33 (.one 34 (.one 35 (.one 36 .fin)))) 33 (.one 27 (.one 34 (.one 35 (.one 36 .fin))))) 33 (.one 26 (.one 27 (.one 34 (.one 35 (.one 36 .fin))))))))) 26 (.three 20 (.two 27 (.one 30 (.one 31 (.one 32 (.one 33 (.one 34 (.one 35 (.one 36 .fin))))))) 30 (.one 31 (.one 32 (.two 27 (.one 33 (.one 34 (.one 35 (.one 36 .fin)))) 33 (.one 27 (.one 34 (.one 35 (.one 36 .fin)))))))) 27 (.two 20 (.one 30 (.one 31 (.one 32 (.one 33 (.one 34 (.one 35 (.one 36 .fin))))))) 30 (.one 20 (.one 31 (.one 32 (.one 33 (.one 34 (.one 35 (.one 36 .fin)))))))) 30 (.two 20 (.one 31 (.one 32 (.two 27 (.one 33 (.one 34 (.one 35 (.one 36 .fin)))) 33 (.one 27 (.one 34 (.one 35 (.one 36 .fin))))))) 27 (.one 20 (.one 31 (.one 32 (.one 33 (.one 34 (.one 35 (.one 36 .fin))))))))) 30 (.two 20 (.one 31 (.one 32 (.two 26 (.two 27 (.one 33 (.one 34 (.one 35 (.one 36 .fin)))) 33 (.one 27 (.one 34 (.one 35 (.one 36 .fin))))) 33 (.one 26 (.one 27 (.one 34 (.one 35 (.one 36 .fin)))))))) 26 (.two 20 (.one 31 (.one 32 (.two 27 (.one 33 (.one 34 (.one 35 (.one 36 .fin)))) 33 (.one 27 (.one 34 (.one 35 (.one 36 .fin))))))) 27 (.one 20 (.one 31 (.one 32 (.one 33 (.one 34 (.one 35 (.one 36 .fin)))))))))) 30 (.two 20 (.one 31 (.one 32 (.two 25 (.two 26 (.two 27 (.one 33 (.one 34 (.one 35 (.one 36 .fin)))) 33 (.one 27 (.one 34 (.one 35 (.one 36 .fin))))) 33 (.one 26 (.one 27 (.one 34 (.one 35 (.one 36 .fin)))))) 33 (.one 25 (.one 26 (.one 27 (.one 34 (.one 35 (.one 36 .fin))))))))) 25 (.two 20 (.one 31 (.one 32 (.two 26 (.two 27 (.one 33 (.one 34 (.one 35 (.one 36 .fin)))) 33 (.one 27 (.one 34 (.one 35 (.one 36 .fin))))) 33 (.one 26 (.one 27 (.one 34 (.one 35 (.one 36 .fin)))))))) 26 (.two 20 (.one 31 (.one 32 (.two 27 (.one 33 (.one 34 (.one 35 (.one 36 .fin)))) 33 (.one 27 (.one 34 (.one 35 (.one 36 .fin))))))) 27 (.one 20 (.one 31 (.one 32 (.one 33 (.one 34 (.one 35 (.one 36 .fin))))))))))))))))))))))))))))))))))))) [76, 77, 78, 79, 80, 81, 82, 83, 84, 85, 86, 87, 88, 89, 90, 91, 92, 93, 94, 95, 96, 97, 98, 99, 100, 101, 102, 103, 104, 105, 106, 107, 108, 109] (by kernel_rfl)
        · conv => whnf
          refine And.intro (by omega) ?_
          conv => whnf
          refine And.intro ?_ (And.intro ?_ ?_)
          · conv => whnf
            refine And.intro ?_ ?_
            · conv => whnf
              refine And.intro ?_ ?_
              · conv => whnf
                refine And.intro ?_ ?_
                · conv => whnf
                  exact ⟨rfl, rfl⟩
                · conv => whnf
                  refine And.intro ?_ ?_
                  · conv => whnf
                    exact ⟨rfl, rfl⟩
                  · conv => whnf
                    exact ⟨rfl, rfl⟩
              · conv => whnf
                refine And.intro ?_ ?_
                · conv => whnf
                  refine And.intro ?_ ?_
                  · conv => whnf
                    exact ⟨rfl, rfl⟩
                  · conv => whnf
                    exact ⟨rfl, rfl⟩
                · conv => whnf
                  exact ⟨rfl, rfl⟩
            · conv => whnf
              refine And.intro ?_ ?_
              · conv => whnf
                refine And.intro ?_ ?_
                · conv => whnf
                  refine And.intro ?_ ?_
                  · conv => whnf
                    exact ⟨rfl, rfl⟩
                  · conv => whnf
                    exact ⟨rfl, rfl⟩
                · conv => whnf
                  exact ⟨rfl, rfl⟩
              · conv => whnf
                exact ⟨rfl, rfl⟩
          · conv => whnf
            refine And.intro ?_ (And.intro ?_ ?_)
            · conv => whnf
              refine And.intro ?_ ?_
              · conv => whnf
                refine And.intro ?_ ?_
                · conv => whnf
                  exact ⟨rfl, rfl⟩
                · conv => whnf
                  refine And.intro ?_ ?_
                  · conv => whnf
                    exact ⟨rfl, rfl⟩
                  · conv => whnf
                    exact ⟨rfl, rfl⟩
              · conv => whnf
                refine And.intro ?_ ?_
                · conv => whnf
                  refine And.intro ?_ ?_
                  · conv => whnf
                    exact ⟨rfl, rfl⟩
                  · conv => whnf
                    exact ⟨rfl, rfl⟩
                · conv => whnf
                  exact ⟨rfl, rfl⟩
            · conv => whnf
              refine And.intro ?_ (And.intro ?_ ?_)
              · conv => whnf
                refine And.intro ?_ ?_
                · conv => whnf
                  exact ⟨rfl, rfl⟩
                · conv => whnf
                  refine And.intro ?_ ?_
                  · conv => whnf
                    exact ⟨rfl, rfl⟩
                  · conv => whnf
                    exact ⟨rfl, rfl⟩
              · conv => whnf
                refine And.intro ?_ ?_
                · conv => whnf
                  exact ⟨rfl, rfl⟩
                · conv => whnf
                  exact ⟨rfl, rfl⟩
              · conv => whnf
                refine And.intro ?_ ?_
                · conv => whnf
                  refine And.intro ?_ ?_
                  · conv => whnf
                    exact ⟨rfl, rfl⟩
                  · conv => whnf
                    exact ⟨rfl, rfl⟩
                · conv => whnf
                  exact ⟨rfl, rfl⟩
            · conv => whnf
              refine And.intro ?_ ?_
              · conv => whnf
                refine And.intro ?_ ?_
                · conv => whnf
                  refine And.intro ?_ ?_
                  · conv => whnf
                    exact ⟨rfl, rfl⟩
                  · conv => whnf
                    exact ⟨rfl, rfl⟩
                · conv => whnf
                  exact ⟨rfl, rfl⟩
              · conv => whnf
                refine And.intro ?_ ?_
                · conv => whnf
                  refine And.intro ?_ ?_
                  · conv => whnf
                    exact ⟨rfl, rfl⟩
                  · conv => whnf
                    exact ⟨rfl, rfl⟩
                · conv => whnf
                  exact ⟨rfl, rfl⟩
          · conv => whnf
            refine And.intro ?_ ?_
            · conv => whnf
              refine And.intro ?_ ?_
              · conv => whnf
                refine And.intro ?_ ?_
                · conv => whnf
                  refine And.intro ?_ ?_
                  · conv => whnf
                    exact ⟨rfl, rfl⟩
                  · conv => whnf
                    exact ⟨rfl, rfl⟩
                · conv => whnf
                  exact ⟨rfl, rfl⟩
              · conv => whnf
                exact ⟨rfl, rfl⟩
            · conv => whnf
              refine And.intro ?_ ?_
              · conv => whnf
                refine And.intro ?_ ?_
                · conv => whnf
                  refine And.intro ?_ ?_
                  · conv => whnf
                    exact ⟨rfl, rfl⟩
                  · conv => whnf
                    exact ⟨rfl, rfl⟩
                · conv => whnf
                  exact ⟨rfl, rfl⟩
              · conv => whnf
                refine And.intro ?_ ?_
                · conv => whnf
                  refine And.intro ?_ ?_
                  · conv => whnf
                    exact ⟨rfl, rfl⟩
                  · conv => whnf
                    exact ⟨rfl, rfl⟩
                · conv => whnf
                  exact ⟨rfl, rfl⟩
        conv => whnf
        refine And.intro (by rw [List.length_map]) ?_
        conv => whnf
        have e0 : (r0.of_ - (k : Int)).toNat = 0 := by omega
        rw [e0] at b7
        simp only [gatherM] at b7
        rw [← him] at b7
        subst b7
        rw [hw1, hw2, hw3]
        refine ⟨.tp [.ag (txC ⟨seq, pos, r0.of_, im2⟩), .v (.int .i64 1)], [.box 63 (scX g a (.ow 2 x.length) (.ow 3 y.length) ((pos + r0.of_).tmod g.sl) (seq + 1) (left - r0.of_) (.ow 1 (W ++ w).length)), .row 72 2 ((W ++ w).map wrC), .row 54 2 (x.map gotC), .row 54 2 (y.map gotC)], ?_, ⟨?_, ?_, rfl, rfl, trivial⟩, rfl, rfl, rfl, rfl⟩
        · refine tp_sub ?_
          exact ⟨ag_sub ⟨fun _ _ h => h, fun _ _ h => h, fun _ _ h => h, row_sub im2 rfl rfl, trivial⟩, fun _ _ h => h, trivial⟩
        · rw [List.length_append, ← hn]
        · rw [List.map_append]
      · have rck := rc k r0.of_ (by omega)
        have rfk := rf k r0.of_ (by omega)
        rw [show (r0.of_ - (k : Int)).toNat = (r0.of_ - ((k + 1 : Nat) : Int)).toNat + 1 by omega] at b7
        unfold gatherM at b7
        simp only at b7
        generalize recM g a x y pos seq left k r0.of_ = qk at rck rfk b7
        obtain ⟨rk, hk, wk⟩ := qk
        simp only at rck rfk b7
        rcases rfk with ⟨rfl, ⟨e1, e2, e3⟩, e4⟩ | ⟨e1, rfl, rfl⟩
        · refine ACalls.frame [0, 1, 2, 3] rck rfl rfl rfl rfl (by decide) (lt03 rfl) ⟨rfl, rfl, rfl, rfl, trivial⟩ ?_
          rintro _ _ ⟨rfl, rfl⟩
          conv => whnf
          refine And.intro (by rw [List.length_map]) ?_
          conv => whnf
          refine And.intro ⟨by rw [List.length_map], by omega⟩ ?_
          conv => whnf
          exact ⟨(k + 1, rk, im2, w ++ wk), ⟨⟨Nat.succ_le_succ (Nat.zero_le _), show ((k + 1 : Nat) : Int) ≤ r0.of_ by omega⟩, ⟨e1, e2⟩, ⟨hl2, show (w ++ wk).length ≤ k + 1 by rw [List.length_append]; omega⟩, by rw [if_neg (show ¬ (1 : Int) ≠ 1 by decide), ← him] at b7; exact b7⟩, show (r0.of_ - ((k + 1 : Nat) : Int)).toNat < (r0.of_ - (k : Int)).toNat by omega, [], trivial, ⟨rfl, rfl, rfl, rfl, by rw [List.length_append]; rfl, wsucc (by omega), trivial⟩, ⟨rfl, rfl, rfl, rfl, rfl, by rw [List.map_append], rfl, rfl, trivial⟩, rfl, rfl, rfl⟩
        · rcases e1 with rfl | rfl
          all_goals
            refine ACalls.frame [0, 1, 2, 3] rck rfl rfl rfl rfl (by decide) (lt03 rfl) ⟨rfl, rfl, rfl, rfl, trivial⟩ ?_
            rintro _ _ ⟨rfl, rfl⟩
            conv => whnf
            rw [if_pos (by decide)] at b7
            subst b7
            exact ⟨_, [.box 63 (scX g a (.ow 2 x.length) (.ow 3 y.length) pos seq left (.ow 1 n)), .row 72 2 (W.map wrC), .row 54 2 (x.map gotC), .row 54 2 (y.map gotC)], tx0_sub _, ⟨rfl, rfl, rfl, rfl, trivial⟩, rfl, rfl, rfl, rfl⟩
  · rw [if_pos (show how0 ≠ 1 by omega)]
    simp only [if_neg (show ¬ how0 = 1 by omega)]
    refine ACalls.of tys_ok Tryz.func22 rfl rfl (by show 1 ≤ _; decide) ?_
    rcases k1 with rfl | rfl
    all_goals
      conv => whnf
      refine ACalls.frame [0, 1, 2, 3] rc0 rfl rfl rfl rfl (by decide) (lt03 rfl) ⟨rfl, rfl, rfl, rfl, trivial⟩ ?_
      rintro _ _ ⟨rfl, rfl⟩
      conv => whnf
      exact ⟨_, [.box 63 (scX g a (.ow 2 x.length) (.ow 3 y.length) pos seq left (.ow 1 n)), .row 72 2 (W.map wrC), .row 54 2 (x.map gotC), .row 54 2 (y.map gotC)], tx0_sub _, ⟨rfl, rfl, rfl, rfl, trivial⟩, rfl, rfl, rfl, rfl⟩
end Go.Proofs.YteecmgonbdbhdaaGreatDoor.A
end

/-
Package scan: Scan, the readings being the caller's own rows.
-/
section
namespace Go.Proofs.YteecmgonbdbhdaaGreatDoor.A
open Go.RowKit

theorem lt46 {m : Nat} (h : Nat.ble 7 m = true) : ∀ z ∈ [4, 6, 0, 1], z < m := fun z hz => by
  have := Nat.le_of_ble_eq_true h
  simp at hz
  omega
set_option maxRecDepth 100000 in
set_option maxHeartbeats 4000000 in
theorem scanO_fn (g : Geo) (a : An) (x y : List Gt) (hl : a.label.size ≤ 1000000) (hh : a.homes.length ≤ 1000000) (hxb : ∀ z ∈ x, z.bytes.length ≤ 100000) (hyb : ∀ z ∈ y, z.bytes.length ≤ 100000) :
    ACalls Tryz.prog false 8 [.ag (geoC g), .ag (anC a), .ow 0 x.length, .ow 1 y.length] [.row 54 2 (x.map gotC), .row 54 2 (y.map gotC)] fun r H => r = .tp [txsA (scanA g a x y).1, wrsA (scanA g a x y).2.1, .v (.int .i64 (scanA g a x y).2.2)] ∧ H = [.row 54 2 (x.map gotC), .row 54 2 (y.map gotC)] := by
  have s1 := acheck_fn g a hl hh
  unfold scanA
  cases hA : okG g && anOk g a with
  | false =>
    rw [hA] at s1
    refine ACalls.of tys_ok Tryz.func8 rfl rfl (by show 4 ≤ _; decide) ?_
    conv => whnf
    refine Fn.closed (s1) rfl ?_
    rintro _ rfl
    conv => whnf
    exact ⟨_, [.row 54 2 (x.map gotC), .row 54 2 (y.map gotC)], fun c u h => scan0_sub 1 c u h, ⟨rfl, rfl, trivial⟩, rfl, rfl, rfl, rfl⟩
  | true =>
    rw [hA] at s1
    obtain ⟨hg, ha⟩ := Bool.and_eq_true_iff.1 hA
    obtain ⟨h1, h2, h3, h4, h5⟩ := okG_iff.1 hg
    rw [if_pos rfl]
    by_cases hx : (x.length : Int) = g.sl ∧ (y.length : Int) = g.sl
    · rw [if_pos hx]
      obtain ⟨hx, hy⟩ := hx
      refine ACalls.of tys_ok Tryz.func8 rfl rfl (by show 4 ≤ _; decide) ?_
      conv => whnf
      refine Fn.closed (s1) rfl ?_
      rintro _ rfl
      conv => whnf
      refine boolI (fun t1 => ?_) (fun t1 => ?_) <;> (repeat rw [Int.toNat_natCast] at t1) <;> conv => whnf
      · exact absurd hx t1
      refine boolI (fun t2 => ?_) (fun t2 => ?_) <;> (repeat rw [Int.toNat_natCast] at t2) <;> conv => whnf
      · exact absurd hy t2
      have hq := anOk_seq ha
      unfold scanM
      generalize hR : scanL g a x y g.sl.toNat a.pos a.seq g.sl [] [] = R
      refine aLoop.rule (Nat × Int × Int × Int × List Tx × List Wr) (fun z => ([(5, .bp 3 0), (11, .bp 4 0), (8, .ow 5 z.2.2.2.2.1.length)], [.row 54 2 (x.map gotC), .row 54 2 (y.map gotC), .box 23 (geoC g), .box 26 (anC a), .box 63 (scX g a (.ow 0 x.length) (.ow 1 y.length) z.2.1 z.2.2.1 z.2.2.2.1 (.ow 6 z.2.2.2.2.2.length)), .row 51 4 (z.2.2.2.2.1.map txC), .row 72 2 (z.2.2.2.2.2.map wrC)]))
        (fun z => scanL g a x y z.1 z.2.1 z.2.2.1 z.2.2.2.1 z.2.2.2.2.1 z.2.2.2.2.2 = R ∧ z.2.2.2.1 ≤ z.1 ∧ (0 ≤ z.2.1 ∧ z.2.1 < g.sl) ∧ (0 ≤ z.2.2.1 ∧ z.2.2.1 ≤ 4294967296) ∧ z.2.2.2.2.1.length * 2 + z.2.2.2.1 ≤ g.sl ∧ z.2.2.2.2.2.length ≤ z.2.2.2.2.1.length * 30)
        (fun z => z.1) (g.sl.toNat, a.pos, a.seq, g.sl, [], []) ⟨hR, show g.sl ≤ (g.sl.toNat : Int) by omega, hq.2, hq.1, show (0 : Int) * 2 + g.sl ≤ g.sl by omega, Nat.le_refl 0⟩ ⟨[(8, 51, 4), (1004017, 72, 2)], ⟨rfl, rfl, rfl, rfl, trivial⟩, ⟨rfl, rfl, rfl, trivial⟩, ⟨rfl, rfl, rfl, rfl, rfl, rfl, rfl, trivial⟩, rfl, rfl, rfl⟩ ?_
      rintro ⟨f, pos, seq, left, l, w⟩ ⟨b1, b2, b3, b4, b5, b6⟩
      dsimp only at b1 b2 b3 b4 b5 b6 ⊢
      conv => whnf
      refine boolI (fun c1 => ?_) (fun c1 => ?_) <;> (repeat rw [Int.toNat_natCast] at c1) <;> conv => whnf
      · refine boolI (fun c2 => ?_) (fun c2 => ?_) <;> (repeat rw [Int.toNat_natCast] at c2) <;> conv => whnf
        · cases f with
          | zero => exfalso; omega
          | succ f =>
            unfold scanL at b1
            rw [if_pos ⟨c1, c2⟩] at b1
            simp only at b1
            have tx := txnO_fn18 g a x y pos seq left w.length w rfl (by omega) hg ha hl hh hx hy hxb hyb b3 ⟨b4.1, c2⟩ (by omega)
            have tf := txnM_facts (a := a) (x := x) (y := y) (seq := seq) (left := left) hg b3
            generalize txnM g a x y pos seq left = q at tx tf b1
            obtain ⟨how, n, im, ws⟩ := q
            simp only at tx tf b1
            rcases tf with ⟨rfl, tf1, tf2⟩ | tf
            · rw [if_pos rfl, if_pos rfl] at tx
              have hm := Int.tmod_lt_of_pos (pos + n) (show 0 < g.sl by omega)
              have hm0 := Int.tmod_nonneg g.sl (show 0 ≤ pos + n by omega)
              have hI2 : scanL g a x y f ((pos + n).tmod g.sl) (seq + 1) (left - n) (l ++ [⟨seq, pos, n, im⟩]) (w ++ ws) = R ∧ left - n ≤ (f : Int) ∧ (0 ≤ (pos + n).tmod g.sl ∧ (pos + n).tmod g.sl < g.sl) ∧ (0 ≤ seq + 1 ∧ seq + 1 ≤ 4294967296) ∧ ((l ++ [(⟨seq, pos, n, im⟩ : Tx)]).length : Int) * 2 + (left - n) ≤ g.sl ∧ (w ++ ws).length ≤ (l ++ [(⟨seq, pos, n, im⟩ : Tx)]).length * 30 := by
                rw [if_neg (by decide), if_neg (by decide)] at b1
                rw [List.length_append, List.length_append]
                simp only [List.length_cons, List.length_nil]
                exact ⟨b1, by omega, ⟨hm0, hm⟩, by omega, by omega, by omega⟩
              refine ACalls.frame [4, 6, 0, 1] tx rfl rfl rfl rfl (by decide) (lt46 rfl) ⟨rfl, rfl, rfl, rfl, trivial⟩ ?_
              rintro _ _ ⟨rfl, rfl⟩
              conv => whnf
              refine And.intro rfl ?_
              conv => whnf
              refine And.intro ⟨by rw [List.length_map], by omega⟩ ?_
              conv => whnf
              refine ⟨(f, (pos + n).tmod g.sl, seq + 1, left - n, l ++ [⟨seq, pos, n, im⟩], w ++ ws), ?_, Nat.lt_succ_self f, [], trivial, ⟨rfl, rfl, congrArg (AV.ow 5) (show l.length + 1 = (l ++ [(⟨seq, pos, n, im⟩ : Tx)]).length by rw [List.length_append]; rfl), trivial⟩, ⟨rfl, rfl, rfl, rfl, rfl, by rw [List.map_append]; rfl, rfl, trivial⟩, rfl, rfl, rfl⟩
              exact hI2
            · rw [if_neg (show ¬ how = 1 by omega), if_neg (show ¬ how = 1 by omega)] at tx
              rcases tf with rfl | rfl
              · rw [if_neg (by decide), if_pos (by decide)] at b1
                subst b1
                refine ACalls.frame [4, 6, 0, 1] tx rfl rfl rfl rfl (by decide) (lt46 rfl) ⟨rfl, rfl, rfl, rfl, trivial⟩ ?_
                rintro _ _ ⟨rfl, rfl⟩
                conv => whnf
                refine aDraw.seq tys_ok mixed (by kernel_rfl) ?_
                conv => whnf
                have hws : IntKind.i64.wrap (seq - 1) = seq - 1 := by rw [IntKind.wrap_i64]; omega
                refine boolI (fun e1 => ?_) (fun e1 => ?_) <;> (repeat rw [Int.toNat_natCast] at e1) <;> conv => whnf
                · rw [hws] at e1
                  exact ⟨_, [.row 54 2 (x.map gotC), .row 54 2 (y.map gotC)], fun c u h => scan0_sub 12 c u h, ⟨rfl, rfl, trivial⟩, rfl, rfl, by rw [finM_pos e1]; rfl, rfl⟩
                · rw [hws] at e1
                  refine aDraw.seq tys_ok mixed (by kernel_rfl) ?_
                  conv => whnf
                  refine And.intro (by rw [List.length_map]) ?_
                  conv => whnf
                  refine And.intro (by rw [List.length_map]) ?_
                  conv => whnf
                  exact ⟨.tp [txsA l, wrsA w, .v (.int .i64 0)], [.row 54 2 (x.map gotC), .row 54 2 (y.map gotC)], tp_sub ⟨row_sub l rfl rfl, row_sub w rfl rfl, fun _ _ h => h, trivial⟩, ⟨rfl, rfl, trivial⟩, rfl, rfl, by rw [finM_neg (by omega)], rfl⟩
              · rw [if_pos rfl] at b1
                subst b1
                refine ACalls.frame [4, 6, 0, 1] tx rfl rfl rfl rfl (by decide) (lt46 rfl) ⟨rfl, rfl, rfl, rfl, trivial⟩ ?_
                rintro _ _ ⟨rfl, rfl⟩
                conv => whnf
                exact ⟨_, [.row 54 2 (x.map gotC), .row 54 2 (y.map gotC)], fun c u h => scan0_sub 12 c u h, ⟨rfl, rfl, trivial⟩, rfl, rfl, rfl, rfl⟩
        · have hb : some (l, w, seq) = R := by
            cases f with
            | zero => exact b1
            | succ f => unfold scanL at b1; rw [if_neg (by omega)] at b1; exact b1
          subst hb
          refine aDraw.seq tys_ok mixed (by kernel_rfl) ?_
          conv => whnf
          have hws : IntKind.i64.wrap (seq - 1) = seq - 1 := by rw [IntKind.wrap_i64]; omega
          refine boolI (fun e1 => ?_) (fun e1 => ?_) <;> (repeat rw [Int.toNat_natCast] at e1) <;> conv => whnf
          · rw [hws] at e1
            exact ⟨_, [.row 54 2 (x.map gotC), .row 54 2 (y.map gotC)], fun c u h => scan0_sub 12 c u h, ⟨rfl, rfl, trivial⟩, rfl, rfl, by rw [finM_pos e1]; rfl, rfl⟩
          · rw [hws] at e1
            refine aDraw.seq tys_ok mixed (by kernel_rfl) ?_
            conv => whnf
            refine And.intro (by rw [List.length_map]) ?_
            conv => whnf
            refine And.intro (by rw [List.length_map]) ?_
            conv => whnf
            exact ⟨.tp [txsA l, wrsA w, .v (.int .i64 0)], [.row 54 2 (x.map gotC), .row 54 2 (y.map gotC)], tp_sub ⟨row_sub l rfl rfl, row_sub w rfl rfl, fun _ _ h => h, trivial⟩, ⟨rfl, rfl, trivial⟩, rfl, rfl, by rw [finM_neg (by omega)], rfl⟩
      · have hb : some (l, w, seq) = R := by
          cases f with
          | zero => exact b1
          | succ f => unfold scanL at b1; rw [if_neg (by omega)] at b1; exact b1
        subst hb
        refine aDraw.seq tys_ok mixed (by kernel_rfl) ?_
        conv => whnf
        have hws : IntKind.i64.wrap (seq - 1) = seq - 1 := by rw [IntKind.wrap_i64]; omega
        refine boolI (fun e1 => ?_) (fun e1 => ?_) <;> (repeat rw [Int.toNat_natCast] at e1) <;> conv => whnf
        · rw [hws] at e1
          exact ⟨_, [.row 54 2 (x.map gotC), .row 54 2 (y.map gotC)], fun c u h => scan0_sub 12 c u h, ⟨rfl, rfl, trivial⟩, rfl, rfl, by rw [finM_pos e1]; rfl, rfl⟩
        · rw [hws] at e1
          refine aDraw.seq tys_ok mixed (by kernel_rfl) ?_
          conv => whnf
          refine And.intro (by rw [List.length_map]) ?_
          conv => whnf
          refine And.intro (by rw [List.length_map]) ?_
          conv => whnf
          exact ⟨.tp [txsA l, wrsA w, .v (.int .i64 0)], [.row 54 2 (x.map gotC), .row 54 2 (y.map gotC)], tp_sub ⟨row_sub l rfl rfl, row_sub w rfl rfl, fun _ _ h => h, trivial⟩, ⟨rfl, rfl, trivial⟩, rfl, rfl, by rw [finM_neg (by omega)], rfl⟩
    · rw [if_neg hx]
      refine ACalls.of tys_ok Tryz.func8 rfl rfl (by show 4 ≤ _; decide) ?_
      conv => whnf
      refine Fn.closed (s1) rfl ?_
      rintro _ rfl
      conv => whnf
      refine boolI (fun t1 => ?_) (fun t1 => ?_) <;> (repeat rw [Int.toNat_natCast] at t1) <;> conv => whnf
      · exact ⟨_, [.row 54 2 (x.map gotC), .row 54 2 (y.map gotC)], fun c u h => scan0_sub 2 c u h, ⟨rfl, rfl, trivial⟩, rfl, rfl, rfl, rfl⟩
      refine boolI (fun t2 => ?_) (fun t2 => ?_) <;> (repeat rw [Int.toNat_natCast] at t2) <;> conv => whnf
      · exact ⟨_, [.row 54 2 (x.map gotC), .row 54 2 (y.map gotC)], fun c u h => scan0_sub 2 c u h, ⟨rfl, rfl, trivial⟩, rfl, rfl, rfl, rfl⟩
      · exact absurd ⟨t1, t2⟩ hx
end Go.Proofs.YteecmgonbdbhdaaGreatDoor.A
end

/-
What a written log says; a scan by what the copies say.
-/
section
namespace Go.Proofs.YteecmgonbdbhdaaGreatDoor.A
open Go.RowKit

theorem written_says {g : Geo} {l : List Tx} {epoch : Int} (hg : okG g = true) (h : LogOk g l epoch) {copy : Int} (hc : copy = 0 ∨ copy = 1) {s : Nat} (hs : (s : Int) < g.sl) : saysR g ((writtenM g l epoch copy g.sl.toNat).getD s gz) copy (s : Nat) = some (recW g l epoch (s : Nat)) := by
  have hin : (0 : Int) ≤ (s : Nat) ∧ ((s : Nat) : Int) < g.sl := by omega
  have e : (writtenM g l epoch copy g.sl.toNat).getD s gz = ⟨0, cellB g (recW g l epoch (s : Nat)) copy (s : Nat)⟩ := by
    unfold writtenM
    rw [map_getD (d := 0) (by rw [List.length_range]; omega)]
    rw [List.getD_eq_getElem?_getD, List.getElem?_range (by omega)]
    rfl
  rw [e]
  refine says_cell hg (h.ok s hin) ?_
  rw [okL, inB_iff.2 (show 0 ≤ ((s : Nat) : Int) ∧ ((s : Nat) : Int) ≤ g.sl - 1 by omega)]
  rcases hc with rfl | rfl <;> rfl
theorem saysR_out {g : Geo} {x : Gt} {copy s : Int} (h : ¬ (0 ≤ s ∧ s < g.sl)) : saysR g x copy s = none := by
  refine saysR_none ?_
  have : inB s 0 (g.sl - 1) = false := by
    rw [← Bool.not_eq_true]
    intro e
    have := inB_iff.1 e
    omega
  rw [okL, this]
  simp
def lookP (a : An) (p q : Int → Option Rc) (slot seq at_ of_ left : Int) : Rc × List Int × Int :=
  lookT (p slot) (q slot) (oneO (p slot) a seq at_ of_ left) (oneO (q slot) a seq at_ of_ left)
def recP (g : Geo) (a : An) (p q : Int → Option Rc) (pos seq left at_ of_ : Int) : Rc × Int × List Wr :=
  let s := slotM g pos at_
  let z := lookP a p q s seq at_ of_ left
  (z.1, z.2.2, z.2.1.map fun c => ⟨logAt g c s, cellB g z.1 c s⟩)
def txnP (g : Geo) (a : An) (p q : Int → Option Rc) (pos seq left : Int) : Int × Int × List Img × List Wr :=
  let z := recP g a p q pos seq left 0 0
  if z.2.1 ≠ 1 then (z.2.1, 0, [], []) else
    let t := gatherM (fun k => recP g a p q pos seq left k z.1.of_) (z.1.of_ - 1).toNat 1 z.1 [] z.2.2
    if t.1 ≠ 1 then (t.1, 0, [], []) else (1, z.1.of_, t.2.1, t.2.2)
def scanLP (g : Geo) (a : An) (p q : Int → Option Rc) : Nat → Int → Int → Int → List Tx → List Wr → Option (List Tx × List Wr × Int)
  | 0, _, seq, _, l, w => some (l, w, seq)
  | f + 1, pos, seq, left, l, w =>
    if 0 < left ∧ seq ≤ 4294967295 then
      let t := txnP g a p q pos seq left
      if t.1 = 3 then none else if t.1 ≠ 1 then some (l, w, seq)
      else scanLP g a p q f ((pos + t.2.1).tmod g.sl) (seq + 1) (left - t.2.1) (l ++ [⟨seq, pos, t.2.1, t.2.2.1⟩]) (w ++ t.2.2.2)
    else some (l, w, seq)
def scanP (g : Geo) (a : An) (p q : Int → Option Rc) : List Tx × List Wr × Int := finM a (scanLP g a p q g.sl.toNat a.pos a.seq g.sl [] [])
def saysF (g : Geo) (x : List Gt) (copy : Int) : Int → Option Rc := fun s => saysR g (x.getD s.toNat gz) copy s
theorem scanL_P (g : Geo) (a : An) (x y : List Gt) : ∀ (f : Nat) (pos seq left : Int) (l : List Tx) (w : List Wr), scanL g a x y f pos seq left l w = scanLP g a (saysF g x 0) (saysF g y 1) f pos seq left l w
  | 0, _, _, _, _, _ => rfl
  | f + 1, pos, seq, left, l, w => by
    unfold scanL scanLP
    have e : txnM g a x y pos seq left = txnP g a (saysF g x 0) (saysF g y 1) pos seq left := rfl
    rw [e]
    simp only [scanL_P g a x y f]
theorem scanM_P (g : Geo) (a : An) (x y : List Gt) : scanM g a x y = scanP g a (saysF g x 0) (saysF g y 1) := by
  unfold scanM scanP
  rw [scanL_P]
/-- What a written copy says, some of its readings spoilt. -/
def saysW (g : Geo) (l : List Tx) (epoch : Int) (bad : Int → Bool) : Int → Option Rc := fun s => if 0 ≤ s ∧ s < g.sl then (if bad s then none else some (recW g l epoch s)) else none
theorem saysF_W {g : Geo} {l : List Tx} {epoch : Int} (hg : okG g = true) (h : LogOk g l epoch) {copy : Int} (hc : copy = 0 ∨ copy = 1) : saysF g (writtenM g l epoch copy g.sl.toNat) copy = saysW g l epoch fun _ => false := by
  funext s
  unfold saysF saysW
  by_cases hs : 0 ≤ s ∧ s < g.sl
  · rw [if_pos hs, if_neg (Bool.false_ne_true)]
    obtain ⟨k, rfl⟩ := Int.eq_ofNat_of_zero_le hs.1
    rw [Int.toNat_natCast]
    exact written_says hg h hc hs.2
  · rw [if_neg hs]
    exact saysR_out hs
/-- A reading set to one that says nothing. -/
theorem saysF_set {g : Geo} {x : List Gt} {copy : Int} {k : Nat} {z : Gt} {l : List Tx} {epoch : Int} {bad : Int → Bool} (h : saysF g x copy = saysW g l epoch bad) (hk : k < x.length) (hz : saysR g z copy (k : Nat) = none) : saysF g (x.set k z) copy = saysW g l epoch fun s => decide (s = (k : Nat)) || bad s := by
  funext s
  have hs' := congrFun h s
  unfold saysF at hs' ⊢
  by_cases hs : 0 ≤ s ∧ s < g.sl
  · obtain ⟨i, rfl⟩ := Int.eq_ofNat_of_zero_le hs.1
    rw [Int.toNat_natCast] at hs' ⊢
    unfold saysW at hs' ⊢
    rw [if_pos hs] at hs' ⊢
    by_cases e : i = k
    · subst e
      rw [List.getD_eq_getElem?_getD, List.getElem?_set_self hk]
      simp only [Option.getD_some]
      rw [hz, if_pos (by simp)]
    · rw [List.getD_eq_getElem?_getD, List.getElem?_set_ne (Ne.symm e), ← List.getD_eq_getElem?_getD, hs']
      have : decide (((i : Nat) : Int) = ((k : Nat) : Int)) = false := decide_eq_false (by omega)
      show _ = if (decide (((i : Nat) : Int) = ((k : Nat) : Int)) || bad ((i : Nat) : Int)) = true then none else some (recW g l epoch ((i : Nat) : Int))
      rw [this, Bool.false_or]
  · unfold saysW
    rw [if_neg hs]
    exact saysR_out hs
theorem log18_who : ∀ s : Nat, s < 14 → (match whoM g17 (s : Int) log18 0 with
    | some (i, k) => decide (i < log18.length ∧ 0 ≤ k ∧ k.toNat < (log18.getD i tz).images.length + 1)
    | none => true) = true := by decide +kernel
theorem log18_okR : ∀ s : Nat, s < 14 → okR g17 (recW g17 log18 0 (s : Int)) = true := by decide +kernel
theorem log18_ok : LogOk g17 log18 0 where
  len := by decide
  img := by decide
  who := fun s i k hs h => by
    obtain ⟨n, rfl⟩ := Int.eq_ofNat_of_zero_le hs.1
    have := log18_who n (Int.ofNat_lt.1 hs.2)
    rw [h] at this
    exact of_decide_eq_true this
  ok := fun s hs => by
    obtain ⟨n, rfl⟩ := Int.eq_ofNat_of_zero_le hs.1
    exact log18_okR n (Int.ofNat_lt.1 hs.2)
theorem scan18_a : scanP g17 a17 (saysW g17 log18 0 fun s => decide (s = ((1 : Nat) : Int)) || false) (saysW g17 log18 0 fun _ => false) = (log18, [⟨2, cellB g17 (recW g17 log18 0 1) 0 1⟩], 0) := by kernel_rfl
theorem scan18_b : scanP g17 a17 (saysW g17 log18 0 fun s => decide (s = ((1 : Nat) : Int)) || false) (saysW g17 log18 0 fun s => decide (s = ((1 : Nat) : Int)) || false) = ([], [], 12) := by kernel_rfl
end Go.Proofs.YteecmgonbdbhdaaGreatDoor.A
end
