/-
Several texts in one.
-/
import Derived.Test.YtjcboeldmgmfcaaComP4

/-
HandLast, the plain law: a handle that wrote each of seven blocks at most once.
-/
section
namespace Go.Proofs.Ytjcboeldmgmfcaa.A
open Go.RowKit

def blk (v : Int) (q : Nat) : List UInt8 := [UInt8.ofNat v.toNat, 0, 0, 0, 0, 0, 0, UInt8.ofNat q]
def hasR (r : List Int) (q : Nat) : Bool := decide (0 ≤ r.getD q 0)
def esR (r : List Int) : List Nat := (List.range 7).filter (hasR r)
def hdR (i : Nat) (r : List Int) : Hd := ⟨i, (esR r).map fun q => ((q : Nat) : Int), (esR r).map fun q => blk (r.getD q 0) q⟩
theorem range7 : ∀ q, q < 7 → List.range 7 = List.range q ++ q :: (List.range (6 - q)).map (· + (q + 1)) := by decide
def loR (r : List Int) (q : Nat) : List Nat := (List.range q).filter (hasR r)
def hiR (r : List Int) (q : Nat) : List Nat := ((List.range (6 - q)).map (· + (q + 1))).filter (hasR r)
theorem esR_split (r : List Int) {q : Nat} (hq : q < 7) : esR r = loR r q ++ ((if hasR r q then [q] else []) ++ hiR r q) := by
  rw [esR, range7 q hq, List.filter_append, List.filter_cons, loR, hiR]
  cases hasR r q <;> simp
theorem loR_lt {r : List Int} {q x : Nat} (h : x ∈ loR r q) : x < q := by
  simp only [loR, List.mem_filter, List.mem_range] at h; exact h.1
theorem hiR_gt {r : List Int} {q x : Nat} (h : x ∈ hiR r q) : q < x := by
  simp only [hiR, List.mem_filter, List.mem_map, List.mem_range] at h
  obtain ⟨⟨y, _, rfl⟩, _⟩ := h; omega
theorem hasR_set {r : List Int} {q x : Nat} {v : Int} (h : x ≠ q) : hasR (r.set q v) x = hasR r x := by
  rw [hasR, hasR, set_getD_ne (Ne.symm h)]
theorem hasR_set_eq {r : List Int} {q : Nat} {v : Int} (hq : q < r.length) (hv : 0 ≤ v) : hasR (r.set q v) q = true := by
  rw [hasR, set_getD_eq hq]; simpa using hv
theorem filter_congr' {α : Type} {p p' : α → Bool} {l : List α} (h : ∀ x ∈ l, p x = p' x) : l.filter p = l.filter p' := by
  induction l with
  | nil => rfl
  | cons x l ih => rw [List.filter_cons, List.filter_cons, h x (by simp), ih fun y hy => h y (by simp [hy])]
theorem loR_set {r : List Int} {q : Nat} {v : Int} : loR (r.set q v) q = loR r q :=
  filter_congr' fun x hx => hasR_set (by have := List.mem_range.1 hx; omega)
theorem hiR_set {r : List Int} {q : Nat} {v : Int} : hiR (r.set q v) q = hiR r q :=
  filter_congr' fun x hx => hasR_set (by
    simp only [List.mem_map, List.mem_range] at hx
    obtain ⟨y, _, rfl⟩ := hx; omega)
/-- Where a number's place is among rising ones. -/
theorem lb_split {A C : List Nat} {q : Nat} (hA : ∀ x ∈ A, x < q) (hC : ∀ x ∈ C, q < x) (m : List Nat) (hm : m = [] ∨ m = [q]) : lb ((A ++ (m ++ C)).map fun q => ((q : Nat) : Int)) q = A.length := by
  rw [List.map_append, lb, List.countP_append]
  have a : (A.map fun q => ((q : Nat) : Int)).countP (· < (q : Int)) = A.length := by
    rw [List.countP_eq_length.2 fun y hy => by
      obtain ⟨x, hx, rfl⟩ := List.mem_map.1 hy
      have := hA x hx
      simp only [decide_eq_true_eq]; omega, List.length_map]
  have b : ((m ++ C).map fun q => ((q : Nat) : Int)).countP (· < (q : Int)) = 0 := List.countP_eq_zero.2 fun y hy => by
    obtain ⟨x, hx, rfl⟩ := List.mem_map.1 hy
    simp only [decide_eq_true_eq]
    rcases List.mem_append.1 hx with hx | hx
    · rcases hm with rfl | rfl
      · cases hx
      · simp at hx; omega
    · have := hC x hx; omega
  rw [a, b, Nat.add_zero]
theorem getD_mid {α : Type} {d : α} {A B : List α} {x : α} : (A ++ x :: B).getD A.length d = x := by
  rw [List.getD_eq_getElem?_getD, List.getElem?_append_right (Nat.le_refl _), Nat.sub_self]; rfl
theorem hiR_no {r : List Int} {q : Nat} : (hiR r q).map (fun q => ((q : Nat) : Int)) = [] ∨ ∃ y t, (hiR r q).map (fun q => ((q : Nat) : Int)) = y :: t ∧ y ≠ (q : Int) := by
  cases h : hiR r q with
  | nil => exact .inl rfl
  | cons y t => exact .inr ⟨y, _, rfl, by have := hiR_gt (r := r) (q := q) (x := y) (by rw [h]; simp); omega⟩
theorem at_lb (i : Nat) (r : List Int) {q : Nat} (hq : q < 7) : lb (hdR i r).lbas q = (loR r q).length ∧ (decide (lb (hdR i r).lbas q < (hdR i r).lbas.length) && ((hdR i r).lbas.getD (lb (hdR i r).lbas q) 0 == (q : Int))) = hasR r q := by
  have e := esR_split r hq
  have h1 : lb (hdR i r).lbas q = (loR r q).length := by
    show lb ((esR r).map fun q => ((q : Nat) : Int)) q = _
    rw [e]
    refine lb_split (fun x hx => loR_lt hx) (fun x hx => hiR_gt hx) _ ?_
    cases hasR r q <;> simp
  refine ⟨h1, ?_⟩
  rw [h1]
  show (decide (_ < ((esR r).map _).length) && (((esR r).map fun q => ((q : Nat) : Int)).getD _ 0 == (q : Int))) = _
  rw [e, List.map_append, show (loR r q).length = ((loR r q).map fun q => ((q : Nat) : Int)).length by simp]
  cases hasR r q with
  | true =>
    simp only [if_true, List.cons_append, List.nil_append, List.map_cons]
    rw [getD_mid]
    simp
  | false =>
    simp only [Bool.false_eq_true, if_false, List.nil_append]
    rcases hiR_no (r := r) (q := q) with h | ⟨y, t, h, hy⟩
    · rw [h]; simp
    · rw [h, getD_mid]; simp [hy]
theorem gB_R (i : Nat) (r : List Int) {q : Nat} (hq : q < 7) : gB (hdR i r) q = if hasR r q then (blk (r.getD q 0) q, true) else ([], false) := by
  obtain ⟨h1, h2⟩ := at_lb i r hq
  rw [gB, h2, h1]
  cases h : hasR r q with
  | false => rfl
  | true =>
    simp only [if_true]
    congr 1
    show ((esR r).map fun q => blk (r.getD q 0) q).getD _ [] = _
    rw [esR_split r hq, h, List.map_append, show (loR r q).length = ((loR r q).map fun q => blk (r.getD q 0) q).length by simp]
    simp only [if_true, List.cons_append, List.nil_append, List.map_cons]
    rw [getD_mid]
theorem wr_R (i : Nat) (r : List Int) {q : Nat} (hq : q < 7) (hr : r.length = 7) {v : Int} (hv : 0 ≤ v) : wrH (hdR i r) q (blk v q) = hdR i (r.set q v) := by
  obtain ⟨h1, h2⟩ := at_lb i r hq
  have e := esR_split r hq
  have e' := esR_split (r.set q v) hq
  rw [hasR_set_eq (by omega) hv, loR_set, hiR_set] at e'
  simp only [if_true] at e'
  have mlo : (loR r q).map (fun x => blk ((r.set q v).getD x 0) x) = (loR r q).map fun x => blk (r.getD x 0) x := List.map_congr_left fun x hx => by
    rw [set_getD_ne (by have := loR_lt hx; omega)]
  have mhi : (hiR r q).map (fun x => blk ((r.set q v).getD x 0) x) = (hiR r q).map fun x => blk (r.getD x 0) x := List.map_congr_left fun x hx => by
    rw [set_getD_ne (by have := hiR_gt hx; omega)]
  have eB : (hdR i (r.set q v)).blocks = ((loR r q).map fun x => blk (r.getD x 0) x) ++ (blk v q :: (hiR r q).map fun x => blk (r.getD x 0) x) := by
    show (esR (r.set q v)).map _ = _
    rw [e', List.map_append, List.map_append, mlo, mhi]
    simp only [List.map_cons, List.map_nil, List.cons_append, List.nil_append]
    rw [set_getD_eq (by omega)]
  have eL : (hdR i (r.set q v)).lbas = ((loR r q).map fun x => ((x : Nat) : Int)) ++ ((q : Int) :: (hiR r q).map fun x => ((x : Nat) : Int)) := by
    show (esR (r.set q v)).map _ = _
    rw [e', List.map_append, List.map_append]
    simp
  rw [wrH, h2, h1]
  cases h : hasR r q with
  | true =>
    simp only [if_true]
    refine hd_ext.2 ⟨rfl, ?_, ?_⟩
    · rw [eL]
      show (esR r).map _ = _
      rw [e, h, List.map_append, List.map_append]; simp
    · rw [eB]
      show ((esR r).map _).set _ _ = _
      rw [e, h, List.map_append, List.map_append, List.set_append_right _ _ (by simp)]
      simp
  | false =>
    simp only [Bool.false_eq_true, if_false]
    refine hd_ext.2 ⟨rfl, ?_, ?_⟩
    · rw [eL]
      show ((esR r).map _).take _ ++ _ ++ ((esR r).map _).drop _ = _
      rw [e, h, List.map_append, show (loR r q).length = ((loR r q).map fun x => ((x : Nat) : Int)).length by simp, List.take_left, List.drop_left]
      simp
    · rw [eB]
      show ((esR r).map _).take _ ++ _ ++ ((esR r).map _).drop _ = _
      rw [e, h, List.map_append, show (loR r q).length = ((loR r q).map fun x => blk (r.getD x 0) x).length by simp, List.take_left, List.drop_left]
      simp
theorem any_R (i : Nat) (r : List Int) {q : Nat} (hq : q < 7) : ((hdR i r).lbas.any fun y => (q : Int) == y) = hasR r q := by
  rw [Bool.eq_iff_iff, List.any_eq_true]
  constructor
  · rintro ⟨y, hy, h⟩
    obtain ⟨x, hx, rfl⟩ := List.mem_map.1 hy
    simp only [beq_iff_eq, Int.natCast_inj] at h
    subst h
    simp only [esR, List.mem_filter] at hx
    exact hx.2
  · intro h
    exact ⟨q, List.mem_map.2 ⟨q, by simp only [esR, List.mem_filter, List.mem_range]; exact ⟨hq, h⟩, rfl⟩, by simp⟩
theorem ris_R (r : List Int) : ris ((esR r).map fun q => ((q : Nat) : Int)) = true := by
  have hp : (esR r).Pairwise (· < ·) := List.Pairwise.filter _ List.pairwise_lt_range
  refine List.all_eq_true.2 fun i hi => ?_
  have hi : i < (esR r).length := by simpa using hi
  simp only [risK, Bool.and_eq_true, Bool.or_eq_true, decide_eq_true_eq]
  rw [map_getD (d := 0) hi]
  refine ⟨by omega, ?_⟩
  by_cases e : i = 0
  · exact .inl e
  · refine .inr ?_
    rw [map_getD (d := 0) (by omega)]
    have := List.pairwise_iff_getElem.1 hp (i - 1) i (by omega) hi (by omega)
    rw [List.getD_eq_getElem?_getD, List.getD_eq_getElem?_getD, List.getElem?_eq_getElem (by omega), List.getElem?_eq_getElem hi]
    simp only [Option.getD_some]; omega
theorem ok_R (i : Nat) {r : List Int} (h : (esR r).length ≤ 4) : hdOk (hdR i r) = true := by
  refine hdOk_iff.2 ⟨by simp [hdR], by simpa [hdR] using h, ris_R r, fun b hb => ?_⟩
  obtain ⟨x, _, rfl⟩ := List.mem_map.1 hb
  rfl
theorem hb_R (i : Nat) (r : List Int) : HdB (hdR i r) := by
  have : (esR r).length ≤ 7 := by
    have := List.length_filter_le (hasR r) (List.range 7)
    rw [List.length_range] at this; exact this
  refine ⟨by simp [hdR]; omega, by simp [hdR]; omega, fun b hb => ?_⟩
  obtain ⟨x, _, rfl⟩ := List.mem_map.1 hb
  exact Nat.le_of_lt (by show 8 < _; decide)
end Go.Proofs.Ytjcboeldmgmfcaa.A
end

/-
HandLast, the plain law: three handles side by side; a row's entries.
-/
section
namespace Go.Proofs.Ytjcboeldmgmfcaa.A
open Go.RowKit

/-- Three handles, numbered 0, 1, 2. -/
def D3 (a b c : List Int) : List Hd := [hdR 0 a, hdR 1 b, hdR 2 c]
/-- A row: seven entries, each -1 or a byte; four at most are bytes. -/
def RowOk (r : List Int) : Prop := r.length = 7 ∧ (esR r).length ≤ 4 ∧ ∀ q, q < 7 → r.getD q 0 < 256
def neg7 : List Int := [-1, -1, -1, -1, -1, -1, -1]
theorem neg7_ok : RowOk neg7 := by
  refine ⟨rfl, by decide, fun q hq => ?_⟩
  have : q = 0 ∨ q = 1 ∨ q = 2 ∨ q = 3 ∨ q = 4 ∨ q = 5 ∨ q = 6 := by omega
  rcases this with rfl | rfl | rfl | rfl | rfl | rfl | rfl <;> decide
theorem hdR_neg (i : Nat) : hdR i neg7 = ⟨i, [], []⟩ := by
  have : esR neg7 = [] := by decide
  rw [hdR, this]; rfl
theorem D3_ok {a b c : List Int} (ha : (esR a).length ≤ 4) (hb : (esR b).length ≤ 4) (hc : (esR c).length ≤ 4) : hdsOk (D3 a b c) = true := by
  have h1 := ok_R 0 ha
  have h2 := ok_R 1 hb
  have h3 := ok_R 2 hc
  have h4 : ris ((D3 a b c).map Hd.id) = true := by
    show ris [((0 : Nat) : Int), ((1 : Nat) : Int), ((2 : Nat) : Int)] = true
    decide
  rw [hdsOk, h4]
  simp only [Bool.and_eq_true, decide_eq_true_eq, Bool.or_eq_true]
  refine ⟨by show 3 ≤ 3; decide, trivial, .inr ?_, ?_⟩
  · show ((2 : Nat) : Int) ≤ 99; decide
  · simp only [D3, List.all_cons, h1, h2, h3, List.all_nil]; rfl
theorem D3_hb (a b c : List Int) : ∀ h ∈ D3 a b c, HdB h := fun h hh => by
  simp only [D3, List.mem_cons, List.not_mem_nil, or_false] at hh
  rcases hh with rfl | rfl | rfl <;> exact hb_R _ _
theorem D3_at (a b c : List Int) {m : Nat} (hm : m < 3) : hasH (D3 a b c) m = true ∧ atH (D3 a b c) m = m := by
  have : m = 0 ∨ m = 1 ∨ m = 2 := by omega
  rcases this with rfl | rfl | rfl <;> exact ⟨rfl, rfl⟩
theorem D3_get {a b c : List Int} (ha : (esR a).length ≤ 4) (hb : (esR b).length ≤ 4) (hc : (esR c).length ≤ 4) {m : Nat} (hm : m < 3) (q : Int) : getH (D3 a b c) m q = ((gB ((D3 a b c).getD m ⟨0, [], []⟩) q).1, (gB ((D3 a b c).getD m ⟨0, [], []⟩) q).2, 0) := by
  rw [getH_cases (D3_ok ha hb hc) (D3_at a b c hm).1, (D3_at a b c hm).2, gB]
  split <;> rfl
theorem D3_put {a b c : List Int} (ha : (esR a).length ≤ 4) (hb : (esR b).length ≤ 4) (hc : (esR c).length ≤ 4) {m : Nat} (hm : m < 3) {q : Nat} (v : Int) : putHd (D3 a b c) m q (blk v q) = if fullH ((D3 a b c).getD m ⟨0, [], []⟩) q then ([], 20) else ((D3 a b c).set m (wrH ((D3 a b c).getD m ⟨0, [], []⟩) q (blk v q)), 0) := by
  rw [putHd, D3_ok ha hb hc, (D3_at a b c hm).1, (D3_at a b c hm).2, decide_eq_false (by omega), decide_eq_false (by intro h; exact h rfl)]
  rfl
theorem full_R (i : Nat) (r : List Int) {q : Nat} (hq : q < 7) : fullH (hdR i r) q = (decide (4 ≤ (esR r).length) && !hasR r q) := by
  rw [fullH, any_R i r hq]
  show (decide (4 ≤ ((esR r).map _).length) && _) = _
  rw [List.length_map]
theorem esR_set {r : List Int} {q : Nat} {v : Int} (hq : q < 7) (hr : r.length = 7) (hv : 0 ≤ v) : (esR (r.set q v)).length = (esR r).length + (if hasR r q then 0 else 1) := by
  have e := congrArg List.length (esR_split r hq)
  have e' := congrArg List.length (esR_split (r.set q v) hq)
  rw [hasR_set_eq (by omega) hv, loR_set, hiR_set] at e'
  simp only [List.length_append, if_true, List.length_cons, List.length_nil] at e e'
  cases h : hasR r q with
  | true => rw [h] at e; simp at e; simp; omega
  | false => rw [h] at e; simp at e; simp; omega
theorem row_set {r : List Int} (h : RowOk r) {q v : Nat} (hq : q < 7) (hv : v < 256) (hf : (decide (4 ≤ (esR r).length) && !hasR r q) = false) : RowOk (r.set q v) := by
  obtain ⟨h1, h2, h3⟩ := h
  refine ⟨by simpa using h1, ?_, fun x hx => ?_⟩
  · rw [esR_set hq h1 (by omega)]
    cases h : hasR r q with
    | true => simpa using h2
    | false => rw [h] at hf; simp at hf; simp; omega
  · by_cases e : x = q
    · subst e; rw [set_getD_eq (by omega)]; omega
    · rw [set_getD_ne (Ne.symm e)]; exact h3 x hx
/-- How many entries below k are bytes. -/
def cnR (r : List Int) (k : Nat) : Nat := ((List.range k).filter (hasR r)).length
theorem cnR_succ (r : List Int) (k : Nat) : cnR r (k + 1) = cnR r k + (if hasR r k then 1 else 0) := by
  rw [cnR, List.range_succ, List.filter_append, List.length_append]
  cases h : hasR r k <;> simp [h, cnR]
theorem cnR_le (r : List Int) (k : Nat) : cnR r k ≤ k := by
  have := List.length_filter_le (hasR r) (List.range k)
  rwa [List.length_range] at this
theorem blk_at (v q : Nat) (hv : v < 256) (hq : q < 7) : ((blk v q).getD 0 0).toNat = v ∧ ((blk v q).getD 7 0).toNat = q := by
  refine ⟨?_, ?_⟩
  · show (UInt8.ofNat (v : Int).toNat).toNat = v
    rw [Int.toNat_natCast, UInt8.toNat_ofNat_of_lt' (by show v < 256; omega)]
  · show (UInt8.ofNat q).toNat = q
    rw [UInt8.toNat_ofNat_of_lt' (by show q < 256; omega)]
theorem blk_getD {v : Int} {q : Nat} (h0 : 0 ≤ v) (h1 : v < 256) (hq : q < 7) : (((blk v q).getD 0 0).toNat : Int) = v ∧ ((blk v q).getD 7 0).toNat = q := by
  obtain ⟨n, rfl⟩ := Int.eq_ofNat_of_zero_le h0
  have := blk_at n q (by omega) hq
  exact ⟨by rw [this.1], this.2⟩
theorem remN (n : Nat) (hn : 0 < n) (hb : n ≤ 1000) (x : Int) : ∃ m : Nat, m < n ∧ IntKind.i64.wrap ((IntKind.u64.wrap x).tmod n) = m := by
  have h1 : 0 ≤ IntKind.u64.wrap x := by rw [IntKind.wrap_u64]; omega
  obtain ⟨k, hk⟩ := Int.eq_ofNat_of_zero_le h1
  rw [hk]
  have := Nat.mod_lt k hn
  refine ⟨k % n, this, ?_⟩
  rw [show ((k : Int).tmod n) = ((k % n : Nat) : Int) by rw [Int.tmod_eq_emod_of_nonneg (by omega)]; omega, wi (by omega)]
theorem u8w {n : Nat} (h : n < 256) : IntKind.u8.wrap (n : Int) = n := IntWalk.u8_in n (by omega)
theorem blkC {v q : Nat} (hv : v < 256) (hq : q < 7) : ([[.v (.int .u8 (IntKind.u8.wrap (v : Int)))], [.v (.int .u8 0)], [.v (.int .u8 0)], [.v (.int .u8 0)], [.v (.int .u8 0)], [.v (.int .u8 0)], [.v (.int .u8 0)], [.v (.int .u8 (IntKind.u8.wrap (q : Int)))]] : List (List AV)) = (blk v q).map by1 := by
  have h := blk_at v q hv hq
  rw [u8w hv, u8w (by omega)]
  show _ = [by1 ((blk v q).getD 0 0), [.v (.int .u8 0)], [.v (.int .u8 0)], [.v (.int .u8 0)], [.v (.int .u8 0)], [.v (.int .u8 0)], [.v (.int .u8 0)], by1 ((blk v q).getD 7 0)]
  rw [by1, by1, h.1, h.2]
def triC (x : Int × Int × Int) : List AV := [.v (.int .i64 x.1), .v (.int .i64 x.2.1), .v (.int .i64 x.2.2)]
def trisA (l : List (Int × Int × Int)) : AV := .sl 3 l.length fun i => triC (l.getD i (0, 0, 0))
end Go.Proofs.Ytjcboeldmgmfcaa.A
end

/-
HandLast: the walk.
-/
section
namespace Go.Proofs.Ytjcboeldmgmfcaa.A
open Go.RowKit

theorem Fn.reads {P : Program} {f : FuncId} {args : List AV} {a b : AV} (h : Fn P f args fun r => r = a) (hk : ∀ c u, Rd a c u → Rd b c u) : Fn P f args fun r => r = b :=
  ⟨h.1, fun c0 us h1 h2 h3 h4 => (h.2 c0 us h1 h2 h3 h4).mono fun _ _ ⟨v, _, h4, h5, h6, h7⟩ => ⟨v, b, h4, rfl, h6, hk _ _ (h5 ▸ h7)⟩⟩
theorem hget_fn (l : List Hd) (id lba : Int) (hl : l.length ≤ 1000) (hs : ∀ h ∈ l, HdB h) : Fn Try.prog 10 [hdsA l, .v (.int .i64 id), .v (.int .i64 lba)] fun r => r = .tp [bA (getH l id lba).1, .v (.bool (getH l id lba).2.1), .v (.int .i64 (getH l id lba).2.2)] := by
  cases h : (getH l id lba).2.1 with
  | false =>
    have e : (getH l id lba).1 = [] := by
      revert h
      rw [getH]
      split
      · exact fun _ => rfl
      · split
        · exact fun _ => rfl
        · simp only; split
          · intro h; cases h
          · exact fun _ => rfl
    rw [e]
    exact (hget_none l id lba hl hs h).reads (tp_sub ⟨fun c u h => nil_sl 1 _ c u h, fun _ _ h => h, fun _ _ h => h, trivial⟩)
  | true =>
    have e : (getH l id lba).2.2 = 0 := by
      revert h
      rw [getH]
      split
      · intro h; cases h
      · split
        · intro h; cases h
        · simp only; split
          · exact fun _ => rfl
          · intro h; cases h
    refine (hget_own l id lba hl hs h).fn ?_
    rintro r H ⟨rfl, rfl⟩
    refine ⟨_, ConvH.refl _, ?_⟩
    conv => whnf
    refine And.intro (by simp) ?_
    conv => whnf
    refine ⟨.tp [bA (getH l id lba).1, .v (.bool true), .v (.int .i64 0)], tp_sub ⟨fun c u h => ?_, fun _ _ h => h, fun _ _ h => h, trivial⟩, by rw [e]⟩
    exact sub_map (f := by1) (d := 0) (by simp) c u h
def owsC (n : Nat) : List (List AV) := [[if 0 < n then .ow 1 7 else .v (.slice none 0 0)], [if 1 < n then .ow 2 7 else .v (.slice none 0 0)], [if 2 < n then .ow 3 7 else .v (.slice none 0 0)]]
def heap0 : Nat → List AB
  | 0 => [.rowo 33 1 [[.v (.slice none 0 0)], [.v (.slice none 0 0)], [.v (.slice none 0 0)]] 1]
  | 1 => [.rowo 33 1 [[.ow 1 7], [.v (.slice none 0 0)], [.v (.slice none 0 0)]] 2, .row 3 1 (neg7.map icC)]
  | 2 => [.rowo 33 1 [[.ow 1 7], [.ow 2 7], [.v (.slice none 0 0)]] 3, .row 3 1 (neg7.map icC), .row 3 1 (neg7.map icC)]
  | _ => [.rowo 33 1 [[.ow 1 7], [.ow 2 7], [.ow 3 7]] 4, .row 3 1 (neg7.map icC), .row 3 1 (neg7.map icC), .row 3 1 (neg7.map icC)]
def heapR (a b c : List Int) : List AB := [.rowo 33 1 [[.ow 1 7], [.ow 2 7], [.ow 3 7]] 4, .row 3 1 (a.map icC), .row 3 1 (b.map icC), .row 3 1 (c.map icC)]
def st0 : Nat → List Hd
  | 0 => []
  | 1 => [⟨0, [], []⟩]
  | 2 => [⟨0, [], []⟩, ⟨1, [], []⟩]
  | _ => [⟨0, [], []⟩, ⟨1, [], []⟩, ⟨2, [], []⟩]
theorem st0_open0 : openH (st0 0) = (st0 1, 0, 0) := by kernel_rfl
theorem st0_open1 : openH (st0 1) = (st0 2, 1, 0) := by kernel_rfl
theorem st0_open2 : openH (st0 2) = (st0 3, 2, 0) := by kernel_rfl
theorem st0_ok (n : Nat) : (st0 n).length ≤ 3 ∧ ∀ h ∈ st0 n, HdB h := by
  have k : ∀ i, HdB ⟨i, [], []⟩ := fun i => ⟨by show 0 ≤ 1000; decide, by show 0 ≤ 1000; decide, fun b hb => by cases hb⟩
  match n with
  | 0 => exact ⟨by decide, fun h hh => by cases hh⟩
  | 1 => exact ⟨by decide, fun h hh => by simp only [st0, List.mem_cons, List.not_mem_nil, or_false] at hh; subst hh; exact k _⟩
  | 2 => exact ⟨by decide, fun h hh => by simp only [st0, List.mem_cons, List.not_mem_nil, or_false] at hh; rcases hh with rfl | rfl <;> exact k _⟩
  | _ + 3 => exact ⟨by show 3 ≤ 3; decide, fun h hh => by simp only [st0, List.mem_cons, List.not_mem_nil, or_false] at hh; rcases hh with rfl | rfl | rfl <;> exact k _⟩
theorem st0_end : st0 3 = D3 neg7 neg7 neg7 := by rw [D3, hdR_neg, hdR_neg, hdR_neg]; rfl
set_option maxHeartbeats 4000000 in
set_option maxRecDepth 100000 in
theorem hlast_fn (l : List (Int × Int × Int)) : Fn Try.prog 4 [trisA l] fun r => r = .v (.bool true) := by
  refine Fn.of tys_ok Try.func4 rfl rfl (Nat.le_of_ble_eq_true rfl) ?_
  conv => whnf
  refine boolK_intro (fun h1 => ?_) (fun h1 => ?_) <;> simp only [decide_eq_true_eq, decide_eq_false_iff_not] at h1 <;> conv => whnf
  · exact ⟨_, fun _ _ h => h, rfl⟩
  have o0 := hopen_fn (st0 0) (by decide) (st0_ok 0).2
  have o1 := hopen_fn (st0 1) (by decide) (st0_ok 1).2
  have o2 := hopen_fn (st0 2) (by decide) (st0_ok 2).2
  rw [st0_open0] at o0
  rw [st0_open1] at o1
  rw [st0_open2] at o2
  refine aLoop.rounds 4 ?_
  conv => whnf
  refine ACalls.sub [hdsA (st0 0)] ⟨nil_hds, trivial⟩ ?_
  refine Fn.closed (o0) rfl ?_
  rintro _ rfl
  conv => whnf
  refine Fn.closed (o1) rfl ?_
  rintro _ rfl
  conv => whnf
  refine Fn.closed (o2) rfl ?_
  rintro _ rfl
  conv => whnf
  refine And.intro ⟨rfl, by decide, by decide⟩ ?_
  conv => whnf
  refine aLoop.ruleC Nat (fun n => ([(0, trisA l), (3, hdsA (st0 3)), (8, .ow 0 3), (9, .v (.int .i64 n))], heap0 n)) (fun n => n ≤ 3) (fun n => 3 - n) 0 (Nat.zero_le _) ⟨_, ConvH.refl _, [], trivial, ⟨rfl, rfl, rfl, rfl, trivial⟩, ⟨⟨⟨rfl, rfl⟩, rfl⟩, trivial⟩, rfl, rfl, rfl⟩ ?_
  rintro n hn
  have hn' : n = 0 ∨ n = 1 ∨ n = 2 ∨ n = 3 := by omega
  rcases hn' with rfl | rfl | rfl | rfl
  · conv => whnf
    refine And.intro ⟨by decide, by decide⟩ ?_
    conv => whnf
    refine And.intro ⟨rfl, rfl, by decide⟩ ?_
    conv => whnf
    exact ⟨1, by decide, by decide, Wk.conv ⟨[], trivial, ⟨rfl, rfl, rfl, wsucc (by omega), trivial⟩, ⟨rfl, rfl, trivial⟩, rfl, rfl, rfl⟩⟩
  · conv => whnf
    refine And.intro ⟨by decide, by decide⟩ ?_
    conv => whnf
    refine And.intro ⟨rfl, rfl, by decide⟩ ?_
    conv => whnf
    exact ⟨2, by decide, by decide, Wk.conv ⟨[], trivial, ⟨rfl, rfl, rfl, wsucc (by omega), trivial⟩, ⟨rfl, rfl, rfl, trivial⟩, rfl, rfl, rfl⟩⟩
  · conv => whnf
    refine And.intro ⟨by decide, by decide⟩ ?_
    conv => whnf
    refine And.intro ⟨rfl, rfl, by decide⟩ ?_
    conv => whnf
    exact ⟨3, by decide, by decide, Wk.conv ⟨[], trivial, ⟨rfl, rfl, rfl, wsucc (by omega), trivial⟩, ⟨rfl, rfl, rfl, rfl, trivial⟩, rfl, rfl, rfl⟩⟩
  · conv => whnf
    refine aLoop.ruleC (Nat × List Int × List Int × List Int) (fun s => ([(0, trisA l), (3, hdsA (D3 s.2.1 s.2.2.1 s.2.2.2)), (8, .ow 0 3), (10, .v (.int .i64 s.1))], heapR s.2.1 s.2.2.1 s.2.2.2)) (fun s => s.1 ≤ l.length ∧ RowOk s.2.1 ∧ RowOk s.2.2.1 ∧ RowOk s.2.2.2) (fun s => l.length - s.1) (0, neg7, neg7, neg7) ⟨Nat.zero_le _, neg7_ok, neg7_ok, neg7_ok⟩ (Wk.conv ⟨[], trivial, ⟨rfl, congrArg hdsA st0_end.symm, rfl, rfl, trivial⟩, ⟨rfl, rfl, rfl, rfl, trivial⟩, rfl, rfl, rfl⟩) ?_
    rintro ⟨k, a, b, c⟩ ⟨hk, ha, hb, hc⟩
    simp only at hk ha hb hc
    conv => whnf
    refine boolI (fun h2 => ?_) (fun h2 => ?_) <;> (repeat rw [Int.toNat_natCast] at h2) <;> conv => whnf
    · have hk' : k < l.length := by simpa using h2
      obtain ⟨m, hm, em0⟩ := remN 3 (by decide) (by decide) (l.getD k (0, 0, 0)).1
      have em : IntKind.i64.wrap ((IntKind.u64.wrap (l.getD k (0, 0, 0)).1).tmod 3) = (m : Nat) := em0
      obtain ⟨q, hq, eq0⟩ := remN 7 (by decide) (by decide) (l.getD k (0, 0, 0)).2.1
      have eq : IntKind.i64.wrap ((IntKind.u64.wrap (l.getD k (0, 0, 0)).2.1).tmod 7) = (q : Nat) := eq0
      obtain ⟨v, hv, ev0⟩ := remN 256 (by decide) (by decide) (l.getD k (0, 0, 0)).2.2
      have ev : IntKind.i64.wrap ((IntKind.u64.wrap (l.getD k (0, 0, 0)).2.2).tmod 256) = (v : Nat) := ev0
      refine aDraw.of tys_ok mixed [0, 1, 2, 3, 4, 5, 6, 7, 8, 9, 10, 11, 12, 13, 14, 15, 16, 17, 18, 19, 20, 21, 22, 23, 24, 25, 26] (by kernel_rfl) ?_
      conv => whnf
      refine And.intro ⟨by simp, by simpa using hk'⟩ ?_
      conv => whnf
      refine And.intro ⟨by decide, by decide⟩ ?_
      conv => whnf
      refine And.intro (by decide) ?_
      conv => whnf
      refine And.intro ⟨by simp, by simpa using hk'⟩ ?_
      conv => whnf
      refine And.intro ⟨by decide, by decide⟩ ?_
      conv => whnf
      refine And.intro (by decide) ?_
      conv => whnf
      refine And.intro ⟨by simp, by simpa using hk'⟩ ?_
      conv => whnf
      refine And.intro ⟨by decide, by decide⟩ ?_
      conv => whnf
      refine And.intro (by decide) ?_
      conv => whnf
      --WAYS
      have hm3 : m = 0 ∨ m = 1 ∨ m = 2 := by omega
      rcases hm3 with rfl | rfl | rfl
      · have l7 : a.length = 7 := ha.1
        refine aLoop.ruleC Nat (fun j => ([(0, trisA l), (3, hdsA (D3 a b c)), (8, .ow 0 3), (10, .v (.int .i64 k)), (11, .v (.int .i64 (0 : Nat))), (12, .v (.int .i64 q)), (13, .v (.int .i64 v)), (14, .v (.int .i64 (cnR a j : Nat))), (15, .v (.int .i64 j))], heapR a b c)) (fun j => j ≤ 7) (fun j => 7 - j) 0 (Nat.zero_le _) (Wk.conv ⟨[], trivial, ⟨rfl, rfl, rfl, rfl, congrArg (fun x => AV.v (.int .i64 x)) em, congrArg (fun x => AV.v (.int .i64 x)) eq, congrArg (fun x => AV.v (.int .i64 x)) ev, rfl, rfl, trivial⟩, ⟨rfl, rfl, rfl, rfl, trivial⟩, rfl, rfl, rfl⟩) ?_
        rintro j hj
        conv => whnf
        refine boolI (fun h3 => ?_) (fun h3 => ?_) <;> (repeat rw [Int.toNat_natCast] at h3) <;> conv => whnf
        · have hj' : j < 7 := by omega
          have hE : (a.map icC).getD j [] = icC (a.getD j 0) := map_getD (by omega)
          refine aSeq.go ?_
          conv => whnf
          refine And.intro ⟨by decide, by decide⟩ ?_
          conv => whnf
          refine And.intro ⟨rfl, rfl, by decide⟩ ?_
          conv => whnf
          refine And.intro ⟨by omega, by omega⟩ ?_
          conv => whnf
          refine And.intro ⟨rfl, by simpa using l7.symm, by simpa using hj'⟩ ?_
          conv => whnf
          rw [Int.toNat_natCast, hE]
          conv => whnf
          refine boolK_intro (fun h4 => ?_) (fun h4 => ?_) <;> simp only [decide_eq_true_eq, decide_eq_false_iff_not] at h4 <;> conv => whnf
          · have hh : hasR a j = true := by simpa [hasR] using h4
            have hn : cnR a j + 1 = cnR a (j + 1) := by rw [cnR_succ, hh]; rfl
            have := cnR_le a j
            exact ⟨j + 1, by omega, by omega, Wk.conv ⟨[], trivial, ⟨rfl, rfl, rfl, rfl, rfl, rfl, rfl, (wsucc (by omega)).trans (congrArg (fun x : Nat => AV.v (.int .i64 (x : Int))) hn), wsucc (by omega), trivial⟩, ⟨rfl, rfl, rfl, rfl, trivial⟩, rfl, rfl, rfl⟩⟩
          · have hh : hasR a j = false := by simpa [hasR] using h4
            have hn : cnR a j = cnR a (j + 1) := by rw [cnR_succ, hh]; rfl
            exact ⟨j + 1, by omega, by omega, Wk.conv ⟨[], trivial, ⟨rfl, rfl, rfl, rfl, rfl, rfl, rfl, congrArg (fun x : Nat => AV.v (.int .i64 (x : Int))) hn, wsucc (by omega), trivial⟩, ⟨rfl, rfl, rfl, rfl, trivial⟩, rfl, rfl, rfl⟩⟩
        · have hj7 : j = 7 := by omega
          subst hj7
          have hn : cnR a 7 = (esR a).length := rfl
          have cP := hput_fn (D3 a b c) ((0 : Nat) : Int) (q : Nat) (blk v q) (by show 3 ≤ 1000; decide) (D3_hb a b c)
          rw [D3_put ha.2.1 hb.2.1 hc.2.1 (by decide), show (D3 a b c).getD 0 ⟨0, [], []⟩ = hdR 0 a from rfl, full_R 0 a hq] at cP
          cases hf : (decide (4 ≤ (esR a).length) && !hasR a q) with
          | true =>
            rw [hf, if_pos rfl] at cP
            refine ACalls.shut cP.go ?_
            conv => whnf
            refine And.intro rfl ?_
            conv => whnf
            refine ACalls.sub [hdsA (D3 a b c), .v (.int .i64 ((0 : Nat) : Int)), .v (.int .i64 (q : Nat)), bA (blk v q)] ⟨fun _ _ h => h, fun _ _ h => h, fun _ _ h => h, fun c u h => sub_map (f := by1) (l := blk v q) (d := 0) rfl c u (blkC hv hq ▸ h), trivial⟩ ?_
            refine Fn.closed (cP) rfl ?_
            rintro _ rfl
            conv => whnf
            have h4 : 4 ≤ (esR a).length := by simp only [Bool.and_eq_true, decide_eq_true_eq] at hf; exact hf.1
            have hh : hasR a q = false := by simp only [Bool.and_eq_true, Bool.not_eq_true'] at hf; exact hf.2
            have hE : (a.map icC).getD q [] = icC (a.getD q 0) := map_getD (by omega)
            rw [show decide (((cnR a 7 : Nat) : Int) ≥ 4) = true from decide_eq_true (by omega)]
            conv => whnf
            refine And.intro ⟨by decide, by decide⟩ ?_
            conv => whnf
            refine And.intro ⟨rfl, rfl, by decide⟩ ?_
            conv => whnf
            refine And.intro ⟨by omega, by omega⟩ ?_
            conv => whnf
            refine And.intro ⟨rfl, by simpa using l7.symm, by simpa using hq⟩ ?_
            conv => whnf
            rw [Int.toNat_natCast, hE]
            conv => whnf
            rw [show decide (a.getD q 0 < 0) = true from decide_eq_true (by have : ¬ 0 ≤ a.getD q 0 := of_decide_eq_false hh; omega)]
            conv => whnf
            exact ⟨(k + 1, a, b, c), ⟨hk', ha, hb, hc⟩, by show l.length - (k + 1) < l.length - k; omega, Wk.conv ⟨[], trivial, ⟨rfl, rfl, rfl, wsucc (by omega), trivial⟩, ⟨rfl, rfl, rfl, rfl, trivial⟩, rfl, rfl, rfl⟩⟩
          | false =>
            rw [hf, if_neg Bool.false_ne_true, wr_R 0 a hq l7 (by omega)] at cP
            have hS : RowOk (a.set q v) := row_set ha hq hv hf
            have cC := hcheck_fn (D3 (a.set q v) b c) (by show 3 ≤ 1000; decide) (fun h hh => ⟨(D3_hb _ _ _ h hh).1, (D3_hb _ _ _ h hh).2.1⟩)
            rw [D3_ok hS.2.1 hb.2.1 hc.2.1] at cC
            have hE : (a.map icC).getD q [] = icC (a.getD q 0) := map_getD (by omega)
            refine ACalls.shut cP.go ?_
            conv => whnf
            refine And.intro rfl ?_
            conv => whnf
            refine ACalls.sub [hdsA (D3 a b c), .v (.int .i64 ((0 : Nat) : Int)), .v (.int .i64 (q : Nat)), bA (blk v q)] ⟨fun _ _ h => h, fun _ _ h => h, fun _ _ h => h, fun c u h => sub_map (f := by1) (l := blk v q) (d := 0) rfl c u (blkC hv hq ▸ h), trivial⟩ ?_
            refine Fn.closed (cP) rfl ?_
            rintro _ rfl
            conv => whnf
            cases h4 : decide (((cnR a 7 : Nat) : Int) ≥ 4) with
            | false =>
              conv => whnf
              refine Fn.closed (cC) rfl ?_
              rintro _ rfl
              conv => whnf
              refine aDraw.of tys_ok mixed [0, 1, 2, 3, 4, 5, 6, 7, 8, 9] (by kernel_rfl) ?_
              conv => whnf
              refine And.intro ⟨by decide, by decide⟩ ?_
              conv => whnf
              refine And.intro ⟨rfl, rfl, by decide⟩ ?_
              conv => whnf
              refine And.intro ⟨by omega, by omega⟩ ?_
              conv => whnf
              refine And.intro ⟨rfl, by simpa using l7.symm, by simpa using hq⟩ ?_
              conv => whnf
              rw [Int.toNat_natCast, hE]
              conv => whnf
              refine aLoop.ruleC Nat (fun n => ([(0, trisA l), (3, hdsA (D3 (a.set q v) b c)), (8, .ow 0 3), (10, .v (.int .i64 k)), (18, .v (.int .i64 n))], heapR (a.set q v) b c)) (fun n => n ≤ 3) (fun n => 3 - n) 0 (Nat.zero_le _) (Wk.conv ⟨[], trivial, ⟨rfl, rfl, rfl, rfl, rfl, trivial⟩, ⟨rfl, congrArg (AB.row _ _) List.map_set, rfl, rfl, trivial⟩, rfl, rfl, rfl⟩) ?_
              rintro n hn3
              have hn4 : n = 0 ∨ n = 1 ∨ n = 2 ∨ n = 3 := by omega
              rcases hn4 with rfl | rfl | rfl | rfl
              · have m7 : (a.set q v).length = 7 := hS.1
                conv => whnf
                refine aLoop.ruleC Nat (fun j => ([(0, trisA l), (3, hdsA (D3 (a.set q v) b c)), (8, .ow 0 3), (10, .v (.int .i64 k)), (18, .v (.int .i64 (0 : Nat))), (19, .v (.int .i64 j))], heapR (a.set q v) b c)) (fun j => j ≤ 7) (fun j => 7 - j) 0 (Nat.zero_le _) (Wk.conv ⟨[], trivial, ⟨rfl, rfl, rfl, rfl, rfl, rfl, trivial⟩, ⟨rfl, rfl, rfl, rfl, trivial⟩, rfl, rfl, rfl⟩) ?_
                rintro j hj
                conv => whnf
                refine boolI (fun h6 => ?_) (fun h6 => ?_) <;> (repeat rw [Int.toNat_natCast] at h6) <;> conv => whnf
                · have hj' : j < 7 := by omega
                  have hE2 : ((a.set q v).map icC).getD j [] = icC ((a.set q v).getD j 0) := map_getD (by omega)
                  have cG := hget_fn (D3 (a.set q v) b c) ((0 : Nat) : Int) (j : Nat) (by show 3 ≤ 1000; decide) (D3_hb _ _ _)
                  rw [D3_get hS.2.1 hb.2.1 hc.2.1 (by decide), show (D3 (a.set q v) b c).getD 0 ⟨0, [], []⟩ = hdR 0 (a.set q v) from rfl, gB_R 0 (a.set q v) hj'] at cG
                  cases hh : hasR (a.set q v) j with
                  | true =>
                    rw [hh, if_pos rfl] at cG
                    replace cG : Fn Try.prog 10 [hdsA (D3 (a.set q v) b c), .v (.int .i64 ((0 : Nat) : Int)), .v (.int .i64 (j : Nat))] fun r => r = .tp [bA (blk ((a.set q v).getD j 0) j), .v (.bool true), .v (.int .i64 0)] := cG
                    have h7 : 0 ≤ (a.set q v).getD j 0 := of_decide_eq_true hh
                    have h8 := blk_getD h7 (hS.2.2 j hj') hj'
                    refine Fn.closed (cG) rfl ?_
                    rintro _ rfl
                    conv => whnf
                    refine aDraw.of tys_ok mixed [0, 1, 2, 3, 4, 5, 6, 7, 8, 9, 10, 11, 12, 13, 14, 15, 16, 17, 18, 19, 20, 21, 22, 23, 24, 25, 26, 27, 28, 29, 30, 31, 32, 33, 34, 35, 36, 37, 38, 39, 40, 41, 42, 43] (by kernel_rfl) ?_
                    conv => whnf
                    refine And.intro ⟨by decide, by decide⟩ ?_
                    conv => whnf
                    refine And.intro ⟨rfl, rfl, by decide⟩ ?_
                    conv => whnf
                    refine And.intro ⟨by omega, by omega⟩ ?_
                    conv => whnf
                    refine And.intro ⟨rfl, by simpa using m7.symm, by simpa using hj'⟩ ?_
                    conv => whnf
                    rw [Int.toNat_natCast, hE2]
                    conv => whnf
                    rw [show decide ((a.set q v).getD j 0 ≥ 0) = true from decide_eq_true h7]
                    conv => whnf
                    refine And.intro ⟨by decide, by show (0 : Int) < ((8 : Nat) : Int); decide⟩ ?_
                    conv => whnf
                    refine And.intro ⟨by decide, by decide⟩ ?_
                    conv => whnf
                    refine And.intro ⟨rfl, rfl, by decide⟩ ?_
                    conv => whnf
                    refine And.intro ⟨by omega, by omega⟩ ?_
                    conv => whnf
                    refine And.intro ⟨rfl, by simpa using m7.symm, by simpa using hj'⟩ ?_
                    conv => whnf
                    rw [Int.toNat_natCast, hE2]
                    conv => whnf
                    rw [show (IntKind.i64.wrap (((blk ((a.set q v).getD j 0) j).getD (Int.toNat 0) 0).toNat : Int) != (a.set q v).getD j 0) = false by rw [show Int.toNat 0 = 0 from rfl, h8.1, wi (by have := hS.2.2 j hj'; omega)]; exact bne_self_eq_false _]
                    conv => whnf
                    refine And.intro ⟨by decide, by show (7 : Int) < ((8 : Nat) : Int); decide⟩ ?_
                    conv => whnf
                    rw [show (IntKind.i64.wrap (((blk ((a.set q v).getD j 0) j).getD (Int.toNat 7) 0).toNat : Int) != (j : Int)) = false by rw [show Int.toNat 7 = 7 from rfl, h8.2, wi (by omega)]; exact bne_self_eq_false _]
                    conv => whnf
                    exact ⟨j + 1, by omega, by omega, Wk.conv ⟨[], trivial, ⟨rfl, rfl, rfl, rfl, rfl, wsucc (by omega), trivial⟩, ⟨rfl, rfl, rfl, rfl, trivial⟩, rfl, rfl, rfl⟩⟩
                  | false =>
                    rw [hh, if_neg Bool.false_ne_true] at cG
                    replace cG : Fn Try.prog 10 [hdsA (D3 (a.set q v) b c), .v (.int .i64 ((0 : Nat) : Int)), .v (.int .i64 (j : Nat))] fun r => r = .tp [bA [], .v (.bool false), .v (.int .i64 0)] := cG
                    have h7 : ¬ 0 ≤ (a.set q v).getD j 0 := of_decide_eq_false hh
                    refine Fn.closed (cG) rfl ?_
                    rintro _ rfl
                    conv => whnf
                    refine aDraw.of tys_ok mixed [0, 1, 2, 3, 4, 5, 6, 7, 8, 9, 10, 11, 12, 13, 14, 15, 16, 17, 18, 19, 20, 21, 22, 23, 24, 25, 26, 27, 28, 29, 30, 31, 32, 33, 34, 35, 36, 37, 38, 39, 40, 41, 42, 43] (by kernel_rfl) ?_
                    conv => whnf
                    refine And.intro ⟨by decide, by decide⟩ ?_
                    conv => whnf
                    refine And.intro ⟨rfl, rfl, by decide⟩ ?_
                    conv => whnf
                    refine And.intro ⟨by omega, by omega⟩ ?_
                    conv => whnf
                    refine And.intro ⟨rfl, by simpa using m7.symm, by simpa using hj'⟩ ?_
                    conv => whnf
                    rw [Int.toNat_natCast, hE2]
                    conv => whnf
                    rw [show decide ((a.set q v).getD j 0 ≥ 0) = false from decide_eq_false h7]
                    conv => whnf
                    exact ⟨j + 1, by omega, by omega, Wk.conv ⟨[], trivial, ⟨rfl, rfl, rfl, rfl, rfl, wsucc (by omega), trivial⟩, ⟨rfl, rfl, rfl, rfl, trivial⟩, rfl, rfl, rfl⟩⟩
                · conv => whnf
                  exact ⟨1, by decide, by decide, Wk.conv ⟨[], trivial, ⟨rfl, rfl, rfl, rfl, wsucc (by omega), trivial⟩, ⟨rfl, rfl, rfl, rfl, trivial⟩, rfl, rfl, rfl⟩⟩
              · have m7 : b.length = 7 := hb.1
                conv => whnf
                refine aLoop.ruleC Nat (fun j => ([(0, trisA l), (3, hdsA (D3 (a.set q v) b c)), (8, .ow 0 3), (10, .v (.int .i64 k)), (18, .v (.int .i64 (1 : Nat))), (19, .v (.int .i64 j))], heapR (a.set q v) b c)) (fun j => j ≤ 7) (fun j => 7 - j) 0 (Nat.zero_le _) (Wk.conv ⟨[], trivial, ⟨rfl, rfl, rfl, rfl, rfl, rfl, trivial⟩, ⟨rfl, rfl, rfl, rfl, trivial⟩, rfl, rfl, rfl⟩) ?_
                rintro j hj
                conv => whnf
                refine boolI (fun h6 => ?_) (fun h6 => ?_) <;> (repeat rw [Int.toNat_natCast] at h6) <;> conv => whnf
                · have hj' : j < 7 := by omega
                  have hE2 : (b.map icC).getD j [] = icC (b.getD j 0) := map_getD (by omega)
                  have cG := hget_fn (D3 (a.set q v) b c) ((1 : Nat) : Int) (j : Nat) (by show 3 ≤ 1000; decide) (D3_hb _ _ _)
                  rw [D3_get hS.2.1 hb.2.1 hc.2.1 (by decide), show (D3 (a.set q v) b c).getD 1 ⟨0, [], []⟩ = hdR 1 b from rfl, gB_R 1 b hj'] at cG
                  cases hh : hasR b j with
                  | true =>
                    rw [hh, if_pos rfl] at cG
                    replace cG : Fn Try.prog 10 [hdsA (D3 (a.set q v) b c), .v (.int .i64 ((1 : Nat) : Int)), .v (.int .i64 (j : Nat))] fun r => r = .tp [bA (blk (b.getD j 0) j), .v (.bool true), .v (.int .i64 0)] := cG
                    have h7 : 0 ≤ b.getD j 0 := of_decide_eq_true hh
                    have h8 := blk_getD h7 (hb.2.2 j hj') hj'
                    refine Fn.closed (cG) rfl ?_
                    rintro _ rfl
                    conv => whnf
                    refine aDraw.of tys_ok mixed [0, 1, 2, 3, 4, 5, 6, 7, 8, 9, 10, 11, 12, 13, 14, 15, 16, 17, 18, 19, 20, 21, 22, 23, 24, 25, 26, 27, 28, 29, 30, 31, 32, 33, 34, 35, 36, 37, 38, 39, 40, 41, 42, 43] (by kernel_rfl) ?_
                    conv => whnf
                    refine And.intro ⟨by decide, by decide⟩ ?_
                    conv => whnf
                    refine And.intro ⟨rfl, rfl, by decide⟩ ?_
                    conv => whnf
                    refine And.intro ⟨by omega, by omega⟩ ?_
                    conv => whnf
                    refine And.intro ⟨rfl, by simpa using m7.symm, by simpa using hj'⟩ ?_
                    conv => whnf
                    rw [Int.toNat_natCast, hE2]
                    conv => whnf
                    rw [show decide (b.getD j 0 ≥ 0) = true from decide_eq_true h7]
                    conv => whnf
                    refine And.intro ⟨by decide, by show (0 : Int) < ((8 : Nat) : Int); decide⟩ ?_
                    conv => whnf
                    refine And.intro ⟨by decide, by decide⟩ ?_
                    conv => whnf
                    refine And.intro ⟨rfl, rfl, by decide⟩ ?_
                    conv => whnf
                    refine And.intro ⟨by omega, by omega⟩ ?_
                    conv => whnf
                    refine And.intro ⟨rfl, by simpa using m7.symm, by simpa using hj'⟩ ?_
                    conv => whnf
                    rw [Int.toNat_natCast, hE2]
                    conv => whnf
                    rw [show (IntKind.i64.wrap (((blk (b.getD j 0) j).getD (Int.toNat 0) 0).toNat : Int) != b.getD j 0) = false by rw [show Int.toNat 0 = 0 from rfl, h8.1, wi (by have := hb.2.2 j hj'; omega)]; exact bne_self_eq_false _]
                    conv => whnf
                    refine And.intro ⟨by decide, by show (7 : Int) < ((8 : Nat) : Int); decide⟩ ?_
                    conv => whnf
                    rw [show (IntKind.i64.wrap (((blk (b.getD j 0) j).getD (Int.toNat 7) 0).toNat : Int) != (j : Int)) = false by rw [show Int.toNat 7 = 7 from rfl, h8.2, wi (by omega)]; exact bne_self_eq_false _]
                    conv => whnf
                    exact ⟨j + 1, by omega, by omega, Wk.conv ⟨[], trivial, ⟨rfl, rfl, rfl, rfl, rfl, wsucc (by omega), trivial⟩, ⟨rfl, rfl, rfl, rfl, trivial⟩, rfl, rfl, rfl⟩⟩
                  | false =>
                    rw [hh, if_neg Bool.false_ne_true] at cG
                    replace cG : Fn Try.prog 10 [hdsA (D3 (a.set q v) b c), .v (.int .i64 ((1 : Nat) : Int)), .v (.int .i64 (j : Nat))] fun r => r = .tp [bA [], .v (.bool false), .v (.int .i64 0)] := cG
                    have h7 : ¬ 0 ≤ b.getD j 0 := of_decide_eq_false hh
                    refine Fn.closed (cG) rfl ?_
                    rintro _ rfl
                    conv => whnf
                    refine aDraw.of tys_ok mixed [0, 1, 2, 3, 4, 5, 6, 7, 8, 9, 10, 11, 12, 13, 14, 15, 16, 17, 18, 19, 20, 21, 22, 23, 24, 25, 26, 27, 28, 29, 30, 31, 32, 33, 34, 35, 36, 37, 38, 39, 40, 41, 42, 43] (by kernel_rfl) ?_
                    conv => whnf
                    refine And.intro ⟨by decide, by decide⟩ ?_
                    conv => whnf
                    refine And.intro ⟨rfl, rfl, by decide⟩ ?_
                    conv => whnf
                    refine And.intro ⟨by omega, by omega⟩ ?_
                    conv => whnf
                    refine And.intro ⟨rfl, by simpa using m7.symm, by simpa using hj'⟩ ?_
                    conv => whnf
                    rw [Int.toNat_natCast, hE2]
                    conv => whnf
                    rw [show decide (b.getD j 0 ≥ 0) = false from decide_eq_false h7]
                    conv => whnf
                    exact ⟨j + 1, by omega, by omega, Wk.conv ⟨[], trivial, ⟨rfl, rfl, rfl, rfl, rfl, wsucc (by omega), trivial⟩, ⟨rfl, rfl, rfl, rfl, trivial⟩, rfl, rfl, rfl⟩⟩
                · conv => whnf
                  exact ⟨2, by decide, by decide, Wk.conv ⟨[], trivial, ⟨rfl, rfl, rfl, rfl, wsucc (by omega), trivial⟩, ⟨rfl, rfl, rfl, rfl, trivial⟩, rfl, rfl, rfl⟩⟩
              · have m7 : c.length = 7 := hc.1
                conv => whnf
                refine aLoop.ruleC Nat (fun j => ([(0, trisA l), (3, hdsA (D3 (a.set q v) b c)), (8, .ow 0 3), (10, .v (.int .i64 k)), (18, .v (.int .i64 (2 : Nat))), (19, .v (.int .i64 j))], heapR (a.set q v) b c)) (fun j => j ≤ 7) (fun j => 7 - j) 0 (Nat.zero_le _) (Wk.conv ⟨[], trivial, ⟨rfl, rfl, rfl, rfl, rfl, rfl, trivial⟩, ⟨rfl, rfl, rfl, rfl, trivial⟩, rfl, rfl, rfl⟩) ?_
                rintro j hj
                conv => whnf
                refine boolI (fun h6 => ?_) (fun h6 => ?_) <;> (repeat rw [Int.toNat_natCast] at h6) <;> conv => whnf
                · have hj' : j < 7 := by omega
                  have hE2 : (c.map icC).getD j [] = icC (c.getD j 0) := map_getD (by omega)
                  have cG := hget_fn (D3 (a.set q v) b c) ((2 : Nat) : Int) (j : Nat) (by show 3 ≤ 1000; decide) (D3_hb _ _ _)
                  rw [D3_get hS.2.1 hb.2.1 hc.2.1 (by decide), show (D3 (a.set q v) b c).getD 2 ⟨0, [], []⟩ = hdR 2 c from rfl, gB_R 2 c hj'] at cG
                  cases hh : hasR c j with
                  | true =>
                    rw [hh, if_pos rfl] at cG
                    replace cG : Fn Try.prog 10 [hdsA (D3 (a.set q v) b c), .v (.int .i64 ((2 : Nat) : Int)), .v (.int .i64 (j : Nat))] fun r => r = .tp [bA (blk (c.getD j 0) j), .v (.bool true), .v (.int .i64 0)] := cG
                    have h7 : 0 ≤ c.getD j 0 := of_decide_eq_true hh
                    have h8 := blk_getD h7 (hc.2.2 j hj') hj'
                    refine Fn.closed (cG) rfl ?_
                    rintro _ rfl
                    conv => whnf
                    refine aDraw.of tys_ok mixed [0, 1, 2, 3, 4, 5, 6, 7, 8, 9, 10, 11, 12, 13, 14, 15, 16, 17, 18, 19, 20, 21, 22, 23, 24, 25, 26, 27, 28, 29, 30, 31, 32, 33, 34, 35, 36, 37, 38, 39, 40, 41, 42, 43] (by kernel_rfl) ?_
                    conv => whnf
                    refine And.intro ⟨by decide, by decide⟩ ?_
                    conv => whnf
                    refine And.intro ⟨rfl, rfl, by decide⟩ ?_
                    conv => whnf
                    refine And.intro ⟨by omega, by omega⟩ ?_
                    conv => whnf
                    refine And.intro ⟨rfl, by simpa using m7.symm, by simpa using hj'⟩ ?_
                    conv => whnf
                    rw [Int.toNat_natCast, hE2]
                    conv => whnf
                    rw [show decide (c.getD j 0 ≥ 0) = true from decide_eq_true h7]
                    conv => whnf
                    refine And.intro ⟨by decide, by show (0 : Int) < ((8 : Nat) : Int); decide⟩ ?_
                    conv => whnf
                    refine And.intro ⟨by decide, by decide⟩ ?_
                    conv => whnf
                    refine And.intro ⟨rfl, rfl, by decide⟩ ?_
                    conv => whnf
                    refine And.intro ⟨by omega, by omega⟩ ?_
                    conv => whnf
                    refine And.intro ⟨rfl, by simpa using m7.symm, by simpa using hj'⟩ ?_
                    conv => whnf
                    rw [Int.toNat_natCast, hE2]
                    conv => whnf
                    rw [show (IntKind.i64.wrap (((blk (c.getD j 0) j).getD (Int.toNat 0) 0).toNat : Int) != c.getD j 0) = false by rw [show Int.toNat 0 = 0 from rfl, h8.1, wi (by have := hc.2.2 j hj'; omega)]; exact bne_self_eq_false _]
                    conv => whnf
                    refine And.intro ⟨by decide, by show (7 : Int) < ((8 : Nat) : Int); decide⟩ ?_
                    conv => whnf
                    rw [show (IntKind.i64.wrap (((blk (c.getD j 0) j).getD (Int.toNat 7) 0).toNat : Int) != (j : Int)) = false by rw [show Int.toNat 7 = 7 from rfl, h8.2, wi (by omega)]; exact bne_self_eq_false _]
                    conv => whnf
                    exact ⟨j + 1, by omega, by omega, Wk.conv ⟨[], trivial, ⟨rfl, rfl, rfl, rfl, rfl, wsucc (by omega), trivial⟩, ⟨rfl, rfl, rfl, rfl, trivial⟩, rfl, rfl, rfl⟩⟩
                  | false =>
                    rw [hh, if_neg Bool.false_ne_true] at cG
                    replace cG : Fn Try.prog 10 [hdsA (D3 (a.set q v) b c), .v (.int .i64 ((2 : Nat) : Int)), .v (.int .i64 (j : Nat))] fun r => r = .tp [bA [], .v (.bool false), .v (.int .i64 0)] := cG
                    have h7 : ¬ 0 ≤ c.getD j 0 := of_decide_eq_false hh
                    refine Fn.closed (cG) rfl ?_
                    rintro _ rfl
                    conv => whnf
                    refine aDraw.of tys_ok mixed [0, 1, 2, 3, 4, 5, 6, 7, 8, 9, 10, 11, 12, 13, 14, 15, 16, 17, 18, 19, 20, 21, 22, 23, 24, 25, 26, 27, 28, 29, 30, 31, 32, 33, 34, 35, 36, 37, 38, 39, 40, 41, 42, 43] (by kernel_rfl) ?_
                    conv => whnf
                    refine And.intro ⟨by decide, by decide⟩ ?_
                    conv => whnf
                    refine And.intro ⟨rfl, rfl, by decide⟩ ?_
                    conv => whnf
                    refine And.intro ⟨by omega, by omega⟩ ?_
                    conv => whnf
                    refine And.intro ⟨rfl, by simpa using m7.symm, by simpa using hj'⟩ ?_
                    conv => whnf
                    rw [Int.toNat_natCast, hE2]
                    conv => whnf
                    rw [show decide (c.getD j 0 ≥ 0) = false from decide_eq_false h7]
                    conv => whnf
                    exact ⟨j + 1, by omega, by omega, Wk.conv ⟨[], trivial, ⟨rfl, rfl, rfl, rfl, rfl, wsucc (by omega), trivial⟩, ⟨rfl, rfl, rfl, rfl, trivial⟩, rfl, rfl, rfl⟩⟩
                · conv => whnf
                  exact ⟨3, by decide, by decide, Wk.conv ⟨[], trivial, ⟨rfl, rfl, rfl, rfl, wsucc (by omega), trivial⟩, ⟨rfl, rfl, rfl, rfl, trivial⟩, rfl, rfl, rfl⟩⟩
              · conv => whnf
                exact ⟨(k + 1, a.set q v, b, c), ⟨hk', hS, hb, hc⟩, by show l.length - (k + 1) < l.length - k; omega, Wk.conv ⟨[], trivial, ⟨rfl, rfl, rfl, wsucc (by omega), trivial⟩, ⟨rfl, rfl, rfl, rfl, trivial⟩, rfl, rfl, rfl⟩⟩
            | true =>
              have hh : hasR a q = true := by
                have h5 : 4 ≤ (esR a).length := by have := of_decide_eq_true h4; omega
                rw [decide_eq_true h5] at hf; simpa using hf
              conv => whnf
              refine And.intro ⟨by decide, by decide⟩ ?_
              conv => whnf
              refine And.intro ⟨rfl, rfl, by decide⟩ ?_
              conv => whnf
              refine And.intro ⟨by omega, by omega⟩ ?_
              conv => whnf
              refine And.intro ⟨rfl, by simpa using l7.symm, by simpa using hq⟩ ?_
              conv => whnf
              rw [Int.toNat_natCast, hE]
              conv => whnf
              rw [show decide (a.getD q 0 < 0) = false from decide_eq_false (by have : 0 ≤ a.getD q 0 := of_decide_eq_true hh; omega)]
              conv => whnf
              refine Fn.closed (cC) rfl ?_
              rintro _ rfl
              conv => whnf
              refine aDraw.of tys_ok mixed [0, 1, 2, 3, 4, 5, 6, 7, 8, 9] (by kernel_rfl) ?_
              conv => whnf
              refine And.intro ⟨by decide, by decide⟩ ?_
              conv => whnf
              refine And.intro ⟨rfl, rfl, by decide⟩ ?_
              conv => whnf
              refine And.intro ⟨by omega, by omega⟩ ?_
              conv => whnf
              refine And.intro ⟨rfl, by simpa using l7.symm, by simpa using hq⟩ ?_
              conv => whnf
              rw [Int.toNat_natCast, hE]
              conv => whnf
              refine aLoop.ruleC Nat (fun n => ([(0, trisA l), (3, hdsA (D3 (a.set q v) b c)), (8, .ow 0 3), (10, .v (.int .i64 k)), (18, .v (.int .i64 n))], heapR (a.set q v) b c)) (fun n => n ≤ 3) (fun n => 3 - n) 0 (Nat.zero_le _) (Wk.conv ⟨[], trivial, ⟨rfl, rfl, rfl, rfl, rfl, trivial⟩, ⟨rfl, congrArg (AB.row _ _) List.map_set, rfl, rfl, trivial⟩, rfl, rfl, rfl⟩) ?_
              rintro n hn3
              have hn4 : n = 0 ∨ n = 1 ∨ n = 2 ∨ n = 3 := by omega
              rcases hn4 with rfl | rfl | rfl | rfl
              · have m7 : (a.set q v).length = 7 := hS.1
                conv => whnf
                refine aLoop.ruleC Nat (fun j => ([(0, trisA l), (3, hdsA (D3 (a.set q v) b c)), (8, .ow 0 3), (10, .v (.int .i64 k)), (18, .v (.int .i64 (0 : Nat))), (19, .v (.int .i64 j))], heapR (a.set q v) b c)) (fun j => j ≤ 7) (fun j => 7 - j) 0 (Nat.zero_le _) (Wk.conv ⟨[], trivial, ⟨rfl, rfl, rfl, rfl, rfl, rfl, trivial⟩, ⟨rfl, rfl, rfl, rfl, trivial⟩, rfl, rfl, rfl⟩) ?_
                rintro j hj
                conv => whnf
                refine boolI (fun h6 => ?_) (fun h6 => ?_) <;> (repeat rw [Int.toNat_natCast] at h6) <;> conv => whnf
                · have hj' : j < 7 := by omega
                  have hE2 : ((a.set q v).map icC).getD j [] = icC ((a.set q v).getD j 0) := map_getD (by omega)
                  have cG := hget_fn (D3 (a.set q v) b c) ((0 : Nat) : Int) (j : Nat) (by show 3 ≤ 1000; decide) (D3_hb _ _ _)
                  rw [D3_get hS.2.1 hb.2.1 hc.2.1 (by decide), show (D3 (a.set q v) b c).getD 0 ⟨0, [], []⟩ = hdR 0 (a.set q v) from rfl, gB_R 0 (a.set q v) hj'] at cG
                  cases hh : hasR (a.set q v) j with
                  | true =>
                    rw [hh, if_pos rfl] at cG
                    replace cG : Fn Try.prog 10 [hdsA (D3 (a.set q v) b c), .v (.int .i64 ((0 : Nat) : Int)), .v (.int .i64 (j : Nat))] fun r => r = .tp [bA (blk ((a.set q v).getD j 0) j), .v (.bool true), .v (.int .i64 0)] := cG
                    have h7 : 0 ≤ (a.set q v).getD j 0 := of_decide_eq_true hh
                    have h8 := blk_getD h7 (hS.2.2 j hj') hj'
                    refine Fn.closed (cG) rfl ?_
                    rintro _ rfl
                    conv => whnf
                    refine aDraw.of tys_ok mixed [0, 1, 2, 3, 4, 5, 6, 7, 8, 9, 10, 11, 12, 13, 14, 15, 16, 17, 18, 19, 20, 21, 22, 23, 24, 25, 26, 27, 28, 29, 30, 31, 32, 33, 34, 35, 36, 37, 38, 39, 40, 41, 42, 43] (by kernel_rfl) ?_
                    conv => whnf
                    refine And.intro ⟨by decide, by decide⟩ ?_
                    conv => whnf
                    refine And.intro ⟨rfl, rfl, by decide⟩ ?_
                    conv => whnf
                    refine And.intro ⟨by omega, by omega⟩ ?_
                    conv => whnf
                    refine And.intro ⟨rfl, by simpa using m7.symm, by simpa using hj'⟩ ?_
                    conv => whnf
                    rw [Int.toNat_natCast, hE2]
                    conv => whnf
                    rw [show decide ((a.set q v).getD j 0 ≥ 0) = true from decide_eq_true h7]
                    conv => whnf
                    refine And.intro ⟨by decide, by show (0 : Int) < ((8 : Nat) : Int); decide⟩ ?_
                    conv => whnf
                    refine And.intro ⟨by decide, by decide⟩ ?_
                    conv => whnf
                    refine And.intro ⟨rfl, rfl, by decide⟩ ?_
                    conv => whnf
                    refine And.intro ⟨by omega, by omega⟩ ?_
                    conv => whnf
                    refine And.intro ⟨rfl, by simpa using m7.symm, by simpa using hj'⟩ ?_
                    conv => whnf
                    rw [Int.toNat_natCast, hE2]
                    conv => whnf
                    rw [show (IntKind.i64.wrap (((blk ((a.set q v).getD j 0) j).getD (Int.toNat 0) 0).toNat : Int) != (a.set q v).getD j 0) = false by rw [show Int.toNat 0 = 0 from rfl, h8.1, wi (by have := hS.2.2 j hj'; omega)]; exact bne_self_eq_false _]
                    conv => whnf
                    refine And.intro ⟨by decide, by show (7 : Int) < ((8 : Nat) : Int); decide⟩ ?_
                    conv => whnf
                    rw [show (IntKind.i64.wrap (((blk ((a.set q v).getD j 0) j).getD (Int.toNat 7) 0).toNat : Int) != (j : Int)) = false by rw [show Int.toNat 7 = 7 from rfl, h8.2, wi (by omega)]; exact bne_self_eq_false _]
                    conv => whnf
                    exact ⟨j + 1, by omega, by omega, Wk.conv ⟨[], trivial, ⟨rfl, rfl, rfl, rfl, rfl, wsucc (by omega), trivial⟩, ⟨rfl, rfl, rfl, rfl, trivial⟩, rfl, rfl, rfl⟩⟩
                  | false =>
                    rw [hh, if_neg Bool.false_ne_true] at cG
                    replace cG : Fn Try.prog 10 [hdsA (D3 (a.set q v) b c), .v (.int .i64 ((0 : Nat) : Int)), .v (.int .i64 (j : Nat))] fun r => r = .tp [bA [], .v (.bool false), .v (.int .i64 0)] := cG
                    have h7 : ¬ 0 ≤ (a.set q v).getD j 0 := of_decide_eq_false hh
                    refine Fn.closed (cG) rfl ?_
                    rintro _ rfl
                    conv => whnf
                    refine aDraw.of tys_ok mixed [0, 1, 2, 3, 4, 5, 6, 7, 8, 9, 10, 11, 12, 13, 14, 15, 16, 17, 18, 19, 20, 21, 22, 23, 24, 25, 26, 27, 28, 29, 30, 31, 32, 33, 34, 35, 36, 37, 38, 39, 40, 41, 42, 43] (by kernel_rfl) ?_
                    conv => whnf
                    refine And.intro ⟨by decide, by decide⟩ ?_
                    conv => whnf
                    refine And.intro ⟨rfl, rfl, by decide⟩ ?_
                    conv => whnf
                    refine And.intro ⟨by omega, by omega⟩ ?_
                    conv => whnf
                    refine And.intro ⟨rfl, by simpa using m7.symm, by simpa using hj'⟩ ?_
                    conv => whnf
                    rw [Int.toNat_natCast, hE2]
                    conv => whnf
                    rw [show decide ((a.set q v).getD j 0 ≥ 0) = false from decide_eq_false h7]
                    conv => whnf
                    exact ⟨j + 1, by omega, by omega, Wk.conv ⟨[], trivial, ⟨rfl, rfl, rfl, rfl, rfl, wsucc (by omega), trivial⟩, ⟨rfl, rfl, rfl, rfl, trivial⟩, rfl, rfl, rfl⟩⟩
                · conv => whnf
                  exact ⟨1, by decide, by decide, Wk.conv ⟨[], trivial, ⟨rfl, rfl, rfl, rfl, wsucc (by omega), trivial⟩, ⟨rfl, rfl, rfl, rfl, trivial⟩, rfl, rfl, rfl⟩⟩
              · have m7 : b.length = 7 := hb.1
                conv => whnf
                refine aLoop.ruleC Nat (fun j => ([(0, trisA l), (3, hdsA (D3 (a.set q v) b c)), (8, .ow 0 3), (10, .v (.int .i64 k)), (18, .v (.int .i64 (1 : Nat))), (19, .v (.int .i64 j))], heapR (a.set q v) b c)) (fun j => j ≤ 7) (fun j => 7 - j) 0 (Nat.zero_le _) (Wk.conv ⟨[], trivial, ⟨rfl, rfl, rfl, rfl, rfl, rfl, trivial⟩, ⟨rfl, rfl, rfl, rfl, trivial⟩, rfl, rfl, rfl⟩) ?_
                rintro j hj
                conv => whnf
                refine boolI (fun h6 => ?_) (fun h6 => ?_) <;> (repeat rw [Int.toNat_natCast] at h6) <;> conv => whnf
                · have hj' : j < 7 := by omega
                  have hE2 : (b.map icC).getD j [] = icC (b.getD j 0) := map_getD (by omega)
                  have cG := hget_fn (D3 (a.set q v) b c) ((1 : Nat) : Int) (j : Nat) (by show 3 ≤ 1000; decide) (D3_hb _ _ _)
                  rw [D3_get hS.2.1 hb.2.1 hc.2.1 (by decide), show (D3 (a.set q v) b c).getD 1 ⟨0, [], []⟩ = hdR 1 b from rfl, gB_R 1 b hj'] at cG
                  cases hh : hasR b j with
                  | true =>
                    rw [hh, if_pos rfl] at cG
                    replace cG : Fn Try.prog 10 [hdsA (D3 (a.set q v) b c), .v (.int .i64 ((1 : Nat) : Int)), .v (.int .i64 (j : Nat))] fun r => r = .tp [bA (blk (b.getD j 0) j), .v (.bool true), .v (.int .i64 0)] := cG
                    have h7 : 0 ≤ b.getD j 0 := of_decide_eq_true hh
                    have h8 := blk_getD h7 (hb.2.2 j hj') hj'
                    refine Fn.closed (cG) rfl ?_
                    rintro _ rfl
                    conv => whnf
                    refine aDraw.of tys_ok mixed [0, 1, 2, 3, 4, 5, 6, 7, 8, 9, 10, 11, 12, 13, 14, 15, 16, 17, 18, 19, 20, 21, 22, 23, 24, 25, 26, 27, 28, 29, 30, 31, 32, 33, 34, 35, 36, 37, 38, 39, 40, 41, 42, 43] (by kernel_rfl) ?_
                    conv => whnf
                    refine And.intro ⟨by decide, by decide⟩ ?_
                    conv => whnf
                    refine And.intro ⟨rfl, rfl, by decide⟩ ?_
                    conv => whnf
                    refine And.intro ⟨by omega, by omega⟩ ?_
                    conv => whnf
                    refine And.intro ⟨rfl, by simpa using m7.symm, by simpa using hj'⟩ ?_
                    conv => whnf
                    rw [Int.toNat_natCast, hE2]
                    conv => whnf
                    rw [show decide (b.getD j 0 ≥ 0) = true from decide_eq_true h7]
                    conv => whnf
                    refine And.intro ⟨by decide, by show (0 : Int) < ((8 : Nat) : Int); decide⟩ ?_
                    conv => whnf
                    refine And.intro ⟨by decide, by decide⟩ ?_
                    conv => whnf
                    refine And.intro ⟨rfl, rfl, by decide⟩ ?_
                    conv => whnf
                    refine And.intro ⟨by omega, by omega⟩ ?_
                    conv => whnf
                    refine And.intro ⟨rfl, by simpa using m7.symm, by simpa using hj'⟩ ?_
                    conv => whnf
                    rw [Int.toNat_natCast, hE2]
                    conv => whnf
                    rw [show (IntKind.i64.wrap (((blk (b.getD j 0) j).getD (Int.toNat 0) 0).toNat : Int) != b.getD j 0) = false by rw [show Int.toNat 0 = 0 from rfl, h8.1, wi (by have := hb.2.2 j hj'; omega)]; exact bne_self_eq_false _]
                    conv => whnf
                    refine And.intro ⟨by decide, by show (7 : Int) < ((8 : Nat) : Int); decide⟩ ?_
                    conv => whnf
                    rw [show (IntKind.i64.wrap (((blk (b.getD j 0) j).getD (Int.toNat 7) 0).toNat : Int) != (j : Int)) = false by rw [show Int.toNat 7 = 7 from rfl, h8.2, wi (by omega)]; exact bne_self_eq_false _]
                    conv => whnf
                    exact ⟨j + 1, by omega, by omega, Wk.conv ⟨[], trivial, ⟨rfl, rfl, rfl, rfl, rfl, wsucc (by omega), trivial⟩, ⟨rfl, rfl, rfl, rfl, trivial⟩, rfl, rfl, rfl⟩⟩
                  | false =>
                    rw [hh, if_neg Bool.false_ne_true] at cG
                    replace cG : Fn Try.prog 10 [hdsA (D3 (a.set q v) b c), .v (.int .i64 ((1 : Nat) : Int)), .v (.int .i64 (j : Nat))] fun r => r = .tp [bA [], .v (.bool false), .v (.int .i64 0)] := cG
                    have h7 : ¬ 0 ≤ b.getD j 0 := of_decide_eq_false hh
                    refine Fn.closed (cG) rfl ?_
                    rintro _ rfl
                    conv => whnf
                    refine aDraw.of tys_ok mixed [0, 1, 2, 3, 4, 5, 6, 7, 8, 9, 10, 11, 12, 13, 14, 15, 16, 17, 18, 19, 20, 21, 22, 23, 24, 25, 26, 27, 28, 29, 30, 31, 32, 33, 34, 35, 36, 37, 38, 39, 40, 41, 42, 43] (by kernel_rfl) ?_
                    conv => whnf
                    refine And.intro ⟨by decide, by decide⟩ ?_
                    conv => whnf
                    refine And.intro ⟨rfl, rfl, by decide⟩ ?_
                    conv => whnf
                    refine And.intro ⟨by omega, by omega⟩ ?_
                    conv => whnf
                    refine And.intro ⟨rfl, by simpa using m7.symm, by simpa using hj'⟩ ?_
                    conv => whnf
                    rw [Int.toNat_natCast, hE2]
                    conv => whnf
                    rw [show decide (b.getD j 0 ≥ 0) = false from decide_eq_false h7]
                    conv => whnf
                    exact ⟨j + 1, by omega, by omega, Wk.conv ⟨[], trivial, ⟨rfl, rfl, rfl, rfl, rfl, wsucc (by omega), trivial⟩, ⟨rfl, rfl, rfl, rfl, trivial⟩, rfl, rfl, rfl⟩⟩
                · conv => whnf
                  exact ⟨2, by decide, by decide, Wk.conv ⟨[], trivial, ⟨rfl, rfl, rfl, rfl, wsucc (by omega), trivial⟩, ⟨rfl, rfl, rfl, rfl, trivial⟩, rfl, rfl, rfl⟩⟩
              · have m7 : c.length = 7 := hc.1
                conv => whnf
                refine aLoop.ruleC Nat (fun j => ([(0, trisA l), (3, hdsA (D3 (a.set q v) b c)), (8, .ow 0 3), (10, .v (.int .i64 k)), (18, .v (.int .i64 (2 : Nat))), (19, .v (.int .i64 j))], heapR (a.set q v) b c)) (fun j => j ≤ 7) (fun j => 7 - j) 0 (Nat.zero_le _) (Wk.conv ⟨[], trivial, ⟨rfl, rfl, rfl, rfl, rfl, rfl, trivial⟩, ⟨rfl, rfl, rfl, rfl, trivial⟩, rfl, rfl, rfl⟩) ?_
                rintro j hj
                conv => whnf
                refine boolI (fun h6 => ?_) (fun h6 => ?_) <;> (repeat rw [Int.toNat_natCast] at h6) <;> conv => whnf
                · have hj' : j < 7 := by omega
                  have hE2 : (c.map icC).getD j [] = icC (c.getD j 0) := map_getD (by omega)
                  have cG := hget_fn (D3 (a.set q v) b c) ((2 : Nat) : Int) (j : Nat) (by show 3 ≤ 1000; decide) (D3_hb _ _ _)
                  rw [D3_get hS.2.1 hb.2.1 hc.2.1 (by decide), show (D3 (a.set q v) b c).getD 2 ⟨0, [], []⟩ = hdR 2 c from rfl, gB_R 2 c hj'] at cG
                  cases hh : hasR c j with
                  | true =>
                    rw [hh, if_pos rfl] at cG
                    replace cG : Fn Try.prog 10 [hdsA (D3 (a.set q v) b c), .v (.int .i64 ((2 : Nat) : Int)), .v (.int .i64 (j : Nat))] fun r => r = .tp [bA (blk (c.getD j 0) j), .v (.bool true), .v (.int .i64 0)] := cG
                    have h7 : 0 ≤ c.getD j 0 := of_decide_eq_true hh
                    have h8 := blk_getD h7 (hc.2.2 j hj') hj'
                    refine Fn.closed (cG) rfl ?_
                    rintro _ rfl
                    conv => whnf
                    refine aDraw.of tys_ok mixed [0, 1, 2, 3, 4, 5, 6, 7, 8, 9, 10, 11, 12, 13, 14, 15, 16, 17, 18, 19, 20, 21, 22, 23, 24, 25, 26, 27, 28, 29, 30, 31, 32, 33, 34, 35, 36, 37, 38, 39, 40, 41, 42, 43] (by kernel_rfl) ?_
                    conv => whnf
                    refine And.intro ⟨by decide, by decide⟩ ?_
                    conv => whnf
                    refine And.intro ⟨rfl, rfl, by decide⟩ ?_
                    conv => whnf
                    refine And.intro ⟨by omega, by omega⟩ ?_
                    conv => whnf
                    refine And.intro ⟨rfl, by simpa using m7.symm, by simpa using hj'⟩ ?_
                    conv => whnf
                    rw [Int.toNat_natCast, hE2]
                    conv => whnf
                    rw [show decide (c.getD j 0 ≥ 0) = true from decide_eq_true h7]
                    conv => whnf
                    refine And.intro ⟨by decide, by show (0 : Int) < ((8 : Nat) : Int); decide⟩ ?_
                    conv => whnf
                    refine And.intro ⟨by decide, by decide⟩ ?_
                    conv => whnf
                    refine And.intro ⟨rfl, rfl, by decide⟩ ?_
                    conv => whnf
                    refine And.intro ⟨by omega, by omega⟩ ?_
                    conv => whnf
                    refine And.intro ⟨rfl, by simpa using m7.symm, by simpa using hj'⟩ ?_
                    conv => whnf
                    rw [Int.toNat_natCast, hE2]
                    conv => whnf
                    rw [show (IntKind.i64.wrap (((blk (c.getD j 0) j).getD (Int.toNat 0) 0).toNat : Int) != c.getD j 0) = false by rw [show Int.toNat 0 = 0 from rfl, h8.1, wi (by have := hc.2.2 j hj'; omega)]; exact bne_self_eq_false _]
                    conv => whnf
                    refine And.intro ⟨by decide, by show (7 : Int) < ((8 : Nat) : Int); decide⟩ ?_
                    conv => whnf
                    rw [show (IntKind.i64.wrap (((blk (c.getD j 0) j).getD (Int.toNat 7) 0).toNat : Int) != (j : Int)) = false by rw [show Int.toNat 7 = 7 from rfl, h8.2, wi (by omega)]; exact bne_self_eq_false _]
                    conv => whnf
                    exact ⟨j + 1, by omega, by omega, Wk.conv ⟨[], trivial, ⟨rfl, rfl, rfl, rfl, rfl, wsucc (by omega), trivial⟩, ⟨rfl, rfl, rfl, rfl, trivial⟩, rfl, rfl, rfl⟩⟩
                  | false =>
                    rw [hh, if_neg Bool.false_ne_true] at cG
                    replace cG : Fn Try.prog 10 [hdsA (D3 (a.set q v) b c), .v (.int .i64 ((2 : Nat) : Int)), .v (.int .i64 (j : Nat))] fun r => r = .tp [bA [], .v (.bool false), .v (.int .i64 0)] := cG
                    have h7 : ¬ 0 ≤ c.getD j 0 := of_decide_eq_false hh
                    refine Fn.closed (cG) rfl ?_
                    rintro _ rfl
                    conv => whnf
                    refine aDraw.of tys_ok mixed [0, 1, 2, 3, 4, 5, 6, 7, 8, 9, 10, 11, 12, 13, 14, 15, 16, 17, 18, 19, 20, 21, 22, 23, 24, 25, 26, 27, 28, 29, 30, 31, 32, 33, 34, 35, 36, 37, 38, 39, 40, 41, 42, 43] (by kernel_rfl) ?_
                    conv => whnf
                    refine And.intro ⟨by decide, by decide⟩ ?_
                    conv => whnf
                    refine And.intro ⟨rfl, rfl, by decide⟩ ?_
                    conv => whnf
                    refine And.intro ⟨by omega, by omega⟩ ?_
                    conv => whnf
                    refine And.intro ⟨rfl, by simpa using m7.symm, by simpa using hj'⟩ ?_
                    conv => whnf
                    rw [Int.toNat_natCast, hE2]
                    conv => whnf
                    rw [show decide (c.getD j 0 ≥ 0) = false from decide_eq_false h7]
                    conv => whnf
                    exact ⟨j + 1, by omega, by omega, Wk.conv ⟨[], trivial, ⟨rfl, rfl, rfl, rfl, rfl, wsucc (by omega), trivial⟩, ⟨rfl, rfl, rfl, rfl, trivial⟩, rfl, rfl, rfl⟩⟩
                · conv => whnf
                  exact ⟨3, by decide, by decide, Wk.conv ⟨[], trivial, ⟨rfl, rfl, rfl, rfl, wsucc (by omega), trivial⟩, ⟨rfl, rfl, rfl, rfl, trivial⟩, rfl, rfl, rfl⟩⟩
              · conv => whnf
                exact ⟨(k + 1, a.set q v, b, c), ⟨hk', hS, hb, hc⟩, by show l.length - (k + 1) < l.length - k; omega, Wk.conv ⟨[], trivial, ⟨rfl, rfl, rfl, wsucc (by omega), trivial⟩, ⟨rfl, rfl, rfl, rfl, trivial⟩, rfl, rfl, rfl⟩⟩
      · have l7 : b.length = 7 := hb.1
        refine aLoop.ruleC Nat (fun j => ([(0, trisA l), (3, hdsA (D3 a b c)), (8, .ow 0 3), (10, .v (.int .i64 k)), (11, .v (.int .i64 (1 : Nat))), (12, .v (.int .i64 q)), (13, .v (.int .i64 v)), (14, .v (.int .i64 (cnR b j : Nat))), (15, .v (.int .i64 j))], heapR a b c)) (fun j => j ≤ 7) (fun j => 7 - j) 0 (Nat.zero_le _) (Wk.conv ⟨[], trivial, ⟨rfl, rfl, rfl, rfl, congrArg (fun x => AV.v (.int .i64 x)) em, congrArg (fun x => AV.v (.int .i64 x)) eq, congrArg (fun x => AV.v (.int .i64 x)) ev, rfl, rfl, trivial⟩, ⟨rfl, rfl, rfl, rfl, trivial⟩, rfl, rfl, rfl⟩) ?_
        rintro j hj
        conv => whnf
        refine boolI (fun h3 => ?_) (fun h3 => ?_) <;> (repeat rw [Int.toNat_natCast] at h3) <;> conv => whnf
        · have hj' : j < 7 := by omega
          have hE : (b.map icC).getD j [] = icC (b.getD j 0) := map_getD (by omega)
          refine aSeq.go ?_
          conv => whnf
          refine And.intro ⟨by decide, by decide⟩ ?_
          conv => whnf
          refine And.intro ⟨rfl, rfl, by decide⟩ ?_
          conv => whnf
          refine And.intro ⟨by omega, by omega⟩ ?_
          conv => whnf
          refine And.intro ⟨rfl, by simpa using l7.symm, by simpa using hj'⟩ ?_
          conv => whnf
          rw [Int.toNat_natCast, hE]
          conv => whnf
          refine boolK_intro (fun h4 => ?_) (fun h4 => ?_) <;> simp only [decide_eq_true_eq, decide_eq_false_iff_not] at h4 <;> conv => whnf
          · have hh : hasR b j = true := by simpa [hasR] using h4
            have hn : cnR b j + 1 = cnR b (j + 1) := by rw [cnR_succ, hh]; rfl
            have := cnR_le b j
            exact ⟨j + 1, by omega, by omega, Wk.conv ⟨[], trivial, ⟨rfl, rfl, rfl, rfl, rfl, rfl, rfl, (wsucc (by omega)).trans (congrArg (fun x : Nat => AV.v (.int .i64 (x : Int))) hn), wsucc (by omega), trivial⟩, ⟨rfl, rfl, rfl, rfl, trivial⟩, rfl, rfl, rfl⟩⟩
          · have hh : hasR b j = false := by simpa [hasR] using h4
            have hn : cnR b j = cnR b (j + 1) := by rw [cnR_succ, hh]; rfl
            exact ⟨j + 1, by omega, by omega, Wk.conv ⟨[], trivial, ⟨rfl, rfl, rfl, rfl, rfl, rfl, rfl, congrArg (fun x : Nat => AV.v (.int .i64 (x : Int))) hn, wsucc (by omega), trivial⟩, ⟨rfl, rfl, rfl, rfl, trivial⟩, rfl, rfl, rfl⟩⟩
        · have hj7 : j = 7 := by omega
          subst hj7
          have hn : cnR b 7 = (esR b).length := rfl
          have cP := hput_fn (D3 a b c) ((1 : Nat) : Int) (q : Nat) (blk v q) (by show 3 ≤ 1000; decide) (D3_hb a b c)
          rw [D3_put ha.2.1 hb.2.1 hc.2.1 (by decide), show (D3 a b c).getD 1 ⟨0, [], []⟩ = hdR 1 b from rfl, full_R 1 b hq] at cP
          cases hf : (decide (4 ≤ (esR b).length) && !hasR b q) with
          | true =>
            rw [hf, if_pos rfl] at cP
            refine ACalls.shut cP.go ?_
            conv => whnf
            refine And.intro rfl ?_
            conv => whnf
            refine ACalls.sub [hdsA (D3 a b c), .v (.int .i64 ((1 : Nat) : Int)), .v (.int .i64 (q : Nat)), bA (blk v q)] ⟨fun _ _ h => h, fun _ _ h => h, fun _ _ h => h, fun c u h => sub_map (f := by1) (l := blk v q) (d := 0) rfl c u (blkC hv hq ▸ h), trivial⟩ ?_
            refine Fn.closed (cP) rfl ?_
            rintro _ rfl
            conv => whnf
            have h4 : 4 ≤ (esR b).length := by simp only [Bool.and_eq_true, decide_eq_true_eq] at hf; exact hf.1
            have hh : hasR b q = false := by simp only [Bool.and_eq_true, Bool.not_eq_true'] at hf; exact hf.2
            have hE : (b.map icC).getD q [] = icC (b.getD q 0) := map_getD (by omega)
            rw [show decide (((cnR b 7 : Nat) : Int) ≥ 4) = true from decide_eq_true (by omega)]
            conv => whnf
            refine And.intro ⟨by decide, by decide⟩ ?_
            conv => whnf
            refine And.intro ⟨rfl, rfl, by decide⟩ ?_
            conv => whnf
            refine And.intro ⟨by omega, by omega⟩ ?_
            conv => whnf
            refine And.intro ⟨rfl, by simpa using l7.symm, by simpa using hq⟩ ?_
            conv => whnf
            rw [Int.toNat_natCast, hE]
            conv => whnf
            rw [show decide (b.getD q 0 < 0) = true from decide_eq_true (by have : ¬ 0 ≤ b.getD q 0 := of_decide_eq_false hh; omega)]
            conv => whnf
            exact ⟨(k + 1, a, b, c), ⟨hk', ha, hb, hc⟩, by show l.length - (k + 1) < l.length - k; omega, Wk.conv ⟨[], trivial, ⟨rfl, rfl, rfl, wsucc (by omega), trivial⟩, ⟨rfl, rfl, rfl, rfl, trivial⟩, rfl, rfl, rfl⟩⟩
          | false =>
            rw [hf, if_neg Bool.false_ne_true, wr_R 1 b hq l7 (by omega)] at cP
            have hS : RowOk (b.set q v) := row_set hb hq hv hf
            have cC := hcheck_fn (D3 a (b.set q v) c) (by show 3 ≤ 1000; decide) (fun h hh => ⟨(D3_hb _ _ _ h hh).1, (D3_hb _ _ _ h hh).2.1⟩)
            rw [D3_ok ha.2.1 hS.2.1 hc.2.1] at cC
            have hE : (b.map icC).getD q [] = icC (b.getD q 0) := map_getD (by omega)
            refine ACalls.shut cP.go ?_
            conv => whnf
            refine And.intro rfl ?_
            conv => whnf
            refine ACalls.sub [hdsA (D3 a b c), .v (.int .i64 ((1 : Nat) : Int)), .v (.int .i64 (q : Nat)), bA (blk v q)] ⟨fun _ _ h => h, fun _ _ h => h, fun _ _ h => h, fun c u h => sub_map (f := by1) (l := blk v q) (d := 0) rfl c u (blkC hv hq ▸ h), trivial⟩ ?_
            refine Fn.closed (cP) rfl ?_
            rintro _ rfl
            conv => whnf
            cases h4 : decide (((cnR b 7 : Nat) : Int) ≥ 4) with
            | false =>
              conv => whnf
              refine Fn.closed (cC) rfl ?_
              rintro _ rfl
              conv => whnf
              refine aDraw.of tys_ok mixed [0, 1, 2, 3, 4, 5, 6, 7, 8, 9] (by kernel_rfl) ?_
              conv => whnf
              refine And.intro ⟨by decide, by decide⟩ ?_
              conv => whnf
              refine And.intro ⟨rfl, rfl, by decide⟩ ?_
              conv => whnf
              refine And.intro ⟨by omega, by omega⟩ ?_
              conv => whnf
              refine And.intro ⟨rfl, by simpa using l7.symm, by simpa using hq⟩ ?_
              conv => whnf
              rw [Int.toNat_natCast, hE]
              conv => whnf
              refine aLoop.ruleC Nat (fun n => ([(0, trisA l), (3, hdsA (D3 a (b.set q v) c)), (8, .ow 0 3), (10, .v (.int .i64 k)), (18, .v (.int .i64 n))], heapR a (b.set q v) c)) (fun n => n ≤ 3) (fun n => 3 - n) 0 (Nat.zero_le _) (Wk.conv ⟨[], trivial, ⟨rfl, rfl, rfl, rfl, rfl, trivial⟩, ⟨rfl, rfl, congrArg (AB.row _ _) List.map_set, rfl, trivial⟩, rfl, rfl, rfl⟩) ?_
              rintro n hn3
              have hn4 : n = 0 ∨ n = 1 ∨ n = 2 ∨ n = 3 := by omega
              rcases hn4 with rfl | rfl | rfl | rfl
              · have m7 : a.length = 7 := ha.1
                conv => whnf
                refine aLoop.ruleC Nat (fun j => ([(0, trisA l), (3, hdsA (D3 a (b.set q v) c)), (8, .ow 0 3), (10, .v (.int .i64 k)), (18, .v (.int .i64 (0 : Nat))), (19, .v (.int .i64 j))], heapR a (b.set q v) c)) (fun j => j ≤ 7) (fun j => 7 - j) 0 (Nat.zero_le _) (Wk.conv ⟨[], trivial, ⟨rfl, rfl, rfl, rfl, rfl, rfl, trivial⟩, ⟨rfl, rfl, rfl, rfl, trivial⟩, rfl, rfl, rfl⟩) ?_
                rintro j hj
                conv => whnf
                refine boolI (fun h6 => ?_) (fun h6 => ?_) <;> (repeat rw [Int.toNat_natCast] at h6) <;> conv => whnf
                · have hj' : j < 7 := by omega
                  have hE2 : (a.map icC).getD j [] = icC (a.getD j 0) := map_getD (by omega)
                  have cG := hget_fn (D3 a (b.set q v) c) ((0 : Nat) : Int) (j : Nat) (by show 3 ≤ 1000; decide) (D3_hb _ _ _)
                  rw [D3_get ha.2.1 hS.2.1 hc.2.1 (by decide), show (D3 a (b.set q v) c).getD 0 ⟨0, [], []⟩ = hdR 0 a from rfl, gB_R 0 a hj'] at cG
                  cases hh : hasR a j with
                  | true =>
                    rw [hh, if_pos rfl] at cG
                    replace cG : Fn Try.prog 10 [hdsA (D3 a (b.set q v) c), .v (.int .i64 ((0 : Nat) : Int)), .v (.int .i64 (j : Nat))] fun r => r = .tp [bA (blk (a.getD j 0) j), .v (.bool true), .v (.int .i64 0)] := cG
                    have h7 : 0 ≤ a.getD j 0 := of_decide_eq_true hh
                    have h8 := blk_getD h7 (ha.2.2 j hj') hj'
                    refine Fn.closed (cG) rfl ?_
                    rintro _ rfl
                    conv => whnf
                    refine aDraw.of tys_ok mixed [0, 1, 2, 3, 4, 5, 6, 7, 8, 9, 10, 11, 12, 13, 14, 15, 16, 17, 18, 19, 20, 21, 22, 23, 24, 25, 26, 27, 28, 29, 30, 31, 32, 33, 34, 35, 36, 37, 38, 39, 40, 41, 42, 43] (by kernel_rfl) ?_
                    conv => whnf
                    refine And.intro ⟨by decide, by decide⟩ ?_
                    conv => whnf
                    refine And.intro ⟨rfl, rfl, by decide⟩ ?_
                    conv => whnf
                    refine And.intro ⟨by omega, by omega⟩ ?_
                    conv => whnf
                    refine And.intro ⟨rfl, by simpa using m7.symm, by simpa using hj'⟩ ?_
                    conv => whnf
                    rw [Int.toNat_natCast, hE2]
                    conv => whnf
                    rw [show decide (a.getD j 0 ≥ 0) = true from decide_eq_true h7]
                    conv => whnf
                    refine And.intro ⟨by decide, by show (0 : Int) < ((8 : Nat) : Int); decide⟩ ?_
                    conv => whnf
                    refine And.intro ⟨by decide, by decide⟩ ?_
                    conv => whnf
                    refine And.intro ⟨rfl, rfl, by decide⟩ ?_
                    conv => whnf
                    refine And.intro ⟨by omega, by omega⟩ ?_
                    conv => whnf
                    refine And.intro ⟨rfl, by simpa using m7.symm, by simpa using hj'⟩ ?_
                    conv => whnf
                    rw [Int.toNat_natCast, hE2]
                    conv => whnf
                    rw [show (IntKind.i64.wrap (((blk (a.getD j 0) j).getD (Int.toNat 0) 0).toNat : Int) != a.getD j 0) = false by rw [show Int.toNat 0 = 0 from rfl, h8.1, wi (by have := ha.2.2 j hj'; omega)]; exact bne_self_eq_false _]
                    conv => whnf
                    refine And.intro ⟨by decide, by show (7 : Int) < ((8 : Nat) : Int); decide⟩ ?_
                    conv => whnf
                    rw [show (IntKind.i64.wrap (((blk (a.getD j 0) j).getD (Int.toNat 7) 0).toNat : Int) != (j : Int)) = false by rw [show Int.toNat 7 = 7 from rfl, h8.2, wi (by omega)]; exact bne_self_eq_false _]
                    conv => whnf
                    exact ⟨j + 1, by omega, by omega, Wk.conv ⟨[], trivial, ⟨rfl, rfl, rfl, rfl, rfl, wsucc (by omega), trivial⟩, ⟨rfl, rfl, rfl, rfl, trivial⟩, rfl, rfl, rfl⟩⟩
                  | false =>
                    rw [hh, if_neg Bool.false_ne_true] at cG
                    replace cG : Fn Try.prog 10 [hdsA (D3 a (b.set q v) c), .v (.int .i64 ((0 : Nat) : Int)), .v (.int .i64 (j : Nat))] fun r => r = .tp [bA [], .v (.bool false), .v (.int .i64 0)] := cG
                    have h7 : ¬ 0 ≤ a.getD j 0 := of_decide_eq_false hh
                    refine Fn.closed (cG) rfl ?_
                    rintro _ rfl
                    conv => whnf
                    refine aDraw.of tys_ok mixed [0, 1, 2, 3, 4, 5, 6, 7, 8, 9, 10, 11, 12, 13, 14, 15, 16, 17, 18, 19, 20, 21, 22, 23, 24, 25, 26, 27, 28, 29, 30, 31, 32, 33, 34, 35, 36, 37, 38, 39, 40, 41, 42, 43] (by kernel_rfl) ?_
                    conv => whnf
                    refine And.intro ⟨by decide, by decide⟩ ?_
                    conv => whnf
                    refine And.intro ⟨rfl, rfl, by decide⟩ ?_
                    conv => whnf
                    refine And.intro ⟨by omega, by omega⟩ ?_
                    conv => whnf
                    refine And.intro ⟨rfl, by simpa using m7.symm, by simpa using hj'⟩ ?_
                    conv => whnf
                    rw [Int.toNat_natCast, hE2]
                    conv => whnf
                    rw [show decide (a.getD j 0 ≥ 0) = false from decide_eq_false h7]
                    conv => whnf
                    exact ⟨j + 1, by omega, by omega, Wk.conv ⟨[], trivial, ⟨rfl, rfl, rfl, rfl, rfl, wsucc (by omega), trivial⟩, ⟨rfl, rfl, rfl, rfl, trivial⟩, rfl, rfl, rfl⟩⟩
                · conv => whnf
                  exact ⟨1, by decide, by decide, Wk.conv ⟨[], trivial, ⟨rfl, rfl, rfl, rfl, wsucc (by omega), trivial⟩, ⟨rfl, rfl, rfl, rfl, trivial⟩, rfl, rfl, rfl⟩⟩
              · have m7 : (b.set q v).length = 7 := hS.1
                conv => whnf
                refine aLoop.ruleC Nat (fun j => ([(0, trisA l), (3, hdsA (D3 a (b.set q v) c)), (8, .ow 0 3), (10, .v (.int .i64 k)), (18, .v (.int .i64 (1 : Nat))), (19, .v (.int .i64 j))], heapR a (b.set q v) c)) (fun j => j ≤ 7) (fun j => 7 - j) 0 (Nat.zero_le _) (Wk.conv ⟨[], trivial, ⟨rfl, rfl, rfl, rfl, rfl, rfl, trivial⟩, ⟨rfl, rfl, rfl, rfl, trivial⟩, rfl, rfl, rfl⟩) ?_
                rintro j hj
                conv => whnf
                refine boolI (fun h6 => ?_) (fun h6 => ?_) <;> (repeat rw [Int.toNat_natCast] at h6) <;> conv => whnf
                · have hj' : j < 7 := by omega
                  have hE2 : ((b.set q v).map icC).getD j [] = icC ((b.set q v).getD j 0) := map_getD (by omega)
                  have cG := hget_fn (D3 a (b.set q v) c) ((1 : Nat) : Int) (j : Nat) (by show 3 ≤ 1000; decide) (D3_hb _ _ _)
                  rw [D3_get ha.2.1 hS.2.1 hc.2.1 (by decide), show (D3 a (b.set q v) c).getD 1 ⟨0, [], []⟩ = hdR 1 (b.set q v) from rfl, gB_R 1 (b.set q v) hj'] at cG
                  cases hh : hasR (b.set q v) j with
                  | true =>
                    rw [hh, if_pos rfl] at cG
                    replace cG : Fn Try.prog 10 [hdsA (D3 a (b.set q v) c), .v (.int .i64 ((1 : Nat) : Int)), .v (.int .i64 (j : Nat))] fun r => r = .tp [bA (blk ((b.set q v).getD j 0) j), .v (.bool true), .v (.int .i64 0)] := cG
                    have h7 : 0 ≤ (b.set q v).getD j 0 := of_decide_eq_true hh
                    have h8 := blk_getD h7 (hS.2.2 j hj') hj'
                    refine Fn.closed (cG) rfl ?_
                    rintro _ rfl
                    conv => whnf
                    refine aDraw.of tys_ok mixed [0, 1, 2, 3, 4, 5, 6, 7, 8, 9, 10, 11, 12, 13, 14, 15, 16, 17, 18, 19, 20, 21, 22, 23, 24, 25, 26, 27, 28, 29, 30, 31, 32, 33, 34, 35, 36, 37, 38, 39, 40, 41, 42, 43] (by kernel_rfl) ?_
                    conv => whnf
                    refine And.intro ⟨by decide, by decide⟩ ?_
                    conv => whnf
                    refine And.intro ⟨rfl, rfl, by decide⟩ ?_
                    conv => whnf
                    refine And.intro ⟨by omega, by omega⟩ ?_
                    conv => whnf
                    refine And.intro ⟨rfl, by simpa using m7.symm, by simpa using hj'⟩ ?_
                    conv => whnf
                    rw [Int.toNat_natCast, hE2]
                    conv => whnf
                    rw [show decide ((b.set q v).getD j 0 ≥ 0) = true from decide_eq_true h7]
                    conv => whnf
                    refine And.intro ⟨by decide, by show (0 : Int) < ((8 : Nat) : Int); decide⟩ ?_
                    conv => whnf
                    refine And.intro ⟨by decide, by decide⟩ ?_
                    conv => whnf
                    refine And.intro ⟨rfl, rfl, by decide⟩ ?_
                    conv => whnf
                    refine And.intro ⟨by omega, by omega⟩ ?_
                    conv => whnf
                    refine And.intro ⟨rfl, by simpa using m7.symm, by simpa using hj'⟩ ?_
                    conv => whnf
                    rw [Int.toNat_natCast, hE2]
                    conv => whnf
                    rw [show (IntKind.i64.wrap (((blk ((b.set q v).getD j 0) j).getD (Int.toNat 0) 0).toNat : Int) != (b.set q v).getD j 0) = false by rw [show Int.toNat 0 = 0 from rfl, h8.1, wi (by have := hS.2.2 j hj'; omega)]; exact bne_self_eq_false _]
                    conv => whnf
                    refine And.intro ⟨by decide, by show (7 : Int) < ((8 : Nat) : Int); decide⟩ ?_
                    conv => whnf
                    rw [show (IntKind.i64.wrap (((blk ((b.set q v).getD j 0) j).getD (Int.toNat 7) 0).toNat : Int) != (j : Int)) = false by rw [show Int.toNat 7 = 7 from rfl, h8.2, wi (by omega)]; exact bne_self_eq_false _]
                    conv => whnf
                    exact ⟨j + 1, by omega, by omega, Wk.conv ⟨[], trivial, ⟨rfl, rfl, rfl, rfl, rfl, wsucc (by omega), trivial⟩, ⟨rfl, rfl, rfl, rfl, trivial⟩, rfl, rfl, rfl⟩⟩
                  | false =>
                    rw [hh, if_neg Bool.false_ne_true] at cG
                    replace cG : Fn Try.prog 10 [hdsA (D3 a (b.set q v) c), .v (.int .i64 ((1 : Nat) : Int)), .v (.int .i64 (j : Nat))] fun r => r = .tp [bA [], .v (.bool false), .v (.int .i64 0)] := cG
                    have h7 : ¬ 0 ≤ (b.set q v).getD j 0 := of_decide_eq_false hh
                    refine Fn.closed (cG) rfl ?_
                    rintro _ rfl
                    conv => whnf
                    refine aDraw.of tys_ok mixed [0, 1, 2, 3, 4, 5, 6, 7, 8, 9, 10, 11, 12, 13, 14, 15, 16, 17, 18, 19, 20, 21, 22, 23, 24, 25, 26, 27, 28, 29, 30, 31, 32, 33, 34, 35, 36, 37, 38, 39, 40, 41, 42, 43] (by kernel_rfl) ?_
                    conv => whnf
                    refine And.intro ⟨by decide, by decide⟩ ?_
                    conv => whnf
                    refine And.intro ⟨rfl, rfl, by decide⟩ ?_
                    conv => whnf
                    refine And.intro ⟨by omega, by omega⟩ ?_
                    conv => whnf
                    refine And.intro ⟨rfl, by simpa using m7.symm, by simpa using hj'⟩ ?_
                    conv => whnf
                    rw [Int.toNat_natCast, hE2]
                    conv => whnf
                    rw [show decide ((b.set q v).getD j 0 ≥ 0) = false from decide_eq_false h7]
                    conv => whnf
                    exact ⟨j + 1, by omega, by omega, Wk.conv ⟨[], trivial, ⟨rfl, rfl, rfl, rfl, rfl, wsucc (by omega), trivial⟩, ⟨rfl, rfl, rfl, rfl, trivial⟩, rfl, rfl, rfl⟩⟩
                · conv => whnf
                  exact ⟨2, by decide, by decide, Wk.conv ⟨[], trivial, ⟨rfl, rfl, rfl, rfl, wsucc (by omega), trivial⟩, ⟨rfl, rfl, rfl, rfl, trivial⟩, rfl, rfl, rfl⟩⟩
              · have m7 : c.length = 7 := hc.1
                conv => whnf
                refine aLoop.ruleC Nat (fun j => ([(0, trisA l), (3, hdsA (D3 a (b.set q v) c)), (8, .ow 0 3), (10, .v (.int .i64 k)), (18, .v (.int .i64 (2 : Nat))), (19, .v (.int .i64 j))], heapR a (b.set q v) c)) (fun j => j ≤ 7) (fun j => 7 - j) 0 (Nat.zero_le _) (Wk.conv ⟨[], trivial, ⟨rfl, rfl, rfl, rfl, rfl, rfl, trivial⟩, ⟨rfl, rfl, rfl, rfl, trivial⟩, rfl, rfl, rfl⟩) ?_
                rintro j hj
                conv => whnf
                refine boolI (fun h6 => ?_) (fun h6 => ?_) <;> (repeat rw [Int.toNat_natCast] at h6) <;> conv => whnf
                · have hj' : j < 7 := by omega
                  have hE2 : (c.map icC).getD j [] = icC (c.getD j 0) := map_getD (by omega)
                  have cG := hget_fn (D3 a (b.set q v) c) ((2 : Nat) : Int) (j : Nat) (by show 3 ≤ 1000; decide) (D3_hb _ _ _)
                  rw [D3_get ha.2.1 hS.2.1 hc.2.1 (by decide), show (D3 a (b.set q v) c).getD 2 ⟨0, [], []⟩ = hdR 2 c from rfl, gB_R 2 c hj'] at cG
                  cases hh : hasR c j with
                  | true =>
                    rw [hh, if_pos rfl] at cG
                    replace cG : Fn Try.prog 10 [hdsA (D3 a (b.set q v) c), .v (.int .i64 ((2 : Nat) : Int)), .v (.int .i64 (j : Nat))] fun r => r = .tp [bA (blk (c.getD j 0) j), .v (.bool true), .v (.int .i64 0)] := cG
                    have h7 : 0 ≤ c.getD j 0 := of_decide_eq_true hh
                    have h8 := blk_getD h7 (hc.2.2 j hj') hj'
                    refine Fn.closed (cG) rfl ?_
                    rintro _ rfl
                    conv => whnf
                    refine aDraw.of tys_ok mixed [0, 1, 2, 3, 4, 5, 6, 7, 8, 9, 10, 11, 12, 13, 14, 15, 16, 17, 18, 19, 20, 21, 22, 23, 24, 25, 26, 27, 28, 29, 30, 31, 32, 33, 34, 35, 36, 37, 38, 39, 40, 41, 42, 43] (by kernel_rfl) ?_
                    conv => whnf
                    refine And.intro ⟨by decide, by decide⟩ ?_
                    conv => whnf
                    refine And.intro ⟨rfl, rfl, by decide⟩ ?_
                    conv => whnf
                    refine And.intro ⟨by omega, by omega⟩ ?_
                    conv => whnf
                    refine And.intro ⟨rfl, by simpa using m7.symm, by simpa using hj'⟩ ?_
                    conv => whnf
                    rw [Int.toNat_natCast, hE2]
                    conv => whnf
                    rw [show decide (c.getD j 0 ≥ 0) = true from decide_eq_true h7]
                    conv => whnf
                    refine And.intro ⟨by decide, by show (0 : Int) < ((8 : Nat) : Int); decide⟩ ?_
                    conv => whnf
                    refine And.intro ⟨by decide, by decide⟩ ?_
                    conv => whnf
                    refine And.intro ⟨rfl, rfl, by decide⟩ ?_
                    conv => whnf
                    refine And.intro ⟨by omega, by omega⟩ ?_
                    conv => whnf
                    refine And.intro ⟨rfl, by simpa using m7.symm, by simpa using hj'⟩ ?_
                    conv => whnf
                    rw [Int.toNat_natCast, hE2]
                    conv => whnf
                    rw [show (IntKind.i64.wrap (((blk (c.getD j 0) j).getD (Int.toNat 0) 0).toNat : Int) != c.getD j 0) = false by rw [show Int.toNat 0 = 0 from rfl, h8.1, wi (by have := hc.2.2 j hj'; omega)]; exact bne_self_eq_false _]
                    conv => whnf
                    refine And.intro ⟨by decide, by show (7 : Int) < ((8 : Nat) : Int); decide⟩ ?_
                    conv => whnf
                    rw [show (IntKind.i64.wrap (((blk (c.getD j 0) j).getD (Int.toNat 7) 0).toNat : Int) != (j : Int)) = false by rw [show Int.toNat 7 = 7 from rfl, h8.2, wi (by omega)]; exact bne_self_eq_false _]
                    conv => whnf
                    exact ⟨j + 1, by omega, by omega, Wk.conv ⟨[], trivial, ⟨rfl, rfl, rfl, rfl, rfl, wsucc (by omega), trivial⟩, ⟨rfl, rfl, rfl, rfl, trivial⟩, rfl, rfl, rfl⟩⟩
                  | false =>
                    rw [hh, if_neg Bool.false_ne_true] at cG
                    replace cG : Fn Try.prog 10 [hdsA (D3 a (b.set q v) c), .v (.int .i64 ((2 : Nat) : Int)), .v (.int .i64 (j : Nat))] fun r => r = .tp [bA [], .v (.bool false), .v (.int .i64 0)] := cG
                    have h7 : ¬ 0 ≤ c.getD j 0 := of_decide_eq_false hh
                    refine Fn.closed (cG) rfl ?_
                    rintro _ rfl
                    conv => whnf
                    refine aDraw.of tys_ok mixed [0, 1, 2, 3, 4, 5, 6, 7, 8, 9, 10, 11, 12, 13, 14, 15, 16, 17, 18, 19, 20, 21, 22, 23, 24, 25, 26, 27, 28, 29, 30, 31, 32, 33, 34, 35, 36, 37, 38, 39, 40, 41, 42, 43] (by kernel_rfl) ?_
                    conv => whnf
                    refine And.intro ⟨by decide, by decide⟩ ?_
                    conv => whnf
                    refine And.intro ⟨rfl, rfl, by decide⟩ ?_
                    conv => whnf
                    refine And.intro ⟨by omega, by omega⟩ ?_
                    conv => whnf
                    refine And.intro ⟨rfl, by simpa using m7.symm, by simpa using hj'⟩ ?_
                    conv => whnf
                    rw [Int.toNat_natCast, hE2]
                    conv => whnf
                    rw [show decide (c.getD j 0 ≥ 0) = false from decide_eq_false h7]
                    conv => whnf
                    exact ⟨j + 1, by omega, by omega, Wk.conv ⟨[], trivial, ⟨rfl, rfl, rfl, rfl, rfl, wsucc (by omega), trivial⟩, ⟨rfl, rfl, rfl, rfl, trivial⟩, rfl, rfl, rfl⟩⟩
                · conv => whnf
                  exact ⟨3, by decide, by decide, Wk.conv ⟨[], trivial, ⟨rfl, rfl, rfl, rfl, wsucc (by omega), trivial⟩, ⟨rfl, rfl, rfl, rfl, trivial⟩, rfl, rfl, rfl⟩⟩
              · conv => whnf
                exact ⟨(k + 1, a, b.set q v, c), ⟨hk', ha, hS, hc⟩, by show l.length - (k + 1) < l.length - k; omega, Wk.conv ⟨[], trivial, ⟨rfl, rfl, rfl, wsucc (by omega), trivial⟩, ⟨rfl, rfl, rfl, rfl, trivial⟩, rfl, rfl, rfl⟩⟩
            | true =>
              have hh : hasR b q = true := by
                have h5 : 4 ≤ (esR b).length := by have := of_decide_eq_true h4; omega
                rw [decide_eq_true h5] at hf; simpa using hf
              conv => whnf
              refine And.intro ⟨by decide, by decide⟩ ?_
              conv => whnf
              refine And.intro ⟨rfl, rfl, by decide⟩ ?_
              conv => whnf
              refine And.intro ⟨by omega, by omega⟩ ?_
              conv => whnf
              refine And.intro ⟨rfl, by simpa using l7.symm, by simpa using hq⟩ ?_
              conv => whnf
              rw [Int.toNat_natCast, hE]
              conv => whnf
              rw [show decide (b.getD q 0 < 0) = false from decide_eq_false (by have : 0 ≤ b.getD q 0 := of_decide_eq_true hh; omega)]
              conv => whnf
              refine Fn.closed (cC) rfl ?_
              rintro _ rfl
              conv => whnf
              refine aDraw.of tys_ok mixed [0, 1, 2, 3, 4, 5, 6, 7, 8, 9] (by kernel_rfl) ?_
              conv => whnf
              refine And.intro ⟨by decide, by decide⟩ ?_
              conv => whnf
              refine And.intro ⟨rfl, rfl, by decide⟩ ?_
              conv => whnf
              refine And.intro ⟨by omega, by omega⟩ ?_
              conv => whnf
              refine And.intro ⟨rfl, by simpa using l7.symm, by simpa using hq⟩ ?_
              conv => whnf
              rw [Int.toNat_natCast, hE]
              conv => whnf
              refine aLoop.ruleC Nat (fun n => ([(0, trisA l), (3, hdsA (D3 a (b.set q v) c)), (8, .ow 0 3), (10, .v (.int .i64 k)), (18, .v (.int .i64 n))], heapR a (b.set q v) c)) (fun n => n ≤ 3) (fun n => 3 - n) 0 (Nat.zero_le _) (Wk.conv ⟨[], trivial, ⟨rfl, rfl, rfl, rfl, rfl, trivial⟩, ⟨rfl, rfl, congrArg (AB.row _ _) List.map_set, rfl, trivial⟩, rfl, rfl, rfl⟩) ?_
              rintro n hn3
              have hn4 : n = 0 ∨ n = 1 ∨ n = 2 ∨ n = 3 := by omega
              rcases hn4 with rfl | rfl | rfl | rfl
              · have m7 : a.length = 7 := ha.1
                conv => whnf
                refine aLoop.ruleC Nat (fun j => ([(0, trisA l), (3, hdsA (D3 a (b.set q v) c)), (8, .ow 0 3), (10, .v (.int .i64 k)), (18, .v (.int .i64 (0 : Nat))), (19, .v (.int .i64 j))], heapR a (b.set q v) c)) (fun j => j ≤ 7) (fun j => 7 - j) 0 (Nat.zero_le _) (Wk.conv ⟨[], trivial, ⟨rfl, rfl, rfl, rfl, rfl, rfl, trivial⟩, ⟨rfl, rfl, rfl, rfl, trivial⟩, rfl, rfl, rfl⟩) ?_
                rintro j hj
                conv => whnf
                refine boolI (fun h6 => ?_) (fun h6 => ?_) <;> (repeat rw [Int.toNat_natCast] at h6) <;> conv => whnf
                · have hj' : j < 7 := by omega
                  have hE2 : (a.map icC).getD j [] = icC (a.getD j 0) := map_getD (by omega)
                  have cG := hget_fn (D3 a (b.set q v) c) ((0 : Nat) : Int) (j : Nat) (by show 3 ≤ 1000; decide) (D3_hb _ _ _)
                  rw [D3_get ha.2.1 hS.2.1 hc.2.1 (by decide), show (D3 a (b.set q v) c).getD 0 ⟨0, [], []⟩ = hdR 0 a from rfl, gB_R 0 a hj'] at cG
                  cases hh : hasR a j with
                  | true =>
                    rw [hh, if_pos rfl] at cG
                    replace cG : Fn Try.prog 10 [hdsA (D3 a (b.set q v) c), .v (.int .i64 ((0 : Nat) : Int)), .v (.int .i64 (j : Nat))] fun r => r = .tp [bA (blk (a.getD j 0) j), .v (.bool true), .v (.int .i64 0)] := cG
                    have h7 : 0 ≤ a.getD j 0 := of_decide_eq_true hh
                    have h8 := blk_getD h7 (ha.2.2 j hj') hj'
                    refine Fn.closed (cG) rfl ?_
                    rintro _ rfl
                    conv => whnf
                    refine aDraw.of tys_ok mixed [0, 1, 2, 3, 4, 5, 6, 7, 8, 9, 10, 11, 12, 13, 14, 15, 16, 17, 18, 19, 20, 21, 22, 23, 24, 25, 26, 27, 28, 29, 30, 31, 32, 33, 34, 35, 36, 37, 38, 39, 40, 41, 42, 43] (by kernel_rfl) ?_
                    conv => whnf
                    refine And.intro ⟨by decide, by decide⟩ ?_
                    conv => whnf
                    refine And.intro ⟨rfl, rfl, by decide⟩ ?_
                    conv => whnf
                    refine And.intro ⟨by omega, by omega⟩ ?_
                    conv => whnf
                    refine And.intro ⟨rfl, by simpa using m7.symm, by simpa using hj'⟩ ?_
                    conv => whnf
                    rw [Int.toNat_natCast, hE2]
                    conv => whnf
                    rw [show decide (a.getD j 0 ≥ 0) = true from decide_eq_true h7]
                    conv => whnf
                    refine And.intro ⟨by decide, by show (0 : Int) < ((8 : Nat) : Int); decide⟩ ?_
                    conv => whnf
                    refine And.intro ⟨by decide, by decide⟩ ?_
                    conv => whnf
                    refine And.intro ⟨rfl, rfl, by decide⟩ ?_
                    conv => whnf
                    refine And.intro ⟨by omega, by omega⟩ ?_
                    conv => whnf
                    refine And.intro ⟨rfl, by simpa using m7.symm, by simpa using hj'⟩ ?_
                    conv => whnf
                    rw [Int.toNat_natCast, hE2]
                    conv => whnf
                    rw [show (IntKind.i64.wrap (((blk (a.getD j 0) j).getD (Int.toNat 0) 0).toNat : Int) != a.getD j 0) = false by rw [show Int.toNat 0 = 0 from rfl, h8.1, wi (by have := ha.2.2 j hj'; omega)]; exact bne_self_eq_false _]
                    conv => whnf
                    refine And.intro ⟨by decide, by show (7 : Int) < ((8 : Nat) : Int); decide⟩ ?_
                    conv => whnf
                    rw [show (IntKind.i64.wrap (((blk (a.getD j 0) j).getD (Int.toNat 7) 0).toNat : Int) != (j : Int)) = false by rw [show Int.toNat 7 = 7 from rfl, h8.2, wi (by omega)]; exact bne_self_eq_false _]
                    conv => whnf
                    exact ⟨j + 1, by omega, by omega, Wk.conv ⟨[], trivial, ⟨rfl, rfl, rfl, rfl, rfl, wsucc (by omega), trivial⟩, ⟨rfl, rfl, rfl, rfl, trivial⟩, rfl, rfl, rfl⟩⟩
                  | false =>
                    rw [hh, if_neg Bool.false_ne_true] at cG
                    replace cG : Fn Try.prog 10 [hdsA (D3 a (b.set q v) c), .v (.int .i64 ((0 : Nat) : Int)), .v (.int .i64 (j : Nat))] fun r => r = .tp [bA [], .v (.bool false), .v (.int .i64 0)] := cG
                    have h7 : ¬ 0 ≤ a.getD j 0 := of_decide_eq_false hh
                    refine Fn.closed (cG) rfl ?_
                    rintro _ rfl
                    conv => whnf
                    refine aDraw.of tys_ok mixed [0, 1, 2, 3, 4, 5, 6, 7, 8, 9, 10, 11, 12, 13, 14, 15, 16, 17, 18, 19, 20, 21, 22, 23, 24, 25, 26, 27, 28, 29, 30, 31, 32, 33, 34, 35, 36, 37, 38, 39, 40, 41, 42, 43] (by kernel_rfl) ?_
                    conv => whnf
                    refine And.intro ⟨by decide, by decide⟩ ?_
                    conv => whnf
                    refine And.intro ⟨rfl, rfl, by decide⟩ ?_
                    conv => whnf
                    refine And.intro ⟨by omega, by omega⟩ ?_
                    conv => whnf
                    refine And.intro ⟨rfl, by simpa using m7.symm, by simpa using hj'⟩ ?_
                    conv => whnf
                    rw [Int.toNat_natCast, hE2]
                    conv => whnf
                    rw [show decide (a.getD j 0 ≥ 0) = false from decide_eq_false h7]
                    conv => whnf
                    exact ⟨j + 1, by omega, by omega, Wk.conv ⟨[], trivial, ⟨rfl, rfl, rfl, rfl, rfl, wsucc (by omega), trivial⟩, ⟨rfl, rfl, rfl, rfl, trivial⟩, rfl, rfl, rfl⟩⟩
                · conv => whnf
                  exact ⟨1, by decide, by decide, Wk.conv ⟨[], trivial, ⟨rfl, rfl, rfl, rfl, wsucc (by omega), trivial⟩, ⟨rfl, rfl, rfl, rfl, trivial⟩, rfl, rfl, rfl⟩⟩
              · have m7 : (b.set q v).length = 7 := hS.1
                conv => whnf
                refine aLoop.ruleC Nat (fun j => ([(0, trisA l), (3, hdsA (D3 a (b.set q v) c)), (8, .ow 0 3), (10, .v (.int .i64 k)), (18, .v (.int .i64 (1 : Nat))), (19, .v (.int .i64 j))], heapR a (b.set q v) c)) (fun j => j ≤ 7) (fun j => 7 - j) 0 (Nat.zero_le _) (Wk.conv ⟨[], trivial, ⟨rfl, rfl, rfl, rfl, rfl, rfl, trivial⟩, ⟨rfl, rfl, rfl, rfl, trivial⟩, rfl, rfl, rfl⟩) ?_
                rintro j hj
                conv => whnf
                refine boolI (fun h6 => ?_) (fun h6 => ?_) <;> (repeat rw [Int.toNat_natCast] at h6) <;> conv => whnf
                · have hj' : j < 7 := by omega
                  have hE2 : ((b.set q v).map icC).getD j [] = icC ((b.set q v).getD j 0) := map_getD (by omega)
                  have cG := hget_fn (D3 a (b.set q v) c) ((1 : Nat) : Int) (j : Nat) (by show 3 ≤ 1000; decide) (D3_hb _ _ _)
                  rw [D3_get ha.2.1 hS.2.1 hc.2.1 (by decide), show (D3 a (b.set q v) c).getD 1 ⟨0, [], []⟩ = hdR 1 (b.set q v) from rfl, gB_R 1 (b.set q v) hj'] at cG
                  cases hh : hasR (b.set q v) j with
                  | true =>
                    rw [hh, if_pos rfl] at cG
                    replace cG : Fn Try.prog 10 [hdsA (D3 a (b.set q v) c), .v (.int .i64 ((1 : Nat) : Int)), .v (.int .i64 (j : Nat))] fun r => r = .tp [bA (blk ((b.set q v).getD j 0) j), .v (.bool true), .v (.int .i64 0)] := cG
                    have h7 : 0 ≤ (b.set q v).getD j 0 := of_decide_eq_true hh
                    have h8 := blk_getD h7 (hS.2.2 j hj') hj'
                    refine Fn.closed (cG) rfl ?_
                    rintro _ rfl
                    conv => whnf
                    refine aDraw.of tys_ok mixed [0, 1, 2, 3, 4, 5, 6, 7, 8, 9, 10, 11, 12, 13, 14, 15, 16, 17, 18, 19, 20, 21, 22, 23, 24, 25, 26, 27, 28, 29, 30, 31, 32, 33, 34, 35, 36, 37, 38, 39, 40, 41, 42, 43] (by kernel_rfl) ?_
                    conv => whnf
                    refine And.intro ⟨by decide, by decide⟩ ?_
                    conv => whnf
                    refine And.intro ⟨rfl, rfl, by decide⟩ ?_
                    conv => whnf
                    refine And.intro ⟨by omega, by omega⟩ ?_
                    conv => whnf
                    refine And.intro ⟨rfl, by simpa using m7.symm, by simpa using hj'⟩ ?_
                    conv => whnf
                    rw [Int.toNat_natCast, hE2]
                    conv => whnf
                    rw [show decide ((b.set q v).getD j 0 ≥ 0) = true from decide_eq_true h7]
                    conv => whnf
                    refine And.intro ⟨by decide, by show (0 : Int) < ((8 : Nat) : Int); decide⟩ ?_
                    conv => whnf
                    refine And.intro ⟨by decide, by decide⟩ ?_
                    conv => whnf
                    refine And.intro ⟨rfl, rfl, by decide⟩ ?_
                    conv => whnf
                    refine And.intro ⟨by omega, by omega⟩ ?_
                    conv => whnf
                    refine And.intro ⟨rfl, by simpa using m7.symm, by simpa using hj'⟩ ?_
                    conv => whnf
                    rw [Int.toNat_natCast, hE2]
                    conv => whnf
                    rw [show (IntKind.i64.wrap (((blk ((b.set q v).getD j 0) j).getD (Int.toNat 0) 0).toNat : Int) != (b.set q v).getD j 0) = false by rw [show Int.toNat 0 = 0 from rfl, h8.1, wi (by have := hS.2.2 j hj'; omega)]; exact bne_self_eq_false _]
                    conv => whnf
                    refine And.intro ⟨by decide, by show (7 : Int) < ((8 : Nat) : Int); decide⟩ ?_
                    conv => whnf
                    rw [show (IntKind.i64.wrap (((blk ((b.set q v).getD j 0) j).getD (Int.toNat 7) 0).toNat : Int) != (j : Int)) = false by rw [show Int.toNat 7 = 7 from rfl, h8.2, wi (by omega)]; exact bne_self_eq_false _]
                    conv => whnf
                    exact ⟨j + 1, by omega, by omega, Wk.conv ⟨[], trivial, ⟨rfl, rfl, rfl, rfl, rfl, wsucc (by omega), trivial⟩, ⟨rfl, rfl, rfl, rfl, trivial⟩, rfl, rfl, rfl⟩⟩
                  | false =>
                    rw [hh, if_neg Bool.false_ne_true] at cG
                    replace cG : Fn Try.prog 10 [hdsA (D3 a (b.set q v) c), .v (.int .i64 ((1 : Nat) : Int)), .v (.int .i64 (j : Nat))] fun r => r = .tp [bA [], .v (.bool false), .v (.int .i64 0)] := cG
                    have h7 : ¬ 0 ≤ (b.set q v).getD j 0 := of_decide_eq_false hh
                    refine Fn.closed (cG) rfl ?_
                    rintro _ rfl
                    conv => whnf
                    refine aDraw.of tys_ok mixed [0, 1, 2, 3, 4, 5, 6, 7, 8, 9, 10, 11, 12, 13, 14, 15, 16, 17, 18, 19, 20, 21, 22, 23, 24, 25, 26, 27, 28, 29, 30, 31, 32, 33, 34, 35, 36, 37, 38, 39, 40, 41, 42, 43] (by kernel_rfl) ?_
                    conv => whnf
                    refine And.intro ⟨by decide, by decide⟩ ?_
                    conv => whnf
                    refine And.intro ⟨rfl, rfl, by decide⟩ ?_
                    conv => whnf
                    refine And.intro ⟨by omega, by omega⟩ ?_
                    conv => whnf
                    refine And.intro ⟨rfl, by simpa using m7.symm, by simpa using hj'⟩ ?_
                    conv => whnf
                    rw [Int.toNat_natCast, hE2]
                    conv => whnf
                    rw [show decide ((b.set q v).getD j 0 ≥ 0) = false from decide_eq_false h7]
                    conv => whnf
                    exact ⟨j + 1, by omega, by omega, Wk.conv ⟨[], trivial, ⟨rfl, rfl, rfl, rfl, rfl, wsucc (by omega), trivial⟩, ⟨rfl, rfl, rfl, rfl, trivial⟩, rfl, rfl, rfl⟩⟩
                · conv => whnf
                  exact ⟨2, by decide, by decide, Wk.conv ⟨[], trivial, ⟨rfl, rfl, rfl, rfl, wsucc (by omega), trivial⟩, ⟨rfl, rfl, rfl, rfl, trivial⟩, rfl, rfl, rfl⟩⟩
              · have m7 : c.length = 7 := hc.1
                conv => whnf
                refine aLoop.ruleC Nat (fun j => ([(0, trisA l), (3, hdsA (D3 a (b.set q v) c)), (8, .ow 0 3), (10, .v (.int .i64 k)), (18, .v (.int .i64 (2 : Nat))), (19, .v (.int .i64 j))], heapR a (b.set q v) c)) (fun j => j ≤ 7) (fun j => 7 - j) 0 (Nat.zero_le _) (Wk.conv ⟨[], trivial, ⟨rfl, rfl, rfl, rfl, rfl, rfl, trivial⟩, ⟨rfl, rfl, rfl, rfl, trivial⟩, rfl, rfl, rfl⟩) ?_
                rintro j hj
                conv => whnf
                refine boolI (fun h6 => ?_) (fun h6 => ?_) <;> (repeat rw [Int.toNat_natCast] at h6) <;> conv => whnf
                · have hj' : j < 7 := by omega
                  have hE2 : (c.map icC).getD j [] = icC (c.getD j 0) := map_getD (by omega)
                  have cG := hget_fn (D3 a (b.set q v) c) ((2 : Nat) : Int) (j : Nat) (by show 3 ≤ 1000; decide) (D3_hb _ _ _)
                  rw [D3_get ha.2.1 hS.2.1 hc.2.1 (by decide), show (D3 a (b.set q v) c).getD 2 ⟨0, [], []⟩ = hdR 2 c from rfl, gB_R 2 c hj'] at cG
                  cases hh : hasR c j with
                  | true =>
                    rw [hh, if_pos rfl] at cG
                    replace cG : Fn Try.prog 10 [hdsA (D3 a (b.set q v) c), .v (.int .i64 ((2 : Nat) : Int)), .v (.int .i64 (j : Nat))] fun r => r = .tp [bA (blk (c.getD j 0) j), .v (.bool true), .v (.int .i64 0)] := cG
                    have h7 : 0 ≤ c.getD j 0 := of_decide_eq_true hh
                    have h8 := blk_getD h7 (hc.2.2 j hj') hj'
                    refine Fn.closed (cG) rfl ?_
                    rintro _ rfl
                    conv => whnf
                    refine aDraw.of tys_ok mixed [0, 1, 2, 3, 4, 5, 6, 7, 8, 9, 10, 11, 12, 13, 14, 15, 16, 17, 18, 19, 20, 21, 22, 23, 24, 25, 26, 27, 28, 29, 30, 31, 32, 33, 34, 35, 36, 37, 38, 39, 40, 41, 42, 43] (by kernel_rfl) ?_
                    conv => whnf
                    refine And.intro ⟨by decide, by decide⟩ ?_
                    conv => whnf
                    refine And.intro ⟨rfl, rfl, by decide⟩ ?_
                    conv => whnf
                    refine And.intro ⟨by omega, by omega⟩ ?_
                    conv => whnf
                    refine And.intro ⟨rfl, by simpa using m7.symm, by simpa using hj'⟩ ?_
                    conv => whnf
                    rw [Int.toNat_natCast, hE2]
                    conv => whnf
                    rw [show decide (c.getD j 0 ≥ 0) = true from decide_eq_true h7]
                    conv => whnf
                    refine And.intro ⟨by decide, by show (0 : Int) < ((8 : Nat) : Int); decide⟩ ?_
                    conv => whnf
                    refine And.intro ⟨by decide, by decide⟩ ?_
                    conv => whnf
                    refine And.intro ⟨rfl, rfl, by decide⟩ ?_
                    conv => whnf
                    refine And.intro ⟨by omega, by omega⟩ ?_
                    conv => whnf
                    refine And.intro ⟨rfl, by simpa using m7.symm, by simpa using hj'⟩ ?_
                    conv => whnf
                    rw [Int.toNat_natCast, hE2]
                    conv => whnf
                    rw [show (IntKind.i64.wrap (((blk (c.getD j 0) j).getD (Int.toNat 0) 0).toNat : Int) != c.getD j 0) = false by rw [show Int.toNat 0 = 0 from rfl, h8.1, wi (by have := hc.2.2 j hj'; omega)]; exact bne_self_eq_false _]
                    conv => whnf
                    refine And.intro ⟨by decide, by show (7 : Int) < ((8 : Nat) : Int); decide⟩ ?_
                    conv => whnf
                    rw [show (IntKind.i64.wrap (((blk (c.getD j 0) j).getD (Int.toNat 7) 0).toNat : Int) != (j : Int)) = false by rw [show Int.toNat 7 = 7 from rfl, h8.2, wi (by omega)]; exact bne_self_eq_false _]
                    conv => whnf
                    exact ⟨j + 1, by omega, by omega, Wk.conv ⟨[], trivial, ⟨rfl, rfl, rfl, rfl, rfl, wsucc (by omega), trivial⟩, ⟨rfl, rfl, rfl, rfl, trivial⟩, rfl, rfl, rfl⟩⟩
                  | false =>
                    rw [hh, if_neg Bool.false_ne_true] at cG
                    replace cG : Fn Try.prog 10 [hdsA (D3 a (b.set q v) c), .v (.int .i64 ((2 : Nat) : Int)), .v (.int .i64 (j : Nat))] fun r => r = .tp [bA [], .v (.bool false), .v (.int .i64 0)] := cG
                    have h7 : ¬ 0 ≤ c.getD j 0 := of_decide_eq_false hh
                    refine Fn.closed (cG) rfl ?_
                    rintro _ rfl
                    conv => whnf
                    refine aDraw.of tys_ok mixed [0, 1, 2, 3, 4, 5, 6, 7, 8, 9, 10, 11, 12, 13, 14, 15, 16, 17, 18, 19, 20, 21, 22, 23, 24, 25, 26, 27, 28, 29, 30, 31, 32, 33, 34, 35, 36, 37, 38, 39, 40, 41, 42, 43] (by kernel_rfl) ?_
                    conv => whnf
                    refine And.intro ⟨by decide, by decide⟩ ?_
                    conv => whnf
                    refine And.intro ⟨rfl, rfl, by decide⟩ ?_
                    conv => whnf
                    refine And.intro ⟨by omega, by omega⟩ ?_
                    conv => whnf
                    refine And.intro ⟨rfl, by simpa using m7.symm, by simpa using hj'⟩ ?_
                    conv => whnf
                    rw [Int.toNat_natCast, hE2]
                    conv => whnf
                    rw [show decide (c.getD j 0 ≥ 0) = false from decide_eq_false h7]
                    conv => whnf
                    exact ⟨j + 1, by omega, by omega, Wk.conv ⟨[], trivial, ⟨rfl, rfl, rfl, rfl, rfl, wsucc (by omega), trivial⟩, ⟨rfl, rfl, rfl, rfl, trivial⟩, rfl, rfl, rfl⟩⟩
                · conv => whnf
                  exact ⟨3, by decide, by decide, Wk.conv ⟨[], trivial, ⟨rfl, rfl, rfl, rfl, wsucc (by omega), trivial⟩, ⟨rfl, rfl, rfl, rfl, trivial⟩, rfl, rfl, rfl⟩⟩
              · conv => whnf
                exact ⟨(k + 1, a, b.set q v, c), ⟨hk', ha, hS, hc⟩, by show l.length - (k + 1) < l.length - k; omega, Wk.conv ⟨[], trivial, ⟨rfl, rfl, rfl, wsucc (by omega), trivial⟩, ⟨rfl, rfl, rfl, rfl, trivial⟩, rfl, rfl, rfl⟩⟩
      · have l7 : c.length = 7 := hc.1
        refine aLoop.ruleC Nat (fun j => ([(0, trisA l), (3, hdsA (D3 a b c)), (8, .ow 0 3), (10, .v (.int .i64 k)), (11, .v (.int .i64 (2 : Nat))), (12, .v (.int .i64 q)), (13, .v (.int .i64 v)), (14, .v (.int .i64 (cnR c j : Nat))), (15, .v (.int .i64 j))], heapR a b c)) (fun j => j ≤ 7) (fun j => 7 - j) 0 (Nat.zero_le _) (Wk.conv ⟨[], trivial, ⟨rfl, rfl, rfl, rfl, congrArg (fun x => AV.v (.int .i64 x)) em, congrArg (fun x => AV.v (.int .i64 x)) eq, congrArg (fun x => AV.v (.int .i64 x)) ev, rfl, rfl, trivial⟩, ⟨rfl, rfl, rfl, rfl, trivial⟩, rfl, rfl, rfl⟩) ?_
        rintro j hj
        conv => whnf
        refine boolI (fun h3 => ?_) (fun h3 => ?_) <;> (repeat rw [Int.toNat_natCast] at h3) <;> conv => whnf
        · have hj' : j < 7 := by omega
          have hE : (c.map icC).getD j [] = icC (c.getD j 0) := map_getD (by omega)
          refine aSeq.go ?_
          conv => whnf
          refine And.intro ⟨by decide, by decide⟩ ?_
          conv => whnf
          refine And.intro ⟨rfl, rfl, by decide⟩ ?_
          conv => whnf
          refine And.intro ⟨by omega, by omega⟩ ?_
          conv => whnf
          refine And.intro ⟨rfl, by simpa using l7.symm, by simpa using hj'⟩ ?_
          conv => whnf
          rw [Int.toNat_natCast, hE]
          conv => whnf
          refine boolK_intro (fun h4 => ?_) (fun h4 => ?_) <;> simp only [decide_eq_true_eq, decide_eq_false_iff_not] at h4 <;> conv => whnf
          · have hh : hasR c j = true := by simpa [hasR] using h4
            have hn : cnR c j + 1 = cnR c (j + 1) := by rw [cnR_succ, hh]; rfl
            have := cnR_le c j
            exact ⟨j + 1, by omega, by omega, Wk.conv ⟨[], trivial, ⟨rfl, rfl, rfl, rfl, rfl, rfl, rfl, (wsucc (by omega)).trans (congrArg (fun x : Nat => AV.v (.int .i64 (x : Int))) hn), wsucc (by omega), trivial⟩, ⟨rfl, rfl, rfl, rfl, trivial⟩, rfl, rfl, rfl⟩⟩
          · have hh : hasR c j = false := by simpa [hasR] using h4
            have hn : cnR c j = cnR c (j + 1) := by rw [cnR_succ, hh]; rfl
            exact ⟨j + 1, by omega, by omega, Wk.conv ⟨[], trivial, ⟨rfl, rfl, rfl, rfl, rfl, rfl, rfl, congrArg (fun x : Nat => AV.v (.int .i64 (x : Int))) hn, wsucc (by omega), trivial⟩, ⟨rfl, rfl, rfl, rfl, trivial⟩, rfl, rfl, rfl⟩⟩
        · have hj7 : j = 7 := by omega
          subst hj7
          have hn : cnR c 7 = (esR c).length := rfl
          have cP := hput_fn (D3 a b c) ((2 : Nat) : Int) (q : Nat) (blk v q) (by show 3 ≤ 1000; decide) (D3_hb a b c)
          rw [D3_put ha.2.1 hb.2.1 hc.2.1 (by decide), show (D3 a b c).getD 2 ⟨0, [], []⟩ = hdR 2 c from rfl, full_R 2 c hq] at cP
          cases hf : (decide (4 ≤ (esR c).length) && !hasR c q) with
          | true =>
            rw [hf, if_pos rfl] at cP
            refine ACalls.shut cP.go ?_
            conv => whnf
            refine And.intro rfl ?_
            conv => whnf
            refine ACalls.sub [hdsA (D3 a b c), .v (.int .i64 ((2 : Nat) : Int)), .v (.int .i64 (q : Nat)), bA (blk v q)] ⟨fun _ _ h => h, fun _ _ h => h, fun _ _ h => h, fun c u h => sub_map (f := by1) (l := blk v q) (d := 0) rfl c u (blkC hv hq ▸ h), trivial⟩ ?_
            refine Fn.closed (cP) rfl ?_
            rintro _ rfl
            conv => whnf
            have h4 : 4 ≤ (esR c).length := by simp only [Bool.and_eq_true, decide_eq_true_eq] at hf; exact hf.1
            have hh : hasR c q = false := by simp only [Bool.and_eq_true, Bool.not_eq_true'] at hf; exact hf.2
            have hE : (c.map icC).getD q [] = icC (c.getD q 0) := map_getD (by omega)
            rw [show decide (((cnR c 7 : Nat) : Int) ≥ 4) = true from decide_eq_true (by omega)]
            conv => whnf
            refine And.intro ⟨by decide, by decide⟩ ?_
            conv => whnf
            refine And.intro ⟨rfl, rfl, by decide⟩ ?_
            conv => whnf
            refine And.intro ⟨by omega, by omega⟩ ?_
            conv => whnf
            refine And.intro ⟨rfl, by simpa using l7.symm, by simpa using hq⟩ ?_
            conv => whnf
            rw [Int.toNat_natCast, hE]
            conv => whnf
            rw [show decide (c.getD q 0 < 0) = true from decide_eq_true (by have : ¬ 0 ≤ c.getD q 0 := of_decide_eq_false hh; omega)]
            conv => whnf
            exact ⟨(k + 1, a, b, c), ⟨hk', ha, hb, hc⟩, by show l.length - (k + 1) < l.length - k; omega, Wk.conv ⟨[], trivial, ⟨rfl, rfl, rfl, wsucc (by omega), trivial⟩, ⟨rfl, rfl, rfl, rfl, trivial⟩, rfl, rfl, rfl⟩⟩
          | false =>
            rw [hf, if_neg Bool.false_ne_true, wr_R 2 c hq l7 (by omega)] at cP
            have hS : RowOk (c.set q v) := row_set hc hq hv hf
            have cC := hcheck_fn (D3 a b (c.set q v)) (by show 3 ≤ 1000; decide) (fun h hh => ⟨(D3_hb _ _ _ h hh).1, (D3_hb _ _ _ h hh).2.1⟩)
            rw [D3_ok ha.2.1 hb.2.1 hS.2.1] at cC
            have hE : (c.map icC).getD q [] = icC (c.getD q 0) := map_getD (by omega)
            refine ACalls.shut cP.go ?_
            conv => whnf
            refine And.intro rfl ?_
            conv => whnf
            refine ACalls.sub [hdsA (D3 a b c), .v (.int .i64 ((2 : Nat) : Int)), .v (.int .i64 (q : Nat)), bA (blk v q)] ⟨fun _ _ h => h, fun _ _ h => h, fun _ _ h => h, fun c u h => sub_map (f := by1) (l := blk v q) (d := 0) rfl c u (blkC hv hq ▸ h), trivial⟩ ?_
            refine Fn.closed (cP) rfl ?_
            rintro _ rfl
            conv => whnf
            cases h4 : decide (((cnR c 7 : Nat) : Int) ≥ 4) with
            | false =>
              conv => whnf
              refine Fn.closed (cC) rfl ?_
              rintro _ rfl
              conv => whnf
              refine aDraw.of tys_ok mixed [0, 1, 2, 3, 4, 5, 6, 7, 8, 9] (by kernel_rfl) ?_
              conv => whnf
              refine And.intro ⟨by decide, by decide⟩ ?_
              conv => whnf
              refine And.intro ⟨rfl, rfl, by decide⟩ ?_
              conv => whnf
              refine And.intro ⟨by omega, by omega⟩ ?_
              conv => whnf
              refine And.intro ⟨rfl, by simpa using l7.symm, by simpa using hq⟩ ?_
              conv => whnf
              rw [Int.toNat_natCast, hE]
              conv => whnf
              refine aLoop.ruleC Nat (fun n => ([(0, trisA l), (3, hdsA (D3 a b (c.set q v))), (8, .ow 0 3), (10, .v (.int .i64 k)), (18, .v (.int .i64 n))], heapR a b (c.set q v))) (fun n => n ≤ 3) (fun n => 3 - n) 0 (Nat.zero_le _) (Wk.conv ⟨[], trivial, ⟨rfl, rfl, rfl, rfl, rfl, trivial⟩, ⟨rfl, rfl, rfl, congrArg (AB.row _ _) List.map_set, trivial⟩, rfl, rfl, rfl⟩) ?_
              rintro n hn3
              have hn4 : n = 0 ∨ n = 1 ∨ n = 2 ∨ n = 3 := by omega
              rcases hn4 with rfl | rfl | rfl | rfl
              · have m7 : a.length = 7 := ha.1
                conv => whnf
                refine aLoop.ruleC Nat (fun j => ([(0, trisA l), (3, hdsA (D3 a b (c.set q v))), (8, .ow 0 3), (10, .v (.int .i64 k)), (18, .v (.int .i64 (0 : Nat))), (19, .v (.int .i64 j))], heapR a b (c.set q v))) (fun j => j ≤ 7) (fun j => 7 - j) 0 (Nat.zero_le _) (Wk.conv ⟨[], trivial, ⟨rfl, rfl, rfl, rfl, rfl, rfl, trivial⟩, ⟨rfl, rfl, rfl, rfl, trivial⟩, rfl, rfl, rfl⟩) ?_
                rintro j hj
                conv => whnf
                refine boolI (fun h6 => ?_) (fun h6 => ?_) <;> (repeat rw [Int.toNat_natCast] at h6) <;> conv => whnf
                · have hj' : j < 7 := by omega
                  have hE2 : (a.map icC).getD j [] = icC (a.getD j 0) := map_getD (by omega)
                  have cG := hget_fn (D3 a b (c.set q v)) ((0 : Nat) : Int) (j : Nat) (by show 3 ≤ 1000; decide) (D3_hb _ _ _)
                  rw [D3_get ha.2.1 hb.2.1 hS.2.1 (by decide), show (D3 a b (c.set q v)).getD 0 ⟨0, [], []⟩ = hdR 0 a from rfl, gB_R 0 a hj'] at cG
                  cases hh : hasR a j with
                  | true =>
                    rw [hh, if_pos rfl] at cG
                    replace cG : Fn Try.prog 10 [hdsA (D3 a b (c.set q v)), .v (.int .i64 ((0 : Nat) : Int)), .v (.int .i64 (j : Nat))] fun r => r = .tp [bA (blk (a.getD j 0) j), .v (.bool true), .v (.int .i64 0)] := cG
                    have h7 : 0 ≤ a.getD j 0 := of_decide_eq_true hh
                    have h8 := blk_getD h7 (ha.2.2 j hj') hj'
                    refine Fn.closed (cG) rfl ?_
                    rintro _ rfl
                    conv => whnf
                    refine aDraw.of tys_ok mixed [0, 1, 2, 3, 4, 5, 6, 7, 8, 9, 10, 11, 12, 13, 14, 15, 16, 17, 18, 19, 20, 21, 22, 23, 24, 25, 26, 27, 28, 29, 30, 31, 32, 33, 34, 35, 36, 37, 38, 39, 40, 41, 42, 43] (by kernel_rfl) ?_
                    conv => whnf
                    refine And.intro ⟨by decide, by decide⟩ ?_
                    conv => whnf
                    refine And.intro ⟨rfl, rfl, by decide⟩ ?_
                    conv => whnf
                    refine And.intro ⟨by omega, by omega⟩ ?_
                    conv => whnf
                    refine And.intro ⟨rfl, by simpa using m7.symm, by simpa using hj'⟩ ?_
                    conv => whnf
                    rw [Int.toNat_natCast, hE2]
                    conv => whnf
                    rw [show decide (a.getD j 0 ≥ 0) = true from decide_eq_true h7]
                    conv => whnf
                    refine And.intro ⟨by decide, by show (0 : Int) < ((8 : Nat) : Int); decide⟩ ?_
                    conv => whnf
                    refine And.intro ⟨by decide, by decide⟩ ?_
                    conv => whnf
                    refine And.intro ⟨rfl, rfl, by decide⟩ ?_
                    conv => whnf
                    refine And.intro ⟨by omega, by omega⟩ ?_
                    conv => whnf
                    refine And.intro ⟨rfl, by simpa using m7.symm, by simpa using hj'⟩ ?_
                    conv => whnf
                    rw [Int.toNat_natCast, hE2]
                    conv => whnf
                    rw [show (IntKind.i64.wrap (((blk (a.getD j 0) j).getD (Int.toNat 0) 0).toNat : Int) != a.getD j 0) = false by rw [show Int.toNat 0 = 0 from rfl, h8.1, wi (by have := ha.2.2 j hj'; omega)]; exact bne_self_eq_false _]
                    conv => whnf
                    refine And.intro ⟨by decide, by show (7 : Int) < ((8 : Nat) : Int); decide⟩ ?_
                    conv => whnf
                    rw [show (IntKind.i64.wrap (((blk (a.getD j 0) j).getD (Int.toNat 7) 0).toNat : Int) != (j : Int)) = false by rw [show Int.toNat 7 = 7 from rfl, h8.2, wi (by omega)]; exact bne_self_eq_false _]
                    conv => whnf
                    exact ⟨j + 1, by omega, by omega, Wk.conv ⟨[], trivial, ⟨rfl, rfl, rfl, rfl, rfl, wsucc (by omega), trivial⟩, ⟨rfl, rfl, rfl, rfl, trivial⟩, rfl, rfl, rfl⟩⟩
                  | false =>
                    rw [hh, if_neg Bool.false_ne_true] at cG
                    replace cG : Fn Try.prog 10 [hdsA (D3 a b (c.set q v)), .v (.int .i64 ((0 : Nat) : Int)), .v (.int .i64 (j : Nat))] fun r => r = .tp [bA [], .v (.bool false), .v (.int .i64 0)] := cG
                    have h7 : ¬ 0 ≤ a.getD j 0 := of_decide_eq_false hh
                    refine Fn.closed (cG) rfl ?_
                    rintro _ rfl
                    conv => whnf
                    refine aDraw.of tys_ok mixed [0, 1, 2, 3, 4, 5, 6, 7, 8, 9, 10, 11, 12, 13, 14, 15, 16, 17, 18, 19, 20, 21, 22, 23, 24, 25, 26, 27, 28, 29, 30, 31, 32, 33, 34, 35, 36, 37, 38, 39, 40, 41, 42, 43] (by kernel_rfl) ?_
                    conv => whnf
                    refine And.intro ⟨by decide, by decide⟩ ?_
                    conv => whnf
                    refine And.intro ⟨rfl, rfl, by decide⟩ ?_
                    conv => whnf
                    refine And.intro ⟨by omega, by omega⟩ ?_
                    conv => whnf
                    refine And.intro ⟨rfl, by simpa using m7.symm, by simpa using hj'⟩ ?_
                    conv => whnf
                    rw [Int.toNat_natCast, hE2]
                    conv => whnf
                    rw [show decide (a.getD j 0 ≥ 0) = false from decide_eq_false h7]
                    conv => whnf
                    exact ⟨j + 1, by omega, by omega, Wk.conv ⟨[], trivial, ⟨rfl, rfl, rfl, rfl, rfl, wsucc (by omega), trivial⟩, ⟨rfl, rfl, rfl, rfl, trivial⟩, rfl, rfl, rfl⟩⟩
                · conv => whnf
                  exact ⟨1, by decide, by decide, Wk.conv ⟨[], trivial, ⟨rfl, rfl, rfl, rfl, wsucc (by omega), trivial⟩, ⟨rfl, rfl, rfl, rfl, trivial⟩, rfl, rfl, rfl⟩⟩
              · have m7 : b.length = 7 := hb.1
                conv => whnf
                refine aLoop.ruleC Nat (fun j => ([(0, trisA l), (3, hdsA (D3 a b (c.set q v))), (8, .ow 0 3), (10, .v (.int .i64 k)), (18, .v (.int .i64 (1 : Nat))), (19, .v (.int .i64 j))], heapR a b (c.set q v))) (fun j => j ≤ 7) (fun j => 7 - j) 0 (Nat.zero_le _) (Wk.conv ⟨[], trivial, ⟨rfl, rfl, rfl, rfl, rfl, rfl, trivial⟩, ⟨rfl, rfl, rfl, rfl, trivial⟩, rfl, rfl, rfl⟩) ?_
                rintro j hj
                conv => whnf
                refine boolI (fun h6 => ?_) (fun h6 => ?_) <;> (repeat rw [Int.toNat_natCast] at h6) <;> conv => whnf
                · have hj' : j < 7 := by omega
                  have hE2 : (b.map icC).getD j [] = icC (b.getD j 0) := map_getD (by omega)
                  have cG := hget_fn (D3 a b (c.set q v)) ((1 : Nat) : Int) (j : Nat) (by show 3 ≤ 1000; decide) (D3_hb _ _ _)
                  rw [D3_get ha.2.1 hb.2.1 hS.2.1 (by decide), show (D3 a b (c.set q v)).getD 1 ⟨0, [], []⟩ = hdR 1 b from rfl, gB_R 1 b hj'] at cG
                  cases hh : hasR b j with
                  | true =>
                    rw [hh, if_pos rfl] at cG
                    replace cG : Fn Try.prog 10 [hdsA (D3 a b (c.set q v)), .v (.int .i64 ((1 : Nat) : Int)), .v (.int .i64 (j : Nat))] fun r => r = .tp [bA (blk (b.getD j 0) j), .v (.bool true), .v (.int .i64 0)] := cG
                    have h7 : 0 ≤ b.getD j 0 := of_decide_eq_true hh
                    have h8 := blk_getD h7 (hb.2.2 j hj') hj'
                    refine Fn.closed (cG) rfl ?_
                    rintro _ rfl
                    conv => whnf
                    refine aDraw.of tys_ok mixed [0, 1, 2, 3, 4, 5, 6, 7, 8, 9, 10, 11, 12, 13, 14, 15, 16, 17, 18, 19, 20, 21, 22, 23, 24, 25, 26, 27, 28, 29, 30, 31, 32, 33, 34, 35, 36, 37, 38, 39, 40, 41, 42, 43] (by kernel_rfl) ?_
                    conv => whnf
                    refine And.intro ⟨by decide, by decide⟩ ?_
                    conv => whnf
                    refine And.intro ⟨rfl, rfl, by decide⟩ ?_
                    conv => whnf
                    refine And.intro ⟨by omega, by omega⟩ ?_
                    conv => whnf
                    refine And.intro ⟨rfl, by simpa using m7.symm, by simpa using hj'⟩ ?_
                    conv => whnf
                    rw [Int.toNat_natCast, hE2]
                    conv => whnf
                    rw [show decide (b.getD j 0 ≥ 0) = true from decide_eq_true h7]
                    conv => whnf
                    refine And.intro ⟨by decide, by show (0 : Int) < ((8 : Nat) : Int); decide⟩ ?_
                    conv => whnf
                    refine And.intro ⟨by decide, by decide⟩ ?_
                    conv => whnf
                    refine And.intro ⟨rfl, rfl, by decide⟩ ?_
                    conv => whnf
                    refine And.intro ⟨by omega, by omega⟩ ?_
                    conv => whnf
                    refine And.intro ⟨rfl, by simpa using m7.symm, by simpa using hj'⟩ ?_
                    conv => whnf
                    rw [Int.toNat_natCast, hE2]
                    conv => whnf
                    rw [show (IntKind.i64.wrap (((blk (b.getD j 0) j).getD (Int.toNat 0) 0).toNat : Int) != b.getD j 0) = false by rw [show Int.toNat 0 = 0 from rfl, h8.1, wi (by have := hb.2.2 j hj'; omega)]; exact bne_self_eq_false _]
                    conv => whnf
                    refine And.intro ⟨by decide, by show (7 : Int) < ((8 : Nat) : Int); decide⟩ ?_
                    conv => whnf
                    rw [show (IntKind.i64.wrap (((blk (b.getD j 0) j).getD (Int.toNat 7) 0).toNat : Int) != (j : Int)) = false by rw [show Int.toNat 7 = 7 from rfl, h8.2, wi (by omega)]; exact bne_self_eq_false _]
                    conv => whnf
                    exact ⟨j + 1, by omega, by omega, Wk.conv ⟨[], trivial, ⟨rfl, rfl, rfl, rfl, rfl, wsucc (by omega), trivial⟩, ⟨rfl, rfl, rfl, rfl, trivial⟩, rfl, rfl, rfl⟩⟩
                  | false =>
                    rw [hh, if_neg Bool.false_ne_true] at cG
                    replace cG : Fn Try.prog 10 [hdsA (D3 a b (c.set q v)), .v (.int .i64 ((1 : Nat) : Int)), .v (.int .i64 (j : Nat))] fun r => r = .tp [bA [], .v (.bool false), .v (.int .i64 0)] := cG
                    have h7 : ¬ 0 ≤ b.getD j 0 := of_decide_eq_false hh
                    refine Fn.closed (cG) rfl ?_
                    rintro _ rfl
                    conv => whnf
                    refine aDraw.of tys_ok mixed [0, 1, 2, 3, 4, 5, 6, 7, 8, 9, 10, 11, 12, 13, 14, 15, 16, 17, 18, 19, 20, 21, 22, 23, 24, 25, 26, 27, 28, 29, 30, 31, 32, 33, 34, 35, 36, 37, 38, 39, 40, 41, 42, 43] (by kernel_rfl) ?_
                    conv => whnf
                    refine And.intro ⟨by decide, by decide⟩ ?_
                    conv => whnf
                    refine And.intro ⟨rfl, rfl, by decide⟩ ?_
                    conv => whnf
                    refine And.intro ⟨by omega, by omega⟩ ?_
                    conv => whnf
                    refine And.intro ⟨rfl, by simpa using m7.symm, by simpa using hj'⟩ ?_
                    conv => whnf
                    rw [Int.toNat_natCast, hE2]
                    conv => whnf
                    rw [show decide (b.getD j 0 ≥ 0) = false from decide_eq_false h7]
                    conv => whnf
                    exact ⟨j + 1, by omega, by omega, Wk.conv ⟨[], trivial, ⟨rfl, rfl, rfl, rfl, rfl, wsucc (by omega), trivial⟩, ⟨rfl, rfl, rfl, rfl, trivial⟩, rfl, rfl, rfl⟩⟩
                · conv => whnf
                  exact ⟨2, by decide, by decide, Wk.conv ⟨[], trivial, ⟨rfl, rfl, rfl, rfl, wsucc (by omega), trivial⟩, ⟨rfl, rfl, rfl, rfl, trivial⟩, rfl, rfl, rfl⟩⟩
              · have m7 : (c.set q v).length = 7 := hS.1
                conv => whnf
                refine aLoop.ruleC Nat (fun j => ([(0, trisA l), (3, hdsA (D3 a b (c.set q v))), (8, .ow 0 3), (10, .v (.int .i64 k)), (18, .v (.int .i64 (2 : Nat))), (19, .v (.int .i64 j))], heapR a b (c.set q v))) (fun j => j ≤ 7) (fun j => 7 - j) 0 (Nat.zero_le _) (Wk.conv ⟨[], trivial, ⟨rfl, rfl, rfl, rfl, rfl, rfl, trivial⟩, ⟨rfl, rfl, rfl, rfl, trivial⟩, rfl, rfl, rfl⟩) ?_
                rintro j hj
                conv => whnf
                refine boolI (fun h6 => ?_) (fun h6 => ?_) <;> (repeat rw [Int.toNat_natCast] at h6) <;> conv => whnf
                · have hj' : j < 7 := by omega
                  have hE2 : ((c.set q v).map icC).getD j [] = icC ((c.set q v).getD j 0) := map_getD (by omega)
                  have cG := hget_fn (D3 a b (c.set q v)) ((2 : Nat) : Int) (j : Nat) (by show 3 ≤ 1000; decide) (D3_hb _ _ _)
                  rw [D3_get ha.2.1 hb.2.1 hS.2.1 (by decide), show (D3 a b (c.set q v)).getD 2 ⟨0, [], []⟩ = hdR 2 (c.set q v) from rfl, gB_R 2 (c.set q v) hj'] at cG
                  cases hh : hasR (c.set q v) j with
                  | true =>
                    rw [hh, if_pos rfl] at cG
                    replace cG : Fn Try.prog 10 [hdsA (D3 a b (c.set q v)), .v (.int .i64 ((2 : Nat) : Int)), .v (.int .i64 (j : Nat))] fun r => r = .tp [bA (blk ((c.set q v).getD j 0) j), .v (.bool true), .v (.int .i64 0)] := cG
                    have h7 : 0 ≤ (c.set q v).getD j 0 := of_decide_eq_true hh
                    have h8 := blk_getD h7 (hS.2.2 j hj') hj'
                    refine Fn.closed (cG) rfl ?_
                    rintro _ rfl
                    conv => whnf
                    refine aDraw.of tys_ok mixed [0, 1, 2, 3, 4, 5, 6, 7, 8, 9, 10, 11, 12, 13, 14, 15, 16, 17, 18, 19, 20, 21, 22, 23, 24, 25, 26, 27, 28, 29, 30, 31, 32, 33, 34, 35, 36, 37, 38, 39, 40, 41, 42, 43] (by kernel_rfl) ?_
                    conv => whnf
                    refine And.intro ⟨by decide, by decide⟩ ?_
                    conv => whnf
                    refine And.intro ⟨rfl, rfl, by decide⟩ ?_
                    conv => whnf
                    refine And.intro ⟨by omega, by omega⟩ ?_
                    conv => whnf
                    refine And.intro ⟨rfl, by simpa using m7.symm, by simpa using hj'⟩ ?_
                    conv => whnf
                    rw [Int.toNat_natCast, hE2]
                    conv => whnf
                    rw [show decide ((c.set q v).getD j 0 ≥ 0) = true from decide_eq_true h7]
                    conv => whnf
                    refine And.intro ⟨by decide, by show (0 : Int) < ((8 : Nat) : Int); decide⟩ ?_
                    conv => whnf
                    refine And.intro ⟨by decide, by decide⟩ ?_
                    conv => whnf
                    refine And.intro ⟨rfl, rfl, by decide⟩ ?_
                    conv => whnf
                    refine And.intro ⟨by omega, by omega⟩ ?_
                    conv => whnf
                    refine And.intro ⟨rfl, by simpa using m7.symm, by simpa using hj'⟩ ?_
                    conv => whnf
                    rw [Int.toNat_natCast, hE2]
                    conv => whnf
                    rw [show (IntKind.i64.wrap (((blk ((c.set q v).getD j 0) j).getD (Int.toNat 0) 0).toNat : Int) != (c.set q v).getD j 0) = false by rw [show Int.toNat 0 = 0 from rfl, h8.1, wi (by have := hS.2.2 j hj'; omega)]; exact bne_self_eq_false _]
                    conv => whnf
                    refine And.intro ⟨by decide, by show (7 : Int) < ((8 : Nat) : Int); decide⟩ ?_
                    conv => whnf
                    rw [show (IntKind.i64.wrap (((blk ((c.set q v).getD j 0) j).getD (Int.toNat 7) 0).toNat : Int) != (j : Int)) = false by rw [show Int.toNat 7 = 7 from rfl, h8.2, wi (by omega)]; exact bne_self_eq_false _]
                    conv => whnf
                    exact ⟨j + 1, by omega, by omega, Wk.conv ⟨[], trivial, ⟨rfl, rfl, rfl, rfl, rfl, wsucc (by omega), trivial⟩, ⟨rfl, rfl, rfl, rfl, trivial⟩, rfl, rfl, rfl⟩⟩
                  | false =>
                    rw [hh, if_neg Bool.false_ne_true] at cG
                    replace cG : Fn Try.prog 10 [hdsA (D3 a b (c.set q v)), .v (.int .i64 ((2 : Nat) : Int)), .v (.int .i64 (j : Nat))] fun r => r = .tp [bA [], .v (.bool false), .v (.int .i64 0)] := cG
                    have h7 : ¬ 0 ≤ (c.set q v).getD j 0 := of_decide_eq_false hh
                    refine Fn.closed (cG) rfl ?_
                    rintro _ rfl
                    conv => whnf
                    refine aDraw.of tys_ok mixed [0, 1, 2, 3, 4, 5, 6, 7, 8, 9, 10, 11, 12, 13, 14, 15, 16, 17, 18, 19, 20, 21, 22, 23, 24, 25, 26, 27, 28, 29, 30, 31, 32, 33, 34, 35, 36, 37, 38, 39, 40, 41, 42, 43] (by kernel_rfl) ?_
                    conv => whnf
                    refine And.intro ⟨by decide, by decide⟩ ?_
                    conv => whnf
                    refine And.intro ⟨rfl, rfl, by decide⟩ ?_
                    conv => whnf
                    refine And.intro ⟨by omega, by omega⟩ ?_
                    conv => whnf
                    refine And.intro ⟨rfl, by simpa using m7.symm, by simpa using hj'⟩ ?_
                    conv => whnf
                    rw [Int.toNat_natCast, hE2]
                    conv => whnf
                    rw [show decide ((c.set q v).getD j 0 ≥ 0) = false from decide_eq_false h7]
                    conv => whnf
                    exact ⟨j + 1, by omega, by omega, Wk.conv ⟨[], trivial, ⟨rfl, rfl, rfl, rfl, rfl, wsucc (by omega), trivial⟩, ⟨rfl, rfl, rfl, rfl, trivial⟩, rfl, rfl, rfl⟩⟩
                · conv => whnf
                  exact ⟨3, by decide, by decide, Wk.conv ⟨[], trivial, ⟨rfl, rfl, rfl, rfl, wsucc (by omega), trivial⟩, ⟨rfl, rfl, rfl, rfl, trivial⟩, rfl, rfl, rfl⟩⟩
              · conv => whnf
                exact ⟨(k + 1, a, b, c.set q v), ⟨hk', ha, hb, hS⟩, by show l.length - (k + 1) < l.length - k; omega, Wk.conv ⟨[], trivial, ⟨rfl, rfl, rfl, wsucc (by omega), trivial⟩, ⟨rfl, rfl, rfl, rfl, trivial⟩, rfl, rfl, rfl⟩⟩
            | true =>
              have hh : hasR c q = true := by
                have h5 : 4 ≤ (esR c).length := by have := of_decide_eq_true h4; omega
                rw [decide_eq_true h5] at hf; simpa using hf
              conv => whnf
              refine And.intro ⟨by decide, by decide⟩ ?_
              conv => whnf
              refine And.intro ⟨rfl, rfl, by decide⟩ ?_
              conv => whnf
              refine And.intro ⟨by omega, by omega⟩ ?_
              conv => whnf
              refine And.intro ⟨rfl, by simpa using l7.symm, by simpa using hq⟩ ?_
              conv => whnf
              rw [Int.toNat_natCast, hE]
              conv => whnf
              rw [show decide (c.getD q 0 < 0) = false from decide_eq_false (by have : 0 ≤ c.getD q 0 := of_decide_eq_true hh; omega)]
              conv => whnf
              refine Fn.closed (cC) rfl ?_
              rintro _ rfl
              conv => whnf
              refine aDraw.of tys_ok mixed [0, 1, 2, 3, 4, 5, 6, 7, 8, 9] (by kernel_rfl) ?_
              conv => whnf
              refine And.intro ⟨by decide, by decide⟩ ?_
              conv => whnf
              refine And.intro ⟨rfl, rfl, by decide⟩ ?_
              conv => whnf
              refine And.intro ⟨by omega, by omega⟩ ?_
              conv => whnf
              refine And.intro ⟨rfl, by simpa using l7.symm, by simpa using hq⟩ ?_
              conv => whnf
              rw [Int.toNat_natCast, hE]
              conv => whnf
              refine aLoop.ruleC Nat (fun n => ([(0, trisA l), (3, hdsA (D3 a b (c.set q v))), (8, .ow 0 3), (10, .v (.int .i64 k)), (18, .v (.int .i64 n))], heapR a b (c.set q v))) (fun n => n ≤ 3) (fun n => 3 - n) 0 (Nat.zero_le _) (Wk.conv ⟨[], trivial, ⟨rfl, rfl, rfl, rfl, rfl, trivial⟩, ⟨rfl, rfl, rfl, congrArg (AB.row _ _) List.map_set, trivial⟩, rfl, rfl, rfl⟩) ?_
              rintro n hn3
              have hn4 : n = 0 ∨ n = 1 ∨ n = 2 ∨ n = 3 := by omega
              rcases hn4 with rfl | rfl | rfl | rfl
              · have m7 : a.length = 7 := ha.1
                conv => whnf
                refine aLoop.ruleC Nat (fun j => ([(0, trisA l), (3, hdsA (D3 a b (c.set q v))), (8, .ow 0 3), (10, .v (.int .i64 k)), (18, .v (.int .i64 (0 : Nat))), (19, .v (.int .i64 j))], heapR a b (c.set q v))) (fun j => j ≤ 7) (fun j => 7 - j) 0 (Nat.zero_le _) (Wk.conv ⟨[], trivial, ⟨rfl, rfl, rfl, rfl, rfl, rfl, trivial⟩, ⟨rfl, rfl, rfl, rfl, trivial⟩, rfl, rfl, rfl⟩) ?_
                rintro j hj
                conv => whnf
                refine boolI (fun h6 => ?_) (fun h6 => ?_) <;> (repeat rw [Int.toNat_natCast] at h6) <;> conv => whnf
                · have hj' : j < 7 := by omega
                  have hE2 : (a.map icC).getD j [] = icC (a.getD j 0) := map_getD (by omega)
                  have cG := hget_fn (D3 a b (c.set q v)) ((0 : Nat) : Int) (j : Nat) (by show 3 ≤ 1000; decide) (D3_hb _ _ _)
                  rw [D3_get ha.2.1 hb.2.1 hS.2.1 (by decide), show (D3 a b (c.set q v)).getD 0 ⟨0, [], []⟩ = hdR 0 a from rfl, gB_R 0 a hj'] at cG
                  cases hh : hasR a j with
                  | true =>
                    rw [hh, if_pos rfl] at cG
                    replace cG : Fn Try.prog 10 [hdsA (D3 a b (c.set q v)), .v (.int .i64 ((0 : Nat) : Int)), .v (.int .i64 (j : Nat))] fun r => r = .tp [bA (blk (a.getD j 0) j), .v (.bool true), .v (.int .i64 0)] := cG
                    have h7 : 0 ≤ a.getD j 0 := of_decide_eq_true hh
                    have h8 := blk_getD h7 (ha.2.2 j hj') hj'
                    refine Fn.closed (cG) rfl ?_
                    rintro _ rfl
                    conv => whnf
                    refine aDraw.of tys_ok mixed [0, 1, 2, 3, 4, 5, 6, 7, 8, 9, 10, 11, 12, 13, 14, 15, 16, 17, 18, 19, 20, 21, 22, 23, 24, 25, 26, 27, 28, 29, 30, 31, 32, 33, 34, 35, 36, 37, 38, 39, 40, 41, 42, 43] (by kernel_rfl) ?_
                    conv => whnf
                    refine And.intro ⟨by decide, by decide⟩ ?_
                    conv => whnf
                    refine And.intro ⟨rfl, rfl, by decide⟩ ?_
                    conv => whnf
                    refine And.intro ⟨by omega, by omega⟩ ?_
                    conv => whnf
                    refine And.intro ⟨rfl, by simpa using m7.symm, by simpa using hj'⟩ ?_
                    conv => whnf
                    rw [Int.toNat_natCast, hE2]
                    conv => whnf
                    rw [show decide (a.getD j 0 ≥ 0) = true from decide_eq_true h7]
                    conv => whnf
                    refine And.intro ⟨by decide, by show (0 : Int) < ((8 : Nat) : Int); decide⟩ ?_
                    conv => whnf
                    refine And.intro ⟨by decide, by decide⟩ ?_
                    conv => whnf
                    refine And.intro ⟨rfl, rfl, by decide⟩ ?_
                    conv => whnf
                    refine And.intro ⟨by omega, by omega⟩ ?_
                    conv => whnf
                    refine And.intro ⟨rfl, by simpa using m7.symm, by simpa using hj'⟩ ?_
                    conv => whnf
                    rw [Int.toNat_natCast, hE2]
                    conv => whnf
                    rw [show (IntKind.i64.wrap (((blk (a.getD j 0) j).getD (Int.toNat 0) 0).toNat : Int) != a.getD j 0) = false by rw [show Int.toNat 0 = 0 from rfl, h8.1, wi (by have := ha.2.2 j hj'; omega)]; exact bne_self_eq_false _]
                    conv => whnf
                    refine And.intro ⟨by decide, by show (7 : Int) < ((8 : Nat) : Int); decide⟩ ?_
                    conv => whnf
                    rw [show (IntKind.i64.wrap (((blk (a.getD j 0) j).getD (Int.toNat 7) 0).toNat : Int) != (j : Int)) = false by rw [show Int.toNat 7 = 7 from rfl, h8.2, wi (by omega)]; exact bne_self_eq_false _]
                    conv => whnf
                    exact ⟨j + 1, by omega, by omega, Wk.conv ⟨[], trivial, ⟨rfl, rfl, rfl, rfl, rfl, wsucc (by omega), trivial⟩, ⟨rfl, rfl, rfl, rfl, trivial⟩, rfl, rfl, rfl⟩⟩
                  | false =>
                    rw [hh, if_neg Bool.false_ne_true] at cG
                    replace cG : Fn Try.prog 10 [hdsA (D3 a b (c.set q v)), .v (.int .i64 ((0 : Nat) : Int)), .v (.int .i64 (j : Nat))] fun r => r = .tp [bA [], .v (.bool false), .v (.int .i64 0)] := cG
                    have h7 : ¬ 0 ≤ a.getD j 0 := of_decide_eq_false hh
                    refine Fn.closed (cG) rfl ?_
                    rintro _ rfl
                    conv => whnf
                    refine aDraw.of tys_ok mixed [0, 1, 2, 3, 4, 5, 6, 7, 8, 9, 10, 11, 12, 13, 14, 15, 16, 17, 18, 19, 20, 21, 22, 23, 24, 25, 26, 27, 28, 29, 30, 31, 32, 33, 34, 35, 36, 37, 38, 39, 40, 41, 42, 43] (by kernel_rfl) ?_
                    conv => whnf
                    refine And.intro ⟨by decide, by decide⟩ ?_
                    conv => whnf
                    refine And.intro ⟨rfl, rfl, by decide⟩ ?_
                    conv => whnf
                    refine And.intro ⟨by omega, by omega⟩ ?_
                    conv => whnf
                    refine And.intro ⟨rfl, by simpa using m7.symm, by simpa using hj'⟩ ?_
                    conv => whnf
                    rw [Int.toNat_natCast, hE2]
                    conv => whnf
                    rw [show decide (a.getD j 0 ≥ 0) = false from decide_eq_false h7]
                    conv => whnf
                    exact ⟨j + 1, by omega, by omega, Wk.conv ⟨[], trivial, ⟨rfl, rfl, rfl, rfl, rfl, wsucc (by omega), trivial⟩, ⟨rfl, rfl, rfl, rfl, trivial⟩, rfl, rfl, rfl⟩⟩
                · conv => whnf
                  exact ⟨1, by decide, by decide, Wk.conv ⟨[], trivial, ⟨rfl, rfl, rfl, rfl, wsucc (by omega), trivial⟩, ⟨rfl, rfl, rfl, rfl, trivial⟩, rfl, rfl, rfl⟩⟩
              · have m7 : b.length = 7 := hb.1
                conv => whnf
                refine aLoop.ruleC Nat (fun j => ([(0, trisA l), (3, hdsA (D3 a b (c.set q v))), (8, .ow 0 3), (10, .v (.int .i64 k)), (18, .v (.int .i64 (1 : Nat))), (19, .v (.int .i64 j))], heapR a b (c.set q v))) (fun j => j ≤ 7) (fun j => 7 - j) 0 (Nat.zero_le _) (Wk.conv ⟨[], trivial, ⟨rfl, rfl, rfl, rfl, rfl, rfl, trivial⟩, ⟨rfl, rfl, rfl, rfl, trivial⟩, rfl, rfl, rfl⟩) ?_
                rintro j hj
                conv => whnf
                refine boolI (fun h6 => ?_) (fun h6 => ?_) <;> (repeat rw [Int.toNat_natCast] at h6) <;> conv => whnf
                · have hj' : j < 7 := by omega
                  have hE2 : (b.map icC).getD j [] = icC (b.getD j 0) := map_getD (by omega)
                  have cG := hget_fn (D3 a b (c.set q v)) ((1 : Nat) : Int) (j : Nat) (by show 3 ≤ 1000; decide) (D3_hb _ _ _)
                  rw [D3_get ha.2.1 hb.2.1 hS.2.1 (by decide), show (D3 a b (c.set q v)).getD 1 ⟨0, [], []⟩ = hdR 1 b from rfl, gB_R 1 b hj'] at cG
                  cases hh : hasR b j with
                  | true =>
                    rw [hh, if_pos rfl] at cG
                    replace cG : Fn Try.prog 10 [hdsA (D3 a b (c.set q v)), .v (.int .i64 ((1 : Nat) : Int)), .v (.int .i64 (j : Nat))] fun r => r = .tp [bA (blk (b.getD j 0) j), .v (.bool true), .v (.int .i64 0)] := cG
                    have h7 : 0 ≤ b.getD j 0 := of_decide_eq_true hh
                    have h8 := blk_getD h7 (hb.2.2 j hj') hj'
                    refine Fn.closed (cG) rfl ?_
                    rintro _ rfl
                    conv => whnf
                    refine aDraw.of tys_ok mixed [0, 1, 2, 3, 4, 5, 6, 7, 8, 9, 10, 11, 12, 13, 14, 15, 16, 17, 18, 19, 20, 21, 22, 23, 24, 25, 26, 27, 28, 29, 30, 31, 32, 33, 34, 35, 36, 37, 38, 39, 40, 41, 42, 43] (by kernel_rfl) ?_
                    conv => whnf
                    refine And.intro ⟨by decide, by decide⟩ ?_
                    conv => whnf
                    refine And.intro ⟨rfl, rfl, by decide⟩ ?_
                    conv => whnf
                    refine And.intro ⟨by omega, by omega⟩ ?_
                    conv => whnf
                    refine And.intro ⟨rfl, by simpa using m7.symm, by simpa using hj'⟩ ?_
                    conv => whnf
                    rw [Int.toNat_natCast, hE2]
                    conv => whnf
                    rw [show decide (b.getD j 0 ≥ 0) = true from decide_eq_true h7]
                    conv => whnf
                    refine And.intro ⟨by decide, by show (0 : Int) < ((8 : Nat) : Int); decide⟩ ?_
                    conv => whnf
                    refine And.intro ⟨by decide, by decide⟩ ?_
                    conv => whnf
                    refine And.intro ⟨rfl, rfl, by decide⟩ ?_
                    conv => whnf
                    refine And.intro ⟨by omega, by omega⟩ ?_
                    conv => whnf
                    refine And.intro ⟨rfl, by simpa using m7.symm, by simpa using hj'⟩ ?_
                    conv => whnf
                    rw [Int.toNat_natCast, hE2]
                    conv => whnf
                    rw [show (IntKind.i64.wrap (((blk (b.getD j 0) j).getD (Int.toNat 0) 0).toNat : Int) != b.getD j 0) = false by rw [show Int.toNat 0 = 0 from rfl, h8.1, wi (by have := hb.2.2 j hj'; omega)]; exact bne_self_eq_false _]
                    conv => whnf
                    refine And.intro ⟨by decide, by show (7 : Int) < ((8 : Nat) : Int); decide⟩ ?_
                    conv => whnf
                    rw [show (IntKind.i64.wrap (((blk (b.getD j 0) j).getD (Int.toNat 7) 0).toNat : Int) != (j : Int)) = false by rw [show Int.toNat 7 = 7 from rfl, h8.2, wi (by omega)]; exact bne_self_eq_false _]
                    conv => whnf
                    exact ⟨j + 1, by omega, by omega, Wk.conv ⟨[], trivial, ⟨rfl, rfl, rfl, rfl, rfl, wsucc (by omega), trivial⟩, ⟨rfl, rfl, rfl, rfl, trivial⟩, rfl, rfl, rfl⟩⟩
                  | false =>
                    rw [hh, if_neg Bool.false_ne_true] at cG
                    replace cG : Fn Try.prog 10 [hdsA (D3 a b (c.set q v)), .v (.int .i64 ((1 : Nat) : Int)), .v (.int .i64 (j : Nat))] fun r => r = .tp [bA [], .v (.bool false), .v (.int .i64 0)] := cG
                    have h7 : ¬ 0 ≤ b.getD j 0 := of_decide_eq_false hh
                    refine Fn.closed (cG) rfl ?_
                    rintro _ rfl
                    conv => whnf
                    refine aDraw.of tys_ok mixed [0, 1, 2, 3, 4, 5, 6, 7, 8, 9, 10, 11, 12, 13, 14, 15, 16, 17, 18, 19, 20, 21, 22, 23, 24, 25, 26, 27, 28, 29, 30, 31, 32, 33, 34, 35, 36, 37, 38, 39, 40, 41, 42, 43] (by kernel_rfl) ?_
                    conv => whnf
                    refine And.intro ⟨by decide, by decide⟩ ?_
                    conv => whnf
                    refine And.intro ⟨rfl, rfl, by decide⟩ ?_
                    conv => whnf
                    refine And.intro ⟨by omega, by omega⟩ ?_
                    conv => whnf
                    refine And.intro ⟨rfl, by simpa using m7.symm, by simpa using hj'⟩ ?_
                    conv => whnf
                    rw [Int.toNat_natCast, hE2]
                    conv => whnf
                    rw [show decide (b.getD j 0 ≥ 0) = false from decide_eq_false h7]
                    conv => whnf
                    exact ⟨j + 1, by omega, by omega, Wk.conv ⟨[], trivial, ⟨rfl, rfl, rfl, rfl, rfl, wsucc (by omega), trivial⟩, ⟨rfl, rfl, rfl, rfl, trivial⟩, rfl, rfl, rfl⟩⟩
                · conv => whnf
                  exact ⟨2, by decide, by decide, Wk.conv ⟨[], trivial, ⟨rfl, rfl, rfl, rfl, wsucc (by omega), trivial⟩, ⟨rfl, rfl, rfl, rfl, trivial⟩, rfl, rfl, rfl⟩⟩
              · have m7 : (c.set q v).length = 7 := hS.1
                conv => whnf
                refine aLoop.ruleC Nat (fun j => ([(0, trisA l), (3, hdsA (D3 a b (c.set q v))), (8, .ow 0 3), (10, .v (.int .i64 k)), (18, .v (.int .i64 (2 : Nat))), (19, .v (.int .i64 j))], heapR a b (c.set q v))) (fun j => j ≤ 7) (fun j => 7 - j) 0 (Nat.zero_le _) (Wk.conv ⟨[], trivial, ⟨rfl, rfl, rfl, rfl, rfl, rfl, trivial⟩, ⟨rfl, rfl, rfl, rfl, trivial⟩, rfl, rfl, rfl⟩) ?_
                rintro j hj
                conv => whnf
                refine boolI (fun h6 => ?_) (fun h6 => ?_) <;> (repeat rw [Int.toNat_natCast] at h6) <;> conv => whnf
                · have hj' : j < 7 := by omega
                  have hE2 : ((c.set q v).map icC).getD j [] = icC ((c.set q v).getD j 0) := map_getD (by omega)
                  have cG := hget_fn (D3 a b (c.set q v)) ((2 : Nat) : Int) (j : Nat) (by show 3 ≤ 1000; decide) (D3_hb _ _ _)
                  rw [D3_get ha.2.1 hb.2.1 hS.2.1 (by decide), show (D3 a b (c.set q v)).getD 2 ⟨0, [], []⟩ = hdR 2 (c.set q v) from rfl, gB_R 2 (c.set q v) hj'] at cG
                  cases hh : hasR (c.set q v) j with
                  | true =>
                    rw [hh, if_pos rfl] at cG
                    replace cG : Fn Try.prog 10 [hdsA (D3 a b (c.set q v)), .v (.int .i64 ((2 : Nat) : Int)), .v (.int .i64 (j : Nat))] fun r => r = .tp [bA (blk ((c.set q v).getD j 0) j), .v (.bool true), .v (.int .i64 0)] := cG
                    have h7 : 0 ≤ (c.set q v).getD j 0 := of_decide_eq_true hh
                    have h8 := blk_getD h7 (hS.2.2 j hj') hj'
                    refine Fn.closed (cG) rfl ?_
                    rintro _ rfl
                    conv => whnf
                    refine aDraw.of tys_ok mixed [0, 1, 2, 3, 4, 5, 6, 7, 8, 9, 10, 11, 12, 13, 14, 15, 16, 17, 18, 19, 20, 21, 22, 23, 24, 25, 26, 27, 28, 29, 30, 31, 32, 33, 34, 35, 36, 37, 38, 39, 40, 41, 42, 43] (by kernel_rfl) ?_
                    conv => whnf
                    refine And.intro ⟨by decide, by decide⟩ ?_
                    conv => whnf
                    refine And.intro ⟨rfl, rfl, by decide⟩ ?_
                    conv => whnf
                    refine And.intro ⟨by omega, by omega⟩ ?_
                    conv => whnf
                    refine And.intro ⟨rfl, by simpa using m7.symm, by simpa using hj'⟩ ?_
                    conv => whnf
                    rw [Int.toNat_natCast, hE2]
                    conv => whnf
                    rw [show decide ((c.set q v).getD j 0 ≥ 0) = true from decide_eq_true h7]
                    conv => whnf
                    refine And.intro ⟨by decide, by show (0 : Int) < ((8 : Nat) : Int); decide⟩ ?_
                    conv => whnf
                    refine And.intro ⟨by decide, by decide⟩ ?_
                    conv => whnf
                    refine And.intro ⟨rfl, rfl, by decide⟩ ?_
                    conv => whnf
                    refine And.intro ⟨by omega, by omega⟩ ?_
                    conv => whnf
                    refine And.intro ⟨rfl, by simpa using m7.symm, by simpa using hj'⟩ ?_
                    conv => whnf
                    rw [Int.toNat_natCast, hE2]
                    conv => whnf
                    rw [show (IntKind.i64.wrap (((blk ((c.set q v).getD j 0) j).getD (Int.toNat 0) 0).toNat : Int) != (c.set q v).getD j 0) = false by rw [show Int.toNat 0 = 0 from rfl, h8.1, wi (by have := hS.2.2 j hj'; omega)]; exact bne_self_eq_false _]
                    conv => whnf
                    refine And.intro ⟨by decide, by show (7 : Int) < ((8 : Nat) : Int); decide⟩ ?_
                    conv => whnf
                    rw [show (IntKind.i64.wrap (((blk ((c.set q v).getD j 0) j).getD (Int.toNat 7) 0).toNat : Int) != (j : Int)) = false by rw [show Int.toNat 7 = 7 from rfl, h8.2, wi (by omega)]; exact bne_self_eq_false _]
                    conv => whnf
                    exact ⟨j + 1, by omega, by omega, Wk.conv ⟨[], trivial, ⟨rfl, rfl, rfl, rfl, rfl, wsucc (by omega), trivial⟩, ⟨rfl, rfl, rfl, rfl, trivial⟩, rfl, rfl, rfl⟩⟩
                  | false =>
                    rw [hh, if_neg Bool.false_ne_true] at cG
                    replace cG : Fn Try.prog 10 [hdsA (D3 a b (c.set q v)), .v (.int .i64 ((2 : Nat) : Int)), .v (.int .i64 (j : Nat))] fun r => r = .tp [bA [], .v (.bool false), .v (.int .i64 0)] := cG
                    have h7 : ¬ 0 ≤ (c.set q v).getD j 0 := of_decide_eq_false hh
                    refine Fn.closed (cG) rfl ?_
                    rintro _ rfl
                    conv => whnf
                    refine aDraw.of tys_ok mixed [0, 1, 2, 3, 4, 5, 6, 7, 8, 9, 10, 11, 12, 13, 14, 15, 16, 17, 18, 19, 20, 21, 22, 23, 24, 25, 26, 27, 28, 29, 30, 31, 32, 33, 34, 35, 36, 37, 38, 39, 40, 41, 42, 43] (by kernel_rfl) ?_
                    conv => whnf
                    refine And.intro ⟨by decide, by decide⟩ ?_
                    conv => whnf
                    refine And.intro ⟨rfl, rfl, by decide⟩ ?_
                    conv => whnf
                    refine And.intro ⟨by omega, by omega⟩ ?_
                    conv => whnf
                    refine And.intro ⟨rfl, by simpa using m7.symm, by simpa using hj'⟩ ?_
                    conv => whnf
                    rw [Int.toNat_natCast, hE2]
                    conv => whnf
                    rw [show decide ((c.set q v).getD j 0 ≥ 0) = false from decide_eq_false h7]
                    conv => whnf
                    exact ⟨j + 1, by omega, by omega, Wk.conv ⟨[], trivial, ⟨rfl, rfl, rfl, rfl, rfl, wsucc (by omega), trivial⟩, ⟨rfl, rfl, rfl, rfl, trivial⟩, rfl, rfl, rfl⟩⟩
                · conv => whnf
                  exact ⟨3, by decide, by decide, Wk.conv ⟨[], trivial, ⟨rfl, rfl, rfl, rfl, wsucc (by omega), trivial⟩, ⟨rfl, rfl, rfl, rfl, trivial⟩, rfl, rfl, rfl⟩⟩
              · conv => whnf
                exact ⟨(k + 1, a, b, c.set q v), ⟨hk', ha, hb, hS⟩, by show l.length - (k + 1) < l.length - k; omega, Wk.conv ⟨[], trivial, ⟨rfl, rfl, rfl, wsucc (by omega), trivial⟩, ⟨rfl, rfl, rfl, rfl, trivial⟩, rfl, rfl, rfl⟩⟩
    · refine Fn.closed (wakes_fn) rfl ?_
      rintro _ rfl
      conv => whnf
      exact ⟨_, fun _ _ h => h, rfl⟩
end Go.Proofs.Ytjcboeldmgmfcaa.A
end

/-
A slice of threes, opened.
-/
section
namespace Go.Proofs.Ytjcboeldmgmfcaa.A
open Go.RowKit Go.ChangeShapes Go.WideShapes Go.ChangeAt Go.Deep

theorem oTris {H : Type} {enc : TypeId × Value → H} {w : World} : OpenE enc w 50 1 fun L => ∃ l, L = [trisA l] :=
  (oe_sl (α := Int × Int × Int) (sz := 3) (f := triC) (d := (0, 0, 0)) Try.underlying50 (by kernel_rfl) (by decide) ((oe_arr Try.underlying53 (by kernel_rfl)).mono fun L h => by
    obtain ⟨l, hl, rfl, _⟩ := h
    match l, hl with
    | [a, b, c], _ => exact ⟨(a, b, c), rfl⟩)).mono fun L ⟨l, h⟩ => ⟨l, h⟩
end Go.Proofs.Ytjcboeldmgmfcaa.A
end
