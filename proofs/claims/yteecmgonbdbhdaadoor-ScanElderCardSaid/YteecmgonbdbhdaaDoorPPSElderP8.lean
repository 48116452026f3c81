/-
Several texts in one.
-/
import Derived.Test.YteecmgonbdbhdaaDoorPPSElderP6
import Derived.Test.YteecmgonbdbhdaaDoorPPSElderP7

/-
Package casematekeep: an anchor copied.
-/
section
namespace Go.Proofs.YteecmgonbdbhdaaDoor.A
open Go.RowKit

theorem twinints_fn (l : List Int) (hl : l.length ≤ 1000000) : Fn Tryd.prog 62 [iA l] fun r => r = iA l := by
  refine Fn.of tys_ok Tryd.func62 rfl rfl (Nat.le_of_ble_eq_true rfl) ?_
  conv => whnf
  refine ⟨by omega, ?_⟩
  conv => whnf
  refine ⟨by simp, ?_⟩
  conv => whnf
  exact ⟨iA l, fun c v h => Rd.congr rfl (fun i hi => getD_range hi) h, rfl⟩
theorem twinanchor_fn (a : An) (hh : a.homes.length ≤ 1000) (hp : ∀ h ∈ a.homes, h.places.length ≤ 1000000) : Fn Tryd.prog 40 [.ag (anC a)] fun r => r = .ag (anC a) := by
  refine Fn.of tys_ok Tryd.func40 rfl rfl (Nat.le_of_ble_eq_true rfl) ?_
  conv => whnf
  refine aLoop.rule Nat (fun k => ([(1, .bp 0 0), (2, .bp 1 0), (3, hmsA a.homes), (4, .v (.int .i64 k))], [.box 26 [.v (.int .i64 a.gen), .v (.int .i64 a.epoch), .v (.int .i64 a.pos), .v (.int .i64 a.seq), .v (.int .i64 a.last), .v (.string a.label), .ow 2 k], .box 26 [.v (.int .i64 0), .v (.int .i64 0), .v (.int .i64 0), .v (.int .i64 0), .v (.int .i64 0), .v (.string ⟨#[]⟩), .v (.slice none 0 0)], .row 91 3 ((a.homes.take k).map hmC)])) (fun k => k ≤ a.homes.length) (fun k => a.homes.length - k) 0 (Nat.zero_le _) ⟨[(1000006, 91, 3)], ⟨rfl, rfl, trivial⟩, ⟨rfl, rfl, rfl, rfl, trivial⟩, ⟨rfl, rfl, rfl, trivial⟩, rfl, rfl, rfl⟩ ?_
  intro k hk
  conv => whnf
  refine boolI (fun c1 => ?_) (fun c1 => ?_) <;> (repeat rw [Int.toNat_natCast] at c1) <;> conv => whnf
  · have ti := twinints_fn (a.homes.getD k ⟨[], 0, 0⟩).places (hp _ (getD_mem c1))
    refine aDraw.of tys_ok mixed [0, 1, 2, 3, 4, 5, 6, 8, 9, 10, 11, 12, 13, 14, 15, 16, 17, 7, 18, 19, 20, 21, 22] (by kernel_rfl) ?_
    conv => whnf
    repeat' (first | (refine aSeq.go ?_; conv => whnf) | (refine boolI (fun _ => ?_) (fun _ => ?_) <;> conv => whnf) | (refine Fn.closed (ti) rfl ?_; rintro _ rfl; conv => whnf) | (refine And.intro (by first | omega | exact of_decide_eq_true rfl) ?_; conv => whnf) | fail)
    refine And.intro ⟨by rw [List.length_map, List.length_take]; omega, by omega⟩ ?_
    conv => whnf
    exact ⟨k + 1, by omega, by omega, [], trivial, ⟨rfl, rfl, rfl, wsucc (by omega), trivial⟩, ⟨rfl, rfl, congrArg (AB.row _ _) (take_map_succ c1), trivial⟩, rfl, rfl, rfl⟩
  · refine And.intro (by rw [List.length_map, List.length_take]; omega) ?_
    conv => whnf
    have ek : k = a.homes.length := by omega
    subst ek
    refine ⟨.ag (anC a), ag_sub ⟨fun _ _ h => h, fun _ _ h => h, fun _ _ h => h, fun _ _ h => h, fun _ _ h => h, fun _ _ h => h, ?_, trivial⟩, rfl⟩
    rw [List.take_length]
    exact row_sub a.homes rfl rfl
end Go.Proofs.YteecmgonbdbhdaaDoor.A
end

/-
What the laws of scan have in common.
-/
section
namespace Go.Proofs.YteecmgonbdbhdaaDoor.A
open Go.RowKit

theorem anOk_parts {g : Geo} {a : An} (h : anOk g a = true) : (0 ≤ a.gen ∧ a.gen ≤ 4294967295) ∧ (0 ≤ a.epoch ∧ a.epoch ≤ 4294967295) ∧ (1 ≤ a.seq ∧ a.seq ≤ 4294967295) ∧ (0 ≤ a.last ∧ a.last ≤ 4294967295 ∧ a.seq - 1 ≤ a.last) ∧ (0 ≤ a.pos ∧ a.pos < g.sl) ∧ (a.homes.length : Int) = g.z ∧ ∀ x ∈ a.homes, hmOk g x = true := by
  simp only [anOk, List.all_cons, List.all_nil, Bool.and_eq_true, inB_iff, decide_eq_true_eq, List.all_eq_true] at h
  obtain ⟨⟨q1, q2, q3, q4, -⟩, q5, q6, q7, q8, q9, q10⟩ := h
  exact ⟨q1, q2, ⟨q5, q3.2⟩, ⟨q4.1, q4.2, q6⟩, ⟨q7.1, by omega⟩, q9, q10⟩
theorem anOk_places {g : Geo} {a : An} (hg : okG g = true) (h : anOk g a = true) : ∀ x ∈ a.homes, x.places.length ≤ 1000000 := by
  obtain ⟨h1, h2, h3, h4, h5⟩ := okG_iff.1 hg
  intro x hx
  have := (anOk_parts h).2.2.2.2.2.2 x hx
  simp only [hmOk, Bool.and_eq_true, decide_eq_true_eq] at this
  omega
theorem modU_var {x : Int} {n : Nat} (hn : n ≤ 1000000) : IntKind.i64.wrap ((IntKind.u64.wrap x).tmod (IntKind.u64.wrap (IntKind.i64.wrap ((n : Int) + 1)))) = modU x ((n : Int) + 1) := by
  rw [wi (n := (n : Int) + 1) (by omega), show IntKind.u64.wrap ((n : Int) + 1) = (n : Int) + 1 by rw [IntKind.wrap_u64]; omega]
  rfl
theorem uwrap_ne {n : Nat} (hn : n ≤ 1000000) : IntKind.u64.wrap (IntKind.i64.wrap ((n : Int) + 1)) ≠ 0 := by
  rw [wi (n := (n : Int) + 1) (by omega), IntKind.wrap_u64]
  omega
theorem anOk_last {g : Geo} {a : An} {n : Int} (h : anOk g a = true) (hn : a.seq - 1 ≤ n) (h2 : n ≤ 4294967295) : anOk g (lastA a n) = true := by
  have hp := anOk_parts h
  simp only [anOk, lastA, List.all_cons, List.all_nil, Bool.and_eq_true, inB_iff, decide_eq_true_eq] at h
  simp only [anOk, List.all_cons, List.all_nil, Bool.and_eq_true, inB_iff]
  obtain ⟨⟨q1, q2, q3, q4, q11⟩, q5, q6, q7, q8, q9, q10⟩ := h
  exact ⟨⟨q1, q2, q3, ⟨show 0 ≤ n by omega, h2⟩, q11⟩, decide_eq_true q5, decide_eq_true hn, q7, decide_eq_true q8, decide_eq_true q9, q10⟩
theorem take_sub (L : List Tx) (m : Nat) (hm : m ≤ L.length) {n : Nat} (hn : n = m) {get : Nat → List AV} (hget : ∀ i, i < m → get i = txC (L.getD i ⟨0, 0, 0, []⟩)) (c : Ctx) (u : Value) (h : Rd (.sl 4 n get) c u) : Rd (txsA (L.take m)) c u := by
  refine Rd.congr (by rw [List.length_take]; omega) (fun i hi => ?_) h
  rw [hget i (by omega)]
  congr 1
  rw [List.getD_eq_getElem?_getD, List.getD_eq_getElem?_getD, List.getElem?_take_of_lt (by omega)]
theorem scanA_P {g : Geo} {b : An} {x y : List Gt} {p q : Int → Option Rc} {r : List Tx × List Wr × Int} (hg : okG g = true) (hb : anOk g b = true) (hx : (x.length : Int) = g.sl) (hy : (y.length : Int) = g.sl) (hp : saysF g x 0 = p) (hq : saysF g y 1 = q) (h : scanP g b p q = r) : scanA g b x y = r := by
  unfold scanA
  rw [if_pos (by rw [hg, hb]; rfl), if_pos ⟨hx, hy⟩, scanM_P, hp, hq, h]
end Go.Proofs.YteecmgonbdbhdaaDoor.A
end

/-
The law ScanElder.
-/
section
namespace Go.Proofs.YteecmgonbdbhdaaDoor.A
open Go.RowKit

set_option maxRecDepth 100000 in
theorem elder18_fn (g : Geo) (a : An) (sizes : List Int) (fill : UInt8) (n : Int) : Fn Tryd.prog 11 [.ag (geoC g), .ag (anC a), iA sizes, .v (.int .u8 fill.toNat), .v (.int .i64 n)] fun r => r = .v (.bool true) := by
  have hw := wakes18_fn
  refine Fn.of tys_ok Tryd.func11 rfl rfl (Nat.le_of_ble_eq_true rfl) ?_
  conv => whnf
  refine Fn.closed (heavyA_fn a) rfl ?_
  rintro _ rfl
  conv => whnf
  refine boolI (fun t1 => ?_) (fun t1 => ?_) <;> (repeat rw [Int.toNat_natCast] at t1) <;> conv => whnf
  · exact ⟨_, fun _ _ h => h, rfl⟩
  obtain ⟨hh, hl⟩ := heavyA_no t1
  refine boolI (fun t2 => ?_) (fun t2 => ?_) <;> (repeat rw [Int.toNat_natCast] at t2) <;> conv => whnf
  · exact ⟨_, fun _ _ h => h, rfl⟩
  refine Fn.closed (rgeom_br g) rfl ?_
  rintro _ rfl
  conv => whnf
  refine boolI (fun t3 => ?_) (fun t3 => ?_) <;> (repeat rw [Int.toNat_natCast] at t3) <;> conv => whnf
  · exact ⟨_, fun _ _ h => h, rfl⟩
  refine Fn.closed (ranchor_fn g a t3 (by omega)) rfl ?_
  rintro _ rfl
  conv => whnf
  refine boolI (fun t4 => ?_) (fun t4 => ?_) <;> (repeat rw [Int.toNat_natCast] at t4) <;> conv => whnf
  · exact ⟨_, fun _ _ h => h, rfl⟩
  refine boolI (fun t5 => ?_) (fun t5 => ?_) <;> (repeat rw [Int.toNat_natCast] at t5) <;> conv => whnf
  · exact ⟨_, fun _ _ h => h, rfl⟩
  refine boolI (fun t6 => ?_) (fun t6 => ?_) <;> (repeat rw [Int.toNat_natCast] at t6) <;> conv => whnf
  · exact ⟨_, fun _ _ h => h, rfl⟩
  have lf := log_fn16 g a sizes fill t3 t4 (by omega) (by omega)
  obtain ⟨h1, h2, h3, h4, h5⟩ := okG_iff.1 t3
  have hq := anOk_seq t4
  have hlen := logM_len (g := g) (a := a) (fill := fill) sizes 0 a.pos 0 (by omega)
  have ap := anOk_parts t4
  have hOk := logM_ok (fill := fill) (sizes := sizes) (epoch := a.epoch - 1) t3 t4 (by omega) (by omega)
  have hS := fun m hm => elder_scan (fill := fill) (sizes := sizes) (n := m) t3 t4 (by omega) (by omega) hm
  generalize logM g a fill sizes 0 a.pos 0 = L at lf hlen hOk hS
  have hm := modU_in (x := n) (n := (L.length : Int) + 1) (by omega) (by omega)
  obtain ⟨m, em⟩ := Int.eq_ofNat_of_zero_le hm.1
  refine Fn.closed (lf) rfl ?_
  rintro _ rfl
  conv => whnf
  refine And.intro (uwrap_ne (by omega)) ?_
  conv => whnf
  rw [modU_var (by omega), em]
  rw [em] at hm
  refine Fn.closed (twinanchor_fn a (by omega) (anOk_places t3 t4)) rfl ?_
  rintro _ rfl
  conv => whnf
  have w1 : IntKind.i64.wrap (IntKind.i64.wrap (a.seq + m) - 1) = a.seq + m - 1 := by rw [wi (n := a.seq + m) (by omega), wi (by omega)]
  have w2 : IntKind.i64.wrap (a.epoch - 1) = a.epoch - 1 := wi (by omega)
  rw [w1, w2]
  conv => whnf
  have lX : ((writtenM g L (a.epoch - 1) 0 g.sl.toNat).length : Int) = g.sl := by rw [written_len]; omega
  have lY : ((writtenM g L (a.epoch - 1) 1 g.sl.toNat).length : Int) = g.sl := by rw [written_len]; omega
  have lX' := written_len g L (a.epoch - 1) 0 g.sl.toNat
  have lY' := written_len g L (a.epoch - 1) 1 g.sl.toNat
  have hB := anOk_last (n := a.seq + m - 1) t4 (by omega) (by omega)
  have vA := scanA_P t3 hB lX lY (saysF_W t3 hOk (.inl rfl)) (saysF_W t3 hOk (.inr rfl)) (hS m (by omega))
  have sc := scan_fn g (lastA a (a.seq + m - 1)) _ _ (show a.label.size ≤ 1000000 by omega) (show a.homes.length ≤ 1000000 by omega) (written_short hOk 0) (written_short hOk 1)
  rw [vA] at sc
  have wf := written_fno g L (a.epoch - 1) t3 hOk
  generalize writtenM g L (a.epoch - 1) 0 g.sl.toNat = X at *
  generalize writtenM g L (a.epoch - 1) 1 g.sl.toNat = Y at *
  have tx := txns_fn (L.take m) (L.take m) (by rw [List.length_take]; omega) (fun t ht => by have := hOk.img t (List.mem_of_mem_take ht); exact ⟨by omega, fun x hx => by have := this.2 x hx; omega⟩)
  rw [decide_eq_true rfl] at tx
  refine FnO.call (wf) rfl ?_
  rintro _ _ ⟨rfl, rfl⟩
  conv => whnf
  dsimp only at sc
  refine ACalls.shut (sc).go ?_
  conv => whnf
  repeat' (refine And.intro (by first | rfl | omega | (simp; done) | (simp only [List.length_map]; omega)) ?_; conv => whnf)
  refine ACalls.sub _ ?_ (Fn.closed (sc) rfl ?_)
  · repeat' (first | exact trivial | exact fun _ _ h => h | exact nil_sl _ _ | exact row_sub X (by omega) rfl | exact row_sub Y (by omega) rfl | refine And.intro ?_ ?_ | refine ag_sub ?_)
  rintro _ rfl
  conv => whnf
  refine ⟨by omega, ?_⟩
  conv => whnf
  refine ACalls.sub _ ?_ (Fn.closed (tx) rfl ?_)
  · repeat' (first | exact trivial | exact fun _ _ h => h | exact nil_sl _ _ | exact take_sub L m (by omega) (by omega) (fun i hi => rfl) | refine And.intro ?_ ?_ | refine ag_sub ?_)
  rintro _ rfl
  conv => whnf
  repeat' (first | (refine aSeq.go ?_; conv => whnf) | (refine boolI (fun _ => ?_) (fun _ => ?_) <;> conv => whnf) | (refine Fn.closed (hw) rfl ?_; rintro _ rfl; conv => whnf) | (refine And.intro (by first | omega | exact of_decide_eq_true rfl) ?_; conv => whnf) | fail)
  exact ⟨_, fun _ _ h => h, rfl⟩
end Go.Proofs.YteecmgonbdbhdaaDoor.A
end
