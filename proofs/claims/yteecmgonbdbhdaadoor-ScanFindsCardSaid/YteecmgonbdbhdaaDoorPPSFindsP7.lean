/-
Several texts in one.
-/
import Derived.Test.YteecmgonbdbhdaaDoorPPSFindsP6
import Derived.Test.YteecmgonbdbhdaaDoorComP4
import Derived.Test.YteecmgonbdbhdaaDoorComP1
import Derived.Test.YteecmgonbdbhdaaDoorComP3

/-
casematelaw18: two transactions, and one copy gone.
-/
section
namespace Go.Proofs.YteecmgonbdbhdaaDoor.A
open Go.RowKit

theorem RdL.split {c : Ctx} : ∀ {l m : List AV} {xs : List Value}, RdL (l ++ m) c xs → ∃ a b, xs = a ++ b ∧ RdL l c a ∧ RdL m c b
  | [], m, xs, h => ⟨[], xs, rfl, by simp only [RdL], h⟩
  | x :: l, m, xs, h => by
    simp only [List.cons_append, RdL] at h
    obtain ⟨y, ys, rfl, h1, h2⟩ := h
    obtain ⟨a, b, rfl, h3, h4⟩ := RdL.split h2
    exact ⟨y :: a, b, rfl, by simp only [RdL]; exact ⟨y, a, rfl, h1, h3⟩, h4⟩
theorem SubLL.len : ∀ {es fs : List (List AV)}, SubLL es fs → es.length = fs.length
  | [], [], _ => rfl
  | _ :: _, _ :: _, h => by simp [SubLL.len h.2]
  | [], _ :: _, h => h.elim
  | _ :: _, [], h => h.elim
theorem SubLL.flat : ∀ {es fs : List (List AV)} {c : Ctx} {xs : List Value}, SubLL es fs → RdL es.flatten c xs → RdL fs.flatten c xs
  | [], [], _, _, _, h => h
  | a :: r, b :: s, c, xs, h, hr => by
    rw [List.flatten_cons] at hr ⊢
    obtain ⟨x1, x2, rfl, h1, h2⟩ := RdL.split hr
    exact RdL.append (h.1.rdl h1) (SubLL.flat h.2 h2)
  | [], _ :: _, _, _, h, _ => h.elim
  | _ :: _, [], _, _, h, _ => h.elim
theorem SubLL.sz : ∀ {es fs : List (List AV)} {sz : Nat}, SubLL es fs → (∀ e ∈ es, e.length = sz) → ∀ e ∈ fs, e.length = sz
  | [], [], _, _, _ => by simp
  | a :: r, b :: s, sz, h, hs => by
    intro e he
    rcases List.mem_cons.1 he with rfl | he
    · rw [← h.1.len]; exact hs a (by simp)
    · exact SubLL.sz h.2 (fun e he => hs e (List.mem_cons_of_mem _ he)) e he
  | [], _ :: _, _, h, _ => h.elim
  | _ :: _, [], _, h, _ => h.elim
def ABSub : AB → AB → Prop
  | .row t sz es, .row t' sz' es' => t = t' ∧ sz = sz' ∧ SubLL es es'
  | x, y => x = y
/-- A heap whose rows read as those of another. -/
def HSub : List AB → List AB → Prop
  | [], [] => True
  | x :: r, y :: s => ABSub x y ∧ HSub r s
  | _, _ => False
theorem HSub.len : ∀ {H H' : List AB}, HSub H H' → H.length = H'.length
  | [], [], _ => rfl
  | _ :: _, _ :: _, h => by simp [HSub.len h.2]
  | [], _ :: _, h => h.elim
  | _ :: _, [], h => h.elim
theorem HSub.get : ∀ {H H' : List AB} {k : Nat} {y : AB}, HSub H H' → H'[k]? = some y → ∃ x, H[k]? = some x ∧ ABSub x y
  | [], [], k, y, _, h => by simp at h
  | x :: r, y :: s, 0, z, h, hz => by
    simp at hz
    subst hz
    exact ⟨x, by simp, h.1⟩
  | x :: r, y :: s, k + 1, z, h, hz => by
    obtain ⟨w, h1, h2⟩ := HSub.get (k := k) h.2 (by simpa using hz)
    exact ⟨w, by simpa using h1, h2⟩
  | [], _ :: _, _, _, h, _ => h.elim
  | _ :: _, [], _, _, _, hz => by simp at hz
theorem ABSub.live : ∀ {x y : AB}, ABSub x y → x.live = y.live := by
  intro x y h
  cases x <;> cases y <;> simp only [ABSub] at h <;> first | rfl | cases h
theorem ABSub.blk {c : Ctx} {k : Nat} : ∀ {x y : AB}, ABSub x y → BlkOk c k x → BlkOk c k y
  | .row t sz es, .row t' sz' es', h, hb => by
    obtain ⟨rfl, rfl, h⟩ := h
    obtain ⟨h1, h2, h3, xs, h4, h5, h6⟩ := hb
    refine ⟨h1.trans h.len, h2, h.sz h3, xs, ?_, h.flat h5, h6⟩
    rw [← h.len]
    exact h4
  | .row _ _ _, .box _ _, h, _ => by cases h
  | .row _ _ _, .iter _ _, h, _ => by cases h
  | .row _ _ _, .dead, h, _ => by cases h
  | .box t cs, y, h, hb => by
    have h : AB.box t cs = y := h
    subst h
    exact hb
  | .iter a b, y, h, hb => by
    have h : AB.iter a b = y := h
    subst h
    exact hb
  | .dead, y, h, hb => by
    have h : AB.dead = y := h
    subst h
    exact hb
theorem HS.hsub {w0 : Fl} {M0 : Ms} {c : Ctx} {H H' : List AB} (hs : HS w0 M0 c H) (h : HSub H H') : HS w0 M0 c H' := by
  refine ⟨hs.low, hs.base, hs.dom.trans h.len, hs.foreign, hs.lt, fun k y hy => ?_, fun k y g hy hl ho => ?_, fun j k y z g hj hk hy hz ho ho' => ?_⟩
  · obtain ⟨x, h1, h2⟩ := h.get hy
    exact h2.blk (hs.blk k x h1)
  · obtain ⟨x, h1, h2⟩ := h.get hy
    exact hs.own k x g h1 (h2.live.trans hl) ho
  · obtain ⟨x1, h1, h2⟩ := h.get hj
    obtain ⟨x2, h3, h4⟩ := h.get hk
    exact hs.dis j k x1 x2 g h1 h3 (h2.live.trans hy) (h4.live.trans hz) ho ho'
theorem ACalls.hsub {P : Program} {q : Bool} {f : FuncId} {args : List AV} {H : List AB} {k : AV → List AB → Prop} (H' : List AB) (hs : HSub H H') (h : ACalls P q f args H' k) : ACalls P q f args H k :=
  ⟨h.go, fun w0 M0 c us hs0 hr => h.calls w0 M0 c us (hs0.hsub hs) hr⟩
theorem written_len (g : Geo) (l : List Tx) (epoch copy : Int) (n : Nat) : (writtenM g l epoch copy n).length = n := by simp [writtenM]
theorem written_short {g : Geo} {l : List Tx} {epoch : Int} (h : LogOk g l epoch) (copy : Int) : ∀ z ∈ writtenM g l epoch copy g.sl.toNat, z.bytes.length ≤ 100000 := by
  intro z hz
  unfold writtenM at hz
  obtain ⟨s, hs, rfl⟩ := List.mem_map.1 hz
  have hs := List.mem_range.1 hs
  exact cellB_short (h.ok s (by omega)) copy s
theorem lt34 {m : Nat} (h : Nat.ble 5 m = true) : ∀ z ∈ [3, 4], z < m := fun z hz => by
  have := Nat.le_of_ble_eq_true h
  simp at hz
  omega
theorem SubLL.refl : ∀ l, SubLL l l
  | [] => trivial
  | _ :: l => ⟨SubL.refl _, SubLL.refl l⟩
theorem SubLL.set {a b : List AV} (h : SubL a b) : ∀ {l m : List (List AV)} (k : Nat), SubLL l m → SubLL (l.set k a) (m.set k b)
  | [], [], _, h => h
  | _ :: _, _ :: _, 0, h2 => ⟨h, h2.2⟩
  | _ :: _, _ :: _, k + 1, h2 => ⟨h2.1, SubLL.set h k h2.2⟩
  | [], _ :: _, _, h => h.elim
  | _ :: _, [], _, h => h.elim
theorem bad_sub (X : List Gt) (k : Nat) (e : Int) : SubLL ((X.map gotC).set k [.v (.int .i64 e), .v (.slice none 0 0)]) ((X.set k ⟨e, []⟩).map gotC) := by
  rw [List.map_set]
  exact SubLL.set (a := [.v (.int .i64 e), .v (.slice none 0 0)]) (b := gotC ⟨e, []⟩) ⟨fun _ _ h => h, nil_sl _ _, trivial⟩ k (SubLL.refl _)
set_option maxRecDepth 100000 in
theorem wakes18_fn : Fn Tryd.prog 38 [] fun r => r = .v (.bool true) := by
  have s1 := some_fn 0 0 0 0 0
  rw [show someG 0 0 0 0 0 = g17 from rfl] at s1
  have s2 : Fn Tryd.prog 48 [.ag (geoC g17), .v (.string ⟨#[]⟩)] fun r => r = .ag (anC a17) := first_fn g17 ⟨#[]⟩ (by decide)
  have hA : anOk g17 a17 = true := firstA_ok (by decide) lab_nil
  have w1 := written_fno g17 log18 0 (by decide) log18_ok
  have fX := saysF_W (g := g17) (l := log18) (epoch := 0) (by decide) log18_ok (copy := 0) (.inl rfl)
  have fY := saysF_W (g := g17) (l := log18) (epoch := 0) (by decide) log18_ok (copy := 1) (.inr rfl)
  have lX : (writtenM g17 log18 0 0 g17.sl.toNat).length = 14 := written_len _ _ _ _ _
  have lY : (writtenM g17 log18 0 1 g17.sl.toNat).length = 14 := written_len _ _ _ _ _
  have bX := written_short log18_ok 0
  have bY := written_short log18_ok 1
  rw [show g17.sl.toNat = 14 from rfl] at *
  generalize writtenM g17 log18 0 0 14 = X at *
  generalize writtenM g17 log18 0 1 14 = Y at *
  have hbad : ∀ c, saysR g17 ⟨6, []⟩ c ((1 : Nat) : Int) = none := fun c => says_err (by decide)
  have fX1 := saysF_set (z := ⟨6, []⟩) (k := 1) fX (by rw [lX]; decide) (hbad 0)
  have fY1 := saysF_set (z := ⟨6, []⟩) (k := 1) fY (by rw [lY]; decide) (hbad 1)
  have lX1 : (X.set 1 ⟨6, []⟩).length = 14 := by rw [List.length_set, lX]
  have lY1 : (Y.set 1 ⟨6, []⟩).length = 14 := by rw [List.length_set, lY]
  have hset : ∀ Z : List Gt, (∀ z ∈ Z, z.bytes.length ≤ 100000) → ∀ z ∈ Z.set 1 ⟨6, []⟩, z.bytes.length ≤ 100000 := fun Z hZ z hz => by
    rcases List.mem_or_eq_of_mem_set hz with h | rfl
    · exact hZ z h
    · exact Nat.zero_le _
  have hG : (okG g17 && anOk g17 a17) = true := by rw [hA]; rfl
  have v1 : scanA g17 a17 (X.set 1 ⟨6, []⟩) Y = (log18, [⟨2, cellB g17 (recW g17 log18 0 1) 0 1⟩], 0) := by
    unfold scanA
    rw [if_pos hG, if_pos (by rw [lX1, lY]; decide), scanM_P, fX1, fY, scan18_a]
  have v2 : scanA g17 a17 (X.set 1 ⟨6, []⟩) (Y.set 1 ⟨6, []⟩) = ([], [], 12) := by
    unfold scanA
    rw [if_pos hG, if_pos (by rw [lX1, lY1]; decide), scanM_P, fX1, fY1, scan18_b]
  have c1 := scanO_fn g17 a17 (X.set 1 ⟨6, []⟩) Y (by decide) (by decide) (hset X bX) bY
  have c2 := scanO_fn g17 a17 (X.set 1 ⟨6, []⟩) (Y.set 1 ⟨6, []⟩) (by decide) (by decide) (hset X bX) (hset Y bY)
  rw [v1, lX1, lY] at c1
  rw [v2, lX1, lY1] at c2
  dsimp only at c1 c2
  have t1 := txns_fn log18 log18 (by decide) (by decide)
  rw [decide_eq_true rfl] at t1
  refine Fn.of tys_ok Tryd.func38 rfl rfl (Nat.le_of_ble_eq_true rfl) ?_
  conv => whnf
  refine Fn.closed (s1) rfl ?_
  rintro _ rfl
  conv => whnf
  refine Fn.closed (s2) rfl ?_
  rintro _ rfl
  conv => whnf
  refine ACalls.shut (log18_fn).go ?_
  conv => whnf
  repeat' (refine And.intro (by first | rfl | omega | (simp; done) | (simp only [List.length_map]; omega)) ?_; conv => whnf)
  refine ACalls.sub _ ?_ (Fn.closed (log18_fn) rfl ?_)
  · repeat' (first | exact trivial | exact fun _ _ h => h | exact nil_sl _ _ | exact row_sub (f := fun x : Int => [AV.v (.int .i64 x)]) [0, 1] rfl rfl | refine And.intro ?_ ?_ | refine ag_sub ?_)
  rintro _ rfl
  conv => whnf
  refine FnO.call (w1) rfl ?_
  rintro _ _ ⟨rfl, rfl⟩
  conv => whnf
  refine ⟨by first | omega | (simp only [List.length_map]; omega) | exact ⟨rfl, by omega, by omega⟩ | exact ⟨rfl, by simp only [List.length_map]; omega, by omega⟩, ?_⟩
  conv => whnf
  have gX : (X.map gotC).getD (Int.toNat 1) [] = gotC (X.getD 1 gz) := map_getD (by rw [lX]; decide)
  have gY : (Y.map gotC).getD (Int.toNat 1) [] = gotC (Y.getD 1 gz) := map_getD (by rw [lY]; decide)
  refine And.intro ⟨rfl, by rw [List.length_map, lX], by decide⟩ ?_
  conv => whnf
  rw [gX]
  conv => whnf
  refine ACalls.hsub [.box 23 (geoC g17), .box 26 (anC a17), .dead, .row 30 2 ((X.set 1 ⟨6, []⟩).map gotC), .row 30 2 (Y.map gotC)] (And.intro rfl (And.intro rfl (And.intro rfl (And.intro (And.intro rfl (And.intro rfl (bad_sub X 1 6))) (And.intro (And.intro rfl (And.intro rfl (SubLL.refl _))) trivial))))) ?_
  refine ACalls.frame [3, 4] c1 rfl rfl rfl rfl (by decide) (lt34 rfl) ⟨rfl, rfl, trivial⟩ ?_
  rintro _ _ ⟨rfl, rfl⟩
  conv => whnf
  refine ⟨by first | omega | (simp only [List.length_map]; omega) | exact ⟨rfl, by omega, by omega⟩ | exact ⟨rfl, by simp only [List.length_map]; omega, by omega⟩, ?_⟩
  conv => whnf
  refine And.intro ⟨rfl, by rw [List.length_map, lY], by decide⟩ ?_
  conv => whnf
  rw [gY]
  conv => whnf
  refine ACalls.hsub [.box 23 (geoC g17), .box 26 (anC a17), .dead, .row 30 2 ((X.set 1 ⟨6, []⟩).map gotC), .row 30 2 ((Y.set 1 ⟨6, []⟩).map gotC)] (And.intro rfl (And.intro rfl (And.intro rfl (And.intro (And.intro rfl (And.intro rfl (SubLL.refl _))) (And.intro (And.intro rfl (And.intro rfl (bad_sub Y 1 6))) trivial))))) ?_
  refine ACalls.frame [3, 4] c2 rfl rfl rfl rfl (by decide) (lt34 rfl) ⟨rfl, rfl, trivial⟩ ?_
  rintro _ _ ⟨rfl, rfl⟩
  conv => whnf
  refine aDraw.of tys_ok mixed [0, 1, 2, 3, 4, 5, 6, 7, 8, 9, 10, 11, 12, 13, 14, 15, 16, 17, 18, 19, 20, 21, 22, 23, 24, 25, 26] (by kernel_rfl) ?_
  conv => whnf
  repeat' (first | (refine aSeq.go ?_; conv => whnf) | (refine boolI (fun _ => ?_) (fun _ => ?_) <;> conv => whnf) | (refine Fn.closed (t1) rfl ?_; rintro _ rfl; conv => whnf) | (refine And.intro (by first | omega | exact of_decide_eq_true rfl) ?_; conv => whnf) | fail)
  exact ⟨_, fun _ _ h => h, rfl⟩
end Go.Proofs.YteecmgonbdbhdaaDoor.A
end

/-
The reference: the table of a zone that was never written, as bytes.
-/
section
namespace Go.Proofs.YteecmgonbdbhdaaDoor.A
open Go.RowKit

theorem rput_br (l : List UInt8) (n m : Nat) (hl : l.length ≤ 1000000) (hn : n ≤ 4294967295) (hm : m ≤ 4) : Fn Tryd.prog 87 [bA l, .v (.int .i64 n), .v (.int .i64 m)] fun r => r = bA (l ++ leB m n) := by
  refine ⟨⟨_, Tryd.func87, rfl, by decide⟩, fun c0 us hd hM _ hr => ?_⟩
  simp only [RdL] at hr
  obtain ⟨u1, _, rfl, h1, u2, _, rfl, h2, u3, _, rfl, h3, rfl⟩ := hr
  simp only [Rd] at h2 h3
  subst h2 h3
  refine (rput_any u1 l n m c0.w c0.M (toBytes h1) hl hn hm).mono ?_
  rintro e w' ⟨q, rfl, ho, hB⟩
  exact ⟨_, _, rfl, rfl, hB, ofOwn ho hM⟩
theorem rput_int (l : List UInt8) (n : Int) (m : Nat) (hl : l.length ≤ 1000000) (hn : 0 ≤ n ∧ n ≤ 4294967295) (hm : m ≤ 4) : Fn Tryd.prog 87 [bA l, .v (.int .i64 n), .v (.int .i64 m)] fun r => r = bA (l ++ leB m n.toNat) := by
  obtain ⟨j, rfl⟩ := Int.eq_ofNat_of_zero_le hn.1
  exact rput_br l j m hl (by omega) hm
def entC (x : Ent) : List AV := [.v (.int .i64 x.stamp), .v (.int .i64 x.sum), .v (.bool x.lost)]
def entsA (l : List Ent) : AV := .sl 3 l.length fun i => entC (l.getD i ⟨0, 0, false⟩)
def zero8 : List UInt8 := [0, 0, 0, 0, 0, 0, 0, 0]
def ent0 : Ent := ⟨0, (sumC zero8 : Nat), false⟩
def tab0 (g : Geo) : List Ent := List.replicate (g.d + 1).toNat ent0
theorem entry_fn (stamp : Int) (b : List UInt8) : Fn Tryd.prog 88 [.v (.int .i64 stamp), bA b] fun r => r = .ag (entC ⟨stamp, (sumC b : Nat), false⟩) := by
  refine Fn.of tys_ok Tryd.func88 rfl rfl (Nat.le_of_ble_eq_true rfl) ?_
  conv => whnf
  repeat' (first | (refine aSeq.go ?_; conv => whnf) | (refine boolI (fun _ => ?_) (fun _ => ?_) <;> conv => whnf) | (refine Fn.closed (rsum_br b) rfl ?_; rintro _ rfl; conv => whnf) | (refine And.intro (by first | omega | exact of_decide_eq_true rfl) ?_; conv => whnf) | fail)
  exact ⟨_, fun _ _ h => h, rfl⟩
def bv (l : List Ent) : Nat → AV
  | 0 => .v (.slice none 0 0)
  | k + 1 => bA (tblB (l.take (k + 1)))
theorem tabB_fn (l : List Ent) (hl : l.length ≤ 1000) (hb : ∀ e ∈ l, (0 ≤ e.stamp ∧ e.stamp ≤ 4294967295) ∧ 0 ≤ e.sum ∧ e.sum ≤ 4294967295) : Fn Tryd.prog 57 [.ag [entsA l]] fun r => r = bA (tblB l) := by
  refine Fn.of tys_ok Tryd.func57 rfl rfl (Nat.le_of_ble_eq_true rfl) ?_
  conv => whnf
  refine aLoop.rule Nat (fun k => ([(1, .bp 0 0), (3, bv l k), (4, .v (.int .i64 k))], [.box 111 [entsA l]])) (fun k => k ≤ l.length) (fun k => l.length - k) 0 (Nat.zero_le _) ⟨[], trivial, ⟨rfl, rfl, rfl, trivial⟩, ⟨rfl, trivial⟩, rfl, rfl, rfl⟩ ?_
  intro k hk
  conv => whnf
  refine boolI (fun c1 => ?_) (fun c1 => ?_) <;> (repeat rw [Int.toNat_natCast] at c1) <;> conv => whnf
  · have he := hb _ (getD_mem (d := ⟨0, 0, false⟩) c1)
    refine aSeq.go ?_
    conv => whnf
    refine ⟨by first | omega | (simp only [List.length_map]; omega) | exact ⟨rfl, by omega, by omega⟩ | exact ⟨rfl, by simp only [List.length_map]; omega, by omega⟩, ?_⟩
    conv => whnf
    have hlt : (tblB (l.take k)).length ≤ 9000 := by rw [tblB_len, List.length_take]; omega
    have p1 := rput_int (tblB (l.take k)) (l.getD k ⟨0, 0, false⟩).stamp 4 (by omega) he.1 (by decide)
    have p2 := rput_int (tblB (l.take k) ++ leB 4 (l.getD k ⟨0, 0, false⟩).stamp.toNat) (l.getD k ⟨0, 0, false⟩).sum 4 (by rw [List.length_append, leB_len]; omega) he.2 (by decide)
    have p3 := rput_int (tblB (l.take k) ++ leB 4 (l.getD k ⟨0, 0, false⟩).stamp.toNat ++ leB 4 (l.getD k ⟨0, 0, false⟩).sum.toNat) (lostN (l.getD k ⟨0, 0, false⟩).lost) 1 (by rw [List.length_append, List.length_append, leB_len, leB_len]; omega) (by unfold lostN; split <;> omega) (by decide)
    have hst : bv l (k + 1) = bA (tblB (l.take k) ++ leB 4 (l.getD k ⟨0, 0, false⟩).stamp.toNat ++ leB 4 (l.getD k ⟨0, 0, false⟩).sum.toNat ++ leB 1 (lostN (l.getD k ⟨0, 0, false⟩).lost).toNat) := by
      rw [bv, tblB_step c1, entB]
      rw [List.getD_eq_getElem?_getD, List.getElem?_eq_getElem c1]
      simp [rowB, List.append_assoc]
    obtain ⟨L, hLe⟩ : ∃ L, (l.getD k ⟨0, 0, false⟩).lost = L := ⟨_, rfl⟩
    rw [hLe] at p3 hst
    rcases k with _ | k
    all_goals
      refine aDraw.of tys_ok mixed [0, 1, 2, 4, 5, 3, 6, 7] (by kernel_rfl) ?_
      conv => whnf
      refine ACalls.sub _ ?_ (Fn.closed (p1) rfl ?_)
      · repeat' (first | exact trivial | exact fun _ _ h => h | exact nil_sl _ _ | refine And.intro ?_ ?_ | refine ag_sub ?_)
      rintro _ rfl
      conv => whnf
      refine ACalls.sub _ ?_ (Fn.closed (p2) rfl ?_)
      · repeat' (first | exact trivial | exact fun _ _ h => h | exact nil_sl _ _ | refine And.intro ?_ ?_ | refine ag_sub ?_)
      rintro _ rfl
      conv => whnf
      refine aSeq.go ?_
      conv => whnf
      rw [Int.toNat_natCast, hLe]
      cases L
    all_goals
      conv => whnf
      refine Fn.closed (p3) rfl ?_
      rintro _ rfl
      conv => whnf
      refine ⟨_, by omega, by omega, [], trivial, ⟨rfl, hst.symm, wsucc (by omega), trivial⟩, ⟨rfl, trivial⟩, rfl, rfl, rfl⟩
  · have ek : k = l.length := by omega
    rcases k with _ | k
    · have e : l = [] := List.length_eq_zero_iff.1 ek.symm
      subst e
      conv => whnf
      exact ⟨bA (tblB []), nil_sl 1 _, rfl⟩
    · conv => whnf
      exact ⟨_, fun _ _ h => h, by rw [ek, List.take_length]; rfl⟩
theorem tab0_fn (g : Geo) (hg : okG g = true) : Fn Tryd.prog 58 [.ag (geoC g)] fun r => r = .ag [entsA (tab0 g)] := by
  obtain ⟨h1, h2, h3, h4, h5⟩ := okG_iff.1 hg
  refine Fn.of tys_ok Tryd.func58 rfl rfl (Nat.le_of_ble_eq_true rfl) ?_
  conv => whnf
  have w1 : IntKind.i64.wrap (g.d + 1) = g.d + 1 := by rw [IntKind.wrap_i64]; omega
  refine aLoop.rule Nat (fun k => ([(1, .bp 0 0), (2, .bp 1 0), (3, .bp 2 0), (4, .v (.int .i64 k))], [.box 23 (geoC g), .box 111 [.v (.slice none 0 0)], .box 111 [.ow 3 k], .row 149 3 ((List.replicate k ent0).map entC)])) (fun k => (k : Int) ≤ g.d + 1) (fun k => (g.d + 1 - k).toNat) 0 (show (0 : Int) ≤ g.d + 1 by omega) ⟨[(1002000, 149, 3)], ⟨rfl, rfl, trivial⟩, ⟨rfl, rfl, rfl, rfl, trivial⟩, ⟨rfl, rfl, rfl, rfl, trivial⟩, rfl, rfl, rfl⟩ ?_
  intro k hk
  conv => whnf
  refine boolI (fun c1 => ?_) (fun c1 => ?_) <;> (repeat rw [Int.toNat_natCast] at c1) <;> conv => whnf
  · refine aDraw.of tys_ok mixed [0, 1, 2, 3, 4, 5, 6, 7] (by kernel_rfl) ?_
    conv => whnf
    repeat' (refine And.intro (by first | omega | exact of_decide_eq_true rfl) ?_; conv => whnf)
    have e0 := entry_fn 0 zero8
    refine ACalls.shut (e0).go ?_
    conv => whnf
    repeat' (refine And.intro (by first | rfl | omega | (simp; done) | (simp only [List.length_map]; omega)) ?_; conv => whnf)
    refine ACalls.sub _ ?_ (Fn.closed (e0) rfl ?_)
    · repeat' (first | exact trivial | exact fun _ _ h => h | exact nil_sl _ _ | exact bytes_sub zero8 rfl rfl | refine And.intro ?_ ?_ | refine ag_sub ?_)
    rintro _ rfl
    conv => whnf
    repeat' (first | (refine And.intro (by first | rfl | omega) ?_; conv => whnf) | fail)
    refine And.intro ⟨by rw [List.length_map, List.length_replicate], by omega⟩ ?_
    conv => whnf
    exact ⟨k + 1, by omega, by omega, [], trivial, ⟨rfl, rfl, rfl, wsucc (by omega), trivial⟩, ⟨rfl, rfl, rfl, by rw [List.replicate_succ', List.map_append]; rfl, trivial⟩, rfl, rfl, rfl⟩
  · refine And.intro (by rw [List.length_map, List.length_replicate]) ?_
    conv => whnf
    have ek : k = (g.d + 1).toNat := by omega
    refine ⟨.ag [entsA (tab0 g)], ag_sub ⟨row_sub (tab0 g) ?_ ?_, trivial⟩, rfl⟩
    · rw [tab0, List.length_replicate, ek]
    · rw [tab0, ek]
end Go.Proofs.YteecmgonbdbhdaaDoor.A
end

/-
casematelaw16: a right log of a geometry and an anchor.
-/
section
namespace Go.Proofs.YteecmgonbdbhdaaDoor.A
open Go.RowKit

def logImg (g : Geo) (fill : UInt8) (i k : Nat) : Img :=
  if (i + k) % 4 = 3 then ⟨((i + k : Nat) : Int).tmod g.z, 255, tblB (tab0 g)⟩ else ⟨((i + k : Nat) : Int).tmod g.z, ((i + 2 * k : Nat) : Int).tmod (g.d + 1) - 1, [fill, UInt8.ofNat i, UInt8.ofNat k, 1, 2, 3, 4, 5]⟩
/-- How many images. -/
def nImg (s : Int) : Nat := 1 + ((IntKind.u64.wrap s).tmod 5).toNat
def logTx (g : Geo) (a : An) (fill : UInt8) (i : Nat) (pos : Int) (n : Nat) : Tx := ⟨a.seq + i, pos, n + 1, (List.range n).map fun k => logImg g fill i k⟩
/-- The log of the sizes from number i on. -/
def logM (g : Geo) (a : An) (fill : UInt8) : List Int → Nat → Int → Int → List Tx
  | [], _, _, _ => []
  | s :: r, i, pos, used => if g.sl < used + (nImg s : Nat) + 1 then [] else logTx g a fill i pos (nImg s) :: logM g a fill r (i + 1) ((pos + (nImg s : Nat) + 1).tmod g.sl) (used + (nImg s : Nat) + 1)
theorem nImg_in (s : Int) : 1 ≤ nImg s ∧ nImg s ≤ 5 := by
  have h0 : 0 ≤ IntKind.u64.wrap s := by rw [IntKind.wrap_u64]; omega
  have h1 := Int.tmod_nonneg 5 h0
  have h2 := Int.tmod_lt_of_pos (IntKind.u64.wrap s) (show (0 : Int) < 5 by decide)
  unfold nImg
  omega
theorem SubLL.app {e f : List AV} (h : SubL e f) : ∀ {a b : List (List AV)}, SubLL a b → SubLL (a ++ [e]) (b ++ [f])
  | [], [], _ => ⟨h, trivial⟩
  | _ :: _, _ :: _, h2 => ⟨h2.1, SubLL.app h h2.2⟩
  | [], _ :: _, h => h.elim
  | _ :: _, [], h => h.elim
theorem img_tab {g : Geo} {fill : UInt8} {i k : Nat} (t : ((i + k : Nat) : Int).tmod 4 = 3) : SubL (imgC ⟨((i + k : Nat) : Int).tmod g.z, 255, tblB (tab0 g)⟩) (imgC (logImg g fill i k)) := by
  have e : (i + k) % 4 = 3 := by
    rw [Int.tmod_eq_emod_of_nonneg (by omega)] at t
    omega
  rw [logImg, if_pos e]
  exact SubL.refl _
theorem u8_nat (m : Nat) : IntKind.u8.wrap (m : Int) = ((UInt8.ofNat m).toNat : Int) := by
  rw [IntKind.wrap_u8, UInt8.toNat_ofNat']
  omega
theorem img_plain {g : Geo} {fill : UInt8} {i k : Nat} (t : ¬ ((i + k : Nat) : Int).tmod 4 = 3) : SubL [.v (.int .i64 (((i + k : Nat) : Int).tmod g.z)), .v (.int .i64 (((i + 2 * k : Nat) : Int).tmod (g.d + 1) - 1)), .sl 1 8 fun j => [[AV.v (.int .u8 fill.toNat)], [.v (.int .u8 (IntKind.u8.wrap i))], [.v (.int .u8 (IntKind.u8.wrap k))], [.v (.int .u8 1)], [.v (.int .u8 2)], [.v (.int .u8 3)], [.v (.int .u8 4)], [.v (.int .u8 5)]].getD j []] (imgC (logImg g fill i k)) := by
  have e : ¬ (i + k) % 4 = 3 := by
    rw [Int.tmod_eq_emod_of_nonneg (by omega)] at t
    omega
  rw [logImg, if_neg e, u8_nat, u8_nat]
  exact ⟨fun _ _ h => h, fun _ _ h => h, bytes_sub [fill, UInt8.ofNat i, UInt8.ofNat k, 1, 2, 3, 4, 5] rfl rfl, trivial⟩
set_option maxRecDepth 100000 in
theorem log_fn16 (g : Geo) (a : An) (sizes : List Int) (fill : UInt8) (hg : okG g = true) (ha : anOk g a = true) (hs : a.seq ≤ 1000000) (hl : sizes.length ≤ 40) : Fn Tryd.prog 29 [.ag (geoC g), .ag (anC a), iA sizes, .v (.int .u8 fill.toNat)] fun r => r = txsA (logM g a fill sizes 0 a.pos 0) := by
  obtain ⟨h1, h2, h3, h4, h5⟩ := okG_iff.1 hg
  have hq := anOk_seq ha
  refine Fn.of tys_ok Tryd.func29 rfl rfl (Nat.le_of_ble_eq_true rfl) ?_
  conv => whnf
  generalize hR : logM g a fill sizes 0 a.pos 0 = R
  refine aLoop.rule (Nat × Int × Int × List Tx × List (List AV)) (fun z => ([(2, iA sizes), (3, .v (.int .u8 fill.toNat)), (4, .bp 0 0), (5, .bp 1 0), (9, .ow 2 z.2.2.2.2.length), (10, .v (.int .i64 z.2.1)), (11, .v (.int .i64 z.2.2.1)), (12, .v (.int .i64 z.1))], [.box 23 (geoC g), .box 26 (anC a), .row 84 4 z.2.2.2.2]))
    (fun z => z.1 ≤ sizes.length ∧ z.2.2.2.1 ++ logM g a fill (sizes.drop z.1) z.1 z.2.1 z.2.2.1 = R ∧ (0 ≤ z.2.1 ∧ z.2.1 < g.sl) ∧ (0 ≤ z.2.2.1 ∧ z.2.2.1 ≤ g.sl) ∧ z.2.2.2.1.length = z.1 ∧ SubLL z.2.2.2.2 (z.2.2.2.1.map txC))
    (fun z => sizes.length - z.1) (0, a.pos, 0, [], []) ⟨Nat.zero_le _, hR, hq.2, show (0 : Int) ≤ 0 ∧ (0 : Int) ≤ g.sl by omega, rfl, trivial⟩ ⟨[(9, 84, 4)], ⟨rfl, rfl, trivial⟩, ⟨rfl, rfl, rfl, rfl, rfl, rfl, rfl, rfl, trivial⟩, ⟨rfl, rfl, rfl, trivial⟩, rfl, rfl, rfl⟩ ?_
  rintro ⟨i, pos, used, l, rl⟩ ⟨b1, b2, b3, b4, b5, b6⟩
  dsimp only at b1 b2 b3 b4 b5 b6 ⊢
  have b7 : rl.length = l.length := by have := b6.len; rwa [List.length_map] at this
  conv => whnf
  refine boolI (fun c1 => ?_) (fun c1 => ?_) <;> (repeat rw [Int.toNat_natCast] at c1) <;> conv => whnf
  · have hd : sizes.drop i = sizes.getD i 0 :: sizes.drop (i + 1) := by
      rw [List.drop_eq_getElem_cons c1, List.getD_eq_getElem?_getD, List.getElem?_eq_getElem c1]
      rfl
    rw [hd] at b2
    have hn := nImg_in (sizes.getD i 0)
    have wn : IntKind.i64.wrap (1 + IntKind.i64.wrap ((IntKind.u64.wrap (sizes.getD i 0)).tmod 5)) = (nImg (sizes.getD i 0) : Nat) := by
      have h0 : 0 ≤ IntKind.u64.wrap (sizes.getD i 0) := by rw [IntKind.wrap_u64]; omega
      have h1 := Int.tmod_nonneg 5 h0
      have h2 := Int.tmod_lt_of_pos (IntKind.u64.wrap (sizes.getD i 0)) (show (0 : Int) < 5 by decide)
      unfold nImg
      rw [IntKind.wrap_i64, IntKind.wrap_i64]
      omega
    unfold logM at b2
    generalize nImg (sizes.getD i 0) = n at hn wn b2
    refine ⟨by first | omega | (simp only [List.length_map]; omega) | exact ⟨rfl, by omega, by omega⟩ | exact ⟨rfl, by simp only [List.length_map]; omega, by omega⟩, ?_⟩
    conv => whnf
    refine And.intro (by decide) ?_
    conv => whnf
    rw [Int.toNat_natCast, wn]
    have w1 : IntKind.i64.wrap (used + n) = used + n := by rw [IntKind.wrap_i64]; omega
    have w2 : IntKind.i64.wrap (used + n + 1) = used + n + 1 := by rw [IntKind.wrap_i64]; omega
    rw [w1, w2]
    conv => whnf
    have w3 : IntKind.i64.wrap (a.seq + rl.length) = a.seq + i := by rw [IntKind.wrap_i64]; omega
    have w4 : IntKind.i64.wrap ((n : Int) + 1) = n + 1 := by rw [IntKind.wrap_i64]; omega
    refine boolI (fun c2 => ?_) (fun c2 => ?_) <;> (repeat rw [Int.toNat_natCast] at c2) <;> conv => whnf
    · rw [if_pos c2, List.append_nil] at b2
      subst b2
      refine And.intro rfl ?_
      conv => whnf
      exact ⟨txsA l, rows_sub l b7 rfl b6, rfl⟩
    · rw [if_neg (by omega)] at b2
      rw [w3, w4]
      refine aLoop.rule (Nat × List (List AV)) (fun z => ([(2, iA sizes), (3, .v (.int .u8 fill.toNat)), (4, .bp 0 0), (5, .bp 1 0), (9, .ow 2 rl.length), (10, .v (.int .i64 pos)), (11, .v (.int .i64 used)), (12, .v (.int .i64 i)), (13, .v (.int .i64 n)), (14, .bp 3 0), (15, .v (.int .i64 z.1))], [.box 23 (geoC g), .box 26 (anC a), .row 84 4 rl, .box 84 [.v (.int .i64 (a.seq + i)), .v (.int .i64 pos), .v (.int .i64 (n + 1)), .ow 4 z.2.length], .row 32 3 z.2]))
        (fun z => z.1 ≤ n ∧ SubLL z.2 (((List.range z.1).map (logImg g fill i)).map imgC)) (fun z => n - z.1) (0, []) ⟨Nat.zero_le _, trivial⟩ ⟨[(1003003, 32, 3)], ⟨rfl, rfl, trivial⟩, ⟨rfl, rfl, rfl, rfl, rfl, rfl, rfl, rfl, rfl, rfl, rfl, trivial⟩, ⟨rfl, rfl, rfl, rfl, rfl, trivial⟩, rfl, rfl, rfl⟩ ?_
      rintro ⟨k, im⟩ ⟨hk, hm⟩
      dsimp only at hk hm ⊢
      have hil : im.length = k := by have := hm.len; simpa using this
      conv => whnf
      have v1 : IntKind.i64.wrap ((i : Int) + k) = ((i + k : Nat) : Int) := by rw [IntKind.wrap_i64]; omega
      have v2 : IntKind.i64.wrap (2 * (k : Int)) = ((2 * k : Nat) : Int) := by rw [IntKind.wrap_i64]; omega
      have v3 : IntKind.i64.wrap ((i : Int) + ((2 * k : Nat) : Int)) = ((i + 2 * k : Nat) : Int) := by rw [IntKind.wrap_i64]; omega
      have v5 : IntKind.i64.wrap (((i + 2 * k : Nat) : Int).tmod (g.d + 1) - 1) = ((i + 2 * k : Nat) : Int).tmod (g.d + 1) - 1 := by
        have q1 := Int.tmod_nonneg (g.d + 1) (show 0 ≤ ((i + 2 * k : Nat) : Int) by omega)
        have q2 := Int.tmod_lt_of_pos ((i + 2 * k : Nat) : Int) (show 0 < g.d + 1 by omega)
        rw [IntKind.wrap_i64]; omega
      have v4 : IntKind.i64.wrap (g.d + 1) = g.d + 1 := by rw [IntKind.wrap_i64]; omega
      refine boolI (fun c3 => ?_) (fun c3 => ?_) <;> (repeat rw [Int.toNat_natCast] at c3) <;> conv => whnf
      · have t0 := tab0_fn g hg
        have t1 := tabB_fn (tab0 g) (by rw [tab0, List.length_replicate]; omega) (fun e he => by rw [List.eq_of_mem_replicate he]; decide +kernel)
        refine aSeq.go ?_
        conv => whnf
        apply aDraw.treeK 0 tys_ok mixed (.one 0 (.one 1 (.one 2 (.one 3 (.one 4 (.one 5 (.one 6 (.one 7 (.one 8 (.one 9 (.one 10 (.one 11 (.one 12 (.one 13 (.one 14 (.one 15 (.one 16 (.one 17 (.one 18 (.one 19 (.two 20 (.one 21 (.one 22 (.one 23 .fin))) 22 (.one 20 (.one 21 (.one 23 .fin)))))))))))))))))))))))) (by kernel_rfl)
        conv => whnf
        repeat' (first | (refine And.intro (by first | omega | exact of_decide_eq_true rfl) ?_; conv => whnf) | (refine And.intro ?_ ?_ <;> conv => whnf) | fail)
        all_goals
          refine aSeq.go ?_
          conv => whnf
          rw [v1]
          conv => whnf
          refine And.intro (by decide) ?_
          conv => whnf
          refine boolI (fun t => ?_) (fun t => ?_) <;> (repeat rw [Int.toNat_natCast] at t) <;> conv => whnf
          · refine aDraw.of tys_ok mixed [0, 1, 2, 3, 4, 5, 6, 7, 8, 9, 10] (by kernel_rfl) ?_
            conv => whnf
            repeat' (first | (refine aSeq.go ?_; conv => whnf) | (refine boolI (fun _ => ?_) (fun _ => ?_) <;> conv => whnf) | (refine Fn.closed (t0) rfl ?_; rintro _ rfl; conv => whnf) | (refine Fn.closed (t1) rfl ?_; rintro _ rfl; conv => whnf) | (refine And.intro (by first | omega | exact of_decide_eq_true rfl) ?_; conv => whnf) | fail)
            rw [v1]
            refine ⟨(k + 1, im ++ [imgC ⟨((i + k : Nat) : Int).tmod g.z, 255, tblB (tab0 g)⟩]), ⟨by dsimp only; omega, ?_⟩, by dsimp only; omega, [], trivial, ⟨rfl, rfl, rfl, rfl, rfl, rfl, rfl, rfl, rfl, rfl, wsucc (by omega), trivial⟩, ⟨rfl, rfl, rfl, by rw [List.length_append]; rfl, rfl, trivial⟩, rfl, rfl, rfl⟩
            rw [List.range_succ, List.map_append, List.map_append]
            exact SubLL.app (img_tab t) hm
          · repeat' (first | (refine aSeq.go ?_; conv => whnf) | (refine boolI (fun _ => ?_) (fun _ => ?_) <;> conv => whnf) | (refine Fn.closed (t0) rfl ?_; rintro _ rfl; conv => whnf) | (refine And.intro (by first | omega | exact of_decide_eq_true rfl) ?_; conv => whnf) | fail)
            rw [v2, v3, v4, v5]
            refine ⟨(k + 1, im ++ [[.v (.int .i64 (((i + k : Nat) : Int).tmod g.z)), .v (.int .i64 (((i + 2 * k : Nat) : Int).tmod (g.d + 1) - 1)), .sl 1 8 fun j => [[.v (.int .u8 fill.toNat)], [.v (.int .u8 (IntKind.u8.wrap i))], [.v (.int .u8 (IntKind.u8.wrap k))], [.v (.int .u8 1)], [.v (.int .u8 2)], [.v (.int .u8 3)], [.v (.int .u8 4)], [.v (.int .u8 5)]].getD j []]]), ⟨by dsimp only; omega, ?_⟩, by dsimp only; omega, [], trivial, ⟨rfl, rfl, rfl, rfl, rfl, rfl, rfl, rfl, rfl, rfl, wsucc (by omega), trivial⟩, ⟨rfl, rfl, rfl, by rw [List.length_append]; rfl, rfl, trivial⟩, rfl, rfl, rfl⟩
            rw [List.range_succ, List.map_append, List.map_append]
            exact SubLL.app (img_plain t) hm
      · refine And.intro rfl ?_
        conv => whnf
        repeat' (first | (refine And.intro (by first | rfl | omega) ?_; conv => whnf) | fail)
        have ek : k = n := by omega
        subst ek
        have w5 : IntKind.i64.wrap (pos + k) = pos + k := by rw [IntKind.wrap_i64]; omega
        have w6 : IntKind.i64.wrap (pos + k + 1) = pos + k + 1 := by rw [IntKind.wrap_i64]; omega
        rw [w1, w2, w5, w6]
        have hmm := Int.tmod_lt_of_pos (pos + k + 1) (show 0 < g.sl by omega)
        have hm0 := Int.tmod_nonneg g.sl (show 0 ≤ pos + k + 1 by omega)
        refine ⟨(i + 1, (pos + k + 1).tmod g.sl, used + k + 1, l ++ [logTx g a fill i pos k], rl ++ [[.v (.int .i64 (a.seq + i)), .v (.int .i64 pos), .v (.int .i64 (k + 1)), .sl 3 im.length fun j => im.getD j []]]), ⟨by dsimp only; omega, ?_, ⟨hm0, hmm⟩, by dsimp only; omega, by dsimp only; rw [List.length_append]; simp only [List.length_cons, List.length_nil]; omega, ?_⟩, by dsimp only; omega, [], trivial, ⟨rfl, rfl, rfl, rfl, ?_, rfl, rfl, wsucc (by omega), trivial⟩, ⟨rfl, rfl, rfl, trivial⟩, rfl, rfl, rfl⟩
        · dsimp only
          rw [List.append_assoc]
          exact b2
        · dsimp only
          rw [List.map_append]
          refine SubLL.app ?_ b6
          refine And.intro (fun _ _ h => h) (And.intro (fun _ _ h => h) (And.intro (fun _ _ h => h) (And.intro ?_ trivial)))
          exact rows_sub (f := imgC) ((List.range k).map (logImg g fill i)) (by rw [hil]; simp) rfl hm
        · rw [List.length_append]
          rfl
  · have ei : i = sizes.length := by omega
    refine And.intro rfl ?_
    conv => whnf
    subst ei
    rw [List.drop_length, logM, List.append_nil] at b2
    subst b2
    exact ⟨txsA l, rows_sub l b7 rfl b6, rfl⟩
end Go.Proofs.YteecmgonbdbhdaaDoor.A
end

/-
Plain laws on bits that are turned about, and on the sum of what was turned: no turning of a burst of 32 bits goes unseen.
-/
section
namespace Go.Proofs.YteecmgonbdbhdaaDoor

/-- One bit turned about. -/
def flipB (b : List UInt8) (k : Nat) : List UInt8 := b.modify (k / 8) fun x => x ^^^ UInt8.ofNat (2 ^ (k % 8))
theorem flipB_length (b : List UInt8) (k : Nat) : (flipB b k).length = b.length := List.length_modify _ _ _
/-- The first i bits that p picks turned about, from bit a on. -/
def flipN (p : Nat → Bool) (a : Nat) (b : List UInt8) : Nat → List UInt8
  | 0 => b
  | i + 1 => if p i && decide (a + i < 8 * b.length) then flipB (flipN p a b i) (a + i) else flipN p a b i
theorem flipN_length (p : Nat → Bool) (a : Nat) (b : List UInt8) (i : Nat) : (flipN p a b i).length = b.length := by
  induction i with
  | zero => rfl
  | succ i ih => unfold flipN; split; rw [flipB_length, ih]; exact ih
/-- The bits that are turned, as one number. -/
def fX (bs : Int) : Nat := if (bs % 4294967296).toNat % 2 = 0 then (bs % 4294967296).toNat + 1 else (bs % 4294967296).toNat
theorem fX_lt (bs : Int) : fX bs < 4294967296 := by unfold fX; split <;> omega
theorem fX_odd (bs : Int) : fX bs % 2 = 1 := by unfold fX; split <;> omega
def flipT (b : List UInt8) (bit bs : Int) : List UInt8 := flipN (fun i => decide (fX bs / 2 ^ i % 2 = 1)) (bit % (8 * (b.length : Int))).toNat b 32
theorem flipT_length (b : List UInt8) (bit bs : Int) : (flipT b bit bs).length = b.length := flipN_length _ _ _ _
theorem flipT_nil (bit bs : Int) : flipT [] bit bs = [] := List.eq_nil_of_length_eq_zero (flipT_length _ _ _)

theorem stepsC_zero : ∀ k, stepsC k 0 = 0
  | 0 => rfl
  | k + 1 => by rw [stepsC, stepsC_zero k]; decide
theorem stepC_ne {r : Nat} (h : r < 4294967296) (h0 : r ≠ 0) : stepC r ≠ 0 := by
  unfold stepC
  intro e
  rcases Nat.mod_two_eq_zero_or_one r with h1 | h1
  · rw [if_neg (by omega), Nat.xor_zero] at e; omega
  · rw [if_pos h1] at e
    have : r / 2 = polyN := by
      have h3 : (r / 2 ^^^ polyN) ^^^ polyN = r / 2 := by rw [Nat.xor_assoc, Nat.xor_self, Nat.xor_zero]
      rw [e, Nat.zero_xor] at h3
      exact h3.symm
    simp only [polyN] at this
    omega
theorem stepsC_ne : ∀ (k : Nat) {r : Nat}, r < 4294967296 → r ≠ 0 → stepsC k r ≠ 0
  | 0, _, _, h0 => h0
  | k + 1, _, h, h0 => stepC_ne (stepsC_lt k h) (stepsC_ne k h h0)
theorem stepsC_add : ∀ (j k r : Nat), stepsC (j + k) r = stepsC j (stepsC k r)
  | 0, k, r => by rw [Nat.zero_add]; rfl
  | j + 1, k, r => by rw [show j + 1 + k = (j + k) + 1 by omega, stepsC, stepsC, stepsC_add j k r]
theorem stepsC_two : ∀ (k x : Nat), stepsC k (2 ^ k * x) = x
  | 0, x => by simp [stepsC]
  | k + 1, x => by
    rw [stepsC_succ, show 2 ^ (k + 1) * x = 2 * (2 ^ k * x) by rw [Nat.pow_succ]; rw [Nat.mul_comm (2 ^ k) 2, Nat.mul_assoc], stepC_double, stepsC_two k x]
theorem xor_swap (x p q : Nat) : (x ^^^ p) ^^^ q = (x ^^^ q) ^^^ p := by rw [Nat.xor_assoc, Nat.xor_comm p q, ← Nat.xor_assoc]
/-- What the start of a reckoning adds. -/
theorem foldC_start : ∀ (b : List UInt8) (r s : Nat), foldC (r ^^^ s) b = foldC r b ^^^ stepsC (8 * b.length) s
  | [], r, s => rfl
  | c :: b, r, s => by
    have e : foldC (r ^^^ s) (c :: b) = foldC (eightC (r ^^^ s ^^^ c.toNat)) b := rfl
    have e2 : foldC r (c :: b) = foldC (eightC (r ^^^ c.toNat)) b := rfl
    rw [e, e2, xor_swap, show eightC (r ^^^ c.toNat ^^^ s) = eightC (r ^^^ c.toNat) ^^^ stepsC 8 s from stepsC_xor 8 _ _, foldC_start b, ← stepsC_add, List.length_cons, Nat.mul_add]
/-- What a turned bit adds. -/
theorem foldC_flipB : ∀ (b : List UInt8) (r k : Nat), k < 8 * b.length → foldC r (flipB b k) = foldC r b ^^^ stepsC (8 * b.length - k) 1
  | [], _, _, h => by simp at h
  | c :: b, r, k, h => by
    have e2 : foldC r (c :: b) = foldC (eightC (r ^^^ c.toNat)) b := rfl
    by_cases hk : k < 8
    · have e : flipB (c :: b) k = (c ^^^ UInt8.ofNat (2 ^ (k % 8))) :: b := by
        unfold flipB
        rw [show k / 8 = 0 by omega]
        rfl
      have hp : (2 : Nat) ^ k < 256 := by
        have := Nat.pow_lt_pow_right (a := 2) (by omega) hk
        omega
      rw [e, show foldC r ((c ^^^ UInt8.ofNat (2 ^ (k % 8))) :: b) = foldC (eightC (r ^^^ (c ^^^ UInt8.ofNat (2 ^ (k % 8))).toNat)) b from rfl, UInt8.toNat_xor, Nat.mod_eq_of_lt hk, UInt8.toNat_ofNat_of_lt' hp, ← Nat.xor_assoc,
        show eightC (r ^^^ c.toNat ^^^ 2 ^ k) = eightC (r ^^^ c.toNat) ^^^ stepsC 8 (2 ^ k) from stepsC_xor 8 _ _, foldC_start b, e2, ← stepsC_add, List.length_cons]
      congr 1
      have := stepsC_two k 1
      rw [Nat.mul_one] at this
      rw [show 8 * b.length + 8 = (8 * (b.length + 1) - k) + k by omega, stepsC_add, this]
    · have e : flipB (c :: b) k = c :: flipB b (k - 8) := by
        unfold flipB
        rw [show k / 8 = (k - 8) / 8 + 1 by omega, List.modify_succ_cons, show k % 8 = (k - 8) % 8 by omega]
      simp only [List.length_cons] at h
      rw [e, show foldC r (c :: flipB b (k - 8)) = foldC (eightC (r ^^^ c.toNat)) (flipB b (k - 8)) from rfl, foldC_flipB b _ _ (by omega), e2, List.length_cons]
      congr 2
      omega
/-- The bits of p below i, as one number, of which so many have room. -/
def wordN (p : Nat → Bool) (d : Nat) : Nat → Nat
  | 0 => 0
  | i + 1 => if p i && decide (i < d) then wordN p d i ^^^ 2 ^ i else wordN p d i
theorem wordN_lt (p : Nat → Bool) (d : Nat) : ∀ i, wordN p d i < 2 ^ i
  | 0 => by show 0 < 1; decide
  | i + 1 => by
    have := wordN_lt p d i
    unfold wordN
    have h2 : (2 : Nat) ^ i < 2 ^ (i + 1) := Nat.pow_lt_pow_right (by omega) (by omega)
    split
    · exact Nat.xor_lt_two_pow (by omega) h2
    · omega
theorem wordN_bit (p : Nat → Bool) (d : Nat) (hp : p 0 = true) (hd : 0 < d) : ∀ i, 0 < i → (wordN p d i) % 2 = 1
  | 1, _ => by simp [wordN, hp, hd]
  | i + 2, _ => by
    have ih := wordN_bit p d hp hd (i + 1) (by omega)
    unfold wordN
    split
    · rw [xor_odd, Nat.pow_succ]; omega
    · exact ih
theorem foldC_flipN (p : Nat → Bool) (a : Nat) (b : List UInt8) (r : Nat) (ha : a < 8 * b.length) : ∀ i, foldC r (flipN p a b i) = foldC r b ^^^ stepsC (8 * b.length - a) (wordN p (8 * b.length - a) i)
  | 0 => by simp [flipN, wordN, stepsC_zero]
  | i + 1 => by
    have ih := foldC_flipN p a b r ha i
    unfold flipN wordN
    have hc : (p i && decide (a + i < 8 * b.length)) = (p i && decide (i < 8 * b.length - a)) := by
      congr 1
      exact decide_eq_decide.2 (by omega)
    rw [hc]
    split
    · rename_i h
      simp only [Bool.and_eq_true, decide_eq_true_eq] at h
      rw [foldC_flipB _ _ _ (by rw [flipN_length]; omega), ih, flipN_length, stepsC_xor, Nat.xor_assoc]
      congr 2
      have := stepsC_two i 1
      rw [Nat.mul_one] at this
      rw [show 8 * b.length - a = (8 * b.length - (a + i)) + i by omega, stepsC_add, this]
    · exact ih
/-- Four bytes that a reckoning ends with. -/
theorem foldC_word : ∀ (t : List UInt8) (s : Nat), foldC s t = stepsC (8 * t.length) (s ^^^ leN t)
  | [], s => by simp [foldC, leN, stepsC]
  | c :: t, s => by
    have e2 : foldC s (c :: t) = foldC (eightC (s ^^^ c.toNat)) t := rfl
    have h1 : leN (c :: t) = c.toNat ^^^ 256 * leN t := by
      have hc : c.toNat < 2 ^ 8 := c.toNat_lt
      have h := Nat.two_pow_add_eq_or_of_lt hc (leN t)
      have h2 : 2 ^ 8 * leN t ||| c.toNat = c.toNat ^^^ 2 ^ 8 * leN t := by
        apply Nat.eq_of_testBit_eq
        intro i
        rw [Nat.testBit_or, Nat.testBit_xor]
        by_cases hi : i < 8
        · rw [Nat.testBit_two_pow_mul]
          simp [show ¬ 8 ≤ i by omega]
        · have : c.toNat.testBit i = false := Nat.testBit_lt_two_pow (Nat.lt_of_lt_of_le hc (Nat.pow_le_pow_right (by omega) (by omega)))
          rw [this]
          simp
      rw [← h2, ← h]
      simp only [leN]
      omega
    rw [e2, foldC_word t, h1, List.length_cons, Nat.mul_add, stepsC_add]
    congr 1
    rw [← Nat.xor_assoc, stepsC_xor]
    congr 1
    exact (eightC_high _).symm
theorem ones_sub {x : Nat} (h : x < 4294967296) : 4294967295 - x = 4294967295 ^^^ x := (not_u32 x h).symm
/-- What is told by the sum at its end has one sum. -/
theorem sealed_fold {b : List UInt8} (h4 : 4 ≤ b.length) (h : leN (b.drop (b.length - 4)) = sumC (b.take (b.length - 4))) : foldC 4294967295 b = stepsC 32 4294967295 := by
  have e : b = b.take (b.length - 4) ++ b.drop (b.length - 4) := (List.take_append_drop _ _).symm
  have hl : (b.drop (b.length - 4)).length = 4 := by rw [List.length_drop]; omega
  have hlt : foldC 4294967295 (b.take (b.length - 4)) < 4294967296 := foldC_lt _ (by decide)
  have hap : ∀ x y : List UInt8, foldC 4294967295 (x ++ y) = foldC (foldC 4294967295 x) y := fun x y => by simp [foldC]
  conv => lhs; rw [e]
  rw [hap, foldC_word, hl, h, sumC, ones_sub hlt]
  congr 1
  rw [Nat.xor_comm 4294967295, ← Nat.xor_assoc, Nat.xor_self, Nat.zero_xor]
/-- Of right bytes no burst of 32 bits goes unseen. -/
theorem flipT_seen {b : List UInt8} (h4 : 4 ≤ b.length) (h : leN (b.drop (b.length - 4)) = sumC (b.take (b.length - 4))) (bit bs : Int) :
    leN ((flipT b bit bs).drop ((flipT b bit bs).length - 4)) ≠ sumC ((flipT b bit bs).take ((flipT b bit bs).length - 4)) := by
  intro h'
  have h1 := sealed_fold h4 h
  have h2 := sealed_fold (b := flipT b bit bs) (by rw [flipT_length]; exact h4) h'
  have ha : (bit % (8 * (b.length : Int))).toNat < 8 * b.length := by
    have := Int.emod_lt_of_pos bit (show (0 : Int) < 8 * (b.length : Int) by omega)
    have := Int.emod_nonneg bit (show (8 * (b.length : Int)) ≠ 0 by omega)
    omega
  unfold flipT at h2
  rw [foldC_flipN _ _ _ _ ha, h1] at h2
  have h3 : stepsC (8 * b.length - (bit % (8 * (b.length : Int))).toNat) (wordN (fun i => decide (fX bs / 2 ^ i % 2 = 1)) (8 * b.length - (bit % (8 * (b.length : Int))).toNat) 32) ≠ 0 := by
    refine stepsC_ne _ (Nat.lt_of_lt_of_le (wordN_lt _ _ _) (by decide)) ?_
    have := wordN_bit (fun i => decide (fX bs / 2 ^ i % 2 = 1)) (8 * b.length - (bit % (8 * (b.length : Int))).toNat) (by simp [fX_odd]) (by omega) 32 (by decide)
    omega
  apply h3
  have h5 := congrArg (fun x => stepsC 32 4294967295 ^^^ x) h2
  simp only [← Nat.xor_assoc, Nat.xor_self, Nat.zero_xor] at h5
  exact h5
/-- A sector's bytes of which bits were turned are none any more. -/
theorem openE_flip {b : List UInt8} (h : openE b = 0) (bit bs : Int) : openE (flipT b bit bs) = 5 := by
  unfold openE at h
  split at h
  · cases h
  · rename_i hl
    split at h
    · cases h
    · rename_i hs
      have := flipT_seen (b := b) (by omega) (Decidable.not_not.1 hs) bit bs
      unfold openE
      rw [if_neg (by rw [flipT_length]; exact hl), if_pos this]
end Go.Proofs.YteecmgonbdbhdaaDoor
end

/-
Package casemateref01: bits turned about.
-/
section
namespace Go.Proofs.YteecmgonbdbhdaaDoor.A
open Go.RowKit

theorem tmod_emod {a n : Int} (hn : 0 < n) : (if a.tmod n < 0 then a.tmod n + n else a.tmod n) = a % n := by
  have b1 := Int.tmod_lt_of_pos a hn
  have b2 := Int.lt_tmod_of_pos a hn
  split
  · have e1 : (a.tmod n + n) % n = a % n := by
      rw [Int.add_emod_right, Int.tmod_eq_emod]
      split
      · rw [show ((0 : Nat) : Int) = 0 from rfl, Int.sub_zero, Int.emod_emod_of_dvd _ (Int.dvd_refl n)]
      · rw [Int.sub_emod, Int.emod_emod_of_dvd _ (Int.dvd_refl n), show (n.natAbs : Int) = n by omega, Int.emod_self, Int.sub_zero, Int.emod_emod_of_dvd _ (Int.dvd_refl n)]
    rw [← e1, Int.emod_eq_of_lt (by omega) (by omega)]
  · rename_i hr
    have e1 := Int.tmod_eq_emod (a := a) (b := n)
    rw [Int.tmod_eq_emod]
    split
    · omega
    · rename_i hc
      rw [if_neg hc] at e1
      have := Int.emod_lt_of_pos a hn
      omega
theorem mod_fn (a n : Int) (hn : 0 < n) (hn2 : n ≤ 4611686018427387904) : Fn Tryd.prog 59 [.v (.int .i64 a), .v (.int .i64 n)] fun r => r = .v (.int .i64 (a % n)) := by
  have b1 := Int.tmod_lt_of_pos a hn
  have b2 := Int.lt_tmod_of_pos a hn
  have he := tmod_emod (a := a) hn
  refine Fn.of tys_ok Tryd.func59 rfl rfl (Nat.le_of_ble_eq_true rfl) ?_
  conv => whnf
  refine And.intro (by omega) ?_
  conv => whnf
  repeat' (first | (refine aSeq.go ?_; conv => whnf) | (refine boolI (fun _ => ?_) (fun _ => ?_) <;> conv => whnf) | (refine And.intro (by first | omega | exact of_decide_eq_true rfl) ?_; conv => whnf) | fail)
  all_goals refine ⟨_, fun _ _ h => h, ?_⟩
  · rw [if_pos (by assumption)] at he
    rw [wi (by omega), he]
  · rw [if_neg (by omega)] at he
    rw [he]
def bR (b : List UInt8) : List (List AV) := b.map fun x => [.v (.int .u8 x.toNat)]
theorem bR_get {b : List UInt8} {i : Nat} (h : i < b.length) : (bR b).getD i [] = [.v (.int .u8 (b.getD i 0).toNat)] := map_getD (d := 0) h
theorem bR_set (b : List UInt8) (i : Nat) (y : UInt8) : (bR b).set i [.v (.int .u8 y.toNat)] = bR (b.set i y) := by simp [bR, List.map_set]
theorem bR_sub (b : List UInt8) (c : Ctx) (u : Value) (h : Rd (.sl 1 b.length fun i => (bR b).getD i []) c u) : Rd (bA b) c u :=
  Rd.congr rfl (fun _ hi => map_getD (d := 0) hi) h
theorem bR_sub' {b : List UInt8} {n : Nat} (hn : n = b.length) (c : Ctx) (u : Value) (h : Rd (.sl 1 n fun i => (bR b).getD i []) c u) : Rd (bA b) c u := by
  subst hn; exact bR_sub b c u h
theorem bR_range (b : List UInt8) : (List.range b.length).map (fun i => [AV.v (.int .u8 (b.getD i 0).toNat)]) = bR b := by
  apply List.ext_getElem
  · simp [bR]
  · intro i h1 h2
    simp only [List.length_map, List.length_range] at h1
    simp [bR, List.getD_eq_getElem?_getD, List.getElem?_eq_getElem h1]
theorem twin_fno (b : List UInt8) (hb : b.length ≤ 1000000000) : FnO Tryd.prog 31 [bA b] fun r R => r = .ow 0 b.length ∧ R = [.row 5 1 (bR b)] := by
  refine FnO.of tys_ok Tryd.func31 rfl rfl (Nat.le_of_ble_eq_true rfl) ?_
  conv => whnf
  refine ⟨hb, ?_⟩
  conv => whnf
  exact ⟨rfl, by rw [bR_range]⟩
theorem u8_xor (x : UInt8) (z : Nat) (hz : z < 256) : IntKind.u8.wrap (BitVec.ofInt IntKind.u8.bits (x.toNat : Int) ^^^ BitVec.ofInt IntKind.u8.bits (z : Int)).toNat = ((x ^^^ UInt8.ofNat z).toNat : Int) := by
  show IntKind.u8.wrap (BitVec.ofInt 8 (x.toNat : Int) ^^^ BitVec.ofInt 8 (z : Int)).toNat = ((x ^^^ UInt8.ofNat z).toNat : Int)
  have hx := x.toNat_lt
  have h1 : (BitVec.ofInt 8 (x.toNat : Int)) = BitVec.ofNat 8 x.toNat := BitVec.ofInt_natCast _ _
  have h2 : (BitVec.ofInt 8 (z : Int)) = BitVec.ofNat 8 z := BitVec.ofInt_natCast _ _
  have h3 : x.toNat ^^^ z < 256 := Nat.xor_lt_two_pow (n := 8) hx hz
  rw [h1, h2, BitVec.toNat_xor, BitVec.toNat_ofNat, BitVec.toNat_ofNat, Nat.mod_eq_of_lt hx, Nat.mod_eq_of_lt hz, UInt8.toNat_xor, UInt8.toNat_ofNat_of_lt' hz, IntKind.wrap_u8]
  omega
theorem flipB_set (b : List UInt8) (k : Nat) (h : k / 8 < b.length) : flipB b k = b.set (k / 8) (b.getD (k / 8) 0 ^^^ UInt8.ofNat (2 ^ (k % 8))) := by
  rw [List.getD_eq_getElem?_getD, List.getElem?_eq_getElem h]
  unfold flipB
  apply List.ext_getElem?
  intro i
  rw [List.getElem?_modify, List.getElem?_set]
  split
  · subst_vars; simp [h]
  · simp
theorem flipN_stop (p : Nat → Bool) (a : Nat) (b : List UInt8) (k : Nat) (h : ∀ j, k ≤ j → p j = false ∨ 8 * b.length ≤ a + j) : ∀ n, k ≤ n → flipN p a b n = flipN p a b k := by
  intro n hn
  induction n with
  | zero => obtain rfl : k = 0 := by omega
            rfl
  | succ n ih =>
    by_cases hk : k = n + 1
    · rw [hk]
    · rw [flipN, if_neg, ih (by omega)]
      rcases h n (by omega) with h | h
      · simp [h]
      · simp; omega
set_option maxRecDepth 100000 in
theorem rflip_fn (b : List UInt8) (bit bs : Int) (hb : b.length ≤ 1000000) : Fn Tryd.prog 32 [bA b, .v (.int .i64 bit), .v (.int .i64 bs)] fun r => r = bA (flipT b bit bs) := by
  refine Fn.of tys_ok Tryd.func32 rfl rfl (Nat.le_of_ble_eq_true rfl) ?_
  conv => whnf
  refine FnO.call (twin_fno b (by omega)) rfl ?_
  rintro _ _ ⟨rfl, rfl⟩
  conv => whnf
  refine boolI (fun h0 => ?_) (fun h0 => ?_) <;> (repeat rw [Int.toNat_natCast] at h0) <;> conv => whnf
  · refine ⟨by simp [bR], ?_⟩
    conv => whnf
    have e : b = [] := List.eq_nil_of_length_eq_zero (by omega)
    subst e
    exact ⟨_, fun c u h => bR_sub [] c u h, by rw [flipT_nil]⟩
  have hn : b.length ≠ 0 := by omega
  have w8 : IntKind.i64.wrap (8 * (b.length : Int)) = 8 * b.length := wi (by omega)
  rw [w8]
  refine Fn.closed (mod_fn bit (8 * b.length) (by omega) (by omega)) rfl ?_
  rintro _ rfl
  conv => whnf
  refine Fn.closed (mod_fn bs 4294967296 (by omega) (by omega)) rfl ?_
  rintro _ rfl
  conv => whnf
  have a1 := Int.emod_lt_of_pos bit (show (0 : Int) < 8 * b.length by omega)
  have a2 := Int.emod_nonneg bit (show (8 * (b.length : Int)) ≠ 0 by omega)
  have b1 := Int.emod_lt_of_pos bs (show (0 : Int) < 4294967296 by omega)
  have b2 := Int.emod_nonneg bs (show (4294967296 : Int) ≠ 0 by omega)
  have hX : IntKind.i64.wrap ((fX bs : Nat) : Int) = (fX bs : Nat) := wi (by have := fX_lt bs; omega)
  refine aSeq.cut Unit (fun _ => ([(7, .ow 0 b.length), (8, .v (.int .i64 (bit % (8 * b.length)))), (9, .v (.int .i64 (fX bs : Nat)))], [.row 5 1 (bR b)])) (fun _ => True) ?_ ?_
  · conv => whnf
    refine And.intro (by decide) ?_
    conv => whnf
    refine boolI (fun hx => ?_) (fun hx => ?_) <;> (repeat rw [Int.toNat_natCast] at hx) <;> conv => whnf
    · rw [Int.tmod_eq_emod_of_nonneg b2] at hx
      have ex : IntKind.i64.wrap (bs % 4294967296 + 1) = (fX bs : Nat) := by
        rw [wi (by omega)]
        unfold fX
        rw [if_pos (by omega)]
        omega
      exact ⟨(), trivial, (Wk.plain (by repeat' first | exact trivial | exact rfl | refine And.intro ?_ ?_ | exact wsucc (by omega) | exact congrArg (fun n => AV.v (.int .i64 n)) ex) (by repeat' first | exact trivial | exact rfl | refine And.intro ?_ ?_ | exact wsucc (by omega) | exact congrArg (fun n => AV.v (.int .i64 n)) ex) rfl rfl rfl)⟩
    · rw [Int.tmod_eq_emod_of_nonneg b2] at hx
      have ex : bs % 4294967296 = (fX bs : Nat) := by
        unfold fX
        rw [if_neg (by omega)]
        omega
      exact ⟨(), trivial, (Wk.plain (by repeat' first | exact trivial | exact rfl | refine And.intro ?_ ?_ | exact wsucc (by omega) | exact congrArg (fun n => AV.v (.int .i64 n)) ex) (by repeat' first | exact trivial | exact rfl | refine And.intro ?_ ?_ | exact wsucc (by omega) | exact congrArg (fun n => AV.v (.int .i64 n)) ex) rfl rfl rfl)⟩
  rintro - -
  conv => whnf
  have hXl := fX_lt bs
  have hR : flipN (fun i => decide (fX bs / 2 ^ i % 2 = 1)) (bit % (8 * (b.length : Int))).toNat b 32 = flipT b bit bs := rfl
  obtain ⟨X, eX⟩ : ∃ X, X = fX bs := ⟨_, rfl⟩
  obtain ⟨A, eA⟩ : ∃ A : Nat, (A : Int) = bit % (8 * b.length) := ⟨(bit % (8 * (b.length : Int))).toNat, by omega⟩
  rw [← eX, ← eA, Int.toNat_natCast] at hR
  rw [← eX] at hXl
  rw [← eX, ← eA]
  refine aLoop.rule Nat (fun k => ([(7, .ow 0 b.length), (9, .v (.int .i64 (X / 2 ^ k : Nat))), (10, .v (.int .i64 ((A + k : Nat) : Int)))], [.row 5 1 (bR (flipN (fun i => decide (X / 2 ^ i % 2 = 1)) A b k))])) (fun k => k ≤ 32) (fun k => 32 - k) 0 (Nat.zero_le _) (Wk.plain (by repeat' first | exact trivial | exact rfl | refine And.intro ?_ ?_ | exact wsucc (by omega) | exact congrArg (fun n => AV.v (.int .i64 n)) (by rw [Nat.pow_zero, Nat.div_one])) (by repeat' first | exact trivial | exact rfl | refine And.intro ?_ ?_ | exact wsucc (by omega) | exact congrArg (fun n => AV.v (.int .i64 n)) (by rw [Nat.pow_zero, Nat.div_one])) rfl rfl rfl) ?_
  intro k hk
  have hfl := flipN_length (fun i => decide (X / 2 ^ i % 2 = 1)) A b k
  have hnx : X / 2 ^ (k + 1) = X / 2 ^ k / 2 := by rw [Nat.pow_succ, Nat.div_div_eq_div_mul]
  have hA : A < 8 * b.length := by omega
  conv => whnf
  have stop : X / 2 ^ k = 0 ∨ 8 * b.length ≤ A + k → flipN (fun i => decide (X / 2 ^ i % 2 = 1)) A b k = flipT b bit bs := fun h => by
    rw [← hR]
    refine (flipN_stop _ _ _ _ (fun j hj => ?_) 32 hk).symm
    rcases h with h | h
    · refine .inl ?_
      have : X / 2 ^ j = 0 := by
        obtain ⟨d, rfl⟩ := Nat.exists_eq_add_of_le hj
        rw [Nat.pow_add, ← Nat.div_div_eq_div_mul, h, Nat.zero_div]
      simp [this]
    · exact .inr (by omega)
  refine boolI (fun h1 => ?_) (fun h1 => ?_) <;> (repeat rw [Int.toNat_natCast] at h1) <;> conv => whnf
  · rw [w8]
    refine boolI (fun h2 => ?_) (fun h2 => ?_) <;> (repeat rw [Int.toNat_natCast] at h2) <;> conv => whnf
    · have hk32 : k < 32 := by
        rcases Nat.lt_or_ge k 32 with h | h
        · exact h
        · have : X / 2 ^ k = 0 := Nat.div_eq_of_lt (Nat.lt_of_lt_of_le hXl (Nat.pow_le_pow_right (n := 2) (by omega) h))
          omega
      have e1 : IntKind.i64.wrap (((X / 2 ^ k : Nat) : Int).tdiv 2) = ((X / 2 ^ (k + 1) : Nat) : Int) := by
        rw [Int.tdiv_eq_ediv_of_nonneg (by omega), hnx]
        have := Nat.div_le_self X (2 ^ k)
        rw [wi (by omega)]
        omega
      have e2 : IntKind.i64.wrap (((A + k : Nat) : Int) + 1) = ((A + (k + 1) : Nat) : Int) := by
        rw [wi (by omega)]; omega
      refine aSeq.go ?_
      conv => whnf
      refine aSeq.cut Unit (fun _ => ([(7, .ow 0 b.length), (9, .v (.int .i64 (X / 2 ^ k : Nat))), (10, .v (.int .i64 ((A + k : Nat) : Int)))], [.row 5 1 (bR (flipN (fun i => decide (X / 2 ^ i % 2 = 1)) A b (k + 1)))])) (fun _ => True) ?_ ?_
      · conv => whnf
        refine And.intro (by decide) ?_
        conv => whnf
        have hq : (A + k) / 8 < b.length := by omega
        have hz : (2 : Nat) ^ ((A + k) % 8) < 256 := by
          have := Nat.pow_lt_pow_right (a := 2) (by omega) (show (A + k) % 8 < 8 by omega)
          omega
        refine boolI (fun h3 => ?_) (fun h3 => ?_) <;> (repeat rw [Int.toNat_natCast] at h3) <;> conv => whnf
        · rw [Int.tmod_eq_emod_of_nonneg (by omega)] at h3
          have hE : flipN (fun i => decide (X / 2 ^ i % 2 = 1)) A b (k + 1) = flipB (flipN (fun i => decide (X / 2 ^ i % 2 = 1)) A b k) (A + k) := by
            rw [flipN, if_pos]
            simp only [Bool.and_eq_true, decide_eq_true_eq]
            omega
          have eq : IntKind.i64.wrap (((A + k : Nat) : Int).tdiv 8) = (((A + k) / 8 : Nat) : Int) := by
            rw [Int.tdiv_eq_ediv_of_nonneg (by omega), wi (by omega)]
            omega
          have er : IntKind.u64.wrap (((A + k : Nat) : Int).tmod 8) = (((A + k) % 8 : Nat) : Int) := by
            rw [Int.tmod_eq_emod_of_nonneg (by omega), IntKind.wrap_u64]
            omega
          have es : IntKind.u8.wrap (1 * 2 ^ min ((((A + k) % 8 : Nat) : Int).toNat) IntKind.u8.bits) = ((2 ^ ((A + k) % 8) : Nat) : Int) := by
            rw [Int.toNat_natCast, show min ((A + k) % 8) IntKind.u8.bits = (A + k) % 8 from Nat.min_eq_left (by show _ ≤ 8; omega), Int.one_mul, IntKind.wrap_u8]
            have : ((2 ^ ((A + k) % 8) : Nat) : Int) = (2 : Int) ^ ((A + k) % 8) := by simp
            rw [← this]
            generalize 2 ^ ((A + k) % 8) = z at hz ⊢
            omega
          refine And.intro (by decide) ?_
          conv => whnf
          refine And.intro (by decide) ?_
          conv => whnf
          rw [eq]
          refine And.intro ⟨by omega, by omega⟩ ?_
          conv => whnf
          refine And.intro ⟨rfl, by simp [bR, hfl], by omega⟩ ?_
          conv => whnf
          rw [Int.toNat_natCast, bR_get (by rw [hfl]; omega)]
          conv => whnf
          refine And.intro (by decide) ?_
          conv => whnf
          rw [er]
          refine And.intro (by omega) ?_
          conv => whnf
          refine And.intro ⟨by omega, by omega⟩ ?_
          conv => whnf
          rw [es]
          refine And.intro ⟨rfl, by simp [bR, hfl], by omega⟩ ?_
          conv => whnf
          rw [Int.toNat_natCast, bR_get (by rw [hfl]; omega)]
          conv => whnf
          have ex := u8_xor ((flipN (fun i => decide (X / 2 ^ i % 2 = 1)) A b k).getD ((A + k) / 8) 0) (2 ^ ((A + k) % 8)) hz
          rw [ex, bR_set, ← flipB_set _ _ (by rw [hfl]; omega), ← hE]
          exact ⟨(), trivial, (Wk.plain (by repeat' first | exact trivial | exact rfl | refine And.intro ?_ ?_ | exact wsucc (by omega)) (by repeat' first | exact trivial | exact rfl | refine And.intro ?_ ?_ | exact wsucc (by omega)) rfl rfl rfl)⟩
        · rw [Int.tmod_eq_emod_of_nonneg (by omega)] at h3
          have hE : flipN (fun i => decide (X / 2 ^ i % 2 = 1)) A b (k + 1) = flipN (fun i => decide (X / 2 ^ i % 2 = 1)) A b k := by
            rw [flipN, if_neg]
            simp only [Bool.and_eq_true, decide_eq_true_eq]
            intro hh
            apply h3
            have := hh.1
            omega
          exact ⟨(), trivial, (Wk.plain (by repeat' first | exact trivial | exact rfl | refine And.intro ?_ ?_ | exact wsucc (by omega) | exact congrArg (fun l => AB.row _ _ (bR l)) hE) (by repeat' first | exact trivial | exact rfl | refine And.intro ?_ ?_ | exact wsucc (by omega) | exact congrArg (fun l => AB.row _ _ (bR l)) hE) rfl rfl rfl)⟩
      · rintro - -
        conv => whnf
        refine And.intro (by decide) ?_
        conv => whnf
        exact ⟨k + 1, by omega, by omega, (Wk.plain (by repeat' first | exact trivial | exact rfl | refine And.intro ?_ ?_ | exact wsucc (by omega) | exact congrArg (fun n => AV.v (.int .i64 n)) e1 | exact congrArg (fun n => AV.v (.int .i64 n)) e2) (by repeat' first | exact trivial | exact rfl | refine And.intro ?_ ?_ | exact wsucc (by omega) | exact congrArg (fun n => AV.v (.int .i64 n)) e1 | exact congrArg (fun n => AV.v (.int .i64 n)) e2) rfl rfl rfl)⟩
    · refine ⟨by simp [bR, hfl], ?_⟩
      conv => whnf
      rw [stop (.inr (by omega))]
      exact ⟨_, fun c u h => bR_sub' (by rw [flipT_length]) c u h, rfl⟩
  · refine ⟨by simp [bR, hfl], ?_⟩
    conv => whnf
    rw [stop (.inl (Nat.eq_zero_of_le_zero (Int.ofNat_le.1 h1)))]
    exact ⟨_, fun c u h => bR_sub' (by rw [flipT_length]) c u h, rfl⟩
end Go.Proofs.YteecmgonbdbhdaaDoor.A
end

/-
The law PairLeft.
-/
section
namespace Go.Proofs.YteecmgonbdbhdaaDoor.A
open Go.RowKit

theorem imgOk_short {g : Geo} {x : Img} (h : imgOk g x = true) : x.bytes.length ≤ 100 := by
  obtain ⟨h1, -, h3⟩ := imgOk_parts h
  obtain ⟨-, hd, -⟩ := okG_iff.1 h1
  rcases h3 with ⟨-, l, hl⟩ | ⟨-, -, h8⟩
  · have := readT_len hl
    omega
  · omega
end Go.Proofs.YteecmgonbdbhdaaDoor.A
end

/-
A right log's records are right ones.
-/
section
namespace Go.Proofs.YteecmgonbdbhdaaDoor.A
open Go.RowKit

theorem ents0 : ∀ n, n < 6 → entsOf n (tblB (List.replicate n ent0)) = List.replicate n ent0 := by decide +kernel
theorem readT_tab0 {g : Geo} (hg : okG g = true) : readT g (tblB (tab0 g)) = some (tab0 g) := by
  obtain ⟨h1, h2, h3, h4, h5⟩ := okG_iff.1 hg
  have e := ents0 (g.d + 1).toNat (by omega)
  unfold readT tab0
  rw [e, if_pos]
  refine ⟨?_, rfl⟩
  unfold okT
  simp only [Bool.and_eq_true, decide_eq_true_eq, List.length_replicate, Bool.not_eq_true']
  refine ⟨⟨⟨hg, by omega⟩, ?_⟩, ?_⟩
  · rw [List.all_eq_true]
    intro x hx
    rw [List.eq_of_mem_replicate hx]
    decide +kernel
  · unfold lostAt
    rw [List.getElem?_replicate_of_lt (by omega)]
    rfl
theorem logImg_ok {g : Geo} (hg : okG g = true) (fill : UInt8) (i k : Nat) : imgOk g (logImg g fill i k) = true := by
  obtain ⟨h1, h2, h3, h4, h5⟩ := okG_iff.1 hg
  have z1 := Int.tmod_nonneg g.z (show 0 ≤ ((i + k : Nat) : Int) by omega)
  have z2 := Int.tmod_lt_of_pos ((i + k : Nat) : Int) (show 0 < g.z by omega)
  have d1 := Int.tmod_nonneg (g.d + 1) (show 0 ≤ ((i + 2 * k : Nat) : Int) by omega)
  have d2 := Int.tmod_lt_of_pos ((i + 2 * k : Nat) : Int) (show 0 < g.d + 1 by omega)
  unfold imgOk logImg
  split
  · simp only [hg, inB_iff.2 (show 0 ≤ ((i + k : Nat) : Int).tmod g.z ∧ ((i + k : Nat) : Int).tmod g.z ≤ g.z - 1 by omega), readT_tab0 hg]
    rfl
  · simp only [hg, inB_iff.2 (show 0 ≤ ((i + k : Nat) : Int).tmod g.z ∧ ((i + k : Nat) : Int).tmod g.z ≤ g.z - 1 by omega), Bool.true_and]
    rw [if_neg (by omega), inB_iff.2 (show -1 ≤ ((i + 2 * k : Nat) : Int).tmod (g.d + 1) - 1 ∧ ((i + 2 * k : Nat) : Int).tmod (g.d + 1) - 1 ≤ g.d - 1 by omega)]
    rfl
/-- What is in a log: right transactions, numbered. -/
structure TxIn (g : Geo) (a : An) (fill : UInt8) (i0 : Nat) (l : List Tx) : Prop where
  at_ : ∀ j, j < l.length → ∃ pos n, l.getD j tz = logTx g a fill (i0 + j) pos n ∧ 1 ≤ n ∧ n ≤ 5 ∧ 0 ≤ pos ∧ pos < g.sl
theorem logM_in {g : Geo} {a : An} {fill : UInt8} (hg : okG g = true) : ∀ (sizes : List Int) (i : Nat) (pos used : Int), 0 ≤ pos ∧ pos < g.sl → TxIn g a fill i (logM g a fill sizes i pos used)
  | [], _, _, _, _ => ⟨fun j hj => by simp [logM] at hj⟩
  | s :: r, i, pos, used, hp => by
    obtain ⟨h1, h2, h3, h4, h5⟩ := okG_iff.1 hg
    have hn := nImg_in s
    have hm := Int.tmod_lt_of_pos (pos + (nImg s : Nat) + 1) (show 0 < g.sl by omega)
    have hm0 := Int.tmod_nonneg g.sl (show 0 ≤ pos + (nImg s : Nat) + 1 by omega)
    unfold logM
    split
    · exact ⟨fun j hj => by simp at hj⟩
    · refine ⟨fun j hj => ?_⟩
      cases j with
      | zero => exact ⟨pos, nImg s, rfl, hn.1, hn.2, hp⟩
      | succ j =>
        obtain ⟨p, n, e, q⟩ := (logM_in hg r (i + 1) _ (used + (nImg s : Nat) + 1) ⟨hm0, hm⟩).at_ j (by simpa using hj)
        refine ⟨p, n, ?_, q⟩
        rw [show i + (j + 1) = i + 1 + j by omega, ← e]
        rfl
theorem logM_len {g : Geo} {a : An} {fill : UInt8} : ∀ (sizes : List Int) (i : Nat) (pos used : Int), used ≤ g.sl → 2 * ((logM g a fill sizes i pos used).length : Int) ≤ g.sl - used
  | [], _, _, _, h => by simp [logM]; omega
  | s :: r, i, pos, used, h => by
    have hn := nImg_in s
    unfold logM
    split
    · simp; omega
    · have := logM_len (g := g) (a := a) (fill := fill) r (i + 1) ((pos + (nImg s : Nat) + 1).tmod g.sl) (used + (nImg s : Nat) + 1) (by omega)
      simp only [List.length_cons]
      omega
theorem whoM_some {g : Geo} {s : Int} : ∀ {l : List Tx} {i j : Nat} {k : Int}, whoM g s l i = some (j, k) → i ≤ j ∧ j < i + l.length ∧ whoOk g (l.getD (j - i) tz) s = true ∧ k = whoK g (l.getD (j - i) tz) s
  | [], i, j, k, h => by cases h
  | t :: r, i, j, k, h => by
    unfold whoM at h
    split at h
    · injection h with h
      injection h with e1 e2
      subst e1
      subst e2
      refine ⟨Nat.le_refl _, by simp, ?_, ?_⟩ <;> rw [Nat.sub_self] <;> first | assumption | rfl
    · obtain ⟨q1, q2, q3, q4⟩ := whoM_some h
      refine ⟨by omega, by simp only [List.length_cons]; omega, ?_, ?_⟩
      · rw [show j - i = (j - (i + 1)) + 1 by omega]; exact q3
      · rw [show j - i = (j - (i + 1)) + 1 by omega]; exact q4
theorem logTx_imgs {g : Geo} {a : An} {fill : UInt8} {i n : Nat} {pos : Int} (hg : okG g = true) : (logTx g a fill i pos n).images.length = n ∧ ∀ x ∈ (logTx g a fill i pos n).images, imgOk g x = true := by
  refine ⟨by simp [logTx], fun x hx => ?_⟩
  obtain ⟨k, -, rfl⟩ := List.mem_map.1 hx
  exact logImg_ok hg fill i k
theorem okR_zero {g : Geo} (hg : okG g = true) : okR g zeroC = true := by
  simp [okR, hg, behOk, zeroC, noneB]
/-- A right log, written with any right epoch. -/
theorem logM_ok {g : Geo} {a : An} {fill : UInt8} {sizes : List Int} {epoch : Int} (hg : okG g = true) (ha : anOk g a = true) (hs : a.seq ≤ 1000000) (he : 0 ≤ epoch ∧ epoch ≤ 4294967295) : LogOk g (logM g a fill sizes 0 a.pos 0) epoch := by
  obtain ⟨h1, h2, h3, h4, h5⟩ := okG_iff.1 hg
  have hq := anOk_seq ha
  have hin := logM_in (a := a) (fill := fill) hg sizes 0 a.pos 0 hq.2
  have hlen := logM_len (g := g) (a := a) (fill := fill) sizes 0 a.pos 0 (by omega)
  generalize logM g a fill sizes 0 a.pos 0 = l at hin hlen
  have hwho : ∀ s i k, 0 ≤ s ∧ s < g.sl → whoM g s l 0 = some (i, k) → i < l.length ∧ 0 ≤ k ∧ ∃ pos n, l.getD i tz = logTx g a fill i pos n ∧ 1 ≤ n ∧ n ≤ 5 ∧ k.toNat < n + 1 := fun s i k hsl hw => by
    obtain ⟨q1, q2, q3, q4⟩ := whoM_some hw
    rw [Nat.sub_zero] at q3 q4
    obtain ⟨pos, n, e, n1, n2, p1, p2⟩ := hin.at_ i (by omega)
    rw [Nat.zero_add] at e
    unfold whoOk at q3
    simp only [Bool.and_eq_true, decide_eq_true_eq] at q3
    rw [← q4, e] at q3
    have k0 : 0 ≤ k := by
      rw [q4, e, whoK]
      refine Int.tmod_nonneg _ ?_
      rw [IntKind.wrap_i64, IntKind.wrap_i64]
      simp only [logTx]
      omega
    refine ⟨by omega, k0, pos, n, e, n1, n2, ?_⟩
    have := q3.2
    simp only [logTx] at this
    omega
  refine ⟨by omega, fun t ht => ?_, fun s i k hsl hw => ?_, fun s hsl => ?_⟩
  · obtain ⟨j, hj, rfl⟩ := List.mem_iff_getElem.1 ht
    obtain ⟨pos, n, e, n1, n2, -⟩ := hin.at_ j hj
    rw [List.getD_eq_getElem?_getD, List.getElem?_eq_getElem hj] at e
    simp only [Option.getD_some] at e
    rw [e]
    obtain ⟨i1, i2⟩ := logTx_imgs (a := a) (fill := fill) (i := 0 + j) (n := n) (pos := pos) hg
    exact ⟨by omega, fun x hx => by have := imgOk_short (i2 x hx); omega⟩
  · obtain ⟨q1, q2, pos, n, e, n1, n2, q3⟩ := hwho s i k hsl hw
    rw [e, (logTx_imgs (a := a) (fill := fill) (i := i) (n := n) (pos := pos) hg).1]
    exact ⟨q1, q2, q3⟩
  · unfold recW
    cases hw : whoM g s l 0 with
    | none => exact okR_zero hg
    | some q =>
      obtain ⟨i, k⟩ := q
      obtain ⟨q1, q2, pos, n, e, n1, n2, q3⟩ := hwho s i k hsl hw
      simp only
      rw [e]
      obtain ⟨i1, i2⟩ := logTx_imgs (a := a) (fill := fill) (i := i) (n := n) (pos := pos) hg
      exact (recs_at (seq := (logTx g a fill i pos n).seq) (epoch := epoch) (l := (logTx g a fill i pos n).images) (k := k.toNat) hg (by simp only [logTx]; omega) he i2 (by omega) (by omega) (by omega)).ok
end Go.Proofs.YteecmgonbdbhdaaDoor.A
end

/-
Whose a slot of a right log is: by how far it lies behind the log's place.
-/
section
namespace Go.Proofs.YteecmgonbdbhdaaDoor.A
open Go.RowKit

theorem tmod_lo {x n : Int} (h0 : 0 ≤ x) (h1 : x < n) : x.tmod n = x := Int.tmod_eq_of_lt h0 h1
theorem tmod_hi {x n : Int} (h0 : n ≤ x) (h1 : x < 2 * n) (hn : 0 < n) : x.tmod n = x - n := by
  rw [Int.tmod_eq_emod_of_nonneg (by omega), ← Int.sub_emod_right x n]
  exact Int.emod_eq_of_lt (by omega) (by omega)
/-- Which transaction's so far behind, and which of its records. -/
def findU : List Tx → Int → Nat → Int → Option (Nat × Int)
  | [], _, _, _ => none
  | t :: r, used, i, u => if used ≤ u ∧ u < used + t.n then some (i, u - used) else findU r (used + t.n) (i + 1) u
theorem whoK_far {g : Geo} {t : Tx} {p0 u used : Int} (hg : okG g = true) (hp : 0 ≤ p0 ∧ p0 < g.sl) (hu : 0 ≤ u ∧ u < g.sl) (hd : 0 ≤ used ∧ used < g.sl) (ht : t.pos = (p0 + used).tmod g.sl) :
    whoK g t ((p0 + u).tmod g.sl) = if used ≤ u then u - used else u - used + g.sl := by
  obtain ⟨h1, h2, h3, h4, h5⟩ := okG_iff.1 hg
  have hs : (p0 + u).tmod g.sl = if p0 + u < g.sl then p0 + u else p0 + u - g.sl := by
    split
    · exact tmod_lo (by omega) (by omega)
    · exact tmod_hi (by omega) (by omega) (by omega)
  have hq : (p0 + used).tmod g.sl = if p0 + used < g.sl then p0 + used else p0 + used - g.sl := by
    split
    · exact tmod_lo (by omega) (by omega)
    · exact tmod_hi (by omega) (by omega) (by omega)
  unfold whoK
  rw [ht, hs, hq]
  have hw : IntKind.i64.wrap (IntKind.i64.wrap ((if p0 + u < g.sl then p0 + u else p0 + u - g.sl) - (if p0 + used < g.sl then p0 + used else p0 + used - g.sl)) + g.sl) = (if p0 + u < g.sl then p0 + u else p0 + u - g.sl) - (if p0 + used < g.sl then p0 + used else p0 + used - g.sl) + g.sl := by
    rw [IntKind.wrap_i64, IntKind.wrap_i64]
    split <;> split <;> omega
  rw [hw]
  split <;> split <;> split
  all_goals first
    | (rw [tmod_lo (by omega) (by omega)]; omega)
    | (rw [tmod_hi (by omega) (by omega) (by omega)]; omega)
    | (exfalso; omega)
theorem who_log {g : Geo} {a : An} {fill : UInt8} (hg : okG g = true) {p0 : Int} (hp : 0 ≤ p0 ∧ p0 < g.sl) {u : Int} (hu : 0 ≤ u ∧ u < g.sl) : ∀ (sizes : List Int) (i j : Nat) (used : Int), 0 ≤ used ∧ used ≤ g.sl → whoM g ((p0 + u).tmod g.sl) (logM g a fill sizes i ((p0 + used).tmod g.sl) used) j = findU (logM g a fill sizes i ((p0 + used).tmod g.sl) used) used j u
  | [], i, j, used, hd => rfl
  | s :: r, i, j, used, hd => by
    obtain ⟨h1, h2, h3, h4, h5⟩ := okG_iff.1 hg
    have hn := nImg_in s
    have ep : ((p0 + used).tmod g.sl + (nImg s : Nat) + 1).tmod g.sl = (p0 + (used + (nImg s : Nat) + 1)).tmod g.sl := by
      rw [Int.tmod_eq_emod_of_nonneg (show 0 ≤ p0 + used by omega)]
      have q := Int.emod_nonneg (p0 + used) (show g.sl ≠ 0 by omega)
      rw [Int.tmod_eq_emod_of_nonneg (by omega), Int.tmod_eq_emod_of_nonneg (by omega), Int.add_assoc, Int.emod_add_emod, show p0 + used + ((nImg s : Nat) + 1) = p0 + (used + (nImg s : Nat) + 1) by omega]
    unfold logM
    split
    · rfl
    · rename_i hc
      have hk := whoK_far (t := logTx g a fill i ((p0 + used).tmod g.sl) (nImg s)) hg hp hu (used := used) (by omega) rfl
      have ip : inB ((p0 + used).tmod g.sl) 0 (g.sl - 1) = true := by
        have q1 := Int.tmod_nonneg g.sl (show 0 ≤ p0 + used by omega)
        have q2 := Int.tmod_lt_of_pos (p0 + used) (show 0 < g.sl by omega)
        exact inB_iff.2 (by omega)
      have inn : inB ((nImg s : Nat) + 1) 0 g.sl = true := inB_iff.2 (by omega)
      have ih := who_log (a := a) (fill := fill) hg hp hu r (i + 1) (j + 1) (used + (nImg s : Nat) + 1) (by omega)
      rw [← ep] at ih
      unfold whoM findU
      have ok : whoOk g (logTx g a fill i ((p0 + used).tmod g.sl) (nImg s)) ((p0 + u).tmod g.sl) = decide (used ≤ u ∧ u < used + ((nImg s : Nat) + 1)) := by
        unfold whoOk
        rw [hk]
        simp only [logTx, ip, inn, Bool.true_and]
        by_cases h : used ≤ u
        · rw [if_pos h]
          exact decide_eq_decide.2 (by omega)
        · rw [if_neg h]
          exact decide_eq_decide.2 (by omega)
      rw [ok, hk]
      by_cases h : used ≤ u ∧ u < used + ((nImg s : Nat) + 1)
      · rw [if_pos (decide_eq_true h), if_pos h.1]
        rw [if_pos (show used ≤ u ∧ u < used + (logTx g a fill i ((p0 + used).tmod g.sl) (nImg s)).n from h)]
      · rw [if_neg (by rw [decide_eq_true_eq]; exact h)]
        rw [if_neg (show ¬ (used ≤ u ∧ u < used + (logTx g a fill i ((p0 + used).tmod g.sl) (nImg s)).n) from h)]
        rw [ih]
        simp only [logTx, Int.add_assoc]
end Go.Proofs.YteecmgonbdbhdaaDoor.A
end

/-
A transaction that the copies say is found.
-/
section
namespace Go.Proofs.YteecmgonbdbhdaaDoor.A
open Go.RowKit

def wsG (look : Int → Rc × Int × List Wr) : Nat → Int → List Wr → List Wr
  | 0, _, w => w
  | f + 1, k, w => wsG look f (k + 1) (w ++ (look k).2.2)
theorem gather_found {look : Int → Rc × Int × List Wr} {R : Nat → Rc} {imgs : List Img} (h1 : ∀ j, j < imgs.length → (R j).kind = 1 ∧ (R j).img = imgs.getD j ⟨0, 0, []⟩) (h2 : (R imgs.length).kind ≠ 1) (hl : ∀ j : Nat, 1 ≤ j → j ≤ imgs.length → (look (j : Nat)).1 = R j ∧ (look (j : Nat)).2.1 = 1) :
    ∀ (f j : Nat) (w : List Wr), f + j = imgs.length → gatherM look f ((j : Nat) + 1) (R j) (imgs.take j) w = (1, imgs, wsG look f ((j : Nat) + 1) w)
  | 0, j, w, h => by
    have e : j = imgs.length := by omega
    subst e
    simp only [gatherM, if_neg h2, List.take_length, wsG]
  | f + 1, j, w, h => by
    obtain ⟨k1, k2⟩ := h1 j (by omega)
    obtain ⟨q1, q2⟩ := hl (j + 1) (by omega) (by omega)
    have ej : (((j + 1 : Nat)) : Int) = (j : Int) + 1 := by omega
    rw [ej] at q1 q2
    have ih := gather_found h1 h2 hl f (j + 1) (w ++ (look ((j : Int) + 1)).2.2) (by omega)
    rw [ej] at ih
    unfold gatherM wsG
    simp only [if_pos k1, q2]
    rw [if_neg (by decide), q1, k2, show imgs.take j ++ [imgs.getD j ⟨0, 0, []⟩] = imgs.take (j + 1) by rw [List.take_succ_eq_append_getElem (by omega), List.getD_eq_getElem?_getD, List.getElem?_eq_getElem (by omega)]; rfl]
    exact ih
end Go.Proofs.YteecmgonbdbhdaaDoor.A
end

/-
The law ScanRight.
-/
section
namespace Go.Proofs.YteecmgonbdbhdaaDoor.A
open Go.RowKit

def usedM : List Tx → Int
  | [] => 0
  | t :: r => t.n + usedM r
def posM (g : Geo) : List Tx → Int → Int
  | [], pos => pos
  | t :: r, pos => posM g r ((pos + t.n).tmod g.sl)
end Go.Proofs.YteecmgonbdbhdaaDoor.A
end

/-
A log whose every record some copy says is gone through to its end.
-/
section
namespace Go.Proofs.YteecmgonbdbhdaaDoor.A
open Go.RowKit

end Go.Proofs.YteecmgonbdbhdaaDoor.A
end

/-
What a written log says at a transaction's slots.
-/
section
namespace Go.Proofs.YteecmgonbdbhdaaDoor.A
open Go.RowKit

theorem logTx_n (g : Geo) (a : An) (fill : UInt8) (i : Nat) (pos : Int) (n : Nat) : (logTx g a fill i pos n).n = (n : Int) + 1 := rfl
theorem logM_at {g : Geo} {a : An} {fill : UInt8} {p0 : Int} (hg : okG g = true) (hp : 0 ≤ p0) : ∀ (sizes : List Int) (i i0 : Nat) (used : Int), 0 ≤ used → ∀ j, j < (logM g a fill sizes i ((p0 + used).tmod g.sl) used).length →
    ∃ o : Int, used ≤ o ∧ o + ((logM g a fill sizes i ((p0 + used).tmod g.sl) used).getD j tz).n ≤ g.sl ∧ ((logM g a fill sizes i ((p0 + used).tmod g.sl) used).getD j tz).pos = (p0 + o).tmod g.sl ∧
      ∀ k : Nat, (k : Int) < ((logM g a fill sizes i ((p0 + used).tmod g.sl) used).getD j tz).n → findU (logM g a fill sizes i ((p0 + used).tmod g.sl) used) used i0 (o + k) = some (i0 + j, ((k : Nat) : Int))
  | [], i, i0, used, hu, j, hj => by simp [logM] at hj
  | s :: r, i, i0, used, hu, j, hj => by
    obtain ⟨h1, h2, h3, h4, h5⟩ := okG_iff.1 hg
    have hn := nImg_in s
    have ep : ((p0 + used).tmod g.sl + (nImg s : Nat) + 1).tmod g.sl = (p0 + (used + (nImg s : Nat) + 1)).tmod g.sl := by
      rw [Int.tmod_eq_emod_of_nonneg (show 0 ≤ p0 + used by omega)]
      have q := Int.emod_nonneg (p0 + used) (show g.sl ≠ 0 by omega)
      rw [Int.tmod_eq_emod_of_nonneg (by omega), Int.tmod_eq_emod_of_nonneg (by omega), Int.add_assoc, Int.emod_add_emod, show p0 + used + ((nImg s : Nat) + 1) = p0 + (used + (nImg s : Nat) + 1) by omega]
    unfold logM at hj ⊢
    split at hj
    · simp at hj
    · rename_i hc
      rw [if_neg hc]
      cases j with
      | zero =>
        refine ⟨used, Int.le_refl _, show used + ((nImg s : Nat) + 1 : Int) ≤ g.sl by omega, rfl, fun k hk => ?_⟩
        have hk : (k : Int) < (nImg s : Nat) + 1 := hk
        unfold findU
        rw [logTx_n, if_pos (show used ≤ used + (k : Int) ∧ used + (k : Int) < used + ((nImg s : Nat) + 1 : Int) by omega)]
        simp only [Nat.add_zero]
        rw [show used + (k : Int) - used = (k : Int) by omega]
      | succ j =>
        rw [ep] at hj ⊢
        obtain ⟨o, o1, o2, o3, o4⟩ := logM_at (a := a) (fill := fill) hg hp r (i + 1) (i0 + 1) (used + (nImg s : Nat) + 1) (by omega) j (by simpa using hj)
        refine ⟨o, by omega, o2, o3, fun k hk => ?_⟩
        unfold findU
        rw [logTx_n, if_neg (show ¬ (used ≤ o + (k : Int) ∧ o + (k : Int) < used + ((nImg s : Nat) + 1 : Int)) by omega)]
        have := o4 k hk
        rw [show i0 + 1 + j = i0 + (j + 1) by omega] at this
        rw [← this, Int.add_assoc]
end Go.Proofs.YteecmgonbdbhdaaDoor.A
end

/-
What a written log says at each of its records' slots.
-/
section
namespace Go.Proofs.YteecmgonbdbhdaaDoor.A
open Go.RowKit

theorem recW_at {g : Geo} {a : An} {fill : UInt8} {sizes : List Int} {ep : Int} (hg : okG g = true) (ha : anOk g a = true) {j k : Nat} (hj : j < (logM g a fill sizes 0 a.pos 0).length) (hk : k < ((logM g a fill sizes 0 a.pos 0).getD j tz).images.length + 1) :
    (0 ≤ slotM g ((logM g a fill sizes 0 a.pos 0).getD j tz).pos k ∧ slotM g ((logM g a fill sizes 0 a.pos 0).getD j tz).pos k < g.sl) ∧
    recW g (logM g a fill sizes 0 a.pos 0) ep (slotM g ((logM g a fill sizes 0 a.pos 0).getD j tz).pos k) = (recsOf ((logM g a fill sizes 0 a.pos 0).getD j tz).seq ep ((logM g a fill sizes 0 a.pos 0).getD j tz).images).getD k rc0 := by
  obtain ⟨h1, h2, h3, h4, h5⟩ := okG_iff.1 hg
  have hq := anOk_seq ha
  have e0 : (a.pos + 0).tmod g.sl = a.pos := by rw [Int.add_zero]; exact tmod_lo hq.2.1 hq.2.2
  have hin := logM_in (a := a) (fill := fill) hg sizes 0 a.pos 0 hq.2
  obtain ⟨pos, n, e, n1, n2, p1, p2⟩ := hin.at_ j hj
  obtain ⟨o, o1, o2, o3, o4⟩ := logM_at (a := a) (fill := fill) (p0 := a.pos) hg hq.2.1 sizes 0 0 0 (Int.le_refl 0) j (by rw [e0]; exact hj)
  rw [e0] at o2 o3 o4
  have hN : ((logM g a fill sizes 0 a.pos 0).getD j tz).n = n + 1 := by rw [e]; rfl
  have hI : ((logM g a fill sizes 0 a.pos 0).getD j tz).images.length = n := by rw [e]; simp [logTx]
  have hs : slotM g ((logM g a fill sizes 0 a.pos 0).getD j tz).pos k = (a.pos + (o + k)).tmod g.sl := by
    unfold slotM
    have q1 := Int.tmod_nonneg g.sl (show 0 ≤ a.pos + o by omega)
    have q2 := Int.tmod_lt_of_pos (a.pos + o) (show 0 < g.sl by omega)
    rw [o3, show IntKind.i64.wrap ((a.pos + o).tmod g.sl + (k : Int)) = (a.pos + o).tmod g.sl + k by rw [IntKind.wrap_i64]; omega]
    rw [Int.tmod_eq_emod_of_nonneg (show 0 ≤ a.pos + o by omega)] at q1 ⊢
    rw [Int.tmod_eq_emod_of_nonneg (by omega), Int.tmod_eq_emod_of_nonneg (by omega), Int.emod_add_emod, Int.add_assoc]
  have hw := who_log (a := a) (fill := fill) hg (p0 := a.pos) hq.2 (u := o + k) (by omega) sizes 0 0 0 ⟨Int.le_refl 0, by omega⟩
  rw [e0, o4 k (by omega)] at hw
  refine ⟨slotM_in hg (by rw [e]; exact ⟨p1, p2⟩) (by omega), ?_⟩
  rw [hs]
  unfold recW
  rw [hw]
  simp only [Nat.zero_add, Int.toNat_natCast]
  rfl
end Go.Proofs.YteecmgonbdbhdaaDoor.A
end

/-
A written log, with one copy of each slot at least, is found wholly.
-/
section
namespace Go.Proofs.YteecmgonbdbhdaaDoor.A
open Go.RowKit

theorem posM_used {g : Geo} (hg : okG g = true) : ∀ (l : List Tx) (x : Int), 0 ≤ x → (∀ t ∈ l, 0 ≤ t.n) → posM g l (x.tmod g.sl) = (x + usedM l).tmod g.sl
  | [], x, hx, _ => by simp [posM, usedM]
  | t :: r, x, hx, h => by
    obtain ⟨h1, h2, h3, h4, h5⟩ := okG_iff.1 hg
    have ht := h t (by simp)
    have ih := posM_used hg r (x + t.n) (by omega) (fun t ht => h t (List.mem_cons_of_mem _ ht))
    have e : (x.tmod g.sl + t.n).tmod g.sl = (x + t.n).tmod g.sl := by
      rw [Int.tmod_eq_emod_of_nonneg hx]
      have q := Int.emod_nonneg x (show g.sl ≠ 0 by omega)
      rw [Int.tmod_eq_emod_of_nonneg (by omega), Int.tmod_eq_emod_of_nonneg (by omega), Int.emod_add_emod]
    simp only [posM, usedM]
    rw [e, ih, Int.add_assoc]
theorem findU_none : ∀ (l : List Tx) (used : Int) (i : Nat) (u : Int), (∀ t ∈ l, 0 ≤ t.n) → used + usedM l ≤ u → findU l used i u = none
  | [], _, _, _, _, _ => rfl
  | t :: r, used, i, u, h, hu => by
    have ht := h t (by simp)
    simp only [usedM] at hu
    have hr : 0 ≤ usedM r := by
      have : ∀ l : List Tx, (∀ t ∈ l, 0 ≤ t.n) → 0 ≤ usedM l := by
        intro l
        induction l with
        | nil => intro _; simp [usedM]
        | cons x y ih => intro h; have := ih (fun t ht => h t (List.mem_cons_of_mem _ ht)); have := h x (by simp); simp only [usedM]; omega
      exact this r fun t ht => h t (List.mem_cons_of_mem _ ht)
    unfold findU
    rw [if_neg (by omega)]
    exact findU_none r (used + t.n) (i + 1) u (fun t ht => h t (List.mem_cons_of_mem _ ht)) (by omega)
end Go.Proofs.YteecmgonbdbhdaaDoor.A
end

/-
The beginning of a log.
-/
section
namespace Go.Proofs.YteecmgonbdbhdaaDoor.A
open Go.RowKit

end Go.Proofs.YteecmgonbdbhdaaDoor.A
end

/-
A written log gone through: what is found and what is to be written, whichever copies miss records.
-/
section
namespace Go.Proofs.YteecmgonbdbhdaaDoor.A
open Go.RowKit

/-- A copy says a record, or nothing that might be taken for it. -/
def SaysB (a : An) (x : Option Rc) (b : Bool) (r : Rc) (seq at_ : Int) : Prop := if b = true then x = some r else ∀ of_ left, oneO x a seq at_ of_ left = false
def wantsB (b0 b1 : Bool) : List Int := if b0 then (if b1 then [] else [1]) else [0]
theorem lookP_B {a : An} {p q : Int → Option Rc} {slot seq at_ of_ left : Int} {r : Rc} {b0 b1 : Bool} (hp : SaysB a (p slot) b0 r seq at_) (hq : SaysB a (q slot) b1 r seq at_) (h : (b0 || b1) = true) (h1 : isOne r a seq at_ of_ left = true) : lookP a p q slot seq at_ of_ left = (r, wantsB b0 b1, 1) := by
  unfold SaysB at hp hq
  unfold lookP
  cases b0 <;> cases b1
  · cases h
  · rw [if_neg (by decide)] at hp
    rw [if_pos rfl] at hq
    rw [hp, hq]; simp [oneO, h1, lookT, wantsB]
  · rw [if_pos rfl] at hp
    rw [if_neg (by decide)] at hq
    rw [hq, hp]; simp [oneO, h1, lookT, wantsB]
  · rw [if_pos rfl] at hp hq
    rw [hp, hq]; simp [oneO, h1, lookT, wantsB]
/-- What is to be written of a record, of a transaction. -/
def recWr (g : Geo) (ep : Int) (b0 b1 : Int → Bool) (t : Tx) (k : Nat) : List Wr := (wantsB (b0 (slotM g t.pos k)) (b1 (slotM g t.pos k))).map fun c => ⟨logAt g c (slotM g t.pos k), cellB g ((recsOf t.seq ep t.images).getD k rc0) c (slotM g t.pos k)⟩
def txWr (g : Geo) (ep : Int) (b0 b1 : Int → Bool) (t : Tx) : List Wr := (List.range (t.images.length + 1)).flatMap fun k => recWr g ep b0 b1 t k
theorem wsG_eq {look : Int → Rc × Int × List Wr} : ∀ (f : Nat) (k : Int) (w : List Wr), wsG look f k w = w ++ (List.range f).flatMap fun j => (look (k + (j : Nat))).2.2
  | 0, k, w => by simp [wsG]
  | f + 1, k, w => by
    rw [wsG, wsG_eq f (k + 1), List.range_succ_eq_map, List.flatMap_cons, List.flatMap_map, List.append_assoc]
    congr 1
    congr 1
    · rw [show k + ((0 : Nat) : Int) = k by omega]
    · congr 1
      funext j
      rw [show k + 1 + (j : Int) = k + ((j.succ : Nat) : Int) by omega]
def AllB (g : Geo) (a : An) (ep : Int) (p q : Int → Option Rc) (b0 b1 : Int → Bool) (t : Tx) (n : Nat) : Prop :=
  (ep = a.epoch ∨ t.seq ≤ a.last ∧ ep ≤ a.epoch) ∧ ∀ k : Nat, k < n → SaysB a (p (slotM g t.pos k)) (b0 (slotM g t.pos k)) ((recsOf t.seq ep t.images).getD k rc0) t.seq k ∧ SaysB a (q (slotM g t.pos k)) (b1 (slotM g t.pos k)) ((recsOf t.seq ep t.images).getD k rc0) t.seq k ∧ (b0 (slotM g t.pos k) || b1 (slotM g t.pos k)) = true
theorem recs_facts (seq ep : Int) (imgs : List Img) (k : Nat) (hk : k < imgs.length + 1) : ((recsOf seq ep imgs).getD k rc0).kind ≠ 0 ∧ ((recsOf seq ep imgs).getD k rc0).seq = seq ∧ ((recsOf seq ep imgs).getD k rc0).epoch = ep ∧ ((recsOf seq ep imgs).getD k rc0).at_ = (k : Nat) ∧ ((recsOf seq ep imgs).getD k rc0).of_ = imgs.length + 1 ∧ (((recsOf seq ep imgs).getD k rc0).kind = 1 ↔ k < imgs.length) ∧ (k < imgs.length → ((recsOf seq ep imgs).getD k rc0).img = imgs.getD k ⟨0, 0, []⟩) := by
  rw [recs_getD seq ep imgs hk]
  split
  · exact ⟨by simp, rfl, rfl, rfl, rfl, by simp [*], fun _ => rfl⟩
  · exact ⟨by simp, rfl, rfl, rfl, rfl, by simp [*], fun h => by omega⟩
theorem recP_B {g : Geo} {a : An} {p q : Int → Option Rc} {b0 b1 : Int → Bool} {left ep : Int} {t : Tx} {n : Nat} (hS : AllB g a ep p q b0 b1 t n) (hn : n ≤ t.images.length + 1) (hleft : (t.images.length : Int) + 1 ≤ left) (k : Nat) (of_ : Int) (hk : k < n) (ho : of_ = 0 ∨ of_ = t.images.length + 1) : recP g a p q t.pos t.seq left k of_ = ((recsOf t.seq ep t.images).getD k rc0, 1, recWr g ep b0 b1 t k) := by
  obtain ⟨s1, s2, s3⟩ := hS.2 k hk
  obtain ⟨r1, r2, r3, r4, r5, -⟩ := recs_facts t.seq ep t.images k (by omega)
  have := lookP_B (of_ := of_) (left := left) s1 s2 s3 (decide_eq_true ⟨r1, r2, r4, fun _ => by omega, fun _ => by omega, by rw [r3]; exact hS.1⟩)
  unfold recP
  dsimp only
  rw [this]
  rfl
theorem flatMap_ext {α β : Type} {f g : α → List β} : ∀ {l : List α}, (∀ x ∈ l, f x = g x) → l.flatMap f = l.flatMap g
  | [], _ => rfl
  | x :: l, h => by rw [List.flatMap_cons, List.flatMap_cons, h x (by simp), flatMap_ext fun y hy => h y (List.mem_cons_of_mem _ hy)]
/-- A transaction whose every record some copy says is found. -/
theorem txnP_B {g : Geo} {a : An} {p q : Int → Option Rc} {b0 b1 : Int → Bool} {left ep : Int} {t : Tx} (hS : AllB g a ep p q b0 b1 t (t.images.length + 1)) (hleft : (t.images.length : Int) + 1 ≤ left) :
    txnP g a p q t.pos t.seq left = (1, (t.images.length : Int) + 1, t.images, txWr g ep b0 b1 t) := by
  have hr := recs_facts t.seq ep t.images
  have hrec := fun k of_ hk ho => recP_B (left := left) hS (Nat.le_refl _) hleft k of_ hk ho
  have a1 := hrec 0 0 (by omega) (.inl rfl)
  have a3 := (hr 0 (by omega)).2.2.2.2.1
  have gf := gather_found (look := fun k => recP g a p q t.pos t.seq left k (t.images.length + 1)) (R := fun k => (recsOf t.seq ep t.images).getD k rc0) (imgs := t.images) (fun j hj => ⟨(hr j (by omega)).2.2.2.2.2.1.2 hj, (hr j (by omega)).2.2.2.2.2.2 hj⟩) (fun e => by have := (hr t.images.length (by omega)).2.2.2.2.2.1.1 e; omega) (fun j h1 h2 => by rw [hrec j _ (by omega) (.inr rfl)]; exact ⟨rfl, rfl⟩) t.images.length 0 (recWr g ep b0 b1 t 0) (by omega)
  unfold txnP
  simp only
  have a1' : recP g a p q t.pos t.seq left 0 0 = ((recsOf t.seq ep t.images).getD 0 rc0, 1, recWr g ep b0 b1 t 0) := a1
  rw [a1']
  dsimp only
  rw [if_neg (fun h => h rfl), a3]
  have ef : ((t.images.length : Int) + 1 - 1).toNat = t.images.length := by omega
  rw [ef]
  have gf' : gatherM (fun k => recP g a p q t.pos t.seq left k (t.images.length + 1)) t.images.length 1 ((recsOf t.seq ep t.images).getD 0 rc0) [] (recWr g ep b0 b1 t 0) = (1, t.images, wsG (fun k => recP g a p q t.pos t.seq left k (t.images.length + 1)) t.images.length 1 (recWr g ep b0 b1 t 0)) := gf
  rw [gf', if_neg (show ¬ (1 : Int) ≠ 1 by decide), wsG_eq]
  unfold txWr
  rw [List.range_succ_eq_map, List.flatMap_cons, List.flatMap_map]
  have ew : ((List.range t.images.length).flatMap fun j => (recP g a p q t.pos t.seq left (1 + (j : Nat)) (t.images.length + 1)).2.2) = (List.range t.images.length).flatMap fun j => recWr g ep b0 b1 t j.succ := by
    refine flatMap_ext fun j hj => ?_
    have hj := List.mem_range.1 hj
    have := hrec (j + 1) _ (by omega) (.inr rfl)
    rw [show 1 + ((j : Nat) : Int) = (((j + 1 : Nat)) : Int) by omega, this]
  rw [ew]
theorem scanLP_B {g : Geo} {a b : An} {fill : UInt8} {p q : Int → Option Rc} {b0 b1 : Int → Bool} {ep : Int} (hg : okG g = true) (hsq : a.seq ≤ 1000000) : ∀ (sizes : List Int) (i : Nat) (pos used : Int) (l0 : List Tx) (w : List Wr) (f : Nat), 0 ≤ used ∧ used ≤ g.sl → (0 ≤ pos ∧ pos < g.sl) → i ≤ 100 → sizes.length + i ≤ 100 → g.sl - used ≤ (f : Nat) → (∀ t ∈ logM g a fill sizes i pos used, AllB g b ep p q b0 b1 t (t.images.length + 1)) →
    ∃ (f' : Nat), g.sl - (used + usedM (logM g a fill sizes i pos used)) ≤ (f' : Nat) ∧ used + usedM (logM g a fill sizes i pos used) ≤ g.sl ∧
      scanLP g b p q f pos (a.seq + i) (g.sl - used) l0 w = scanLP g b p q f' (posM g (logM g a fill sizes i pos used) pos) (a.seq + i + (logM g a fill sizes i pos used).length) (g.sl - (used + usedM (logM g a fill sizes i pos used))) (l0 ++ logM g a fill sizes i pos used) (w ++ (logM g a fill sizes i pos used).flatMap (txWr g ep b0 b1))
  | [], i, pos, used, l0, w, f, hu, hp, hi, hl, hf, hs => ⟨f, by simp [logM, usedM]; omega, by simp [logM, usedM]; omega, by simp [logM, usedM, posM]⟩
  | s :: r, i, pos, used, l0, w, f, hu, hp, hi, hl, hf, hs => by
    obtain ⟨h1, h2, h3, h4, h5⟩ := okG_iff.1 hg
    have hn := nImg_in s
    simp only [List.length_cons] at hl
    unfold logM at hs ⊢
    by_cases hc : g.sl < used + (nImg s : Nat) + 1
    · rw [if_pos hc] at hs ⊢
      exact ⟨f, by simp [usedM]; omega, by simp [usedM]; omega, by simp [usedM, posM]⟩
    · rw [if_neg hc] at hs ⊢
      have t1 := hs (logTx g a fill i pos (nImg s)) (by simp)
      have il : (logTx g a fill i pos (nImg s)).images.length = nImg s := by simp [logTx]
      have tf := txnP_B (left := g.sl - used) t1 (by omega)
      rw [il, show (logTx g a fill i pos (nImg s)).pos = pos from rfl, show (logTx g a fill i pos (nImg s)).seq = a.seq + i from rfl] at tf
      have hm := Int.tmod_lt_of_pos (pos + (nImg s : Nat) + 1) (show 0 < g.sl by omega)
      have hm0 := Int.tmod_nonneg g.sl (show 0 ≤ pos + (nImg s : Nat) + 1 by omega)
      cases f with
      | zero => exfalso; omega
      | succ f =>
        obtain ⟨f', e1, e3, e4⟩ := scanLP_B (b := b) (fill := fill) hg hsq r (i + 1) ((pos + (nImg s : Nat) + 1).tmod g.sl) (used + (nImg s : Nat) + 1) (l0 ++ [logTx g a fill i pos (nImg s)]) (w ++ txWr g ep b0 b1 (logTx g a fill i pos (nImg s))) f (by omega) ⟨hm0, hm⟩ (by omega) (by omega) (by omega) (fun t ht => hs t (List.mem_cons_of_mem _ ht))
        refine ⟨f', ?_, ?_, ?_⟩
        · simp only [usedM, logTx] at e1 ⊢
          omega
        · simp only [usedM, logTx] at e3 ⊢
          omega
        · have ea : a.seq + (((i + 1 : Nat)) : Int) = a.seq + (i : Int) + 1 := by omega
          rw [ea] at e4
          have hstep : scanLP g b p q (f + 1) pos (a.seq + i) (g.sl - used) l0 w = scanLP g b p q f ((pos + (nImg s : Nat) + 1).tmod g.sl) (a.seq + i + 1) (g.sl - (used + (nImg s : Nat) + 1)) (l0 ++ [logTx g a fill i pos (nImg s)]) (w ++ txWr g ep b0 b1 (logTx g a fill i pos (nImg s))) := by
            conv => lhs; unfold scanLP
            rw [if_pos (by omega)]
            simp only [tf]
            rw [if_neg (by decide), if_neg (by decide)]
            rw [show pos + (((nImg s : Nat) : Int) + 1) = pos + (nImg s : Nat) + 1 by omega, show g.sl - used - (((nImg s : Nat) : Int) + 1) = g.sl - (used + (nImg s : Nat) + 1) by omega]
            rfl
          rw [hstep, e4]
          simp only [usedM, posM, logTx, List.length_cons, List.flatMap_cons, List.append_assoc, List.cons_append, List.nil_append, Int.add_assoc]
          congr 1 <;> omega
theorem used_nn {l : List Tx} (h : ∀ t ∈ l, 0 ≤ t.n) : 0 ≤ usedM l := by
  induction l with
  | nil => simp [usedM]
  | cons x y ih => have := ih (fun t ht => h t (List.mem_cons_of_mem _ ht)); have := h x (by simp); simp only [usedM]; omega
theorem logM_nn {g : Geo} {a : An} {fill : UInt8} {sizes : List Int} (hg : okG g = true) (ha : anOk g a = true) : ∀ t ∈ logM g a fill sizes 0 a.pos 0, 0 ≤ t.n := fun t ht => by
  have hq := anOk_seq ha
  obtain ⟨j, hj, rfl⟩ := List.mem_iff_getElem.1 ht
  obtain ⟨pos, n, e, -⟩ := (logM_in (a := a) (fill := fill) hg sizes 0 a.pos 0 hq.2).at_ j hj
  rw [List.getD_eq_getElem?_getD, List.getElem?_eq_getElem hj] at e
  simp only [Option.getD_some] at e
  rw [e]
  simp only [logTx]
  omega
/-- A log that begins with a written one: the rest of the scan. -/
theorem scan_B {g : Geo} {a b : An} {fill : UInt8} {sizes : List Int} {ep : Int} {p q : Int → Option Rc} {b0 b1 : Int → Bool} (hg : okG g = true) (ha : anOk g a = true) (hsq : a.seq ≤ 1000000) (hl : sizes.length ≤ 40) (hbs : b.seq = a.seq) (hbp : b.pos = a.pos) (hS : ∀ t ∈ logM g a fill sizes 0 a.pos 0, AllB g b ep p q b0 b1 t (t.images.length + 1)) :
    ∃ f : Nat, g.sl - usedM (logM g a fill sizes 0 a.pos 0) ≤ (f : Nat) ∧ usedM (logM g a fill sizes 0 a.pos 0) ≤ g.sl ∧
      scanP g b p q = finM b (scanLP g b p q f ((a.pos + usedM (logM g a fill sizes 0 a.pos 0)).tmod g.sl) (a.seq + (logM g a fill sizes 0 a.pos 0).length) (g.sl - usedM (logM g a fill sizes 0 a.pos 0)) (logM g a fill sizes 0 a.pos 0) ((logM g a fill sizes 0 a.pos 0).flatMap (txWr g ep b0 b1))) := by
  obtain ⟨h1, h2, h3, h4, h5⟩ := okG_iff.1 hg
  have hq := anOk_seq ha
  obtain ⟨f, e1, e2, e3⟩ := scanLP_B (b := b) (fill := fill) hg hsq sizes 0 a.pos 0 [] [] g.sl.toNat ⟨Int.le_refl 0, by omega⟩ hq.2 (by omega) (by omega) (by omega) hS
  have hpos := posM_used hg (logM g a fill sizes 0 a.pos 0) a.pos hq.2.1 (logM_nn hg ha)
  rw [tmod_lo hq.2.1 hq.2.2] at hpos
  rw [hpos] at e3
  refine ⟨f, by omega, by omega, ?_⟩
  unfold scanP
  rw [hbp, hbs]
  simp only [Int.sub_zero, List.nil_append, Int.zero_add, Int.natCast_zero, Int.add_zero] at e3
  rw [e3]
theorem scanLP_end {g : Geo} {b : An} {p q : Int → Option Rc} {f : Nat} {pos seq left : Int} {l : List Tx} {w : List Wr} (h : 0 < left → (txnP g b p q pos seq left).1 = 2) : scanLP g b p q f pos seq left l w = some (l, w, seq) := by
  cases f with
  | zero => rfl
  | succ f =>
    unfold scanLP
    by_cases hc : 0 < left ∧ seq ≤ 4294967295
    · rw [if_pos hc]
      simp only [h hc.1]
      rfl
    · rw [if_neg hc]
/-- A slot of which both copies together say something, but neither the one. -/
theorem txn_other {g : Geo} {b : An} {p q : Int → Option Rc} {pos seq left : Int} (h0 : ∀ of_ left, oneO (p (slotM g pos 0)) b seq 0 of_ left = false) (h1 : ∀ of_ left, oneO (q (slotM g pos 0)) b seq 0 of_ left = false) (h : ((p (slotM g pos 0)).isSome || (q (slotM g pos 0)).isSome) = true) : (txnP g b p q pos seq left).1 = 2 := by
  have : (recP g b p q pos seq left 0 0).2.1 = 2 := by
    unfold recP lookP
    simp only [h0, h1]
    simp [lookT, h]
  unfold txnP
  simp only [this]
  rfl
end Go.Proofs.YteecmgonbdbhdaaDoor.A
end

/-
Where a written log's records lie; what lies behind it.
-/
section
namespace Go.Proofs.YteecmgonbdbhdaaDoor.A
open Go.RowKit

theorem logM_used {g : Geo} {a : An} {fill : UInt8} : ∀ (sizes : List Int) (i : Nat) (pos used : Int), used ≤ g.sl → used + usedM (logM g a fill sizes i pos used) ≤ g.sl
  | [], _, _, _, h => by simp [logM, usedM]; omega
  | s :: r, i, pos, used, h => by
    unfold logM
    split
    · simp [usedM]; omega
    · have := logM_used (g := g) (a := a) (fill := fill) r (i + 1) ((pos + (nImg s : Nat) + 1).tmod g.sl) (used + (nImg s : Nat) + 1) (by omega)
      simp only [usedM, logTx] at this ⊢
      omega
theorem logM_pos {g : Geo} {a : An} {fill : UInt8} : ∀ (sizes : List Int) (i : Nat) (pos used : Int) (j : Nat), j < (logM g a fill sizes i pos used).length → ((logM g a fill sizes i pos used).getD j tz).pos = posM g ((logM g a fill sizes i pos used).take j) pos
  | [], _, _, _, j, h => by simp [logM] at h
  | s :: r, i, pos, used, j, h => by
    unfold logM at h ⊢
    split at h
    · simp at h
    · rename_i hc
      rw [if_neg hc]
      cases j with
      | zero => rfl
      | succ j =>
        have ih := logM_pos r (i + 1) ((pos + (nImg s : Nat) + 1).tmod g.sl) (used + (nImg s : Nat) + 1) j (by simpa using h)
        rw [List.take_succ_cons, posM, List.getD_cons_succ, ih]
        simp only [logTx]
        rw [Int.add_assoc]
theorem used_take : ∀ (l : List Tx) (j : Nat), j < l.length → usedM (l.take (j + 1)) = usedM (l.take j) + (l.getD j tz).n
  | [], j, h => by simp at h
  | t :: r, 0, _ => by simp [usedM]
  | t :: r, j + 1, h => by
    have := used_take r j (by simpa using h)
    simp only [List.take_succ_cons, usedM, List.getD_cons_succ] at this ⊢
    omega
section
variable {g : Geo} {a : An} {fill : UInt8} {sizes : List Int}
theorem log_get (hg : okG g = true) (ha : anOk g a = true) {j : Nat} (hj : j < (logM g a fill sizes 0 a.pos 0).length) : ((logM g a fill sizes 0 a.pos 0).getD j tz).seq = a.seq + j ∧ ((logM g a fill sizes 0 a.pos 0).getD j tz).n = ((logM g a fill sizes 0 a.pos 0).getD j tz).images.length + 1 ∧ 1 ≤ ((logM g a fill sizes 0 a.pos 0).getD j tz).images.length ∧ ((logM g a fill sizes 0 a.pos 0).getD j tz).images.length ≤ 5 := by
  obtain ⟨pos, n, e, n1, n2, -⟩ := (logM_in (a := a) (fill := fill) hg sizes 0 a.pos 0 (anOk_seq ha).2).at_ j hj
  rw [e]
  simp [logTx]
  omega
theorem log_mem {t : Tx} (hj : t ∈ logM g a fill sizes 0 a.pos 0) : ∃ j, j < (logM g a fill sizes 0 a.pos 0).length ∧ t = (logM g a fill sizes 0 a.pos 0).getD j tz := by
  obtain ⟨j, h, rfl⟩ := List.mem_iff_getElem.1 hj
  exact ⟨j, h, by rw [List.getD_eq_getElem?_getD, List.getElem?_eq_getElem h]; rfl⟩
theorem log_used (hg : okG g = true) : usedM (logM g a fill sizes 0 a.pos 0) ≤ g.sl := by
  obtain ⟨h1, h2, h3, h4, h5⟩ := okG_iff.1 hg
  have := logM_used (g := g) (a := a) (fill := fill) sizes 0 a.pos 0 (by omega)
  omega
theorem log_take_nn (hg : okG g = true) (ha : anOk g a = true) (j : Nat) : 0 ≤ usedM ((logM g a fill sizes 0 a.pos 0).take j) := used_nn fun t ht => logM_nn hg ha t (List.mem_of_mem_take ht)
/-- A record's slot. -/
theorem log_slot (hg : okG g = true) (ha : anOk g a = true) {j k : Nat} (hj : j < (logM g a fill sizes 0 a.pos 0).length) (hk : k < ((logM g a fill sizes 0 a.pos 0).getD j tz).images.length + 1) : slotM g ((logM g a fill sizes 0 a.pos 0).getD j tz).pos k = (a.pos + (usedM ((logM g a fill sizes 0 a.pos 0).take j) + k)).tmod g.sl := by
  obtain ⟨h1, h2, h3, h4, h5⟩ := okG_iff.1 hg
  have hq := anOk_seq ha
  have hu := log_take_nn (fill := fill) (sizes := sizes) hg ha j
  have hp := posM_used hg ((logM g a fill sizes 0 a.pos 0).take j) a.pos hq.2.1 fun t ht => logM_nn hg ha t (List.mem_of_mem_take ht)
  rw [tmod_lo hq.2.1 hq.2.2, ← logM_pos sizes 0 a.pos 0 j hj] at hp
  have hgt := log_get (fill := fill) (sizes := sizes) hg ha hj
  rw [hp]
  unfold slotM
  have q1 := Int.tmod_nonneg g.sl (show 0 ≤ a.pos + usedM ((logM g a fill sizes 0 a.pos 0).take j) by omega)
  have q2 := Int.tmod_lt_of_pos (a.pos + usedM ((logM g a fill sizes 0 a.pos 0).take j)) (show 0 < g.sl by omega)
  rw [show IntKind.i64.wrap ((a.pos + usedM ((logM g a fill sizes 0 a.pos 0).take j)).tmod g.sl + (k : Int)) = (a.pos + usedM ((logM g a fill sizes 0 a.pos 0).take j)).tmod g.sl + k by rw [IntKind.wrap_i64]; omega]
  rw [Int.tmod_eq_emod_of_nonneg (show 0 ≤ a.pos + usedM ((logM g a fill sizes 0 a.pos 0).take j) by omega)] at q1 ⊢
  rw [Int.tmod_eq_emod_of_nonneg (by omega), Int.tmod_eq_emod_of_nonneg (by omega), Int.emod_add_emod, Int.add_assoc]
/-- Behind a log nobody has a slot. -/
theorem recW_free {ep u : Int} (hg : okG g = true) (ha : anOk g a = true) (hu : usedM (logM g a fill sizes 0 a.pos 0) ≤ u) (hs : u < g.sl) : recW g (logM g a fill sizes 0 a.pos 0) ep ((a.pos + u).tmod g.sl) = zeroC := by
  obtain ⟨h1, h2, h3, h4, h5⟩ := okG_iff.1 hg
  have hq := anOk_seq ha
  have h0 := used_nn (logM_nn (fill := fill) (sizes := sizes) hg ha)
  have hw := who_log (a := a) (fill := fill) hg (p0 := a.pos) hq.2 (u := u) (by omega) sizes 0 0 0 ⟨Int.le_refl 0, by omega⟩
  rw [show (a.pos + 0).tmod g.sl = a.pos by rw [Int.add_zero]; exact tmod_lo hq.2.1 hq.2.2] at hw
  rw [findU_none _ 0 0 _ (logM_nn hg ha) (by omega)] at hw
  unfold recW
  rw [hw]
theorem slotM_0 (hg : okG g = true) {x : Int} (hx : 0 ≤ x) : slotM g (x.tmod g.sl) 0 = x.tmod g.sl := by
  obtain ⟨h1, h2, h3, h4, h5⟩ := okG_iff.1 hg
  have q1 := Int.tmod_nonneg g.sl hx
  have q2 := Int.tmod_lt_of_pos x (show 0 < g.sl by omega)
  unfold slotM
  rw [Int.add_zero, show IntKind.i64.wrap (x.tmod g.sl) = x.tmod g.sl by rw [IntKind.wrap_i64]; omega]
  exact tmod_lo q1 q2
theorem one_zero (b : An) (s at_ of_ left : Int) : oneO (some zeroC) b s at_ of_ left = false := by
  show isOne zeroC b s at_ of_ left = false
  exact decide_eq_false fun h => h.1 rfl
theorem saysW_at {L : List Tx} {ep s : Int} {bad : Int → Bool} (hs : 0 ≤ s ∧ s < g.sl) : saysW g L ep bad s = if bad s then none else some (recW g L ep s) := by
  unfold saysW
  rw [if_pos hs]
/-- A copy of a written log, some readings spoilt, at a record. -/
theorem saysB_W {b : An} {ep : Int} {bad : Int → Bool} (hg : okG g = true) (ha : anOk g a = true) {j k : Nat} (hj : j < (logM g a fill sizes 0 a.pos 0).length) (hk : k < ((logM g a fill sizes 0 a.pos 0).getD j tz).images.length + 1) :
    SaysB b (saysW g (logM g a fill sizes 0 a.pos 0) ep bad (slotM g ((logM g a fill sizes 0 a.pos 0).getD j tz).pos k)) (!bad (slotM g ((logM g a fill sizes 0 a.pos 0).getD j tz).pos k)) ((recsOf ((logM g a fill sizes 0 a.pos 0).getD j tz).seq ep ((logM g a fill sizes 0 a.pos 0).getD j tz).images).getD k rc0) ((logM g a fill sizes 0 a.pos 0).getD j tz).seq k := by
  obtain ⟨q1, q2⟩ := recW_at (fill := fill) (sizes := sizes) (ep := ep) hg ha hj hk
  rw [saysW_at q1, q2]
  unfold SaysB
  cases bad (slotM g ((logM g a fill sizes 0 a.pos 0).getD j tz).pos k)
  · rfl
  · exact fun _ _ => rfl
theorem allB_W {b : An} {ep : Int} {bad0 bad1 : Int → Bool} (hg : okG g = true) (ha : anOk g a = true) {j n : Nat} (hj : j < (logM g a fill sizes 0 a.pos 0).length) (hn : n ≤ ((logM g a fill sizes 0 a.pos 0).getD j tz).images.length + 1) (he : ep = b.epoch ∨ a.seq + j ≤ b.last ∧ ep ≤ b.epoch) (hb : ∀ k, k < n → (bad0 (slotM g ((logM g a fill sizes 0 a.pos 0).getD j tz).pos (k : Nat)) && bad1 (slotM g ((logM g a fill sizes 0 a.pos 0).getD j tz).pos (k : Nat))) = false) :
    AllB g b ep (saysW g (logM g a fill sizes 0 a.pos 0) ep bad0) (saysW g (logM g a fill sizes 0 a.pos 0) ep bad1) (fun s => !bad0 s) (fun s => !bad1 s) ((logM g a fill sizes 0 a.pos 0).getD j tz) n := by
  refine ⟨?_, fun k hk => ⟨saysB_W hg ha hj (by omega), saysB_W hg ha hj (by omega), ?_⟩⟩
  · rw [(log_get hg ha hj).1]
    exact he
  · have := hb k hk
    cases h0 : bad0 (slotM g ((logM g a fill sizes 0 a.pos 0).getD j tz).pos k) <;> cases h1 : bad1 (slotM g ((logM g a fill sizes 0 a.pos 0).getD j tz).pos k) <;> simp_all
end
end Go.Proofs.YteecmgonbdbhdaaDoor.A
end

/-
Records of an elder epoch beyond the last number: what a scan finds, in plain terms.
-/
section
namespace Go.Proofs.YteecmgonbdbhdaaDoor.A
open Go.RowKit

section
variable {g : Geo} {a : An} {fill : UInt8} {sizes : List Int}
end
end Go.Proofs.YteecmgonbdbhdaaDoor.A
end

/-
A transaction that was cut while it was written, in plain terms.
-/
section
namespace Go.Proofs.YteecmgonbdbhdaaDoor.A
open Go.RowKit

theorem tmod_inj {p u v n : Int} (hp : 0 ≤ p ∧ p < n) (hu : 0 ≤ u ∧ u < n) (hv : 0 ≤ v ∧ v < n) (h : (p + u).tmod n = (p + v).tmod n) : u = v := by
  have h1 : (p + u).tmod n = if p + u < n then p + u else p + u - n := by
    split
    · exact tmod_lo (by omega) (by omega)
    · exact tmod_hi (by omega) (by omega) (by omega)
  have h2 : (p + v).tmod n = if p + v < n then p + v else p + v - n := by
    split
    · exact tmod_lo (by omega) (by omega)
    · exact tmod_hi (by omega) (by omega) (by omega)
  rw [h1, h2] at h
  split at h <;> split at h <;> omega
section
variable {g : Geo} {a : An} {fill : UInt8} {sizes : List Int}
theorem who_free {u : Int} (hg : okG g = true) (ha : anOk g a = true) (hu : usedM (logM g a fill sizes 0 a.pos 0) ≤ u) (hs : u < g.sl) : whoM g ((a.pos + u).tmod g.sl) (logM g a fill sizes 0 a.pos 0) 0 = none := by
  obtain ⟨h1, h2, h3, h4, h5⟩ := okG_iff.1 hg
  have hq := anOk_seq ha
  have h0 := used_nn (logM_nn (fill := fill) (sizes := sizes) hg ha)
  have hw := who_log (a := a) (fill := fill) hg (p0 := a.pos) hq.2 (u := u) (by omega) sizes 0 0 0 ⟨Int.le_refl 0, by omega⟩
  rw [show (a.pos + 0).tmod g.sl = a.pos by rw [Int.add_zero]; exact tmod_lo hq.2.1 hq.2.2] at hw
  rw [findU_none _ 0 0 _ (logM_nn hg ha) (by omega)] at hw
  exact hw
theorem who_some (hg : okG g = true) (ha : anOk g a = true) {j k : Nat} (hj : j < (logM g a fill sizes 0 a.pos 0).length) (hk : k < ((logM g a fill sizes 0 a.pos 0).getD j tz).images.length + 1) : (whoM g (slotM g ((logM g a fill sizes 0 a.pos 0).getD j tz).pos k) (logM g a fill sizes 0 a.pos 0) 0).isSome = true := by
  obtain ⟨-, r2⟩ := recW_at (ep := 0) hg ha hj hk
  cases h : whoM g (slotM g ((logM g a fill sizes 0 a.pos 0).getD j tz).pos k) (logM g a fill sizes 0 a.pos 0) 0 with
  | some _ => rfl
  | none =>
    unfold recW at r2
    rw [h] at r2
    have := (recs_facts ((logM g a fill sizes 0 a.pos 0).getD j tz).seq 0 ((logM g a fill sizes 0 a.pos 0).getD j tz).images k hk).1
    rw [← r2] at this
    exact absurd rfl this
end
end Go.Proofs.YteecmgonbdbhdaaDoor.A
end

/-
Package casematekeep: an anchor copied.
-/
section
namespace Go.Proofs.YteecmgonbdbhdaaDoor.A
open Go.RowKit

end Go.Proofs.YteecmgonbdbhdaaDoor.A
end

/-
What the laws of scan have in common.
-/
section
namespace Go.Proofs.YteecmgonbdbhdaaDoor.A
open Go.RowKit

theorem anOk_parts {g : Geo} {a : An} (h : anOk g a = true) : (0 ≤ a.gen ∧ a.gen ≤ 4294967295) ∧ (0 ≤ a.epoch ∧ a.epoch ≤ 4294967295) ∧ (1 ≤ a.seq ∧ a.seq ≤ 4294967295) ∧ (0 ≤ a.last ∧ a.last ≤ 4294967295 ∧ a.seq - 1 ≤ a.last) ∧ (0 ≤ a.pos ∧ a.pos < g.sl) ∧ (a.homes.length : Int) = g.z ∧ ∀ x ∈ a.homes, hmOk g x = true := by
  simp only [anOk, List.all_cons, List.all_nil, Bool.and_eq_true, inB_iff, decide_eq_true_eq, List.all_eq_true] at h
  obtain ⟨⟨q1, q2, q3, q4, -⟩, q5, q6, q7, q8, q9, q10⟩ := h
  exact ⟨q1, q2, ⟨q5, q3.2⟩, ⟨q4.1, q4.2, q6⟩, ⟨q7.1, by omega⟩, q9, q10⟩
theorem scanA_P {g : Geo} {b : An} {x y : List Gt} {p q : Int → Option Rc} {r : List Tx × List Wr × Int} (hg : okG g = true) (hb : anOk g b = true) (hx : (x.length : Int) = g.sl) (hy : (y.length : Int) = g.sl) (hp : saysF g x 0 = p) (hq : saysF g y 1 = q) (h : scanP g b p q = r) : scanA g b x y = r := by
  unfold scanA
  rw [if_pos (by rw [hg, hb]; rfl), if_pos ⟨hx, hy⟩, scanM_P, hp, hq, h]
end Go.Proofs.YteecmgonbdbhdaaDoor.A
end

/-
A written log of which one copy of each slot at most is spoilt, in plain terms.
-/
section
namespace Go.Proofs.YteecmgonbdbhdaaDoor.A
open Go.RowKit

def fU (which : List Int) (s : Nat) : Int := IntKind.u64.wrap (which.getD s 0)
def fSp (which : List Int) (s : Nat) : Bool := decide (s < which.length) && decide (¬ (fU which s).tmod 5 > 2)
def fC (which : List Int) (s : Nat) : Int := modU (which.getD s 0) 2
def fZ (which : List Int) (bits : Int) (s : Nat) (x : Gt) : Gt := if (fU which s).tmod 3 = 0 then ⟨6, []⟩ else ⟨x.err, flipT x.bytes (bits + s) bits⟩
def fQ (which : List Int) (c : Int) (k : Nat) : Bool := fSp which k && decide (fC which k = c)
def fL (which : List Int) (bits c : Int) (X : List Gt) : Nat → List Gt
  | 0 => X
  | k + 1 => if fQ which c k = true then (fL which bits c X k).set k (fZ which bits k (X.getD k gz)) else fL which bits c X k
def fB (which : List Int) (c : Int) : Nat → Int → Bool
  | 0, _ => false
  | k + 1, s => (decide (s = (k : Nat)) && fQ which c k) || fB which c k s
theorem fL_len {which : List Int} {bits c : Int} {X : List Gt} : ∀ k, (fL which bits c X k).length = X.length
  | 0 => rfl
  | k + 1 => by
    unfold fL
    split
    · rw [List.length_set, fL_len]
    · exact fL_len k
theorem fB_iff {which : List Int} {c : Int} : ∀ {k : Nat} {s : Int}, fB which c k s = true ↔ ∃ i, i < k ∧ s = (i : Nat) ∧ fQ which c i = true
  | 0, s => by simp [fB]
  | k + 1, s => by
    simp only [fB, Bool.or_eq_true, Bool.and_eq_true, decide_eq_true_eq, fB_iff (k := k)]
    constructor
    · rintro (⟨h1, h2⟩ | ⟨i, h1, h2, h3⟩)
      · exact ⟨k, by omega, h1, h2⟩
      · exact ⟨i, by omega, h2, h3⟩
    · rintro ⟨i, h1, h2, h3⟩
      by_cases e : i = k
      · subst e
        exact .inl ⟨h2, h3⟩
      · exact .inr ⟨i, by omega, h2, h3⟩
theorem fZ_says {g : Geo} {r : Rc} {which : List Int} {bits c : Int} {s : Nat} (hg : okG g = true) (hr : okR g r = true) (hL : okL g c (s : Nat) = true) : saysR g (fZ which bits s ⟨0, cellB g r c (s : Nat)⟩) c (s : Nat) = none := by
  unfold fZ
  split
  · exact says_err (by decide)
  · have hb := logAt_bounds hg hL
    have hs := okR_seq hr
    have hn := recB_short hr
    obtain ⟨h1, -⟩ := seal_open (a := logAt g c (s : Nat)) (s := r.seq) (p := recB r) ⟨hb.1, hb.2, hs.1, hs.2, by omega⟩
    have ho : openE (cellB g r c (s : Nat)) = 0 := h1
    exact says_bad (by simp only [openE_flip ho]; decide)
theorem okL_c {g : Geo} {c s : Int} (hc : c = 0 ∨ c = 1) (hs : 0 ≤ s ∧ s < g.sl) : okL g c s = true := by
  rw [okL, inB_iff.2 (show 0 ≤ s ∧ s ≤ g.sl - 1 by omega)]
  rcases hc with rfl | rfl <;> rfl
theorem fL_says {g : Geo} {L : List Tx} {ep c bits : Int} {which : List Int} (hg : okG g = true) (h : LogOk g L ep) (hc : c = 0 ∨ c = 1) : ∀ k : Nat, (k : Int) ≤ g.sl → saysF g (fL which bits c (writtenM g L ep c g.sl.toNat) k) c = saysW g L ep (fB which c k)
  | 0, _ => saysF_W hg h hc
  | k + 1, hk => by
    have ih := fL_says (bits := bits) (which := which) hg h hc k (by omega)
    unfold fL
    by_cases hq : fQ which c k = true
    · rw [if_pos hq]
      have e : (writtenM g L ep c g.sl.toNat).getD k gz = ⟨0, cellB g (recW g L ep (k : Nat)) c (k : Nat)⟩ := by
        unfold writtenM
        rw [map_getD (d := 0) (by rw [List.length_range]; omega)]
        rw [List.getD_eq_getElem?_getD, List.getElem?_range (by omega)]
        rfl
      rw [e]
      rw [saysF_set ih (by rw [fL_len, written_len]; omega) (fZ_says hg (h.ok (k : Nat) (by omega)) (okL_c hc (by omega)))]
      congr 1
      funext s
      simp only [fB, hq, Bool.and_true]
    · rw [if_neg hq, ih]
      congr 1
      funext s
      simp only [fB, Bool.not_eq_true _ ▸ hq, Bool.and_false, Bool.false_or]
/-- What was spoilt, as it was. -/
def fW (g : Geo) (L : List Tx) (ep : Int) (which : List Int) (s : Nat) : List Wr := if fSp which s = true then [⟨logAt g (fC which s) (s : Nat), cellB g (recW g L ep (s : Nat)) (fC which s) (s : Nat)⟩] else []
theorem fC_01 (which : List Int) (s : Nat) : fC which s = 0 ∨ fC which s = 1 := by
  have := modU_in (x := which.getD s 0) (n := 2) (by decide) (by decide)
  unfold fC
  omega
section
variable {g : Geo} {a : An} {fill : UInt8} {sizes : List Int}
/-- The slots of a log's records, in their order. -/
def offs (g : Geo) (a : An) (u : Nat) : Nat := ((a.pos + (u : Nat)).tmod g.sl).toNat
theorem slots_take (hg : okG g = true) (ha : anOk g a = true) : ∀ j, j ≤ (logM g a fill sizes 0 a.pos 0).length → ((logM g a fill sizes 0 a.pos 0).take j).flatMap (fun t => (List.range (t.images.length + 1)).map fun k => (slotM g t.pos (k : Nat)).toNat) = (List.range (usedM ((logM g a fill sizes 0 a.pos 0).take j)).toNat).map (offs g a)
  | 0, _ => by simp [usedM]
  | j + 1, hj => by
    have ih := slots_take hg ha j (by omega)
    have hj' : j < (logM g a fill sizes 0 a.pos 0).length := by omega
    have hgt := log_get (fill := fill) (sizes := sizes) hg ha hj'
    have hU := log_take_nn (fill := fill) (sizes := sizes) hg ha j
    have hu := used_take _ j hj'
    have eg : (logM g a fill sizes 0 a.pos 0)[j] = (logM g a fill sizes 0 a.pos 0).getD j tz := by rw [List.getD_eq_getElem?_getD, List.getElem?_eq_getElem hj']; rfl
    rw [hu, List.take_succ_eq_append_getElem hj', List.flatMap_append, ih, eg]
    simp only [List.flatMap_cons, List.flatMap_nil, List.append_nil]
    rw [show (usedM ((logM g a fill sizes 0 a.pos 0).take j) + ((logM g a fill sizes 0 a.pos 0).getD j tz).n).toNat = (usedM ((logM g a fill sizes 0 a.pos 0).take j)).toNat + (((logM g a fill sizes 0 a.pos 0).getD j tz).images.length + 1) by omega]
    have hr : ∀ A B : Nat, List.range (A + B) = List.range A ++ (List.range B).map fun x => A + x := fun A B => List.range_add
    rw [hr (usedM ((logM g a fill sizes 0 a.pos 0).take j)).toNat, List.map_append, List.map_map]
    congr 1
    apply List.map_congr_left
    intro k hk
    have hk := List.mem_range.1 hk
    rw [log_slot hg ha hj' hk]
    unfold offs
    simp only [Function.comp]
    congr 2
    omega
theorem offs_lt (hg : okG g = true) (ha : anOk g a = true) (u : Nat) : offs g a u < g.sl.toNat := by
  obtain ⟨h1, h2, h3, h4, h5⟩ := okG_iff.1 hg
  have hq := anOk_seq ha
  have q1 := Int.tmod_nonneg g.sl (show 0 ≤ a.pos + (u : Nat) by omega)
  have q2 := Int.tmod_lt_of_pos (a.pos + (u : Nat)) (show 0 < g.sl by omega)
  unfold offs
  omega
theorem offs_inj (ha : anOk g a = true) {u v : Nat} (hu : (u : Int) < g.sl) (hv : (v : Int) < g.sl) (h : offs g a u = offs g a v) : u = v := by
  have hq := anOk_seq ha
  have q1 := Int.tmod_nonneg g.sl (show 0 ≤ a.pos + (u : Nat) by omega)
  have q2 := Int.tmod_nonneg g.sl (show 0 ≤ a.pos + (v : Nat) by omega)
  unfold offs at h
  have := tmod_inj (p := a.pos) (n := g.sl) hq.2 (u := (u : Nat)) (v := (v : Nat)) (by omega) (by omega) (by omega)
  omega
theorem offs_nodup (ha : anOk g a = true) : ∀ n : Nat, (n : Int) ≤ g.sl → ((List.range n).map (offs g a)).Nodup
  | 0, _ => by simp
  | n + 1, hn => by
    rw [List.range_succ, List.map_append, List.nodup_append]
    refine ⟨offs_nodup ha n (by omega), by simp, ?_⟩
    intro x hx y hy e
    obtain ⟨u, hu, rfl⟩ := List.mem_map.1 hx
    have hu := List.mem_range.1 hu
    simp only [List.map_cons, List.map_nil, List.mem_singleton] at hy
    rw [hy] at e
    have := offs_inj ha (by omega) (by omega) e
    omega
theorem offs_surj (hg : okG g = true) (ha : anOk g a = true) {s : Nat} (hs : (s : Int) < g.sl) : ∃ u : Nat, (u : Int) < g.sl ∧ offs g a u = s := by
  obtain ⟨h1, h2, h3, h4, h5⟩ := okG_iff.1 hg
  have hq := anOk_seq ha
  by_cases h : a.pos ≤ (s : Nat)
  · refine ⟨((s : Int) - a.pos).toNat, by omega, ?_⟩
    unfold offs
    rw [show a.pos + ((((s : Int) - a.pos).toNat : Nat) : Int) = (s : Nat) by omega, tmod_lo (by omega) hs]
    omega
  · refine ⟨((s : Int) - a.pos + g.sl).toNat, by omega, ?_⟩
    unfold offs
    rw [show a.pos + ((((s : Int) - a.pos + g.sl).toNat : Nat) : Int) = (s : Nat) + g.sl by omega, tmod_hi (by omega) (by omega) (by omega)]
    omega
/-- A slot of a log is somebody's where its records lie. -/
theorem who_offs (hg : okG g = true) (ha : anOk g a = true) {u : Nat} (hu : (u : Int) < g.sl) : (whoM g ((offs g a u : Nat) : Int) (logM g a fill sizes 0 a.pos 0) 0).isSome = decide ((u : Int) < usedM (logM g a fill sizes 0 a.pos 0)) := by
  have hq := anOk_seq ha
  have q1 := Int.tmod_nonneg g.sl (show 0 ≤ a.pos + (u : Nat) by omega)
  have e : ((offs g a u : Nat) : Int) = (a.pos + (u : Nat)).tmod g.sl := by unfold offs; omega
  by_cases h : (u : Int) < usedM (logM g a fill sizes 0 a.pos 0)
  · rw [decide_eq_true h]
    have hs := slots_take (fill := fill) (sizes := sizes) hg ha (logM g a fill sizes 0 a.pos 0).length (Nat.le_refl _)
    rw [List.take_length] at hs
    have hm : offs g a u ∈ (List.range (usedM (logM g a fill sizes 0 a.pos 0)).toNat).map (offs g a) := List.mem_map.2 ⟨u, List.mem_range.2 (by omega), rfl⟩
    rw [← hs] at hm
    obtain ⟨t, ht, hm⟩ := List.mem_flatMap.1 hm
    obtain ⟨k, hk, hm⟩ := List.mem_map.1 hm
    have hk := List.mem_range.1 hk
    obtain ⟨j, hj, rfl⟩ := log_mem ht
    obtain ⟨r1, -⟩ := recW_at (ep := 0) hg ha hj hk
    rw [← hm, Int.toNat_of_nonneg r1.1]
    exact who_some hg ha hj hk
  · rw [decide_eq_false h, e, who_free hg ha (by omega) hu]
    rfl
theorem finds_perm {ep : Int} {which : List Int} {K : Nat} (hg : okG g = true) (ha : anOk g a = true) (hK : (K : Int) ≤ g.sl) (hK2 : (K : Int) = g.sl ∨ which.length ≤ K) :
    ((logM g a fill sizes 0 a.pos 0).flatMap (txWr g ep (fun s => !fB which 0 K s) (fun s => !fB which 1 K s))).Perm (((List.range K).flatMap (fW g (logM g a fill sizes 0 a.pos 0) ep which)).filter fun x => (whoM g ((x.addr - g.an).tmod g.sl) (logM g a fill sizes 0 a.pos 0) 0).isSome) := by
  obtain ⟨h1, h2, h3, h4, h5⟩ := okG_iff.1 hg
  have hU := log_used hg (a := a) (fill := fill) (sizes := sizes)
  have hU0 := used_nn (logM_nn (fill := fill) (sizes := sizes) hg ha)
  -- what is to be written, by the slots
  have eW : (logM g a fill sizes 0 a.pos 0).flatMap (txWr g ep (fun s => !fB which 0 K s) (fun s => !fB which 1 K s)) = ((List.range (usedM (logM g a fill sizes 0 a.pos 0)).toNat).map (offs g a)).flatMap (fW g (logM g a fill sizes 0 a.pos 0) ep which) := by
    have hs := slots_take (fill := fill) (sizes := sizes) hg ha (logM g a fill sizes 0 a.pos 0).length (Nat.le_refl _)
    rw [List.take_length] at hs
    rw [← hs, List.flatMap_assoc]
    refine flatMap_ext fun t ht => ?_
    obtain ⟨j, hj, rfl⟩ := log_mem ht
    unfold txWr
    rw [List.flatMap_map]
    refine flatMap_ext fun k hk => ?_
    have hk := List.mem_range.1 hk
    obtain ⟨r1, r2⟩ := recW_at (ep := ep) hg ha hj hk
    obtain ⟨s, es⟩ := Int.eq_ofNat_of_zero_le r1.1
    unfold recWr
    rw [← r2, es, Int.toNat_natCast]
    have hsl : (s : Int) < g.sl := by rw [es] at r1; exact r1.2
    have hb : ∀ c : Int, fB which c K (s : Nat) = fQ which c s := fun c => by
      cases hq : fQ which c s with
      | true =>
        refine fB_iff.2 ⟨s, ?_, rfl, hq⟩
        rcases hK2 with h | h
        · omega
        · unfold fQ fSp at hq
          simp only [Bool.and_eq_true, decide_eq_true_eq] at hq
          omega
      | false =>
        rw [← Bool.not_eq_true]
        intro e
        obtain ⟨i, i1, i2, i3⟩ := fB_iff.1 e
        rw [show s = i by omega, i3] at hq
        cases hq
    dsimp only
    rw [hb, hb]
    unfold fW fQ
    have hc := fC_01 which s
    cases hsp : fSp which s with
    | false => simp [wantsB]
    | true =>
      rcases hc with hc | hc <;> rw [hc] <;> simp [wantsB]
  -- what was spoilt of somebody's, by the slots
  have eV : ((List.range K).flatMap (fW g (logM g a fill sizes 0 a.pos 0) ep which)).filter (fun x => (whoM g ((x.addr - g.an).tmod g.sl) (logM g a fill sizes 0 a.pos 0) 0).isSome) = ((List.range g.sl.toNat).filter fun s => (whoM g ((s : Nat) : Int) (logM g a fill sizes 0 a.pos 0) 0).isSome).flatMap (fW g (logM g a fill sizes 0 a.pos 0) ep which) := by
    have eK : (List.range K).flatMap (fW g (logM g a fill sizes 0 a.pos 0) ep which) = (List.range g.sl.toNat).flatMap (fW g (logM g a fill sizes 0 a.pos 0) ep which) := by
      rcases hK2 with h | h
      · rw [show K = g.sl.toNat by omega]
      · rw [show g.sl.toNat = K + (g.sl.toNat - K) by omega, List.range_add, List.flatMap_append, List.flatMap_map]
        rw [show ((List.range (g.sl.toNat - K)).flatMap fun i => fW g (logM g a fill sizes 0 a.pos 0) ep which (K + i)) = [] from List.flatMap_eq_nil_iff.2 fun i _ => by
          unfold fW fSp
          rw [decide_eq_false (show ¬ K + i < which.length by omega)]
          rfl]
        rw [List.append_nil]
    rw [eK]
    have : ∀ l : List Nat, (∀ s ∈ l, (s : Int) < g.sl) → (l.flatMap (fW g (logM g a fill sizes 0 a.pos 0) ep which)).filter (fun x => (whoM g ((x.addr - g.an).tmod g.sl) (logM g a fill sizes 0 a.pos 0) 0).isSome) = (l.filter fun s => (whoM g ((s : Nat) : Int) (logM g a fill sizes 0 a.pos 0) 0).isSome).flatMap (fW g (logM g a fill sizes 0 a.pos 0) ep which) := by
      intro l
      induction l with
      | nil => intro _; rfl
      | cons s r ih =>
        intro hl
        have hs := hl s (by simp)
        rw [List.flatMap_cons, List.filter_append, ih (fun x hx => hl x (List.mem_cons_of_mem _ hx)), List.filter_cons]
        have ew : (fW g (logM g a fill sizes 0 a.pos 0) ep which s).filter (fun x => (whoM g ((x.addr - g.an).tmod g.sl) (logM g a fill sizes 0 a.pos 0) 0).isSome) = if (whoM g ((s : Nat) : Int) (logM g a fill sizes 0 a.pos 0) 0).isSome = true then fW g (logM g a fill sizes 0 a.pos 0) ep which s else [] := by
          unfold fW
          split
          · rw [List.filter_cons, List.filter_nil]
            have hm : (logAt g (fC which s) (s : Nat) - g.an).tmod g.sl = (s : Nat) := by
              unfold logAt
              rcases fC_01 which s with h | h <;> rw [h]
              · rw [show g.an + 0 * g.sl + (s : Int) - g.an = s by omega, tmod_lo (by omega) hs]
              · rw [show g.an + 1 * g.sl + (s : Int) - g.an = s + g.sl by omega, tmod_hi (by omega) (by omega) (by omega)]
                omega
            dsimp only
            rw [hm]
          · split <;> rfl
        rw [ew]
        split
        · rw [List.flatMap_cons]
        · rfl
    exact this _ fun s hs => by have := List.mem_range.1 hs; omega
  rw [eW, eV]
  refine List.Perm.flatMap_right _ ?_
  rw [List.perm_ext_iff_of_nodup (offs_nodup ha _ (by omega)) (List.Pairwise.filter _ List.nodup_range)]
  intro s
  rw [List.mem_filter, List.mem_range, List.mem_map]
  constructor
  · rintro ⟨u, hu, rfl⟩
    have hu := List.mem_range.1 hu
    refine ⟨offs_lt hg ha u, ?_⟩
    rw [who_offs hg ha (by omega)]
    exact decide_eq_true (by omega)
  · rintro ⟨hs, hw⟩
    obtain ⟨u, u1, rfl⟩ := offs_surj hg ha (show (s : Int) < g.sl by omega)
    rw [who_offs hg ha u1, decide_eq_true_eq] at hw
    exact ⟨u, List.mem_range.2 (by omega), rfl⟩
theorem finds_scan {which : List Int} {K : Nat} (hg : okG g = true) (ha : anOk g a = true) (hs : a.seq ≤ 1000000) (hl : sizes.length ≤ 40) (hlast : a.last ≤ a.seq + (logM g a fill sizes 0 a.pos 0).length - 1) :
    scanP g a (saysW g (logM g a fill sizes 0 a.pos 0) a.epoch (fB which 0 K)) (saysW g (logM g a fill sizes 0 a.pos 0) a.epoch (fB which 1 K)) = (logM g a fill sizes 0 a.pos 0, (logM g a fill sizes 0 a.pos 0).flatMap (txWr g a.epoch (fun s => !fB which 0 K s) (fun s => !fB which 1 K s)), 0) := by
  obtain ⟨h1, h2, h3, h4, h5⟩ := okG_iff.1 hg
  have hq := anOk_seq ha
  have hU0 := used_nn (logM_nn (fill := fill) (sizes := sizes) hg ha)
  have hb : ∀ s, (fB which 0 K s && fB which 1 K s) = false := fun s => by
    rw [← Bool.not_eq_true, Bool.and_eq_true]
    rintro ⟨e1, e2⟩
    obtain ⟨i, i1, i2, i3⟩ := fB_iff.1 e1
    obtain ⟨j, j1, j2, j3⟩ := fB_iff.1 e2
    have : i = j := by omega
    subst this
    unfold fQ at i3 j3
    simp only [Bool.and_eq_true, decide_eq_true_eq] at i3 j3
    omega
  obtain ⟨f, e1, e2, e3⟩ := scan_B (g := g) (a := a) (b := a) (fill := fill) (sizes := sizes) (ep := a.epoch) (p := saysW g (logM g a fill sizes 0 a.pos 0) a.epoch (fB which 0 K)) (q := saysW g (logM g a fill sizes 0 a.pos 0) a.epoch (fB which 1 K)) (b0 := fun s => !fB which 0 K s) (b1 := fun s => !fB which 1 K s) hg ha hs hl rfl rfl (fun t ht => by
    obtain ⟨j, hj, rfl⟩ := log_mem ht
    exact allB_W (b := a) hg ha hj (Nat.le_refl _) (.inl rfl) fun k _ => hb _)
  rw [e3, scanLP_end]
  · rw [finM_neg (by omega)]
  · intro hleft
    have hP := slotM_0 (x := a.pos + usedM (logM g a fill sizes 0 a.pos 0)) hg (by omega)
    have q1 := Int.tmod_nonneg g.sl (show 0 ≤ a.pos + usedM (logM g a fill sizes 0 a.pos 0) by omega)
    have q2 := Int.tmod_lt_of_pos (a.pos + usedM (logM g a fill sizes 0 a.pos 0)) (show 0 < g.sl by omega)
    have hz : ∀ c, saysW g (logM g a fill sizes 0 a.pos 0) a.epoch (fB which c K) ((a.pos + usedM (logM g a fill sizes 0 a.pos 0)).tmod g.sl) = if fB which c K ((a.pos + usedM (logM g a fill sizes 0 a.pos 0)).tmod g.sl) = true then none else some zeroC := fun c => by
      rw [saysW_at ⟨q1, q2⟩, recW_free hg ha (Int.le_refl _) (by omega)]
    have hbs := hb ((a.pos + usedM (logM g a fill sizes 0 a.pos 0)).tmod g.sl)
    refine txn_other ?_ ?_ ?_
    all_goals
      rw [hP, hz]
    · intro of_ left
      split
      · rfl
      · exact one_zero _ _ _ _ _
    · intro of_ left
      split
      · rfl
      · exact one_zero _ _ _ _ _
    · rw [hz]
      cases h0 : fB which 0 K ((a.pos + usedM (logM g a fill sizes 0 a.pos 0)).tmod g.sl) <;> cases h1 : fB which 1 K ((a.pos + usedM (logM g a fill sizes 0 a.pos 0)).tmod g.sl)
      · rfl
      · rfl
      · rfl
      · rw [h0, h1] at hbs
        cases hbs
end
end Go.Proofs.YteecmgonbdbhdaaDoor.A
end

/-
The law ScanFinds.
-/
section
namespace Go.Proofs.YteecmgonbdbhdaaDoor.A
open Go.RowKit

theorem written_get (g : Geo) (L : List Tx) (ep c : Int) (n : Nat) (k : Nat) (hk : k < n) : (writtenM g L ep c n).getD k gz = ⟨0, cellB g (recW g L ep (k : Nat)) c (k : Nat)⟩ := by
  unfold writtenM
  rw [map_getD (d := 0) (by rw [List.length_range]; omega)]
  rw [List.getD_eq_getElem?_getD, List.getElem?_range (by omega)]
  rfl
/-- The rows as they stand while copies are spoilt. -/
def fE (which : List Int) (bits : Int) (s : Nat) (x : Gt) : List AV := if (fU which s).tmod 3 = 0 then [.v (.int .i64 6), .v (.slice none 0 0)] else gotC ⟨x.err, flipT x.bytes (bits + s) bits⟩
def fR (which : List Int) (bits c : Int) (X : List Gt) : Nat → List (List AV)
  | 0 => X.map gotC
  | k + 1 => if fQ which c k = true then (fR which bits c X k).set k (fE which bits k (X.getD k gz)) else fR which bits c X k
theorem fR_succ (which : List Int) (bits c : Int) (X : List Gt) (k : Nat) : fR which bits c X (k + 1) = if fQ which c k = true then (fR which bits c X k).set k (fE which bits k (X.getD k gz)) else fR which bits c X k := rfl
theorem getD_set_ {α : Type} {l : List α} {k : Nat} {x d : α} (h : k < l.length) : (l.set k x).getD k d = x := by
  rw [List.getD_eq_getElem?_getD, List.getElem?_set_self h]
  rfl
theorem fC_one (which : List Int) (k : Nat) : fC which k = (fU which k).tmod 2 := by
  have h0 : 0 ≤ fU which k := by unfold fU; rw [IntKind.wrap_u64]; omega
  have h1 := Int.tmod_nonneg 2 h0
  have h2 := Int.tmod_lt_of_pos (fU which k) (show (0 : Int) < 2 by decide)
  show IntKind.i64.wrap ((fU which k).tmod 2) = _
  exact wi (by omega)
theorem fE_sub (which : List Int) (bits : Int) (s : Nat) (x : Gt) : SubL (fE which bits s x) (gotC (fZ which bits s x)) := by
  unfold fE fZ
  split
  · exact ⟨fun _ _ h => h, nil_sl _ _, trivial⟩
  · exact SubL.refl _
theorem fR_sub (which : List Int) (bits c : Int) (X : List Gt) : ∀ k, SubLL (fR which bits c X k) ((fL which bits c X k).map gotC)
  | 0 => SubLL.refl _
  | k + 1 => by
    unfold fR fL
    by_cases h : fQ which c k = true
    · rw [if_pos h, if_pos h, List.map_set]
      exact SubLL.set (fE_sub which bits k _) k (fR_sub which bits c X k)
    · rw [if_neg h, if_neg h]
      exact fR_sub which bits c X k
theorem fR_len (which : List Int) (bits c : Int) (X : List Gt) (k : Nat) : (fR which bits c X k).length = X.length := by
  have := (fR_sub which bits c X k).len
  rw [List.length_map, fL_len] at this
  exact this
theorem fR_get (which : List Int) (bits c : Int) (X : List Gt) : ∀ k j, k ≤ j → j < X.length → (fR which bits c X k).getD j [] = gotC (X.getD j gz)
  | 0, j, _, hj => map_getD hj
  | k + 1, j, hk, hj => by
    have ih := fR_get which bits c X k j (by omega) hj
    unfold fR
    split
    · rw [List.getD_eq_getElem?_getD, List.getElem?_set_ne (by omega), ← List.getD_eq_getElem?_getD, ih]
    · exact ih
theorem fL_short {which : List Int} {bits c : Int} {X : List Gt} {m : Nat} (h : ∀ z ∈ X, z.bytes.length ≤ m) : ∀ k, k ≤ X.length → ∀ z ∈ fL which bits c X k, z.bytes.length ≤ m
  | 0, _ => h
  | k + 1, hk => by
    have ih := fL_short (which := which) (bits := bits) (c := c) h k (by omega)
    unfold fL
    split
    · intro z hz
      rcases List.mem_or_eq_of_mem_set hz with hz | rfl
      · exact ih z hz
      · unfold fZ
        split
        · exact Nat.zero_le _
        · rw [flipT_length]
          exact h _ (getD_mem (by omega))
    · exact ih
def wantL (g : Geo) (L : List Tx) (ep : Int) (which : List Int) (k : Nat) : List Wr := (List.range k).flatMap (fW g L ep which)
theorem wantL_succ (g : Geo) (L : List Tx) (ep : Int) (which : List Int) (k : Nat) : wantL g L ep which (k + 1) = wantL g L ep which k ++ fW g L ep which k := by
  unfold wantL
  rw [List.range_succ, List.flatMap_append]
  simp
theorem wantL_len (g : Geo) (L : List Tx) (ep : Int) (which : List Int) : ∀ k, (wantL g L ep which k).length ≤ k
  | 0 => by simp [wantL]
  | k + 1 => by
    have := wantL_len g L ep which k
    rw [wantL_succ, List.length_append]
    unfold fW
    split <;> simp <;> omega
theorem wantL_mem {g : Geo} {L : List Tx} {ep : Int} {which : List Int} {k : Nat} {x : Wr} (h : x ∈ wantL g L ep which k) : ∃ s : Nat, s < k ∧ x = ⟨logAt g (fC which s) (s : Nat), cellB g (recW g L ep (s : Nat)) (fC which s) (s : Nat)⟩ := by
  unfold wantL at h
  obtain ⟨s, hs, h⟩ := List.mem_flatMap.1 h
  have hs := List.mem_range.1 hs
  unfold fW at h
  split at h
  · exact ⟨s, hs, by simpa using h⟩
  · simp at h
theorem wantL_in {g : Geo} {L : List Tx} {ep : Int} {which : List Int} (k : Nat) (hk : (k : Int) ≤ g.sl) : ∀ x ∈ wantL g L ep which k, 0 ≤ x.addr - g.an ∧ x.addr - g.an < 2 * g.sl := by
  intro x hx
  obtain ⟨s, hs, rfl⟩ := wantL_mem hx
  unfold logAt
  rcases fC_01 which s with h | h <;> rw [h] <;> dsimp only <;> omega
theorem wantL_short {g : Geo} {L : List Tx} {ep : Int} {which : List Int} (hOk : LogOk g L ep) (k : Nat) (hk : (k : Int) ≤ g.sl) : ∀ x ∈ wantL g L ep which k, x.bytes.length ≤ 100000 := by
  intro x hx
  obtain ⟨s, hs, rfl⟩ := wantL_mem hx
  exact cellB_short (hOk.ok (s : Nat) (by omega)) _ _
theorem wr_ext {x y : Wr} (h1 : x.addr = y.addr) (h2 : x.bytes = y.bytes) : x = y := by
  cases x; cases y; simp_all
def cntW (g : Geo) (L : List Tx) (l : List Wr) : Nat := (l.filter fun x => (whoM g ((x.addr - g.an).tmod g.sl) L 0).isSome).length
theorem cntW_le (g : Geo) (L : List Tx) (l : List Wr) : cntW g L l ≤ l.length := List.length_filter_le _ _
theorem cntW_take (g : Geo) (L : List Tx) (l : List Wr) (i : Nat) (h : i < l.length) : cntW g L (l.take (i + 1)) = cntW g L (l.take i) + if (whoM g (((l.getD i ⟨0, []⟩).addr - g.an).tmod g.sl) L 0).isSome = true then 1 else 0 := by
  unfold cntW
  rw [List.take_succ_eq_append_getElem h, List.filter_append, List.length_append, List.filter_cons, List.filter_nil]
  rw [show l[i] = l.getD i ⟨0, []⟩ by rw [List.getD_eq_getElem?_getD, List.getElem?_eq_getElem h]; rfl]
  congr 1
  split <;> rfl
def isW (W : List Wr) (y : Wr) : Nat → Bool
  | 0 => false
  | q + 1 => isW W y q || decide (W.getD q ⟨0, []⟩ = y)
theorem isW_of {W : List Wr} {y : Wr} : ∀ {n : Nat} {q : Nat}, q < n → W.getD q ⟨0, []⟩ = y → isW W y n = true
  | 0, _, h, _ => by omega
  | n + 1, q, h, e => by
    unfold isW
    by_cases hq : q = n
    · subst hq
      rw [decide_eq_true e, Bool.or_true]
    · rw [isW_of (n := n) (by omega) e, Bool.true_or]
theorem isW_all (W : List Wr) (y : Wr) (h : y ∈ W) : isW W y W.length = true := by
  obtain ⟨q, hq, rfl⟩ := List.mem_iff_getElem.1 h
  refine isW_of hq ?_
  rw [List.getD_eq_getElem?_getD, List.getElem?_eq_getElem hq]
  rfl
set_option maxRecDepth 100000 in
theorem finds18_fn (g : Geo) (a : An) (sizes : List Int) (fill : UInt8) (which : List Int) (bits0 : Int) : Fn Tryd.prog 7 [.ag (geoC g), .ag (anC a), iA sizes, .v (.int .u8 fill.toNat), iA which, .v (.int .i64 bits0)] fun r => r = .v (.bool true) := by
  have hw := wakes18_fn
  refine Fn.of tys_ok Tryd.func7 rfl rfl (Nat.le_of_ble_eq_true rfl) ?_
  conv => whnf
  refine Fn.closed (heavyA_fn a) rfl ?_
  rintro _ rfl
  conv => whnf
  refine boolI (fun t1 => ?_) (fun t1 => ?_) <;> (repeat rw [Int.toNat_natCast] at t1) <;> conv => whnf
  · exact ⟨_, fun _ _ h => h, rfl⟩
  obtain ⟨hh, hl⟩ := heavyA_no t1
  refine boolI (fun t2 => ?_) (fun t2 => ?_) <;> (repeat rw [Int.toNat_natCast] at t2) <;> conv => whnf
  · exact ⟨_, fun _ _ h => h, rfl⟩
  refine boolI (fun t2b => ?_) (fun t2b => ?_) <;> (repeat rw [Int.toNat_natCast] at t2b) <;> conv => whnf
  · exact ⟨_, fun _ _ h => h, rfl⟩
  refine Fn.closed (rgeom_br g) rfl ?_
  rintro _ rfl
  conv => whnf
  refine boolI (fun t3 => ?_) (fun t3 => ?_) <;> (repeat rw [Int.toNat_natCast] at t3) <;> conv => whnf
  · exact ⟨_, fun _ _ h => h, rfl⟩
  refine Fn.closed (ranchor_fn g a t3 (by omega)) rfl ?_
  rintro _ rfl
  conv => whnf
  refine boolI (fun t4 => ?_) (fun t4 => ?_) <;> (repeat rw [Int.toNat_natCast] at t4) <;> conv => whnf
  · exact ⟨_, fun _ _ h => h, rfl⟩
  refine boolI (fun t5 => ?_) (fun t5 => ?_) <;> (repeat rw [Int.toNat_natCast] at t5) <;> conv => whnf
  · exact ⟨_, fun _ _ h => h, rfl⟩
  have lf := log_fn16 g a sizes fill t3 t4 (by omega) (by omega)
  obtain ⟨h1, h2, h3, h4, h5⟩ := okG_iff.1 t3
  have hq := anOk_seq t4
  have ap := anOk_parts t4
  have hlen := logM_len (g := g) (a := a) (fill := fill) sizes 0 a.pos 0 (by omega)
  have hOk := logM_ok (fill := fill) (sizes := sizes) (epoch := a.epoch) t3 t4 (by omega) (by omega)
  have hS := fun K => finds_scan (fill := fill) (sizes := sizes) (which := which) (K := K) t3 t4 (by omega) (by omega)
  have hP := fun K hK hK2 => finds_perm (fill := fill) (sizes := sizes) (which := which) (ep := a.epoch) (K := K) t3 t4 hK hK2
  generalize logM g a fill sizes 0 a.pos 0 = L at lf hlen hOk hS hP
  refine Fn.closed (lf) rfl ?_
  rintro _ rfl
  conv => whnf
  have w0 : IntKind.i64.wrap (IntKind.i64.wrap (a.seq + (L.length : Int)) - 1) = a.seq + L.length - 1 := by rw [wi (n := a.seq + (L.length : Int)) (by omega), wi (by omega)]
  rw [w0]
  refine boolI (fun u1 => ?_) (fun u1 => ?_) <;> (repeat rw [Int.toNat_natCast] at u1) <;> conv => whnf
  · exact ⟨_, fun _ _ h => h, rfl⟩
  have wf := written_fno g L a.epoch t3 hOk
  refine FnO.call (wf) rfl ?_
  rintro _ _ ⟨rfl, rfl⟩
  conv => whnf
  refine And.intro (by decide) ?_
  conv => whnf
  obtain ⟨bits, hbits⟩ : ∃ b, b = IntKind.i64.wrap ((IntKind.u64.wrap bits0).tmod 1000000) := ⟨_, rfl⟩
  rw [← hbits]
  have hb := modU_in (x := bits0) (n := 1000000) (by decide) (by decide)
  rw [show modU bits0 1000000 = bits from hbits.symm] at hb
  have hX := written_len g L a.epoch 0 g.sl.toNat
  have hY := written_len g L a.epoch 1 g.sl.toNat
  have bX := written_short hOk 0
  have bY := written_short hOk 1
  have gX : ∀ k, k < g.sl.toNat → (writtenM g L a.epoch 0 g.sl.toNat).getD k gz = ⟨0, cellB g (recW g L a.epoch (k : Nat)) 0 (k : Nat)⟩ := written_get g L a.epoch 0 g.sl.toNat
  have gY : ∀ k, k < g.sl.toNat → (writtenM g L a.epoch 1 g.sl.toNat).getD k gz = ⟨0, cellB g (recW g L a.epoch (k : Nat)) 1 (k : Nat)⟩ := written_get g L a.epoch 1 g.sl.toNat
  have sX := fun K hK => fL_says (bits := bits) (which := which) (c := 0) t3 hOk (.inl rfl) K hK
  have sY := fun K hK => fL_says (bits := bits) (which := which) (c := 1) t3 hOk (.inr rfl) K hK
  generalize writtenM g L a.epoch 0 g.sl.toNat = X at *
  generalize writtenM g L a.epoch 1 g.sl.toNat = Y at *
  refine aLoop.rule Nat (fun k => ([(4, iA which), (5, .v (.int .i64 bits)), (6, .bp 0 0), (7, .bp 1 0), (13, txsA L), (14, .ow 2 g.sl.toNat), (15, .ow 3 g.sl.toNat), (16, .ow 4 (wantL g L a.epoch which k).length), (17, .v (.int .i64 k))], [.box 23 (geoC g), .box 26 (anC a), .row 30 2 (fR which bits 0 X k), .row 30 2 (fR which bits 1 Y k), .row 75 2 ((wantL g L a.epoch which k).map wrC)]))
    (fun k => k ≤ g.sl.toNat) (fun k => g.sl.toNat - k) 0 (Nat.zero_le _) ⟨[(16, 75, 2)], ⟨rfl, rfl, trivial⟩, ⟨rfl, rfl, rfl, rfl, rfl, rfl, rfl, rfl, rfl, trivial⟩, ⟨rfl, rfl, rfl, rfl, rfl, trivial⟩, rfl, rfl, rfl⟩ ?_
  intro k hk
  conv => whnf
  refine boolI (fun c1 => ?A) (fun c1 => ?B)
  case' A => conv => whnf
  case' A => refine boolI (fun c2 => ?A1) (fun c2 => ?A2)
  case A1 =>
      conv => whnf
      have lR0 := fR_len which bits 0 X k
      have lR1 := fR_len which bits 1 Y k
      have gR0 := fR_get which bits 0 X k k (Nat.le_refl _) (by omega)
      have gR1 := fR_get which bits 1 Y k k (Nat.le_refl _) (by omega)
      rw [gX k (by omega)] at gR0
      rw [gY k (by omega)] at gR1
      refine aSeq.go ?_
      conv => whnf
      refine ⟨by first | omega | (refine ⟨rfl, ?_, ?_⟩ <;> first | omega | (simp only [List.length_map]; done) | (simp only [List.length_map]; omega) | (simp only [List.length_set]; omega)) | (simp only [List.length_map]; omega), ?_⟩
      conv => whnf
      refine aSeq.go ?_
      conv => whnf
      refine ⟨by first | omega | (refine ⟨rfl, ?_, ?_⟩ <;> first | omega | (simp only [List.length_map]; done) | (simp only [List.length_map]; omega) | (simp only [List.length_set]; omega)) | (simp only [List.length_map]; omega), ?_⟩
      conv => whnf
      refine And.intro (by decide) ?_
      conv => whnf
      refine boolI (fun d1 => ?_) (fun d1 => ?_) <;> (repeat rw [Int.toNat_natCast] at d1) <;> conv => whnf
      · skip
        refine ⟨by first | omega | (refine ⟨rfl, ?_, ?_⟩ <;> first | omega | (simp only [List.length_map]; done) | (simp only [List.length_map]; omega) | (simp only [List.length_set]; omega)) | (simp only [List.length_map]; omega), ?_⟩
        conv => whnf
        refine ⟨by first | omega | (refine ⟨rfl, ?_, ?_⟩ <;> first | omega | (simp only [List.length_map]; done) | (simp only [List.length_map]; omega) | (simp only [List.length_set]; omega)) | (simp only [List.length_map]; omega), ?_⟩
        conv => whnf
        refine And.intro (by decide) ?_
        conv => whnf
        refine boolI (fun d2 => ?_) (fun d2 => ?_) <;> (repeat rw [Int.toNat_natCast] at d2) <;> conv => whnf
        · have d2' : ¬ ¬ (fU which k).tmod 5 > 2 := not_not_intro d2
          have hq0 : ¬ fQ which 0 k = true := by unfold fQ fSp; rw [decide_eq_false d2']; simp
          have hq1 : ¬ fQ which 1 k = true := by unfold fQ fSp; rw [decide_eq_false d2']; simp
          have hsp : fW g L a.epoch which k = [] := by unfold fW fSp; rw [decide_eq_false d2']; simp
          exact ⟨k + 1, by omega, by omega, [], trivial, ⟨rfl, rfl, rfl, rfl, rfl, rfl, rfl, by rw [wantL_succ, hsp, List.append_nil]; rfl, wsucc (by omega), trivial⟩, ⟨rfl, rfl, by rw [fR_succ, if_neg hq0], by rw [fR_succ, if_neg hq1], by rw [wantL_succ, hsp, List.append_nil], trivial⟩, rfl, rfl, rfl⟩
        · have d2' : ¬ (fU which k).tmod 5 > 2 := Int.not_lt.2 d2
          have hfc : fC which k = 1 := by
            rw [fC_one]
            have h0 : 0 ≤ fU which k := by unfold fU; rw [IntKind.wrap_u64]; omega
            have h1 := Int.tmod_nonneg 2 h0
            have h2 := Int.tmod_lt_of_pos (fU which k) (show (0 : Int) < 2 by decide)
            have d1' : (fU which k).tmod 2 = 1 := d1
            omega
          have hs1 : fSp which k = true := by unfold fSp; rw [decide_eq_true (show k < which.length by omega), decide_eq_true d2']; rfl
          have hq : fQ which 1 k = true := by unfold fQ; rw [hs1, hfc]; rfl
          have hqo : ¬ fQ which 0 k = true := by unfold fQ; rw [hs1, hfc]; decide
          have gW : Y.getD k gz = ⟨0, cellB g (recW g L a.epoch (k : Nat)) 1 (k : Nat)⟩ := gY k (by omega)
          have hsp : fW g L a.epoch which k = [⟨logAt g (fC which k) (k : Nat), cellB g (recW g L a.epoch (k : Nat)) 1 (k : Nat)⟩] := by unfold fW; rw [if_pos hs1, hfc]
          have hcl := cellB_short (hOk.ok (k : Nat) (by omega)) 1 (k : Nat)
          have hL : okL g (fC which k) (k : Nat) = true := okL_c (fC_01 which k) (by omega)
          have wb : IntKind.i64.wrap (bits + (k : Int)) = bits + k := wi (by omega)
          refine ⟨by first | omega | (refine ⟨rfl, ?_, ?_⟩ <;> first | omega | (simp only [List.length_map]; done) | (simp only [List.length_map]; omega) | (simp only [List.length_set]; omega)) | (simp only [List.length_map]; omega), ?_⟩
          conv => whnf
          rw [Int.toNat_natCast, gR1]
          conv => whnf
          refine Fn.closed (twin_fn (cellB g (recW g L a.epoch (k : Nat)) 1 (k : Nat)) (by omega)) rfl ?_
          rintro _ rfl
          conv => whnf
          refine aSeq.cut Unit (fun _ => ([(4, iA which), (5, .v (.int .i64 bits)), (6, .bp 0 0), (7, .bp 1 0), (13, txsA L), (14, .ow 2 g.sl.toNat), (15, .ow 3 g.sl.toNat), (16, .ow 4 (wantL g L a.epoch which k).length), (17, .v (.int .i64 k)), (19, bA (cellB g (recW g L a.epoch (k : Nat)) 1 (k : Nat)))], [.box 23 (geoC g), .box 26 (anC a), .row 30 2 (fR which bits 0 X (k + 1)), .row 30 2 (fR which bits 1 Y (k + 1)), .row 75 2 ((wantL g L a.epoch which k).map wrC)])) (fun _ => True) ?_ ?_
          · conv => whnf
            refine ⟨by first | omega | (refine ⟨rfl, ?_, ?_⟩ <;> first | omega | (simp only [List.length_map]; done) | (simp only [List.length_map]; omega) | (simp only [List.length_set]; omega)) | (simp only [List.length_map]; omega), ?_⟩
            conv => whnf
            refine And.intro (by decide) ?_
            conv => whnf
            refine boolI (fun d3 => ?_) (fun d3 => ?_) <;> (repeat rw [Int.toNat_natCast] at d3) <;> conv => whnf
            · have d3' : (fU which k).tmod 3 = 0 := d3
              refine ⟨by first | omega | (refine ⟨rfl, ?_, ?_⟩ <;> first | omega | (simp only [List.length_map]; done) | (simp only [List.length_map]; omega) | (simp only [List.length_set]; omega)) | (simp only [List.length_map]; omega), ?_⟩
              conv => whnf
              rw [Int.toNat_natCast, gR1]
              conv => whnf
              refine ⟨by first | omega | (refine ⟨rfl, ?_, ?_⟩ <;> first | omega | (simp only [List.length_map]; done) | (simp only [List.length_map]; omega) | (simp only [List.length_set]; omega)) | (simp only [List.length_map]; omega), ?_⟩
              conv => whnf
              (try rw [Int.toNat_natCast])
              rw [getD_set_ (by omega)]
              conv => whnf
              exact ⟨(), trivial, [], trivial, ⟨rfl, rfl, rfl, rfl, rfl, rfl, rfl, rfl, rfl, rfl, trivial⟩, ⟨rfl, rfl, by rw [fR_succ, if_neg hqo], by rw [fR_succ, if_pos hq]; unfold fE; rw [if_pos d3', List.set_set], rfl, trivial⟩, rfl, rfl, rfl⟩
            · have d3' : ¬ (fU which k).tmod 3 = 0 := d3
              refine ⟨by first | omega | (refine ⟨rfl, ?_, ?_⟩ <;> first | omega | (simp only [List.length_map]; done) | (simp only [List.length_map]; omega) | (simp only [List.length_set]; omega)) | (simp only [List.length_map]; omega), ?_⟩
              conv => whnf
              rw [Int.toNat_natCast, gR1]
              conv => whnf
              rw [wb]
              refine Fn.closed (rflip_fn (cellB g (recW g L a.epoch (k : Nat)) 1 (k : Nat)) (bits + k) bits (by omega)) rfl ?_
              rintro _ rfl
              conv => whnf
              refine ⟨by first | omega | (refine ⟨rfl, ?_, ?_⟩ <;> first | omega | (simp only [List.length_map]; done) | (simp only [List.length_map]; omega) | (simp only [List.length_set]; omega)) | (simp only [List.length_map]; omega), ?_⟩
              conv => whnf
              (try rw [Int.toNat_natCast])
              rw [gR1]
              conv => whnf
              exact ⟨(), trivial, [], trivial, ⟨rfl, rfl, rfl, rfl, rfl, rfl, rfl, rfl, rfl, rfl, trivial⟩, ⟨rfl, rfl, by rw [fR_succ, if_neg hqo], by rw [fR_succ, if_pos hq]; unfold fE; rw [if_neg d3', gW]; rfl, rfl, trivial⟩, rfl, rfl, rfl⟩
          · rintro ⟨⟩ -
            conv => whnf
            have hwl := wantL_len g L a.epoch which k
            apply aDraw.tree tys_ok mixed (.one 0 (.one 1 (.one 2 (.one 3 (.one 4 (.one 5 (.one 6 (.one 7 (.one 8 (.one 9 (.one 11 (.one 10 (.one 12 (.one 13 (.one 14 (.one 15 .fin)))))))))))))))) [16, 147, 148, 149, 150, 151, 152, 153, 154, 155, 156, 157, 158, 159, 160, 161] (by kernel_rfl)
            · conv => whnf
              try (refine And.intro (by omega) ?_; conv => whnf)
              try (refine And.intro (by omega) ?_; conv => whnf)
              refine Fn.closed (rlogAt_fn g (fC which k) (k : Nat) t3 hL) rfl ?_
              rintro _ rfl
              conv => whnf
              try (refine And.intro (by first | rfl | omega) ?_; conv => whnf)
              try (refine And.intro (by first | omega | exact ⟨by first | rfl | (simp only [List.length_map]; done) | (simp only [List.length_map]; omega), by omega⟩) ?_; conv => whnf)
              exact ⟨rfl, rfl⟩
            conv => whnf
            exact ⟨k + 1, by omega, by omega, [], trivial, ⟨rfl, rfl, rfl, rfl, rfl, rfl, rfl, by rw [wantL_succ, hsp, List.length_append]; rfl, wsucc (by omega), trivial⟩, ⟨rfl, rfl, rfl, rfl, by rw [wantL_succ, hsp, List.map_append]; rfl, trivial⟩, rfl, rfl, rfl⟩
      · skip
        refine ⟨by first | omega | (refine ⟨rfl, ?_, ?_⟩ <;> first | omega | (simp only [List.length_map]; done) | (simp only [List.length_map]; omega) | (simp only [List.length_set]; omega)) | (simp only [List.length_map]; omega), ?_⟩
        conv => whnf
        refine And.intro (by decide) ?_
        conv => whnf
        refine boolI (fun d2 => ?_) (fun d2 => ?_) <;> (repeat rw [Int.toNat_natCast] at d2) <;> conv => whnf
        · have d2' : ¬ ¬ (fU which k).tmod 5 > 2 := not_not_intro d2
          have hq0 : ¬ fQ which 0 k = true := by unfold fQ fSp; rw [decide_eq_false d2']; simp
          have hq1 : ¬ fQ which 1 k = true := by unfold fQ fSp; rw [decide_eq_false d2']; simp
          have hsp : fW g L a.epoch which k = [] := by unfold fW fSp; rw [decide_eq_false d2']; simp
          exact ⟨k + 1, by omega, by omega, [], trivial, ⟨rfl, rfl, rfl, rfl, rfl, rfl, rfl, by rw [wantL_succ, hsp, List.append_nil]; rfl, wsucc (by omega), trivial⟩, ⟨rfl, rfl, by rw [fR_succ, if_neg hq0], by rw [fR_succ, if_neg hq1], by rw [wantL_succ, hsp, List.append_nil], trivial⟩, rfl, rfl, rfl⟩
        · have d2' : ¬ (fU which k).tmod 5 > 2 := Int.not_lt.2 d2
          have hfc : fC which k = 0 := by
            rw [fC_one]
            have h0 : 0 ≤ fU which k := by unfold fU; rw [IntKind.wrap_u64]; omega
            have h1 := Int.tmod_nonneg 2 h0
            have h2 := Int.tmod_lt_of_pos (fU which k) (show (0 : Int) < 2 by decide)
            have d1' : ¬ (fU which k).tmod 2 = 1 := d1
            omega
          have hs1 : fSp which k = true := by unfold fSp; rw [decide_eq_true (show k < which.length by omega), decide_eq_true d2']; rfl
          have hq : fQ which 0 k = true := by unfold fQ; rw [hs1, hfc]; rfl
          have hqo : ¬ fQ which 1 k = true := by unfold fQ; rw [hs1, hfc]; decide
          have gW : X.getD k gz = ⟨0, cellB g (recW g L a.epoch (k : Nat)) 0 (k : Nat)⟩ := gX k (by omega)
          have hsp : fW g L a.epoch which k = [⟨logAt g (fC which k) (k : Nat), cellB g (recW g L a.epoch (k : Nat)) 0 (k : Nat)⟩] := by unfold fW; rw [if_pos hs1, hfc]
          have hcl := cellB_short (hOk.ok (k : Nat) (by omega)) 0 (k : Nat)
          have hL : okL g (fC which k) (k : Nat) = true := okL_c (fC_01 which k) (by omega)
          have wb : IntKind.i64.wrap (bits + (k : Int)) = bits + k := wi (by omega)
          refine ⟨by first | omega | (refine ⟨rfl, ?_, ?_⟩ <;> first | omega | (simp only [List.length_map]; done) | (simp only [List.length_map]; omega) | (simp only [List.length_set]; omega)) | (simp only [List.length_map]; omega), ?_⟩
          conv => whnf
          rw [Int.toNat_natCast, gR0]
          conv => whnf
          refine Fn.closed (twin_fn (cellB g (recW g L a.epoch (k : Nat)) 0 (k : Nat)) (by omega)) rfl ?_
          rintro _ rfl
          conv => whnf
          refine aSeq.cut Unit (fun _ => ([(4, iA which), (5, .v (.int .i64 bits)), (6, .bp 0 0), (7, .bp 1 0), (13, txsA L), (14, .ow 2 g.sl.toNat), (15, .ow 3 g.sl.toNat), (16, .ow 4 (wantL g L a.epoch which k).length), (17, .v (.int .i64 k)), (19, bA (cellB g (recW g L a.epoch (k : Nat)) 0 (k : Nat)))], [.box 23 (geoC g), .box 26 (anC a), .row 30 2 (fR which bits 0 X (k + 1)), .row 30 2 (fR which bits 1 Y (k + 1)), .row 75 2 ((wantL g L a.epoch which k).map wrC)])) (fun _ => True) ?_ ?_
          · conv => whnf
            refine ⟨by first | omega | (refine ⟨rfl, ?_, ?_⟩ <;> first | omega | (simp only [List.length_map]; done) | (simp only [List.length_map]; omega) | (simp only [List.length_set]; omega)) | (simp only [List.length_map]; omega), ?_⟩
            conv => whnf
            refine And.intro (by decide) ?_
            conv => whnf
            refine boolI (fun d3 => ?_) (fun d3 => ?_) <;> (repeat rw [Int.toNat_natCast] at d3) <;> conv => whnf
            · have d3' : (fU which k).tmod 3 = 0 := d3
              refine ⟨by first | omega | (refine ⟨rfl, ?_, ?_⟩ <;> first | omega | (simp only [List.length_map]; done) | (simp only [List.length_map]; omega) | (simp only [List.length_set]; omega)) | (simp only [List.length_map]; omega), ?_⟩
              conv => whnf
              rw [Int.toNat_natCast, gR0]
              conv => whnf
              refine ⟨by first | omega | (refine ⟨rfl, ?_, ?_⟩ <;> first | omega | (simp only [List.length_map]; done) | (simp only [List.length_map]; omega) | (simp only [List.length_set]; omega)) | (simp only [List.length_map]; omega), ?_⟩
              conv => whnf
              (try rw [Int.toNat_natCast])
              rw [getD_set_ (by omega)]
              conv => whnf
              exact ⟨(), trivial, [], trivial, ⟨rfl, rfl, rfl, rfl, rfl, rfl, rfl, rfl, rfl, rfl, trivial⟩, ⟨rfl, rfl, by rw [fR_succ, if_pos hq]; unfold fE; rw [if_pos d3', List.set_set], by rw [fR_succ, if_neg hqo], rfl, trivial⟩, rfl, rfl, rfl⟩
            · have d3' : ¬ (fU which k).tmod 3 = 0 := d3
              refine ⟨by first | omega | (refine ⟨rfl, ?_, ?_⟩ <;> first | omega | (simp only [List.length_map]; done) | (simp only [List.length_map]; omega) | (simp only [List.length_set]; omega)) | (simp only [List.length_map]; omega), ?_⟩
              conv => whnf
              rw [Int.toNat_natCast, gR0]
              conv => whnf
              rw [wb]
              refine Fn.closed (rflip_fn (cellB g (recW g L a.epoch (k : Nat)) 0 (k : Nat)) (bits + k) bits (by omega)) rfl ?_
              rintro _ rfl
              conv => whnf
              refine ⟨by first | omega | (refine ⟨rfl, ?_, ?_⟩ <;> first | omega | (simp only [List.length_map]; done) | (simp only [List.length_map]; omega) | (simp only [List.length_set]; omega)) | (simp only [List.length_map]; omega), ?_⟩
              conv => whnf
              (try rw [Int.toNat_natCast])
              rw [gR0]
              conv => whnf
              exact ⟨(), trivial, [], trivial, ⟨rfl, rfl, rfl, rfl, rfl, rfl, rfl, rfl, rfl, rfl, trivial⟩, ⟨rfl, rfl, by rw [fR_succ, if_pos hq]; unfold fE; rw [if_neg d3', gW]; rfl, by rw [fR_succ, if_neg hqo], rfl, trivial⟩, rfl, rfl, rfl⟩
          · rintro ⟨⟩ -
            conv => whnf
            have hwl := wantL_len g L a.epoch which k
            apply aDraw.tree tys_ok mixed (.one 0 (.one 1 (.one 2 (.one 3 (.one 4 (.one 5 (.one 6 (.one 7 (.one 8 (.one 9 (.one 11 (.one 10 (.one 12 (.one 13 (.one 14 (.one 15 .fin)))))))))))))))) [16, 147, 148, 149, 150, 151, 152, 153, 154, 155, 156, 157, 158, 159, 160, 161] (by kernel_rfl)
            · conv => whnf
              try (refine And.intro (by omega) ?_; conv => whnf)
              try (refine And.intro (by omega) ?_; conv => whnf)
              refine Fn.closed (rlogAt_fn g (fC which k) (k : Nat) t3 hL) rfl ?_
              rintro _ rfl
              conv => whnf
              try (refine And.intro (by first | rfl | omega) ?_; conv => whnf)
              try (refine And.intro (by first | omega | exact ⟨by first | rfl | (simp only [List.length_map]; done) | (simp only [List.length_map]; omega), by omega⟩) ?_; conv => whnf)
              exact ⟨rfl, rfl⟩
            conv => whnf
            exact ⟨k + 1, by omega, by omega, [], trivial, ⟨rfl, rfl, rfl, rfl, rfl, rfl, rfl, by rw [wantL_succ, hsp, List.length_append]; rfl, wsucc (by omega), trivial⟩, ⟨rfl, rfl, rfl, rfl, by rw [wantL_succ, hsp, List.map_append]; rfl, trivial⟩, rfl, rfl, rfl⟩
  all_goals
    conv => whnf
    have hK : (k : Int) = g.sl ∨ which.length ≤ k := by omega
    have lX : ((fL which bits 0 X k).length : Int) = g.sl := by rw [fL_len]; omega
    have lY : ((fL which bits 1 Y k).length : Int) = g.sl := by rw [fL_len]; omega
    have lRx := fR_len which bits 0 X k
    have lRy := fR_len which bits 1 Y k
    have sc := scan_fn g a (fL which bits 0 X k) (fL which bits 1 Y k) (by omega) (by omega) (fL_short bX k (by omega)) (fL_short bY k (by omega))
    rw [scanA_P t3 t4 lX lY (sX k (by omega)) (sY k (by omega)) (hS k (by omega))] at sc
    dsimp only at sc
    have hP2 := hP k (by omega) hK
    have tx0 := txns_fn L L (by omega) (fun t ht => by have := hOk.img t ht; exact ⟨by omega, fun x hx => by have := this.2 x hx; omega⟩)
    rw [decide_eq_true rfl] at tx0
    generalize L.flatMap (txWr g a.epoch (fun s => !fB which 0 k s) (fun s => !fB which 1 k s)) = W at sc hP2
    have hwl := wantL_len g L a.epoch which k
    have hVa := wantL_in (g := g) (L := L) (ep := a.epoch) (which := which) k (by omega)
    have hVs := wantL_short (which := which) hOk k (by omega)
    rw [show (List.range k).flatMap (fW g L a.epoch which) = wantL g L a.epoch which k from rfl] at hP2
    generalize wantL g L a.epoch which k = V at hP2 hwl hVa hVs ⊢
    have hWl : W.length ≤ V.length := by rw [hP2.length_eq]; exact List.length_filter_le _ _
    refine ACalls.shut (sc).go ?_
    conv => whnf
    repeat' (refine And.intro (by first | rfl | omega | (simp; done) | (simp only [List.length_map]; omega)) ?_; conv => whnf)
    refine ACalls.sub _ ?_ (Fn.closed (sc) rfl ?_)
    · repeat' (first | exact trivial | exact fun _ _ h => h | exact nil_sl _ _ | exact rows_sub (f := gotC) (fL which bits 0 X k) (by omega) (by omega) (fR_sub which bits 0 X k) | exact rows_sub (f := gotC) (fL which bits 1 Y k) (by omega) (by omega) (fR_sub which bits 1 Y k) | refine And.intro ?_ ?_ | refine ag_sub ?_)
    rintro _ rfl
    conv => whnf
    repeat' (first | (refine aSeq.go ?_; conv => whnf) | (refine boolI (fun _ => ?_) (fun _ => ?_) <;> conv => whnf) | (refine Fn.closed (tx0) rfl ?_; rintro _ rfl; conv => whnf) | (refine And.intro (by first | omega | exact of_decide_eq_true rfl) ?_; conv => whnf) | fail)
    refine aLoop.rule Nat (fun i => ([(6, .bp 0 0), (13, txsA L), (16, .ow 4 V.length), (21, wrsA W), (23, .v (.int .i64 (cntW g L (V.take i)))), (24, .v (.int .i64 i))], [.box 23 (geoC g), .box 26 (anC a), .dead, .dead, .row 75 2 (V.map wrC)]))
      (fun i => i ≤ V.length) (fun i => V.length - i) 0 (Nat.zero_le _) ⟨[], trivial, ⟨rfl, rfl, rfl, rfl, rfl, rfl, trivial⟩, ⟨rfl, rfl, rfl, trivial⟩, rfl, rfl, rfl⟩ ?_
    intro i hi
    conv => whnf
    refine boolI (fun v1 => ?_) (fun v1 => ?_) <;> (repeat rw [Int.toNat_natCast] at v1) <;> conv => whnf
    · have hy := hVa _ (getD_mem (d := ⟨0, []⟩) (show i < V.length by omega))
      have hys := hVs _ (getD_mem (d := ⟨0, []⟩) (show i < V.length by omega))
      have gV : (V.map wrC).getD i [] = wrC (V.getD i ⟨0, []⟩) := map_getD (by omega)
      have ct := cntW_take g L V i (by omega)
      have hmem : (whoM g (((V.getD i ⟨0, []⟩).addr - g.an).tmod g.sl) L 0).isSome = true → V.getD i ⟨0, []⟩ ∈ W := fun h => hP2.mem_iff.2 (List.mem_filter.2 ⟨getD_mem (by omega), h⟩)
      generalize V.getD i ⟨0, []⟩ = y at hy hys gV ct hmem
      have wa : IntKind.i64.wrap (y.addr - g.an) = y.addr - g.an := wi (by omega)
      have s0 := Int.tmod_nonneg g.sl hy.1
      have s1 := Int.tmod_lt_of_pos (y.addr - g.an) (show 0 < g.sl by omega)
      have wf2 := who_fn g L ((y.addr - g.an).tmod g.sl) t3 ⟨s0, s1⟩ (by omega)
      have hcl := cntW_le g L (V.take i)
      have hcl2 := cntW_le g L (V.take (i + 1))
      rw [List.length_take] at hcl hcl2
      refine aDraw.of tys_ok mixed [0, 1, 2, 3, 4, 5, 6, 7, 8, 9, 10, 11] (by kernel_rfl) ?_
      conv => whnf
      refine ⟨by first | omega | (refine ⟨rfl, ?_, ?_⟩ <;> first | omega | (simp only [List.length_map]; done) | (simp only [List.length_map]; omega) | (simp only [List.length_set]; omega)) | (simp only [List.length_map]; omega), ?_⟩
      conv => whnf
      refine ⟨by first | omega | (refine ⟨rfl, ?_, ?_⟩ <;> first | omega | (simp only [List.length_map]; done) | (simp only [List.length_map]; omega) | (simp only [List.length_set]; omega)) | (simp only [List.length_map]; omega), ?_⟩
      conv => whnf
      rw [Int.toNat_natCast, gV]
      conv => whnf
      rw [wa]
      conv => whnf
      refine And.intro (by omega) ?_
      conv => whnf
      cases hwm : whoM g ((y.addr - g.an).tmod g.sl) L 0 with
      | none =>
        rw [hwm] at wf2 ct
        refine Fn.closed (wf2) rfl ?_
        rintro _ rfl
        conv => whnf
        exact ⟨i + 1, by omega, by omega, [], trivial, ⟨rfl, rfl, rfl, rfl, by rw [ct]; rfl, wsucc (by omega), trivial⟩, ⟨rfl, rfl, rfl, trivial⟩, rfl, rfl, rfl⟩
      | some q =>
        obtain ⟨j, kk⟩ := q
        have hm2 := hmem (by rw [hwm]; rfl)
        rw [hwm] at wf2 ct
        refine Fn.closed (wf2) rfl ?_
        rintro _ rfl
        conv => whnf
        have wn : IntKind.i64.wrap ((cntW g L (V.take i) : Int) + 1) = ((cntW g L (V.take (i + 1)) : Nat) : Int) := by rw [ct, wi (by omega)]; rfl
        rw [wn]
        conv => whnf
        refine aLoop.rule Nat (fun q => ([(6, .bp 0 0), (13, txsA L), (16, .ow 4 V.length), (21, wrsA W), (23, .v (.int .i64 (cntW g L (V.take (i + 1))))), (24, .v (.int .i64 i)), (29, .v (.bool (isW W y q))), (30, .v (.int .i64 q))], [.box 23 (geoC g), .box 26 (anC a), .dead, .dead, .row 75 2 (V.map wrC)]))
          (fun q => q ≤ W.length) (fun q => W.length - q) 0 (Nat.zero_le _) ⟨[], trivial, ⟨rfl, rfl, rfl, rfl, rfl, rfl, rfl, rfl, trivial⟩, ⟨rfl, rfl, rfl, trivial⟩, rfl, rfl, rfl⟩ ?_
        intro q hq
        conv => whnf
        refine boolI (fun v2 => ?_) (fun v2 => ?_) <;> (repeat rw [Int.toNat_natCast] at v2) <;> conv => whnf
        · have iS : isW W y (q + 1) = (isW W y q || decide (W.getD q ⟨0, []⟩ = y)) := rfl
          refine aDraw.of tys_ok mixed [0, 1, 2, 3, 4, 5, 6, 7, 8, 9, 10, 11, 12, 13, 14, 15, 16, 17, 18, 19, 20, 21, 22, 23, 24, 25, 26, 27] (by kernel_rfl) ?_
          conv => whnf
          refine boolI (fun e1 => ?_) (fun e1 => ?_) <;> (repeat rw [Int.toNat_natCast] at e1) <;> conv => whnf
          · exact ⟨q + 1, by omega, by omega, [], trivial, ⟨rfl, rfl, rfl, rfl, rfl, rfl, by rw [iS, e1]; rfl, wsucc (by omega), trivial⟩, ⟨rfl, rfl, rfl, trivial⟩, rfl, rfl, rfl⟩
          · rw [e1, Bool.false_or] at iS
            refine ⟨by first | omega | (refine ⟨rfl, ?_, ?_⟩ <;> first | omega | (simp only [List.length_map]; done) | (simp only [List.length_map]; omega) | (simp only [List.length_set]; omega)) | (simp only [List.length_map]; omega), ?_⟩
            conv => whnf
            refine ⟨by first | omega | (refine ⟨rfl, ?_, ?_⟩ <;> first | omega | (simp only [List.length_map]; done) | (simp only [List.length_map]; omega) | (simp only [List.length_set]; omega)) | (simp only [List.length_map]; omega), ?_⟩
            conv => whnf
            refine ⟨by first | omega | (refine ⟨rfl, ?_, ?_⟩ <;> first | omega | (simp only [List.length_map]; done) | (simp only [List.length_map]; omega) | (simp only [List.length_set]; omega)) | (simp only [List.length_map]; omega), ?_⟩
            conv => whnf
            repeat rw [Int.toNat_natCast]
            rw [gV]
            conv => whnf
            refine boolI (fun e2 => ?_) (fun e2 => ?_) <;> (repeat rw [Int.toNat_natCast] at e2) <;> conv => whnf
            · have hwq := hVs _ (List.mem_filter.1 (hP2.mem_iff.1 (getD_mem (d := ⟨0, []⟩) (show q < W.length by omega)))).1
              have ey : decide (W.getD q ⟨0, []⟩ = y) = decide ((W.getD q ⟨0, []⟩).bytes = y.bytes) := decide_eq_decide.2 ⟨fun e => by rw [e], fun e => wr_ext e2 e⟩
              refine ⟨by first | omega | (refine ⟨rfl, ?_, ?_⟩ <;> first | omega | (simp only [List.length_map]; done) | (simp only [List.length_map]; omega) | (simp only [List.length_set]; omega)) | (simp only [List.length_map]; omega), ?_⟩
              conv => whnf
              refine ⟨by first | omega | (refine ⟨rfl, ?_, ?_⟩ <;> first | omega | (simp only [List.length_map]; done) | (simp only [List.length_map]; omega) | (simp only [List.length_set]; omega)) | (simp only [List.length_map]; omega), ?_⟩
              conv => whnf
              refine ⟨by first | omega | (refine ⟨rfl, ?_, ?_⟩ <;> first | omega | (simp only [List.length_map]; done) | (simp only [List.length_map]; omega) | (simp only [List.length_set]; omega)) | (simp only [List.length_map]; omega), ?_⟩
              conv => whnf
              repeat rw [Int.toNat_natCast]
              rw [gV]
              conv => whnf
              refine Fn.closed (bytes_fn (W.getD q ⟨0, []⟩).bytes y.bytes (by omega)) rfl ?_
              rintro _ rfl
              conv => whnf
              exact ⟨q + 1, by omega, by omega, [], trivial, ⟨rfl, rfl, rfl, rfl, rfl, rfl, by rw [iS, ey]; rfl, wsucc (by omega), trivial⟩, ⟨rfl, rfl, rfl, trivial⟩, rfl, rfl, rfl⟩
            · rw [decide_eq_false (fun e => e2 (by rw [e]))] at iS
              exact ⟨q + 1, by omega, by omega, [], trivial, ⟨rfl, rfl, rfl, rfl, rfl, rfl, by rw [iS]; rfl, wsucc (by omega), trivial⟩, ⟨rfl, rfl, rfl, trivial⟩, rfl, rfl, rfl⟩
        · have eq : q = W.length := by omega
          subst eq
          have hT := isW_all W y hm2
          rw [hT]
          conv => whnf
          exact ⟨i + 1, by omega, by omega, [], trivial, ⟨rfl, rfl, rfl, rfl, rfl, wsucc (by omega), trivial⟩, ⟨rfl, rfl, rfl, trivial⟩, rfl, rfl, rfl⟩
    · have ei : i = V.length := by omega
      subst ei
      have hc : (cntW g L (V.take V.length) : Nat) = W.length := by
        rw [List.take_length, hP2.length_eq]
        rfl
      rw [hc]
      conv => whnf
      refine boolI (fun v3 => ?_) (fun v3 => ?_) <;> (repeat rw [Int.toNat_natCast] at v3) <;> conv => whnf
      · repeat' (first | (refine aSeq.go ?_; conv => whnf) | (refine boolI (fun _ => ?_) (fun _ => ?_) <;> conv => whnf) | (refine Fn.closed (hw) rfl ?_; rintro _ rfl; conv => whnf) | (refine And.intro (by first | omega | exact of_decide_eq_true rfl) ?_; conv => whnf) | fail)
        exact ⟨_, fun _ _ h => h, rfl⟩
      · exact absurd rfl v3
end Go.Proofs.YteecmgonbdbhdaaDoor.A
end
