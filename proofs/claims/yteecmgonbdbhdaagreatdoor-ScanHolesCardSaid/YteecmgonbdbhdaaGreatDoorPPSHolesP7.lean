/-
Several texts in one.
-/
import Derived.Test.YteecmgonbdbhdaaGreatDoorPPSHolesP6
import Derived.Test.YteecmgonbdbhdaaGreatDoorComP4
import Derived.Test.YteecmgonbdbhdaaGreatDoorComP1
import Derived.Test.YteecmgonbdbhdaaGreatDoorComP3

/-
casematelaw18: two transactions, and one copy gone.
-/
section
namespace Go.Proofs.YteecmgonbdbhdaaGreatDoor.A
open Go.RowKit

theorem RdL.split {c : Ctx} : ∀ {l m : List AV} {xs : List Value}, RdL (l ++ m) c xs → ∃ a b, xs = a ++ b ∧ RdL l c a ∧ RdL m c b
  | [], m, xs, h => ⟨[], xs, rfl, by simp only [RdL], h⟩
  | x :: l, m, xs, h => by
    simp only [List.cons_append, RdL] at h
    obtain ⟨y, ys, rfl, h1, h2⟩ := h
    obtain ⟨a, b, rfl, h3, h4⟩ := RdL.split h2
    exact ⟨y :: a, b, rfl, by simp only [RdL]; exact ⟨y, a, rfl, h1, h3⟩, h4⟩
theorem SubLL.len : ∀ {es fs : List (List AV)}, SubLL es fs → es.length = fs.length
  | [], [], _ => rfl
  | _ :: _, _ :: _, h => by simp [SubLL.len h.2]
  | [], _ :: _, h => h.elim
  | _ :: _, [], h => h.elim
theorem SubLL.flat : ∀ {es fs : List (List AV)} {c : Ctx} {xs : List Value}, SubLL es fs → RdL es.flatten c xs → RdL fs.flatten c xs
  | [], [], _, _, _, h => h
  | a :: r, b :: s, c, xs, h, hr => by
    rw [List.flatten_cons] at hr ⊢
    obtain ⟨x1, x2, rfl, h1, h2⟩ := RdL.split hr
    exact RdL.append (h.1.rdl h1) (SubLL.flat h.2 h2)
  | [], _ :: _, _, _, h, _ => h.elim
  | _ :: _, [], _, _, h, _ => h.elim
theorem SubLL.sz : ∀ {es fs : List (List AV)} {sz : Nat}, SubLL es fs → (∀ e ∈ es, e.length = sz) → ∀ e ∈ fs, e.length = sz
  | [], [], _, _, _ => by simp
  | a :: r, b :: s, sz, h, hs => by
    intro e he
    rcases List.mem_cons.1 he with rfl | he
    · rw [← h.1.len]; exact hs a (by simp)
    · exact SubLL.sz h.2 (fun e he => hs e (List.mem_cons_of_mem _ he)) e he
  | [], _ :: _, _, h, _ => h.elim
  | _ :: _, [], _, h, _ => h.elim
def ABSub : AB → AB → Prop
  | .row t sz es, .row t' sz' es' => t = t' ∧ sz = sz' ∧ SubLL es es'
  | x, y => x = y
/-- A heap whose rows read as those of another. -/
def HSub : List AB → List AB → Prop
  | [], [] => True
  | x :: r, y :: s => ABSub x y ∧ HSub r s
  | _, _ => False
theorem HSub.len : ∀ {H H' : List AB}, HSub H H' → H.length = H'.length
  | [], [], _ => rfl
  | _ :: _, _ :: _, h => by simp [HSub.len h.2]
  | [], _ :: _, h => h.elim
  | _ :: _, [], h => h.elim
theorem HSub.get : ∀ {H H' : List AB} {k : Nat} {y : AB}, HSub H H' → H'[k]? = some y → ∃ x, H[k]? = some x ∧ ABSub x y
  | [], [], k, y, _, h => by simp at h
  | x :: r, y :: s, 0, z, h, hz => by
    simp at hz
    subst hz
    exact ⟨x, by simp, h.1⟩
  | x :: r, y :: s, k + 1, z, h, hz => by
    obtain ⟨w, h1, h2⟩ := HSub.get (k := k) h.2 (by simpa using hz)
    exact ⟨w, by simpa using h1, h2⟩
  | [], _ :: _, _, _, h, _ => h.elim
  | _ :: _, [], _, _, _, hz => by simp at hz
theorem ABSub.live : ∀ {x y : AB}, ABSub x y → x.live = y.live := by
  intro x y h
  cases x <;> cases y <;> simp only [ABSub] at h <;> first | rfl | cases h
theorem ABSub.blk {c : Ctx} {k : Nat} : ∀ {x y : AB}, ABSub x y → BlkOk c k x → BlkOk c k y
  | .row t sz es, .row t' sz' es', h, hb => by
    obtain ⟨rfl, rfl, h⟩ := h
    obtain ⟨h1, h2, h3, xs, h4, h5, h6⟩ := hb
    refine ⟨h1.trans h.len, h2, h.sz h3, xs, ?_, h.flat h5, h6⟩
    rw [← h.len]
    exact h4
  | .row _ _ _, .box _ _, h, _ => by cases h
  | .row _ _ _, .iter _ _, h, _ => by cases h
  | .row _ _ _, .dead, h, _ => by cases h
  | .box t cs, y, h, hb => by
    have h : AB.box t cs = y := h
    subst h
    exact hb
  | .iter a b, y, h, hb => by
    have h : AB.iter a b = y := h
    subst h
    exact hb
  | .dead, y, h, hb => by
    have h : AB.dead = y := h
    subst h
    exact hb
theorem HS.hsub {w0 : Fl} {M0 : Ms} {c : Ctx} {H H' : List AB} (hs : HS w0 M0 c H) (h : HSub H H') : HS w0 M0 c H' := by
  refine ⟨hs.low, hs.base, hs.dom.trans h.len, hs.foreign, hs.lt, fun k y hy => ?_, fun k y g hy hl ho => ?_, fun j k y z g hj hk hy hz ho ho' => ?_⟩
  · obtain ⟨x, h1, h2⟩ := h.get hy
    exact h2.blk (hs.blk k x h1)
  · obtain ⟨x, h1, h2⟩ := h.get hy
    exact hs.own k x g h1 (h2.live.trans hl) ho
  · obtain ⟨x1, h1, h2⟩ := h.get hj
    obtain ⟨x2, h3, h4⟩ := h.get hk
    exact hs.dis j k x1 x2 g h1 h3 (h2.live.trans hy) (h4.live.trans hz) ho ho'
theorem ACalls.hsub {P : Program} {q : Bool} {f : FuncId} {args : List AV} {H : List AB} {k : AV → List AB → Prop} (H' : List AB) (hs : HSub H H') (h : ACalls P q f args H' k) : ACalls P q f args H k :=
  ⟨h.go, fun w0 M0 c us hs0 hr => h.calls w0 M0 c us (hs0.hsub hs) hr⟩
theorem written_len (g : Geo) (l : List Tx) (epoch copy : Int) (n : Nat) : (writtenM g l epoch copy n).length = n := by simp [writtenM]
theorem written_short {g : Geo} {l : List Tx} {epoch : Int} (h : LogOk g l epoch) (copy : Int) : ∀ z ∈ writtenM g l epoch copy g.sl.toNat, z.bytes.length ≤ 100000 := by
  intro z hz
  unfold writtenM at hz
  obtain ⟨s, hs, rfl⟩ := List.mem_map.1 hz
  have hs := List.mem_range.1 hs
  exact cellB_short (h.ok s (by omega)) copy s
theorem lt34 {m : Nat} (h : Nat.ble 5 m = true) : ∀ z ∈ [3, 4], z < m := fun z hz => by
  have := Nat.le_of_ble_eq_true h
  simp at hz
  omega
theorem SubLL.refl : ∀ l, SubLL l l
  | [] => trivial
  | _ :: l => ⟨SubL.refl _, SubLL.refl l⟩
theorem SubLL.set {a b : List AV} (h : SubL a b) : ∀ {l m : List (List AV)} (k : Nat), SubLL l m → SubLL (l.set k a) (m.set k b)
  | [], [], _, h => h
  | _ :: _, _ :: _, 0, h2 => ⟨h, h2.2⟩
  | _ :: _, _ :: _, k + 1, h2 => ⟨h2.1, SubLL.set h k h2.2⟩
  | [], _ :: _, _, h => h.elim
  | _ :: _, [], _, h => h.elim
theorem bad_sub (X : List Gt) (k : Nat) (e : Int) : SubLL ((X.map gotC).set k [.v (.int .i64 e), .v (.slice none 0 0)]) ((X.set k ⟨e, []⟩).map gotC) := by
  rw [List.map_set]
  exact SubLL.set (a := [.v (.int .i64 e), .v (.slice none 0 0)]) (b := gotC ⟨e, []⟩) ⟨fun _ _ h => h, nil_sl _ _, trivial⟩ k (SubLL.refl _)
set_option maxRecDepth 100000 in
theorem wakes18_fn : Fn Tryz.prog 12 [] fun r => r = .v (.bool true) := by
  have s1 := some_fn 0 0 0 0 0
  rw [show someG 0 0 0 0 0 = g17 from rfl] at s1
  have s2 : Fn Tryz.prog 28 [.ag (geoC g17), .v (.string ⟨#[]⟩)] fun r => r = .ag (anC a17) := first_fn g17 ⟨#[]⟩ (by decide)
  have hA : anOk g17 a17 = true := firstA_ok (by decide) lab_nil
  have w1 := written_fno g17 log18 0 (by decide) log18_ok
  have fX := saysF_W (g := g17) (l := log18) (epoch := 0) (by decide) log18_ok (copy := 0) (.inl rfl)
  have fY := saysF_W (g := g17) (l := log18) (epoch := 0) (by decide) log18_ok (copy := 1) (.inr rfl)
  have lX : (writtenM g17 log18 0 0 g17.sl.toNat).length = 14 := written_len _ _ _ _ _
  have lY : (writtenM g17 log18 0 1 g17.sl.toNat).length = 14 := written_len _ _ _ _ _
  have bX := written_short log18_ok 0
  have bY := written_short log18_ok 1
  rw [show g17.sl.toNat = 14 from rfl] at *
  generalize writtenM g17 log18 0 0 14 = X at *
  generalize writtenM g17 log18 0 1 14 = Y at *
  have hbad : ∀ c, saysR g17 ⟨6, []⟩ c ((1 : Nat) : Int) = none := fun c => says_err (by decide)
  have fX1 := saysF_set (z := ⟨6, []⟩) (k := 1) fX (by rw [lX]; decide) (hbad 0)
  have fY1 := saysF_set (z := ⟨6, []⟩) (k := 1) fY (by rw [lY]; decide) (hbad 1)
  have lX1 : (X.set 1 ⟨6, []⟩).length = 14 := by rw [List.length_set, lX]
  have lY1 : (Y.set 1 ⟨6, []⟩).length = 14 := by rw [List.length_set, lY]
  have hset : ∀ Z : List Gt, (∀ z ∈ Z, z.bytes.length ≤ 100000) → ∀ z ∈ Z.set 1 ⟨6, []⟩, z.bytes.length ≤ 100000 := fun Z hZ z hz => by
    rcases List.mem_or_eq_of_mem_set hz with h | rfl
    · exact hZ z h
    · exact Nat.zero_le _
  have hG : (okG g17 && anOk g17 a17) = true := by rw [hA]; rfl
  have v1 : scanA g17 a17 (X.set 1 ⟨6, []⟩) Y = (log18, [⟨2, cellB g17 (recW g17 log18 0 1) 0 1⟩], 0) := by
    unfold scanA
    rw [if_pos hG, if_pos (by rw [lX1, lY]; decide), scanM_P, fX1, fY, scan18_a]
  have v2 : scanA g17 a17 (X.set 1 ⟨6, []⟩) (Y.set 1 ⟨6, []⟩) = ([], [], 12) := by
    unfold scanA
    rw [if_pos hG, if_pos (by rw [lX1, lY1]; decide), scanM_P, fX1, fY1, scan18_b]
  have c1 := scanO_fn g17 a17 (X.set 1 ⟨6, []⟩) Y (by decide) (by decide) (hset X bX) bY
  have c2 := scanO_fn g17 a17 (X.set 1 ⟨6, []⟩) (Y.set 1 ⟨6, []⟩) (by decide) (by decide) (hset X bX) (hset Y bY)
  rw [v1, lX1, lY] at c1
  rw [v2, lX1, lY1] at c2
  dsimp only at c1 c2
  have t1 := txns_fn log18 log18 (by decide) (by decide)
  rw [decide_eq_true rfl] at t1
  refine Fn.of tys_ok Tryz.func12 rfl rfl (Nat.le_of_ble_eq_true rfl) ?_
  conv => whnf
  refine Fn.closed (s1) rfl ?_
  rintro _ rfl
  conv => whnf
  refine Fn.closed (s2) rfl ?_
  rintro _ rfl
  conv => whnf
  refine ACalls.shut (log18_fn).go ?_
  conv => whnf
  repeat' (refine And.intro (by first | rfl | omega | (simp; done) | (simp only [List.length_map]; omega)) ?_; conv => whnf)
  refine ACalls.sub _ ?_ (Fn.closed (log18_fn) rfl ?_)
  · repeat' (first | exact trivial | exact fun _ _ h => h | exact nil_sl _ _ | exact row_sub (f := fun x : Int => [AV.v (.int .i64 x)]) [0, 1] rfl rfl | refine And.intro ?_ ?_ | refine ag_sub ?_)
  rintro _ rfl
  conv => whnf
  refine FnO.call (w1) rfl ?_
  rintro _ _ ⟨rfl, rfl⟩
  conv => whnf
  refine ⟨by first | omega | (refine ⟨rfl, ?_, ?_⟩ <;> first | omega | (simp only [List.length_map]; done) | (simp only [List.length_map]; omega)) | (simp only [List.length_map]; omega), ?_⟩
  conv => whnf
  have gX : (X.map gotC).getD (Int.toNat 1) [] = gotC (X.getD 1 gz) := map_getD (by rw [lX]; decide)
  have gY : (Y.map gotC).getD (Int.toNat 1) [] = gotC (Y.getD 1 gz) := map_getD (by rw [lY]; decide)
  refine And.intro ⟨rfl, by rw [List.length_map, lX], by decide⟩ ?_
  conv => whnf
  rw [gX]
  conv => whnf
  refine ACalls.hsub [.box 23 (geoC g17), .box 26 (anC a17), .dead, .row 54 2 ((X.set 1 ⟨6, []⟩).map gotC), .row 54 2 (Y.map gotC)] (And.intro rfl (And.intro rfl (And.intro rfl (And.intro (And.intro rfl (And.intro rfl (bad_sub X 1 6))) (And.intro (And.intro rfl (And.intro rfl (SubLL.refl _))) trivial))))) ?_
  refine ACalls.frame [3, 4] c1 rfl rfl rfl rfl (by decide) (lt34 rfl) ⟨rfl, rfl, trivial⟩ ?_
  rintro _ _ ⟨rfl, rfl⟩
  conv => whnf
  refine ⟨by first | omega | (refine ⟨rfl, ?_, ?_⟩ <;> first | omega | (simp only [List.length_map]; done) | (simp only [List.length_map]; omega)) | (simp only [List.length_map]; omega), ?_⟩
  conv => whnf
  refine And.intro ⟨rfl, by rw [List.length_map, lY], by decide⟩ ?_
  conv => whnf
  rw [gY]
  conv => whnf
  refine ACalls.hsub [.box 23 (geoC g17), .box 26 (anC a17), .dead, .row 54 2 ((X.set 1 ⟨6, []⟩).map gotC), .row 54 2 ((Y.set 1 ⟨6, []⟩).map gotC)] (And.intro rfl (And.intro rfl (And.intro rfl (And.intro (And.intro rfl (And.intro rfl (SubLL.refl _))) (And.intro (And.intro rfl (And.intro rfl (bad_sub Y 1 6))) trivial))))) ?_
  refine ACalls.frame [3, 4] c2 rfl rfl rfl rfl (by decide) (lt34 rfl) ⟨rfl, rfl, trivial⟩ ?_
  rintro _ _ ⟨rfl, rfl⟩
  conv => whnf
  refine aDraw.of tys_ok mixed [0, 1, 2, 3, 4, 5, 6, 7, 8, 9, 10, 11, 12, 13, 14, 15, 16, 17, 18, 19, 20, 21, 22, 23, 24, 25, 26] (by kernel_rfl) ?_
  conv => whnf
  repeat' (first | (refine aSeq.go ?_; conv => whnf) | (refine boolI (fun _ => ?_) (fun _ => ?_) <;> conv => whnf) | (refine Fn.closed (t1) rfl ?_; rintro _ rfl; conv => whnf) | (refine And.intro (by first | omega | exact of_decide_eq_true rfl) ?_; conv => whnf) | fail)
  exact ⟨_, fun _ _ h => h, rfl⟩
end Go.Proofs.YteecmgonbdbhdaaGreatDoor.A
end

/-
The reference: the table of a zone that was never written, as bytes.
-/
section
namespace Go.Proofs.YteecmgonbdbhdaaGreatDoor.A
open Go.RowKit

theorem rput_br (l : List UInt8) (n m : Nat) (hl : l.length ≤ 1000000) (hn : n ≤ 4294967295) (hm : m ≤ 4) : Fn Tryz.prog 54 [bA l, .v (.int .i64 n), .v (.int .i64 m)] fun r => r = bA (l ++ leB m n) := by
  refine ⟨⟨_, Tryz.func54, rfl, by decide⟩, fun c0 us hd hM _ hr => ?_⟩
  simp only [RdL] at hr
  obtain ⟨u1, _, rfl, h1, u2, _, rfl, h2, u3, _, rfl, h3, rfl⟩ := hr
  simp only [Rd] at h2 h3
  subst h2 h3
  refine (rput_any u1 l n m c0.w c0.M (toBytes h1) hl hn hm).mono ?_
  rintro e w' ⟨q, rfl, ho, hB⟩
  exact ⟨_, _, rfl, rfl, hB, ofOwn ho hM⟩
theorem rput_int (l : List UInt8) (n : Int) (m : Nat) (hl : l.length ≤ 1000000) (hn : 0 ≤ n ∧ n ≤ 4294967295) (hm : m ≤ 4) : Fn Tryz.prog 54 [bA l, .v (.int .i64 n), .v (.int .i64 m)] fun r => r = bA (l ++ leB m n.toNat) := by
  obtain ⟨j, rfl⟩ := Int.eq_ofNat_of_zero_le hn.1
  exact rput_br l j m hl (by omega) hm
def entC (x : Ent) : List AV := [.v (.int .i64 x.stamp), .v (.int .i64 x.sum), .v (.bool x.lost)]
def entsA (l : List Ent) : AV := .sl 3 l.length fun i => entC (l.getD i ⟨0, 0, false⟩)
def zero8 : List UInt8 := [0, 0, 0, 0, 0, 0, 0, 0]
def ent0 : Ent := ⟨0, (sumC zero8 : Nat), false⟩
def tab0 (g : Geo) : List Ent := List.replicate (g.d + 1).toNat ent0
theorem entry_fn (stamp : Int) (b : List UInt8) : Fn Tryz.prog 55 [.v (.int .i64 stamp), bA b] fun r => r = .ag (entC ⟨stamp, (sumC b : Nat), false⟩) := by
  refine Fn.of tys_ok Tryz.func55 rfl rfl (Nat.le_of_ble_eq_true rfl) ?_
  conv => whnf
  repeat' (first | (refine aSeq.go ?_; conv => whnf) | (refine boolI (fun _ => ?_) (fun _ => ?_) <;> conv => whnf) | (refine Fn.closed (rsum_br b) rfl ?_; rintro _ rfl; conv => whnf) | (refine And.intro (by first | omega | exact of_decide_eq_true rfl) ?_; conv => whnf) | fail)
  exact ⟨_, fun _ _ h => h, rfl⟩
def bv (l : List Ent) : Nat → AV
  | 0 => .v (.slice none 0 0)
  | k + 1 => bA (tblB (l.take (k + 1)))
theorem tabB_fn (l : List Ent) (hl : l.length ≤ 1000) (hb : ∀ e ∈ l, (0 ≤ e.stamp ∧ e.stamp ≤ 4294967295) ∧ 0 ≤ e.sum ∧ e.sum ≤ 4294967295) : Fn Tryz.prog 33 [.ag [entsA l]] fun r => r = bA (tblB l) := by
  refine Fn.of tys_ok Tryz.func33 rfl rfl (Nat.le_of_ble_eq_true rfl) ?_
  conv => whnf
  refine aLoop.rule Nat (fun k => ([(1, .bp 0 0), (3, bv l k), (4, .v (.int .i64 k))], [.box 85 [entsA l]])) (fun k => k ≤ l.length) (fun k => l.length - k) 0 (Nat.zero_le _) ⟨[], trivial, ⟨rfl, rfl, rfl, trivial⟩, ⟨rfl, trivial⟩, rfl, rfl, rfl⟩ ?_
  intro k hk
  conv => whnf
  refine boolI (fun c1 => ?_) (fun c1 => ?_) <;> (repeat rw [Int.toNat_natCast] at c1) <;> conv => whnf
  · have he := hb _ (getD_mem (d := ⟨0, 0, false⟩) c1)
    refine aSeq.go ?_
    conv => whnf
    refine ⟨by first | omega | (refine ⟨rfl, ?_, ?_⟩ <;> first | omega | (simp only [List.length_map]; done) | (simp only [List.length_map]; omega)) | (simp only [List.length_map]; omega), ?_⟩
    conv => whnf
    have hlt : (tblB (l.take k)).length ≤ 9000 := by rw [tblB_len, List.length_take]; omega
    have p1 := rput_int (tblB (l.take k)) (l.getD k ⟨0, 0, false⟩).stamp 4 (by omega) he.1 (by decide)
    have p2 := rput_int (tblB (l.take k) ++ leB 4 (l.getD k ⟨0, 0, false⟩).stamp.toNat) (l.getD k ⟨0, 0, false⟩).sum 4 (by rw [List.length_append, leB_len]; omega) he.2 (by decide)
    have p3 := rput_int (tblB (l.take k) ++ leB 4 (l.getD k ⟨0, 0, false⟩).stamp.toNat ++ leB 4 (l.getD k ⟨0, 0, false⟩).sum.toNat) (lostN (l.getD k ⟨0, 0, false⟩).lost) 1 (by rw [List.length_append, List.length_append, leB_len, leB_len]; omega) (by unfold lostN; split <;> omega) (by decide)
    have hst : bv l (k + 1) = bA (tblB (l.take k) ++ leB 4 (l.getD k ⟨0, 0, false⟩).stamp.toNat ++ leB 4 (l.getD k ⟨0, 0, false⟩).sum.toNat ++ leB 1 (lostN (l.getD k ⟨0, 0, false⟩).lost).toNat) := by
      rw [bv, tblB_step c1, entB]
      rw [List.getD_eq_getElem?_getD, List.getElem?_eq_getElem c1]
      simp [rowB, List.append_assoc]
    obtain ⟨L, hLe⟩ : ∃ L, (l.getD k ⟨0, 0, false⟩).lost = L := ⟨_, rfl⟩
    rw [hLe] at p3 hst
    rcases k with _ | k
    all_goals
      refine aDraw.of tys_ok mixed [0, 1, 2, 4, 5, 3, 6, 7] (by kernel_rfl) ?_
      conv => whnf
      refine ACalls.sub _ ?_ (Fn.closed (p1) rfl ?_)
      · repeat' (first | exact trivial | exact fun _ _ h => h | exact nil_sl _ _ | refine And.intro ?_ ?_ | refine ag_sub ?_)
      rintro _ rfl
      conv => whnf
      refine ACalls.sub _ ?_ (Fn.closed (p2) rfl ?_)
      · repeat' (first | exact trivial | exact fun _ _ h => h | exact nil_sl _ _ | refine And.intro ?_ ?_ | refine ag_sub ?_)
      rintro _ rfl
      conv => whnf
      refine aSeq.go ?_
      conv => whnf
      rw [Int.toNat_natCast, hLe]
      cases L
    all_goals
      conv => whnf
      refine Fn.closed (p3) rfl ?_
      rintro _ rfl
      conv => whnf
      refine ⟨_, by omega, by omega, [], trivial, ⟨rfl, hst.symm, wsucc (by omega), trivial⟩, ⟨rfl, trivial⟩, rfl, rfl, rfl⟩
  · have ek : k = l.length := by omega
    rcases k with _ | k
    · have e : l = [] := List.length_eq_zero_iff.1 ek.symm
      subst e
      conv => whnf
      exact ⟨bA (tblB []), nil_sl 1 _, rfl⟩
    · conv => whnf
      exact ⟨_, fun _ _ h => h, by rw [ek, List.take_length]; rfl⟩
theorem tab0_fn (g : Geo) (hg : okG g = true) : Fn Tryz.prog 34 [.ag (geoC g)] fun r => r = .ag [entsA (tab0 g)] := by
  obtain ⟨h1, h2, h3, h4, h5⟩ := okG_iff.1 hg
  refine Fn.of tys_ok Tryz.func34 rfl rfl (Nat.le_of_ble_eq_true rfl) ?_
  conv => whnf
  have w1 : IntKind.i64.wrap (g.d + 1) = g.d + 1 := by rw [IntKind.wrap_i64]; omega
  refine aLoop.rule Nat (fun k => ([(1, .bp 0 0), (2, .bp 1 0), (3, .bp 2 0), (4, .v (.int .i64 k))], [.box 23 (geoC g), .box 85 [.v (.slice none 0 0)], .box 85 [.ow 3 k], .row 109 3 ((List.replicate k ent0).map entC)])) (fun k => (k : Int) ≤ g.d + 1) (fun k => (g.d + 1 - k).toNat) 0 (show (0 : Int) ≤ g.d + 1 by omega) ⟨[(1002000, 109, 3)], ⟨rfl, rfl, trivial⟩, ⟨rfl, rfl, rfl, rfl, trivial⟩, ⟨rfl, rfl, rfl, rfl, trivial⟩, rfl, rfl, rfl⟩ ?_
  intro k hk
  conv => whnf
  refine boolI (fun c1 => ?_) (fun c1 => ?_) <;> (repeat rw [Int.toNat_natCast] at c1) <;> conv => whnf
  · refine aDraw.of tys_ok mixed [0, 1, 2, 3, 4, 5, 6, 7] (by kernel_rfl) ?_
    conv => whnf
    repeat' (refine And.intro (by first | omega | exact of_decide_eq_true rfl) ?_; conv => whnf)
    have e0 := entry_fn 0 zero8
    refine ACalls.shut (e0).go ?_
    conv => whnf
    repeat' (refine And.intro (by first | rfl | omega | (simp; done) | (simp only [List.length_map]; omega)) ?_; conv => whnf)
    refine ACalls.sub _ ?_ (Fn.closed (e0) rfl ?_)
    · repeat' (first | exact trivial | exact fun _ _ h => h | exact nil_sl _ _ | exact bytes_sub zero8 rfl rfl | refine And.intro ?_ ?_ | refine ag_sub ?_)
    rintro _ rfl
    conv => whnf
    repeat' (first | (refine And.intro (by first | rfl | omega) ?_; conv => whnf) | fail)
    refine And.intro ⟨by rw [List.length_map, List.length_replicate], by omega⟩ ?_
    conv => whnf
    exact ⟨k + 1, by omega, by omega, [], trivial, ⟨rfl, rfl, rfl, wsucc (by omega), trivial⟩, ⟨rfl, rfl, rfl, by rw [List.replicate_succ', List.map_append]; rfl, trivial⟩, rfl, rfl, rfl⟩
  · refine And.intro (by rw [List.length_map, List.length_replicate]) ?_
    conv => whnf
    have ek : k = (g.d + 1).toNat := by omega
    refine ⟨.ag [entsA (tab0 g)], ag_sub ⟨row_sub (tab0 g) ?_ ?_, trivial⟩, rfl⟩
    · rw [tab0, List.length_replicate, ek]
    · rw [tab0, ek]
end Go.Proofs.YteecmgonbdbhdaaGreatDoor.A
end

/-
casematelaw16: a right log of a geometry and an anchor.
-/
section
namespace Go.Proofs.YteecmgonbdbhdaaGreatDoor.A
open Go.RowKit

def logImg (g : Geo) (fill : UInt8) (i k : Nat) : Img :=
  if (i + k) % 4 = 3 then ⟨((i + k : Nat) : Int).tmod g.z, 255, tblB (tab0 g)⟩ else ⟨((i + k : Nat) : Int).tmod g.z, ((i + 2 * k : Nat) : Int).tmod (g.d + 1) - 1, [fill, UInt8.ofNat i, UInt8.ofNat k, 1, 2, 3, 4, 5]⟩
/-- How many images. -/
def nImg (s : Int) : Nat := 1 + ((IntKind.u64.wrap s).tmod 5).toNat
def logTx (g : Geo) (a : An) (fill : UInt8) (i : Nat) (pos : Int) (n : Nat) : Tx := ⟨a.seq + i, pos, n + 1, (List.range n).map fun k => logImg g fill i k⟩
/-- The log of the sizes from number i on. -/
def logM (g : Geo) (a : An) (fill : UInt8) : List Int → Nat → Int → Int → List Tx
  | [], _, _, _ => []
  | s :: r, i, pos, used => if g.sl < used + (nImg s : Nat) + 1 then [] else logTx g a fill i pos (nImg s) :: logM g a fill r (i + 1) ((pos + (nImg s : Nat) + 1).tmod g.sl) (used + (nImg s : Nat) + 1)
theorem nImg_in (s : Int) : 1 ≤ nImg s ∧ nImg s ≤ 5 := by
  have h0 : 0 ≤ IntKind.u64.wrap s := by rw [IntKind.wrap_u64]; omega
  have h1 := Int.tmod_nonneg 5 h0
  have h2 := Int.tmod_lt_of_pos (IntKind.u64.wrap s) (show (0 : Int) < 5 by decide)
  unfold nImg
  omega
theorem SubLL.app {e f : List AV} (h : SubL e f) : ∀ {a b : List (List AV)}, SubLL a b → SubLL (a ++ [e]) (b ++ [f])
  | [], [], _ => ⟨h, trivial⟩
  | _ :: _, _ :: _, h2 => ⟨h2.1, SubLL.app h h2.2⟩
  | [], _ :: _, h => h.elim
  | _ :: _, [], h => h.elim
theorem img_tab {g : Geo} {fill : UInt8} {i k : Nat} (t : ((i + k : Nat) : Int).tmod 4 = 3) : SubL (imgC ⟨((i + k : Nat) : Int).tmod g.z, 255, tblB (tab0 g)⟩) (imgC (logImg g fill i k)) := by
  have e : (i + k) % 4 = 3 := by
    rw [Int.tmod_eq_emod_of_nonneg (by omega)] at t
    omega
  rw [logImg, if_pos e]
  exact SubL.refl _
theorem u8_nat (m : Nat) : IntKind.u8.wrap (m : Int) = ((UInt8.ofNat m).toNat : Int) := by
  rw [IntKind.wrap_u8, UInt8.toNat_ofNat']
  omega
theorem img_plain {g : Geo} {fill : UInt8} {i k : Nat} (t : ¬ ((i + k : Nat) : Int).tmod 4 = 3) : SubL [.v (.int .i64 (((i + k : Nat) : Int).tmod g.z)), .v (.int .i64 (((i + 2 * k : Nat) : Int).tmod (g.d + 1) - 1)), .sl 1 8 fun j => [[AV.v (.int .u8 fill.toNat)], [.v (.int .u8 (IntKind.u8.wrap i))], [.v (.int .u8 (IntKind.u8.wrap k))], [.v (.int .u8 1)], [.v (.int .u8 2)], [.v (.int .u8 3)], [.v (.int .u8 4)], [.v (.int .u8 5)]].getD j []] (imgC (logImg g fill i k)) := by
  have e : ¬ (i + k) % 4 = 3 := by
    rw [Int.tmod_eq_emod_of_nonneg (by omega)] at t
    omega
  rw [logImg, if_neg e, u8_nat, u8_nat]
  exact ⟨fun _ _ h => h, fun _ _ h => h, bytes_sub [fill, UInt8.ofNat i, UInt8.ofNat k, 1, 2, 3, 4, 5] rfl rfl, trivial⟩
set_option maxRecDepth 100000 in
theorem log_fn16 (g : Geo) (a : An) (sizes : List Int) (fill : UInt8) (hg : okG g = true) (ha : anOk g a = true) (hs : a.seq ≤ 1000000) (hl : sizes.length ≤ 40) : Fn Tryz.prog 16 [.ag (geoC g), .ag (anC a), iA sizes, .v (.int .u8 fill.toNat)] fun r => r = txsA (logM g a fill sizes 0 a.pos 0) := by
  obtain ⟨h1, h2, h3, h4, h5⟩ := okG_iff.1 hg
  have hq := anOk_seq ha
  refine Fn.of tys_ok Tryz.func16 rfl rfl (Nat.le_of_ble_eq_true rfl) ?_
  conv => whnf
  generalize hR : logM g a fill sizes 0 a.pos 0 = R
  refine aLoop.rule (Nat × Int × Int × List Tx × List (List AV)) (fun z => ([(2, iA sizes), (3, .v (.int .u8 fill.toNat)), (4, .bp 0 0), (5, .bp 1 0), (9, .ow 2 z.2.2.2.2.length), (10, .v (.int .i64 z.2.1)), (11, .v (.int .i64 z.2.2.1)), (12, .v (.int .i64 z.1))], [.box 23 (geoC g), .box 26 (anC a), .row 51 4 z.2.2.2.2]))
    (fun z => z.1 ≤ sizes.length ∧ z.2.2.2.1 ++ logM g a fill (sizes.drop z.1) z.1 z.2.1 z.2.2.1 = R ∧ (0 ≤ z.2.1 ∧ z.2.1 < g.sl) ∧ (0 ≤ z.2.2.1 ∧ z.2.2.1 ≤ g.sl) ∧ z.2.2.2.1.length = z.1 ∧ SubLL z.2.2.2.2 (z.2.2.2.1.map txC))
    (fun z => sizes.length - z.1) (0, a.pos, 0, [], []) ⟨Nat.zero_le _, hR, hq.2, show (0 : Int) ≤ 0 ∧ (0 : Int) ≤ g.sl by omega, rfl, trivial⟩ ⟨[(9, 51, 4)], ⟨rfl, rfl, trivial⟩, ⟨rfl, rfl, rfl, rfl, rfl, rfl, rfl, rfl, trivial⟩, ⟨rfl, rfl, rfl, trivial⟩, rfl, rfl, rfl⟩ ?_
  rintro ⟨i, pos, used, l, rl⟩ ⟨b1, b2, b3, b4, b5, b6⟩
  dsimp only at b1 b2 b3 b4 b5 b6 ⊢
  have b7 : rl.length = l.length := by have := b6.len; rwa [List.length_map] at this
  conv => whnf
  refine boolI (fun c1 => ?_) (fun c1 => ?_) <;> (repeat rw [Int.toNat_natCast] at c1) <;> conv => whnf
  · have hd : sizes.drop i = sizes.getD i 0 :: sizes.drop (i + 1) := by
      rw [List.drop_eq_getElem_cons c1, List.getD_eq_getElem?_getD, List.getElem?_eq_getElem c1]
      rfl
    rw [hd] at b2
    have hn := nImg_in (sizes.getD i 0)
    have wn : IntKind.i64.wrap (1 + IntKind.i64.wrap ((IntKind.u64.wrap (sizes.getD i 0)).tmod 5)) = (nImg (sizes.getD i 0) : Nat) := by
      have h0 : 0 ≤ IntKind.u64.wrap (sizes.getD i 0) := by rw [IntKind.wrap_u64]; omega
      have h1 := Int.tmod_nonneg 5 h0
      have h2 := Int.tmod_lt_of_pos (IntKind.u64.wrap (sizes.getD i 0)) (show (0 : Int) < 5 by decide)
      unfold nImg
      rw [IntKind.wrap_i64, IntKind.wrap_i64]
      omega
    unfold logM at b2
    generalize nImg (sizes.getD i 0) = n at hn wn b2
    refine ⟨by first | omega | (refine ⟨rfl, ?_, ?_⟩ <;> first | omega | (simp only [List.length_map]; done) | (simp only [List.length_map]; omega)) | (simp only [List.length_map]; omega), ?_⟩
    conv => whnf
    refine And.intro (by decide) ?_
    conv => whnf
    rw [Int.toNat_natCast, wn]
    have w1 : IntKind.i64.wrap (used + n) = used + n := by rw [IntKind.wrap_i64]; omega
    have w2 : IntKind.i64.wrap (used + n + 1) = used + n + 1 := by rw [IntKind.wrap_i64]; omega
    rw [w1, w2]
    conv => whnf
    have w3 : IntKind.i64.wrap (a.seq + rl.length) = a.seq + i := by rw [IntKind.wrap_i64]; omega
    have w4 : IntKind.i64.wrap ((n : Int) + 1) = n + 1 := by rw [IntKind.wrap_i64]; omega
    refine boolI (fun c2 => ?_) (fun c2 => ?_) <;> (repeat rw [Int.toNat_natCast] at c2) <;> conv => whnf
    · rw [if_pos c2, List.append_nil] at b2
      subst b2
      refine And.intro rfl ?_
      conv => whnf
      exact ⟨txsA l, rows_sub l b7 rfl b6, rfl⟩
    · rw [if_neg (by omega)] at b2
      rw [w3, w4]
      refine aLoop.rule (Nat × List (List AV)) (fun z => ([(2, iA sizes), (3, .v (.int .u8 fill.toNat)), (4, .bp 0 0), (5, .bp 1 0), (9, .ow 2 rl.length), (10, .v (.int .i64 pos)), (11, .v (.int .i64 used)), (12, .v (.int .i64 i)), (13, .v (.int .i64 n)), (14, .bp 3 0), (15, .v (.int .i64 z.1))], [.box 23 (geoC g), .box 26 (anC a), .row 51 4 rl, .box 51 [.v (.int .i64 (a.seq + i)), .v (.int .i64 pos), .v (.int .i64 (n + 1)), .ow 4 z.2.length], .row 74 3 z.2]))
        (fun z => z.1 ≤ n ∧ SubLL z.2 (((List.range z.1).map (logImg g fill i)).map imgC)) (fun z => n - z.1) (0, []) ⟨Nat.zero_le _, trivial⟩ ⟨[(1003003, 74, 3)], ⟨rfl, rfl, trivial⟩, ⟨rfl, rfl, rfl, rfl, rfl, rfl, rfl, rfl, rfl, rfl, rfl, trivial⟩, ⟨rfl, rfl, rfl, rfl, rfl, trivial⟩, rfl, rfl, rfl⟩ ?_
      rintro ⟨k, im⟩ ⟨hk, hm⟩
      dsimp only at hk hm ⊢
      have hil : im.length = k := by have := hm.len; simpa using this
      conv => whnf
      have v1 : IntKind.i64.wrap ((i : Int) + k) = ((i + k : Nat) : Int) := by rw [IntKind.wrap_i64]; omega
      have v2 : IntKind.i64.wrap (2 * (k : Int)) = ((2 * k : Nat) : Int) := by rw [IntKind.wrap_i64]; omega
      have v3 : IntKind.i64.wrap ((i : Int) + ((2 * k : Nat) : Int)) = ((i + 2 * k : Nat) : Int) := by rw [IntKind.wrap_i64]; omega
      have v5 : IntKind.i64.wrap (((i + 2 * k : Nat) : Int).tmod (g.d + 1) - 1) = ((i + 2 * k : Nat) : Int).tmod (g.d + 1) - 1 := by
        have q1 := Int.tmod_nonneg (g.d + 1) (show 0 ≤ ((i + 2 * k : Nat) : Int) by omega)
        have q2 := Int.tmod_lt_of_pos ((i + 2 * k : Nat) : Int) (show 0 < g.d + 1 by omega)
        rw [IntKind.wrap_i64]; omega
      have v4 : IntKind.i64.wrap (g.d + 1) = g.d + 1 := by rw [IntKind.wrap_i64]; omega
      refine boolI (fun c3 => ?_) (fun c3 => ?_) <;> (repeat rw [Int.toNat_natCast] at c3) <;> conv => whnf
      · have t0 := tab0_fn g hg
        have t1 := tabB_fn (tab0 g) (by rw [tab0, List.length_replicate]; omega) (fun e he => by rw [List.eq_of_mem_replicate he]; decide +kernel)
        refine aSeq.go ?_
        conv => whnf
        apply aDraw.treeK 0 tys_ok mixed (.one 0 (.one 1 (.one 2 (.one 3 (.one 4 (.one 5 (.one 6 (.one 7 (.one 8 (.one 9 (.one 10 (.one 11 (.one 12 (.one 13 (.one 14 (.one 15 (.one 16 (.one 17 (.one 18 (.one 19 (.two 20 (.one 21 (.one 22 (.one 23 .fin))) 22 (.one 20 (.one 21 (.one 23 .fin)))))))))))))))))))))))) (by kernel_rfl)
        conv => whnf
        repeat' (first | (refine And.intro (by first | omega | exact of_decide_eq_true rfl) ?_; conv => whnf) | (refine And.intro ?_ ?_ <;> conv => whnf) | fail)
        all_goals
          refine aSeq.go ?_
          conv => whnf
          rw [v1]
          conv => whnf
          refine And.intro (by decide) ?_
          conv => whnf
          refine boolI (fun t => ?_) (fun t => ?_) <;> (repeat rw [Int.toNat_natCast] at t) <;> conv => whnf
          · refine aDraw.of tys_ok mixed [0, 1, 2, 3, 4, 5, 6, 7, 8, 9, 10] (by kernel_rfl) ?_
            conv => whnf
            repeat' (first | (refine aSeq.go ?_; conv => whnf) | (refine boolI (fun _ => ?_) (fun _ => ?_) <;> conv => whnf) | (refine Fn.closed (t0) rfl ?_; rintro _ rfl; conv => whnf) | (refine Fn.closed (t1) rfl ?_; rintro _ rfl; conv => whnf) | (refine And.intro (by first | omega | exact of_decide_eq_true rfl) ?_; conv => whnf) | fail)
            rw [v1]
            refine ⟨(k + 1, im ++ [imgC ⟨((i + k : Nat) : Int).tmod g.z, 255, tblB (tab0 g)⟩]), ⟨by dsimp only; omega, ?_⟩, by dsimp only; omega, [], trivial, ⟨rfl, rfl, rfl, rfl, rfl, rfl, rfl, rfl, rfl, rfl, wsucc (by omega), trivial⟩, ⟨rfl, rfl, rfl, by rw [List.length_append]; rfl, rfl, trivial⟩, rfl, rfl, rfl⟩
            rw [List.range_succ, List.map_append, List.map_append]
            exact SubLL.app (img_tab t) hm
          · repeat' (first | (refine aSeq.go ?_; conv => whnf) | (refine boolI (fun _ => ?_) (fun _ => ?_) <;> conv => whnf) | (refine Fn.closed (t0) rfl ?_; rintro _ rfl; conv => whnf) | (refine And.intro (by first | omega | exact of_decide_eq_true rfl) ?_; conv => whnf) | fail)
            rw [v2, v3, v4, v5]
            refine ⟨(k + 1, im ++ [[.v (.int .i64 (((i + k : Nat) : Int).tmod g.z)), .v (.int .i64 (((i + 2 * k : Nat) : Int).tmod (g.d + 1) - 1)), .sl 1 8 fun j => [[.v (.int .u8 fill.toNat)], [.v (.int .u8 (IntKind.u8.wrap i))], [.v (.int .u8 (IntKind.u8.wrap k))], [.v (.int .u8 1)], [.v (.int .u8 2)], [.v (.int .u8 3)], [.v (.int .u8 4)], [.v (.int .u8 5)]].getD j []]]), ⟨by dsimp only; omega, ?_⟩, by dsimp only; omega, [], trivial, ⟨rfl, rfl, rfl, rfl, rfl, rfl, rfl, rfl, rfl, rfl, wsucc (by omega), trivial⟩, ⟨rfl, rfl, rfl, by rw [List.length_append]; rfl, rfl, trivial⟩, rfl, rfl, rfl⟩
            rw [List.range_succ, List.map_append, List.map_append]
            exact SubLL.app (img_plain t) hm
      · refine And.intro rfl ?_
        conv => whnf
        repeat' (first | (refine And.intro (by first | rfl | omega) ?_; conv => whnf) | fail)
        have ek : k = n := by omega
        subst ek
        have w5 : IntKind.i64.wrap (pos + k) = pos + k := by rw [IntKind.wrap_i64]; omega
        have w6 : IntKind.i64.wrap (pos + k + 1) = pos + k + 1 := by rw [IntKind.wrap_i64]; omega
        rw [w1, w2, w5, w6]
        have hmm := Int.tmod_lt_of_pos (pos + k + 1) (show 0 < g.sl by omega)
        have hm0 := Int.tmod_nonneg g.sl (show 0 ≤ pos + k + 1 by omega)
        refine ⟨(i + 1, (pos + k + 1).tmod g.sl, used + k + 1, l ++ [logTx g a fill i pos k], rl ++ [[.v (.int .i64 (a.seq + i)), .v (.int .i64 pos), .v (.int .i64 (k + 1)), .sl 3 im.length fun j => im.getD j []]]), ⟨by dsimp only; omega, ?_, ⟨hm0, hmm⟩, by dsimp only; omega, by dsimp only; rw [List.length_append]; simp only [List.length_cons, List.length_nil]; omega, ?_⟩, by dsimp only; omega, [], trivial, ⟨rfl, rfl, rfl, rfl, ?_, rfl, rfl, wsucc (by omega), trivial⟩, ⟨rfl, rfl, rfl, trivial⟩, rfl, rfl, rfl⟩
        · dsimp only
          rw [List.append_assoc]
          exact b2
        · dsimp only
          rw [List.map_append]
          refine SubLL.app ?_ b6
          refine And.intro (fun _ _ h => h) (And.intro (fun _ _ h => h) (And.intro (fun _ _ h => h) (And.intro ?_ trivial)))
          exact rows_sub (f := imgC) ((List.range k).map (logImg g fill i)) (by rw [hil]; simp) rfl hm
        · rw [List.length_append]
          rfl
  · have ei : i = sizes.length := by omega
    refine And.intro rfl ?_
    conv => whnf
    subst ei
    rw [List.drop_length, logM, List.append_nil] at b2
    subst b2
    exact ⟨txsA l, rows_sub l b7 rfl b6, rfl⟩
end Go.Proofs.YteecmgonbdbhdaaGreatDoor.A
end

/-
Plain laws on bits that are turned about, and on the sum of what was turned: no turning of a burst of 32 bits goes unseen.
-/
section
namespace Go.Proofs.YteecmgonbdbhdaaGreatDoor

/-- One bit turned about. -/
def flipB (b : List UInt8) (k : Nat) : List UInt8 := b.modify (k / 8) fun x => x ^^^ UInt8.ofNat (2 ^ (k % 8))
theorem flipB_length (b : List UInt8) (k : Nat) : (flipB b k).length = b.length := List.length_modify _ _ _
/-- The first i bits that p picks turned about, from bit a on. -/
def flipN (p : Nat → Bool) (a : Nat) (b : List UInt8) : Nat → List UInt8
  | 0 => b
  | i + 1 => if p i && decide (a + i < 8 * b.length) then flipB (flipN p a b i) (a + i) else flipN p a b i
theorem flipN_length (p : Nat → Bool) (a : Nat) (b : List UInt8) (i : Nat) : (flipN p a b i).length = b.length := by
  induction i with
  | zero => rfl
  | succ i ih => unfold flipN; split; rw [flipB_length, ih]; exact ih
/-- The bits that are turned, as one number. -/
def fX (bs : Int) : Nat := if (bs % 4294967296).toNat % 2 = 0 then (bs % 4294967296).toNat + 1 else (bs % 4294967296).toNat
theorem fX_lt (bs : Int) : fX bs < 4294967296 := by unfold fX; split <;> omega
theorem fX_odd (bs : Int) : fX bs % 2 = 1 := by unfold fX; split <;> omega
def flipT (b : List UInt8) (bit bs : Int) : List UInt8 := flipN (fun i => decide (fX bs / 2 ^ i % 2 = 1)) (bit % (8 * (b.length : Int))).toNat b 32
theorem flipT_length (b : List UInt8) (bit bs : Int) : (flipT b bit bs).length = b.length := flipN_length _ _ _ _
theorem flipT_nil (bit bs : Int) : flipT [] bit bs = [] := List.eq_nil_of_length_eq_zero (flipT_length _ _ _)

theorem stepsC_zero : ∀ k, stepsC k 0 = 0
  | 0 => rfl
  | k + 1 => by rw [stepsC, stepsC_zero k]; decide
theorem stepC_ne {r : Nat} (h : r < 4294967296) (h0 : r ≠ 0) : stepC r ≠ 0 := by
  unfold stepC
  intro e
  rcases Nat.mod_two_eq_zero_or_one r with h1 | h1
  · rw [if_neg (by omega), Nat.xor_zero] at e; omega
  · rw [if_pos h1] at e
    have : r / 2 = polyN := by
      have h3 : (r / 2 ^^^ polyN) ^^^ polyN = r / 2 := by rw [Nat.xor_assoc, Nat.xor_self, Nat.xor_zero]
      rw [e, Nat.zero_xor] at h3
      exact h3.symm
    simp only [polyN] at this
    omega
theorem stepsC_ne : ∀ (k : Nat) {r : Nat}, r < 4294967296 → r ≠ 0 → stepsC k r ≠ 0
  | 0, _, _, h0 => h0
  | k + 1, _, h, h0 => stepC_ne (stepsC_lt k h) (stepsC_ne k h h0)
theorem stepsC_add : ∀ (j k r : Nat), stepsC (j + k) r = stepsC j (stepsC k r)
  | 0, k, r => by rw [Nat.zero_add]; rfl
  | j + 1, k, r => by rw [show j + 1 + k = (j + k) + 1 by omega, stepsC, stepsC, stepsC_add j k r]
theorem stepsC_two : ∀ (k x : Nat), stepsC k (2 ^ k * x) = x
  | 0, x => by simp [stepsC]
  | k + 1, x => by
    rw [stepsC_succ, show 2 ^ (k + 1) * x = 2 * (2 ^ k * x) by rw [Nat.pow_succ]; rw [Nat.mul_comm (2 ^ k) 2, Nat.mul_assoc], stepC_double, stepsC_two k x]
theorem xor_swap (x p q : Nat) : (x ^^^ p) ^^^ q = (x ^^^ q) ^^^ p := by rw [Nat.xor_assoc, Nat.xor_comm p q, ← Nat.xor_assoc]
/-- What the start of a reckoning adds. -/
theorem foldC_start : ∀ (b : List UInt8) (r s : Nat), foldC (r ^^^ s) b = foldC r b ^^^ stepsC (8 * b.length) s
  | [], r, s => rfl
  | c :: b, r, s => by
    have e : foldC (r ^^^ s) (c :: b) = foldC (eightC (r ^^^ s ^^^ c.toNat)) b := rfl
    have e2 : foldC r (c :: b) = foldC (eightC (r ^^^ c.toNat)) b := rfl
    rw [e, e2, xor_swap, show eightC (r ^^^ c.toNat ^^^ s) = eightC (r ^^^ c.toNat) ^^^ stepsC 8 s from stepsC_xor 8 _ _, foldC_start b, ← stepsC_add, List.length_cons, Nat.mul_add]
/-- What a turned bit adds. -/
theorem foldC_flipB : ∀ (b : List UInt8) (r k : Nat), k < 8 * b.length → foldC r (flipB b k) = foldC r b ^^^ stepsC (8 * b.length - k) 1
  | [], _, _, h => by simp at h
  | c :: b, r, k, h => by
    have e2 : foldC r (c :: b) = foldC (eightC (r ^^^ c.toNat)) b := rfl
    by_cases hk : k < 8
    · have e : flipB (c :: b) k = (c ^^^ UInt8.ofNat (2 ^ (k % 8))) :: b := by
        unfold flipB
        rw [show k / 8 = 0 by omega]
        rfl
      have hp : (2 : Nat) ^ k < 256 := by
        have := Nat.pow_lt_pow_right (a := 2) (by omega) hk
        omega
      rw [e, show foldC r ((c ^^^ UInt8.ofNat (2 ^ (k % 8))) :: b) = foldC (eightC (r ^^^ (c ^^^ UInt8.ofNat (2 ^ (k % 8))).toNat)) b from rfl, UInt8.toNat_xor, Nat.mod_eq_of_lt hk, UInt8.toNat_ofNat_of_lt' hp, ← Nat.xor_assoc,
        show eightC (r ^^^ c.toNat ^^^ 2 ^ k) = eightC (r ^^^ c.toNat) ^^^ stepsC 8 (2 ^ k) from stepsC_xor 8 _ _, foldC_start b, e2, ← stepsC_add, List.length_cons]
      congr 1
      have := stepsC_two k 1
      rw [Nat.mul_one] at this
      rw [show 8 * b.length + 8 = (8 * (b.length + 1) - k) + k by omega, stepsC_add, this]
    · have e : flipB (c :: b) k = c :: flipB b (k - 8) := by
        unfold flipB
        rw [show k / 8 = (k - 8) / 8 + 1 by omega, List.modify_succ_cons, show k % 8 = (k - 8) % 8 by omega]
      simp only [List.length_cons] at h
      rw [e, show foldC r (c :: flipB b (k - 8)) = foldC (eightC (r ^^^ c.toNat)) (flipB b (k - 8)) from rfl, foldC_flipB b _ _ (by omega), e2, List.length_cons]
      congr 2
      omega
/-- The bits of p below i, as one number, of which so many have room. -/
def wordN (p : Nat → Bool) (d : Nat) : Nat → Nat
  | 0 => 0
  | i + 1 => if p i && decide (i < d) then wordN p d i ^^^ 2 ^ i else wordN p d i
theorem wordN_lt (p : Nat → Bool) (d : Nat) : ∀ i, wordN p d i < 2 ^ i
  | 0 => by show 0 < 1; decide
  | i + 1 => by
    have := wordN_lt p d i
    unfold wordN
    have h2 : (2 : Nat) ^ i < 2 ^ (i + 1) := Nat.pow_lt_pow_right (by omega) (by omega)
    split
    · exact Nat.xor_lt_two_pow (by omega) h2
    · omega
theorem wordN_bit (p : Nat → Bool) (d : Nat) (hp : p 0 = true) (hd : 0 < d) : ∀ i, 0 < i → (wordN p d i) % 2 = 1
  | 1, _ => by simp [wordN, hp, hd]
  | i + 2, _ => by
    have ih := wordN_bit p d hp hd (i + 1) (by omega)
    unfold wordN
    split
    · rw [xor_odd, Nat.pow_succ]; omega
    · exact ih
theorem foldC_flipN (p : Nat → Bool) (a : Nat) (b : List UInt8) (r : Nat) (ha : a < 8 * b.length) : ∀ i, foldC r (flipN p a b i) = foldC r b ^^^ stepsC (8 * b.length - a) (wordN p (8 * b.length - a) i)
  | 0 => by simp [flipN, wordN, stepsC_zero]
  | i + 1 => by
    have ih := foldC_flipN p a b r ha i
    unfold flipN wordN
    have hc : (p i && decide (a + i < 8 * b.length)) = (p i && decide (i < 8 * b.length - a)) := by
      congr 1
      exact decide_eq_decide.2 (by omega)
    rw [hc]
    split
    · rename_i h
      simp only [Bool.and_eq_true, decide_eq_true_eq] at h
      rw [foldC_flipB _ _ _ (by rw [flipN_length]; omega), ih, flipN_length, stepsC_xor, Nat.xor_assoc]
      congr 2
      have := stepsC_two i 1
      rw [Nat.mul_one] at this
      rw [show 8 * b.length - a = (8 * b.length - (a + i)) + i by omega, stepsC_add, this]
    · exact ih
/-- Four bytes that a reckoning ends with. -/
theorem foldC_word : ∀ (t : List UInt8) (s : Nat), foldC s t = stepsC (8 * t.length) (s ^^^ leN t)
  | [], s => by simp [foldC, leN, stepsC]
  | c :: t, s => by
    have e2 : foldC s (c :: t) = foldC (eightC (s ^^^ c.toNat)) t := rfl
    have h1 : leN (c :: t) = c.toNat ^^^ 256 * leN t := by
      have hc : c.toNat < 2 ^ 8 := c.toNat_lt
      have h := Nat.two_pow_add_eq_or_of_lt hc (leN t)
      have h2 : 2 ^ 8 * leN t ||| c.toNat = c.toNat ^^^ 2 ^ 8 * leN t := by
        apply Nat.eq_of_testBit_eq
        intro i
        rw [Nat.testBit_or, Nat.testBit_xor]
        by_cases hi : i < 8
        · rw [Nat.testBit_two_pow_mul]
          simp [show ¬ 8 ≤ i by omega]
        · have : c.toNat.testBit i = false := Nat.testBit_lt_two_pow (Nat.lt_of_lt_of_le hc (Nat.pow_le_pow_right (by omega) (by omega)))
          rw [this]
          simp
      rw [← h2, ← h]
      simp only [leN]
      omega
    rw [e2, foldC_word t, h1, List.length_cons, Nat.mul_add, stepsC_add]
    congr 1
    rw [← Nat.xor_assoc, stepsC_xor]
    congr 1
    exact (eightC_high _).symm
theorem ones_sub {x : Nat} (h : x < 4294967296) : 4294967295 - x = 4294967295 ^^^ x := (not_u32 x h).symm
/-- What is told by the sum at its end has one sum. -/
theorem sealed_fold {b : List UInt8} (h4 : 4 ≤ b.length) (h : leN (b.drop (b.length - 4)) = sumC (b.take (b.length - 4))) : foldC 4294967295 b = stepsC 32 4294967295 := by
  have e : b = b.take (b.length - 4) ++ b.drop (b.length - 4) := (List.take_append_drop _ _).symm
  have hl : (b.drop (b.length - 4)).length = 4 := by rw [List.length_drop]; omega
  have hlt : foldC 4294967295 (b.take (b.length - 4)) < 4294967296 := foldC_lt _ (by decide)
  have hap : ∀ x y : List UInt8, foldC 4294967295 (x ++ y) = foldC (foldC 4294967295 x) y := fun x y => by simp [foldC]
  conv => lhs; rw [e]
  rw [hap, foldC_word, hl, h, sumC, ones_sub hlt]
  congr 1
  rw [Nat.xor_comm 4294967295, ← Nat.xor_assoc, Nat.xor_self, Nat.zero_xor]
/-- Of right bytes no burst of 32 bits goes unseen. -/
theorem flipT_seen {b : List UInt8} (h4 : 4 ≤ b.length) (h : leN (b.drop (b.length - 4)) = sumC (b.take (b.length - 4))) (bit bs : Int) :
    leN ((flipT b bit bs).drop ((flipT b bit bs).length - 4)) ≠ sumC ((flipT b bit bs).take ((flipT b bit bs).length - 4)) := by
  intro h'
  have h1 := sealed_fold h4 h
  have h2 := sealed_fold (b := flipT b bit bs) (by rw [flipT_length]; exact h4) h'
  have ha : (bit % (8 * (b.length : Int))).toNat < 8 * b.length := by
    have := Int.emod_lt_of_pos bit (show (0 : Int) < 8 * (b.length : Int) by omega)
    have := Int.emod_nonneg bit (show (8 * (b.length : Int)) ≠ 0 by omega)
    omega
  unfold flipT at h2
  rw [foldC_flipN _ _ _ _ ha, h1] at h2
  have h3 : stepsC (8 * b.length - (bit % (8 * (b.length : Int))).toNat) (wordN (fun i => decide (fX bs / 2 ^ i % 2 = 1)) (8 * b.length - (bit % (8 * (b.length : Int))).toNat) 32) ≠ 0 := by
    refine stepsC_ne _ (Nat.lt_of_lt_of_le (wordN_lt _ _ _) (by decide)) ?_
    have := wordN_bit (fun i => decide (fX bs / 2 ^ i % 2 = 1)) (8 * b.length - (bit % (8 * (b.length : Int))).toNat) (by simp [fX_odd]) (by omega) 32 (by decide)
    omega
  apply h3
  have h5 := congrArg (fun x => stepsC 32 4294967295 ^^^ x) h2
  simp only [← Nat.xor_assoc, Nat.xor_self, Nat.zero_xor] at h5
  exact h5
/-- A sector's bytes of which bits were turned are none any more. -/
theorem openE_flip {b : List UInt8} (h : openE b = 0) (bit bs : Int) : openE (flipT b bit bs) = 5 := by
  unfold openE at h
  split at h
  · cases h
  · rename_i hl
    split at h
    · cases h
    · rename_i hs
      have := flipT_seen (b := b) (by omega) (Decidable.not_not.1 hs) bit bs
      unfold openE
      rw [if_neg (by rw [flipT_length]; exact hl), if_pos this]
end Go.Proofs.YteecmgonbdbhdaaGreatDoor
end

/-
Package casemateref01: bits turned about.
-/
section
namespace Go.Proofs.YteecmgonbdbhdaaGreatDoor.A
open Go.RowKit

theorem tmod_emod {a n : Int} (hn : 0 < n) : (if a.tmod n < 0 then a.tmod n + n else a.tmod n) = a % n := by
  have b1 := Int.tmod_lt_of_pos a hn
  have b2 := Int.lt_tmod_of_pos a hn
  split
  · have e1 : (a.tmod n + n) % n = a % n := by
      rw [Int.add_emod_right, Int.tmod_eq_emod]
      split
      · rw [show ((0 : Nat) : Int) = 0 from rfl, Int.sub_zero, Int.emod_emod_of_dvd _ (Int.dvd_refl n)]
      · rw [Int.sub_emod, Int.emod_emod_of_dvd _ (Int.dvd_refl n), show (n.natAbs : Int) = n by omega, Int.emod_self, Int.sub_zero, Int.emod_emod_of_dvd _ (Int.dvd_refl n)]
    rw [← e1, Int.emod_eq_of_lt (by omega) (by omega)]
  · rename_i hr
    have e1 := Int.tmod_eq_emod (a := a) (b := n)
    rw [Int.tmod_eq_emod]
    split
    · omega
    · rename_i hc
      rw [if_neg hc] at e1
      have := Int.emod_lt_of_pos a hn
      omega
theorem mod_fn (a n : Int) (hn : 0 < n) (hn2 : n ≤ 4611686018427387904) : Fn Tryz.prog 38 [.v (.int .i64 a), .v (.int .i64 n)] fun r => r = .v (.int .i64 (a % n)) := by
  have b1 := Int.tmod_lt_of_pos a hn
  have b2 := Int.lt_tmod_of_pos a hn
  have he := tmod_emod (a := a) hn
  refine Fn.of tys_ok Tryz.func38 rfl rfl (Nat.le_of_ble_eq_true rfl) ?_
  conv => whnf
  refine And.intro (by omega) ?_
  conv => whnf
  repeat' (first | (refine aSeq.go ?_; conv => whnf) | (refine boolI (fun _ => ?_) (fun _ => ?_) <;> conv => whnf) | (refine And.intro (by first | omega | exact of_decide_eq_true rfl) ?_; conv => whnf) | fail)
  all_goals refine ⟨_, fun _ _ h => h, ?_⟩
  · rw [if_pos (by assumption)] at he
    rw [wi (by omega), he]
  · rw [if_neg (by omega)] at he
    rw [he]
def bR (b : List UInt8) : List (List AV) := b.map fun x => [.v (.int .u8 x.toNat)]
theorem bR_get {b : List UInt8} {i : Nat} (h : i < b.length) : (bR b).getD i [] = [.v (.int .u8 (b.getD i 0).toNat)] := map_getD (d := 0) h
theorem bR_set (b : List UInt8) (i : Nat) (y : UInt8) : (bR b).set i [.v (.int .u8 y.toNat)] = bR (b.set i y) := by simp [bR, List.map_set]
theorem bR_sub (b : List UInt8) (c : Ctx) (u : Value) (h : Rd (.sl 1 b.length fun i => (bR b).getD i []) c u) : Rd (bA b) c u :=
  Rd.congr rfl (fun _ hi => map_getD (d := 0) hi) h
theorem bR_sub' {b : List UInt8} {n : Nat} (hn : n = b.length) (c : Ctx) (u : Value) (h : Rd (.sl 1 n fun i => (bR b).getD i []) c u) : Rd (bA b) c u := by
  subst hn; exact bR_sub b c u h
theorem bR_range (b : List UInt8) : (List.range b.length).map (fun i => [AV.v (.int .u8 (b.getD i 0).toNat)]) = bR b := by
  apply List.ext_getElem
  · simp [bR]
  · intro i h1 h2
    simp only [List.length_map, List.length_range] at h1
    simp [bR, List.getD_eq_getElem?_getD, List.getElem?_eq_getElem h1]
theorem twin_fno (b : List UInt8) (hb : b.length ≤ 1000000000) : FnO Tryz.prog 20 [bA b] fun r R => r = .ow 0 b.length ∧ R = [.row 5 1 (bR b)] := by
  refine FnO.of tys_ok Tryz.func20 rfl rfl (Nat.le_of_ble_eq_true rfl) ?_
  conv => whnf
  refine ⟨hb, ?_⟩
  conv => whnf
  exact ⟨rfl, by rw [bR_range]⟩
theorem u8_xor (x : UInt8) (z : Nat) (hz : z < 256) : IntKind.u8.wrap (BitVec.ofInt IntKind.u8.bits (x.toNat : Int) ^^^ BitVec.ofInt IntKind.u8.bits (z : Int)).toNat = ((x ^^^ UInt8.ofNat z).toNat : Int) := by
  show IntKind.u8.wrap (BitVec.ofInt 8 (x.toNat : Int) ^^^ BitVec.ofInt 8 (z : Int)).toNat = ((x ^^^ UInt8.ofNat z).toNat : Int)
  have hx := x.toNat_lt
  have h1 : (BitVec.ofInt 8 (x.toNat : Int)) = BitVec.ofNat 8 x.toNat := BitVec.ofInt_natCast _ _
  have h2 : (BitVec.ofInt 8 (z : Int)) = BitVec.ofNat 8 z := BitVec.ofInt_natCast _ _
  have h3 : x.toNat ^^^ z < 256 := Nat.xor_lt_two_pow (n := 8) hx hz
  rw [h1, h2, BitVec.toNat_xor, BitVec.toNat_ofNat, BitVec.toNat_ofNat, Nat.mod_eq_of_lt hx, Nat.mod_eq_of_lt hz, UInt8.toNat_xor, UInt8.toNat_ofNat_of_lt' hz, IntKind.wrap_u8]
  omega
theorem flipB_set (b : List UInt8) (k : Nat) (h : k / 8 < b.length) : flipB b k = b.set (k / 8) (b.getD (k / 8) 0 ^^^ UInt8.ofNat (2 ^ (k % 8))) := by
  rw [List.getD_eq_getElem?_getD, List.getElem?_eq_getElem h]
  unfold flipB
  apply List.ext_getElem?
  intro i
  rw [List.getElem?_modify, List.getElem?_set]
  split
  · subst_vars; simp [h]
  · simp
theorem flipN_stop (p : Nat → Bool) (a : Nat) (b : List UInt8) (k : Nat) (h : ∀ j, k ≤ j → p j = false ∨ 8 * b.length ≤ a + j) : ∀ n, k ≤ n → flipN p a b n = flipN p a b k := by
  intro n hn
  induction n with
  | zero => obtain rfl : k = 0 := by omega
            rfl
  | succ n ih =>
    by_cases hk : k = n + 1
    · rw [hk]
    · rw [flipN, if_neg, ih (by omega)]
      rcases h n (by omega) with h | h
      · simp [h]
      · simp; omega
set_option maxRecDepth 100000 in
theorem rflip_fn (b : List UInt8) (bit bs : Int) (hb : b.length ≤ 1000000) : Fn Tryz.prog 19 [bA b, .v (.int .i64 bit), .v (.int .i64 bs)] fun r => r = bA (flipT b bit bs) := by
  refine Fn.of tys_ok Tryz.func19 rfl rfl (Nat.le_of_ble_eq_true rfl) ?_
  conv => whnf
  refine FnO.call (twin_fno b (by omega)) rfl ?_
  rintro _ _ ⟨rfl, rfl⟩
  conv => whnf
  refine boolI (fun h0 => ?_) (fun h0 => ?_) <;> (repeat rw [Int.toNat_natCast] at h0) <;> conv => whnf
  · refine ⟨by simp [bR], ?_⟩
    conv => whnf
    have e : b = [] := List.eq_nil_of_length_eq_zero (by omega)
    subst e
    exact ⟨_, fun c u h => bR_sub [] c u h, by rw [flipT_nil]⟩
  have hn : b.length ≠ 0 := by omega
  have w8 : IntKind.i64.wrap (8 * (b.length : Int)) = 8 * b.length := wi (by omega)
  rw [w8]
  refine Fn.closed (mod_fn bit (8 * b.length) (by omega) (by omega)) rfl ?_
  rintro _ rfl
  conv => whnf
  refine Fn.closed (mod_fn bs 4294967296 (by omega) (by omega)) rfl ?_
  rintro _ rfl
  conv => whnf
  have a1 := Int.emod_lt_of_pos bit (show (0 : Int) < 8 * b.length by omega)
  have a2 := Int.emod_nonneg bit (show (8 * (b.length : Int)) ≠ 0 by omega)
  have b1 := Int.emod_lt_of_pos bs (show (0 : Int) < 4294967296 by omega)
  have b2 := Int.emod_nonneg bs (show (4294967296 : Int) ≠ 0 by omega)
  have hX : IntKind.i64.wrap ((fX bs : Nat) : Int) = (fX bs : Nat) := wi (by have := fX_lt bs; omega)
  refine aSeq.cut Unit (fun _ => ([(7, .ow 0 b.length), (8, .v (.int .i64 (bit % (8 * b.length)))), (9, .v (.int .i64 (fX bs : Nat)))], [.row 5 1 (bR b)])) (fun _ => True) ?_ ?_
  · conv => whnf
    refine And.intro (by decide) ?_
    conv => whnf
    refine boolI (fun hx => ?_) (fun hx => ?_) <;> (repeat rw [Int.toNat_natCast] at hx) <;> conv => whnf
    · rw [Int.tmod_eq_emod_of_nonneg b2] at hx
      have ex : IntKind.i64.wrap (bs % 4294967296 + 1) = (fX bs : Nat) := by
        rw [wi (by omega)]
        unfold fX
        rw [if_pos (by omega)]
        omega
      exact ⟨(), trivial, (Wk.plain (by repeat' first | exact trivial | exact rfl | refine And.intro ?_ ?_ | exact wsucc (by omega) | exact congrArg (fun n => AV.v (.int .i64 n)) ex) (by repeat' first | exact trivial | exact rfl | refine And.intro ?_ ?_ | exact wsucc (by omega) | exact congrArg (fun n => AV.v (.int .i64 n)) ex) rfl rfl rfl)⟩
    · rw [Int.tmod_eq_emod_of_nonneg b2] at hx
      have ex : bs % 4294967296 = (fX bs : Nat) := by
        unfold fX
        rw [if_neg (by omega)]
        omega
      exact ⟨(), trivial, (Wk.plain (by repeat' first | exact trivial | exact rfl | refine And.intro ?_ ?_ | exact wsucc (by omega) | exact congrArg (fun n => AV.v (.int .i64 n)) ex) (by repeat' first | exact trivial | exact rfl | refine And.intro ?_ ?_ | exact wsucc (by omega) | exact congrArg (fun n => AV.v (.int .i64 n)) ex) rfl rfl rfl)⟩
  rintro - -
  conv => whnf
  have hXl := fX_lt bs
  have hR : flipN (fun i => decide (fX bs / 2 ^ i % 2 = 1)) (bit % (8 * (b.length : Int))).toNat b 32 = flipT b bit bs := rfl
  obtain ⟨X, eX⟩ : ∃ X, X = fX bs := ⟨_, rfl⟩
  obtain ⟨A, eA⟩ : ∃ A : Nat, (A : Int) = bit % (8 * b.length) := ⟨(bit % (8 * (b.length : Int))).toNat, by omega⟩
  rw [← eX, ← eA, Int.toNat_natCast] at hR
  rw [← eX] at hXl
  rw [← eX, ← eA]
  refine aLoop.rule Nat (fun k => ([(7, .ow 0 b.length), (9, .v (.int .i64 (X / 2 ^ k : Nat))), (10, .v (.int .i64 ((A + k : Nat) : Int)))], [.row 5 1 (bR (flipN (fun i => decide (X / 2 ^ i % 2 = 1)) A b k))])) (fun k => k ≤ 32) (fun k => 32 - k) 0 (Nat.zero_le _) (Wk.plain (by repeat' first | exact trivial | exact rfl | refine And.intro ?_ ?_ | exact wsucc (by omega) | exact congrArg (fun n => AV.v (.int .i64 n)) (by rw [Nat.pow_zero, Nat.div_one])) (by repeat' first | exact trivial | exact rfl | refine And.intro ?_ ?_ | exact wsucc (by omega) | exact congrArg (fun n => AV.v (.int .i64 n)) (by rw [Nat.pow_zero, Nat.div_one])) rfl rfl rfl) ?_
  intro k hk
  have hfl := flipN_length (fun i => decide (X / 2 ^ i % 2 = 1)) A b k
  have hnx : X / 2 ^ (k + 1) = X / 2 ^ k / 2 := by rw [Nat.pow_succ, Nat.div_div_eq_div_mul]
  have hA : A < 8 * b.length := by omega
  conv => whnf
  have stop : X / 2 ^ k = 0 ∨ 8 * b.length ≤ A + k → flipN (fun i => decide (X / 2 ^ i % 2 = 1)) A b k = flipT b bit bs := fun h => by
    rw [← hR]
    refine (flipN_stop _ _ _ _ (fun j hj => ?_) 32 hk).symm
    rcases h with h | h
    · refine .inl ?_
      have : X / 2 ^ j = 0 := by
        obtain ⟨d, rfl⟩ := Nat.exists_eq_add_of_le hj
        rw [Nat.pow_add, ← Nat.div_div_eq_div_mul, h, Nat.zero_div]
      simp [this]
    · exact .inr (by omega)
  refine boolI (fun h1 => ?_) (fun h1 => ?_) <;> (repeat rw [Int.toNat_natCast] at h1) <;> conv => whnf
  · rw [w8]
    refine boolI (fun h2 => ?_) (fun h2 => ?_) <;> (repeat rw [Int.toNat_natCast] at h2) <;> conv => whnf
    · have hk32 : k < 32 := by
        rcases Nat.lt_or_ge k 32 with h | h
        · exact h
        · have : X / 2 ^ k = 0 := Nat.div_eq_of_lt (Nat.lt_of_lt_of_le hXl (Nat.pow_le_pow_right (n := 2) (by omega) h))
          omega
      have e1 : IntKind.i64.wrap (((X / 2 ^ k : Nat) : Int).tdiv 2) = ((X / 2 ^ (k + 1) : Nat) : Int) := by
        rw [Int.tdiv_eq_ediv_of_nonneg (by omega), hnx]
        have := Nat.div_le_self X (2 ^ k)
        rw [wi (by omega)]
        omega
      have e2 : IntKind.i64.wrap (((A + k : Nat) : Int) + 1) = ((A + (k + 1) : Nat) : Int) := by
        rw [wi (by omega)]; omega
      refine aSeq.go ?_
      conv => whnf
      refine aSeq.cut Unit (fun _ => ([(7, .ow 0 b.length), (9, .v (.int .i64 (X / 2 ^ k : Nat))), (10, .v (.int .i64 ((A + k : Nat) : Int)))], [.row 5 1 (bR (flipN (fun i => decide (X / 2 ^ i % 2 = 1)) A b (k + 1)))])) (fun _ => True) ?_ ?_
      · conv => whnf
        refine And.intro (by decide) ?_
        conv => whnf
        have hq : (A + k) / 8 < b.length := by omega
        have hz : (2 : Nat) ^ ((A + k) % 8) < 256 := by
          have := Nat.pow_lt_pow_right (a := 2) (by omega) (show (A + k) % 8 < 8 by omega)
          omega
        refine boolI (fun h3 => ?_) (fun h3 => ?_) <;> (repeat rw [Int.toNat_natCast] at h3) <;> conv => whnf
        · rw [Int.tmod_eq_emod_of_nonneg (by omega)] at h3
          have hE : flipN (fun i => decide (X / 2 ^ i % 2 = 1)) A b (k + 1) = flipB (flipN (fun i => decide (X / 2 ^ i % 2 = 1)) A b k) (A + k) := by
            rw [flipN, if_pos]
            simp only [Bool.and_eq_true, decide_eq_true_eq]
            omega
          have eq : IntKind.i64.wrap (((A + k : Nat) : Int).tdiv 8) = (((A + k) / 8 : Nat) : Int) := by
            rw [Int.tdiv_eq_ediv_of_nonneg (by omega), wi (by omega)]
            omega
          have er : IntKind.u64.wrap (((A + k : Nat) : Int).tmod 8) = (((A + k) % 8 : Nat) : Int) := by
            rw [Int.tmod_eq_emod_of_nonneg (by omega), IntKind.wrap_u64]
            omega
          have es : IntKind.u8.wrap (1 * 2 ^ min ((((A + k) % 8 : Nat) : Int).toNat) IntKind.u8.bits) = ((2 ^ ((A + k) % 8) : Nat) : Int) := by
            rw [Int.toNat_natCast, show min ((A + k) % 8) IntKind.u8.bits = (A + k) % 8 from Nat.min_eq_left (by show _ ≤ 8; omega), Int.one_mul, IntKind.wrap_u8]
            have : ((2 ^ ((A + k) % 8) : Nat) : Int) = (2 : Int) ^ ((A + k) % 8) := by simp
            rw [← this]
            generalize 2 ^ ((A + k) % 8) = z at hz ⊢
            omega
          refine And.intro (by decide) ?_
          conv => whnf
          refine And.intro (by decide) ?_
          conv => whnf
          rw [eq]
          refine And.intro ⟨by omega, by omega⟩ ?_
          conv => whnf
          refine And.intro ⟨rfl, by simp [bR, hfl], by omega⟩ ?_
          conv => whnf
          rw [Int.toNat_natCast, bR_get (by rw [hfl]; omega)]
          conv => whnf
          refine And.intro (by decide) ?_
          conv => whnf
          rw [er]
          refine And.intro (by omega) ?_
          conv => whnf
          refine And.intro ⟨by omega, by omega⟩ ?_
          conv => whnf
          rw [es]
          refine And.intro ⟨rfl, by simp [bR, hfl], by omega⟩ ?_
          conv => whnf
          rw [Int.toNat_natCast, bR_get (by rw [hfl]; omega)]
          conv => whnf
          have ex := u8_xor ((flipN (fun i => decide (X / 2 ^ i % 2 = 1)) A b k).getD ((A + k) / 8) 0) (2 ^ ((A + k) % 8)) hz
          rw [ex, bR_set, ← flipB_set _ _ (by rw [hfl]; omega), ← hE]
          exact ⟨(), trivial, (Wk.plain (by repeat' first | exact trivial | exact rfl | refine And.intro ?_ ?_ | exact wsucc (by omega)) (by repeat' first | exact trivial | exact rfl | refine And.intro ?_ ?_ | exact wsucc (by omega)) rfl rfl rfl)⟩
        · rw [Int.tmod_eq_emod_of_nonneg (by omega)] at h3
          have hE : flipN (fun i => decide (X / 2 ^ i % 2 = 1)) A b (k + 1) = flipN (fun i => decide (X / 2 ^ i % 2 = 1)) A b k := by
            rw [flipN, if_neg]
            simp only [Bool.and_eq_true, decide_eq_true_eq]
            intro hh
            apply h3
            have := hh.1
            omega
          exact ⟨(), trivial, (Wk.plain (by repeat' first | exact trivial | exact rfl | refine And.intro ?_ ?_ | exact wsucc (by omega) | exact congrArg (fun l => AB.row _ _ (bR l)) hE) (by repeat' first | exact trivial | exact rfl | refine And.intro ?_ ?_ | exact wsucc (by omega) | exact congrArg (fun l => AB.row _ _ (bR l)) hE) rfl rfl rfl)⟩
      · rintro - -
        conv => whnf
        refine And.intro (by decide) ?_
        conv => whnf
        exact ⟨k + 1, by omega, by omega, (Wk.plain (by repeat' first | exact trivial | exact rfl | refine And.intro ?_ ?_ | exact wsucc (by omega) | exact congrArg (fun n => AV.v (.int .i64 n)) e1 | exact congrArg (fun n => AV.v (.int .i64 n)) e2) (by repeat' first | exact trivial | exact rfl | refine And.intro ?_ ?_ | exact wsucc (by omega) | exact congrArg (fun n => AV.v (.int .i64 n)) e1 | exact congrArg (fun n => AV.v (.int .i64 n)) e2) rfl rfl rfl)⟩
    · refine ⟨by simp [bR, hfl], ?_⟩
      conv => whnf
      rw [stop (.inr (by omega))]
      exact ⟨_, fun c u h => bR_sub' (by rw [flipT_length]) c u h, rfl⟩
  · refine ⟨by simp [bR, hfl], ?_⟩
    conv => whnf
    rw [stop (.inl (Nat.eq_zero_of_le_zero (Int.ofNat_le.1 h1)))]
    exact ⟨_, fun c u h => bR_sub' (by rw [flipT_length]) c u h, rfl⟩
end Go.Proofs.YteecmgonbdbhdaaGreatDoor.A
end

/-
The law PairLeft.
-/
section
namespace Go.Proofs.YteecmgonbdbhdaaGreatDoor.A
open Go.RowKit

theorem imgOk_short {g : Geo} {x : Img} (h : imgOk g x = true) : x.bytes.length ≤ 100 := by
  obtain ⟨h1, -, h3⟩ := imgOk_parts h
  obtain ⟨-, hd, -⟩ := okG_iff.1 h1
  rcases h3 with ⟨-, l, hl⟩ | ⟨-, -, h8⟩
  · have := readT_len hl
    omega
  · omega
end Go.Proofs.YteecmgonbdbhdaaGreatDoor.A
end

/-
A right log's records are right ones.
-/
section
namespace Go.Proofs.YteecmgonbdbhdaaGreatDoor.A
open Go.RowKit

theorem ents0 : ∀ n, n < 6 → entsOf n (tblB (List.replicate n ent0)) = List.replicate n ent0 := by decide +kernel
theorem readT_tab0 {g : Geo} (hg : okG g = true) : readT g (tblB (tab0 g)) = some (tab0 g) := by
  obtain ⟨h1, h2, h3, h4, h5⟩ := okG_iff.1 hg
  have e := ents0 (g.d + 1).toNat (by omega)
  unfold readT tab0
  rw [e, if_pos]
  refine ⟨?_, rfl⟩
  unfold okT
  simp only [Bool.and_eq_true, decide_eq_true_eq, List.length_replicate, Bool.not_eq_true']
  refine ⟨⟨⟨hg, by omega⟩, ?_⟩, ?_⟩
  · rw [List.all_eq_true]
    intro x hx
    rw [List.eq_of_mem_replicate hx]
    decide +kernel
  · unfold lostAt
    rw [List.getElem?_replicate_of_lt (by omega)]
    rfl
theorem logImg_ok {g : Geo} (hg : okG g = true) (fill : UInt8) (i k : Nat) : imgOk g (logImg g fill i k) = true := by
  obtain ⟨h1, h2, h3, h4, h5⟩ := okG_iff.1 hg
  have z1 := Int.tmod_nonneg g.z (show 0 ≤ ((i + k : Nat) : Int) by omega)
  have z2 := Int.tmod_lt_of_pos ((i + k : Nat) : Int) (show 0 < g.z by omega)
  have d1 := Int.tmod_nonneg (g.d + 1) (show 0 ≤ ((i + 2 * k : Nat) : Int) by omega)
  have d2 := Int.tmod_lt_of_pos ((i + 2 * k : Nat) : Int) (show 0 < g.d + 1 by omega)
  unfold imgOk logImg
  split
  · simp only [hg, inB_iff.2 (show 0 ≤ ((i + k : Nat) : Int).tmod g.z ∧ ((i + k : Nat) : Int).tmod g.z ≤ g.z - 1 by omega), readT_tab0 hg]
    rfl
  · simp only [hg, inB_iff.2 (show 0 ≤ ((i + k : Nat) : Int).tmod g.z ∧ ((i + k : Nat) : Int).tmod g.z ≤ g.z - 1 by omega), Bool.true_and]
    rw [if_neg (by omega), inB_iff.2 (show -1 ≤ ((i + 2 * k : Nat) : Int).tmod (g.d + 1) - 1 ∧ ((i + 2 * k : Nat) : Int).tmod (g.d + 1) - 1 ≤ g.d - 1 by omega)]
    rfl
/-- What is in a log: right transactions, numbered. -/
structure TxIn (g : Geo) (a : An) (fill : UInt8) (i0 : Nat) (l : List Tx) : Prop where
  at_ : ∀ j, j < l.length → ∃ pos n, l.getD j tz = logTx g a fill (i0 + j) pos n ∧ 1 ≤ n ∧ n ≤ 5 ∧ 0 ≤ pos ∧ pos < g.sl
theorem logM_in {g : Geo} {a : An} {fill : UInt8} (hg : okG g = true) : ∀ (sizes : List Int) (i : Nat) (pos used : Int), 0 ≤ pos ∧ pos < g.sl → TxIn g a fill i (logM g a fill sizes i pos used)
  | [], _, _, _, _ => ⟨fun j hj => by simp [logM] at hj⟩
  | s :: r, i, pos, used, hp => by
    obtain ⟨h1, h2, h3, h4, h5⟩ := okG_iff.1 hg
    have hn := nImg_in s
    have hm := Int.tmod_lt_of_pos (pos + (nImg s : Nat) + 1) (show 0 < g.sl by omega)
    have hm0 := Int.tmod_nonneg g.sl (show 0 ≤ pos + (nImg s : Nat) + 1 by omega)
    unfold logM
    split
    · exact ⟨fun j hj => by simp at hj⟩
    · refine ⟨fun j hj => ?_⟩
      cases j with
      | zero => exact ⟨pos, nImg s, rfl, hn.1, hn.2, hp⟩
      | succ j =>
        obtain ⟨p, n, e, q⟩ := (logM_in hg r (i + 1) _ (used + (nImg s : Nat) + 1) ⟨hm0, hm⟩).at_ j (by simpa using hj)
        refine ⟨p, n, ?_, q⟩
        rw [show i + (j + 1) = i + 1 + j by omega, ← e]
        rfl
theorem logM_len {g : Geo} {a : An} {fill : UInt8} : ∀ (sizes : List Int) (i : Nat) (pos used : Int), used ≤ g.sl → 2 * ((logM g a fill sizes i pos used).length : Int) ≤ g.sl - used
  | [], _, _, _, h => by simp [logM]; omega
  | s :: r, i, pos, used, h => by
    have hn := nImg_in s
    unfold logM
    split
    · simp; omega
    · have := logM_len (g := g) (a := a) (fill := fill) r (i + 1) ((pos + (nImg s : Nat) + 1).tmod g.sl) (used + (nImg s : Nat) + 1) (by omega)
      simp only [List.length_cons]
      omega
theorem whoM_some {g : Geo} {s : Int} : ∀ {l : List Tx} {i j : Nat} {k : Int}, whoM g s l i = some (j, k) → i ≤ j ∧ j < i + l.length ∧ whoOk g (l.getD (j - i) tz) s = true ∧ k = whoK g (l.getD (j - i) tz) s
  | [], i, j, k, h => by cases h
  | t :: r, i, j, k, h => by
    unfold whoM at h
    split at h
    · injection h with h
      injection h with e1 e2
      subst e1
      subst e2
      refine ⟨Nat.le_refl _, by simp, ?_, ?_⟩ <;> rw [Nat.sub_self] <;> first | assumption | rfl
    · obtain ⟨q1, q2, q3, q4⟩ := whoM_some h
      refine ⟨by omega, by simp only [List.length_cons]; omega, ?_, ?_⟩
      · rw [show j - i = (j - (i + 1)) + 1 by omega]; exact q3
      · rw [show j - i = (j - (i + 1)) + 1 by omega]; exact q4
theorem logTx_imgs {g : Geo} {a : An} {fill : UInt8} {i n : Nat} {pos : Int} (hg : okG g = true) : (logTx g a fill i pos n).images.length = n ∧ ∀ x ∈ (logTx g a fill i pos n).images, imgOk g x = true := by
  refine ⟨by simp [logTx], fun x hx => ?_⟩
  obtain ⟨k, -, rfl⟩ := List.mem_map.1 hx
  exact logImg_ok hg fill i k
theorem okR_zero {g : Geo} (hg : okG g = true) : okR g zeroC = true := by
  simp [okR, hg, behOk, zeroC, noneB]
/-- A right log, written with any right epoch. -/
theorem logM_ok {g : Geo} {a : An} {fill : UInt8} {sizes : List Int} {epoch : Int} (hg : okG g = true) (ha : anOk g a = true) (hs : a.seq ≤ 1000000) (he : 0 ≤ epoch ∧ epoch ≤ 4294967295) : LogOk g (logM g a fill sizes 0 a.pos 0) epoch := by
  obtain ⟨h1, h2, h3, h4, h5⟩ := okG_iff.1 hg
  have hq := anOk_seq ha
  have hin := logM_in (a := a) (fill := fill) hg sizes 0 a.pos 0 hq.2
  have hlen := logM_len (g := g) (a := a) (fill := fill) sizes 0 a.pos 0 (by omega)
  generalize logM g a fill sizes 0 a.pos 0 = l at hin hlen
  have hwho : ∀ s i k, 0 ≤ s ∧ s < g.sl → whoM g s l 0 = some (i, k) → i < l.length ∧ 0 ≤ k ∧ ∃ pos n, l.getD i tz = logTx g a fill i pos n ∧ 1 ≤ n ∧ n ≤ 5 ∧ k.toNat < n + 1 := fun s i k hsl hw => by
    obtain ⟨q1, q2, q3, q4⟩ := whoM_some hw
    rw [Nat.sub_zero] at q3 q4
    obtain ⟨pos, n, e, n1, n2, p1, p2⟩ := hin.at_ i (by omega)
    rw [Nat.zero_add] at e
    unfold whoOk at q3
    simp only [Bool.and_eq_true, decide_eq_true_eq] at q3
    rw [← q4, e] at q3
    have k0 : 0 ≤ k := by
      rw [q4, e, whoK]
      refine Int.tmod_nonneg _ ?_
      rw [IntKind.wrap_i64, IntKind.wrap_i64]
      simp only [logTx]
      omega
    refine ⟨by omega, k0, pos, n, e, n1, n2, ?_⟩
    have := q3.2
    simp only [logTx] at this
    omega
  refine ⟨by omega, fun t ht => ?_, fun s i k hsl hw => ?_, fun s hsl => ?_⟩
  · obtain ⟨j, hj, rfl⟩ := List.mem_iff_getElem.1 ht
    obtain ⟨pos, n, e, n1, n2, -⟩ := hin.at_ j hj
    rw [List.getD_eq_getElem?_getD, List.getElem?_eq_getElem hj] at e
    simp only [Option.getD_some] at e
    rw [e]
    obtain ⟨i1, i2⟩ := logTx_imgs (a := a) (fill := fill) (i := 0 + j) (n := n) (pos := pos) hg
    exact ⟨by omega, fun x hx => by have := imgOk_short (i2 x hx); omega⟩
  · obtain ⟨q1, q2, pos, n, e, n1, n2, q3⟩ := hwho s i k hsl hw
    rw [e, (logTx_imgs (a := a) (fill := fill) (i := i) (n := n) (pos := pos) hg).1]
    exact ⟨q1, q2, q3⟩
  · unfold recW
    cases hw : whoM g s l 0 with
    | none => exact okR_zero hg
    | some q =>
      obtain ⟨i, k⟩ := q
      obtain ⟨q1, q2, pos, n, e, n1, n2, q3⟩ := hwho s i k hsl hw
      simp only
      rw [e]
      obtain ⟨i1, i2⟩ := logTx_imgs (a := a) (fill := fill) (i := i) (n := n) (pos := pos) hg
      exact (recs_at (seq := (logTx g a fill i pos n).seq) (epoch := epoch) (l := (logTx g a fill i pos n).images) (k := k.toNat) hg (by simp only [logTx]; omega) he i2 (by omega) (by omega) (by omega)).ok
end Go.Proofs.YteecmgonbdbhdaaGreatDoor.A
end

/-
Whose a slot of a right log is: by how far it lies behind the log's place.
-/
section
namespace Go.Proofs.YteecmgonbdbhdaaGreatDoor.A
open Go.RowKit

theorem tmod_lo {x n : Int} (h0 : 0 ≤ x) (h1 : x < n) : x.tmod n = x := Int.tmod_eq_of_lt h0 h1
theorem tmod_hi {x n : Int} (h0 : n ≤ x) (h1 : x < 2 * n) (hn : 0 < n) : x.tmod n = x - n := by
  rw [Int.tmod_eq_emod_of_nonneg (by omega), ← Int.sub_emod_right x n]
  exact Int.emod_eq_of_lt (by omega) (by omega)
/-- Which transaction's so far behind, and which of its records. -/
def findU : List Tx → Int → Nat → Int → Option (Nat × Int)
  | [], _, _, _ => none
  | t :: r, used, i, u => if used ≤ u ∧ u < used + t.n then some (i, u - used) else findU r (used + t.n) (i + 1) u
theorem whoK_far {g : Geo} {t : Tx} {p0 u used : Int} (hg : okG g = true) (hp : 0 ≤ p0 ∧ p0 < g.sl) (hu : 0 ≤ u ∧ u < g.sl) (hd : 0 ≤ used ∧ used < g.sl) (ht : t.pos = (p0 + used).tmod g.sl) :
    whoK g t ((p0 + u).tmod g.sl) = if used ≤ u then u - used else u - used + g.sl := by
  obtain ⟨h1, h2, h3, h4, h5⟩ := okG_iff.1 hg
  have hs : (p0 + u).tmod g.sl = if p0 + u < g.sl then p0 + u else p0 + u - g.sl := by
    split
    · exact tmod_lo (by omega) (by omega)
    · exact tmod_hi (by omega) (by omega) (by omega)
  have hq : (p0 + used).tmod g.sl = if p0 + used < g.sl then p0 + used else p0 + used - g.sl := by
    split
    · exact tmod_lo (by omega) (by omega)
    · exact tmod_hi (by omega) (by omega) (by omega)
  unfold whoK
  rw [ht, hs, hq]
  have hw : IntKind.i64.wrap (IntKind.i64.wrap ((if p0 + u < g.sl then p0 + u else p0 + u - g.sl) - (if p0 + used < g.sl then p0 + used else p0 + used - g.sl)) + g.sl) = (if p0 + u < g.sl then p0 + u else p0 + u - g.sl) - (if p0 + used < g.sl then p0 + used else p0 + used - g.sl) + g.sl := by
    rw [IntKind.wrap_i64, IntKind.wrap_i64]
    split <;> split <;> omega
  rw [hw]
  split <;> split <;> split
  all_goals first
    | (rw [tmod_lo (by omega) (by omega)]; omega)
    | (rw [tmod_hi (by omega) (by omega) (by omega)]; omega)
    | (exfalso; omega)
theorem who_log {g : Geo} {a : An} {fill : UInt8} (hg : okG g = true) {p0 : Int} (hp : 0 ≤ p0 ∧ p0 < g.sl) {u : Int} (hu : 0 ≤ u ∧ u < g.sl) : ∀ (sizes : List Int) (i j : Nat) (used : Int), 0 ≤ used ∧ used ≤ g.sl → whoM g ((p0 + u).tmod g.sl) (logM g a fill sizes i ((p0 + used).tmod g.sl) used) j = findU (logM g a fill sizes i ((p0 + used).tmod g.sl) used) used j u
  | [], i, j, used, hd => rfl
  | s :: r, i, j, used, hd => by
    obtain ⟨h1, h2, h3, h4, h5⟩ := okG_iff.1 hg
    have hn := nImg_in s
    have ep : ((p0 + used).tmod g.sl + (nImg s : Nat) + 1).tmod g.sl = (p0 + (used + (nImg s : Nat) + 1)).tmod g.sl := by
      rw [Int.tmod_eq_emod_of_nonneg (show 0 ≤ p0 + used by omega)]
      have q := Int.emod_nonneg (p0 + used) (show g.sl ≠ 0 by omega)
      rw [Int.tmod_eq_emod_of_nonneg (by omega), Int.tmod_eq_emod_of_nonneg (by omega), Int.add_assoc, Int.emod_add_emod, show p0 + used + ((nImg s : Nat) + 1) = p0 + (used + (nImg s : Nat) + 1) by omega]
    unfold logM
    split
    · rfl
    · rename_i hc
      have hk := whoK_far (t := logTx g a fill i ((p0 + used).tmod g.sl) (nImg s)) hg hp hu (used := used) (by omega) rfl
      have ip : inB ((p0 + used).tmod g.sl) 0 (g.sl - 1) = true := by
        have q1 := Int.tmod_nonneg g.sl (show 0 ≤ p0 + used by omega)
        have q2 := Int.tmod_lt_of_pos (p0 + used) (show 0 < g.sl by omega)
        exact inB_iff.2 (by omega)
      have inn : inB ((nImg s : Nat) + 1) 0 g.sl = true := inB_iff.2 (by omega)
      have ih := who_log (a := a) (fill := fill) hg hp hu r (i + 1) (j + 1) (used + (nImg s : Nat) + 1) (by omega)
      rw [← ep] at ih
      unfold whoM findU
      have ok : whoOk g (logTx g a fill i ((p0 + used).tmod g.sl) (nImg s)) ((p0 + u).tmod g.sl) = decide (used ≤ u ∧ u < used + ((nImg s : Nat) + 1)) := by
        unfold whoOk
        rw [hk]
        simp only [logTx, ip, inn, Bool.true_and]
        by_cases h : used ≤ u
        · rw [if_pos h]
          exact decide_eq_decide.2 (by omega)
        · rw [if_neg h]
          exact decide_eq_decide.2 (by omega)
      rw [ok, hk]
      by_cases h : used ≤ u ∧ u < used + ((nImg s : Nat) + 1)
      · rw [if_pos (decide_eq_true h), if_pos h.1]
        rw [if_pos (show used ≤ u ∧ u < used + (logTx g a fill i ((p0 + used).tmod g.sl) (nImg s)).n from h)]
      · rw [if_neg (by rw [decide_eq_true_eq]; exact h)]
        rw [if_neg (show ¬ (used ≤ u ∧ u < used + (logTx g a fill i ((p0 + used).tmod g.sl) (nImg s)).n) from h)]
        rw [ih]
        simp only [logTx, Int.add_assoc]
end Go.Proofs.YteecmgonbdbhdaaGreatDoor.A
end

/-
A transaction that the copies say is found.
-/
section
namespace Go.Proofs.YteecmgonbdbhdaaGreatDoor.A
open Go.RowKit

def wsG (look : Int → Rc × Int × List Wr) : Nat → Int → List Wr → List Wr
  | 0, _, w => w
  | f + 1, k, w => wsG look f (k + 1) (w ++ (look k).2.2)
theorem gather_found {look : Int → Rc × Int × List Wr} {R : Nat → Rc} {imgs : List Img} (h1 : ∀ j, j < imgs.length → (R j).kind = 1 ∧ (R j).img = imgs.getD j ⟨0, 0, []⟩) (h2 : (R imgs.length).kind ≠ 1) (hl : ∀ j : Nat, 1 ≤ j → j ≤ imgs.length → (look (j : Nat)).1 = R j ∧ (look (j : Nat)).2.1 = 1) :
    ∀ (f j : Nat) (w : List Wr), f + j = imgs.length → gatherM look f ((j : Nat) + 1) (R j) (imgs.take j) w = (1, imgs, wsG look f ((j : Nat) + 1) w)
  | 0, j, w, h => by
    have e : j = imgs.length := by omega
    subst e
    simp only [gatherM, if_neg h2, List.take_length, wsG]
  | f + 1, j, w, h => by
    obtain ⟨k1, k2⟩ := h1 j (by omega)
    obtain ⟨q1, q2⟩ := hl (j + 1) (by omega) (by omega)
    have ej : (((j + 1 : Nat)) : Int) = (j : Int) + 1 := by omega
    rw [ej] at q1 q2
    have ih := gather_found h1 h2 hl f (j + 1) (w ++ (look ((j : Int) + 1)).2.2) (by omega)
    rw [ej] at ih
    unfold gatherM wsG
    simp only [if_pos k1, q2]
    rw [if_neg (by decide), q1, k2, show imgs.take j ++ [imgs.getD j ⟨0, 0, []⟩] = imgs.take (j + 1) by rw [List.take_succ_eq_append_getElem (by omega), List.getD_eq_getElem?_getD, List.getElem?_eq_getElem (by omega)]; rfl]
    exact ih
/-- At least one copy says the record, and none says another. -/
theorem lookP_found {a : An} {p q : Int → Option Rc} {slot seq at_ of_ left : Int} {r : Rc} (hp : p slot = some r ∨ p slot = none) (hq : q slot = some r ∨ q slot = none) (h : ¬ (p slot = none ∧ q slot = none)) (h1 : isOne r a seq at_ of_ left = true) : (lookP a p q slot seq at_ of_ left).1 = r ∧ (lookP a p q slot seq at_ of_ left).2.2 = 1 := by
  unfold lookP
  rcases hp with hp | hp <;> rcases hq with hq | hq
  · rw [hp, hq]; simp [oneO, h1, lookT]
  · rw [hp, hq]; simp [oneO, h1, lookT]
  · rw [hp, hq]; simp [oneO, h1, lookT]
  · exact absurd ⟨hp, hq⟩ h
/-- A transaction whose every record some copy says is found. -/
theorem txnP_found {g : Geo} {a : An} {p q : Int → Option Rc} {pos seq left ep : Int} {imgs : List Img} (hn : 1 ≤ imgs.length) (hleft : (imgs.length : Int) + 1 ≤ left) (he : ep = a.epoch ∨ seq ≤ a.last ∧ ep ≤ a.epoch)
    (hs : ∀ k : Nat, k < imgs.length + 1 → (p (slotM g pos k) = some ((recsOf seq ep imgs).getD k rc0) ∨ p (slotM g pos k) = none) ∧ (q (slotM g pos k) = some ((recsOf seq ep imgs).getD k rc0) ∨ q (slotM g pos k) = none) ∧ ¬ (p (slotM g pos k) = none ∧ q (slotM g pos k) = none)) :
    (txnP g a p q pos seq left).1 = 1 ∧ (txnP g a p q pos seq left).2.1 = imgs.length + 1 ∧ (txnP g a p q pos seq left).2.2.1 = imgs := by
  have hr : ∀ k : Nat, k < imgs.length + 1 → ((recsOf seq ep imgs).getD k rc0).kind ≠ 0 ∧ ((recsOf seq ep imgs).getD k rc0).seq = seq ∧ ((recsOf seq ep imgs).getD k rc0).epoch = ep ∧ ((recsOf seq ep imgs).getD k rc0).at_ = (k : Nat) ∧ ((recsOf seq ep imgs).getD k rc0).of_ = imgs.length + 1 ∧ (((recsOf seq ep imgs).getD k rc0).kind = 1 ↔ k < imgs.length) ∧ (k < imgs.length → ((recsOf seq ep imgs).getD k rc0).img = imgs.getD k ⟨0, 0, []⟩) := fun k hk => by
    rw [recs_getD seq ep imgs hk]
    split
    · exact ⟨by simp, rfl, rfl, rfl, rfl, by simp [*], fun _ => rfl⟩
    · exact ⟨by simp, rfl, rfl, rfl, rfl, by simp [*], fun h => by omega⟩
  have hrec : ∀ (k : Nat) (of_ : Int), k < imgs.length + 1 → (of_ = 0 ∨ of_ = imgs.length + 1) → (recP g a p q pos seq left k of_).1 = (recsOf seq ep imgs).getD k rc0 ∧ (recP g a p q pos seq left k of_).2.1 = 1 := fun k of_ hk ho => by
    obtain ⟨s1, s2, s3⟩ := hs k hk
    obtain ⟨r1, r2, r3, r4, r5, -⟩ := hr k hk
    exact lookP_found s1 s2 s3 (decide_eq_true ⟨r1, r2, r4, fun _ => by omega, fun _ => by omega, by rw [r3]; exact he⟩)
  obtain ⟨a1, a2⟩ := hrec 0 0 (by omega) (.inl rfl)
  have a3 := (hr 0 (by omega)).2.2.2.2.1
  have gf := gather_found (look := fun k => recP g a p q pos seq left k (imgs.length + 1)) (R := fun k => (recsOf seq ep imgs).getD k rc0) (imgs := imgs) (fun j hj => ⟨(hr j (by omega)).2.2.2.2.2.1.2 hj, (hr j (by omega)).2.2.2.2.2.2 hj⟩) (fun e => by have := (hr imgs.length (by omega)).2.2.2.2.2.1.1 e; omega) (fun j h1 h2 => hrec j _ (by omega) (.inr rfl)) imgs.length 0 (recP g a p q pos seq left 0 0).2.2 (by omega)
  unfold txnP
  simp only
  have a1' : (recP g a p q pos seq left 0 0).1 = (recsOf seq ep imgs).getD 0 rc0 := a1
  have a2' : (recP g a p q pos seq left 0 0).2.1 = 1 := a2
  rw [a1', a2', if_neg (by decide), a3]
  have ef : ((imgs.length : Int) + 1 - 1).toNat = imgs.length := by omega
  rw [ef]
  have gf' : gatherM (fun k => recP g a p q pos seq left k (imgs.length + 1)) imgs.length 1 ((recsOf seq ep imgs).getD 0 rc0) [] (recP g a p q pos seq left 0 0).2.2 = (1, imgs, wsG (fun k => recP g a p q pos seq left k (imgs.length + 1)) imgs.length 1 (recP g a p q pos seq left 0 0).2.2) := gf
  rw [gf']
  rw [if_neg (show ¬ (1 : Int) ≠ 1 by decide)]
  exact ⟨rfl, rfl, rfl⟩
end Go.Proofs.YteecmgonbdbhdaaGreatDoor.A
end

/-
The law ScanRight.
-/
section
namespace Go.Proofs.YteecmgonbdbhdaaGreatDoor.A
open Go.RowKit

def usedM : List Tx → Int
  | [] => 0
  | t :: r => t.n + usedM r
def posM (g : Geo) : List Tx → Int → Int
  | [], pos => pos
  | t :: r, pos => posM g r ((pos + t.n).tmod g.sl)
end Go.Proofs.YteecmgonbdbhdaaGreatDoor.A
end

/-
A log whose every record some copy says is gone through to its end.
-/
section
namespace Go.Proofs.YteecmgonbdbhdaaGreatDoor.A
open Go.RowKit

def SaysAll (g : Geo) (a : An) (ep : Int) (p q : Int → Option Rc) (l : List Tx) : Prop :=
  ∀ t ∈ l, (ep = a.epoch ∨ t.seq ≤ a.last ∧ ep ≤ a.epoch) ∧ ∀ k : Nat, k < t.images.length + 1 → (p (slotM g t.pos k) = some ((recsOf t.seq ep t.images).getD k rc0) ∨ p (slotM g t.pos k) = none) ∧ (q (slotM g t.pos k) = some ((recsOf t.seq ep t.images).getD k rc0) ∨ q (slotM g t.pos k) = none) ∧ ¬ (p (slotM g t.pos k) = none ∧ q (slotM g t.pos k) = none)
theorem scanLP_log {g : Geo} {a : An} {fill : UInt8} {p q : Int → Option Rc} {ep : Int} (hg : okG g = true) (hsq : a.seq ≤ 1000000) : ∀ (sizes : List Int) (i : Nat) (pos used : Int) (l0 : List Tx) (w : List Wr) (f : Nat), 0 ≤ used ∧ used ≤ g.sl → (0 ≤ pos ∧ pos < g.sl) → i ≤ 100 → sizes.length + i ≤ 100 → g.sl - used ≤ (f : Nat) → SaysAll g a ep p q (logM g a fill sizes i pos used) →
    ∃ (w' : List Wr) (f' : Nat) (pos' : Int), g.sl - (used + usedM (logM g a fill sizes i pos used)) ≤ (f' : Nat) ∧ pos' = posM g (logM g a fill sizes i pos used) pos ∧ used + usedM (logM g a fill sizes i pos used) ≤ g.sl ∧
      scanLP g a p q f pos (a.seq + i) (g.sl - used) l0 w = scanLP g a p q f' pos' (a.seq + i + (logM g a fill sizes i pos used).length) (g.sl - (used + usedM (logM g a fill sizes i pos used))) (l0 ++ logM g a fill sizes i pos used) w'
  | [], i, pos, used, l0, w, f, hu, hp, hi, hl, hf, hs => ⟨w, f, pos, by simp [logM, usedM]; omega, rfl, by simp [logM, usedM]; omega, by simp [logM, usedM]⟩
  | s :: r, i, pos, used, l0, w, f, hu, hp, hi, hl, hf, hs => by
    obtain ⟨h1, h2, h3, h4, h5⟩ := okG_iff.1 hg
    have hn := nImg_in s
    simp only [List.length_cons] at hl
    unfold logM at hs ⊢
    by_cases hc : g.sl < used + (nImg s : Nat) + 1
    · rw [if_pos hc] at hs ⊢
      exact ⟨w, f, pos, by simp [usedM]; omega, rfl, by simp [usedM]; omega, by simp [usedM]⟩
    · rw [if_neg hc] at hs ⊢
      obtain ⟨t1, t2⟩ := hs (logTx g a fill i pos (nImg s)) (by simp)
      have il : (logTx g a fill i pos (nImg s)).images.length = nImg s := by simp [logTx]
      have tf := txnP_found (g := g) (a := a) (p := p) (q := q) (pos := pos) (seq := a.seq + i) (left := g.sl - used) (ep := ep) (imgs := (logTx g a fill i pos (nImg s)).images) (by omega) (by omega) t1 t2
      rw [il] at tf
      have hm := Int.tmod_lt_of_pos (pos + (nImg s : Nat) + 1) (show 0 < g.sl by omega)
      have hm0 := Int.tmod_nonneg g.sl (show 0 ≤ pos + (nImg s : Nat) + 1 by omega)
      cases f with
      | zero => exfalso; omega
      | succ f =>
        obtain ⟨w', f', pos', e1, e2, e3, e4⟩ := scanLP_log (fill := fill) hg hsq r (i + 1) ((pos + (nImg s : Nat) + 1).tmod g.sl) (used + (nImg s : Nat) + 1) (l0 ++ [logTx g a fill i pos (nImg s)]) (w ++ (txnP g a p q pos (a.seq + i) (g.sl - used)).2.2.2) f (by omega) ⟨hm0, hm⟩ (by omega) (by omega) (by omega) (fun t ht => hs t (List.mem_cons_of_mem _ ht))
        refine ⟨w', f', pos', ?_, ?_, ?_, ?_⟩
        · simp only [usedM, logTx] at e1 ⊢
          omega
        · simp only [posM, logTx]
          rw [e2, Int.add_assoc]
        · simp only [usedM, logTx] at e3 ⊢
          omega
        · have ea : a.seq + (((i + 1 : Nat)) : Int) = a.seq + (i : Int) + 1 := by omega
          rw [ea] at e4
          have hstep : scanLP g a p q (f + 1) pos (a.seq + i) (g.sl - used) l0 w = scanLP g a p q f ((pos + (nImg s : Nat) + 1).tmod g.sl) (a.seq + i + 1) (g.sl - (used + (nImg s : Nat) + 1)) (l0 ++ [logTx g a fill i pos (nImg s)]) (w ++ (txnP g a p q pos (a.seq + i) (g.sl - used)).2.2.2) := by
            conv => lhs; unfold scanLP
            rw [if_pos (by omega)]
            simp only [tf.1, tf.2.1, tf.2.2]
            rw [if_neg (by decide), if_neg (by decide)]
            rw [show pos + (((nImg s : Nat) : Int) + 1) = pos + (nImg s : Nat) + 1 by omega, show g.sl - used - (((nImg s : Nat) : Int) + 1) = g.sl - (used + (nImg s : Nat) + 1) by omega]
            rfl
          rw [hstep, e4]
          simp only [usedM, logTx, List.length_cons, List.append_assoc, List.cons_append, List.nil_append]
          congr 1 <;> omega
end Go.Proofs.YteecmgonbdbhdaaGreatDoor.A
end

/-
What a written log says at a transaction's slots.
-/
section
namespace Go.Proofs.YteecmgonbdbhdaaGreatDoor.A
open Go.RowKit

theorem logTx_n (g : Geo) (a : An) (fill : UInt8) (i : Nat) (pos : Int) (n : Nat) : (logTx g a fill i pos n).n = (n : Int) + 1 := rfl
theorem logM_at {g : Geo} {a : An} {fill : UInt8} {p0 : Int} (hg : okG g = true) (hp : 0 ≤ p0) : ∀ (sizes : List Int) (i i0 : Nat) (used : Int), 0 ≤ used → ∀ j, j < (logM g a fill sizes i ((p0 + used).tmod g.sl) used).length →
    ∃ o : Int, used ≤ o ∧ o + ((logM g a fill sizes i ((p0 + used).tmod g.sl) used).getD j tz).n ≤ g.sl ∧ ((logM g a fill sizes i ((p0 + used).tmod g.sl) used).getD j tz).pos = (p0 + o).tmod g.sl ∧
      ∀ k : Nat, (k : Int) < ((logM g a fill sizes i ((p0 + used).tmod g.sl) used).getD j tz).n → findU (logM g a fill sizes i ((p0 + used).tmod g.sl) used) used i0 (o + k) = some (i0 + j, ((k : Nat) : Int))
  | [], i, i0, used, hu, j, hj => by simp [logM] at hj
  | s :: r, i, i0, used, hu, j, hj => by
    obtain ⟨h1, h2, h3, h4, h5⟩ := okG_iff.1 hg
    have hn := nImg_in s
    have ep : ((p0 + used).tmod g.sl + (nImg s : Nat) + 1).tmod g.sl = (p0 + (used + (nImg s : Nat) + 1)).tmod g.sl := by
      rw [Int.tmod_eq_emod_of_nonneg (show 0 ≤ p0 + used by omega)]
      have q := Int.emod_nonneg (p0 + used) (show g.sl ≠ 0 by omega)
      rw [Int.tmod_eq_emod_of_nonneg (by omega), Int.tmod_eq_emod_of_nonneg (by omega), Int.add_assoc, Int.emod_add_emod, show p0 + used + ((nImg s : Nat) + 1) = p0 + (used + (nImg s : Nat) + 1) by omega]
    unfold logM at hj ⊢
    split at hj
    · simp at hj
    · rename_i hc
      rw [if_neg hc]
      cases j with
      | zero =>
        refine ⟨used, Int.le_refl _, show used + ((nImg s : Nat) + 1 : Int) ≤ g.sl by omega, rfl, fun k hk => ?_⟩
        have hk : (k : Int) < (nImg s : Nat) + 1 := hk
        unfold findU
        rw [logTx_n, if_pos (show used ≤ used + (k : Int) ∧ used + (k : Int) < used + ((nImg s : Nat) + 1 : Int) by omega)]
        simp only [Nat.add_zero]
        rw [show used + (k : Int) - used = (k : Int) by omega]
      | succ j =>
        rw [ep] at hj ⊢
        obtain ⟨o, o1, o2, o3, o4⟩ := logM_at (a := a) (fill := fill) hg hp r (i + 1) (i0 + 1) (used + (nImg s : Nat) + 1) (by omega) j (by simpa using hj)
        refine ⟨o, by omega, o2, o3, fun k hk => ?_⟩
        unfold findU
        rw [logTx_n, if_neg (show ¬ (used ≤ o + (k : Int) ∧ o + (k : Int) < used + ((nImg s : Nat) + 1 : Int)) by omega)]
        have := o4 k hk
        rw [show i0 + 1 + j = i0 + (j + 1) by omega] at this
        rw [← this, Int.add_assoc]
end Go.Proofs.YteecmgonbdbhdaaGreatDoor.A
end

/-
What a written log says at each of its records' slots.
-/
section
namespace Go.Proofs.YteecmgonbdbhdaaGreatDoor.A
open Go.RowKit

theorem recW_at {g : Geo} {a : An} {fill : UInt8} {sizes : List Int} {ep : Int} (hg : okG g = true) (ha : anOk g a = true) {j k : Nat} (hj : j < (logM g a fill sizes 0 a.pos 0).length) (hk : k < ((logM g a fill sizes 0 a.pos 0).getD j tz).images.length + 1) :
    (0 ≤ slotM g ((logM g a fill sizes 0 a.pos 0).getD j tz).pos k ∧ slotM g ((logM g a fill sizes 0 a.pos 0).getD j tz).pos k < g.sl) ∧
    recW g (logM g a fill sizes 0 a.pos 0) ep (slotM g ((logM g a fill sizes 0 a.pos 0).getD j tz).pos k) = (recsOf ((logM g a fill sizes 0 a.pos 0).getD j tz).seq ep ((logM g a fill sizes 0 a.pos 0).getD j tz).images).getD k rc0 := by
  obtain ⟨h1, h2, h3, h4, h5⟩ := okG_iff.1 hg
  have hq := anOk_seq ha
  have e0 : (a.pos + 0).tmod g.sl = a.pos := by rw [Int.add_zero]; exact tmod_lo hq.2.1 hq.2.2
  have hin := logM_in (a := a) (fill := fill) hg sizes 0 a.pos 0 hq.2
  obtain ⟨pos, n, e, n1, n2, p1, p2⟩ := hin.at_ j hj
  obtain ⟨o, o1, o2, o3, o4⟩ := logM_at (a := a) (fill := fill) (p0 := a.pos) hg hq.2.1 sizes 0 0 0 (Int.le_refl 0) j (by rw [e0]; exact hj)
  rw [e0] at o2 o3 o4
  have hN : ((logM g a fill sizes 0 a.pos 0).getD j tz).n = n + 1 := by rw [e]; rfl
  have hI : ((logM g a fill sizes 0 a.pos 0).getD j tz).images.length = n := by rw [e]; simp [logTx]
  have hs : slotM g ((logM g a fill sizes 0 a.pos 0).getD j tz).pos k = (a.pos + (o + k)).tmod g.sl := by
    unfold slotM
    have q1 := Int.tmod_nonneg g.sl (show 0 ≤ a.pos + o by omega)
    have q2 := Int.tmod_lt_of_pos (a.pos + o) (show 0 < g.sl by omega)
    rw [o3, show IntKind.i64.wrap ((a.pos + o).tmod g.sl + (k : Int)) = (a.pos + o).tmod g.sl + k by rw [IntKind.wrap_i64]; omega]
    rw [Int.tmod_eq_emod_of_nonneg (show 0 ≤ a.pos + o by omega)] at q1 ⊢
    rw [Int.tmod_eq_emod_of_nonneg (by omega), Int.tmod_eq_emod_of_nonneg (by omega), Int.emod_add_emod, Int.add_assoc]
  have hw := who_log (a := a) (fill := fill) hg (p0 := a.pos) hq.2 (u := o + k) (by omega) sizes 0 0 0 ⟨Int.le_refl 0, by omega⟩
  rw [e0, o4 k (by omega)] at hw
  refine ⟨slotM_in hg (by rw [e]; exact ⟨p1, p2⟩) (by omega), ?_⟩
  rw [hs]
  unfold recW
  rw [hw]
  simp only [Nat.zero_add, Int.toNat_natCast]
  rfl
theorem saysAll_W {g : Geo} {a b : An} {fill : UInt8} {sizes : List Int} {ep : Int} {bad0 bad1 : Int → Bool} (hg : okG g = true) (ha : anOk g a = true) (hb : ∀ s, (bad0 s && bad1 s) = false) (he : ∀ t ∈ logM g a fill sizes 0 a.pos 0, ep = b.epoch ∨ t.seq ≤ b.last ∧ ep ≤ b.epoch) :
    SaysAll g b ep (saysW g (logM g a fill sizes 0 a.pos 0) ep bad0) (saysW g (logM g a fill sizes 0 a.pos 0) ep bad1) (logM g a fill sizes 0 a.pos 0) := by
  intro t ht
  refine ⟨he t ht, fun k hk => ?_⟩
  obtain ⟨j, hj, rfl⟩ := List.mem_iff_getElem.1 ht
  have ej : (logM g a fill sizes 0 a.pos 0)[j] = (logM g a fill sizes 0 a.pos 0).getD j tz := by rw [List.getD_eq_getElem?_getD, List.getElem?_eq_getElem hj]; rfl
  rw [ej] at hk ⊢
  obtain ⟨q1, q2⟩ := recW_at (fill := fill) (sizes := sizes) (ep := ep) hg ha hj hk
  unfold saysW
  rw [if_pos q1, if_pos q1, q2]
  have hbs := hb (slotM g ((logM g a fill sizes 0 a.pos 0).getD j tz).pos k)
  cases h0 : bad0 (slotM g ((logM g a fill sizes 0 a.pos 0).getD j tz).pos k) <;> cases h1 : bad1 (slotM g ((logM g a fill sizes 0 a.pos 0).getD j tz).pos k)
  · simp
  · simp
  · simp
  · rw [h0, h1] at hbs
    cases hbs
end Go.Proofs.YteecmgonbdbhdaaGreatDoor.A
end

/-
A written log, with one copy of each slot at least, is found wholly.
-/
section
namespace Go.Proofs.YteecmgonbdbhdaaGreatDoor.A
open Go.RowKit

theorem posM_used {g : Geo} (hg : okG g = true) : ∀ (l : List Tx) (x : Int), 0 ≤ x → (∀ t ∈ l, 0 ≤ t.n) → posM g l (x.tmod g.sl) = (x + usedM l).tmod g.sl
  | [], x, hx, _ => by simp [posM, usedM]
  | t :: r, x, hx, h => by
    obtain ⟨h1, h2, h3, h4, h5⟩ := okG_iff.1 hg
    have ht := h t (by simp)
    have ih := posM_used hg r (x + t.n) (by omega) (fun t ht => h t (List.mem_cons_of_mem _ ht))
    have e : (x.tmod g.sl + t.n).tmod g.sl = (x + t.n).tmod g.sl := by
      rw [Int.tmod_eq_emod_of_nonneg hx]
      have q := Int.emod_nonneg x (show g.sl ≠ 0 by omega)
      rw [Int.tmod_eq_emod_of_nonneg (by omega), Int.tmod_eq_emod_of_nonneg (by omega), Int.emod_add_emod]
    simp only [posM, usedM]
    rw [e, ih, Int.add_assoc]
theorem findU_none : ∀ (l : List Tx) (used : Int) (i : Nat) (u : Int), (∀ t ∈ l, 0 ≤ t.n) → used + usedM l ≤ u → findU l used i u = none
  | [], _, _, _, _, _ => rfl
  | t :: r, used, i, u, h, hu => by
    have ht := h t (by simp)
    simp only [usedM] at hu
    have hr : 0 ≤ usedM r := by
      have : ∀ l : List Tx, (∀ t ∈ l, 0 ≤ t.n) → 0 ≤ usedM l := by
        intro l
        induction l with
        | nil => intro _; simp [usedM]
        | cons x y ih => intro h; have := ih (fun t ht => h t (List.mem_cons_of_mem _ ht)); have := h x (by simp); simp only [usedM]; omega
      exact this r fun t ht => h t (List.mem_cons_of_mem _ ht)
    unfold findU
    rw [if_neg (by omega)]
    exact findU_none r (used + t.n) (i + 1) u (fun t ht => h t (List.mem_cons_of_mem _ ht)) (by omega)
theorem scan_log {g : Geo} {a b : An} {fill : UInt8} {sizes : List Int} {ep : Int} {bad0 bad1 : Int → Bool} (hg : okG g = true) (ha : anOk g a = true) (hsq : a.seq ≤ 1000000) (hl : sizes.length ≤ 40) (hbs : b.seq = a.seq) (hbp : b.pos = a.pos) (hb : ∀ s, (bad0 s && bad1 s) = false) (he : ∀ t ∈ logM g a fill sizes 0 a.pos 0, ep = b.epoch ∨ t.seq ≤ b.last ∧ ep ≤ b.epoch) :
    ∃ w, scanP g b (saysW g (logM g a fill sizes 0 a.pos 0) ep bad0) (saysW g (logM g a fill sizes 0 a.pos 0) ep bad1) = finM b (some (logM g a fill sizes 0 a.pos 0, w, a.seq + (logM g a fill sizes 0 a.pos 0).length)) := by
  obtain ⟨h1, h2, h3, h4, h5⟩ := okG_iff.1 hg
  have hq := anOk_seq ha
  have hS := saysAll_W (b := b) (fill := fill) (sizes := sizes) (ep := ep) hg ha hb he
  have hin := logM_in (a := a) (fill := fill) hg sizes 0 a.pos 0 hq.2
  have hlen := logM_len (g := g) (a := a) (fill := fill) sizes 0 a.pos 0 (by omega)
  have hnn : ∀ t ∈ logM g a fill sizes 0 a.pos 0, 0 ≤ t.n := fun t ht => by
    obtain ⟨j, hj, rfl⟩ := List.mem_iff_getElem.1 ht
    obtain ⟨pos, n, e, -⟩ := hin.at_ j hj
    rw [List.getD_eq_getElem?_getD, List.getElem?_eq_getElem hj] at e
    simp only [Option.getD_some] at e
    rw [e]
    simp only [logTx]
    omega
  have hlog : ∀ i pos used, logM g b fill sizes i pos used = logM g a fill sizes i pos used := fun i pos used => by
    clear hS hin hlen hnn he hl
    induction sizes generalizing i pos used with
    | nil => rfl
    | cons s r ih =>
      unfold logM
      rw [ih]
      simp only [logTx, hbs]
  obtain ⟨w, f, pos', e1, e2, e3, e4⟩ := scanLP_log (a := b) (fill := fill) (p := saysW g (logM g a fill sizes 0 a.pos 0) ep bad0) (q := saysW g (logM g a fill sizes 0 a.pos 0) ep bad1) (ep := ep) hg (by omega) sizes 0 a.pos 0 [] [] g.sl.toNat ⟨Int.le_refl 0, by omega⟩ hq.2 (by omega) (by omega) (by omega) (by rw [hlog]; exact hS)
  rw [hlog] at e1 e2 e3 e4
  refine ⟨w, ?_⟩
  unfold scanP
  rw [hbp, hbs]
  simp only [Int.sub_zero, List.nil_append, hbs, Int.zero_add] at e1 e3 e4
  have e4' := e4
  simp only [Int.natCast_zero, Int.add_zero] at e4'
  rw [e4']
  congr 1
  cases f with
  | zero => rfl
  | succ f =>
    unfold scanLP
    by_cases hc : 0 < g.sl - usedM (logM g a fill sizes 0 a.pos 0) ∧ a.seq + ((logM g a fill sizes 0 a.pos 0).length : Int) ≤ 4294967295
    · rw [if_pos hc]
      have hu0 : 0 ≤ usedM (logM g a fill sizes 0 a.pos 0) := by
        have := e3
        have : ∀ l : List Tx, (∀ t ∈ l, 0 ≤ t.n) → 0 ≤ usedM l := by
          intro l
          induction l with
          | nil => intro _; simp [usedM]
          | cons x y ih => intro h; have := ih (fun t ht => h t (List.mem_cons_of_mem _ ht)); have := h x (by simp); simp only [usedM]; omega
        exact this _ hnn
      have e0 : (a.pos + 0).tmod g.sl = a.pos := by rw [Int.add_zero]; exact tmod_lo hq.2.1 hq.2.2
      have hpos : pos' = (a.pos + usedM (logM g a fill sizes 0 a.pos 0)).tmod g.sl := by
        have := posM_used hg (logM g a fill sizes 0 a.pos 0) a.pos hq.2.1 hnn
        rw [tmod_lo hq.2.1 hq.2.2] at this
        rw [e2]
        exact this
      have p1 := Int.tmod_nonneg g.sl (show 0 ≤ a.pos + usedM (logM g a fill sizes 0 a.pos 0) by omega)
      have p2 := Int.tmod_lt_of_pos (a.pos + usedM (logM g a fill sizes 0 a.pos 0)) (show 0 < g.sl by omega)
      rw [← hpos] at p1 p2
      have hslot : slotM g pos' 0 = pos' := by
        unfold slotM
        rw [Int.add_zero, show IntKind.i64.wrap pos' = pos' by rw [IntKind.wrap_i64]; omega]
        exact tmod_lo p1 p2
      have hw := who_log (a := a) (fill := fill) hg (p0 := a.pos) hq.2 (u := usedM (logM g a fill sizes 0 a.pos 0)) (by omega) sizes 0 0 0 ⟨Int.le_refl 0, by omega⟩
      rw [e0, findU_none _ 0 0 _ hnn (by omega), ← hpos] at hw
      have hr : recW g (logM g a fill sizes 0 a.pos 0) ep pos' = zeroC := by
        unfold recW
        rw [hw]
      have hone : ∀ s l, isOne zeroC b s 0 0 l = false := fun s l => decide_eq_false fun h => h.1 rfl
      have hP : ∀ bad : Int → Bool, saysW g (logM g a fill sizes 0 a.pos 0) ep bad pos' = if bad pos' then none else some zeroC := fun bad => by
        unfold saysW
        rw [if_pos ⟨p1, p2⟩, hr]
      have hx : ∀ s l, (recP g b (saysW g (logM g a fill sizes 0 a.pos 0) ep bad0) (saysW g (logM g a fill sizes 0 a.pos 0) ep bad1) pos' s l 0 0).2.1 = 2 := fun s l => by
        unfold recP lookP
        simp only [hslot, hP]
        have hbs2 := hb pos'
        cases h0 : bad0 pos' <;> cases h1 : bad1 pos'
        · simp [oneO, hone, lookT]
        · simp [oneO, hone, lookT]
        · simp [oneO, hone, lookT]
        · rw [h0, h1] at hbs2
          cases hbs2
      have ht : ∀ s l, (txnP g b (saysW g (logM g a fill sizes 0 a.pos 0) ep bad0) (saysW g (logM g a fill sizes 0 a.pos 0) ep bad1) pos' s l).1 = 2 := fun s l => by
        unfold txnP
        simp only [hx]
        rfl
      simp only [ht]
      rfl
    · rw [if_neg hc]
end Go.Proofs.YteecmgonbdbhdaaGreatDoor.A
end

/-
The beginning of a log.
-/
section
namespace Go.Proofs.YteecmgonbdbhdaaGreatDoor.A
open Go.RowKit

theorem logM_take {g : Geo} {a : An} {fill : UInt8} : ∀ (sizes : List Int) (i : Nat) (pos used : Int) (n : Nat), n ≤ (logM g a fill sizes i pos used).length → (logM g a fill sizes i pos used).take n = logM g a fill (sizes.take n) i pos used
  | [], i, pos, used, n, h => by
    have : n = 0 := by simpa [logM] using h
    subst this
    rfl
  | s :: r, i, pos, used, 0, h => by
    rw [List.take_zero, List.take_zero, logM]
  | s :: r, i, pos, used, n + 1, h => by
    rw [List.take_succ_cons]
    unfold logM at h ⊢
    split at h
    · simp at h
    · rename_i hc
      rw [if_neg hc, if_neg hc, List.take_succ_cons, logM_take r _ _ _ n (by simpa using h)]
end Go.Proofs.YteecmgonbdbhdaaGreatDoor.A
end

/-
A written log gone through: what is found and what is to be written, whichever copies miss records.
-/
section
namespace Go.Proofs.YteecmgonbdbhdaaGreatDoor.A
open Go.RowKit

/-- A copy says a record, or nothing that might be taken for it. -/
def SaysB (a : An) (x : Option Rc) (b : Bool) (r : Rc) (seq at_ : Int) : Prop := if b = true then x = some r else ∀ of_ left, oneO x a seq at_ of_ left = false
def wantsB (b0 b1 : Bool) : List Int := if b0 then (if b1 then [] else [1]) else [0]
theorem lookP_B {a : An} {p q : Int → Option Rc} {slot seq at_ of_ left : Int} {r : Rc} {b0 b1 : Bool} (hp : SaysB a (p slot) b0 r seq at_) (hq : SaysB a (q slot) b1 r seq at_) (h : (b0 || b1) = true) (h1 : isOne r a seq at_ of_ left = true) : lookP a p q slot seq at_ of_ left = (r, wantsB b0 b1, 1) := by
  unfold SaysB at hp hq
  unfold lookP
  cases b0 <;> cases b1
  · cases h
  · rw [if_neg (by decide)] at hp
    rw [if_pos rfl] at hq
    rw [hp, hq]; simp [oneO, h1, lookT, wantsB]
  · rw [if_pos rfl] at hp
    rw [if_neg (by decide)] at hq
    rw [hq, hp]; simp [oneO, h1, lookT, wantsB]
  · rw [if_pos rfl] at hp hq
    rw [hp, hq]; simp [oneO, h1, lookT, wantsB]
/-- What is to be written of a record, of a transaction. -/
def recWr (g : Geo) (ep : Int) (b0 b1 : Int → Bool) (t : Tx) (k : Nat) : List Wr := (wantsB (b0 (slotM g t.pos k)) (b1 (slotM g t.pos k))).map fun c => ⟨logAt g c (slotM g t.pos k), cellB g ((recsOf t.seq ep t.images).getD k rc0) c (slotM g t.pos k)⟩
def txWr (g : Geo) (ep : Int) (b0 b1 : Int → Bool) (t : Tx) : List Wr := (List.range (t.images.length + 1)).flatMap fun k => recWr g ep b0 b1 t k
theorem wsG_eq {look : Int → Rc × Int × List Wr} : ∀ (f : Nat) (k : Int) (w : List Wr), wsG look f k w = w ++ (List.range f).flatMap fun j => (look (k + (j : Nat))).2.2
  | 0, k, w => by simp [wsG]
  | f + 1, k, w => by
    rw [wsG, wsG_eq f (k + 1), List.range_succ_eq_map, List.flatMap_cons, List.flatMap_map, List.append_assoc]
    congr 1
    congr 1
    · rw [show k + ((0 : Nat) : Int) = k by omega]
    · congr 1
      funext j
      rw [show k + 1 + (j : Int) = k + ((j.succ : Nat) : Int) by omega]
def AllB (g : Geo) (a : An) (ep : Int) (p q : Int → Option Rc) (b0 b1 : Int → Bool) (t : Tx) (n : Nat) : Prop :=
  (ep = a.epoch ∨ t.seq ≤ a.last ∧ ep ≤ a.epoch) ∧ ∀ k : Nat, k < n → SaysB a (p (slotM g t.pos k)) (b0 (slotM g t.pos k)) ((recsOf t.seq ep t.images).getD k rc0) t.seq k ∧ SaysB a (q (slotM g t.pos k)) (b1 (slotM g t.pos k)) ((recsOf t.seq ep t.images).getD k rc0) t.seq k ∧ (b0 (slotM g t.pos k) || b1 (slotM g t.pos k)) = true
theorem recs_facts (seq ep : Int) (imgs : List Img) (k : Nat) (hk : k < imgs.length + 1) : ((recsOf seq ep imgs).getD k rc0).kind ≠ 0 ∧ ((recsOf seq ep imgs).getD k rc0).seq = seq ∧ ((recsOf seq ep imgs).getD k rc0).epoch = ep ∧ ((recsOf seq ep imgs).getD k rc0).at_ = (k : Nat) ∧ ((recsOf seq ep imgs).getD k rc0).of_ = imgs.length + 1 ∧ (((recsOf seq ep imgs).getD k rc0).kind = 1 ↔ k < imgs.length) ∧ (k < imgs.length → ((recsOf seq ep imgs).getD k rc0).img = imgs.getD k ⟨0, 0, []⟩) := by
  rw [recs_getD seq ep imgs hk]
  split
  · exact ⟨by simp, rfl, rfl, rfl, rfl, by simp [*], fun _ => rfl⟩
  · exact ⟨by simp, rfl, rfl, rfl, rfl, by simp [*], fun h => by omega⟩
theorem recP_B {g : Geo} {a : An} {p q : Int → Option Rc} {b0 b1 : Int → Bool} {left ep : Int} {t : Tx} {n : Nat} (hS : AllB g a ep p q b0 b1 t n) (hn : n ≤ t.images.length + 1) (hleft : (t.images.length : Int) + 1 ≤ left) (k : Nat) (of_ : Int) (hk : k < n) (ho : of_ = 0 ∨ of_ = t.images.length + 1) : recP g a p q t.pos t.seq left k of_ = ((recsOf t.seq ep t.images).getD k rc0, 1, recWr g ep b0 b1 t k) := by
  obtain ⟨s1, s2, s3⟩ := hS.2 k hk
  obtain ⟨r1, r2, r3, r4, r5, -⟩ := recs_facts t.seq ep t.images k (by omega)
  have := lookP_B (of_ := of_) (left := left) s1 s2 s3 (decide_eq_true ⟨r1, r2, r4, fun _ => by omega, fun _ => by omega, by rw [r3]; exact hS.1⟩)
  unfold recP
  dsimp only
  rw [this]
  rfl
theorem flatMap_ext {α β : Type} {f g : α → List β} : ∀ {l : List α}, (∀ x ∈ l, f x = g x) → l.flatMap f = l.flatMap g
  | [], _ => rfl
  | x :: l, h => by rw [List.flatMap_cons, List.flatMap_cons, h x (by simp), flatMap_ext fun y hy => h y (List.mem_cons_of_mem _ hy)]
/-- A transaction whose every record some copy says is found. -/
theorem txnP_B {g : Geo} {a : An} {p q : Int → Option Rc} {b0 b1 : Int → Bool} {left ep : Int} {t : Tx} (hS : AllB g a ep p q b0 b1 t (t.images.length + 1)) (hleft : (t.images.length : Int) + 1 ≤ left) :
    txnP g a p q t.pos t.seq left = (1, (t.images.length : Int) + 1, t.images, txWr g ep b0 b1 t) := by
  have hr := recs_facts t.seq ep t.images
  have hrec := fun k of_ hk ho => recP_B (left := left) hS (Nat.le_refl _) hleft k of_ hk ho
  have a1 := hrec 0 0 (by omega) (.inl rfl)
  have a3 := (hr 0 (by omega)).2.2.2.2.1
  have gf := gather_found (look := fun k => recP g a p q t.pos t.seq left k (t.images.length + 1)) (R := fun k => (recsOf t.seq ep t.images).getD k rc0) (imgs := t.images) (fun j hj => ⟨(hr j (by omega)).2.2.2.2.2.1.2 hj, (hr j (by omega)).2.2.2.2.2.2 hj⟩) (fun e => by have := (hr t.images.length (by omega)).2.2.2.2.2.1.1 e; omega) (fun j h1 h2 => by rw [hrec j _ (by omega) (.inr rfl)]; exact ⟨rfl, rfl⟩) t.images.length 0 (recWr g ep b0 b1 t 0) (by omega)
  unfold txnP
  simp only
  have a1' : recP g a p q t.pos t.seq left 0 0 = ((recsOf t.seq ep t.images).getD 0 rc0, 1, recWr g ep b0 b1 t 0) := a1
  rw [a1']
  dsimp only
  rw [if_neg (fun h => h rfl), a3]
  have ef : ((t.images.length : Int) + 1 - 1).toNat = t.images.length := by omega
  rw [ef]
  have gf' : gatherM (fun k => recP g a p q t.pos t.seq left k (t.images.length + 1)) t.images.length 1 ((recsOf t.seq ep t.images).getD 0 rc0) [] (recWr g ep b0 b1 t 0) = (1, t.images, wsG (fun k => recP g a p q t.pos t.seq left k (t.images.length + 1)) t.images.length 1 (recWr g ep b0 b1 t 0)) := gf
  rw [gf', if_neg (show ¬ (1 : Int) ≠ 1 by decide), wsG_eq]
  unfold txWr
  rw [List.range_succ_eq_map, List.flatMap_cons, List.flatMap_map]
  have ew : ((List.range t.images.length).flatMap fun j => (recP g a p q t.pos t.seq left (1 + (j : Nat)) (t.images.length + 1)).2.2) = (List.range t.images.length).flatMap fun j => recWr g ep b0 b1 t j.succ := by
    refine flatMap_ext fun j hj => ?_
    have hj := List.mem_range.1 hj
    have := hrec (j + 1) _ (by omega) (.inr rfl)
    rw [show 1 + ((j : Nat) : Int) = (((j + 1 : Nat)) : Int) by omega, this]
  rw [ew]
theorem gather_fail {look : Int → Rc × Int × List Wr} {h : Int} {k0 : Nat} (hl : ∀ j : Nat, 1 ≤ j → j < k0 → (look (j : Nat)).2.1 = 1) (hk : (look (k0 : Nat)).2.1 = h) (hh : h ≠ 1) :
    ∀ (f j : Nat) (r : Rc) (im : List Img) (w : List Wr), j < k0 → k0 ≤ j + f → (gatherM look f ((j : Nat) + 1) r im w).1 = h
  | 0, j, r, im, w, h1, h2 => by omega
  | f + 1, j, r, im, w, h1, h2 => by
    have ej : (((j + 1 : Nat)) : Int) = (j : Int) + 1 := by omega
    unfold gatherM
    simp only
    by_cases e : k0 = j + 1
    · subst e
      rw [ej] at hk
      rw [if_pos (by rw [hk]; exact hh)]
      exact hk
    · have := hl (j + 1) (by omega) (by omega)
      rw [ej] at this
      rw [if_neg (by rw [this]; decide)]
      have ih := gather_fail hl hk hh f (j + 1) (look ((j : Int) + 1)).1 (if r.kind = 1 then im ++ [r.img] else im) (w ++ (look ((j : Int) + 1)).2.2) (by omega) (by omega)
      rw [ej] at ih
      exact ih
/-- A transaction of which a record is in no copy is not found. -/
theorem txnP_fail {g : Geo} {a : An} {p q : Int → Option Rc} {b0 b1 : Int → Bool} {left ep h : Int} {t : Tx} {k0 : Nat} (hS : AllB g a ep p q b0 b1 t k0) (hk0 : k0 ≤ t.images.length) (hleft : (t.images.length : Int) + 1 ≤ left) (hh : h ≠ 1) (hk : ∀ of_, (recP g a p q t.pos t.seq left k0 of_).2.1 = h) :
    (txnP g a p q t.pos t.seq left).1 = h := by
  have hrec := fun k of_ hk ho => recP_B (left := left) hS (by omega) hleft k of_ hk ho
  unfold txnP
  simp only
  by_cases e : k0 = 0
  · subst e
    have hk := hk 0
    have hk : (recP g a p q t.pos t.seq left 0 0).2.1 = h := hk
    rw [if_pos (by rw [hk]; exact hh)]
    exact hk
  · have a1 := hrec 0 0 (by omega) (.inl rfl)
    have a1' : recP g a p q t.pos t.seq left 0 0 = ((recsOf t.seq ep t.images).getD 0 rc0, 1, recWr g ep b0 b1 t 0) := a1
    have a3 := (recs_facts t.seq ep t.images 0 (by omega)).2.2.2.2.1
    rw [a1']
    dsimp only
    rw [if_neg (fun h => h rfl), a3]
    have ef : ((t.images.length : Int) + 1 - 1).toNat = t.images.length := by omega
    rw [ef]
    have gf := gather_fail (look := fun k => recP g a p q t.pos t.seq left k (t.images.length + 1)) (h := h) (k0 := k0) (fun j h1 h2 => by rw [hrec j _ h2 (.inr rfl)]) (hk _) hh t.images.length 0 ((recsOf t.seq ep t.images).getD 0 rc0) [] (recWr g ep b0 b1 t 0) (by omega) (by omega)
    have gf' : (gatherM (fun k => recP g a p q t.pos t.seq left k (t.images.length + 1)) t.images.length 1 ((recsOf t.seq ep t.images).getD 0 rc0) [] (recWr g ep b0 b1 t 0)).1 = h := gf
    rw [if_pos (by rw [gf']; exact hh)]
    exact gf'
theorem scanLP_B {g : Geo} {a b : An} {fill : UInt8} {p q : Int → Option Rc} {b0 b1 : Int → Bool} {ep : Int} (hg : okG g = true) (hsq : a.seq ≤ 1000000) : ∀ (sizes : List Int) (i : Nat) (pos used : Int) (l0 : List Tx) (w : List Wr) (f : Nat), 0 ≤ used ∧ used ≤ g.sl → (0 ≤ pos ∧ pos < g.sl) → i ≤ 100 → sizes.length + i ≤ 100 → g.sl - used ≤ (f : Nat) → (∀ t ∈ logM g a fill sizes i pos used, AllB g b ep p q b0 b1 t (t.images.length + 1)) →
    ∃ (f' : Nat), g.sl - (used + usedM (logM g a fill sizes i pos used)) ≤ (f' : Nat) ∧ used + usedM (logM g a fill sizes i pos used) ≤ g.sl ∧
      scanLP g b p q f pos (a.seq + i) (g.sl - used) l0 w = scanLP g b p q f' (posM g (logM g a fill sizes i pos used) pos) (a.seq + i + (logM g a fill sizes i pos used).length) (g.sl - (used + usedM (logM g a fill sizes i pos used))) (l0 ++ logM g a fill sizes i pos used) (w ++ (logM g a fill sizes i pos used).flatMap (txWr g ep b0 b1))
  | [], i, pos, used, l0, w, f, hu, hp, hi, hl, hf, hs => ⟨f, by simp [logM, usedM]; omega, by simp [logM, usedM]; omega, by simp [logM, usedM, posM]⟩
  | s :: r, i, pos, used, l0, w, f, hu, hp, hi, hl, hf, hs => by
    obtain ⟨h1, h2, h3, h4, h5⟩ := okG_iff.1 hg
    have hn := nImg_in s
    simp only [List.length_cons] at hl
    unfold logM at hs ⊢
    by_cases hc : g.sl < used + (nImg s : Nat) + 1
    · rw [if_pos hc] at hs ⊢
      exact ⟨f, by simp [usedM]; omega, by simp [usedM]; omega, by simp [usedM, posM]⟩
    · rw [if_neg hc] at hs ⊢
      have t1 := hs (logTx g a fill i pos (nImg s)) (by simp)
      have il : (logTx g a fill i pos (nImg s)).images.length = nImg s := by simp [logTx]
      have tf := txnP_B (left := g.sl - used) t1 (by omega)
      rw [il, show (logTx g a fill i pos (nImg s)).pos = pos from rfl, show (logTx g a fill i pos (nImg s)).seq = a.seq + i from rfl] at tf
      have hm := Int.tmod_lt_of_pos (pos + (nImg s : Nat) + 1) (show 0 < g.sl by omega)
      have hm0 := Int.tmod_nonneg g.sl (show 0 ≤ pos + (nImg s : Nat) + 1 by omega)
      cases f with
      | zero => exfalso; omega
      | succ f =>
        obtain ⟨f', e1, e3, e4⟩ := scanLP_B (b := b) (fill := fill) hg hsq r (i + 1) ((pos + (nImg s : Nat) + 1).tmod g.sl) (used + (nImg s : Nat) + 1) (l0 ++ [logTx g a fill i pos (nImg s)]) (w ++ txWr g ep b0 b1 (logTx g a fill i pos (nImg s))) f (by omega) ⟨hm0, hm⟩ (by omega) (by omega) (by omega) (fun t ht => hs t (List.mem_cons_of_mem _ ht))
        refine ⟨f', ?_, ?_, ?_⟩
        · simp only [usedM, logTx] at e1 ⊢
          omega
        · simp only [usedM, logTx] at e3 ⊢
          omega
        · have ea : a.seq + (((i + 1 : Nat)) : Int) = a.seq + (i : Int) + 1 := by omega
          rw [ea] at e4
          have hstep : scanLP g b p q (f + 1) pos (a.seq + i) (g.sl - used) l0 w = scanLP g b p q f ((pos + (nImg s : Nat) + 1).tmod g.sl) (a.seq + i + 1) (g.sl - (used + (nImg s : Nat) + 1)) (l0 ++ [logTx g a fill i pos (nImg s)]) (w ++ txWr g ep b0 b1 (logTx g a fill i pos (nImg s))) := by
            conv => lhs; unfold scanLP
            rw [if_pos (by omega)]
            simp only [tf]
            rw [if_neg (by decide), if_neg (by decide)]
            rw [show pos + (((nImg s : Nat) : Int) + 1) = pos + (nImg s : Nat) + 1 by omega, show g.sl - used - (((nImg s : Nat) : Int) + 1) = g.sl - (used + (nImg s : Nat) + 1) by omega]
            rfl
          rw [hstep, e4]
          simp only [usedM, posM, logTx, List.length_cons, List.flatMap_cons, List.append_assoc, List.cons_append, List.nil_append, Int.add_assoc]
          congr 1 <;> omega
theorem used_nn {l : List Tx} (h : ∀ t ∈ l, 0 ≤ t.n) : 0 ≤ usedM l := by
  induction l with
  | nil => simp [usedM]
  | cons x y ih => have := ih (fun t ht => h t (List.mem_cons_of_mem _ ht)); have := h x (by simp); simp only [usedM]; omega
theorem logM_nn {g : Geo} {a : An} {fill : UInt8} {sizes : List Int} (hg : okG g = true) (ha : anOk g a = true) : ∀ t ∈ logM g a fill sizes 0 a.pos 0, 0 ≤ t.n := fun t ht => by
  have hq := anOk_seq ha
  obtain ⟨j, hj, rfl⟩ := List.mem_iff_getElem.1 ht
  obtain ⟨pos, n, e, -⟩ := (logM_in (a := a) (fill := fill) hg sizes 0 a.pos 0 hq.2).at_ j hj
  rw [List.getD_eq_getElem?_getD, List.getElem?_eq_getElem hj] at e
  simp only [Option.getD_some] at e
  rw [e]
  simp only [logTx]
  omega
/-- A log that begins with a written one: the rest of the scan. -/
theorem scan_B {g : Geo} {a b : An} {fill : UInt8} {sizes : List Int} {ep : Int} {p q : Int → Option Rc} {b0 b1 : Int → Bool} (hg : okG g = true) (ha : anOk g a = true) (hsq : a.seq ≤ 1000000) (hl : sizes.length ≤ 40) (hbs : b.seq = a.seq) (hbp : b.pos = a.pos) (hS : ∀ t ∈ logM g a fill sizes 0 a.pos 0, AllB g b ep p q b0 b1 t (t.images.length + 1)) :
    ∃ f : Nat, g.sl - usedM (logM g a fill sizes 0 a.pos 0) ≤ (f : Nat) ∧ usedM (logM g a fill sizes 0 a.pos 0) ≤ g.sl ∧
      scanP g b p q = finM b (scanLP g b p q f ((a.pos + usedM (logM g a fill sizes 0 a.pos 0)).tmod g.sl) (a.seq + (logM g a fill sizes 0 a.pos 0).length) (g.sl - usedM (logM g a fill sizes 0 a.pos 0)) (logM g a fill sizes 0 a.pos 0) ((logM g a fill sizes 0 a.pos 0).flatMap (txWr g ep b0 b1))) := by
  obtain ⟨h1, h2, h3, h4, h5⟩ := okG_iff.1 hg
  have hq := anOk_seq ha
  obtain ⟨f, e1, e2, e3⟩ := scanLP_B (b := b) (fill := fill) hg hsq sizes 0 a.pos 0 [] [] g.sl.toNat ⟨Int.le_refl 0, by omega⟩ hq.2 (by omega) (by omega) (by omega) hS
  have hpos := posM_used hg (logM g a fill sizes 0 a.pos 0) a.pos hq.2.1 (logM_nn hg ha)
  rw [tmod_lo hq.2.1 hq.2.2] at hpos
  rw [hpos] at e3
  refine ⟨f, by omega, by omega, ?_⟩
  unfold scanP
  rw [hbp, hbs]
  simp only [Int.sub_zero, List.nil_append, Int.zero_add, Int.natCast_zero, Int.add_zero] at e3
  rw [e3]
theorem scanLP_hole {g : Geo} {b : An} {p q : Int → Option Rc} {f : Nat} {pos seq left : Int} {l : List Tx} {w : List Wr} (hl : 0 < left) (hf : left ≤ (f : Nat)) (hs : seq ≤ 4294967295) (h : (txnP g b p q pos seq left).1 = 3) : scanLP g b p q f pos seq left l w = none := by
  cases f with
  | zero => exfalso; omega
  | succ f =>
    unfold scanLP
    rw [if_pos ⟨hl, hs⟩]
    simp only [h]
    rfl
end Go.Proofs.YteecmgonbdbhdaaGreatDoor.A
end

/-
Where a written log's records lie; what lies behind it.
-/
section
namespace Go.Proofs.YteecmgonbdbhdaaGreatDoor.A
open Go.RowKit

theorem logM_used {g : Geo} {a : An} {fill : UInt8} : ∀ (sizes : List Int) (i : Nat) (pos used : Int), used ≤ g.sl → used + usedM (logM g a fill sizes i pos used) ≤ g.sl
  | [], _, _, _, h => by simp [logM, usedM]; omega
  | s :: r, i, pos, used, h => by
    unfold logM
    split
    · simp [usedM]; omega
    · have := logM_used (g := g) (a := a) (fill := fill) r (i + 1) ((pos + (nImg s : Nat) + 1).tmod g.sl) (used + (nImg s : Nat) + 1) (by omega)
      simp only [usedM, logTx] at this ⊢
      omega
theorem logM_pos {g : Geo} {a : An} {fill : UInt8} : ∀ (sizes : List Int) (i : Nat) (pos used : Int) (j : Nat), j < (logM g a fill sizes i pos used).length → ((logM g a fill sizes i pos used).getD j tz).pos = posM g ((logM g a fill sizes i pos used).take j) pos
  | [], _, _, _, j, h => by simp [logM] at h
  | s :: r, i, pos, used, j, h => by
    unfold logM at h ⊢
    split at h
    · simp at h
    · rename_i hc
      rw [if_neg hc]
      cases j with
      | zero => rfl
      | succ j =>
        have ih := logM_pos r (i + 1) ((pos + (nImg s : Nat) + 1).tmod g.sl) (used + (nImg s : Nat) + 1) j (by simpa using h)
        rw [List.take_succ_cons, posM, List.getD_cons_succ, ih]
        simp only [logTx]
        rw [Int.add_assoc]
theorem used_take : ∀ (l : List Tx) (j : Nat), j < l.length → usedM (l.take (j + 1)) = usedM (l.take j) + (l.getD j tz).n
  | [], j, h => by simp at h
  | t :: r, 0, _ => by simp [usedM]
  | t :: r, j + 1, h => by
    have := used_take r j (by simpa using h)
    simp only [List.take_succ_cons, usedM, List.getD_cons_succ] at this ⊢
    omega
section
variable {g : Geo} {a : An} {fill : UInt8} {sizes : List Int}
theorem log_get (hg : okG g = true) (ha : anOk g a = true) {j : Nat} (hj : j < (logM g a fill sizes 0 a.pos 0).length) : ((logM g a fill sizes 0 a.pos 0).getD j tz).seq = a.seq + j ∧ ((logM g a fill sizes 0 a.pos 0).getD j tz).n = ((logM g a fill sizes 0 a.pos 0).getD j tz).images.length + 1 ∧ 1 ≤ ((logM g a fill sizes 0 a.pos 0).getD j tz).images.length ∧ ((logM g a fill sizes 0 a.pos 0).getD j tz).images.length ≤ 5 := by
  obtain ⟨pos, n, e, n1, n2, -⟩ := (logM_in (a := a) (fill := fill) hg sizes 0 a.pos 0 (anOk_seq ha).2).at_ j hj
  rw [e]
  simp [logTx]
  omega
theorem log_used (hg : okG g = true) : usedM (logM g a fill sizes 0 a.pos 0) ≤ g.sl := by
  obtain ⟨h1, h2, h3, h4, h5⟩ := okG_iff.1 hg
  have := logM_used (g := g) (a := a) (fill := fill) sizes 0 a.pos 0 (by omega)
  omega
theorem log_room (hg : okG g = true) {j : Nat} (hj : j < (logM g a fill sizes 0 a.pos 0).length) : usedM ((logM g a fill sizes 0 a.pos 0).take j) + ((logM g a fill sizes 0 a.pos 0).getD j tz).n ≤ g.sl := by
  rw [← used_take _ j hj]
  rw [logM_take sizes 0 a.pos 0 (j + 1) hj]
  exact log_used hg
theorem log_take_nn (hg : okG g = true) (ha : anOk g a = true) (j : Nat) : 0 ≤ usedM ((logM g a fill sizes 0 a.pos 0).take j) := used_nn fun t ht => logM_nn hg ha t (List.mem_of_mem_take ht)
/-- A record's slot. -/
theorem log_slot (hg : okG g = true) (ha : anOk g a = true) {j k : Nat} (hj : j < (logM g a fill sizes 0 a.pos 0).length) (hk : k < ((logM g a fill sizes 0 a.pos 0).getD j tz).images.length + 1) : slotM g ((logM g a fill sizes 0 a.pos 0).getD j tz).pos k = (a.pos + (usedM ((logM g a fill sizes 0 a.pos 0).take j) + k)).tmod g.sl := by
  obtain ⟨h1, h2, h3, h4, h5⟩ := okG_iff.1 hg
  have hq := anOk_seq ha
  have hu := log_take_nn (fill := fill) (sizes := sizes) hg ha j
  have hp := posM_used hg ((logM g a fill sizes 0 a.pos 0).take j) a.pos hq.2.1 fun t ht => logM_nn hg ha t (List.mem_of_mem_take ht)
  rw [tmod_lo hq.2.1 hq.2.2, ← logM_pos sizes 0 a.pos 0 j hj] at hp
  have hgt := log_get (fill := fill) (sizes := sizes) hg ha hj
  rw [hp]
  unfold slotM
  have q1 := Int.tmod_nonneg g.sl (show 0 ≤ a.pos + usedM ((logM g a fill sizes 0 a.pos 0).take j) by omega)
  have q2 := Int.tmod_lt_of_pos (a.pos + usedM ((logM g a fill sizes 0 a.pos 0).take j)) (show 0 < g.sl by omega)
  rw [show IntKind.i64.wrap ((a.pos + usedM ((logM g a fill sizes 0 a.pos 0).take j)).tmod g.sl + (k : Int)) = (a.pos + usedM ((logM g a fill sizes 0 a.pos 0).take j)).tmod g.sl + k by rw [IntKind.wrap_i64]; omega]
  rw [Int.tmod_eq_emod_of_nonneg (show 0 ≤ a.pos + usedM ((logM g a fill sizes 0 a.pos 0).take j) by omega)] at q1 ⊢
  rw [Int.tmod_eq_emod_of_nonneg (by omega), Int.tmod_eq_emod_of_nonneg (by omega), Int.emod_add_emod, Int.add_assoc]
theorem saysW_at {L : List Tx} {ep s : Int} {bad : Int → Bool} (hs : 0 ≤ s ∧ s < g.sl) : saysW g L ep bad s = if bad s then none else some (recW g L ep s) := by
  unfold saysW
  rw [if_pos hs]
/-- A copy of a written log, some readings spoilt, at a record. -/
theorem saysB_W {b : An} {ep : Int} {bad : Int → Bool} (hg : okG g = true) (ha : anOk g a = true) {j k : Nat} (hj : j < (logM g a fill sizes 0 a.pos 0).length) (hk : k < ((logM g a fill sizes 0 a.pos 0).getD j tz).images.length + 1) :
    SaysB b (saysW g (logM g a fill sizes 0 a.pos 0) ep bad (slotM g ((logM g a fill sizes 0 a.pos 0).getD j tz).pos k)) (!bad (slotM g ((logM g a fill sizes 0 a.pos 0).getD j tz).pos k)) ((recsOf ((logM g a fill sizes 0 a.pos 0).getD j tz).seq ep ((logM g a fill sizes 0 a.pos 0).getD j tz).images).getD k rc0) ((logM g a fill sizes 0 a.pos 0).getD j tz).seq k := by
  obtain ⟨q1, q2⟩ := recW_at (fill := fill) (sizes := sizes) (ep := ep) hg ha hj hk
  rw [saysW_at q1, q2]
  unfold SaysB
  cases bad (slotM g ((logM g a fill sizes 0 a.pos 0).getD j tz).pos k)
  · rfl
  · exact fun _ _ => rfl
theorem allB_W {b : An} {ep : Int} {bad0 bad1 : Int → Bool} (hg : okG g = true) (ha : anOk g a = true) {j n : Nat} (hj : j < (logM g a fill sizes 0 a.pos 0).length) (hn : n ≤ ((logM g a fill sizes 0 a.pos 0).getD j tz).images.length + 1) (he : ep = b.epoch ∨ a.seq + j ≤ b.last ∧ ep ≤ b.epoch) (hb : ∀ k, k < n → (bad0 (slotM g ((logM g a fill sizes 0 a.pos 0).getD j tz).pos (k : Nat)) && bad1 (slotM g ((logM g a fill sizes 0 a.pos 0).getD j tz).pos (k : Nat))) = false) :
    AllB g b ep (saysW g (logM g a fill sizes 0 a.pos 0) ep bad0) (saysW g (logM g a fill sizes 0 a.pos 0) ep bad1) (fun s => !bad0 s) (fun s => !bad1 s) ((logM g a fill sizes 0 a.pos 0).getD j tz) n := by
  refine ⟨?_, fun k hk => ⟨saysB_W hg ha hj (by omega), saysB_W hg ha hj (by omega), ?_⟩⟩
  · rw [(log_get hg ha hj).1]
    exact he
  · have := hb k hk
    cases h0 : bad0 (slotM g ((logM g a fill sizes 0 a.pos 0).getD j tz).pos k) <;> cases h1 : bad1 (slotM g ((logM g a fill sizes 0 a.pos 0).getD j tz).pos k) <;> simp_all
end
end Go.Proofs.YteecmgonbdbhdaaGreatDoor.A
end

/-
Records of an elder epoch beyond the last number: what a scan finds, in plain terms.
-/
section
namespace Go.Proofs.YteecmgonbdbhdaaGreatDoor.A
open Go.RowKit

theorem mem_take_ {l : List Tx} {n : Nat} {t : Tx} (h : t ∈ l.take n) : ∃ j, j < n ∧ j < l.length ∧ t = l.getD j tz := by
  obtain ⟨j, hj, rfl⟩ := List.mem_iff_getElem.1 h
  rw [List.length_take] at hj
  refine ⟨j, by omega, by omega, ?_⟩
  rw [List.getElem_take, List.getD_eq_getElem?_getD, List.getElem?_eq_getElem (by omega)]
  rfl
def lastA (a : An) (n : Int) : An := { a with last := n }
section
variable {g : Geo} {a : An} {fill : UInt8} {sizes : List Int}
end
end Go.Proofs.YteecmgonbdbhdaaGreatDoor.A
end

/-
A transaction that was cut while it was written, in plain terms.
-/
section
namespace Go.Proofs.YteecmgonbdbhdaaGreatDoor.A
open Go.RowKit

theorem tmod_inj {p u v n : Int} (hp : 0 ≤ p ∧ p < n) (hu : 0 ≤ u ∧ u < n) (hv : 0 ≤ v ∧ v < n) (h : (p + u).tmod n = (p + v).tmod n) : u = v := by
  have h1 : (p + u).tmod n = if p + u < n then p + u else p + u - n := by
    split
    · exact tmod_lo (by omega) (by omega)
    · exact tmod_hi (by omega) (by omega) (by omega)
  have h2 : (p + v).tmod n = if p + v < n then p + v else p + v - n := by
    split
    · exact tmod_lo (by omega) (by omega)
    · exact tmod_hi (by omega) (by omega) (by omega)
  rw [h1, h2] at h
  split at h <;> split at h <;> omega
section
variable {g : Geo} {a : An} {fill : UInt8} {sizes : List Int}
theorem used_mono (hg : okG g = true) (ha : anOk g a = true) {i j : Nat} (h : i ≤ j) : usedM ((logM g a fill sizes 0 a.pos 0).take i) ≤ usedM ((logM g a fill sizes 0 a.pos 0).take j) := by
  induction j with
  | zero => rw [show i = 0 by omega]; exact Int.le_refl _
  | succ j ih =>
    by_cases e : i = j + 1
    · rw [e]; exact Int.le_refl _
    · have ih := ih (by omega)
      by_cases hj : j < (logM g a fill sizes 0 a.pos 0).length
      · rw [used_take _ j hj]
        have := (log_get (fill := fill) (sizes := sizes) hg ha hj).2.1
        omega
      · rw [List.take_of_length_le (show _ ≤ j + 1 by omega)]
        rw [List.take_of_length_le (show _ ≤ j by omega)] at ih
        exact ih
theorem log_pos (hg : okG g = true) (ha : anOk g a = true) {j : Nat} (hj : j < (logM g a fill sizes 0 a.pos 0).length) : ((logM g a fill sizes 0 a.pos 0).getD j tz).pos = (a.pos + usedM ((logM g a fill sizes 0 a.pos 0).take j)).tmod g.sl := by
  have hq := anOk_seq ha
  have hp := posM_used hg ((logM g a fill sizes 0 a.pos 0).take j) a.pos hq.2.1 fun t ht => logM_nn hg ha t (List.mem_of_mem_take ht)
  rw [tmod_lo hq.2.1 hq.2.2, ← logM_pos sizes 0 a.pos 0 j hj] at hp
  exact hp
theorem slot_inj (hg : okG g = true) (ha : anOk g a = true) {j j' k k' : Nat} (hj : j < (logM g a fill sizes 0 a.pos 0).length) (hj' : j' < (logM g a fill sizes 0 a.pos 0).length) (hk : k < ((logM g a fill sizes 0 a.pos 0).getD j tz).images.length + 1) (hk' : k' < ((logM g a fill sizes 0 a.pos 0).getD j' tz).images.length + 1) (h : slotM g ((logM g a fill sizes 0 a.pos 0).getD j tz).pos k = slotM g ((logM g a fill sizes 0 a.pos 0).getD j' tz).pos k') : j = j' ∧ k = k' := by
  have hq := anOk_seq ha
  have r1 := log_room hg (a := a) (fill := fill) (sizes := sizes) hj
  have r2 := log_room hg (a := a) (fill := fill) (sizes := sizes) hj'
  have n1 := log_take_nn (fill := fill) (sizes := sizes) hg ha j
  have n2 := log_take_nn (fill := fill) (sizes := sizes) hg ha j'
  have g1 := (log_get (fill := fill) (sizes := sizes) hg ha hj).2.1
  have g2 := (log_get (fill := fill) (sizes := sizes) hg ha hj').2.1
  rw [log_slot hg ha hj hk, log_slot hg ha hj' hk'] at h
  have e := tmod_inj hq.2 (by omega) (by omega) h
  have u1 := used_take _ j hj
  have u2 := used_take _ j' hj'
  rcases Nat.lt_trichotomy j j' with hlt | rfl | hlt
  · have := used_mono (fill := fill) (sizes := sizes) hg ha (show j + 1 ≤ j' by omega)
    exfalso; omega
  · exact ⟨rfl, by omega⟩
  · have := used_mono (fill := fill) (sizes := sizes) hg ha (show j' + 1 ≤ j by omega)
    exfalso; omega
end
end Go.Proofs.YteecmgonbdbhdaaGreatDoor.A
end

/-
Package casematekeep: an anchor copied.
-/
section
namespace Go.Proofs.YteecmgonbdbhdaaGreatDoor.A
open Go.RowKit

theorem twinints_fn (l : List Int) (hl : l.length ≤ 1000000) : Fn Tryz.prog 37 [iA l] fun r => r = iA l := by
  refine Fn.of tys_ok Tryz.func37 rfl rfl (Nat.le_of_ble_eq_true rfl) ?_
  conv => whnf
  refine ⟨by omega, ?_⟩
  conv => whnf
  refine ⟨by simp, ?_⟩
  conv => whnf
  exact ⟨iA l, fun c v h => Rd.congr rfl (fun i hi => getD_range hi) h, rfl⟩
theorem twinanchor_fn (a : An) (hh : a.homes.length ≤ 1000) (hp : ∀ h ∈ a.homes, h.places.length ≤ 1000000) : Fn Tryz.prog 18 [.ag (anC a)] fun r => r = .ag (anC a) := by
  refine Fn.of tys_ok Tryz.func18 rfl rfl (Nat.le_of_ble_eq_true rfl) ?_
  conv => whnf
  refine aLoop.rule Nat (fun k => ([(1, .bp 0 0), (2, .bp 1 0), (3, hmsA a.homes), (4, .v (.int .i64 k))], [.box 26 [.v (.int .i64 a.gen), .v (.int .i64 a.epoch), .v (.int .i64 a.pos), .v (.int .i64 a.seq), .v (.int .i64 a.last), .v (.string a.label), .ow 2 k], .box 26 [.v (.int .i64 0), .v (.int .i64 0), .v (.int .i64 0), .v (.int .i64 0), .v (.int .i64 0), .v (.string ⟨#[]⟩), .v (.slice none 0 0)], .row 58 3 ((a.homes.take k).map hmC)])) (fun k => k ≤ a.homes.length) (fun k => a.homes.length - k) 0 (Nat.zero_le _) ⟨[(1000006, 58, 3)], ⟨rfl, rfl, trivial⟩, ⟨rfl, rfl, rfl, rfl, trivial⟩, ⟨rfl, rfl, rfl, trivial⟩, rfl, rfl, rfl⟩ ?_
  intro k hk
  conv => whnf
  refine boolI (fun c1 => ?_) (fun c1 => ?_) <;> (repeat rw [Int.toNat_natCast] at c1) <;> conv => whnf
  · have ti := twinints_fn (a.homes.getD k ⟨[], 0, 0⟩).places (hp _ (getD_mem c1))
    refine aDraw.of tys_ok mixed [0, 1, 2, 3, 4, 5, 6, 8, 9, 10, 11, 12, 13, 14, 15, 16, 17, 7, 18, 19, 20, 21, 22] (by kernel_rfl) ?_
    conv => whnf
    repeat' (first | (refine aSeq.go ?_; conv => whnf) | (refine boolI (fun _ => ?_) (fun _ => ?_) <;> conv => whnf) | (refine Fn.closed (ti) rfl ?_; rintro _ rfl; conv => whnf) | (refine And.intro (by first | omega | exact of_decide_eq_true rfl) ?_; conv => whnf) | fail)
    refine And.intro ⟨by rw [List.length_map, List.length_take]; omega, by omega⟩ ?_
    conv => whnf
    exact ⟨k + 1, by omega, by omega, [], trivial, ⟨rfl, rfl, rfl, wsucc (by omega), trivial⟩, ⟨rfl, rfl, congrArg (AB.row _ _) (take_map_succ c1), trivial⟩, rfl, rfl, rfl⟩
  · refine And.intro (by rw [List.length_map, List.length_take]; omega) ?_
    conv => whnf
    have ek : k = a.homes.length := by omega
    subst ek
    refine ⟨.ag (anC a), ag_sub ⟨fun _ _ h => h, fun _ _ h => h, fun _ _ h => h, fun _ _ h => h, fun _ _ h => h, fun _ _ h => h, ?_, trivial⟩, rfl⟩
    rw [List.take_length]
    exact row_sub a.homes rfl rfl
end Go.Proofs.YteecmgonbdbhdaaGreatDoor.A
end

/-
What the laws of scan have in common.
-/
section
namespace Go.Proofs.YteecmgonbdbhdaaGreatDoor.A
open Go.RowKit

theorem anOk_parts {g : Geo} {a : An} (h : anOk g a = true) : (0 ≤ a.gen ∧ a.gen ≤ 4294967295) ∧ (0 ≤ a.epoch ∧ a.epoch ≤ 4294967295) ∧ (1 ≤ a.seq ∧ a.seq ≤ 4294967295) ∧ (0 ≤ a.last ∧ a.last ≤ 4294967295 ∧ a.seq - 1 ≤ a.last) ∧ (0 ≤ a.pos ∧ a.pos < g.sl) ∧ (a.homes.length : Int) = g.z ∧ ∀ x ∈ a.homes, hmOk g x = true := by
  simp only [anOk, List.all_cons, List.all_nil, Bool.and_eq_true, inB_iff, decide_eq_true_eq, List.all_eq_true] at h
  obtain ⟨⟨q1, q2, q3, q4, -⟩, q5, q6, q7, q8, q9, q10⟩ := h
  exact ⟨q1, q2, ⟨q5, q3.2⟩, ⟨q4.1, q4.2, q6⟩, ⟨q7.1, by omega⟩, q9, q10⟩
theorem anOk_places {g : Geo} {a : An} (hg : okG g = true) (h : anOk g a = true) : ∀ x ∈ a.homes, x.places.length ≤ 1000000 := by
  obtain ⟨h1, h2, h3, h4, h5⟩ := okG_iff.1 hg
  intro x hx
  have := (anOk_parts h).2.2.2.2.2.2 x hx
  simp only [hmOk, Bool.and_eq_true, decide_eq_true_eq] at this
  omega
theorem anOk_last {g : Geo} {a : An} {n : Int} (h : anOk g a = true) (hn : a.seq - 1 ≤ n) (h2 : n ≤ 4294967295) : anOk g (lastA a n) = true := by
  have hp := anOk_parts h
  simp only [anOk, List.all_cons, List.all_nil, Bool.and_eq_true, inB_iff, decide_eq_true_eq] at h
  simp only [anOk, List.all_cons, List.all_nil, Bool.and_eq_true, inB_iff]
  obtain ⟨⟨q1, q2, q3, q4, q11⟩, q5, q6, q7, q8, q9, q10⟩ := h
  exact ⟨⟨q1, q2, q3, ⟨show 0 ≤ n by omega, h2⟩, q11⟩, decide_eq_true q5, decide_eq_true hn, q7, decide_eq_true q8, decide_eq_true q9, q10⟩
theorem scanA_P {g : Geo} {b : An} {x y : List Gt} {p q : Int → Option Rc} {r : List Tx × List Wr × Int} (hg : okG g = true) (hb : anOk g b = true) (hx : (x.length : Int) = g.sl) (hy : (y.length : Int) = g.sl) (hp : saysF g x 0 = p) (hq : saysF g y 1 = q) (h : scanP g b p q = r) : scanA g b x y = r := by
  unfold scanA
  rw [if_pos (by rw [hg, hb]; rfl), if_pos ⟨hx, hy⟩, scanM_P, hp, hq, h]
end Go.Proofs.YteecmgonbdbhdaaGreatDoor.A
end

/-
Both copies of a record spoilt, in plain terms.
-/
section
namespace Go.Proofs.YteecmgonbdbhdaaGreatDoor.A
open Go.RowKit

section
variable {g : Geo} {a : An} {fill : UInt8} {sizes : List Int}
theorem holes_scan {n : Int} {i k0 : Nat} {s0 : Int} (hg : okG g = true) (ha : anOk g a = true) (hs : a.seq ≤ 1000000) (hl : sizes.length ≤ 40) (hi : i < (logM g a fill sizes 0 a.pos 0).length) (hk : k0 < ((logM g a fill sizes 0 a.pos 0).getD i tz).images.length + 1) (h0 : slotM g ((logM g a fill sizes 0 a.pos 0).getD i tz).pos k0 = s0) :
    scanP g (lastA a n) (saysW g (logM g a fill sizes 0 a.pos 0) a.epoch fun s => decide (s = s0) || false) (saysW g (logM g a fill sizes 0 a.pos 0) a.epoch fun s => decide (s = s0) || false) = ([], [], 12) := by
  obtain ⟨h1, h2, h3, h4, h5⟩ := okG_iff.1 hg
  have hq := anOk_seq ha
  have eT := logM_take (g := g) (a := a) (fill := fill) sizes 0 a.pos 0 i (by omega)
  have hU0 := log_take_nn (fill := fill) (sizes := sizes) hg ha i
  have hgi := log_get (fill := fill) (sizes := sizes) hg ha hi
  have hpi := log_pos (fill := fill) (sizes := sizes) hg ha hi
  have hroom := log_room hg (a := a) (fill := fill) (sizes := sizes) hi
  have hlen := logM_len (g := g) (a := a) (fill := fill) sizes 0 a.pos 0 (by omega)
  have hne : ∀ j k : Nat, j < (logM g a fill sizes 0 a.pos 0).length → k < ((logM g a fill sizes 0 a.pos 0).getD j tz).images.length + 1 → ¬ (j = i ∧ k = k0) → decide (slotM g ((logM g a fill sizes 0 a.pos 0).getD j tz).pos (k : Nat) = s0) = false := fun j k hj hkk hn => by
    refine decide_eq_false fun e => hn ?_
    rw [← h0] at e
    exact slot_inj hg ha hj hi hkk hk e
  obtain ⟨f, e1, e2, e3⟩ := scan_B (g := g) (a := a) (b := lastA a n) (fill := fill) (sizes := sizes.take i) (ep := a.epoch) (p := saysW g (logM g a fill sizes 0 a.pos 0) a.epoch fun s => decide (s = s0) || false) (q := saysW g (logM g a fill sizes 0 a.pos 0) a.epoch fun s => decide (s = s0) || false) (b0 := fun s => !(decide (s = s0) || false)) (b1 := fun s => !(decide (s = s0) || false)) hg ha hs (by rw [List.length_take]; omega) rfl rfl (fun t ht => by
    rw [← eT] at ht
    obtain ⟨j, j1, j2, rfl⟩ := mem_take_ ht
    exact allB_W (b := lastA a n) hg ha j2 (Nat.le_refl _) (.inl rfl) fun k hkk => by rw [hne j k j2 hkk (by omega)]; rfl)
  rw [← eT] at e1 e2 e3
  have hln : ((logM g a fill sizes 0 a.pos 0).take i).length = i := by rw [List.length_take]; omega
  rw [hln] at e3
  rw [e3, scanLP_hole (by omega) e1 (by omega)]
  · rfl
  rw [← hpi, ← hgi.1]
  refine txnP_fail (b0 := fun s => !(decide (s = s0) || false)) (b1 := fun s => !(decide (s = s0) || false)) (ep := a.epoch) (k0 := k0) (allB_W (b := lastA a n) hg ha hi (by omega) (.inl rfl) fun k hkk => by rw [hne i k hi (by omega) (by omega)]; rfl) (by omega) (by omega) (by decide) ?_
  intro of_
  obtain ⟨r1, -⟩ := recW_at (ep := a.epoch) hg ha hi hk
  unfold recP lookP
  dsimp only
  rw [saysW_at r1, h0, decide_eq_true rfl]
  rfl
end
end Go.Proofs.YteecmgonbdbhdaaGreatDoor.A
end

/-
The law ScanHoles.
-/
section
namespace Go.Proofs.YteecmgonbdbhdaaGreatDoor.A
open Go.RowKit

theorem uw {n : Int} (h : 0 ≤ n ∧ n ≤ 9223372036854775807) : IntKind.u64.wrap n = n := by rw [IntKind.wrap_u64]; omega
theorem lt23 {m : Nat} (h : Nat.ble 4 m = true) : ∀ z ∈ [2, 3], z < m := fun z hz => by
  have := Nat.le_of_ble_eq_true h
  simp at hz
  omega
theorem written_get (g : Geo) (L : List Tx) (ep c : Int) (n : Nat) (k : Nat) (hk : k < n) : (writtenM g L ep c n).getD k gz = ⟨0, cellB g (recW g L ep (k : Nat)) c (k : Nat)⟩ := by
  unfold writtenM
  rw [map_getD (d := 0) (by rw [List.length_range]; omega)]
  rw [List.getD_eq_getElem?_getD, List.getElem?_range (by omega)]
  rfl
theorem cell_open {g : Geo} {r : Rc} {c s : Int} (hg : okG g = true) (hr : okR g r = true) (hL : okL g c s = true) : openE (cellB g r c s) = 0 := by
  have hb := logAt_bounds hg hL
  have hs := okR_seq hr
  have hn := recB_short hr
  exact (seal_open (a := logAt g c s) (s := r.seq) (p := recB r) ⟨hb.1, hb.2, hs.1, hs.2, by omega⟩).1
set_option maxRecDepth 100000 in
theorem holes18_fn (g : Geo) (a : An) (sizes : List Int) (i0 k0 bits0 : Int) (short : Bool) : Fn Tryz.prog 4 [.ag (geoC g), .ag (anC a), iA sizes, .v (.int .i64 i0), .v (.int .i64 k0), .v (.int .i64 bits0), .v (.bool short)] fun r => r = .v (.bool true) := by
  have hw := wakes18_fn
  refine Fn.of tys_ok Tryz.func4 rfl rfl (Nat.le_of_ble_eq_true rfl) ?_
  conv => whnf
  refine Fn.closed (heavyA_fn a) rfl ?_
  rintro _ rfl
  conv => whnf
  refine boolI (fun t1 => ?_) (fun t1 => ?_) <;> (repeat rw [Int.toNat_natCast] at t1) <;> conv => whnf
  · exact ⟨_, fun _ _ h => h, rfl⟩
  obtain ⟨hh, hl⟩ := heavyA_no t1
  refine boolI (fun t2 => ?_) (fun t2 => ?_) <;> (repeat rw [Int.toNat_natCast] at t2) <;> conv => whnf
  · exact ⟨_, fun _ _ h => h, rfl⟩
  refine Fn.closed (rgeom_br g) rfl ?_
  rintro _ rfl
  conv => whnf
  refine boolI (fun t3 => ?_) (fun t3 => ?_) <;> (repeat rw [Int.toNat_natCast] at t3) <;> conv => whnf
  · exact ⟨_, fun _ _ h => h, rfl⟩
  refine Fn.closed (ranchor_fn g a t3 (by omega)) rfl ?_
  rintro _ rfl
  conv => whnf
  refine boolI (fun t4 => ?_) (fun t4 => ?_) <;> (repeat rw [Int.toNat_natCast] at t4) <;> conv => whnf
  · exact ⟨_, fun _ _ h => h, rfl⟩
  refine boolI (fun t5 => ?_) (fun t5 => ?_) <;> (repeat rw [Int.toNat_natCast] at t5) <;> conv => whnf
  · exact ⟨_, fun _ _ h => h, rfl⟩
  have lf := log_fn16 g a sizes 9 t3 t4 (by omega) (by omega)
  obtain ⟨h1, h2, h3, h4, h5⟩ := okG_iff.1 t3
  have hq := anOk_seq t4
  have ap := anOk_parts t4
  have hlen := logM_len (g := g) (a := a) (fill := 9) sizes 0 a.pos 0 (by omega)
  have hOk := logM_ok (fill := 9) (sizes := sizes) (epoch := a.epoch) t3 t4 (by omega) (by omega)
  have hS := fun n => scan_log (b := lastA a n) (fill := 9) (sizes := sizes) (ep := a.epoch) (bad0 := fun _ => false) (bad1 := fun _ => false) t3 t4 (by omega) (by omega) rfl rfl (fun _ => rfl) (fun _ _ => .inl rfl)
  have hH := fun n i k s hi hk h0 => holes_scan (n := n) (i := i) (k0 := k) (s0 := s) (fill := 9) (sizes := sizes) t3 t4 (by omega) (by omega) hi hk h0
  have hG := fun m (hm : m < (logM g a 9 sizes 0 a.pos 0).length) => log_get (fill := 9) (sizes := sizes) t3 t4 hm
  have hP := fun m (hm : m < (logM g a 9 sizes 0 a.pos 0).length) (k : Nat) hk => (recW_at (ep := 0) (fill := 9) (sizes := sizes) t3 t4 hm (k := k) hk).1
  generalize logM g a 9 sizes 0 a.pos 0 = L at lf hlen hOk hS hH hG hP
  refine Fn.closed (lf) rfl ?_
  rintro _ rfl
  conv => whnf
  refine boolI (fun u1 => ?_) (fun u1 => ?_) <;> (repeat rw [Int.toNat_natCast] at u1) <;> conv => whnf
  · repeat' (first | (refine aSeq.go ?_; conv => whnf) | (refine boolI (fun _ => ?_) (fun _ => ?_) <;> conv => whnf) | (refine Fn.closed (hw) rfl ?_; rintro _ rfl; conv => whnf) | (refine And.intro (by first | omega | exact of_decide_eq_true rfl) ?_; conv => whnf) | fail)
    exact ⟨_, fun _ _ h => h, rfl⟩
  refine And.intro (by decide) ?_
  conv => whnf
  obtain ⟨bits, hbits⟩ : ∃ b, b = IntKind.i64.wrap ((IntKind.u64.wrap bits0).tmod 1000000) := ⟨_, rfl⟩
  rw [← hbits]
  have wf := written_fno g L a.epoch t3 hOk
  have hX := written_len g L a.epoch 0 g.sl.toNat
  have hY := written_len g L a.epoch 1 g.sl.toNat
  have bX := written_short hOk 0
  have bY := written_short hOk 1
  have fX := saysF_W (copy := 0) t3 hOk (.inl rfl)
  have fY := saysF_W (copy := 1) t3 hOk (.inr rfl)
  have gX0 : ∀ k, k < g.sl.toNat → (writtenM g L a.epoch 0 g.sl.toNat).getD k gz = ⟨0, cellB g (recW g L a.epoch (k : Nat)) 0 (k : Nat)⟩ := written_get g L a.epoch 0 g.sl.toNat
  have gY0 : ∀ k, k < g.sl.toNat → (writtenM g L a.epoch 1 g.sl.toNat).getD k gz = ⟨0, cellB g (recW g L a.epoch (k : Nat)) 1 (k : Nat)⟩ := written_get g L a.epoch 1 g.sl.toNat
  generalize writtenM g L a.epoch 0 g.sl.toNat = X at *
  generalize writtenM g L a.epoch 1 g.sl.toNat = Y at *
  have wA : IntKind.i64.wrap (a.seq - 1) = a.seq - 1 := wi (by omega)
  have wB : IntKind.i64.wrap (a.seq + (L.length : Int)) = a.seq + L.length := wi (by omega)
  have wC : IntKind.i64.wrap (a.seq + (L.length : Int) - 1) = a.seq + L.length - 1 := wi (by omega)
  have hB := fun n h1 h2 => anOk_last (n := n) t4 h1 h2
  cases short with
  | true =>
    obtain ⟨w, vS⟩ := hS (a.seq + L.length)
    rw [finM_pos (by show a.seq + (L.length : Int) - 1 < a.seq + L.length; omega)] at vS
    have sc := scan_fn g (lastA a (a.seq + L.length)) X Y (show a.label.size ≤ 1000000 by omega) (show a.homes.length ≤ 1000000 by omega) bX bY
    rw [scanA_P t3 (hB _ (by omega) (by omega)) (by omega) (by omega) fX fY vS] at sc
    refine FnO.call (wf) rfl ?_
    rintro _ _ ⟨rfl, rfl⟩
    conv => whnf
    refine Fn.closed (twinanchor_fn a (by omega) (anOk_places t3 t4)) rfl ?_
    rintro _ rfl
    conv => whnf
    rw [wB]
    conv => whnf
    refine ACalls.shut (sc).go ?_
    conv => whnf
    repeat' (refine And.intro (by first | rfl | omega | (simp; done) | (simp only [List.length_map]; omega)) ?_; conv => whnf)
    refine ACalls.sub _ ?_ (Fn.closed (sc) rfl ?_)
    · repeat' (first | exact trivial | exact fun _ _ h => h | exact nil_sl _ _ | exact row_sub X (by omega) rfl | exact row_sub Y (by omega) rfl | refine And.intro ?_ ?_ | refine ag_sub ?_)
    rintro _ rfl
    conv => whnf
    repeat' (first | (refine aSeq.go ?_; conv => whnf) | (refine boolI (fun _ => ?_) (fun _ => ?_) <;> conv => whnf) | (refine Fn.closed (hw) rfl ?_; rintro _ rfl; conv => whnf) | (refine And.intro (by first | omega | exact of_decide_eq_true rfl) ?_; conv => whnf) | fail)
    exact ⟨_, fun _ _ h => h, rfl⟩
  | false =>
    obtain ⟨w, vS⟩ := hS (a.seq + L.length - 1)
    rw [finM_neg (by show ¬ a.seq + (L.length : Int) - 1 < a.seq + L.length - 1; omega)] at vS
    have v1 := scanA_P (x := X) (y := Y) t3 (hB (a.seq + L.length - 1) (by omega) (by omega)) (by omega) (by omega) fX fY vS
    have c1 := scanO_fn g (lastA a (a.seq + L.length - 1)) X Y (show a.label.size ≤ 1000000 by omega) (show a.homes.length ≤ 1000000 by omega) bX bY
    rw [v1, hX, hY] at c1
    have uL : IntKind.u64.wrap (L.length : Int) = L.length := uw (by omega)
    obtain ⟨i, hi, hiL⟩ : ∃ i : Nat, IntKind.i64.wrap ((IntKind.u64.wrap i0).tmod (L.length : Int)) = i ∧ i < L.length := by
      have hm := modU_in (x := i0) (n := (L.length : Int)) (by omega) (by omega)
      exact ⟨(modU i0 (L.length : Int)).toNat, (Int.toNat_of_nonneg hm.1).symm, by omega⟩
    have hgi := hG i hiL
    have hpi := hP i hiL
    have hHi := fun k s hk h0 => hH (a.seq + L.length - 1) i k s hiL hk h0
    rw [show L.getD i tz = L.getD i ⟨0, 0, 0, []⟩ from rfl] at hgi hpi hHi
    refine FnO.call (wf) rfl ?_
    rintro _ _ ⟨rfl, rfl⟩
    conv => whnf
    refine Fn.closed (twinanchor_fn a (by omega) (anOk_places t3 t4)) rfl ?_
    rintro _ rfl
    conv => whnf
    rw [wA, wB, wC, if_pos (show a.seq - 1 < a.seq + L.length - 1 by omega)]
    conv => whnf
    rw [uL]
    refine And.intro (by omega) ?_
    conv => whnf
    rw [hi]
    refine ⟨by first | omega | (refine ⟨rfl, ?_, ?_⟩ <;> first | omega | (simp only [List.length_map]; done) | (simp only [List.length_map]; omega)) | (simp only [List.length_map]; omega), ?_⟩
    conv => whnf
    rw [Int.toNat_natCast]
    generalize L.getD i ⟨0, 0, 0, []⟩ = T at hgi hpi hHi ⊢
    have uT : IntKind.u64.wrap T.n = T.n := uw (by omega)
    obtain ⟨k, hk, hkT⟩ : ∃ k : Nat, IntKind.i64.wrap ((IntKind.u64.wrap k0).tmod T.n) = k ∧ k < T.images.length + 1 := by
      have hm := modU_in (x := k0) (n := T.n) (by omega) (by omega)
      exact ⟨(modU k0 T.n).toNat, (Int.toNat_of_nonneg hm.1).symm, by omega⟩
    obtain ⟨s, hs⟩ := Int.eq_ofNat_of_zero_le (hpi k hkT).1
    have hsl := (hpi k hkT).2
    rw [hs] at hsl
    have es : (IntKind.i64.wrap (T.pos + k)).tmod g.sl = (s : Nat) := hs
    have vH := hHi k (s : Nat) hkT hs
    refine aDraw.of tys_ok mixed [0, 1, 2, 3, 4, 5, 6, 7, 8, 9, 10, 11, 12, 13] (by kernel_rfl) ?_
    conv => whnf
    rw [uT]
    refine And.intro (by omega) ?_
    conv => whnf
    rw [hk]
    refine And.intro (by omega) ?_
    conv => whnf
    rw [es]
    conv => whnf
    refine ACalls.frame [2, 3] c1 rfl rfl rfl rfl (by decide) (lt23 rfl) ⟨rfl, rfl, trivial⟩ ?_
    rintro _ _ ⟨rfl, rfl⟩
    conv => whnf
    have gX : (X.map gotC).getD s [] = gotC (X.getD s gz) := map_getD (by omega)
    have gY : (Y.map gotC).getD s [] = gotC (Y.getD s gz) := map_getD (by omega)
    rw [gX0 s (by omega)] at gX
    rw [gY0 s (by omega)] at gY
    have hcl := cellB_short (hOk.ok (s : Nat) (by omega)) 1 (s : Nat)
    have ho : openE (cellB g (recW g L a.epoch (s : Nat)) 1 (s : Nat)) = 0 := cell_open t3 (hOk.ok (s : Nat) (by omega)) (by rw [okL, inB_iff.2 (show 0 ≤ ((s : Nat) : Int) ∧ ((s : Nat) : Int) ≤ g.sl - 1 by omega)]; rfl)
    have fX1 := saysF_set (z := ⟨6, []⟩) (k := s) fX (by omega) (says_err (by decide))
    have fY1 := saysF_set (z := ⟨0, flipT (cellB g (recW g L a.epoch (s : Nat)) 1 (s : Nat)) bits bits⟩) (k := s) fY (by omega) (says_bad (by simp only [openE_flip ho]; decide))
    have hset : ∀ (Z : List Gt) (z : Gt), (∀ x ∈ Z, x.bytes.length ≤ 100000) → z.bytes.length ≤ 100000 → ∀ x ∈ Z.set s z, x.bytes.length ≤ 100000 := fun Z z hZ hz x hx => by
      rcases List.mem_or_eq_of_mem_set hx with h | rfl
      · exact hZ x h
      · exact hz
    have v2 := scanA_P (x := X.set s ⟨6, []⟩) (y := Y.set s ⟨0, flipT (cellB g (recW g L a.epoch (s : Nat)) 1 (s : Nat)) bits bits⟩) t3 (hB (a.seq + L.length - 1) (by omega) (by omega)) (by rw [List.length_set]; omega) (by rw [List.length_set]; omega) fX1 fY1 vH
    have c2 := scanO_fn g (lastA a (a.seq + L.length - 1)) (X.set s ⟨6, []⟩) (Y.set s ⟨0, flipT (cellB g (recW g L a.epoch (s : Nat)) 1 (s : Nat)) bits bits⟩) (show a.label.size ≤ 1000000 by omega) (show a.homes.length ≤ 1000000 by omega) (hset X _ bX (Nat.zero_le _)) (hset Y _ bY (by dsimp only; rw [flipT_length]; exact hcl))
    rw [v2, List.length_set, List.length_set, hX, hY] at c2
    dsimp only at c2
    refine ⟨by first | omega | (refine ⟨rfl, ?_, ?_⟩ <;> first | omega | (simp only [List.length_map]; done) | (simp only [List.length_map]; omega)) | (simp only [List.length_map]; omega), ?_⟩
    conv => whnf
    refine ⟨by first | omega | (refine ⟨rfl, ?_, ?_⟩ <;> first | omega | (simp only [List.length_map]; done) | (simp only [List.length_map]; omega)) | (simp only [List.length_map]; omega), ?_⟩
    conv => whnf
    rw [Int.toNat_natCast, gY]
    conv => whnf
    refine Fn.closed (rflip_fn (cellB g (recW g L a.epoch (s : Nat)) 1 (s : Nat)) bits bits (by omega)) rfl ?_
    rintro _ rfl
    conv => whnf
    refine ⟨by first | omega | (refine ⟨rfl, ?_, ?_⟩ <;> first | omega | (simp only [List.length_map]; done) | (simp only [List.length_map]; omega)) | (simp only [List.length_map]; omega), ?_⟩
    conv => whnf
    refine ⟨by first | omega | (refine ⟨rfl, ?_, ?_⟩ <;> first | omega | (simp only [List.length_map]; done) | (simp only [List.length_map]; omega)) | (simp only [List.length_map]; omega), ?_⟩
    conv => whnf
    (try rw [Int.toNat_natCast])
    rw [gX]
    conv => whnf
    refine ⟨by first | omega | (refine ⟨rfl, ?_, ?_⟩ <;> first | omega | (simp only [List.length_map]; done) | (simp only [List.length_map]; omega)) | (simp only [List.length_map]; omega), ?_⟩
    conv => whnf
    refine ⟨by first | omega | (refine ⟨rfl, ?_, ?_⟩ <;> first | omega | (simp only [List.length_map]; done) | (simp only [List.length_map]; omega)) | (simp only [List.length_map]; omega), ?_⟩
    conv => whnf
    (try rw [Int.toNat_natCast])
    rw [gY]
    conv => whnf
    refine ACalls.hsub [.box 23 (geoC g), .box 26 (anC a), .row 54 2 ((X.set s ⟨6, []⟩).map gotC), .row 54 2 ((Y.set s ⟨0, flipT (cellB g (recW g L a.epoch (s : Nat)) 1 (s : Nat)) bits bits⟩).map gotC), .box 26 (anC (lastA a (a.seq + L.length - 1))), .box 51 (txC T)] (And.intro rfl (And.intro rfl (And.intro (And.intro rfl (And.intro rfl (bad_sub X s 6))) (And.intro (And.intro rfl (And.intro rfl (by rw [List.map_set]; exact SubLL.refl _))) (And.intro rfl (And.intro rfl trivial)))))) ?_
    refine ACalls.frame [2, 3] c2 rfl rfl rfl rfl (by decide) (lt23 rfl) ⟨rfl, rfl, trivial⟩ ?_
    rintro _ _ ⟨rfl, rfl⟩
    conv => whnf
    repeat' (first | (refine aSeq.go ?_; conv => whnf) | (refine boolI (fun _ => ?_) (fun _ => ?_) <;> conv => whnf) | (refine Fn.closed (hw) rfl ?_; rintro _ rfl; conv => whnf) | (refine And.intro (by first | omega | exact of_decide_eq_true rfl) ?_; conv => whnf) | fail)
    exact ⟨_, fun _ _ h => h, rfl⟩
end Go.Proofs.YteecmgonbdbhdaaGreatDoor.A
end
