/-
Several texts in one.
-/
import Derived.Test.YteecmgonbdbhdaaGreatDoorPPSExactP6
import Derived.Test.YteecmgonbdbhdaaGreatDoorComP4
import Derived.Test.YteecmgonbdbhdaaGreatDoorComP1
import Derived.Test.YteecmgonbdbhdaaGreatDoorComP3

/-
casematelaw18: two transactions, and one copy gone.
-/
section
namespace Go.Proofs.YteecmgonbdbhdaaGreatDoor.A
open Go.RowKit

theorem RdL.split {c : Ctx} : ∀ {l m : List AV} {xs : List Value}, RdL (l ++ m) c xs → ∃ a b, xs = a ++ b ∧ RdL l c a ∧ RdL m c b
  | [], m, xs, h => ⟨[], xs, rfl, by simp only [RdL], h⟩
  | x :: l, m, xs, h => by
    simp only [List.cons_append, RdL] at h
    obtain ⟨y, ys, rfl, h1, h2⟩ := h
    obtain ⟨a, b, rfl, h3, h4⟩ := RdL.split h2
    exact ⟨y :: a, b, rfl, by simp only [RdL]; exact ⟨y, a, rfl, h1, h3⟩, h4⟩
theorem SubLL.len : ∀ {es fs : List (List AV)}, SubLL es fs → es.length = fs.length
  | [], [], _ => rfl
  | _ :: _, _ :: _, h => by simp [SubLL.len h.2]
  | [], _ :: _, h => h.elim
  | _ :: _, [], h => h.elim
theorem SubLL.flat : ∀ {es fs : List (List AV)} {c : Ctx} {xs : List Value}, SubLL es fs → RdL es.flatten c xs → RdL fs.flatten c xs
  | [], [], _, _, _, h => h
  | a :: r, b :: s, c, xs, h, hr => by
    rw [List.flatten_cons] at hr ⊢
    obtain ⟨x1, x2, rfl, h1, h2⟩ := RdL.split hr
    exact RdL.append (h.1.rdl h1) (SubLL.flat h.2 h2)
  | [], _ :: _, _, _, h, _ => h.elim
  | _ :: _, [], _, _, h, _ => h.elim
theorem SubLL.sz : ∀ {es fs : List (List AV)} {sz : Nat}, SubLL es fs → (∀ e ∈ es, e.length = sz) → ∀ e ∈ fs, e.length = sz
  | [], [], _, _, _ => by simp
  | a :: r, b :: s, sz, h, hs => by
    intro e he
    rcases List.mem_cons.1 he with rfl | he
    · rw [← h.1.len]; exact hs a (by simp)
    · exact SubLL.sz h.2 (fun e he => hs e (List.mem_cons_of_mem _ he)) e he
  | [], _ :: _, _, h, _ => h.elim
  | _ :: _, [], _, h, _ => h.elim
def ABSub : AB → AB → Prop
  | .row t sz es, .row t' sz' es' => t = t' ∧ sz = sz' ∧ SubLL es es'
  | x, y => x = y
/-- A heap whose rows read as those of another. -/
def HSub : List AB → List AB → Prop
  | [], [] => True
  | x :: r, y :: s => ABSub x y ∧ HSub r s
  | _, _ => False
theorem HSub.len : ∀ {H H' : List AB}, HSub H H' → H.length = H'.length
  | [], [], _ => rfl
  | _ :: _, _ :: _, h => by simp [HSub.len h.2]
  | [], _ :: _, h => h.elim
  | _ :: _, [], h => h.elim
theorem HSub.get : ∀ {H H' : List AB} {k : Nat} {y : AB}, HSub H H' → H'[k]? = some y → ∃ x, H[k]? = some x ∧ ABSub x y
  | [], [], k, y, _, h => by simp at h
  | x :: r, y :: s, 0, z, h, hz => by
    simp at hz
    subst hz
    exact ⟨x, by simp, h.1⟩
  | x :: r, y :: s, k + 1, z, h, hz => by
    obtain ⟨w, h1, h2⟩ := HSub.get (k := k) h.2 (by simpa using hz)
    exact ⟨w, by simpa using h1, h2⟩
  | [], _ :: _, _, _, h, _ => h.elim
  | _ :: _, [], _, _, _, hz => by simp at hz
theorem ABSub.live : ∀ {x y : AB}, ABSub x y → x.live = y.live := by
  intro x y h
  cases x <;> cases y <;> simp only [ABSub] at h <;> first | rfl | cases h
theorem ABSub.blk {c : Ctx} {k : Nat} : ∀ {x y : AB}, ABSub x y → BlkOk c k x → BlkOk c k y
  | .row t sz es, .row t' sz' es', h, hb => by
    obtain ⟨rfl, rfl, h⟩ := h
    obtain ⟨h1, h2, h3, xs, h4, h5, h6⟩ := hb
    refine ⟨h1.trans h.len, h2, h.sz h3, xs, ?_, h.flat h5, h6⟩
    rw [← h.len]
    exact h4
  | .row _ _ _, .box _ _, h, _ => by cases h
  | .row _ _ _, .iter _ _, h, _ => by cases h
  | .row _ _ _, .dead, h, _ => by cases h
  | .box t cs, y, h, hb => by
    have h : AB.box t cs = y := h
    subst h
    exact hb
  | .iter a b, y, h, hb => by
    have h : AB.iter a b = y := h
    subst h
    exact hb
  | .dead, y, h, hb => by
    have h : AB.dead = y := h
    subst h
    exact hb
theorem HS.hsub {w0 : Fl} {M0 : Ms} {c : Ctx} {H H' : List AB} (hs : HS w0 M0 c H) (h : HSub H H') : HS w0 M0 c H' := by
  refine ⟨hs.low, hs.base, hs.dom.trans h.len, hs.foreign, hs.lt, fun k y hy => ?_, fun k y g hy hl ho => ?_, fun j k y z g hj hk hy hz ho ho' => ?_⟩
  · obtain ⟨x, h1, h2⟩ := h.get hy
    exact h2.blk (hs.blk k x h1)
  · obtain ⟨x, h1, h2⟩ := h.get hy
    exact hs.own k x g h1 (h2.live.trans hl) ho
  · obtain ⟨x1, h1, h2⟩ := h.get hj
    obtain ⟨x2, h3, h4⟩ := h.get hk
    exact hs.dis j k x1 x2 g h1 h3 (h2.live.trans hy) (h4.live.trans hz) ho ho'
theorem ACalls.hsub {P : Program} {q : Bool} {f : FuncId} {args : List AV} {H : List AB} {k : AV → List AB → Prop} (H' : List AB) (hs : HSub H H') (h : ACalls P q f args H' k) : ACalls P q f args H k :=
  ⟨h.go, fun w0 M0 c us hs0 hr => h.calls w0 M0 c us (hs0.hsub hs) hr⟩
theorem written_len (g : Geo) (l : List Tx) (epoch copy : Int) (n : Nat) : (writtenM g l epoch copy n).length = n := by simp [writtenM]
theorem written_short {g : Geo} {l : List Tx} {epoch : Int} (h : LogOk g l epoch) (copy : Int) : ∀ z ∈ writtenM g l epoch copy g.sl.toNat, z.bytes.length ≤ 100000 := by
  intro z hz
  unfold writtenM at hz
  obtain ⟨s, hs, rfl⟩ := List.mem_map.1 hz
  have hs := List.mem_range.1 hs
  exact cellB_short (h.ok s (by omega)) copy s
theorem lt34 {m : Nat} (h : Nat.ble 5 m = true) : ∀ z ∈ [3, 4], z < m := fun z hz => by
  have := Nat.le_of_ble_eq_true h
  simp at hz
  omega
theorem SubLL.refl : ∀ l, SubLL l l
  | [] => trivial
  | _ :: l => ⟨SubL.refl _, SubLL.refl l⟩
theorem SubLL.set {a b : List AV} (h : SubL a b) : ∀ {l m : List (List AV)} (k : Nat), SubLL l m → SubLL (l.set k a) (m.set k b)
  | [], [], _, h => h
  | _ :: _, _ :: _, 0, h2 => ⟨h, h2.2⟩
  | _ :: _, _ :: _, k + 1, h2 => ⟨h2.1, SubLL.set h k h2.2⟩
  | [], _ :: _, _, h => h.elim
  | _ :: _, [], _, h => h.elim
theorem bad_sub (X : List Gt) (k : Nat) (e : Int) : SubLL ((X.map gotC).set k [.v (.int .i64 e), .v (.slice none 0 0)]) ((X.set k ⟨e, []⟩).map gotC) := by
  rw [List.map_set]
  exact SubLL.set (a := [.v (.int .i64 e), .v (.slice none 0 0)]) (b := gotC ⟨e, []⟩) ⟨fun _ _ h => h, nil_sl _ _, trivial⟩ k (SubLL.refl _)
set_option maxRecDepth 100000 in
theorem wakes18_fn : Fn Tryz.prog 12 [] fun r => r = .v (.bool true) := by
  have s1 := some_fn 0 0 0 0 0
  rw [show someG 0 0 0 0 0 = g17 from rfl] at s1
  have s2 : Fn Tryz.prog 28 [.ag (geoC g17), .v (.string ⟨#[]⟩)] fun r => r = .ag (anC a17) := first_fn g17 ⟨#[]⟩ (by decide)
  have hA : anOk g17 a17 = true := firstA_ok (by decide) lab_nil
  have w1 := written_fno g17 log18 0 (by decide) log18_ok
  have fX := saysF_W (g := g17) (l := log18) (epoch := 0) (by decide) log18_ok (copy := 0) (.inl rfl)
  have fY := saysF_W (g := g17) (l := log18) (epoch := 0) (by decide) log18_ok (copy := 1) (.inr rfl)
  have lX : (writtenM g17 log18 0 0 g17.sl.toNat).length = 14 := written_len _ _ _ _ _
  have lY : (writtenM g17 log18 0 1 g17.sl.toNat).length = 14 := written_len _ _ _ _ _
  have bX := written_short log18_ok 0
  have bY := written_short log18_ok 1
  rw [show g17.sl.toNat = 14 from rfl] at *
  generalize writtenM g17 log18 0 0 14 = X at *
  generalize writtenM g17 log18 0 1 14 = Y at *
  have hbad : ∀ c, saysR g17 ⟨6, []⟩ c ((1 : Nat) : Int) = none := fun c => says_err (by decide)
  have fX1 := saysF_set (z := ⟨6, []⟩) (k := 1) fX (by rw [lX]; decide) (hbad 0)
  have fY1 := saysF_set (z := ⟨6, []⟩) (k := 1) fY (by rw [lY]; decide) (hbad 1)
  have lX1 : (X.set 1 ⟨6, []⟩).length = 14 := by rw [List.length_set, lX]
  have lY1 : (Y.set 1 ⟨6, []⟩).length = 14 := by rw [List.length_set, lY]
  have hset : ∀ Z : List Gt, (∀ z ∈ Z, z.bytes.length ≤ 100000) → ∀ z ∈ Z.set 1 ⟨6, []⟩, z.bytes.length ≤ 100000 := fun Z hZ z hz => by
    rcases List.mem_or_eq_of_mem_set hz with h | rfl
    · exact hZ z h
    · exact Nat.zero_le _
  have hG : (okG g17 && anOk g17 a17) = true := by rw [hA]; rfl
  have v1 : scanA g17 a17 (X.set 1 ⟨6, []⟩) Y = (log18, [⟨2, cellB g17 (recW g17 log18 0 1) 0 1⟩], 0) := by
    unfold scanA
    rw [if_pos hG, if_pos (by rw [lX1, lY]; decide), scanM_P, fX1, fY, scan18_a]
  have v2 : scanA g17 a17 (X.set 1 ⟨6, []⟩) (Y.set 1 ⟨6, []⟩) = ([], [], 12) := by
    unfold scanA
    rw [if_pos hG, if_pos (by rw [lX1, lY1]; decide), scanM_P, fX1, fY1, scan18_b]
  have c1 := scanO_fn g17 a17 (X.set 1 ⟨6, []⟩) Y (by decide) (by decide) (hset X bX) bY
  have c2 := scanO_fn g17 a17 (X.set 1 ⟨6, []⟩) (Y.set 1 ⟨6, []⟩) (by decide) (by decide) (hset X bX) (hset Y bY)
  rw [v1, lX1, lY] at c1
  rw [v2, lX1, lY1] at c2
  dsimp only at c1 c2
  have t1 := txns_fn log18 log18 (by decide) (by decide)
  rw [decide_eq_true rfl] at t1
  refine Fn.of tys_ok Tryz.func12 rfl rfl (Nat.le_of_ble_eq_true rfl) ?_
  conv => whnf
  refine Fn.closed (s1) rfl ?_
  rintro _ rfl
  conv => whnf
  refine Fn.closed (s2) rfl ?_
  rintro _ rfl
  conv => whnf
  refine ACalls.shut (log18_fn).go ?_
  conv => whnf
  repeat' (refine And.intro (by first | rfl | omega | (simp; done) | (simp only [List.length_map]; omega)) ?_; conv => whnf)
  refine ACalls.sub _ ?_ (Fn.closed (log18_fn) rfl ?_)
  · repeat' (first | exact trivial | exact fun _ _ h => h | exact nil_sl _ _ | exact row_sub (f := fun x : Int => [AV.v (.int .i64 x)]) [0, 1] rfl rfl | refine And.intro ?_ ?_ | refine ag_sub ?_)
  rintro _ rfl
  conv => whnf
  refine FnO.call (w1) rfl ?_
  rintro _ _ ⟨rfl, rfl⟩
  conv => whnf
  refine ⟨by first | omega | (refine ⟨rfl, ?_, ?_⟩ <;> first | omega | (simp only [List.length_map]; done) | (simp only [List.length_map]; omega)) | (simp only [List.length_map]; omega), ?_⟩
  conv => whnf
  have gX : (X.map gotC).getD (Int.toNat 1) [] = gotC (X.getD 1 gz) := map_getD (by rw [lX]; decide)
  have gY : (Y.map gotC).getD (Int.toNat 1) [] = gotC (Y.getD 1 gz) := map_getD (by rw [lY]; decide)
  refine And.intro ⟨rfl, by rw [List.length_map, lX], by decide⟩ ?_
  conv => whnf
  rw [gX]
  conv => whnf
  refine ACalls.hsub [.box 23 (geoC g17), .box 26 (anC a17), .dead, .row 54 2 ((X.set 1 ⟨6, []⟩).map gotC), .row 54 2 (Y.map gotC)] (And.intro rfl (And.intro rfl (And.intro rfl (And.intro (And.intro rfl (And.intro rfl (bad_sub X 1 6))) (And.intro (And.intro rfl (And.intro rfl (SubLL.refl _))) trivial))))) ?_
  refine ACalls.frame [3, 4] c1 rfl rfl rfl rfl (by decide) (lt34 rfl) ⟨rfl, rfl, trivial⟩ ?_
  rintro _ _ ⟨rfl, rfl⟩
  conv => whnf
  refine ⟨by first | omega | (refine ⟨rfl, ?_, ?_⟩ <;> first | omega | (simp only [List.length_map]; done) | (simp only [List.length_map]; omega)) | (simp only [List.length_map]; omega), ?_⟩
  conv => whnf
  refine And.intro ⟨rfl, by rw [List.length_map, lY], by decide⟩ ?_
  conv => whnf
  rw [gY]
  conv => whnf
  refine ACalls.hsub [.box 23 (geoC g17), .box 26 (anC a17), .dead, .row 54 2 ((X.set 1 ⟨6, []⟩).map gotC), .row 54 2 ((Y.set 1 ⟨6, []⟩).map gotC)] (And.intro rfl (And.intro rfl (And.intro rfl (And.intro (And.intro rfl (And.intro rfl (SubLL.refl _))) (And.intro (And.intro rfl (And.intro rfl (bad_sub Y 1 6))) trivial))))) ?_
  refine ACalls.frame [3, 4] c2 rfl rfl rfl rfl (by decide) (lt34 rfl) ⟨rfl, rfl, trivial⟩ ?_
  rintro _ _ ⟨rfl, rfl⟩
  conv => whnf
  refine aDraw.of tys_ok mixed [0, 1, 2, 3, 4, 5, 6, 7, 8, 9, 10, 11, 12, 13, 14, 15, 16, 17, 18, 19, 20, 21, 22, 23, 24, 25, 26] (by kernel_rfl) ?_
  conv => whnf
  repeat' (first | (refine aSeq.go ?_; conv => whnf) | (refine boolI (fun _ => ?_) (fun _ => ?_) <;> conv => whnf) | (refine Fn.closed (t1) rfl ?_; rintro _ rfl; conv => whnf) | (refine And.intro (by first | omega | exact of_decide_eq_true rfl) ?_; conv => whnf) | fail)
  exact ⟨_, fun _ _ h => h, rfl⟩
end Go.Proofs.YteecmgonbdbhdaaGreatDoor.A
end

/-
casemateref15.Scan answers as scan.Scan does.
-/
section
namespace Go.Proofs.YteecmgonbdbhdaaGreatDoor.A
open Go.RowKit

theorem gt_ext {x y : Gt} (h1 : x.err = y.err) (h2 : x.bytes = y.bytes) : x = y := by
  cases x; cases y; simp_all
theorem wr_ext {x y : Wr} (h1 : x.addr = y.addr) (h2 : x.bytes = y.bytes) : x = y := by
  cases x; cases y; simp_all
theorem gots_fn (l m : List Gt) (hl : l.length ≤ 1000000000) (hb : ∀ x ∈ l, x.bytes.length ≤ 100000000000) : Fn Tryz.prog 9 [gotsA l, gotsA m] fun r => r = .v (.bool (decide (l = m))) := by
  refine Fn.of tys_ok Tryz.func9 rfl rfl (Nat.le_of_ble_eq_true rfl) ?_
  conv => whnf
  refine boolI (fun h => ?_) (fun h => ?_) <;> (repeat rw [Int.toNat_natCast] at h) <;> conv => whnf
  · exact ⟨_, fun _ _ h => h, by rw [decide_eq_false (fun e => h (by rw [e]))]⟩
  refine aLoop.rule Nat (fun k => ([(0, gotsA l), (1, gotsA m), (5, .v (.int .i64 k))], [])) (fun k => k ≤ l.length ∧ l.take k = m.take k) (fun k => l.length - k) 0 ⟨Nat.zero_le _, by simp⟩ ⟨[], trivial, ⟨rfl, rfl, rfl, trivial⟩, trivial, rfl, rfl, rfl⟩ ?_
  rintro k ⟨hk, hI⟩
  conv => whnf
  refine boolI (fun h2 => ?_) (fun h2 => ?_) <;> (repeat rw [Int.toNat_natCast] at h2) <;> conv => whnf
  · have hm := hb _ (getD_mem (d := ⟨0, []⟩) (show k < l.length by omega))
    refine aDraw.seq tys_ok mixed (by kernel_rfl) ?_
    conv => whnf
    repeat' (first | (refine aSeq.go ?_; conv => whnf) | (refine boolI (fun _ => ?_) (fun _ => ?_) <;> conv => whnf) | (refine Fn.closed (bytes_fn (l.getD k ⟨0, []⟩).bytes (m.getD k ⟨0, []⟩).bytes hm) rfl ?_; rintro _ rfl; conv => whnf) | (refine And.intro (by first | omega | exact of_decide_eq_true rfl) ?_; conv => whnf) | fail)
    all_goals first
      | exact ⟨_, fun _ _ h => h, by rw [decide_eq_false (ne_of_getD (fun e => absurd (congrArg Gt.err e) ‹_›))]⟩
      | exact ⟨_, fun _ _ h => h, by rw [decide_eq_false (ne_of_getD (fun e => absurd (congrArg Gt.bytes e) ‹_›))]⟩
      | exact ⟨k + 1, ⟨by omega, take_succ_eq hI (by omega) (by omega) (gt_ext ‹_› ‹_›)⟩, by omega, ⟨[], trivial, ⟨rfl, rfl, wsucc (by omega), trivial⟩, trivial, rfl, rfl, rfl⟩⟩
  · exact ⟨_, fun _ _ h => h, by rw [decide_eq_true (eq_of_take hI (by omega) (by omega))]⟩
theorem writes_fn (l m : List Wr) (hl : l.length ≤ 1000000000) (hb : ∀ x ∈ l, x.bytes.length ≤ 100000000000) : Fn Tryz.prog 15 [wrsA l, wrsA m] fun r => r = .v (.bool (decide (l = m))) := by
  refine Fn.of tys_ok Tryz.func15 rfl rfl (Nat.le_of_ble_eq_true rfl) ?_
  conv => whnf
  refine boolI (fun h => ?_) (fun h => ?_) <;> (repeat rw [Int.toNat_natCast] at h) <;> conv => whnf
  · exact ⟨_, fun _ _ h => h, by rw [decide_eq_false (fun e => h (by rw [e]))]⟩
  refine aLoop.rule Nat (fun k => ([(0, wrsA l), (1, wrsA m), (5, .v (.int .i64 k))], [])) (fun k => k ≤ l.length ∧ l.take k = m.take k) (fun k => l.length - k) 0 ⟨Nat.zero_le _, by simp⟩ ⟨[], trivial, ⟨rfl, rfl, rfl, trivial⟩, trivial, rfl, rfl, rfl⟩ ?_
  rintro k ⟨hk, hI⟩
  conv => whnf
  refine boolI (fun h2 => ?_) (fun h2 => ?_) <;> (repeat rw [Int.toNat_natCast] at h2) <;> conv => whnf
  · have hm := hb _ (getD_mem (d := ⟨0, []⟩) (show k < l.length by omega))
    refine aDraw.seq tys_ok mixed (by kernel_rfl) ?_
    conv => whnf
    repeat' (first | (refine aSeq.go ?_; conv => whnf) | (refine boolI (fun _ => ?_) (fun _ => ?_) <;> conv => whnf) | (refine Fn.closed (bytes_fn (l.getD k ⟨0, []⟩).bytes (m.getD k ⟨0, []⟩).bytes hm) rfl ?_; rintro _ rfl; conv => whnf) | (refine And.intro (by first | omega | exact of_decide_eq_true rfl) ?_; conv => whnf) | fail)
    all_goals first
      | exact ⟨_, fun _ _ h => h, by rw [decide_eq_false (ne_of_getD (fun e => absurd (congrArg Wr.addr e) ‹_›))]⟩
      | exact ⟨_, fun _ _ h => h, by rw [decide_eq_false (ne_of_getD (fun e => absurd (congrArg Wr.bytes e) ‹_›))]⟩
      | exact ⟨k + 1, ⟨by omega, take_succ_eq hI (by omega) (by omega) (wr_ext ‹_› ‹_›)⟩, by omega, ⟨[], trivial, ⟨rfl, rfl, wsucc (by omega), trivial⟩, trivial, rfl, rfl, rfl⟩⟩
  · exact ⟨_, fun _ _ h => h, by rw [decide_eq_true (eq_of_take hI (by omega) (by omega))]⟩
/-- How the reference goes through a transaction: so many records are gone through. -/
def TxJ (g : Geo) (a : An) (x y : List Gt) (pos seq left : Int) (k : Nat) (of_ : Int) (ims : List Img) (more : List Wr) : Prop :=
  (k = 0 ∧ of_ = 0 ∧ ims = [] ∧ more = []) ∨ ((1 ≤ k ∧ (k : Int) ≤ of_ ∧ of_ ≤ 30 ∧ of_ ≤ left ∧ ims.length ≤ k ∧ more.length ≤ k) ∧ ∃ r im, ims = (if r.kind = 1 then im ++ [r.img] else im) ∧
    txnM g a x y pos seq left = (let t := gatherM (fun j => recM g a x y pos seq left j of_) (of_ - k).toNat k r im more
      if t.1 ≠ 1 then (t.1, 0, [], []) else (1, of_, t.2.1, t.2.2)))
section
variable {g : Geo} {a : An} {x y : List Gt} {pos seq left : Int}
theorem gat_step {look : Int → Rc × Int × List Wr} {f : Nat} {k : Int} {r : Rc} {im : List Img} {w : List Wr} (h : (look k).2.1 = 1) : gatherM look (f + 1) k r im w = gatherM look f (k + 1) (look k).1 (if r.kind = 1 then im ++ [r.img] else im) (w ++ (look k).2.2) := by
  conv => lhs; unfold gatherM
  dsimp only
  rw [if_neg (not_not_intro h)]
theorem gat_stop {look : Int → Rc × Int × List Wr} {f : Nat} {k : Int} {r : Rc} {im : List Img} {w : List Wr} (h : (look k).2.1 ≠ 1) : gatherM look (f + 1) k r im w = ((look k).2.1, [], []) := by
  conv => lhs; unfold gatherM
  dsimp only
  rw [if_pos h]
theorem TxJ.step {k : Nat} {of_ : Int} {ims : List Img} {more : List Wr} (h : TxJ g a x y pos seq left k of_ ims more) (hk : k = 0 ∨ (k : Int) < of_) {q : Rc × Int × List Wr} (hq : recM g a x y pos seq left (k : Nat) of_ = q) (h1 : q.2.1 = 1) (ho : okR g q.1 = true) (hi : isOne q.1 a seq (k : Nat) of_ left = true) (hw : q.2.2.length ≤ 1) :
    TxJ g a x y pos seq left (k + 1) q.1.of_ (if q.1.kind = 1 then ims ++ [q.1.img] else ims) (more ++ q.2.2) := by
  have hN := one_of ho hi
  have hlen : (if q.1.kind = 1 then ims ++ [q.1.img] else ims).length ≤ ims.length + 1 := by split <;> simp
  rcases h with ⟨rfl, rfl, rfl, rfl⟩ | ⟨⟨k1, k2, k3, k4, k5, k6⟩, r, im, e1, e2⟩
  · refine .inr ⟨⟨by omega, by omega, by omega, hN.2.2.2.2.1 rfl, by simpa using hlen, by simpa using hw⟩, q.1, [], rfl, ?_⟩
    have hq : recM g a x y pos seq left 0 0 = q := hq
    unfold txnM
    dsimp only
    rw [hq, if_neg (not_not_intro h1)]
    simp only [List.nil_append]
    rfl
  · have eo : q.1.of_ = of_ := hN.2.2.2.2.2 (by omega)
    have hk := hk.resolve_left (by omega)
    refine .inr ⟨⟨by omega, by omega, by omega, by omega, by omega, by rw [List.length_append]; omega⟩, q.1, ims, rfl, ?_⟩
    rw [e2, eo]
    obtain ⟨m, hm⟩ : ∃ m : Nat, (of_ - k).toNat = m + 1 := ⟨(of_ - k).toNat - 1, by omega⟩
    rw [hm, gat_step (by rw [hq]; exact h1), hq, ← e1, show (of_ - ((k + 1 : Nat) : Int)).toNat = m by omega, show ((k : Int) + 1) = ((k + 1 : Nat) : Int) by omega]
theorem TxJ.stop {k : Nat} {of_ : Int} {ims : List Img} {more : List Wr} (h : TxJ g a x y pos seq left k of_ ims more) (hk : k = 0 ∨ (k : Int) < of_) {q : Rc × Int × List Wr} (hq : recM g a x y pos seq left (k : Nat) of_ = q) (h1 : q.2.1 ≠ 1) : txnM g a x y pos seq left = (q.2.1, 0, [], []) := by
  rcases h with ⟨rfl, rfl, rfl, rfl⟩ | ⟨⟨k1, k2, k3, k4, k5, k6⟩, r, im, e1, e2⟩
  · have hq : recM g a x y pos seq left 0 0 = q := hq
    unfold txnM
    dsimp only
    rw [hq, if_pos h1]
  · have hk := hk.resolve_left (by omega)
    obtain ⟨m, hm⟩ : ∃ m : Nat, (of_ - k).toNat = m + 1 := ⟨(of_ - k).toNat - 1, by omega⟩
    rw [e2, hm, gat_stop (by rw [hq]; exact h1), hq]
    dsimp only
    rw [if_pos h1]
theorem TxJ.fin {k : Nat} {of_ : Int} {ims : List Img} {more : List Wr} (h : TxJ g a x y pos seq left k of_ ims more) (hk : ¬ (k = 0 ∨ (k : Int) < of_)) : txnM g a x y pos seq left = (1, of_, ims, more) := by
  rcases h with ⟨rfl, rfl, rfl, rfl⟩ | ⟨⟨k1, k2, k3, k4, k5, k6⟩, r, im, e1, e2⟩
  · exact absurd (.inl rfl) hk
  · rw [e2, show (of_ - k).toNat = 0 by omega]
    unfold gatherM
    dsimp only
    rw [if_neg (by decide), ← e1]
theorem TxJ.len {k : Nat} {of_ : Int} {ims : List Img} {more : List Wr} (h : TxJ g a x y pos seq left k of_ ims more) : k ≤ 30 ∧ ims.length ≤ 30 ∧ more.length ≤ 30 ∧ 0 ≤ of_ ∧ of_ ≤ 30 := by
  rcases h with ⟨rfl, rfl, rfl, rfl⟩ | ⟨⟨k1, k2, k3, k4, k5, k6⟩, -⟩
  · simp
  · omega
end
end Go.Proofs.YteecmgonbdbhdaaGreatDoor.A
end

/-
The reference: the table of a zone that was never written, as bytes.
-/
section
namespace Go.Proofs.YteecmgonbdbhdaaGreatDoor.A
open Go.RowKit

def zero8 : List UInt8 := [0, 0, 0, 0, 0, 0, 0, 0]
def ent0 : Ent := ⟨0, (sumC zero8 : Nat), false⟩
def tab0 (g : Geo) : List Ent := List.replicate (g.d + 1).toNat ent0
end Go.Proofs.YteecmgonbdbhdaaGreatDoor.A
end

/-
casematelaw16: a right log of a geometry and an anchor.
-/
section
namespace Go.Proofs.YteecmgonbdbhdaaGreatDoor.A
open Go.RowKit

def logImg (g : Geo) (fill : UInt8) (i k : Nat) : Img :=
  if (i + k) % 4 = 3 then ⟨((i + k : Nat) : Int).tmod g.z, 255, tblB (tab0 g)⟩ else ⟨((i + k : Nat) : Int).tmod g.z, ((i + 2 * k : Nat) : Int).tmod (g.d + 1) - 1, [fill, UInt8.ofNat i, UInt8.ofNat k, 1, 2, 3, 4, 5]⟩
def logTx (g : Geo) (a : An) (fill : UInt8) (i : Nat) (pos : Int) (n : Nat) : Tx := ⟨a.seq + i, pos, n + 1, (List.range n).map fun k => logImg g fill i k⟩
theorem SubLL.app {e f : List AV} (h : SubL e f) : ∀ {a b : List (List AV)}, SubLL a b → SubLL (a ++ [e]) (b ++ [f])
  | [], [], _ => ⟨h, trivial⟩
  | _ :: _, _ :: _, h2 => ⟨h2.1, SubLL.app h h2.2⟩
  | [], _ :: _, h => h.elim
  | _ :: _, [], h => h.elim
end Go.Proofs.YteecmgonbdbhdaaGreatDoor.A
end

/-
casemateref15.Scan answers as scan.Scan does: the walk.
-/
section
namespace Go.Proofs.YteecmgonbdbhdaaGreatDoor.A
open Go.RowKit

set_option maxRecDepth 100000 in
set_option maxHeartbeats 4000000 in
theorem rscan_fn (g : Geo) (a : An) (x y : List Gt) (hg : okG g = true) (ha : anOk g a = true) (hx : (x.length : Int) = g.sl) (hy : (y.length : Int) = g.sl) (hxb : ∀ z ∈ x, z.bytes.length ≤ 100000) (hyb : ∀ z ∈ y, z.bytes.length ≤ 100000) :
    Fn Tryz.prog 13 [.ag (geoC g), .ag (anC a), gotsA x, gotsA y] fun r => r = .tp [txsA (scanM g a x y).1, wrsA (scanM g a x y).2.1, .v (.int .i64 (scanM g a x y).2.2)] := by
  obtain ⟨h1, h2, h3, h4, h5⟩ := okG_iff.1 hg
  have hq := anOk_seq ha
  refine Fn.of tys_ok Tryz.func13 rfl rfl (Nat.le_of_ble_eq_true rfl) ?_
  conv => whnf
  refine aDraw.of tys_ok mixed [0, 1, 2, 3, 4, 5, 6, 7, 8] (by kernel_rfl) ?_
  conv => whnf
  unfold scanM
  generalize hR : scanL g a x y g.sl.toNat a.pos a.seq g.sl [] [] = R
  refine aLoop.rule (Nat × Int × Int × Int × List Tx × List (List AV) × List Wr) (fun z => ([(2, gotsA x), (3, gotsA y), (4, .bp 0 0), (5, .bp 1 0), (8, .v (.slice none 0 0)), (9, .v (.slice none 0 0)), (10, .v (.int .i64 0)), (11, .ow 2 z.2.2.2.2.2.1.length), (12, .ow 3 z.2.2.2.2.2.2.length), (13, .v (.int .i64 z.2.1)), (14, .v (.int .i64 z.2.2.1)), (15, .v (.int .i64 z.2.2.2.1))], [.box 23 (geoC g), .box 26 (anC a), .row 51 4 z.2.2.2.2.2.1, .row 72 2 (z.2.2.2.2.2.2.map wrC)]))
    (fun z => scanL g a x y z.1 z.2.1 z.2.2.1 z.2.2.2.1 z.2.2.2.2.1 z.2.2.2.2.2.2 = R ∧ z.2.2.2.1 ≤ z.1 ∧ (0 ≤ z.2.1 ∧ z.2.1 < g.sl) ∧ (0 ≤ z.2.2.1 ∧ z.2.2.1 ≤ 4294967296) ∧ (z.2.2.2.2.1.length * 2 + z.2.2.2.1 ≤ g.sl ∧ 0 ≤ z.2.2.2.1) ∧ z.2.2.2.2.2.2.length ≤ z.2.2.2.2.1.length * 30 ∧ SubLL z.2.2.2.2.2.1 (z.2.2.2.2.1.map txC))
    (fun z => z.1) (g.sl.toNat, a.pos, a.seq, g.sl, [], [], []) ⟨hR, show g.sl ≤ (g.sl.toNat : Int) by omega, hq.2, hq.1, ⟨show (0 : Int) * 2 + g.sl ≤ g.sl by omega, show 0 ≤ g.sl by omega⟩, Nat.le_refl 0, trivial⟩ ⟨[(11, 51, 4), (12, 72, 2)], ⟨rfl, rfl, rfl, rfl, trivial⟩, ⟨rfl, rfl, rfl, rfl, rfl, rfl, rfl, rfl, rfl, rfl, rfl, rfl, trivial⟩, ⟨rfl, rfl, rfl, rfl, trivial⟩, rfl, rfl, rfl⟩ ?_
  rintro ⟨f, pos, seq, left, l, rl, w⟩ ⟨b1, b2, b3, b4, b5, b6, b7⟩
  dsimp only at b1 b2 b3 b4 b5 b6 b7 ⊢
  have b8 : rl.length = l.length := by have := b7.len; rwa [List.length_map] at this
  conv => whnf
  refine boolI (fun c1 => ?A) (fun c1 => ?B)
  case' A => conv => whnf
  case' A => refine boolI (fun c2 => ?A1) (fun c2 => ?A2)
  case A1 =>
    conv => whnf
    cases f with
    | zero => exfalso; omega
    | succ f =>
      unfold scanL at b1
      rw [if_pos ⟨c1, c2⟩] at b1
      dsimp only at b1
      have tf := txnM_facts (a := a) (x := x) (y := y) (seq := seq) (left := left) hg b3
      refine aLoop.rule (Nat × Int × List Img × List Wr) (fun z => ([(2, gotsA x), (3, gotsA y), (4, .bp 0 0), (5, .bp 1 0), (8, .v (.slice none 0 0)), (9, .v (.slice none 0 0)), (10, .v (.int .i64 0)), (11, .ow 2 rl.length), (12, .ow 3 w.length), (13, .v (.int .i64 pos)), (14, .v (.int .i64 seq)), (15, .v (.int .i64 left)), (16, .bp 4 0), (17, .ow 6 z.2.2.2.length), (18, .v (.int .i64 z.2.1)), (19, .v (.int .i64 1)), (20, .v (.int .i64 z.1))], [.box 23 (geoC g), .box 26 (anC a), .row 51 4 rl, .row 72 2 (w.map wrC), .box 51 [.v (.int .i64 seq), .v (.int .i64 pos), .v (.int .i64 0), .ow 5 z.2.2.1.length], .row 74 3 (z.2.2.1.map imgC), .row 72 2 (z.2.2.2.map wrC)]))
        (fun z => TxJ g a x y pos seq left z.1 z.2.1 z.2.2.1 z.2.2.2) (fun z => 31 - z.1) (0, 0, [], []) (.inl ⟨rfl, rfl, rfl, rfl⟩) ⟨[(1004003, 74, 3), (17, 72, 2)], ⟨rfl, rfl, rfl, rfl, trivial⟩, ⟨rfl, rfl, rfl, rfl, rfl, rfl, rfl, rfl, rfl, rfl, rfl, rfl, rfl, rfl, rfl, rfl, rfl, trivial⟩, ⟨rfl, rfl, rfl, rfl, rfl, rfl, rfl, trivial⟩, rfl, rfl, rfl⟩ ?_
      rintro ⟨k, of_, ims, more⟩ hJ
      dsimp only at hJ ⊢
      have hJl := hJ.len
      conv => whnf
      refine boolI (fun d1 => ?C) (fun d1 => ?D)
      case' D => conv => whnf
      case' D => refine boolI (fun d2 => ?D1) (fun d2 => ?D2)
      case D2 =>
        conv => whnf
        have hT := hJ.fin (by omega)
        rw [hT] at b1 tf
        dsimp only at b1 tf
        rw [if_neg (by decide), if_neg (by decide)] at b1
        obtain ⟨-, ⟨n1, n2, n3⟩, n4⟩ := tf.resolve_right (by omega)
        have hm := Int.tmod_lt_of_pos (pos + of_) (show 0 < g.sl by omega)
        have hm0 := Int.tmod_nonneg g.sl (show 0 ≤ pos + of_ by omega)
        have w1 : IntKind.i64.wrap (pos + of_) = pos + of_ := wi (by omega)
        have w2 : IntKind.i64.wrap (seq + 1) = seq + 1 := wi (by omega)
        have w3 : IntKind.i64.wrap (left - of_) = left - of_ := wi (by omega)
        refine And.intro (by rw [List.length_map]) ?_
        conv => whnf
        refine And.intro rfl ?_
        conv => whnf
        refine And.intro ⟨rfl, by omega⟩ ?_
        conv => whnf
        refine And.intro (by rw [List.length_map]) ?_
        conv => whnf
        refine And.intro ⟨by rw [List.length_map], by omega⟩ ?_
        conv => whnf
        rw [w1]
        refine And.intro (by omega) ?_
        conv => whnf
        rw [w2, w3]
        refine ⟨(f, (pos + of_).tmod g.sl, seq + 1, left - of_, l ++ [⟨seq, pos, of_, ims⟩], rl ++ [[.v (.int .i64 seq), .v (.int .i64 pos), .v (.int .i64 of_), .sl 3 ims.length fun i => (ims.map imgC).getD i []]], w ++ more), ⟨b1, by dsimp only; omega, ⟨hm0, hm⟩, by dsimp only; omega, ?_, ?_, ?_⟩, Nat.lt_succ_self f, [], trivial, ⟨rfl, rfl, rfl, rfl, rfl, rfl, rfl, by rw [List.length_append]; rfl, by rw [List.length_append]; rfl, rfl, rfl, rfl, trivial⟩, ⟨rfl, rfl, rfl, by rw [List.map_append], trivial⟩, rfl, rfl, rfl⟩
        · dsimp only
          rw [List.length_append]
          simp only [List.length_cons, List.length_nil]
          omega
        · dsimp only
          rw [List.length_append, List.length_append]
          simp only [List.length_cons, List.length_nil]
          omega
        · dsimp only
          rw [List.map_append]
          refine SubLL.app ?_ b7
          exact ⟨fun _ _ h => h, fun _ _ h => h, fun _ _ h => h, row_sub (f := imgC) ims rfl rfl, trivial⟩
      all_goals
        conv => whnf
        have hk : k = 0 ∨ (k : Int) < of_ := by omega
        have hsl := slotM_in (at_ := (k : Nat)) hg b3 (by omega)
        obtain ⟨s, es⟩ := Int.eq_ofNat_of_zero_le hsl.1
        have es2 : (IntKind.i64.wrap (pos + (k : Nat))).tmod g.sl = (s : Nat) := es
        have hs1 : (s : Int) < g.sl := by rw [es] at hsl; exact hsl.2
        have hin : inB (s : Nat) 0 (g.sl - 1) = true := inB_iff.2 (by omega)
        have rl1 := rlook_fn g a (x.getD s gz) (y.getD s gz) (s : Nat) seq (k : Nat) of_ left hg hin (hxb _ (getD_mem (by omega))) (hyb _ (getD_mem (by omega)))
        have hF := lookR_facts (g := g) (a := a) (x := x.getD s gz) (y := y.getD s gz) (slot := (s : Nat)) (seq := seq) (at_ := (k : Nat)) (of_ := of_) (left := left) ⟨by omega, hs1⟩
        have hrec : recM g a x y pos seq left (k : Nat) of_ = ((lookR g a (x.getD s gz) (y.getD s gz) (s : Nat) seq (k : Nat) of_ left).1, (lookR g a (x.getD s gz) (y.getD s gz) (s : Nat) seq (k : Nat) of_ left).2.2, (lookR g a (x.getD s gz) (y.getD s gz) (s : Nat) seq (k : Nat) of_ left).2.1.map fun c => ⟨logAt g c (s : Nat), cellB g (lookR g a (x.getD s gz) (y.getD s gz) (s : Nat) seq (k : Nat) of_ left).1 c (s : Nat)⟩) := by
          unfold recM
          dsimp only
          rw [es, Int.toNat_natCast]
        generalize lookR g a (x.getD s gz) (y.getD s gz) (s : Nat) seq (k : Nat) of_ left = Q at rl1 hF hrec
        refine aSeq.go ?_
        conv => whnf
        refine And.intro (by omega) ?_
        conv => whnf
        rw [es2]
        conv => whnf
        apply aDraw.tree tys_ok mixed (.one 0 (.one 1 (.one 2 (.one 3 (.one 4 (.one 5 (.one 6 (.one 7 (.one 8 (.one 9 (.one 10 (.one 11 (.one 12 (.one 13 (.one 14 (.two 15 (.one 16 (.one 17 (.one 18 (.one 19 (.one 20 (.one 21 (.one 22 (.one 23 .fin)))))))) 20 (.one 15 (.one 16 (.one 17 (.one 18 (.one 19 (.one 21 (.one 22 (.one 23 .fin)))))))))))))))))))))))) [22, 23, 24, 60, 61, 62, 63, 64, 65, 66, 67, 68, 69, 70, 71, 72, 73, 74, 75, 76, 77, 78, 79] (by kernel_rfl)
        · conv => whnf
          try (refine And.intro (by first | omega | (simp; done)) ?_; conv => whnf)
          try (refine And.intro (by first | omega | (simp; done)) ?_; conv => whnf)
          refine And.intro ?_ ?_
          · conv => whnf
            refine Fn.closed (rl1) rfl ?_
            rintro _ rfl
            conv => whnf
            exact ⟨rfl, rfl⟩
          · conv => whnf
            refine Fn.closed (rl1) rfl ?_
            rintro _ rfl
            conv => whnf
            exact ⟨rfl, rfl⟩
        conv => whnf
        obtain ⟨r, ws, how⟩ := Q
        dsimp only at hF hrec ⊢
        refine boolI (fun f1 => ?_) (fun f1 => ?_) <;> (repeat rw [Int.toNat_natCast] at f1) <;> conv => whnf
        · obtain ⟨q1, rfl, rfl⟩ := hF.resolve_left (fun h => f1 h.1)
          have hT := hJ.stop hk hrec f1
          rw [hT] at b1 tf
          dsimp only at b1
          rcases q1 with rfl | rfl
          · rw [if_neg (by decide), if_pos (by decide)] at b1
            subst b1
            have hws : IntKind.i64.wrap (seq - 1) = seq - 1 := by rw [IntKind.wrap_i64]; omega
            conv => whnf
            rw [hws]
            conv => whnf
            refine boolI (fun e1 => ?_) (fun e1 => ?_) <;> (repeat rw [Int.toNat_natCast] at e1) <;> conv => whnf
            · exact ⟨_, fun c u h => scan0_sub 12 c u h, by rw [finM_pos e1]; rfl⟩
            · refine And.intro rfl ?_
              conv => whnf
              refine And.intro (by rw [List.length_map]) ?_
              conv => whnf
              exact ⟨.tp [txsA l, wrsA w, .v (.int .i64 0)], tp_sub ⟨rows_sub l b8 rfl b7, row_sub w rfl rfl, fun _ _ h => h, trivial⟩, by rw [finM_neg (by omega)]⟩
          · rw [if_pos (by decide)] at b1
            subst b1
            conv => whnf
            exact ⟨_, fun c u h => scan0_sub 12 c u h, rfl⟩
        · subst f1
          obtain ⟨-, ⟨o1, o2, o3⟩, o4, o5⟩ := hF.resolve_right (fun h => by omega)
          have hJ2 := hJ.step hk hrec rfl o1 o3 (by rw [List.length_map]; exact o4)
          dsimp only at hJ2
          obtain ⟨IM, hIM⟩ : ∃ IM, IM = (if r.kind = 1 then ims ++ [r.img] else ims) := ⟨_, rfl⟩
          rw [← hIM] at hJ2
          have hJl2 := hJ2.len
          refine aSeq.cut Unit (fun _ => ([(2, gotsA x), (3, gotsA y), (4, .bp 0 0), (5, .bp 1 0), (8, .v (.slice none 0 0)), (9, .v (.slice none 0 0)), (10, .v (.int .i64 0)), (11, .ow 2 rl.length), (12, .ow 3 w.length), (13, .v (.int .i64 pos)), (14, .v (.int .i64 seq)), (15, .v (.int .i64 left)), (16, .bp 4 0), (17, .ow 6 more.length), (18, .v (.int .i64 r.of_)), (19, .v (.int .i64 1)), (20, .v (.int .i64 k)), (21, .v (.int .i64 (s : Nat))), (22, .bp 7 0), (23, iA ws)], [.box 23 (geoC g), .box 26 (anC a), .row 51 4 rl, .row 72 2 (w.map wrC), .box 51 [.v (.int .i64 seq), .v (.int .i64 pos), .v (.int .i64 0), .ow 5 IM.length], .row 74 3 (IM.map imgC), .row 72 2 (more.map wrC), .box 76 (rcC r)])) (fun _ => True) ?_ ?_
          · conv => whnf
            refine boolI (fun k1 => ?_) (fun k1 => ?_) <;> (repeat rw [Int.toNat_natCast] at k1) <;> conv => whnf
            · rw [if_pos k1] at hIM
              refine And.intro rfl ?_
              conv => whnf
              refine And.intro ⟨by rw [List.length_map], by omega⟩ ?_
              conv => whnf
              exact ⟨(), trivial, [], trivial, ⟨rfl, rfl, rfl, rfl, rfl, rfl, rfl, rfl, rfl, rfl, rfl, rfl, rfl, rfl, rfl, rfl, rfl, rfl, rfl, rfl, trivial⟩, ⟨rfl, rfl, rfl, rfl, by rw [hIM, List.length_append]; rfl, by rw [hIM, List.map_append]; rfl, rfl, rfl, trivial⟩, rfl, rfl, rfl⟩
            · rw [if_neg k1] at hIM
              exact ⟨(), trivial, [], trivial, ⟨rfl, rfl, rfl, rfl, rfl, rfl, rfl, rfl, rfl, rfl, rfl, rfl, rfl, rfl, rfl, rfl, rfl, rfl, rfl, rfl, trivial⟩, ⟨rfl, rfl, rfl, rfl, by rw [hIM], by rw [hIM], rfl, rfl, trivial⟩, rfl, rfl, rfl⟩
          · rintro ⟨⟩ -
            conv => whnf
            cases ws with
            | nil =>
              rw [List.map_nil, List.append_nil] at hJ2
              refine aLoop.rounds 1 ?_
              conv => whnf
              exact ⟨(k + 1, r.of_, IM, more), hJ2, by dsimp only; omega, [], trivial, ⟨rfl, rfl, rfl, rfl, rfl, rfl, rfl, rfl, rfl, rfl, rfl, rfl, rfl, rfl, rfl, rfl, wsucc (by omega), trivial⟩, ⟨rfl, rfl, rfl, rfl, rfl, rfl, rfl, trivial⟩, rfl, rfl, rfl⟩
            | cons c t =>
              have et : t = [] := by
                cases t with
                | nil => rfl
                | cons _ _ => simp at o4
              subst et
              have hL := o5 c (by simp)
              have c1 := rlogAt_fn g c (s : Nat) hg hL
              have c2 := rrecCell_br g r c (s : Nat) o1 hL
              refine aLoop.rounds 2 ?_
              conv => whnf
              apply aDraw.tree tys_ok mixed (.one 0 (.one 1 (.one 2 (.one 3 (.one 4 (.one 5 (.one 6 (.one 8 (.one 9 (.one 10 (.one 11 (.one 12 (.one 13 (.one 14 (.one 7 (.one 15 (.one 16 (.one 17 (.one 18 (.one 19 .fin)))))))))))))))))))) [17, 101, 102, 103, 104, 105, 106, 107, 108, 109, 110, 111, 112, 113, 114, 115, 116, 117, 118, 119] (by kernel_rfl)
              · conv => whnf
                try (refine And.intro (by first | omega | (simp; done)) ?_; conv => whnf)
                try (refine And.intro (by first | omega | (simp; done)) ?_; conv => whnf)
                refine Fn.closed (c1) rfl ?_
                rintro _ rfl
                conv => whnf
                refine Fn.closed (c2) rfl ?_
                rintro _ rfl
                conv => whnf
                try (refine And.intro (by first | rfl | omega) ?_; conv => whnf)
                try (refine And.intro (by first | omega | exact ⟨by first | rfl | (simp only [List.length_map]; done) | (simp only [List.length_map]; omega), by omega⟩) ?_; conv => whnf)
                exact ⟨rfl, rfl⟩
              conv => whnf
              exact ⟨(k + 1, r.of_, IM, more ++ [⟨logAt g c (s : Nat), cellB g r c (s : Nat)⟩]), hJ2, by dsimp only; omega, [], trivial, ⟨rfl, rfl, rfl, rfl, rfl, rfl, rfl, rfl, rfl, rfl, rfl, rfl, rfl, by rw [List.length_append]; rfl, rfl, rfl, wsucc (by omega), trivial⟩, ⟨rfl, rfl, rfl, rfl, rfl, rfl, by rw [List.map_append]; rfl, trivial⟩, rfl, rfl, rfl⟩
  all_goals
    conv => whnf
    have hb : some (l, w, seq) = R := by
      cases f with
      | zero => exact b1
      | succ f => unfold scanL at b1; rw [if_neg (by omega)] at b1; exact b1
    subst hb
    have hws : IntKind.i64.wrap (seq - 1) = seq - 1 := by rw [IntKind.wrap_i64]; omega
    rw [hws]
    conv => whnf
    refine boolI (fun e1 => ?_) (fun e1 => ?_) <;> (repeat rw [Int.toNat_natCast] at e1) <;> conv => whnf
    · exact ⟨_, fun c u h => scan0_sub 12 c u h, by rw [finM_pos e1]; rfl⟩
    · refine And.intro rfl ?_
      conv => whnf
      refine And.intro (by rw [List.length_map]) ?_
      conv => whnf
      exact ⟨.tp [txsA l, wrsA w, .v (.int .i64 0)], tp_sub ⟨rows_sub l b8 rfl b7, row_sub w rfl rfl, fun _ _ h => h, trivial⟩, by rw [finM_neg (by omega)]⟩
end Go.Proofs.YteecmgonbdbhdaaGreatDoor.A
end

/-
Plain laws on bits that are turned about, and on the sum of what was turned: no turning of a burst of 32 bits goes unseen.
-/
section
namespace Go.Proofs.YteecmgonbdbhdaaGreatDoor

/-- The bits that are turned, as one number. -/
def fX (bs : Int) : Nat := if (bs % 4294967296).toNat % 2 = 0 then (bs % 4294967296).toNat + 1 else (bs % 4294967296).toNat
end Go.Proofs.YteecmgonbdbhdaaGreatDoor
end

/-
Package casemateref01: bits turned about.
-/
section
namespace Go.Proofs.YteecmgonbdbhdaaGreatDoor.A
open Go.RowKit

end Go.Proofs.YteecmgonbdbhdaaGreatDoor.A
end

/-
The law PairLeft.
-/
section
namespace Go.Proofs.YteecmgonbdbhdaaGreatDoor.A
open Go.RowKit

end Go.Proofs.YteecmgonbdbhdaaGreatDoor.A
end

/-
A right log's records are right ones.
-/
section
namespace Go.Proofs.YteecmgonbdbhdaaGreatDoor.A
open Go.RowKit

/-- What is in a log: right transactions, numbered. -/
structure TxIn (g : Geo) (a : An) (fill : UInt8) (i0 : Nat) (l : List Tx) : Prop where
  at_ : ∀ j, j < l.length → ∃ pos n, l.getD j tz = logTx g a fill (i0 + j) pos n ∧ 1 ≤ n ∧ n ≤ 5 ∧ 0 ≤ pos ∧ pos < g.sl
end Go.Proofs.YteecmgonbdbhdaaGreatDoor.A
end

/-
Whose a slot of a right log is: by how far it lies behind the log's place.
-/
section
namespace Go.Proofs.YteecmgonbdbhdaaGreatDoor.A
open Go.RowKit

theorem tmod_lo {x n : Int} (h0 : 0 ≤ x) (h1 : x < n) : x.tmod n = x := Int.tmod_eq_of_lt h0 h1
theorem tmod_hi {x n : Int} (h0 : n ≤ x) (h1 : x < 2 * n) (hn : 0 < n) : x.tmod n = x - n := by
  rw [Int.tmod_eq_emod_of_nonneg (by omega), ← Int.sub_emod_right x n]
  exact Int.emod_eq_of_lt (by omega) (by omega)
end Go.Proofs.YteecmgonbdbhdaaGreatDoor.A
end

/-
A transaction that the copies say is found.
-/
section
namespace Go.Proofs.YteecmgonbdbhdaaGreatDoor.A
open Go.RowKit

end Go.Proofs.YteecmgonbdbhdaaGreatDoor.A
end

/-
The law ScanRight.
-/
section
namespace Go.Proofs.YteecmgonbdbhdaaGreatDoor.A
open Go.RowKit

/-- A transaction that is found has one image less than records. -/
theorem gather_imgs {g : Geo} {a : An} {seq left n : Int} {look : Int → Rc × Int × List Wr} (hlook : ∀ i, 1 ≤ i → i < n → (look i).2.1 = 1 → okR g (look i).1 = true ∧ isOne (look i).1 a seq i n left = true) : ∀ (f : Nat) (k : Int) (r : Rc) (im : List Img) (w : List Wr), 1 ≤ k → k + f = n → okR g r = true → r.at_ = k - 1 → r.of_ = n → r.kind ≠ 0 → (im.length : Int) = k - 1 → (gatherM look f k r im w).1 = 1 → ((gatherM look f k r im w).2.1.length : Int) + 1 = n
  | 0, k, r, im, w, hk, hn, hr, ha, ho, h0, hi, _ => by
    have hk1 : r.kind ≠ 1 := by
      intro e
      unfold okR behOk at hr
      simp only [Bool.and_eq_true] at hr
      have h2 := hr.2
      rw [if_neg h0, if_pos e] at h2
      simp only [Bool.and_eq_true, inB_iff] at h2
      omega
    unfold gatherM
    simp only [if_neg hk1]
    omega
  | f + 1, k, r, im, w, hk, hn, hr, ha, ho, h0, hi, hG => by
    have hk1 : r.kind = 1 := by
      unfold okR behOk at hr
      simp only [Bool.and_eq_true] at hr
      have h2 := hr.2
      rw [if_neg h0] at h2
      split at h2
      · assumption
      · split at h2
        · simp only [Bool.and_eq_true, beq_iff_eq] at h2
          omega
        · cases h2
    unfold gatherM at hG ⊢
    simp only [if_pos hk1] at hG ⊢
    by_cases hq : (look k).2.1 ≠ 1
    · rw [if_pos hq] at hG
      exact absurd hG hq
    · rw [if_neg hq] at hG ⊢
      have hl := hlook k hk (by omega) (by omega)
      have h1 := one_of hl.1 hl.2
      have h2 := (of_decide_eq_true hl.2).1
      refine gather_imgs hlook f (k + 1) (look k).1 _ _ (by omega) (by omega) hl.1 (by omega) ?_ h2 ?_ hG
      · exact h1.2.2.2.2.2 (by omega)
      · rw [List.length_append]
        simp only [List.length_cons, List.length_nil]
        omega
theorem txnM_imgs {g : Geo} {a : An} {x y : List Gt} {pos seq left : Int} (hg : okG g = true) (hp : 0 ≤ pos ∧ pos < g.sl) (h : (txnM g a x y pos seq left).1 = 1) : ((txnM g a x y pos seq left).2.2.1.length : Int) + 1 = (txnM g a x y pos seq left).2.1 := by
  have r0 := recM_facts (a := a) (x := x) (y := y) (seq := seq) (left := left) (of_ := 0) (at_ := 0) hg hp (by omega)
  unfold txnM at h ⊢
  simp only at h ⊢
  rcases r0 with ⟨e1, ⟨e2, -, e3⟩, e4⟩ | ⟨e1, -, -⟩
  · rw [if_neg (by omega)] at h ⊢
    have hN := one_of e2 e3
    have h0 := (of_decide_eq_true e3).1
    by_cases hq : (gatherM (fun k => recM g a x y pos seq left k (recM g a x y pos seq left 0 0).1.of_) ((recM g a x y pos seq left 0 0).1.of_ - 1).toNat 1 (recM g a x y pos seq left 0 0).1 [] (recM g a x y pos seq left 0 0).2.2).1 ≠ 1
    · rw [if_pos hq] at h
      exact absurd h hq
    · rw [if_neg hq]
      refine gather_imgs (g := g) (a := a) (seq := seq) (left := left) (n := (recM g a x y pos seq left 0 0).1.of_) (look := fun k => recM g a x y pos seq left k (recM g a x y pos seq left 0 0).1.of_) (fun i h1 h2 h3 => ?_) _ 1 _ [] _ (by omega) (by omega) e2 (by omega) rfl h0 (by simp) (by omega)
      rcases recM_facts (a := a) (x := x) (y := y) (seq := seq) (left := left) (of_ := (recM g a x y pos seq left 0 0).1.of_) (at_ := i) hg hp (by omega) with ⟨_, ⟨q1, _, q2⟩, _⟩ | ⟨q, _⟩
      · exact ⟨q1, q2⟩
      · omega
  · rw [if_pos (by omega)] at h
    simp only at h
    omega
end Go.Proofs.YteecmgonbdbhdaaGreatDoor.A
end

/-
A log whose every record some copy says is gone through to its end.
-/
section
namespace Go.Proofs.YteecmgonbdbhdaaGreatDoor.A
open Go.RowKit

end Go.Proofs.YteecmgonbdbhdaaGreatDoor.A
end

/-
What a written log says at a transaction's slots.
-/
section
namespace Go.Proofs.YteecmgonbdbhdaaGreatDoor.A
open Go.RowKit

end Go.Proofs.YteecmgonbdbhdaaGreatDoor.A
end

/-
What a written log says at each of its records' slots.
-/
section
namespace Go.Proofs.YteecmgonbdbhdaaGreatDoor.A
open Go.RowKit

end Go.Proofs.YteecmgonbdbhdaaGreatDoor.A
end

/-
A written log, with one copy of each slot at least, is found wholly.
-/
section
namespace Go.Proofs.YteecmgonbdbhdaaGreatDoor.A
open Go.RowKit

end Go.Proofs.YteecmgonbdbhdaaGreatDoor.A
end

/-
The beginning of a log.
-/
section
namespace Go.Proofs.YteecmgonbdbhdaaGreatDoor.A
open Go.RowKit

end Go.Proofs.YteecmgonbdbhdaaGreatDoor.A
end

/-
A written log gone through: what is found and what is to be written, whichever copies miss records.
-/
section
namespace Go.Proofs.YteecmgonbdbhdaaGreatDoor.A
open Go.RowKit

end Go.Proofs.YteecmgonbdbhdaaGreatDoor.A
end

/-
Where a written log's records lie; what lies behind it.
-/
section
namespace Go.Proofs.YteecmgonbdbhdaaGreatDoor.A
open Go.RowKit

section
variable {g : Geo} {a : An} {fill : UInt8} {sizes : List Int}
end
end Go.Proofs.YteecmgonbdbhdaaGreatDoor.A
end

/-
Records of an elder epoch beyond the last number: what a scan finds, in plain terms.
-/
section
namespace Go.Proofs.YteecmgonbdbhdaaGreatDoor.A
open Go.RowKit

section
variable {g : Geo} {a : An} {fill : UInt8} {sizes : List Int}
end
end Go.Proofs.YteecmgonbdbhdaaGreatDoor.A
end

/-
A transaction that was cut while it was written, in plain terms.
-/
section
namespace Go.Proofs.YteecmgonbdbhdaaGreatDoor.A
open Go.RowKit

theorem tmod_inj {p u v n : Int} (hp : 0 ≤ p ∧ p < n) (hu : 0 ≤ u ∧ u < n) (hv : 0 ≤ v ∧ v < n) (h : (p + u).tmod n = (p + v).tmod n) : u = v := by
  have h1 : (p + u).tmod n = if p + u < n then p + u else p + u - n := by
    split
    · exact tmod_lo (by omega) (by omega)
    · exact tmod_hi (by omega) (by omega) (by omega)
  have h2 : (p + v).tmod n = if p + v < n then p + v else p + v - n := by
    split
    · exact tmod_lo (by omega) (by omega)
    · exact tmod_hi (by omega) (by omega) (by omega)
  rw [h1, h2] at h
  split at h <;> split at h <;> omega
section
variable {g : Geo} {a : An} {fill : UInt8} {sizes : List Int}
end
end Go.Proofs.YteecmgonbdbhdaaGreatDoor.A
end

/-
A log that is mended says the same, and wants nothing: in plain terms.
-/
section
namespace Go.Proofs.YteecmgonbdbhdaaGreatDoor.A
open Go.RowKit

abbrev PQ := (Int → Option Rc) × (Int → Option Rc)
def upF (p : Int → Option Rc) (s : Int) (v : Option Rc) : Int → Option Rc := fun t => if t = s then v else p t
def mend1 (g : Geo) (x : Wr) (z : PQ) : PQ := if x.addr - g.an < g.sl then (upF z.1 (x.addr - g.an) (saysR g ⟨0, x.bytes⟩ 0 (x.addr - g.an)), z.2) else (z.1, upF z.2 (x.addr - g.an - g.sl) (saysR g ⟨0, x.bytes⟩ 1 (x.addr - g.an - g.sl)))
def mendF (g : Geo) : List Wr → PQ → PQ
  | [], z => z
  | x :: r, z => mendF g r (mend1 g x z)
def wrS (g : Geo) (x : Wr) : Int := if x.addr - g.an < g.sl then x.addr - g.an else x.addr - g.an - g.sl
theorem mendF_app (g : Geo) : ∀ (l m : List Wr) (z : PQ), mendF g (l ++ m) z = mendF g m (mendF g l z)
  | [], _, _ => rfl
  | x :: r, m, z => mendF_app g r m (mend1 g x z)
def AtS (z z' : PQ) (s : Int) : Prop := z.1 s = z'.1 s ∧ z.2 s = z'.2 s
theorem mend1_local {g : Geo} {x : Wr} {z z' : PQ} {s : Int} (h : AtS z z' s) : AtS (mend1 g x z) (mend1 g x z') s := by
  unfold mend1 upF
  split
  · refine ⟨?_, h.2⟩
    dsimp only
    split
    · rfl
    · exact h.1
  · refine ⟨h.1, ?_⟩
    dsimp only
    split
    · rfl
    · exact h.2
theorem mendF_local {g : Geo} : ∀ (l : List Wr) {z z' : PQ} {s : Int}, AtS z z' s → AtS (mendF g l z) (mendF g l z') s
  | [], _, _, _, h => h
  | _ :: r, _, _, _, h => mendF_local r (mend1_local h)
theorem mend1_far {g : Geo} {x : Wr} {z : PQ} {s : Int} (h : wrS g x ≠ s) : AtS (mend1 g x z) z s := by
  unfold wrS at h
  unfold mend1 upF
  split
  · rename_i hc
    rw [if_pos hc] at h
    exact ⟨if_neg (Ne.symm h), rfl⟩
  · rename_i hc
    rw [if_neg hc] at h
    exact ⟨rfl, if_neg (Ne.symm h)⟩
theorem AtS.trans {a b c : PQ} {s : Int} (h : AtS a b s) (k : AtS b c s) : AtS a c s := ⟨h.1.trans k.1, h.2.trans k.2⟩
theorem AtS.symm {a b : PQ} {s : Int} (h : AtS a b s) : AtS b a s := ⟨h.1.symm, h.2.symm⟩
theorem mendF_far {g : Geo} : ∀ (l : List Wr) {z : PQ} {s : Int}, (∀ x ∈ l, wrS g x ≠ s) → AtS (mendF g l z) z s
  | [], _, _, _ => ⟨rfl, rfl⟩
  | x :: r, z, s, h => (mendF_far r fun y hy => h y (List.mem_cons_of_mem _ hy)).trans (mend1_far (h x (by simp)))
theorem okL_of {g : Geo} {c s : Int} (hc : c = 0 ∨ c = 1) (hs : 0 ≤ s ∧ s < g.sl) : okL g c s = true := by
  rw [okL, inB_iff.2 (show 0 ≤ s ∧ s ≤ g.sl - 1 by omega)]
  rcases hc with rfl | rfl <;> rfl
theorem mend1_cell {g : Geo} {c s : Int} {r : Rc} {z : PQ} (hg : okG g = true) (hc : c = 0 ∨ c = 1) (hs : 0 ≤ s ∧ s < g.sl) (hr : okR g r = true) : mend1 g ⟨logAt g c s, cellB g r c s⟩ z = if c = 0 then (upF z.1 s (some r), z.2) else (z.1, upF z.2 s (some r)) := by
  have h := says_cell hg hr (okL_of hc hs)
  unfold mend1 logAt
  rcases hc with rfl | rfl
  · have e : g.an + 0 * g.sl + s - g.an = s := by omega
    dsimp only
    rw [e, if_pos hs.2, if_pos rfl, h]
  · have e : g.an + 1 * g.sl + s - g.an = s + g.sl := by omega
    dsimp only
    rw [e, if_neg (by omega), if_neg (by decide), show s + g.sl - g.sl = s by omega, h]
theorem wrS_cell {g : Geo} {c s : Int} {b : List UInt8} (hc : c = 0 ∨ c = 1) (hs : 0 ≤ s ∧ s < g.sl) : wrS g ⟨logAt g c s, b⟩ = s := by
  unfold wrS logAt
  rcases hc with rfl | rfl
  · dsimp only
    rw [if_pos (by omega)]; omega
  · dsimp only
    rw [if_neg (by omega)]; omega
/-- A record that was found is found again where it was mended, and nothing is wanted. -/
theorem rec_mend {g : Geo} {a : An} {p q : Int → Option Rc} {z' : PQ} {pos seq left at_ of_ : Int} (hg : okG g = true) (hok : ∀ s r, p s = some r ∨ q s = some r → okR g r = true) (hs : 0 ≤ slotM g pos at_ ∧ slotM g pos at_ < g.sl) (h : (recP g a p q pos seq left at_ of_).2.1 = 1) (hz : AtS z' (mendF g (recP g a p q pos seq left at_ of_).2.2 (p, q)) (slotM g pos at_)) : recP g a z'.1 z'.2 pos seq left at_ of_ = ((recP g a p q pos seq left at_ of_).1, 1, []) := by
  unfold recP lookP at h hz ⊢
  dsimp only at h hz ⊢
  generalize slotM g pos at_ = s at h hz hs ⊢
  cases hp : p s with
  | none =>
    cases hq : q s with
    | none => rw [hp, hq] at h; simp [oneO, lookT] at h
    | some r =>
      rw [hp, hq] at h hz
      have ho : isOne r a seq at_ of_ left = true := by
        cases hb : isOne r a seq at_ of_ left with
        | true => rfl
        | false => simp [oneO, hb, lookT] at h
      simp [oneO, ho, lookT, mendF] at hz
      rw [mend1_cell hg (.inl rfl) hs (hok s r (.inr hq)), if_pos rfl] at hz
      obtain ⟨h1, h2⟩ := hz
      dsimp only [upF] at h1 h2
      rw [if_pos rfl] at h1
      rw [h1, h2, hq]
      simp [oneO, ho, lookT]
  | some r1 =>
    cases hq : q s with
    | none =>
      rw [hp, hq] at h hz
      have ho : isOne r1 a seq at_ of_ left = true := by
        cases hb : isOne r1 a seq at_ of_ left with
        | true => rfl
        | false => simp [oneO, hb, lookT] at h
      simp [oneO, ho, lookT, mendF] at hz
      rw [mend1_cell hg (.inr rfl) hs (hok s r1 (.inl hp)), if_neg (by decide)] at hz
      obtain ⟨h1, h2⟩ := hz
      dsimp only [upF] at h1 h2
      rw [if_pos rfl] at h2
      rw [h1, h2, hp]
      simp [oneO, ho, lookT]
    | some r2 =>
      rw [hp, hq] at h hz
      cases ho1 : isOne r1 a seq at_ of_ left with
      | true =>
        cases ho2 : isOne r2 a seq at_ of_ left with
        | true =>
          simp [oneO, ho1, ho2, lookT, mendF] at hz
          obtain ⟨h1, h2⟩ := hz
          dsimp only at h1 h2
          rw [h1, h2, hp, hq]
          simp [oneO, ho1, ho2, lookT]
        | false =>
          simp [oneO, ho1, ho2, lookT, mendF] at hz
          rw [mend1_cell hg (.inr rfl) hs (hok s r1 (.inl hp)), if_neg (by decide)] at hz
          obtain ⟨h1, h2⟩ := hz
          dsimp only [upF] at h1 h2
          rw [if_pos rfl] at h2
          rw [h1, h2, hp]
          simp [oneO, ho1, ho2, lookT]
      | false =>
        cases ho2 : isOne r2 a seq at_ of_ left with
        | true =>
          simp [oneO, ho1, ho2, lookT, mendF] at hz
          rw [mend1_cell hg (.inl rfl) hs (hok s r2 (.inr hq)), if_pos rfl] at hz
          obtain ⟨h1, h2⟩ := hz
          dsimp only [upF] at h1 h2
          rw [if_pos rfl] at h1
          rw [h1, h2, hq]
          simp [oneO, ho1, ho2, lookT]
        | false => simp [oneO, ho1, ho2, lookT] at h
theorem recP_found {g : Geo} {a : An} {p q : Int → Option Rc} {pos seq left at_ of_ : Int} (hok : ∀ s r, p s = some r ∨ q s = some r → okR g r = true) (h : (recP g a p q pos seq left at_ of_).2.1 = 1) : okR g (recP g a p q pos seq left at_ of_).1 = true ∧ isOne (recP g a p q pos seq left at_ of_).1 a seq at_ of_ left = true := by
  unfold recP lookP at h ⊢
  dsimp only at h ⊢
  generalize slotM g pos at_ = s at h ⊢
  cases hp : p s with
  | none =>
    cases hq : q s with
    | none => rw [hp, hq] at h; simp [oneO, lookT] at h
    | some r =>
      rw [hp, hq] at h
      cases hb : isOne r a seq at_ of_ left with
      | true => simp [oneO, hb, lookT, hok s r (.inr hq)]
      | false => simp [oneO, hb, lookT] at h
  | some r1 =>
    cases hq : q s with
    | none =>
      rw [hp, hq] at h
      cases hb : isOne r1 a seq at_ of_ left with
      | true => simp [oneO, hb, lookT, hok s r1 (.inl hp)]
      | false => simp [oneO, hb, lookT] at h
    | some r2 =>
      rw [hp, hq] at h
      cases ho1 : isOne r1 a seq at_ of_ left with
      | true => cases ho2 : isOne r2 a seq at_ of_ left <;> simp [oneO, ho1, ho2, lookT, hok s r1 (.inl hp)]
      | false =>
        cases ho2 : isOne r2 a seq at_ of_ left with
        | true => simp [oneO, ho1, ho2, lookT, hok s r2 (.inr hq)]
        | false => simp [oneO, ho1, ho2, lookT] at h
theorem lookT_01 (x y : Option Rc) (b1 b2 : Bool) : ∀ c ∈ (lookT x y b1 b2).2.1, c = 0 ∨ c = 1 := by
  unfold lookT
  cases b1 <;> cases b2
  · by_cases h : (x.isSome || y.isSome) = true <;> simp [h]
  · simp
  · simp
  · simp
theorem recP_wr {g : Geo} {a : An} {p q : Int → Option Rc} {pos seq left at_ of_ : Int} (hs : 0 ≤ slotM g pos at_ ∧ slotM g pos at_ < g.sl) : ∀ x ∈ (recP g a p q pos seq left at_ of_).2.2, wrS g x = slotM g pos at_ := by
  intro x hx
  unfold recP at hx
  obtain ⟨c, hc, rfl⟩ := List.mem_map.1 hx
  exact wrS_cell (lookT_01 _ _ _ _ c hc) hs
theorem lookT_none (x y : Option Rc) (b1 b2 : Bool) (h : (lookT x y b1 b2).2.2 ≠ 1) : (lookT x y b1 b2).2.1 = [] := by
  unfold lookT at h ⊢
  cases b1 <;> cases b2
  · by_cases h : (x.isSome || y.isSome) = true <;> simp [h]
  · simp at h
  · simp at h
  · simp at h
theorem recP_short {g : Geo} {a : An} {p q : Int → Option Rc} {pos seq left at_ of_ : Int} (hok : ∀ s r, p s = some r ∨ q s = some r → okR g r = true) : ∀ x ∈ (recP g a p q pos seq left at_ of_).2.2, x.bytes.length ≤ 100000 := by
  intro x hx
  by_cases h : (recP g a p q pos seq left at_ of_).2.1 = 1
  · have hr := (recP_found hok h).1
    unfold recP at hx hr
    obtain ⟨c, hc, rfl⟩ := List.mem_map.1 hx
    exact cellB_short hr _ _
  · unfold recP lookP at hx h
    dsimp only at hx h
    rw [lookT_none _ _ _ _ h] at hx
    simp at hx
theorem slotM_off {g : Geo} {p0 U k : Int} (hg : okG g = true) (hp : 0 ≤ p0 ∧ p0 < g.sl) (hU : 0 ≤ U) (hk : 0 ≤ k ∧ k ≤ 1000) : slotM g ((p0 + U).tmod g.sl) k = (p0 + (U + k)).tmod g.sl := by
  obtain ⟨h1, h2, h3, h4, h5⟩ := okG_iff.1 hg
  unfold slotM
  have q1 := Int.tmod_nonneg g.sl (show 0 ≤ p0 + U by omega)
  have q2 := Int.tmod_lt_of_pos (p0 + U) (show 0 < g.sl by omega)
  rw [show IntKind.i64.wrap ((p0 + U).tmod g.sl + k) = (p0 + U).tmod g.sl + k by rw [IntKind.wrap_i64]; omega]
  rw [Int.tmod_eq_emod_of_nonneg (show 0 ≤ p0 + U by omega)] at q1 ⊢
  rw [Int.tmod_eq_emod_of_nonneg (by omega), Int.tmod_eq_emod_of_nonneg (by omega), Int.emod_add_emod, Int.add_assoc]
theorem gather_step {look : Int → Rc × Int × List Wr} {f : Nat} {k : Int} {r : Rc} {im : List Img} {w : List Wr} (h : (look k).2.1 = 1) : gatherM look (f + 1) k r im w = gatherM look f (k + 1) (look k).1 (if r.kind = 1 then im ++ [r.img] else im) (w ++ (look k).2.2) := by
  conv => lhs; unfold gatherM
  dsimp only
  rw [if_neg (not_not_intro h)]
theorem gather_stop {look : Int → Rc × Int × List Wr} {f : Nat} {k : Int} {r : Rc} {im : List Img} {w : List Wr} (h : (look k).2.1 ≠ 1) : gatherM look (f + 1) k r im w = ((look k).2.1, [], []) := by
  conv => lhs; unfold gatherM
  dsimp only
  rw [if_pos h]
theorem txnP_step {g : Geo} {a : An} {p q : Int → Option Rc} {pos seq left : Int} (h : (recP g a p q pos seq left 0 0).2.1 = 1) : txnP g a p q pos seq left = (let t := gatherM (fun k => recP g a p q pos seq left k (recP g a p q pos seq left 0 0).1.of_) ((recP g a p q pos seq left 0 0).1.of_ - 1).toNat 1 (recP g a p q pos seq left 0 0).1 [] (recP g a p q pos seq left 0 0).2.2
    if t.1 ≠ 1 then (t.1, 0, [], []) else (1, (recP g a p q pos seq left 0 0).1.of_, t.2.1, t.2.2)) := by
  conv => lhs; unfold txnP
  dsimp only
  rw [if_neg (not_not_intro h)]
theorem txnP_stop {g : Geo} {a : An} {p q : Int → Option Rc} {pos seq left : Int} (h : (recP g a p q pos seq left 0 0).2.1 ≠ 1) : txnP g a p q pos seq left = ((recP g a p q pos seq left 0 0).2.1, 0, [], []) := by
  conv => lhs; unfold txnP
  dsimp only
  rw [if_pos h]
theorem gather_mend {look look' : Int → Rc × Int × List Wr} : ∀ (f : Nat) (k : Int) (r : Rc) (im : List Img) (w w0 : List Wr), (∀ i, k ≤ i → i < k + f → (look i).2.1 = 1 → look' i = ((look i).1, 1, [])) → (gatherM look f k r im w).1 = 1 →
    gatherM look' f k r im w0 = (1, (gatherM look f k r im w).2.1, w0) ∧ (gatherM look f k r im w).2.2 = w ++ (List.range f).flatMap (fun j => (look (k + (j : Nat))).2.2) ∧ ∀ i, k ≤ i → i < k + f → (look i).2.1 = 1
  | 0, k, r, im, w, w0, _, _ => ⟨rfl, by simp [gatherM], fun i h1 h2 => by omega⟩
  | f + 1, k, r, im, w, w0, hl, h => by
    by_cases hq : (look k).2.1 = 1
    · have e := hl k (by omega) (by omega) hq
      rw [gather_step hq] at h ⊢
      rw [gather_step (show (look' k).2.1 = 1 by rw [e]), e]
      dsimp only
      obtain ⟨i1, i2, i3⟩ := gather_mend f (k + 1) (look k).1 (if r.kind = 1 then im ++ [r.img] else im) (w ++ (look k).2.2) (w0 ++ []) (fun i h1 h2 => hl i (by omega) (by omega)) h
      refine ⟨?_, ?_, fun i h1 h2 => ?_⟩
      · rw [i1, List.append_nil]
      · rw [i2, List.range_succ_eq_map, List.flatMap_cons, List.flatMap_map, List.append_assoc]
        congr 1
        congr 1
        · rw [show k + ((0 : Nat) : Int) = k by omega]
        · congr 1
          funext j
          rw [show k + 1 + (j : Int) = k + ((j.succ : Nat) : Int) by omega]
      · by_cases ei : i = k
        · rw [ei]; exact hq
        · exact i3 i (by omega) (by omega)
    · rw [gather_stop hq] at h
      exact absurd h hq
theorem gather_congr {look look' : Int → Rc × Int × List Wr} : ∀ (f : Nat) (k : Int) (r : Rc) (im : List Img) (w : List Wr), (∀ i, k ≤ i → i < k + f → look' i = look i) → gatherM look' f k r im w = gatherM look f k r im w
  | 0, _, _, _, _, _ => rfl
  | f + 1, k, r, im, w, hl => by
    unfold gatherM
    dsimp only
    rw [hl k (by omega) (by omega), gather_congr f (k + 1) (look k).1 _ _ (fun i h1 h2 => hl i (by omega) (by omega))]
theorem mendF_one {g : Geo} {W : Nat → List Wr} {z : PQ} {s : Int} {k : Nat} : ∀ n, k < n → (∀ j, j < n → j ≠ k → ∀ x ∈ W j, wrS g x ≠ s) → AtS (mendF g ((List.range n).flatMap W) z) (mendF g (W k) z) s
  | 0, h, _ => by omega
  | n + 1, hk, h => by
    rw [List.range_succ, List.flatMap_append, mendF_app]
    simp only [List.flatMap_cons, List.flatMap_nil, List.append_nil]
    by_cases e : k = n
    · subst e
      refine mendF_local (W k) (mendF_far _ fun x hx => ?_)
      obtain ⟨j, hj, hx⟩ := List.mem_flatMap.1 hx
      have hj := List.mem_range.1 hj
      exact h j (by omega) (by omega) x hx
    · exact (mendF_far (W n) (h n (by omega) (Ne.symm e))).trans (mendF_one n (by omega) fun j hj hne => h j (by omega) hne)
def Agree (g : Geo) (p0 U : Int) (z z' : PQ) : Prop := ∀ u, U ≤ u → u < g.sl → AtS z z' ((p0 + u).tmod g.sl)
section
variable {g : Geo} {a : An} {p q : Int → Option Rc} {p0 : Int}
theorem rec_agree {z' : PQ} {pos seq left at_ of_ : Int} (h : AtS z' (p, q) (slotM g pos at_)) : recP g a z'.1 z'.2 pos seq left at_ of_ = recP g a p q pos seq left at_ of_ := by
  unfold recP lookP
  dsimp only
  rw [h.1, h.2]
theorem txn_agree {z' : PQ} {U seq left : Int} (hg : okG g = true) (hok : ∀ s r, p s = some r ∨ q s = some r → okR g r = true) (hp : 0 ≤ p0 ∧ p0 < g.sl) (hU : 0 ≤ U ∧ U + left = g.sl ∧ 0 < left) (h : Agree g p0 U z' (p, q)) : txnP g a z'.1 z'.2 ((p0 + U).tmod g.sl) seq left = txnP g a p q ((p0 + U).tmod g.sl) seq left := by
  obtain ⟨h1, h2, h3, h4, h5⟩ := okG_iff.1 hg
  have hr : ∀ (k of_ : Int), 0 ≤ k → U + k < g.sl → recP g a z'.1 z'.2 ((p0 + U).tmod g.sl) seq left k of_ = recP g a p q ((p0 + U).tmod g.sl) seq left k of_ := fun k of_ hk hk2 => rec_agree (by rw [slotM_off hg hp hU.1 (by omega)]; exact h _ (by omega) hk2)
  by_cases h0 : (recP g a p q ((p0 + U).tmod g.sl) seq left 0 0).2.1 = 1
  · rw [txnP_step h0, txnP_step (by rw [hr 0 0 (by omega) (by omega)]; exact h0), hr 0 0 (by omega) (by omega)]
    obtain ⟨f1, f2⟩ := recP_found hok h0
    have hN := one_of f1 f2
    have hlft := hN.2.2.2.2.1 rfl
    rw [gather_congr (look := fun k => recP g a p q ((p0 + U).tmod g.sl) seq left k (recP g a p q ((p0 + U).tmod g.sl) seq left 0 0).1.of_) _ _ _ _ _ (fun i h1 h2 => hr i _ (by omega) (by omega))]
  · rw [txnP_stop h0, txnP_stop (by rw [hr 0 0 (by omega) (by omega)]; exact h0), hr 0 0 (by omega) (by omega)]
theorem txn_mend {U seq left : Int} (hg : okG g = true) (hok : ∀ s r, p s = some r ∨ q s = some r → okR g r = true) (hp : 0 ≤ p0 ∧ p0 < g.sl) (hU : 0 ≤ U ∧ U + left = g.sl) (h : (txnP g a p q ((p0 + U).tmod g.sl) seq left).1 = 1) :
    (2 ≤ (txnP g a p q ((p0 + U).tmod g.sl) seq left).2.1 ∧ (txnP g a p q ((p0 + U).tmod g.sl) seq left).2.1 ≤ left) ∧
    (∀ x ∈ (txnP g a p q ((p0 + U).tmod g.sl) seq left).2.2.2, ∃ u, (U ≤ u ∧ u < U + (txnP g a p q ((p0 + U).tmod g.sl) seq left).2.1) ∧ wrS g x = (p0 + u).tmod g.sl ∧ x.bytes.length ≤ 100000) ∧
    ∀ z' : PQ, (∀ u, U ≤ u → u < U + (txnP g a p q ((p0 + U).tmod g.sl) seq left).2.1 → AtS z' (mendF g (txnP g a p q ((p0 + U).tmod g.sl) seq left).2.2.2 (p, q)) ((p0 + u).tmod g.sl)) →
      txnP g a z'.1 z'.2 ((p0 + U).tmod g.sl) seq left = (1, (txnP g a p q ((p0 + U).tmod g.sl) seq left).2.1, (txnP g a p q ((p0 + U).tmod g.sl) seq left).2.2.1, []) := by
  obtain ⟨h1, h2, h3, h4, h5⟩ := okG_iff.1 hg
  by_cases h0 : (recP g a p q ((p0 + U).tmod g.sl) seq left 0 0).2.1 = 1
  · obtain ⟨f1, f2⟩ := recP_found hok h0
    have hN := one_of f1 f2
    have hlft := hN.2.2.2.2.1 rfl
    obtain ⟨of_, hof⟩ : ∃ n : Nat, (recP g a p q ((p0 + U).tmod g.sl) seq left 0 0).1.of_ = (n : Int) + 1 := ⟨((recP g a p q ((p0 + U).tmod g.sl) seq left 0 0).1.of_ - 1).toNat, by omega⟩
    have et : ((of_ : Int) + 1 - 1).toNat = of_ := by omega
    have hsl : ∀ k : Int, 0 ≤ k → k ≤ of_ → slotM g ((p0 + U).tmod g.sl) k = (p0 + (U + k)).tmod g.sl ∧ 0 ≤ slotM g ((p0 + U).tmod g.sl) k ∧ slotM g ((p0 + U).tmod g.sl) k < g.sl := fun k hk hk2 => by
      have e := slotM_off hg hp hU.1 (k := k) (by omega)
      rw [e]
      exact ⟨rfl, Int.tmod_nonneg g.sl (by omega), Int.tmod_lt_of_pos _ (by omega)⟩
    rw [txnP_step h0, hof, et] at h ⊢
    dsimp only at h ⊢
    by_cases hG : (gatherM (fun k => recP g a p q ((p0 + U).tmod g.sl) seq left k ((of_ : Int) + 1)) of_ 1 (recP g a p q ((p0 + U).tmod g.sl) seq left 0 0).1 [] (recP g a p q ((p0 + U).tmod g.sl) seq left 0 0).2.2).1 = 1
    · rw [if_neg (not_not_intro hG)]
      dsimp only
      obtain ⟨-, g2, g3⟩ := gather_mend (look' := fun i => ((recP g a p q ((p0 + U).tmod g.sl) seq left i ((of_ : Int) + 1)).1, 1, [])) of_ 1 (recP g a p q ((p0 + U).tmod g.sl) seq left 0 0).1 [] (recP g a p q ((p0 + U).tmod g.sl) seq left 0 0).2.2 [] (fun i _ _ _ => rfl) hG
      -- what is to be written, record by record
      have eW : (gatherM (fun k => recP g a p q ((p0 + U).tmod g.sl) seq left k ((of_ : Int) + 1)) of_ 1 (recP g a p q ((p0 + U).tmod g.sl) seq left 0 0).1 [] (recP g a p q ((p0 + U).tmod g.sl) seq left 0 0).2.2).2.2 = (List.range (of_ + 1)).flatMap fun j => (recP g a p q ((p0 + U).tmod g.sl) seq left (j : Nat) (if j = 0 then 0 else (of_ : Int) + 1)).2.2 := by
        rw [g2, List.range_succ_eq_map, List.flatMap_cons, List.flatMap_map]
        congr 1
        congr 1
        funext j
        rw [if_neg (Nat.succ_ne_zero j), show 1 + (j : Int) = ((j.succ : Nat) : Int) by omega]
      have hwr : ∀ j : Nat, j < of_ + 1 → ∀ x ∈ (recP g a p q ((p0 + U).tmod g.sl) seq left (j : Nat) (if j = 0 then 0 else (of_ : Int) + 1)).2.2, wrS g x = (p0 + (U + j)).tmod g.sl := fun j hj x hx => by
        obtain ⟨e1, e2⟩ := hsl j (by omega) (by omega)
        rw [recP_wr e2 x hx, e1]
      refine ⟨⟨by omega, by omega⟩, fun x hx => ?_, fun z' hz => ?_⟩
      · rw [eW] at hx
        obtain ⟨j, hj, hx⟩ := List.mem_flatMap.1 hx
        have hj := List.mem_range.1 hj
        exact ⟨U + j, by omega, hwr j hj x hx, recP_short hok x hx⟩
      · rw [eW] at hz
        have hrec : ∀ k : Nat, k < of_ + 1 → (recP g a p q ((p0 + U).tmod g.sl) seq left (k : Nat) (if k = 0 then 0 else (of_ : Int) + 1)).2.1 = 1 → recP g a z'.1 z'.2 ((p0 + U).tmod g.sl) seq left (k : Nat) (if k = 0 then 0 else (of_ : Int) + 1) = ((recP g a p q ((p0 + U).tmod g.sl) seq left (k : Nat) (if k = 0 then 0 else (of_ : Int) + 1)).1, 1, []) := fun k hk hf => by
          obtain ⟨e1, e2⟩ := hsl k (by omega) (by omega)
          refine rec_mend hg hok e2 hf ?_
          rw [e1]
          refine (hz (U + k) (by omega) (by omega)).trans ?_
          refine mendF_one (W := fun j => (recP g a p q ((p0 + U).tmod g.sl) seq left (j : Nat) (if j = 0 then 0 else (of_ : Int) + 1)).2.2) (k := k) _ hk fun j hj hne x hx e => ?_
          rw [hwr j hj x hx] at e
          have := tmod_inj hp (by omega) (by omega) e
          omega
        have r0 := hrec 0 (by omega) h0
        rw [if_pos rfl] at r0
        have r0' : recP g a z'.1 z'.2 ((p0 + U).tmod g.sl) seq left 0 0 = ((recP g a p q ((p0 + U).tmod g.sl) seq left 0 0).1, 1, []) := r0
        rw [txnP_step (by rw [r0']), r0']
        dsimp only
        rw [hof, et]
        obtain ⟨g4, -, -⟩ := gather_mend (look := fun k => recP g a p q ((p0 + U).tmod g.sl) seq left k ((of_ : Int) + 1)) (look' := fun k => recP g a z'.1 z'.2 ((p0 + U).tmod g.sl) seq left k ((of_ : Int) + 1)) of_ 1 (recP g a p q ((p0 + U).tmod g.sl) seq left 0 0).1 [] (recP g a p q ((p0 + U).tmod g.sl) seq left 0 0).2.2 [] (fun i i1 i2 hf => by
          obtain ⟨k, rfl⟩ := Int.eq_ofNat_of_zero_le (show 0 ≤ i by omega)
          have := hrec k (by omega)
          rw [if_neg (by omega)] at this
          exact this hf) hG
        rw [g4]
        dsimp only
        rw [if_neg (fun h => h rfl)]
    · rw [if_pos hG] at h
      exact absurd h hG
  · rw [txnP_stop h0] at h
    exact absurd h h0
/-- With all that is wanted written a log says the same, and nothing is wanted. -/
theorem scan_mend (hg : okG g = true) (hok : ∀ s r, p s = some r ∨ q s = some r → okR g r = true) (hp : 0 ≤ p0 ∧ p0 < g.sl) : ∀ (f : Nat) (U seq left : Int) (l : List Tx) (w : List Wr) {l' : List Tx} {w' : List Wr} {seq' : Int}, 0 ≤ U → U + left = g.sl → scanLP g a p q f ((p0 + U).tmod g.sl) seq left l w = some (l', w', seq') →
    ∃ wr, w' = w ++ wr ∧ (∀ x ∈ wr, ∃ u, (U ≤ u ∧ u < g.sl) ∧ wrS g x = (p0 + u).tmod g.sl ∧ x.bytes.length ≤ 100000) ∧ ∀ z' : PQ, Agree g p0 U z' (mendF g wr (p, q)) → ∀ w0, scanLP g a z'.1 z'.2 f ((p0 + U).tmod g.sl) seq left l w0 = some (l', w0, seq')
  | 0, U, seq, left, l, w, l', w', seq', _, _, h => by
    unfold scanLP at h
    injection h with h
    injection h with e1 h
    injection h with e2 e3
    subst e1 e2 e3
    exact ⟨[], by simp, by simp, fun _ _ _ => rfl⟩
  | f + 1, U, seq, left, l, w, l', w', seq', hU, hl, h => by
    obtain ⟨h1, h2, h3, h4, h5⟩ := okG_iff.1 hg
    unfold scanLP at h
    by_cases hc : 0 < left ∧ seq ≤ 4294967295
    · rw [if_pos hc] at h
      dsimp only at h
      by_cases t3 : (txnP g a p q ((p0 + U).tmod g.sl) seq left).1 = 3
      · rw [if_pos t3] at h
        cases h
      · rw [if_neg t3] at h
        by_cases t1 : (txnP g a p q ((p0 + U).tmod g.sl) seq left).1 = 1
        · rw [if_neg (fun h => h t1)] at h
          obtain ⟨⟨n1, n2⟩, n3, n4⟩ := txn_mend hg hok hp ⟨hU, hl⟩ t1
          generalize txnP g a p q ((p0 + U).tmod g.sl) seq left = T at h n1 n2 n3 n4
          obtain ⟨how, n, im, tw⟩ := T
          dsimp only at h n1 n2 n3 n4
          have ep : ((p0 + U).tmod g.sl + n).tmod g.sl = (p0 + (U + n)).tmod g.sl := by
            rw [Int.tmod_eq_emod_of_nonneg (show 0 ≤ p0 + U by omega)]
            have q1 := Int.emod_nonneg (p0 + U) (show g.sl ≠ 0 by omega)
            rw [Int.tmod_eq_emod_of_nonneg (by omega), Int.tmod_eq_emod_of_nonneg (by omega), Int.emod_add_emod, Int.add_assoc]
          rw [ep] at h
          obtain ⟨wr, i1, i2, i3⟩ := scan_mend hg hok hp f (U + n) (seq + 1) (left - n) _ _ (by omega) (by omega) h
          refine ⟨tw ++ wr, by rw [i1, List.append_assoc], fun x hx => ?_, fun z' hz w0 => ?_⟩
          · rcases List.mem_append.1 hx with hx | hx
            · obtain ⟨u, u1, u2⟩ := n3 x hx
              exact ⟨u, by omega, u2⟩
            · obtain ⟨u, u1, u2⟩ := i2 x hx
              exact ⟨u, by omega, u2⟩
          · unfold Agree at hz
            have ht := n4 z' fun u u1 u2 => by
              have := hz u u1 (by omega)
              rw [mendF_app] at this
              refine this.trans (mendF_far wr fun x hx e => ?_)
              obtain ⟨v, v1, v2, -⟩ := i2 x hx
              rw [v2] at e
              have := tmod_inj hp (by omega) (by omega) e
              omega
            unfold scanLP
            rw [if_pos hc, ht]
            dsimp only
            rw [if_neg (by decide), if_neg (fun h => h rfl), ep]
            have := i3 z' (fun u u1 u2 => by
              have := hz u (by omega) u2
              rw [mendF_app] at this
              refine this.trans (mendF_local wr (mendF_far tw fun x hx e => ?_))
              obtain ⟨v, v1, v2, -⟩ := n3 x hx
              rw [v2] at e
              have := tmod_inj hp (by omega) (by omega) e
              omega) (w0 ++ [])
            rw [this, List.append_nil]
        · rw [if_pos t1] at h
          injection h with h
          injection h with e1 h
          injection h with e2 e3
          subst e1 e2 e3
          refine ⟨[], by simp, by simp, fun z' hz w0 => ?_⟩
          have ht := txn_agree (a := a) (seq := seq) hg hok hp ⟨hU, hl, hc.1⟩ hz
          unfold scanLP
          rw [if_pos hc, ht]
          dsimp only
          rw [if_neg t3, if_pos t1]
    · rw [if_neg hc] at h
      injection h with h
      injection h with e1 h
      injection h with e2 e3
      subst e1 e2 e3
      refine ⟨[], by simp, by simp, fun z' hz w0 => ?_⟩
      unfold scanLP
      rw [if_neg hc]
end
end Go.Proofs.YteecmgonbdbhdaaGreatDoor.A
end

/-
Package casematekeep: an anchor copied.
-/
section
namespace Go.Proofs.YteecmgonbdbhdaaGreatDoor.A
open Go.RowKit

end Go.Proofs.YteecmgonbdbhdaaGreatDoor.A
end

/-
What the laws of scan have in common.
-/
section
namespace Go.Proofs.YteecmgonbdbhdaaGreatDoor.A
open Go.RowKit

theorem scanA_P {g : Geo} {b : An} {x y : List Gt} {p q : Int → Option Rc} {r : List Tx × List Wr × Int} (hg : okG g = true) (hb : anOk g b = true) (hx : (x.length : Int) = g.sl) (hy : (y.length : Int) = g.sl) (hp : saysF g x 0 = p) (hq : saysF g y 1 = q) (h : scanP g b p q = r) : scanA g b x y = r := by
  unfold scanA
  rw [if_pos (by rw [hg, hb]; rfl), if_pos ⟨hx, hy⟩, scanM_P, hp, hq, h]
end Go.Proofs.YteecmgonbdbhdaaGreatDoor.A
end

/-
A log that is mended: the lists.
-/
section
namespace Go.Proofs.YteecmgonbdbhdaaGreatDoor.A
open Go.RowKit

def mendL1 (g : Geo) (x : Wr) (z : List Gt × List Gt) : List Gt × List Gt := if x.addr - g.an < g.sl then (z.1.set (x.addr - g.an).toNat ⟨0, x.bytes⟩, z.2) else (z.1, z.2.set (x.addr - g.an - g.sl).toNat ⟨0, x.bytes⟩)
def mendL (g : Geo) (w : List Wr) (z : List Gt × List Gt) : Nat → List Gt × List Gt
  | 0 => z
  | k + 1 => mendL1 g (w.getD k ⟨0, []⟩) (mendL g w z k)
theorem mendL_len {g : Geo} {w : List Wr} {z : List Gt × List Gt} : ∀ k, (mendL g w z k).1.length = z.1.length ∧ (mendL g w z k).2.length = z.2.length
  | 0 => ⟨rfl, rfl⟩
  | k + 1 => by
    obtain ⟨h1, h2⟩ := mendL_len (g := g) (w := w) (z := z) k
    unfold mendL mendL1
    split
    · exact ⟨by rw [List.length_set, h1], h2⟩
    · exact ⟨h1, by rw [List.length_set, h2]⟩
theorem saysF_up {g : Geo} {x : List Gt} {copy : Int} {k : Nat} {b : List UInt8} (hk : k < x.length) : saysF g (x.set k ⟨0, b⟩) copy = upF (saysF g x copy) (k : Nat) (saysR g ⟨0, b⟩ copy (k : Nat)) := by
  funext s
  unfold saysF upF
  by_cases e : s = (k : Nat)
  · subst e
    rw [if_pos rfl, Int.toNat_natCast, List.getD_eq_getElem?_getD, List.getElem?_set_self hk]
    rfl
  · rw [if_neg e]
    by_cases hs : 0 ≤ s ∧ s < g.sl
    · obtain ⟨i, rfl⟩ := Int.eq_ofNat_of_zero_le hs.1
      rw [Int.toNat_natCast, List.getD_eq_getElem?_getD, List.getElem?_set_ne (by omega), ← List.getD_eq_getElem?_getD]
      rfl
    · rw [saysR_out hs]
      exact (saysR_out hs).symm
/-- An address of a slot of the log. -/
def wIn (g : Geo) (x : Wr) : Prop := 0 ≤ x.addr - g.an ∧ x.addr - g.an < 2 * g.sl
theorem mend_says {g : Geo} {w : List Wr} {z : List Gt × List Gt} (h1 : (z.1.length : Int) = g.sl) (h2 : (z.2.length : Int) = g.sl) : ∀ k, k ≤ w.length → (∀ x ∈ w, wIn g x) → (saysF g (mendL g w z k).1 0, saysF g (mendL g w z k).2 1) = mendF g (w.take k) (saysF g z.1 0, saysF g z.2 1)
  | 0, _, _ => rfl
  | k + 1, hk, hw => by
    have ih := mend_says h1 h2 k (by omega) hw
    have hx := hw _ (getD_mem (d := ⟨0, []⟩) (show k < w.length by omega))
    obtain ⟨l1, l2⟩ := mendL_len (g := g) (w := w) (z := z) k
    rw [List.take_succ_eq_append_getElem (by omega), mendF_app, ← ih]
    rw [show w[k] = w.getD k ⟨0, []⟩ by rw [List.getD_eq_getElem?_getD, List.getElem?_eq_getElem (by omega)]; rfl]
    simp only [mendF, mend1, mendL, mendL1]
    generalize w.getD k ⟨0, []⟩ = x at hx
    unfold wIn at hx
    by_cases hc : x.addr - g.an < g.sl
    · rw [if_pos hc, if_pos hc]
      dsimp only
      rw [saysF_up (by omega), Int.toNat_of_nonneg hx.1]
    · rw [if_neg hc, if_neg hc]
      dsimp only
      rw [saysF_up (by omega), Int.toNat_of_nonneg (show 0 ≤ x.addr - g.an - g.sl by omega)]
theorem saysF_ok {g : Geo} {x y : List Gt} : ∀ s r, saysF g x 0 s = some r ∨ saysF g y 1 s = some r → okR g r = true := by
  rintro s r (h | h)
  · exact (saysR_ok h).1
  · exact (saysR_ok h).1
/-- With all that is wanted written a log says the same. -/
theorem scanA_mend {g : Geo} {a : An} {x y : List Gt} {l : List Tx} {w : List Wr} (h : scanA g a x y = (l, w, 0)) : (okG g = true ∧ anOk g a = true) ∧ ((x.length : Int) = g.sl ∧ (y.length : Int) = g.sl) ∧ (∀ z ∈ w, wIn g z ∧ z.bytes.length ≤ 100000) ∧ scanA g a (mendL g w (x, y) w.length).1 (mendL g w (x, y) w.length).2 = (l, [], 0) := by
  unfold scanA at h
  by_cases hA : (okG g && anOk g a) = true
  · rw [if_pos hA] at h
    obtain ⟨hg, ha⟩ := Bool.and_eq_true_iff.1 hA
    obtain ⟨h1, h2, h3, h4, h5⟩ := okG_iff.1 hg
    have hq := anOk_seq ha
    by_cases hx : (x.length : Int) = g.sl ∧ (y.length : Int) = g.sl
    · rw [if_pos hx, scanM_P] at h
      unfold scanP at h
      cases hR : scanLP g a (saysF g x 0) (saysF g y 1) g.sl.toNat a.pos a.seq g.sl [] [] with
      | none => rw [hR] at h; simp [finM, damaged] at h
      | some R =>
        obtain ⟨l', w', seq'⟩ := R
        rw [hR] at h
        by_cases hl : seq' - 1 < a.last
        · rw [finM_pos hl] at h
          simp [damaged] at h
        · rw [finM_neg hl] at h
          injection h with e1 h
          injection h with e2 _
          subst e1 e2
          have e0 : (a.pos + 0).tmod g.sl = a.pos := by rw [Int.add_zero]; exact tmod_lo hq.2.1 hq.2.2
          rw [← e0] at hR
          obtain ⟨wr, w1, w2, w3⟩ := scan_mend hg (saysF_ok (g := g) (x := x) (y := y)) hq.2 g.sl.toNat 0 a.seq g.sl [] [] (Int.le_refl 0) (by omega) hR
          rw [List.nil_append] at w1
          subst w1
          have hin : ∀ z ∈ w', wIn g z ∧ z.bytes.length ≤ 100000 := fun z hz => by
            obtain ⟨u, u1, u2, u3⟩ := w2 z hz
            refine ⟨?_, u3⟩
            have q1 := Int.tmod_nonneg g.sl (show 0 ≤ a.pos + u by omega)
            have q2 := Int.tmod_lt_of_pos (a.pos + u) (show 0 < g.sl by omega)
            rw [← u2] at q1 q2
            unfold wrS at q1 q2
            unfold wIn
            split at q1 <;> omega
          refine ⟨⟨hg, ha⟩, hx, hin, ?_⟩
          obtain ⟨l1, l2⟩ := mendL_len (g := g) (w := w') (z := (x, y)) w'.length
          have hm := mend_says (g := g) (w := w') (z := (x, y)) hx.1 hx.2 w'.length (Nat.le_refl _) fun z hz => (hin z hz).1
          rw [List.take_length] at hm
          have hm1 := congrArg Prod.fst hm
          have hm2 := congrArg Prod.snd hm
          refine scanA_P hg ha (by rw [l1]; exact hx.1) (by rw [l2]; exact hx.2) hm1 hm2 ?_
          unfold scanP
          have := w3 (mendF g w' (saysF g x 0, saysF g y 1)) (fun u _ _ => ⟨rfl, rfl⟩) []
          rw [e0] at this
          rw [this, finM_neg hl]
    · rw [if_neg hx] at h
      injection h with _ h
      injection h with _ h
      cases h
  · rw [if_neg hA] at h
    injection h with _ h
    injection h with _ h
    cases h
theorem scanL_wlen {g : Geo} {a : An} {x y : List Gt} (hg : okG g = true) : ∀ (f : Nat) (pos seq left : Int) (l : List Tx) (w : List Wr) {l' : List Tx} {w' : List Wr} {seq' : Int}, (0 ≤ pos ∧ pos < g.sl) → scanL g a x y f pos seq left l w = some (l', w', seq') → w'.length ≤ w.length + 30 * f
  | 0, pos, seq, left, l, w, l', w', seq', _, h => by
    unfold scanL at h
    injection h with h
    injection h with e1 h
    injection h with e2 e3
    subst e2
    omega
  | f + 1, pos, seq, left, l, w, l', w', seq', hp, h => by
    unfold scanL at h
    have fin : some (l, w, seq) = some (l', w', seq') → w'.length ≤ w.length + 30 * (f + 1) := fun h => by
      injection h with h
      injection h with e1 h
      injection h with e2 e3
      subst e2
      omega
    by_cases hc : 0 < left ∧ seq ≤ 4294967295
    · rw [if_pos hc] at h
      dsimp only at h
      have tf := txnM_facts (a := a) (x := x) (y := y) (seq := seq) (left := left) hg hp
      generalize txnM g a x y pos seq left = T at tf h
      obtain ⟨how, n, im, ws⟩ := T
      dsimp only at tf h
      rcases tf with ⟨rfl, t1, t2⟩ | tf
      · rw [if_neg (by decide), if_neg (by decide)] at h
        obtain ⟨h1, h2, h3, h4, h5⟩ := okG_iff.1 hg
        have hm := Int.tmod_lt_of_pos (pos + n) (show 0 < g.sl by omega)
        have hm0 := Int.tmod_nonneg g.sl (show 0 ≤ pos + n by omega)
        have := scanL_wlen hg f _ _ _ _ _ ⟨hm0, hm⟩ h
        rw [List.length_append] at this
        omega
      · by_cases e3 : how = 3
        · rw [if_pos e3] at h
          cases h
        · rw [if_neg e3, if_pos (by omega)] at h
          exact fin h
    · rw [if_neg hc] at h
      exact fin h
theorem gather_short {look : Int → Rc × Int × List Wr} : ∀ (f : Nat) (k : Int) (r : Rc) (im : List Img) (w : List Wr), (∀ i, k ≤ i → i < k + f → (look i).2.1 = 1 → (look i).1.img.bytes.length ≤ 59) → r.img.bytes.length ≤ 59 → (∀ i ∈ im, i.bytes.length ≤ 59) → ∀ i ∈ (gatherM look f k r im w).2.1, i.bytes.length ≤ 59
  | 0, k, r, im, w, _, hr, hi => by
    unfold gatherM
    dsimp only
    intro i hm
    split at hm
    · rcases List.mem_append.1 hm with h | h
      · exact hi i h
      · have e : i = r.img := by simpa using h
        rw [e]; exact hr
    · exact hi i hm
  | f + 1, k, r, im, w, hl, hr, hi => by
    by_cases hq : (look k).2.1 = 1
    · rw [gather_step hq]
      refine gather_short f (k + 1) _ _ _ (fun i h1 h2 h3 => hl i (by omega) (by omega) h3) (hl k (by omega) (by omega) hq) ?_
      intro i hm
      split at hm
      · rcases List.mem_append.1 hm with h | h
        · exact hi i h
        · have e : i = r.img := by simpa using h
          rw [e]; exact hr
      · exact hi i hm
    · rw [gather_stop hq]
      simp
theorem txnM_short {g : Geo} {a : An} {x y : List Gt} {pos seq left : Int} (hg : okG g = true) (hp : 0 ≤ pos ∧ pos < g.sl) : ∀ i ∈ (txnM g a x y pos seq left).2.2.1, i.bytes.length ≤ 59 := by
  have hf := fun (k of_ : Int) (hk : 0 ≤ k ∧ k ≤ 1000) => recM_facts (a := a) (x := x) (y := y) (seq := seq) (left := left) (of_ := of_) (at_ := k) hg hp hk
  unfold txnM
  dsimp only
  split
  · simp
  · rename_i h0
    have h0 := Classical.not_not.1 h0
    obtain ⟨e1, ⟨e2, e2', e3⟩, -⟩ := (hf 0 0 (by omega)).resolve_right fun h => by omega
    have hN := one_of e2 e3
    split
    · simp
    · dsimp only
      refine gather_short _ _ _ _ _ (fun i h1 h2 h3 => ?_) e2' (by simp)
      obtain ⟨-, ⟨-, q, -⟩, -⟩ := (hf i (recM g a x y pos seq left 0 0).1.of_ (by omega)).resolve_right fun h => by omega
      exact q
theorem scanL_imgs {g : Geo} {a : An} {x y : List Gt} (hg : okG g = true) : ∀ (f : Nat) (pos seq left : Int) (l : List Tx) (w : List Wr) {l' : List Tx} {w' : List Wr} {seq' : Int}, (0 ≤ pos ∧ pos < g.sl) → (∀ t ∈ l, t.images.length ≤ 30 ∧ ∀ i ∈ t.images, i.bytes.length ≤ 59) → scanL g a x y f pos seq left l w = some (l', w', seq') → l'.length ≤ l.length + f ∧ ∀ t ∈ l', t.images.length ≤ 30 ∧ ∀ i ∈ t.images, i.bytes.length ≤ 59
  | 0, pos, seq, left, l, w, l', w', seq', _, hl, h => by
    unfold scanL at h
    injection h with h
    injection h with e1 h
    subst e1
    exact ⟨by omega, hl⟩
  | f + 1, pos, seq, left, l, w, l', w', seq', hp, hl, h => by
    unfold scanL at h
    have fin : some (l, w, seq) = some (l', w', seq') → l'.length ≤ l.length + (f + 1) ∧ ∀ t ∈ l', t.images.length ≤ 30 ∧ ∀ i ∈ t.images, i.bytes.length ≤ 59 := fun h => by
      injection h with h
      injection h with e1 h
      subst e1
      exact ⟨by omega, hl⟩
    by_cases hc : 0 < left ∧ seq ≤ 4294967295
    · rw [if_pos hc] at h
      dsimp only at h
      have tf := txnM_facts (a := a) (x := x) (y := y) (seq := seq) (left := left) hg hp
      have ti := fun e => txnM_imgs (a := a) (x := x) (y := y) (seq := seq) (left := left) hg hp e
      have ts := txnM_short (a := a) (x := x) (y := y) (seq := seq) (left := left) hg hp
      generalize txnM g a x y pos seq left = T at tf h ti ts
      obtain ⟨how, n, im, ws⟩ := T
      dsimp only at tf h ti ts
      rcases tf with ⟨rfl, t1, t2⟩ | tf
      · rw [if_neg (by decide), if_neg (by decide)] at h
        obtain ⟨h1, h2, h3, h4, h5⟩ := okG_iff.1 hg
        have hm := Int.tmod_lt_of_pos (pos + n) (show 0 < g.sl by omega)
        have hm0 := Int.tmod_nonneg g.sl (show 0 ≤ pos + n by omega)
        have hi := ti rfl
        have := scanL_imgs hg f _ _ _ _ _ ⟨hm0, hm⟩ (fun t ht => by
          rcases List.mem_append.1 ht with h | h
          · exact hl t h
          · have e : t = ⟨seq, pos, n, im⟩ := by simpa using h
            rw [e]
            exact ⟨by dsimp only; omega, ts⟩) h
        rw [List.length_append] at this
        exact ⟨by have := this.1; simp only [List.length_cons, List.length_nil] at this; omega, this.2⟩
      · by_cases e3 : how = 3
        · rw [if_pos e3] at h
          cases h
        · rw [if_neg e3, if_pos (by omega)] at h
          exact fin h
    · rw [if_neg hc] at h
      exact fin h
theorem scanA_imgs {g : Geo} {a : An} {x y : List Gt} : (scanA g a x y).1.length ≤ 1000000000 ∧ ∀ t ∈ (scanA g a x y).1, t.images.length ≤ 1000000000 ∧ ∀ i ∈ t.images, i.bytes.length ≤ 100000000000 := by
  have fin : ∀ l : List Tx, l.length ≤ 30 → (∀ t ∈ l, t.images.length ≤ 30 ∧ ∀ i ∈ t.images, i.bytes.length ≤ 59) → l.length ≤ 1000000000 ∧ ∀ t ∈ l, t.images.length ≤ 1000000000 ∧ ∀ i ∈ t.images, i.bytes.length ≤ 100000000000 := fun l h1 h2 => ⟨by omega, fun t ht => by
    obtain ⟨q1, q2⟩ := h2 t ht
    exact ⟨by omega, fun i hi => by have := q2 i hi; omega⟩⟩
  unfold scanA
  by_cases hA : (okG g && anOk g a) = true
  · rw [if_pos hA]
    obtain ⟨hg, ha⟩ := Bool.and_eq_true_iff.1 hA
    obtain ⟨h1, h2, h3, h4, h5⟩ := okG_iff.1 hg
    split
    · unfold scanM
      cases hR : scanL g a x y g.sl.toNat a.pos a.seq g.sl [] [] with
      | none => exact fin [] (by simp) (by simp)
      | some R =>
        obtain ⟨l', w', seq'⟩ := R
        have := scanL_imgs hg _ _ _ _ _ _ (anOk_seq ha).2 (by simp) hR
        by_cases hl : seq' - 1 < a.last
        · rw [finM_pos hl]; exact fin [] (by simp) (by simp)
        · rw [finM_neg hl]
          refine fin _ ?_ this.2
          have := this.1
          simp only [List.length_nil] at this
          dsimp only
          omega
    · exact fin [] (by simp) (by simp)
  · rw [if_neg hA]; exact fin [] (by simp) (by simp)
theorem scanA_wlen {g : Geo} {a : An} {x y : List Gt} : (scanA g a x y).2.1.length ≤ 900 := by
  unfold scanA
  by_cases hA : (okG g && anOk g a) = true
  · rw [if_pos hA]
    obtain ⟨hg, ha⟩ := Bool.and_eq_true_iff.1 hA
    obtain ⟨h1, h2, h3, h4, h5⟩ := okG_iff.1 hg
    split
    · unfold scanM
      cases hR : scanL g a x y g.sl.toNat a.pos a.seq g.sl [] [] with
      | none => exact Nat.zero_le _
      | some R =>
        obtain ⟨l', w', seq'⟩ := R
        have := scanL_wlen hg _ _ _ _ _ _ (anOk_seq ha).2 hR
        by_cases hl : seq' - 1 < a.last
        · rw [finM_pos hl]; exact Nat.zero_le _
        · rw [finM_neg hl]
          simp only [List.length_nil] at this
          dsimp only
          omega
    · exact Nat.zero_le _
  · rw [if_neg hA]; exact Nat.zero_le _
theorem scanA_bad {g : Geo} {a : An} {x y : List Gt} (h : (scanA g a x y).2.2 ≠ 0) : (scanA g a x y).2.1 = [] := by
  unfold scanA at h ⊢
  by_cases hA : (okG g && anOk g a) = true
  · rw [if_pos hA] at h ⊢
    by_cases hx : (x.length : Int) = g.sl ∧ (y.length : Int) = g.sl
    · rw [if_pos hx] at h ⊢
      unfold scanM at h ⊢
      cases hR : scanL g a x y g.sl.toNat a.pos a.seq g.sl [] [] with
      | none => rfl
      | some R =>
        obtain ⟨l', w', seq'⟩ := R
        rw [hR] at h
        by_cases hl : seq' - 1 < a.last
        · rw [finM_pos hl]
        · rw [finM_neg hl] at h
          exact absurd rfl h
    · rw [if_neg hx]
  · rw [if_neg hA]
end Go.Proofs.YteecmgonbdbhdaaGreatDoor.A
end

/-
The law ScanExact.
-/
section
namespace Go.Proofs.YteecmgonbdbhdaaGreatDoor.A
open Go.RowKit

theorem scanA_wshort {g : Geo} {a : An} {x y : List Gt} : ∀ z ∈ (scanA g a x y).2.1, z.bytes.length ≤ 100000 := by
  by_cases h : (scanA g a x y).2.2 = 0
  · exact fun z hz => ((scanA_mend (l := (scanA g a x y).1) (w := (scanA g a x y).2.1) (by rw [← h])).2.2.1 z hz).2
  · rw [scanA_bad h]
    simp
set_option maxRecDepth 100000 in
theorem exact18_fn (g : Geo) (a : An) (x y : List Gt) : Fn Tryz.prog 3 [.ag (geoC g), .ag (anC a), gotsA x, gotsA y] fun r => r = .v (.bool true) := by
  have hw := wakes18_fn
  refine Fn.of tys_ok Tryz.func3 rfl rfl (Nat.le_of_ble_eq_true rfl) ?_
  conv => whnf
  refine Fn.closed (heavyA_fn a) rfl ?_
  rintro _ rfl
  conv => whnf
  refine boolI (fun t1 => ?_) (fun t1 => ?_) <;> (repeat rw [Int.toNat_natCast] at t1) <;> conv => whnf
  · exact ⟨_, fun _ _ h => h, rfl⟩
  obtain ⟨hh, hl⟩ := heavyA_no t1
  refine Fn.closed (heavyG_fn x) rfl ?_
  rintro _ rfl
  conv => whnf
  refine boolI (fun t2 => ?_) (fun t2 => ?_) <;> (repeat rw [Int.toNat_natCast] at t2) <;> conv => whnf
  · exact ⟨_, fun _ _ h => h, rfl⟩
  refine Fn.closed (heavyG_fn y) rfl ?_
  rintro _ rfl
  conv => whnf
  refine boolI (fun t3 => ?_) (fun t3 => ?_) <;> (repeat rw [Int.toNat_natCast] at t3) <;> conv => whnf
  · exact ⟨_, fun _ _ h => h, rfl⟩
  obtain ⟨hx1, hx2⟩ := heavyG_no t2
  obtain ⟨hy1, hy2⟩ := heavyG_no t3
  have sc := scan_fn g a x y (by omega) (by omega) (fun z hz => by have := hx2 z hz; omega) (fun z hz => by have := hy2 z hz; omega)
  have gx := gots_fn x x (by omega) (fun z hz => by have := hx2 z hz; omega)
  have gy := gots_fn y y (by omega) (fun z hz => by have := hy2 z hz; omega)
  rw [decide_eq_true rfl] at gx gy
  refine Fn.closed (twingots_fn x (by omega) (fun z hz => by have := hx2 z hz; omega)) rfl ?_
  rintro _ rfl
  conv => whnf
  refine Fn.closed (twingots_fn y (by omega) (fun z hz => by have := hy2 z hz; omega)) rfl ?_
  rintro _ rfl
  conv => whnf
  refine Fn.closed (sc) rfl ?_
  rintro _ rfl
  conv => whnf
  refine Fn.closed (gx) rfl ?_
  rintro _ rfl
  conv => whnf
  refine Fn.closed (gy) rfl ?_
  rintro _ rfl
  conv => whnf
  have s6 := rgeom_br g
  cases hG : okG g with
  | false =>
    rw [hG] at s6
    have hv : scanA g a x y = ([], [], 1) := by unfold scanA; rw [hG]; rfl
    rw [hv]
    repeat' (first | (refine aSeq.go ?_; conv => whnf) | (refine boolI (fun _ => ?_) (fun _ => ?_) <;> conv => whnf) | (refine Fn.closed (s6) rfl ?_; rintro _ rfl; conv => whnf) | (refine Fn.closed (hw) rfl ?_; rintro _ rfl; conv => whnf) | (refine And.intro (by first | omega | exact of_decide_eq_true rfl) ?_; conv => whnf) | fail)
    exact ⟨_, fun _ _ h => h, rfl⟩
  | true =>
    have s8 := ranchor_fn g a hG (by omega)
    rw [hG] at s6
    obtain ⟨h1, h2, h3, h4, h5⟩ := okG_iff.1 hG
    cases hA : anOk g a with
    | false =>
      rw [hA] at s8
      have hv : scanA g a x y = ([], [], 1) := by unfold scanA; rw [hG, hA]; rfl
      rw [hv]
      repeat' (first | (refine aSeq.go ?_; conv => whnf) | (refine boolI (fun _ => ?_) (fun _ => ?_) <;> conv => whnf) | (refine Fn.closed (s6) rfl ?_; rintro _ rfl; conv => whnf) | (refine Fn.closed (s8) rfl ?_; rintro _ rfl; conv => whnf) | (refine Fn.closed (hw) rfl ?_; rintro _ rfl; conv => whnf) | (refine And.intro (by first | omega | exact of_decide_eq_true rfl) ?_; conv => whnf) | fail)
      exact ⟨_, fun _ _ h => h, rfl⟩
    | true =>
      rw [hA] at s8
      by_cases hxy : (x.length : Int) = g.sl ∧ (y.length : Int) = g.sl
      · have hv : scanA g a x y = scanM g a x y := by unfold scanA; rw [hG, hA, if_pos (show (true && true) = true from rfl), if_pos hxy]
        have rs := rscan_fn g a x y hG hA hxy.1 hxy.2 (fun z hz => by have := hx2 z hz; omega) (fun z hz => by have := hy2 z hz; omega)
        have hI := scanA_imgs (g := g) (a := a) (x := x) (y := y)
        have hWl := scanA_wlen (g := g) (a := a) (x := x) (y := y)
        have hWs := scanA_wshort (g := g) (a := a) (x := x) (y := y)
        rw [hv] at hI hWl hWs ⊢
        have tx := txns_fn (scanM g a x y).1 (scanM g a x y).1 hI.1 hI.2
        have tw := writes_fn (scanM g a x y).2.1 (scanM g a x y).2.1 (by omega) (fun z hz => by have := hWs z hz; omega)
        rw [decide_eq_true rfl] at tx tw
        generalize scanM g a x y = S at *
        refine aSeq.go ?_
        conv => whnf
        refine Fn.closed (s6) rfl ?_
        rintro _ rfl
        conv => whnf
        refine Fn.closed (s8) rfl ?_
        rintro _ rfl
        conv => whnf
        refine boolI (fun v1 => ?_) (fun v1 => ?_) <;> (repeat rw [Int.toNat_natCast] at v1) <;> conv => whnf
        · exact absurd hxy.1 v1
        refine boolI (fun v2 => ?_) (fun v2 => ?_) <;> (repeat rw [Int.toNat_natCast] at v2) <;> conv => whnf
        · exact absurd hxy.2 v2
        refine Fn.closed (rs) rfl ?_
        rintro _ rfl
        conv => whnf
        refine boolI (fun v3 => ?_) (fun v3 => ?_) <;> (repeat rw [Int.toNat_natCast] at v3) <;> conv => whnf
        · repeat' (first | (refine aSeq.go ?_; conv => whnf) | (refine boolI (fun _ => ?_) (fun _ => ?_) <;> conv => whnf) | (refine Fn.closed (tx) rfl ?_; rintro _ rfl; conv => whnf) | (refine Fn.closed (tw) rfl ?_; rintro _ rfl; conv => whnf) | (refine Fn.closed (hw) rfl ?_; rintro _ rfl; conv => whnf) | (refine And.intro (by first | omega | exact of_decide_eq_true rfl) ?_; conv => whnf) | fail)
          exact ⟨_, fun _ _ h => h, rfl⟩
        · exact absurd rfl v3
      · have hv : scanA g a x y = ([], [], 2) := by unfold scanA; rw [hG, hA, if_pos (show (true && true) = true from rfl), if_neg hxy]
        rw [hv]
        refine aSeq.go ?_
        conv => whnf
        refine Fn.closed (s6) rfl ?_
        rintro _ rfl
        conv => whnf
        refine Fn.closed (s8) rfl ?_
        rintro _ rfl
        conv => whnf
        refine boolI (fun v1 => ?_) (fun v1 => ?_) <;> (repeat rw [Int.toNat_natCast] at v1) <;> conv => whnf
        · repeat' (first | (refine aSeq.go ?_; conv => whnf) | (refine boolI (fun _ => ?_) (fun _ => ?_) <;> conv => whnf) | (refine Fn.closed (hw) rfl ?_; rintro _ rfl; conv => whnf) | (refine And.intro (by first | omega | exact of_decide_eq_true rfl) ?_; conv => whnf) | fail)
          exact ⟨_, fun _ _ h => h, rfl⟩
        refine boolI (fun v2 => ?_) (fun v2 => ?_) <;> (repeat rw [Int.toNat_natCast] at v2) <;> conv => whnf
        · repeat' (first | (refine aSeq.go ?_; conv => whnf) | (refine boolI (fun _ => ?_) (fun _ => ?_) <;> conv => whnf) | (refine Fn.closed (hw) rfl ?_; rintro _ rfl; conv => whnf) | (refine And.intro (by first | omega | exact of_decide_eq_true rfl) ?_; conv => whnf) | fail)
          exact ⟨_, fun _ _ h => h, rfl⟩
        · exact absurd ⟨v1, v2⟩ hxy
end Go.Proofs.YteecmgonbdbhdaaGreatDoor.A
end
