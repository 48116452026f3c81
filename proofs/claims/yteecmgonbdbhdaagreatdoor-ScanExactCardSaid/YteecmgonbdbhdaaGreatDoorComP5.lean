/-
Several texts in one.
-/
import Derived.Test.YteecmgonbdbhdaaGreatDoorComP4
import Derived.Test.YteecmgonbdbhdaaGreatDoorComP2

/-
Packages casemateref01, casemateref08, casemateref15: what a reading of a copy says; package pair: what both copies come to.
-/
section
namespace Go.Proofs.YteecmgonbdbhdaaGreatDoor.A
open Go.RowKit

theorem rlogAt_fn (g : Geo) (copy slot : Int) (hg : okG g = true) (hl : okL g copy slot = true) : Fn Tryz.prog 30 [.ag (geoC g), .v (.int .i64 copy), .v (.int .i64 slot)] fun r => r = .v (.int .i64 (logAt g copy slot)) := by
  obtain ⟨h1, h2, h3, h4, h5⟩ := okG_iff.1 hg
  simp only [okL, Bool.and_eq_true, inB_iff] at hl
  refine Fn.of tys_ok Tryz.func30 rfl rfl (Nat.le_of_ble_eq_true rfl) ?_
  conv => whnf
  refine ⟨_, fun _ _ h => h, ?_⟩
  have hm : 0 ≤ copy * g.sl ∧ copy * g.sl ≤ 30 := by
    rcases (show copy = 0 ∨ copy = 1 by omega) with rfl | rfl <;> omega
  rw [wi (n := copy * g.sl) (by omega), wi (n := g.an + copy * g.sl) (by omega), wi (n := g.an + copy * g.sl + slot) (by omega)]
  rfl
def sectorO (x : Gt) (addr : Int) : Option Sec := if x.err = 0 ∧ openE x.bytes = 0 ∧ secAddr x.bytes = addr then some ⟨secAddr x.bytes, secStamp x.bytes, secPay x.bytes⟩ else none
def zeroS : Sec := ⟨0, 0, []⟩
theorem zsec_subB (c : Ctx) (u : Value) (b : Bool) (h : Rd (.tp [.ag [.v (.int .i64 0), .v (.int .i64 0), .v (.slice none 0 0)], .v (.bool b)]) c u) : Rd (.tp [.ag (secC zeroS), .v (.bool b)]) c u := by
  refine tp_sub ?_ c u h
  exact ⟨ag_sub ⟨fun _ _ h => h, fun _ _ h => h, nil_sl _ _, trivial⟩, fun _ _ h => h, trivial⟩
theorem sector_fn (x : Gt) (addr : Int) (hl : x.bytes.length ≤ 100000) : Fn Tryz.prog 68 [.ag (gotC x), .v (.int .i64 addr)] fun r => r = .tp [.ag (secC ((sectorO x addr).getD zeroS)), .v (.bool (sectorO x addr).isSome)] := by
  have s1 := ropen_fn x.bytes hl
  refine Fn.of tys_ok Tryz.func68 rfl rfl (Nat.le_of_ble_eq_true rfl) ?_
  conv => whnf
  refine boolI (fun t1 => ?_) (fun t1 => ?_) <;> (repeat rw [Int.toNat_natCast] at t1) <;> conv => whnf
  · have e : sectorO x addr = none := by rw [sectorO, if_neg (fun h => t1 h.1)]
    rw [e]
    exact ⟨_, fun c v h => zsec_subB c v false h, rfl⟩
  by_cases hO : openE x.bytes = 0
  · rw [if_pos hO, hO] at s1
    refine Fn.closed (s1) rfl ?_
    rintro _ rfl
    conv => whnf
    refine boolI (fun t2 => ?_) (fun t2 => ?_) <;> (repeat rw [Int.toNat_natCast] at t2) <;> conv => whnf
    · have e : sectorO x addr = none := by rw [sectorO, if_neg (fun h => t2 h.2.2)]
      rw [e]
      exact ⟨_, fun c v h => zsec_subB c v false h, rfl⟩
    · have e : sectorO x addr = some ⟨secAddr x.bytes, secStamp x.bytes, secPay x.bytes⟩ := by rw [sectorO, if_pos ⟨t1, hO, t2⟩]
      rw [e]
      exact ⟨_, fun _ _ h => h, rfl⟩
  · rw [if_neg hO] at s1
    refine Fn.closed (s1) rfl ?_
    rintro _ rfl
    conv => whnf
    have e : sectorO x addr = none := by rw [sectorO, if_neg (fun h => hO h.2.1)]
    rw [e]
    refine boolI (fun t2 => ?_) (fun t2 => ?_) <;> (repeat rw [Int.toNat_natCast] at t2) <;> conv => whnf
    · exact ⟨_, fun c v h => zsec_subB c v false h, rfl⟩
    · exact absurd t2 hO
theorem saysR_of (g : Geo) (x : Gt) (copy slot : Int) (hg : okG g = true) (hL : okL g copy slot = true) : saysR g x copy slot = match sectorO x (logAt g copy slot) with | none => none | some s => match readR g s.pay with | some r => if r.seq = s.stamp then some r else none | none => none := by
  unfold saysR sectorO
  rw [hg, hL]
  by_cases h1 : x.err = 0 <;> by_cases h2 : openE x.bytes = 0 <;> by_cases h3 : secAddr x.bytes = logAt g copy slot <;> simp [h1, h2, h3] <;> rfl
theorem sectorO_len {x : Gt} {a : Int} {s : Sec} (h : sectorO x a = some s) : s.pay.length ≤ x.bytes.length := by
  unfold sectorO at h
  split at h
  · cases h; simp [secPay]; omega
  · cases h
theorem recSays_fn (g : Geo) (x : Gt) (copy slot : Int) (hl : x.bytes.length ≤ 100000) (hg : okG g = true) (hL : okL g copy slot = true) : Fn Tryz.prog 49 [.ag (geoC g), .ag (gotC x), .v (.int .i64 copy), .v (.int .i64 slot)] fun r => r = .tp [.ag (rcC ((saysR g x copy slot).getD zeroC)), .v (.bool (saysR g x copy slot).isSome)] := by
  have s1 := sector_fn x (logAt g copy slot) hl
  rw [saysR_of g x copy slot hg hL]
  cases hS : sectorO x (logAt g copy slot) with
  | none =>
    rw [hS] at s1
    refine Fn.of tys_ok Tryz.func49 rfl rfl (Nat.le_of_ble_eq_true rfl) ?_
    conv => whnf
    apply aDraw.tree tys_ok mixed (.one 0 (.one 1 (.one 2 (.one 3 (.two 4 (.two 5 (.one 6 (.one 7 (.one 8 (.one 9 (.one 10 (.one 11 .fin)))))) 9 (.one 5 (.one 6 (.one 7 (.one 8 (.one 10 (.one 11 .fin))))))) 9 (.one 4 (.one 5 (.one 6 (.one 7 (.one 8 (.one 10 (.one 11 .fin)))))))))))) [10, 11, 13, 14, 15, 16, 17, 18, 19, 20, 21] (by kernel_rfl)
    · conv => whnf
      refine And.intro ?_ ?_
      · conv => whnf
        refine Fn.closed (rlogAt_fn g copy slot hg hL) rfl ?_
        rintro _ rfl
        conv => whnf
        refine And.intro ?_ ?_
        · conv => whnf
          refine Fn.closed (s1) rfl ?_
          rintro _ rfl
          conv => whnf
          exact ⟨rfl, rfl⟩
        · conv => whnf
          refine Fn.closed (s1) rfl ?_
          rintro _ rfl
          conv => whnf
          exact ⟨rfl, rfl⟩
      · conv => whnf
        refine Fn.closed (rlogAt_fn g copy slot hg hL) rfl ?_
        rintro _ rfl
        conv => whnf
        refine Fn.closed (s1) rfl ?_
        rintro _ rfl
        conv => whnf
        exact ⟨rfl, rfl⟩
    conv => whnf
    exact ⟨_, fun c v h => zrec_sub c v false h, rfl⟩
  | some s =>
    rw [hS] at s1
    have hp := sectorO_len hS
    have s2 := readRec_br g s.pay (by omega) hg
    cases hR : readR g s.pay with
    | none =>
      rw [hR] at s2
      refine Fn.of tys_ok Tryz.func49 rfl rfl (Nat.le_of_ble_eq_true rfl) ?_
      conv => whnf
      apply aDraw.tree tys_ok mixed (.one 0 (.one 1 (.one 2 (.one 3 (.two 4 (.two 5 (.one 6 (.one 7 (.one 8 (.one 9 (.one 10 (.one 11 .fin)))))) 9 (.one 5 (.one 6 (.one 7 (.one 8 (.one 10 (.one 11 .fin))))))) 9 (.one 4 (.one 5 (.one 6 (.one 7 (.one 8 (.one 10 (.one 11 .fin)))))))))))) [10, 11, 13, 14, 15, 16, 17, 18, 19, 20, 21] (by kernel_rfl)
      · conv => whnf
        refine And.intro ?_ ?_
        · conv => whnf
          refine Fn.closed (rlogAt_fn g copy slot hg hL) rfl ?_
          rintro _ rfl
          conv => whnf
          refine And.intro ?_ ?_
          · conv => whnf
            refine Fn.closed (s1) rfl ?_
            rintro _ rfl
            conv => whnf
            exact ⟨rfl, rfl⟩
          · conv => whnf
            refine Fn.closed (s1) rfl ?_
            rintro _ rfl
            conv => whnf
            exact ⟨rfl, rfl⟩
        · conv => whnf
          refine Fn.closed (rlogAt_fn g copy slot hg hL) rfl ?_
          rintro _ rfl
          conv => whnf
          refine Fn.closed (s1) rfl ?_
          rintro _ rfl
          conv => whnf
          exact ⟨rfl, rfl⟩
      conv => whnf
      refine Fn.closed (s2) rfl ?_
      rintro _ rfl
      conv => whnf
      exact ⟨_, fun c v h => zrec_sub c v false h, by simp only [hR]; rfl⟩
    | some r =>
      rw [hR] at s2
      refine Fn.of tys_ok Tryz.func49 rfl rfl (Nat.le_of_ble_eq_true rfl) ?_
      conv => whnf
      apply aDraw.tree tys_ok mixed (.one 0 (.one 1 (.one 2 (.one 3 (.two 4 (.two 5 (.one 6 (.one 7 (.one 8 (.one 9 (.one 10 (.one 11 .fin)))))) 9 (.one 5 (.one 6 (.one 7 (.one 8 (.one 10 (.one 11 .fin))))))) 9 (.one 4 (.one 5 (.one 6 (.one 7 (.one 8 (.one 10 (.one 11 .fin)))))))))))) [10, 11, 13, 14, 15, 16, 17, 18, 19, 20, 21] (by kernel_rfl)
      · conv => whnf
        refine And.intro ?_ ?_
        · conv => whnf
          refine Fn.closed (rlogAt_fn g copy slot hg hL) rfl ?_
          rintro _ rfl
          conv => whnf
          refine And.intro ?_ ?_
          · conv => whnf
            refine Fn.closed (s1) rfl ?_
            rintro _ rfl
            conv => whnf
            exact ⟨rfl, rfl⟩
          · conv => whnf
            refine Fn.closed (s1) rfl ?_
            rintro _ rfl
            conv => whnf
            exact ⟨rfl, rfl⟩
        · conv => whnf
          refine Fn.closed (rlogAt_fn g copy slot hg hL) rfl ?_
          rintro _ rfl
          conv => whnf
          refine Fn.closed (s1) rfl ?_
          rintro _ rfl
          conv => whnf
          exact ⟨rfl, rfl⟩
      conv => whnf
      refine Fn.closed (s2) rfl ?_
      rintro _ rfl
      conv => whnf
      refine boolI (fun t => ?_) (fun t => ?_) <;> (repeat rw [Int.toNat_natCast] at t) <;> (try simp only [Option.getD_some] at t) <;> conv => whnf
      · exact ⟨_, fun c v h => zrec_sub c v false h, by simp only [hR, if_neg t]; rfl⟩
      · exact ⟨_, fun _ _ h => h, by simp only [hR, if_pos t]; rfl⟩
def heavyG (l : List Gt) : Bool := decide (80 < l.length) || l.any fun x => decide (300 < x.bytes.length)
theorem heavyG_no {l : List Gt} (h : heavyG l = false) : l.length ≤ 80 ∧ ∀ x ∈ l, x.bytes.length ≤ 300 := by
  simp only [heavyG, Bool.or_eq_false_iff, decide_eq_false_iff_not] at h
  exact ⟨by omega, fun x hx => by have := List.any_eq_false.1 h.2 x hx; simp at this; omega⟩
theorem heavyG_fn (l : List Gt) : Fn Tryz.prog 6 [gotsA l] fun r => r = .v (.bool (heavyG l)) := by
  refine Fn.of tys_ok Tryz.func6 rfl rfl (Nat.le_of_ble_eq_true rfl) ?_
  conv => whnf
  refine boolI (fun h1 => ?_) (fun h1 => ?_) <;> (repeat rw [Int.toNat_natCast] at h1) <;> conv => whnf
  · exact ⟨_, fun _ _ h => h, by simp [heavyG, show 80 < l.length by omega]⟩
  refine aLoop.rule Nat (fun k => ([(0, gotsA l), (3, .v (.int .i64 k))], [])) (fun k => k ≤ l.length ∧ (l.take k).any (fun x => decide (300 < x.bytes.length)) = false) (fun k => l.length - k) 0 ⟨Nat.zero_le _, by simp⟩ (Wk.plain (by repeat' first | exact trivial | exact rfl | refine And.intro ?_ ?_ | exact wsucc (by omega)) (by repeat' first | exact trivial | exact rfl | refine And.intro ?_ ?_ | exact wsucc (by omega)) rfl rfl rfl) ?_
  rintro k ⟨hk, hI⟩
  conv => whnf
  refine boolI (fun h3 => ?_) (fun h3 => ?_) <;> (repeat rw [Int.toNat_natCast] at h3) <;> conv => whnf
  · refine ⟨by first | omega | (refine ⟨rfl, ?_, ?_⟩ <;> first | omega | (simp only [List.length_map]; done) | (simp only [List.length_map]; omega) | (simp only [List.length_set]; omega)) | (simp only [List.length_map]; omega), ?_⟩
    conv => whnf
    refine boolI (fun h4 => ?_) (fun h4 => ?_) <;> (repeat rw [Int.toNat_natCast] at h4) <;> conv => whnf
    · have e : (l.any fun x => decide (300 < x.bytes.length)) = true := List.any_eq_true.2 ⟨_, getD_mem h3, decide_eq_true (show 300 < (l.getD k ⟨0, []⟩).bytes.length by omega)⟩
      exact ⟨_, fun _ _ h => h, by rw [heavyG, e]; simp⟩
    · refine ⟨k + 1, ⟨by omega, ?_⟩, by omega, (Wk.plain (by repeat' first | exact trivial | exact rfl | refine And.intro ?_ ?_ | exact wsucc (by omega)) (by repeat' first | exact trivial | exact rfl | refine And.intro ?_ ?_ | exact wsucc (by omega)) rfl rfl rfl)⟩
      rw [List.take_succ_eq_append_getElem h3, List.any_append, hI]
      rw [List.getD_eq_getElem?_getD, List.getElem?_eq_getElem h3] at h4
      simp at h4 ⊢
      omega
  · have e : k = l.length := by omega
    rw [e, List.take_length] at hI
    exact ⟨_, fun _ _ h => h, by simp [heavyG, hI]; omega⟩

def oneO (o : Option Rc) (a : An) (seq at_ of_ left : Int) : Bool := match o with | some r => isOne r a seq at_ of_ left | none => false
/-- What both copies of a slot come to: the record, who is wanting it, how it went. -/
def lookT (p q : Option Rc) (b1 b2 : Bool) : Rc × List Int × Int :=
  if b1 && b2 then (p.getD zeroC, [], 1) else if b1 then (p.getD zeroC, [1], 1) else if b2 then (q.getD zeroC, [0], 1) else if p.isSome || q.isSome then (zeroC, [], 2) else (zeroC, [], 3)
def lookR (g : Geo) (a : An) (x y : Gt) (slot seq at_ of_ left : Int) : Rc × List Int × Int :=
  lookT (saysR g x 0 slot) (saysR g y 1 slot) (oneO (saysR g x 0 slot) a seq at_ of_ left) (oneO (saysR g y 1 slot) a seq at_ of_ left)
theorem look0_sub (c : Ctx) (u : Value) (how e : Int) (h : Rd (.tp [.ag [.v (.int .i64 0), .v (.int .i64 0), .v (.int .i64 0), .v (.int .i64 0), .v (.int .i64 0), .v (.int .i64 0), .v (.int .i64 0), .v (.slice none 0 0)], .v (.slice none 0 0), .v (.int .i64 how), .v (.int .i64 e)]) c u) : Rd (.tp [.ag (rcC zeroC), iA [], .v (.int .i64 how), .v (.int .i64 e)]) c u := by
  refine tp_sub ?_ c u h
  exact ⟨ag_sub ⟨fun _ _ h => h, fun _ _ h => h, fun _ _ h => h, fun _ _ h => h, fun _ _ h => h, fun _ _ h => h, fun _ _ h => h, nil_sl _ _, trivial⟩, nil_sl _ _, fun _ _ h => h, fun _ _ h => h, trivial⟩
end Go.Proofs.YteecmgonbdbhdaaGreatDoor.A
end

/-
Packages pair, casemateref15: what both copies come to.
-/
section
namespace Go.Proofs.YteecmgonbdbhdaaGreatDoor.A
open Go.RowKit

theorem one_sub {x : Int} (c : Ctx) (u : Value) (h : Rd (.sl 1 1 fun i => [[AV.v (.int .i64 x)]].getD i []) c u) : Rd (iA [x]) c u :=
  Rd.congr (n := 1) (n' := [x].length) rfl (fun i hi => by
    have : i = 0 := by simp at hi; omega
    subst this
    rfl) h
theorem lookF0 (r : Rc) (c : Ctx) (u : Value) (h : Rd (.tp [.ag (rcC r), .v (.slice none 0 0), .v (.int .i64 1), .v (.int .i64 0)]) c u) : Rd (.tp [.ag (rcC r), iA [], .v (.int .i64 1), .v (.int .i64 0)]) c u   := by
  refine tp_sub ?_ c u h
  exact ⟨fun _ _ h => h, nil_sl _ _, fun _ _ h => h, fun _ _ h => h, trivial⟩
theorem lookF1 (r : Rc) (x : Int) (c : Ctx) (u : Value) (h : Rd (.tp [.ag (rcC r), .sl 1 1 fun i => [[AV.v (.int .i64 x)]].getD i [], .v (.int .i64 1), .v (.int .i64 0)]) c u) : Rd (.tp [.ag (rcC r), iA [x], .v (.int .i64 1), .v (.int .i64 0)]) c u   := by
  refine tp_sub ?_ c u h
  exact ⟨fun _ _ h => h, one_sub, fun _ _ h => h, fun _ _ h => h, trivial⟩
theorem rlookZ (how : Int) (c : Ctx) (u : Value) (h : Rd (.tp [.ag [.v (.int .i64 0), .v (.int .i64 0), .v (.int .i64 0), .v (.int .i64 0), .v (.int .i64 0), .v (.int .i64 0), .v (.int .i64 0), .v (.slice none 0 0)], .v (.slice none 0 0), .v (.int .i64 how)]) c u) : Rd (.tp [.ag (rcC zeroC), iA [], .v (.int .i64 how)]) c u := by
  refine tp_sub ?_ c u h
  exact ⟨ag_sub ⟨fun _ _ h => h, fun _ _ h => h, fun _ _ h => h, fun _ _ h => h, fun _ _ h => h, fun _ _ h => h, fun _ _ h => h, nil_sl _ _, trivial⟩, nil_sl _ _, fun _ _ h => h, trivial⟩
theorem rlookF0 (r : Rc) (c : Ctx) (u : Value) (h : Rd (.tp [.ag (rcC r), .v (.slice none 0 0), .v (.int .i64 1)]) c u) : Rd (.tp [.ag (rcC r), iA [], .v (.int .i64 1)]) c u := by
  refine tp_sub ?_ c u h
  exact ⟨fun _ _ h => h, nil_sl _ _, fun _ _ h => h, trivial⟩
theorem rlookF1 (r : Rc) (x : Int) (c : Ctx) (u : Value) (h : Rd (.tp [.ag (rcC r), .sl 1 1 fun i => [[AV.v (.int .i64 x)]].getD i [], .v (.int .i64 1)]) c u) : Rd (.tp [.ag (rcC r), iA [x], .v (.int .i64 1)]) c u := by
  refine tp_sub ?_ c u h
  exact ⟨fun _ _ h => h, one_sub, fun _ _ h => h, trivial⟩
set_option maxRecDepth 100000 in
theorem look_fn (g : Geo) (a : An) (x y : Gt) (slot seq at_ of_ left : Int) (hl : a.label.size ≤ 1000000) (hh : a.homes.length ≤ 1000000) (hx : x.bytes.length ≤ 100000) (hy : y.bytes.length ≤ 100000) :
    Fn Tryz.prog 65 [.ag (geoC g), .ag (anC a), .ag (gotC x), .ag (gotC y), .v (.int .i64 slot), .v (.int .i64 seq), .v (.int .i64 at_), .v (.int .i64 of_), .v (.int .i64 left)]
      fun r => r = if okG g && anOk g a && inB slot 0 (g.sl - 1) then .tp [.ag (rcC (lookR g a x y slot seq at_ of_ left).1), iA (lookR g a x y slot seq at_ of_ left).2.1, .v (.int .i64 (lookR g a x y slot seq at_ of_ left).2.2), .v (.int .i64 0)] else .tp [.ag (rcC zeroC), iA [], .v (.int .i64 0), .v (.int .i64 1)] := by
  have s1 := acheck_fn g a hl hh
  cases hA : okG g && anOk g a with
  | false =>
    rw [hA] at s1
    refine Fn.of tys_ok Tryz.func65 rfl rfl (Nat.le_of_ble_eq_true rfl) ?_
    conv => whnf
    refine Fn.closed (s1) rfl ?_
    rintro _ rfl
    conv => whnf
    exact ⟨_, fun c u h => look0_sub c u 0 1 h, rfl⟩
  | true =>
    rw [hA] at s1
    have s2 := says_fn g x 0 slot hx
    have s3 := says_fn g y 1 slot hy
    unfold lookR
    generalize saysR g x 0 slot = p at s2 ⊢
    generalize saysR g y 1 slot = q at s3 ⊢
    have i1 : ∀ r, p = some r → Fn Tryz.prog 77 [.ag (rcC r), .ag (anC a), .v (.int .i64 seq), .v (.int .i64 at_), .v (.int .i64 of_), .v (.int .i64 left)] fun x => x = .v (.bool (oneO p a seq at_ of_ left)) := by
      rintro r rfl; exact is_fn r a seq at_ of_ left
    have i2 : ∀ r, q = some r → Fn Tryz.prog 77 [.ag (rcC r), .ag (anC a), .v (.int .i64 seq), .v (.int .i64 at_), .v (.int .i64 of_), .v (.int .i64 left)] fun x => x = .v (.bool (oneO q a seq at_ of_ left)) := by
      rintro r rfl; exact is_fn r a seq at_ of_ left
    have n1 : p = none → oneO p a seq at_ of_ left = false := by rintro rfl; rfl
    have n2 : q = none → oneO q a seq at_ of_ left = false := by rintro rfl; rfl
    generalize oneO p a seq at_ of_ left = b1 at i1 n1 ⊢
    generalize oneO q a seq at_ of_ left = b2 at i2 n2 ⊢
    by_cases hs : 0 ≤ slot ∧ slot < g.sl
    · rw [show inB slot 0 (g.sl - 1) = true from inB_iff.2 (by omega)]
      rcases p with _ | p <;> rcases q with _ | q <;> cases b1 <;> cases b2
      all_goals first
        | exact absurd (n1 rfl) (by decide)
        | exact absurd (n2 rfl) (by decide)
        | skip
      all_goals
        refine Fn.of tys_ok Tryz.func65 rfl rfl (Nat.le_of_ble_eq_true rfl) ?_
        conv => whnf
        refine Fn.closed (s1) rfl ?_
        rintro _ rfl
        conv => whnf
        refine boolI (fun t1 => ?_) (fun t1 => ?_) <;> (repeat rw [Int.toNat_natCast] at t1) <;> conv => whnf
        · exfalso; omega
        refine boolI (fun t2 => ?_) (fun t2 => ?_) <;> (repeat rw [Int.toNat_natCast] at t2) <;> conv => whnf
        · exfalso; omega
        refine aLoop.rounds 3 ?_
        conv => whnf
        repeat' (first | (refine aSeq.go ?_; conv => whnf) | (refine boolI (fun _ => ?_) (fun _ => ?_) <;> conv => whnf) | (refine Fn.closed (s2) rfl ?_; rintro _ rfl; conv => whnf) | (refine Fn.closed (s3) rfl ?_; rintro _ rfl; conv => whnf) | (refine Fn.closed (i1 _ rfl) rfl ?_; rintro _ rfl; conv => whnf) | (refine Fn.closed (i2 _ rfl) rfl ?_; rintro _ rfl; conv => whnf) | (refine And.intro (by first | omega | exact of_decide_eq_true rfl) ?_; conv => whnf) | fail)
        first
          | exact ⟨_, fun c u h => look0_sub c u 2 0 h, rfl⟩
          | exact ⟨_, fun c u h => look0_sub c u 3 0 h, rfl⟩
          | exact ⟨_, fun c u h => lookF0 _ c u h, rfl⟩
          | exact ⟨_, fun c u h => lookF1 _ _ c u h, rfl⟩
    · rw [show inB slot 0 (g.sl - 1) = false by rw [Bool.eq_false_iff]; intro h; have := inB_iff.1 h; omega]
      refine Fn.of tys_ok Tryz.func65 rfl rfl (Nat.le_of_ble_eq_true rfl) ?_
      conv => whnf
      refine Fn.closed (s1) rfl ?_
      rintro _ rfl
      conv => whnf
      refine boolI (fun t1 => ?_) (fun t1 => ?_) <;> (repeat rw [Int.toNat_natCast] at t1) <;> conv => whnf
      · exact ⟨_, fun c u h => look0_sub c u 0 1 h, rfl⟩
      refine boolI (fun t2 => ?_) (fun t2 => ?_) <;> (repeat rw [Int.toNat_natCast] at t2) <;> conv => whnf
      · exact ⟨_, fun c u h => look0_sub c u 0 1 h, rfl⟩
      · exfalso; omega
set_option maxRecDepth 100000 in
theorem rlook_fn (g : Geo) (a : An) (x y : Gt) (slot seq at_ of_ left : Int) (hg : okG g = true) (hs : inB slot 0 (g.sl - 1) = true) (hx : x.bytes.length ≤ 100000) (hy : y.bytes.length ≤ 100000) :
    Fn Tryz.prog 29 [.ag (geoC g), .ag (anC a), .ag (gotC x), .ag (gotC y), .v (.int .i64 slot), .v (.int .i64 seq), .v (.int .i64 at_), .v (.int .i64 of_), .v (.int .i64 left)]
      fun r => r = .tp [.ag (rcC (lookR g a x y slot seq at_ of_ left).1), iA (lookR g a x y slot seq at_ of_ left).2.1, .v (.int .i64 (lookR g a x y slot seq at_ of_ left).2.2)] := by
  have s2 := recSays_fn g x 0 slot hx hg (by rw [okL, hs]; rfl)
  have s3 := recSays_fn g y 1 slot hy hg (by rw [okL, hs]; rfl)
  unfold lookR
  generalize saysR g x 0 slot = p at s2 ⊢
  generalize saysR g y 1 slot = q at s3 ⊢
  have i1 : ∀ r, p = some r → Fn Tryz.prog 50 [.ag (rcC r), .ag (anC a), .v (.int .i64 seq), .v (.int .i64 at_), .v (.int .i64 of_), .v (.int .i64 left)] fun x => x = .v (.bool (oneO p a seq at_ of_ left)) := by
    rintro r rfl; exact rone_fn r a seq at_ of_ left
  have i2 : ∀ r, q = some r → Fn Tryz.prog 50 [.ag (rcC r), .ag (anC a), .v (.int .i64 seq), .v (.int .i64 at_), .v (.int .i64 of_), .v (.int .i64 left)] fun x => x = .v (.bool (oneO q a seq at_ of_ left)) := by
    rintro r rfl; exact rone_fn r a seq at_ of_ left
  have n1 : p = none → oneO p a seq at_ of_ left = false := by rintro rfl; rfl
  have n2 : q = none → oneO q a seq at_ of_ left = false := by rintro rfl; rfl
  generalize oneO p a seq at_ of_ left = b1 at i1 n1 ⊢
  generalize oneO q a seq at_ of_ left = b2 at i2 n2 ⊢
  rcases p with _ | p <;> rcases q with _ | q <;> cases b1 <;> cases b2
  all_goals first
    | exact absurd (n1 rfl) (by decide)
    | exact absurd (n2 rfl) (by decide)
    | skip
  all_goals
    refine Fn.of tys_ok Tryz.func29 rfl rfl (Nat.le_of_ble_eq_true rfl) ?_
    conv => whnf
    repeat' (first | (refine aSeq.go ?_; conv => whnf) | (refine boolI (fun _ => ?_) (fun _ => ?_) <;> conv => whnf) | (refine Fn.closed (s2) rfl ?_; rintro _ rfl; conv => whnf) | (refine Fn.closed (s3) rfl ?_; rintro _ rfl; conv => whnf) | (refine Fn.closed (i1 _ rfl) rfl ?_; rintro _ rfl; conv => whnf) | (refine Fn.closed (i2 _ rfl) rfl ?_; rintro _ rfl; conv => whnf) | (refine And.intro (by first | omega | exact of_decide_eq_true rfl) ?_; conv => whnf) | fail)
    first
      | exact ⟨_, fun c u h => rlookZ 2 c u h, rfl⟩
      | exact ⟨_, fun c u h => rlookZ 3 c u h, rfl⟩
      | exact ⟨_, fun c u h => rlookF0 _ c u h, rfl⟩
      | exact ⟨_, fun c u h => rlookF1 _ _ c u h, rfl⟩
end Go.Proofs.YteecmgonbdbhdaaGreatDoor.A
end

/-
Plain law: a sector that was made opens and tells what it was made of.
-/
section
namespace Go.Proofs.YteecmgonbdbhdaaGreatDoor

theorem take_all {l m : List UInt8} {n : Nat} (h : l.length = n) : (l ++ m).take n = l := by subst h; simp
theorem drop_all {l m : List UInt8} {n : Nat} (h : l.length = n) : (l ++ m).drop n = m := by subst h; simp
theorem sealHead_len (a s : Int) (p : List UInt8) : (sealHead a s p).length = p.length + 7 := by
  simp only [sealHead, List.length_append, List.length_cons, leB_len]
theorem sealB_len (a s : Int) (p : List UInt8) : (sealB a s p).length = p.length + 11 := by
  simp only [sealB, List.length_append, sealHead_len, leB_len]
theorem seal_open {a s : Int} {p : List UInt8} (h : okS a s p) : openE (sealB a s p) = 0 ∧ secAddr (sealB a s p) = a ∧ secStamp (sealB a s p) = s ∧ secPay (sealB a s p) = p := by
  obtain ⟨h1, h2, h3, h4, h5⟩ := h
  have hl := sealB_len a s p
  have hs := sumC_le (sealHead a s p)
  have e1 : sealB a s p = sealHead a s p ++ leB 4 (sumC (sealHead a s p)) := rfl
  have e2 : sealB a s p = (UInt8.ofNat p.length :: p) ++ (leB 2 a.toNat ++ (leB 4 s.toNat ++ leB 4 (sumC (sealHead a s p)))) := by rw [e1]; simp only [sealHead, List.append_assoc]
  have e3 : sealB a s p = ((UInt8.ofNat p.length :: p) ++ leB 2 a.toNat) ++ (leB 4 s.toNat ++ leB 4 (sumC (sealHead a s p))) := by rw [e2, List.append_assoc]
  have hpn : partN (sealB a s p) = p.length := by
    rw [e2]
    show (UInt8.ofNat p.length).toNat = p.length
    rw [UInt8.toNat_ofNat_of_lt']
    exact Nat.lt_of_le_of_lt h5 (by decide)
  refine ⟨?_, ?_, ?_, ?_⟩
  · unfold openE
    rw [if_neg (by omega), if_neg, if_pos]
    · refine ⟨?_, by omega⟩
      simp only [partOk, decide_eq_true_eq]
      omega
    · rw [hl, show p.length + 11 - 4 = p.length + 7 by omega, e1, drop_all (sealHead_len a s p), take_all (sealHead_len a s p), leN_leB _ _ (by have : (256 : Nat) ^ 4 = 4294967296 := rfl; omega)]
      simp
  · unfold secAddr
    rw [hl, show p.length + 11 - 10 = p.length + 1 by omega, e2, drop_all (by simp), take_all (leB_len 2 _), leN_leB _ _ (by have : (256 : Nat) ^ 2 = 65536 := rfl; omega)]
    omega
  · unfold secStamp
    rw [hl, show p.length + 11 - 8 = p.length + 3 by omega, e3, drop_all (by simp [leB_len]), take_all (leB_len 4 _), leN_leB _ _ (by have : (256 : Nat) ^ 4 = 4294967296 := rfl; omega)]
    omega
  · unfold secPay
    rw [hl, show p.length + 11 - 11 = p.length by omega, e2]
    simp
end Go.Proofs.YteecmgonbdbhdaaGreatDoor
end

/-
Packages casematelaw07, casemateref08, casematelaw17: some geometry, a new volume's anchor, a record's reading.
-/
section
namespace Go.Proofs.YteecmgonbdbhdaaGreatDoor.A
open Go.RowKit

/-- int(uint(x) % n). -/
def modU (x : Int) (n : Int) : Int := IntKind.i64.wrap ((IntKind.u64.wrap x).tmod n)
theorem modU_in {x n : Int} (h : 0 < n) (h2 : n ≤ 4611686018427387904) : 0 ≤ modU x n ∧ modU x n < n := by
  have h0 : 0 ≤ IntKind.u64.wrap x := by rw [IntKind.wrap_u64]; omega
  have h1 := Int.tmod_nonneg n h0
  have h3 := Int.tmod_lt_of_pos (IntKind.u64.wrap x) h
  unfold modU
  rw [wi (by omega)]
  exact ⟨h1, h3⟩
def someG (z d sp sl an : Int) : Geo := ⟨1 + modU z 4, 1 + modU d 4, modU sp 3, 14 + modU sl 17, 1 + modU an 3⟩
theorem someG_ok (z d sp sl an : Int) : okG (someG z d sp sl an) = true := by
  have h1 := modU_in (x := z) (n := 4) (by decide) (by decide)
  have h2 := modU_in (x := d) (n := 4) (by decide) (by decide)
  have h3 := modU_in (x := sp) (n := 3) (by decide) (by decide)
  have h4 := modU_in (x := sl) (n := 17) (by decide) (by decide)
  have h5 := modU_in (x := an) (n := 3) (by decide) (by decide)
  refine okG_iff.2 ?_
  simp only [someG]
  omega
theorem some_fn (z d sp sl an : Int) : Fn Tryz.prog 27 [.v (.int .i64 z), .v (.int .i64 d), .v (.int .i64 sp), .v (.int .i64 sl), .v (.int .i64 an)] fun r => r = .ag (geoC (someG z d sp sl an)) := by
  have h1 := modU_in (x := z) (n := 4) (by decide) (by decide)
  have h2 := modU_in (x := d) (n := 4) (by decide) (by decide)
  have h4 := modU_in (x := sl) (n := 17) (by decide) (by decide)
  have h5 := modU_in (x := an) (n := 3) (by decide) (by decide)
  refine Fn.of tys_ok Tryz.func27 rfl rfl (Nat.le_of_ble_eq_true rfl) ?_
  conv => whnf
  repeat' (refine And.intro (by decide) ?_; conv => whnf)
  refine ⟨_, fun _ _ h => h, ?_⟩
  simp only [geoC, someG]
  rw [← wi (n := 1 + modU z 4) (by omega), ← wi (n := 1 + modU d 4) (by omega), ← wi (n := 14 + modU sl 17) (by omega), ← wi (n := 1 + modU an 3) (by omega)]
  rfl
def firstA (g : Geo) (s : ByteArray) : An := ⟨1, 0, 0, 1, 0, s, List.replicate g.z.toNat ⟨(List.range (g.d + 1).toNat).map Int.ofNat, g.d + 1, 0⟩⟩
def rangeR (n : Nat) : List (List AV) := (List.range n).map fun i => [.v (.int .i64 (i : Nat))]
theorem rangeR_succ (n : Nat) : rangeR (n + 1) = rangeR n ++ [[.v (.int .i64 (n : Nat))]] := by simp [rangeR, List.range_succ]
theorem rangeR_get {n i : Nat} (h : i < n) : (rangeR n).getD i [] = [.v (.int .i64 (i : Nat))] := getD_range h
def home0 (g : Geo) : List AV := [.sl 1 (g.d + 1).toNat fun i => (rangeR (g.d + 1).toNat).getD i [], .v (.int .i64 (g.d + 1)), .v (.int .i64 0)]
theorem home0_sub (g : Geo) : SubL (home0 g) (hmC ⟨(List.range (g.d + 1).toNat).map Int.ofNat, g.d + 1, 0⟩) :=
  ⟨fun _ _ h => Rd.congr (by simp) (fun i hi => by rw [rangeR_get hi, getD_range hi]; rfl) h, fun _ _ h => h, fun _ _ h => h, trivial⟩
theorem first_fn (g : Geo) (s : ByteArray) (hg : okG g = true) : Fn Tryz.prog 28 [.ag (geoC g), .v (.string s)] fun r => r = .ag (anC (firstA g s)) := by
  obtain ⟨h1, h2, h3, h4, h5⟩ := okG_iff.1 hg
  have w1 : IntKind.i64.wrap (g.d + 1) = g.d + 1 := wi (by omega)
  refine Fn.of tys_ok Tryz.func28 rfl rfl (Nat.le_of_ble_eq_true rfl) ?_
  conv => whnf
  refine aLoop.rule Nat (fun k => ([(2, .bp 0 0), (4, .bp 1 0), (5, .bp 2 0), (6, .v (.int .i64 k))], [.box 23 (geoC g), .box 26 [.v (.int .i64 0), .v (.int .i64 0), .v (.int .i64 0), .v (.int .i64 0), .v (.int .i64 0), .v (.string ⟨#[]⟩), .v (.slice none 0 0)], .box 26 [.v (.int .i64 1), .v (.int .i64 0), .v (.int .i64 0), .v (.int .i64 1), .v (.int .i64 0), .v (.string s), .ow 3 k], .row 58 3 (List.replicate k (home0 g))])) (fun k => k ≤ g.z.toNat) (fun k => g.z.toNat - k) 0 (Nat.zero_le _) ⟨[(1002006, 58, 3)], ⟨rfl, rfl, trivial⟩, ⟨rfl, rfl, rfl, rfl, trivial⟩, ⟨rfl, rfl, rfl, rfl, trivial⟩, rfl, rfl, rfl⟩ ?_
  intro k hk
  conv => whnf
  refine boolI (fun t1 => ?_) (fun t1 => ?_) <;> (repeat rw [Int.toNat_natCast] at t1) <;> conv => whnf
  · refine aLoop.rule Nat (fun j => ([(2, .bp 0 0), (4, .bp 1 0), (5, .bp 2 0), (6, .v (.int .i64 k)), (7, .bp 4 0), (8, .v (.int .i64 j))], [.box 23 (geoC g), .box 26 [.v (.int .i64 0), .v (.int .i64 0), .v (.int .i64 0), .v (.int .i64 0), .v (.int .i64 0), .v (.string ⟨#[]⟩), .v (.slice none 0 0)], .box 26 [.v (.int .i64 1), .v (.int .i64 0), .v (.int .i64 0), .v (.int .i64 1), .v (.int .i64 0), .v (.string s), .ow 3 k], .row 58 3 (List.replicate k (home0 g)), .box 58 [.ow 5 j, .v (.int .i64 (g.d + 1)), .v (.int .i64 0)], .row 3 1 (rangeR j)])) (fun j => j ≤ (g.d + 1).toNat) (fun j => (g.d + 1).toNat - j) 0 (Nat.zero_le _) ⟨[(1004000, 3, 1)], ⟨rfl, rfl, trivial⟩, ⟨rfl, rfl, rfl, rfl, rfl, rfl, trivial⟩, ⟨rfl, rfl, rfl, rfl, by rw [w1]; rfl, rfl, trivial⟩, rfl, rfl, rfl⟩ ?_
    intro j hj
    conv => whnf
    refine boolI (fun t2 => ?_) (fun t2 => ?_) <;> (repeat rw [Int.toNat_natCast] at t2) <;> conv => whnf
    · refine And.intro rfl ?_
      conv => whnf
      refine And.intro ⟨by simp [rangeR], by omega⟩ ?_
      conv => whnf
      exact ⟨j + 1, by omega, by omega, (Wk.plain (by repeat' first | exact trivial | exact rfl | refine And.intro ?_ ?_ | exact wsucc (by omega) | exact congrArg (AB.row _ _) (rangeR_succ j)) (by repeat' first | exact trivial | exact rfl | refine And.intro ?_ ?_ | exact wsucc (by omega) | exact congrArg (AB.row _ _) (rangeR_succ j)) rfl rfl rfl)⟩
    · have ej : j = (g.d + 1).toNat := by omega
      refine And.intro (by simp [rangeR]) ?_
      conv => whnf
      refine And.intro rfl ?_
      conv => whnf
      refine And.intro ⟨by simp, by omega⟩ ?_
      conv => whnf
      have er : AB.row 58 3 (List.replicate (k + 1) (home0 g)) = .row 58 3 (List.replicate k (home0 g) ++ [[AV.sl 1 j fun i => (rangeR j).getD i [], .v (.int .i64 (g.d + 1)), .v (.int .i64 0)]]) := by
        rw [List.replicate_succ', home0, ← ej]
      exact ⟨k + 1, by omega, by omega, (Wk.plain (by repeat' first | exact trivial | exact rfl | refine And.intro ?_ ?_ | exact wsucc (by omega) | exact er) (by repeat' first | exact trivial | exact rfl | refine And.intro ?_ ?_ | exact wsucc (by omega) | exact er) rfl rfl rfl)⟩
  · refine And.intro (by simp) ?_
    conv => whnf
    have ek : k = g.z.toNat := by omega
    refine ⟨.ag (anC (firstA g s)), fun c u h => ?_, rfl⟩
    refine ag_sub ?_ c u h
    refine ⟨fun _ _ h => h, fun _ _ h => h, fun _ _ h => h, fun _ _ h => h, fun _ _ h => h, fun _ _ h => h, fun c u h => Rd.sub (by simp [firstA, ek]) (fun i hi => ?_) h, trivial⟩
    rw [firstA, List.getD_eq_getElem?_getD, List.getD_eq_getElem?_getD, List.getElem?_replicate_of_lt hi, List.getElem?_replicate_of_lt (by omega)]
    exact home0_sub g
/-- What a record's cell says. -/
theorem says_cell {g : Geo} {r : Rc} {copy slot : Int} (hg : okG g = true) (hok : okR g r = true) (hl : okL g copy slot = true) : saysR g ⟨0, cellB g r copy slot⟩ copy slot = some r := by
  have hb := logAt_bounds hg hl
  have hs := okR_seq hok
  have hn := recB_short hok
  obtain ⟨h1, h2, h3, h4⟩ := seal_open (a := logAt g copy slot) (s := r.seq) (p := recB r) ⟨hb.1, hb.2, hs.1, hs.2, by omega⟩
  unfold saysR
  rw [hg, hl]
  simp only [cellB, h1, h2, h3, h4, readR_recB hok]
  rfl
theorem says_err {g : Geo} {x : Gt} {copy slot : Int} (h : x.err ≠ 0) : saysR g x copy slot = none := by
  unfold saysR
  rw [decide_eq_false h]
  simp
theorem says_bad {g : Geo} {x : Gt} {copy slot : Int} (h : openE x.bytes ≠ 0) : saysR g x copy slot = none := by
  unfold saysR
  rw [decide_eq_false h]
  simp
end Go.Proofs.YteecmgonbdbhdaaGreatDoor.A
end

/-
Package casematelaw17: its laws wake.
-/
section
namespace Go.Proofs.YteecmgonbdbhdaaGreatDoor.A
open Go.RowKit

theorem look_is {g : Geo} {a : An} {x y : Gt} {slot seq at_ of_ left : Int} {q : Rc × List Int × Int} (hl : a.label.size ≤ 1000000) (hh : a.homes.length ≤ 1000000) (hx : x.bytes.length ≤ 100000) (hy : y.bytes.length ≤ 100000) (hg : okG g = true) (ha : anOk g a = true) (hs : inB slot 0 (g.sl - 1) = true)
    (h : lookR g a x y slot seq at_ of_ left = q) :
    Fn Tryz.prog 65 [.ag (geoC g), .ag (anC a), .ag (gotC x), .ag (gotC y), .v (.int .i64 slot), .v (.int .i64 seq), .v (.int .i64 at_), .v (.int .i64 of_), .v (.int .i64 left)]
      fun r => r = .tp [.ag (rcC q.1), iA q.2.1, .v (.int .i64 q.2.2), .v (.int .i64 0)] := by
  have s := look_fn g a x y slot seq at_ of_ left hl hh hx hy
  rw [hg, ha, hs, h] at s
  exact s
theorem lab_nil : labE [] = 0 := by rw [← labW_labE, labW]; simp
theorem firstA_ok {g : Geo} {s : ByteArray} (hg : okG g = true) (hs : labE s.data.toList = 0) : anOk g (firstA g s) = true := by
  obtain ⟨h1, h2, h3, h4, h5⟩ := okG_iff.1 hg
  have hp : plOk ((List.range (g.d + 1).toNat).map Int.ofNat) (g.d + 1) = true := by
    rcases (show g.d = 1 ∨ g.d = 2 ∨ g.d = 3 ∨ g.d = 4 by omega) with h | h | h | h <;> rw [h] <;> decide
  have hh : hmOk g ⟨(List.range (g.d + 1).toNat).map Int.ofNat, g.d + 1, 0⟩ = true := by
    simp [hmOk, hp, inB]
    omega
  simp [anOk, firstA, hs, inB]
  exact ⟨by omega, by omega, .inr hh⟩
def g17 : Geo := ⟨1, 1, 0, 14, 1⟩
def a17 : An := firstA g17 ⟨#[]⟩
def r17 : Rc := ⟨2, 1, 0, 1, 2, ⟨0, 0, []⟩⟩
theorem cellB_short {g : Geo} {r : Rc} (h : okR g r = true) (copy slot : Int) : (cellB g r copy slot).length ≤ 100000 := by
  have := recB_short h
  rw [cellB, sealB_len]
  omega
end Go.Proofs.YteecmgonbdbhdaaGreatDoor.A
end
