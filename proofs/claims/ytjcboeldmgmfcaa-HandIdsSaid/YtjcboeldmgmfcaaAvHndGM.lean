/-
HandIds: which numbers are open.
-/
import Derived.Test.YtjcboeldmgmfcaaComP4
namespace Go.Proofs.Ytjcboeldmgmfcaa.A
open Go.RowKit

/-- The handles of three numbers, those that are open. -/
def stI (a b c : Bool) : List Hd := (if a then [⟨0, [], []⟩] else []) ++ ((if b then [⟨1, [], []⟩] else []) ++ (if c then [⟨2, [], []⟩] else []))
def cnt (a b c : Bool) : Int := (if a then 1 else 0) + ((if b then 1 else 0) + (if c then 1 else 0))
theorem stI_ok (a b c : Bool) : (stI a b c).length ≤ 3 ∧ ∀ h ∈ stI a b c, HdB h := by
  refine ⟨by cases a <;> cases b <;> cases c <;> decide, fun h hh => ?_⟩
  have : h.lbas = [] ∧ h.blocks = [] := by
    simp only [stI, List.mem_append] at hh
    rcases hh with hh | hh | hh <;> split at hh <;> simp at hh <;> subst hh <;> exact ⟨rfl, rfl⟩
  exact ⟨by rw [this.1]; decide, by rw [this.2]; decide, fun x hx => by rw [this.2] at hx; cases hx⟩
def off (m : Nat) (a b c : Bool) : Bool × Bool × Bool := (if m = 0 then false else a, if m = 1 then false else b, if m = 2 then false else c)
def isO (m : Nat) (a b c : Bool) : Bool := if m = 0 then a else if m = 1 then b else c
theorem close_tab (m : Nat) (hm : m < 3) (a b c : Bool) : closeH (stI a b c) m = if isO m a b c then (stI (off m a b c).1 (off m a b c).2.1 (off m a b c).2.2, ⟨m, [], []⟩, 0) else ([], ⟨0, [], []⟩, 18) := by
  have : m = 0 ∨ m = 1 ∨ m = 2 := by omega
  rcases this with rfl | rfl | rfl <;> cases a <;> cases b <;> cases c <;> rfl
def least (a b c : Bool) : Nat := if !a then 0 else if !b then 1 else if !c then 2 else 3
theorem open_tab (a b c : Bool) : openH (stI a b c) = if a && (b && c) then ([], 0, 19) else (stI true (a || b) ((a && b) || c), (least a b c : Int), 0) := by
  cases a <;> cases b <;> cases c <;> rfl
/-- The handles, or nothing yet. -/
def stA (ini a b c : Bool) : AV := match ini with | true => .v (.slice none 0 0) | false => hdsA (stI a b c)
theorem stA_rd {ini a b c : Bool} (h : ini = true → a = false ∧ b = false ∧ c = false) (x : Ctx) (u : Value) (hr : Rd (stA ini a b c) x u) : Rd (hdsA (stI a b c)) x u := by
  cases ini with
  | true => obtain ⟨rfl, rfl, rfl⟩ := h rfl; exact nil_hds x u hr
  | false => exact hr
theorem rem6 (x : Int) : ∃ m : Nat, m < 6 ∧ IntKind.i64.wrap ((IntKind.u64.wrap x).tmod 6) = m := by
  have h1 : 0 ≤ IntKind.u64.wrap x := by rw [IntKind.wrap_u64]; omega
  obtain ⟨n, hn⟩ := Int.eq_ofNat_of_zero_le h1
  rw [hn]
  refine ⟨n % 6, Nat.mod_lt _ (by omega), ?_⟩
  rw [show ((n : Int).tmod 6) = ((n % 6 : Nat) : Int) by rw [Int.tmod_eq_emod_of_nonneg (by omega)]; omega, wi (by omega)]
set_option maxHeartbeats 4000000 in
set_option maxRecDepth 100000 in
theorem hids_fn (l : List Int) : Fn Try.prog 5 [iA l] fun r => r = .v (.bool true) := by
  refine Fn.of tys_ok Try.func5 rfl rfl (Nat.le_of_ble_eq_true rfl) ?_
  conv => whnf
  refine boolK_intro (fun h1 => ?_) (fun h1 => ?_) <;> simp only [decide_eq_true_eq, decide_eq_false_iff_not] at h1 <;> conv => whnf
  · exact ⟨_, fun _ _ h => h, rfl⟩
  refine And.intro ⟨rfl, by decide, by decide⟩ ?_
  conv => whnf
  refine aLoop.ruleC (Nat × Bool × Bool × Bool × Bool) (fun s => ([(0, iA l), (3, stA s.2.1 s.2.2.1 s.2.2.2.1 s.2.2.2.2), (4, .ow 0 3), (5, .v (.int .i64 (cnt s.2.2.1 s.2.2.2.1 s.2.2.2.2))), (6, .v (.int .i64 s.1))], [.row 4 1 [[.v (.bool s.2.2.1)], [.v (.bool s.2.2.2.1)], [.v (.bool s.2.2.2.2)]]])) (fun s => s.1 ≤ l.length ∧ (s.2.1 = true → s.2.2.1 = false ∧ s.2.2.2.1 = false ∧ s.2.2.2.2 = false)) (fun s => l.length - s.1) (0, true, false, false, false) ⟨Nat.zero_le _, fun _ => ⟨rfl, rfl, rfl⟩⟩ (Wk.conv ⟨[], trivial, ⟨rfl, rfl, rfl, rfl, rfl, trivial⟩, ⟨rfl, trivial⟩, rfl, rfl, rfl⟩) ?_
  rintro ⟨k, ini, a, b, c⟩ ⟨hk, hini⟩
  simp only at hk hini
  cases ini with
  | true =>
    obtain ⟨rfl, rfl, rfl⟩ := hini rfl
    have hok := stI_ok false false false
    conv => whnf
    refine boolI (fun h2 => ?_) (fun h2 => ?_) <;> (repeat rw [Int.toNat_natCast] at h2) <;> conv => whnf
    · have hk' : k < l.length := by simpa using h2
      obtain ⟨m, hm, e⟩ := rem6 (l.getD k 0)
      refine aSeq.go ?_
      conv => whnf
      refine And.intro ⟨by simp, by simpa using hk'⟩ ?_
      conv => whnf
      refine And.intro (by decide) ?_
      conv => whnf
      rw [Int.toNat_natCast, e]
      refine aSeq.go ?_
      conv => whnf
      refine boolK_intro (fun h3 => ?_) (fun h3 => ?_) <;> simp only [decide_eq_true_eq, decide_eq_false_iff_not] at h3 <;> conv => whnf
      · have hm3 : m = 0 ∨ m = 1 ∨ m = 2 := by omega
        rcases hm3 with rfl | rfl | rfl
        · have cC := hclose_fn (stI false false false) (0 : Nat) (by decide) hok.2
          rw [close_tab 0 (by decide)] at cC
          refine ACalls.sub [hdsA (stI false false false), .v (.int .i64 ((0 : Nat) : Int))] ⟨nil_hds, fun _ _ h => h, trivial⟩ ?_
          refine Fn.closed (cC) rfl ?_
          rintro _ rfl
          conv => whnf
          repeat' (first | (refine aSeq.go ?_; conv => whnf) | (refine And.intro ⟨by decide, by decide⟩ ?_; conv => whnf) | (refine And.intro ⟨rfl, rfl, by decide⟩ ?_; conv => whnf) | (refine aLoop.rounds 4 ?_; conv => whnf) | fail)
          exact ⟨(k + 1, true, false, false, false), ⟨hk', fun h => (by first | exact ⟨rfl, rfl, rfl⟩ | cases h)⟩, by show l.length - (k + 1) < l.length - k; omega, Wk.conv ⟨[], trivial, ⟨rfl, rfl, rfl, rfl, wsucc (by omega), trivial⟩, ⟨rfl, trivial⟩, rfl, rfl, rfl⟩⟩
        · have cC := hclose_fn (stI false false false) (1 : Nat) (by decide) hok.2
          rw [close_tab 1 (by decide)] at cC
          refine ACalls.sub [hdsA (stI false false false), .v (.int .i64 ((1 : Nat) : Int))] ⟨nil_hds, fun _ _ h => h, trivial⟩ ?_
          refine Fn.closed (cC) rfl ?_
          rintro _ rfl
          conv => whnf
          repeat' (first | (refine aSeq.go ?_; conv => whnf) | (refine And.intro ⟨by decide, by decide⟩ ?_; conv => whnf) | (refine And.intro ⟨rfl, rfl, by decide⟩ ?_; conv => whnf) | (refine aLoop.rounds 4 ?_; conv => whnf) | fail)
          exact ⟨(k + 1, true, false, false, false), ⟨hk', fun h => (by first | exact ⟨rfl, rfl, rfl⟩ | cases h)⟩, by show l.length - (k + 1) < l.length - k; omega, Wk.conv ⟨[], trivial, ⟨rfl, rfl, rfl, rfl, wsucc (by omega), trivial⟩, ⟨rfl, trivial⟩, rfl, rfl, rfl⟩⟩
        · have cC := hclose_fn (stI false false false) (2 : Nat) (by decide) hok.2
          rw [close_tab 2 (by decide)] at cC
          refine ACalls.sub [hdsA (stI false false false), .v (.int .i64 ((2 : Nat) : Int))] ⟨nil_hds, fun _ _ h => h, trivial⟩ ?_
          refine Fn.closed (cC) rfl ?_
          rintro _ rfl
          conv => whnf
          repeat' (first | (refine aSeq.go ?_; conv => whnf) | (refine And.intro ⟨by decide, by decide⟩ ?_; conv => whnf) | (refine And.intro ⟨rfl, rfl, by decide⟩ ?_; conv => whnf) | (refine aLoop.rounds 4 ?_; conv => whnf) | fail)
          exact ⟨(k + 1, true, false, false, false), ⟨hk', fun h => (by first | exact ⟨rfl, rfl, rfl⟩ | cases h)⟩, by show l.length - (k + 1) < l.length - k; omega, Wk.conv ⟨[], trivial, ⟨rfl, rfl, rfl, rfl, wsucc (by omega), trivial⟩, ⟨rfl, trivial⟩, rfl, rfl, rfl⟩⟩
      · refine ACalls.sub [hdsA (stI false false false)] ⟨nil_hds, trivial⟩ ?_
        have cO := hopen_fn (stI false false false) (by decide) hok.2
        rw [open_tab] at cO
        refine Fn.closed (cO) rfl ?_
        rintro _ rfl
        conv => whnf
        repeat' (first | (refine aSeq.go ?_; conv => whnf) | (refine And.intro ⟨by decide, by decide⟩ ?_; conv => whnf) | (refine And.intro ⟨rfl, rfl, by decide⟩ ?_; conv => whnf) | (refine aLoop.rounds 4 ?_; conv => whnf) | fail)
        exact ⟨(k + 1, false, true, false, false), ⟨hk', fun h => (by first | exact ⟨rfl, rfl, rfl⟩ | cases h)⟩, by show l.length - (k + 1) < l.length - k; omega, Wk.conv ⟨[], trivial, ⟨rfl, rfl, rfl, rfl, wsucc (by omega), trivial⟩, ⟨rfl, trivial⟩, rfl, rfl, rfl⟩⟩
    · refine Fn.closed (wakes_fn) rfl ?_
      rintro _ rfl
      conv => whnf
      exact ⟨_, fun _ _ h => h, rfl⟩
  | false =>
    cases a with
    | false =>
      cases b with
      | false =>
        cases c with
        | false =>
          have hok := stI_ok false false false
          conv => whnf
          refine boolI (fun h2 => ?_) (fun h2 => ?_) <;> (repeat rw [Int.toNat_natCast] at h2) <;> conv => whnf
          · have hk' : k < l.length := by simpa using h2
            obtain ⟨m, hm, e⟩ := rem6 (l.getD k 0)
            refine aSeq.go ?_
            conv => whnf
            refine And.intro ⟨by simp, by simpa using hk'⟩ ?_
            conv => whnf
            refine And.intro (by decide) ?_
            conv => whnf
            rw [Int.toNat_natCast, e]
            refine aSeq.go ?_
            conv => whnf
            refine boolK_intro (fun h3 => ?_) (fun h3 => ?_) <;> simp only [decide_eq_true_eq, decide_eq_false_iff_not] at h3 <;> conv => whnf
            · have hm3 : m = 0 ∨ m = 1 ∨ m = 2 := by omega
              rcases hm3 with rfl | rfl | rfl
              · have cC := hclose_fn (stI false false false) (0 : Nat) (by decide) hok.2
                rw [close_tab 0 (by decide)] at cC
                refine ACalls.sub [hdsA (stI false false false), .v (.int .i64 ((0 : Nat) : Int))] ⟨fun _ _ h => h, fun _ _ h => h, trivial⟩ ?_
                refine Fn.closed (cC) rfl ?_
                rintro _ rfl
                conv => whnf
                repeat' (first | (refine aSeq.go ?_; conv => whnf) | (refine And.intro ⟨by decide, by decide⟩ ?_; conv => whnf) | (refine And.intro ⟨rfl, rfl, by decide⟩ ?_; conv => whnf) | (refine aLoop.rounds 4 ?_; conv => whnf) | fail)
                exact ⟨(k + 1, false, false, false, false), ⟨hk', fun h => (by first | exact ⟨rfl, rfl, rfl⟩ | cases h)⟩, by show l.length - (k + 1) < l.length - k; omega, Wk.conv ⟨[], trivial, ⟨rfl, rfl, rfl, rfl, wsucc (by omega), trivial⟩, ⟨rfl, trivial⟩, rfl, rfl, rfl⟩⟩
              · have cC := hclose_fn (stI false false false) (1 : Nat) (by decide) hok.2
                rw [close_tab 1 (by decide)] at cC
                refine ACalls.sub [hdsA (stI false false false), .v (.int .i64 ((1 : Nat) : Int))] ⟨fun _ _ h => h, fun _ _ h => h, trivial⟩ ?_
                refine Fn.closed (cC) rfl ?_
                rintro _ rfl
                conv => whnf
                repeat' (first | (refine aSeq.go ?_; conv => whnf) | (refine And.intro ⟨by decide, by decide⟩ ?_; conv => whnf) | (refine And.intro ⟨rfl, rfl, by decide⟩ ?_; conv => whnf) | (refine aLoop.rounds 4 ?_; conv => whnf) | fail)
                exact ⟨(k + 1, false, false, false, false), ⟨hk', fun h => (by first | exact ⟨rfl, rfl, rfl⟩ | cases h)⟩, by show l.length - (k + 1) < l.length - k; omega, Wk.conv ⟨[], trivial, ⟨rfl, rfl, rfl, rfl, wsucc (by omega), trivial⟩, ⟨rfl, trivial⟩, rfl, rfl, rfl⟩⟩
              · have cC := hclose_fn (stI false false false) (2 : Nat) (by decide) hok.2
                rw [close_tab 2 (by decide)] at cC
                refine ACalls.sub [hdsA (stI false false false), .v (.int .i64 ((2 : Nat) : Int))] ⟨fun _ _ h => h, fun _ _ h => h, trivial⟩ ?_
                refine Fn.closed (cC) rfl ?_
                rintro _ rfl
                conv => whnf
                repeat' (first | (refine aSeq.go ?_; conv => whnf) | (refine And.intro ⟨by decide, by decide⟩ ?_; conv => whnf) | (refine And.intro ⟨rfl, rfl, by decide⟩ ?_; conv => whnf) | (refine aLoop.rounds 4 ?_; conv => whnf) | fail)
                exact ⟨(k + 1, false, false, false, false), ⟨hk', fun h => (by first | exact ⟨rfl, rfl, rfl⟩ | cases h)⟩, by show l.length - (k + 1) < l.length - k; omega, Wk.conv ⟨[], trivial, ⟨rfl, rfl, rfl, rfl, wsucc (by omega), trivial⟩, ⟨rfl, trivial⟩, rfl, rfl, rfl⟩⟩
            · refine ACalls.sub [hdsA (stI false false false)] ⟨fun _ _ h => h, trivial⟩ ?_
              have cO := hopen_fn (stI false false false) (by decide) hok.2
              rw [open_tab] at cO
              refine Fn.closed (cO) rfl ?_
              rintro _ rfl
              conv => whnf
              repeat' (first | (refine aSeq.go ?_; conv => whnf) | (refine And.intro ⟨by decide, by decide⟩ ?_; conv => whnf) | (refine And.intro ⟨rfl, rfl, by decide⟩ ?_; conv => whnf) | (refine aLoop.rounds 4 ?_; conv => whnf) | fail)
              exact ⟨(k + 1, false, true, false, false), ⟨hk', fun h => (by first | exact ⟨rfl, rfl, rfl⟩ | cases h)⟩, by show l.length - (k + 1) < l.length - k; omega, Wk.conv ⟨[], trivial, ⟨rfl, rfl, rfl, rfl, wsucc (by omega), trivial⟩, ⟨rfl, trivial⟩, rfl, rfl, rfl⟩⟩
          · refine Fn.closed (wakes_fn) rfl ?_
            rintro _ rfl
            conv => whnf
            exact ⟨_, fun _ _ h => h, rfl⟩
        | true =>
          have hok := stI_ok false false true
          conv => whnf
          refine boolI (fun h2 => ?_) (fun h2 => ?_) <;> (repeat rw [Int.toNat_natCast] at h2) <;> conv => whnf
          · have hk' : k < l.length := by simpa using h2
            obtain ⟨m, hm, e⟩ := rem6 (l.getD k 0)
            refine aSeq.go ?_
            conv => whnf
            refine And.intro ⟨by simp, by simpa using hk'⟩ ?_
            conv => whnf
            refine And.intro (by decide) ?_
            conv => whnf
            rw [Int.toNat_natCast, e]
            refine aSeq.go ?_
            conv => whnf
            refine boolK_intro (fun h3 => ?_) (fun h3 => ?_) <;> simp only [decide_eq_true_eq, decide_eq_false_iff_not] at h3 <;> conv => whnf
            · have hm3 : m = 0 ∨ m = 1 ∨ m = 2 := by omega
              rcases hm3 with rfl | rfl | rfl
              · have cC := hclose_fn (stI false false true) (0 : Nat) (by decide) hok.2
                rw [close_tab 0 (by decide)] at cC
                refine ACalls.sub [hdsA (stI false false true), .v (.int .i64 ((0 : Nat) : Int))] ⟨fun _ _ h => h, fun _ _ h => h, trivial⟩ ?_
                refine Fn.closed (cC) rfl ?_
                rintro _ rfl
                conv => whnf
                repeat' (first | (refine aSeq.go ?_; conv => whnf) | (refine And.intro ⟨by decide, by decide⟩ ?_; conv => whnf) | (refine And.intro ⟨rfl, rfl, by decide⟩ ?_; conv => whnf) | (refine aLoop.rounds 4 ?_; conv => whnf) | fail)
                exact ⟨(k + 1, false, false, false, true), ⟨hk', fun h => (by first | exact ⟨rfl, rfl, rfl⟩ | cases h)⟩, by show l.length - (k + 1) < l.length - k; omega, Wk.conv ⟨[], trivial, ⟨rfl, rfl, rfl, rfl, wsucc (by omega), trivial⟩, ⟨rfl, trivial⟩, rfl, rfl, rfl⟩⟩
              · have cC := hclose_fn (stI false false true) (1 : Nat) (by decide) hok.2
                rw [close_tab 1 (by decide)] at cC
                refine ACalls.sub [hdsA (stI false false true), .v (.int .i64 ((1 : Nat) : Int))] ⟨fun _ _ h => h, fun _ _ h => h, trivial⟩ ?_
                refine Fn.closed (cC) rfl ?_
                rintro _ rfl
                conv => whnf
                repeat' (first | (refine aSeq.go ?_; conv => whnf) | (refine And.intro ⟨by decide, by decide⟩ ?_; conv => whnf) | (refine And.intro ⟨rfl, rfl, by decide⟩ ?_; conv => whnf) | (refine aLoop.rounds 4 ?_; conv => whnf) | fail)
                exact ⟨(k + 1, false, false, false, true), ⟨hk', fun h => (by first | exact ⟨rfl, rfl, rfl⟩ | cases h)⟩, by show l.length - (k + 1) < l.length - k; omega, Wk.conv ⟨[], trivial, ⟨rfl, rfl, rfl, rfl, wsucc (by omega), trivial⟩, ⟨rfl, trivial⟩, rfl, rfl, rfl⟩⟩
              · have cC := hclose_fn (stI false false true) (2 : Nat) (by decide) hok.2
                rw [close_tab 2 (by decide)] at cC
                refine ACalls.sub [hdsA (stI false false true), .v (.int .i64 ((2 : Nat) : Int))] ⟨fun _ _ h => h, fun _ _ h => h, trivial⟩ ?_
                refine Fn.closed (cC) rfl ?_
                rintro _ rfl
                conv => whnf
                repeat' (first | (refine aSeq.go ?_; conv => whnf) | (refine And.intro ⟨by decide, by decide⟩ ?_; conv => whnf) | (refine And.intro ⟨rfl, rfl, by decide⟩ ?_; conv => whnf) | (refine aLoop.rounds 4 ?_; conv => whnf) | fail)
                exact ⟨(k + 1, false, false, false, false), ⟨hk', fun h => (by first | exact ⟨rfl, rfl, rfl⟩ | cases h)⟩, by show l.length - (k + 1) < l.length - k; omega, Wk.conv ⟨[], trivial, ⟨rfl, rfl, rfl, rfl, wsucc (by omega), trivial⟩, ⟨rfl, trivial⟩, rfl, rfl, rfl⟩⟩
            · refine ACalls.sub [hdsA (stI false false true)] ⟨fun _ _ h => h, trivial⟩ ?_
              have cO := hopen_fn (stI false false true) (by decide) hok.2
              rw [open_tab] at cO
              refine Fn.closed (cO) rfl ?_
              rintro _ rfl
              conv => whnf
              repeat' (first | (refine aSeq.go ?_; conv => whnf) | (refine And.intro ⟨by decide, by decide⟩ ?_; conv => whnf) | (refine And.intro ⟨rfl, rfl, by decide⟩ ?_; conv => whnf) | (refine aLoop.rounds 4 ?_; conv => whnf) | fail)
              exact ⟨(k + 1, false, true, false, true), ⟨hk', fun h => (by first | exact ⟨rfl, rfl, rfl⟩ | cases h)⟩, by show l.length - (k + 1) < l.length - k; omega, Wk.conv ⟨[], trivial, ⟨rfl, rfl, rfl, rfl, wsucc (by omega), trivial⟩, ⟨rfl, trivial⟩, rfl, rfl, rfl⟩⟩
          · refine Fn.closed (wakes_fn) rfl ?_
            rintro _ rfl
            conv => whnf
            exact ⟨_, fun _ _ h => h, rfl⟩
      | true =>
        cases c with
        | false =>
          have hok := stI_ok false true false
          conv => whnf
          refine boolI (fun h2 => ?_) (fun h2 => ?_) <;> (repeat rw [Int.toNat_natCast] at h2) <;> conv => whnf
          · have hk' : k < l.length := by simpa using h2
            obtain ⟨m, hm, e⟩ := rem6 (l.getD k 0)
            refine aSeq.go ?_
            conv => whnf
            refine And.intro ⟨by simp, by simpa using hk'⟩ ?_
            conv => whnf
            refine And.intro (by decide) ?_
            conv => whnf
            rw [Int.toNat_natCast, e]
            refine aSeq.go ?_
            conv => whnf
            refine boolK_intro (fun h3 => ?_) (fun h3 => ?_) <;> simp only [decide_eq_true_eq, decide_eq_false_iff_not] at h3 <;> conv => whnf
            · have hm3 : m = 0 ∨ m = 1 ∨ m = 2 := by omega
              rcases hm3 with rfl | rfl | rfl
              · have cC := hclose_fn (stI false true false) (0 : Nat) (by decide) hok.2
                rw [close_tab 0 (by decide)] at cC
                refine ACalls.sub [hdsA (stI false true false), .v (.int .i64 ((0 : Nat) : Int))] ⟨fun _ _ h => h, fun _ _ h => h, trivial⟩ ?_
                refine Fn.closed (cC) rfl ?_
                rintro _ rfl
                conv => whnf
                repeat' (first | (refine aSeq.go ?_; conv => whnf) | (refine And.intro ⟨by decide, by decide⟩ ?_; conv => whnf) | (refine And.intro ⟨rfl, rfl, by decide⟩ ?_; conv => whnf) | (refine aLoop.rounds 4 ?_; conv => whnf) | fail)
                exact ⟨(k + 1, false, false, true, false), ⟨hk', fun h => (by first | exact ⟨rfl, rfl, rfl⟩ | cases h)⟩, by show l.length - (k + 1) < l.length - k; omega, Wk.conv ⟨[], trivial, ⟨rfl, rfl, rfl, rfl, wsucc (by omega), trivial⟩, ⟨rfl, trivial⟩, rfl, rfl, rfl⟩⟩
              · have cC := hclose_fn (stI false true false) (1 : Nat) (by decide) hok.2
                rw [close_tab 1 (by decide)] at cC
                refine ACalls.sub [hdsA (stI false true false), .v (.int .i64 ((1 : Nat) : Int))] ⟨fun _ _ h => h, fun _ _ h => h, trivial⟩ ?_
                refine Fn.closed (cC) rfl ?_
                rintro _ rfl
                conv => whnf
                repeat' (first | (refine aSeq.go ?_; conv => whnf) | (refine And.intro ⟨by decide, by decide⟩ ?_; conv => whnf) | (refine And.intro ⟨rfl, rfl, by decide⟩ ?_; conv => whnf) | (refine aLoop.rounds 4 ?_; conv => whnf) | fail)
                exact ⟨(k + 1, false, false, false, false), ⟨hk', fun h => (by first | exact ⟨rfl, rfl, rfl⟩ | cases h)⟩, by show l.length - (k + 1) < l.length - k; omega, Wk.conv ⟨[], trivial, ⟨rfl, rfl, rfl, rfl, wsucc (by omega), trivial⟩, ⟨rfl, trivial⟩, rfl, rfl, rfl⟩⟩
              · have cC := hclose_fn (stI false true false) (2 : Nat) (by decide) hok.2
                rw [close_tab 2 (by decide)] at cC
                refine ACalls.sub [hdsA (stI false true false), .v (.int .i64 ((2 : Nat) : Int))] ⟨fun _ _ h => h, fun _ _ h => h, trivial⟩ ?_
                refine Fn.closed (cC) rfl ?_
                rintro _ rfl
                conv => whnf
                repeat' (first | (refine aSeq.go ?_; conv => whnf) | (refine And.intro ⟨by decide, by decide⟩ ?_; conv => whnf) | (refine And.intro ⟨rfl, rfl, by decide⟩ ?_; conv => whnf) | (refine aLoop.rounds 4 ?_; conv => whnf) | fail)
                exact ⟨(k + 1, false, false, true, false), ⟨hk', fun h => (by first | exact ⟨rfl, rfl, rfl⟩ | cases h)⟩, by show l.length - (k + 1) < l.length - k; omega, Wk.conv ⟨[], trivial, ⟨rfl, rfl, rfl, rfl, wsucc (by omega), trivial⟩, ⟨rfl, trivial⟩, rfl, rfl, rfl⟩⟩
            · refine ACalls.sub [hdsA (stI false true false)] ⟨fun _ _ h => h, trivial⟩ ?_
              have cO := hopen_fn (stI false true false) (by decide) hok.2
              rw [open_tab] at cO
              refine Fn.closed (cO) rfl ?_
              rintro _ rfl
              conv => whnf
              repeat' (first | (refine aSeq.go ?_; conv => whnf) | (refine And.intro ⟨by decide, by decide⟩ ?_; conv => whnf) | (refine And.intro ⟨rfl, rfl, by decide⟩ ?_; conv => whnf) | (refine aLoop.rounds 4 ?_; conv => whnf) | fail)
              exact ⟨(k + 1, false, true, true, false), ⟨hk', fun h => (by first | exact ⟨rfl, rfl, rfl⟩ | cases h)⟩, by show l.length - (k + 1) < l.length - k; omega, Wk.conv ⟨[], trivial, ⟨rfl, rfl, rfl, rfl, wsucc (by omega), trivial⟩, ⟨rfl, trivial⟩, rfl, rfl, rfl⟩⟩
          · refine Fn.closed (wakes_fn) rfl ?_
            rintro _ rfl
            conv => whnf
            exact ⟨_, fun _ _ h => h, rfl⟩
        | true =>
          have hok := stI_ok false true true
          conv => whnf
          refine boolI (fun h2 => ?_) (fun h2 => ?_) <;> (repeat rw [Int.toNat_natCast] at h2) <;> conv => whnf
          · have hk' : k < l.length := by simpa using h2
            obtain ⟨m, hm, e⟩ := rem6 (l.getD k 0)
            refine aSeq.go ?_
            conv => whnf
            refine And.intro ⟨by simp, by simpa using hk'⟩ ?_
            conv => whnf
            refine And.intro (by decide) ?_
            conv => whnf
            rw [Int.toNat_natCast, e]
            refine aSeq.go ?_
            conv => whnf
            refine boolK_intro (fun h3 => ?_) (fun h3 => ?_) <;> simp only [decide_eq_true_eq, decide_eq_false_iff_not] at h3 <;> conv => whnf
            · have hm3 : m = 0 ∨ m = 1 ∨ m = 2 := by omega
              rcases hm3 with rfl | rfl | rfl
              · have cC := hclose_fn (stI false true true) (0 : Nat) (by decide) hok.2
                rw [close_tab 0 (by decide)] at cC
                refine ACalls.sub [hdsA (stI false true true), .v (.int .i64 ((0 : Nat) : Int))] ⟨fun _ _ h => h, fun _ _ h => h, trivial⟩ ?_
                refine Fn.closed (cC) rfl ?_
                rintro _ rfl
                conv => whnf
                repeat' (first | (refine aSeq.go ?_; conv => whnf) | (refine And.intro ⟨by decide, by decide⟩ ?_; conv => whnf) | (refine And.intro ⟨rfl, rfl, by decide⟩ ?_; conv => whnf) | (refine aLoop.rounds 4 ?_; conv => whnf) | fail)
                exact ⟨(k + 1, false, false, true, true), ⟨hk', fun h => (by first | exact ⟨rfl, rfl, rfl⟩ | cases h)⟩, by show l.length - (k + 1) < l.length - k; omega, Wk.conv ⟨[], trivial, ⟨rfl, rfl, rfl, rfl, wsucc (by omega), trivial⟩, ⟨rfl, trivial⟩, rfl, rfl, rfl⟩⟩
              · have cC := hclose_fn (stI false true true) (1 : Nat) (by decide) hok.2
                rw [close_tab 1 (by decide)] at cC
                refine ACalls.sub [hdsA (stI false true true), .v (.int .i64 ((1 : Nat) : Int))] ⟨fun _ _ h => h, fun _ _ h => h, trivial⟩ ?_
                refine Fn.closed (cC) rfl ?_
                rintro _ rfl
                conv => whnf
                repeat' (first | (refine aSeq.go ?_; conv => whnf) | (refine And.intro ⟨by decide, by decide⟩ ?_; conv => whnf) | (refine And.intro ⟨rfl, rfl, by decide⟩ ?_; conv => whnf) | (refine aLoop.rounds 4 ?_; conv => whnf) | fail)
                exact ⟨(k + 1, false, false, false, true), ⟨hk', fun h => (by first | exact ⟨rfl, rfl, rfl⟩ | cases h)⟩, by show l.length - (k + 1) < l.length - k; omega, Wk.conv ⟨[], trivial, ⟨rfl, rfl, rfl, rfl, wsucc (by omega), trivial⟩, ⟨rfl, trivial⟩, rfl, rfl, rfl⟩⟩
              · have cC := hclose_fn (stI false true true) (2 : Nat) (by decide) hok.2
                rw [close_tab 2 (by decide)] at cC
                refine ACalls.sub [hdsA (stI false true true), .v (.int .i64 ((2 : Nat) : Int))] ⟨fun _ _ h => h, fun _ _ h => h, trivial⟩ ?_
                refine Fn.closed (cC) rfl ?_
                rintro _ rfl
                conv => whnf
                repeat' (first | (refine aSeq.go ?_; conv => whnf) | (refine And.intro ⟨by decide, by decide⟩ ?_; conv => whnf) | (refine And.intro ⟨rfl, rfl, by decide⟩ ?_; conv => whnf) | (refine aLoop.rounds 4 ?_; conv => whnf) | fail)
                exact ⟨(k + 1, false, false, true, false), ⟨hk', fun h => (by first | exact ⟨rfl, rfl, rfl⟩ | cases h)⟩, by show l.length - (k + 1) < l.length - k; omega, Wk.conv ⟨[], trivial, ⟨rfl, rfl, rfl, rfl, wsucc (by omega), trivial⟩, ⟨rfl, trivial⟩, rfl, rfl, rfl⟩⟩
            · refine ACalls.sub [hdsA (stI false true true)] ⟨fun _ _ h => h, trivial⟩ ?_
              have cO := hopen_fn (stI false true true) (by decide) hok.2
              rw [open_tab] at cO
              refine Fn.closed (cO) rfl ?_
              rintro _ rfl
              conv => whnf
              repeat' (first | (refine aSeq.go ?_; conv => whnf) | (refine And.intro ⟨by decide, by decide⟩ ?_; conv => whnf) | (refine And.intro ⟨rfl, rfl, by decide⟩ ?_; conv => whnf) | (refine aLoop.rounds 4 ?_; conv => whnf) | fail)
              exact ⟨(k + 1, false, true, true, true), ⟨hk', fun h => (by first | exact ⟨rfl, rfl, rfl⟩ | cases h)⟩, by show l.length - (k + 1) < l.length - k; omega, Wk.conv ⟨[], trivial, ⟨rfl, rfl, rfl, rfl, wsucc (by omega), trivial⟩, ⟨rfl, trivial⟩, rfl, rfl, rfl⟩⟩
          · refine Fn.closed (wakes_fn) rfl ?_
            rintro _ rfl
            conv => whnf
            exact ⟨_, fun _ _ h => h, rfl⟩
    | true =>
      cases b with
      | false =>
        cases c with
        | false =>
          have hok := stI_ok true false false
          conv => whnf
          refine boolI (fun h2 => ?_) (fun h2 => ?_) <;> (repeat rw [Int.toNat_natCast] at h2) <;> conv => whnf
          · have hk' : k < l.length := by simpa using h2
            obtain ⟨m, hm, e⟩ := rem6 (l.getD k 0)
            refine aSeq.go ?_
            conv => whnf
            refine And.intro ⟨by simp, by simpa using hk'⟩ ?_
            conv => whnf
            refine And.intro (by decide) ?_
            conv => whnf
            rw [Int.toNat_natCast, e]
            refine aSeq.go ?_
            conv => whnf
            refine boolK_intro (fun h3 => ?_) (fun h3 => ?_) <;> simp only [decide_eq_true_eq, decide_eq_false_iff_not] at h3 <;> conv => whnf
            · have hm3 : m = 0 ∨ m = 1 ∨ m = 2 := by omega
              rcases hm3 with rfl | rfl | rfl
              · have cC := hclose_fn (stI true false false) (0 : Nat) (by decide) hok.2
                rw [close_tab 0 (by decide)] at cC
                refine ACalls.sub [hdsA (stI true false false), .v (.int .i64 ((0 : Nat) : Int))] ⟨fun _ _ h => h, fun _ _ h => h, trivial⟩ ?_
                refine Fn.closed (cC) rfl ?_
                rintro _ rfl
                conv => whnf
                repeat' (first | (refine aSeq.go ?_; conv => whnf) | (refine And.intro ⟨by decide, by decide⟩ ?_; conv => whnf) | (refine And.intro ⟨rfl, rfl, by decide⟩ ?_; conv => whnf) | (refine aLoop.rounds 4 ?_; conv => whnf) | fail)
                exact ⟨(k + 1, false, false, false, false), ⟨hk', fun h => (by first | exact ⟨rfl, rfl, rfl⟩ | cases h)⟩, by show l.length - (k + 1) < l.length - k; omega, Wk.conv ⟨[], trivial, ⟨rfl, rfl, rfl, rfl, wsucc (by omega), trivial⟩, ⟨rfl, trivial⟩, rfl, rfl, rfl⟩⟩
              · have cC := hclose_fn (stI true false false) (1 : Nat) (by decide) hok.2
                rw [close_tab 1 (by decide)] at cC
                refine ACalls.sub [hdsA (stI true false false), .v (.int .i64 ((1 : Nat) : Int))] ⟨fun _ _ h => h, fun _ _ h => h, trivial⟩ ?_
                refine Fn.closed (cC) rfl ?_
                rintro _ rfl
                conv => whnf
                repeat' (first | (refine aSeq.go ?_; conv => whnf) | (refine And.intro ⟨by decide, by decide⟩ ?_; conv => whnf) | (refine And.intro ⟨rfl, rfl, by decide⟩ ?_; conv => whnf) | (refine aLoop.rounds 4 ?_; conv => whnf) | fail)
                exact ⟨(k + 1, false, true, false, false), ⟨hk', fun h => (by first | exact ⟨rfl, rfl, rfl⟩ | cases h)⟩, by show l.length - (k + 1) < l.length - k; omega, Wk.conv ⟨[], trivial, ⟨rfl, rfl, rfl, rfl, wsucc (by omega), trivial⟩, ⟨rfl, trivial⟩, rfl, rfl, rfl⟩⟩
              · have cC := hclose_fn (stI true false false) (2 : Nat) (by decide) hok.2
                rw [close_tab 2 (by decide)] at cC
                refine ACalls.sub [hdsA (stI true false false), .v (.int .i64 ((2 : Nat) : Int))] ⟨fun _ _ h => h, fun _ _ h => h, trivial⟩ ?_
                refine Fn.closed (cC) rfl ?_
                rintro _ rfl
                conv => whnf
                repeat' (first | (refine aSeq.go ?_; conv => whnf) | (refine And.intro ⟨by decide, by decide⟩ ?_; conv => whnf) | (refine And.intro ⟨rfl, rfl, by decide⟩ ?_; conv => whnf) | (refine aLoop.rounds 4 ?_; conv => whnf) | fail)
                exact ⟨(k + 1, false, true, false, false), ⟨hk', fun h => (by first | exact ⟨rfl, rfl, rfl⟩ | cases h)⟩, by show l.length - (k + 1) < l.length - k; omega, Wk.conv ⟨[], trivial, ⟨rfl, rfl, rfl, rfl, wsucc (by omega), trivial⟩, ⟨rfl, trivial⟩, rfl, rfl, rfl⟩⟩
            · refine ACalls.sub [hdsA (stI true false false)] ⟨fun _ _ h => h, trivial⟩ ?_
              have cO := hopen_fn (stI true false false) (by decide) hok.2
              rw [open_tab] at cO
              refine Fn.closed (cO) rfl ?_
              rintro _ rfl
              conv => whnf
              repeat' (first | (refine aSeq.go ?_; conv => whnf) | (refine And.intro ⟨by decide, by decide⟩ ?_; conv => whnf) | (refine And.intro ⟨rfl, rfl, by decide⟩ ?_; conv => whnf) | (refine aLoop.rounds 4 ?_; conv => whnf) | fail)
              exact ⟨(k + 1, false, true, true, false), ⟨hk', fun h => (by first | exact ⟨rfl, rfl, rfl⟩ | cases h)⟩, by show l.length - (k + 1) < l.length - k; omega, Wk.conv ⟨[], trivial, ⟨rfl, rfl, rfl, rfl, wsucc (by omega), trivial⟩, ⟨rfl, trivial⟩, rfl, rfl, rfl⟩⟩
          · refine Fn.closed (wakes_fn) rfl ?_
            rintro _ rfl
            conv => whnf
            exact ⟨_, fun _ _ h => h, rfl⟩
        | true =>
          have hok := stI_ok true false true
          conv => whnf
          refine boolI (fun h2 => ?_) (fun h2 => ?_) <;> (repeat rw [Int.toNat_natCast] at h2) <;> conv => whnf
          · have hk' : k < l.length := by simpa using h2
            obtain ⟨m, hm, e⟩ := rem6 (l.getD k 0)
            refine aSeq.go ?_
            conv => whnf
            refine And.intro ⟨by simp, by simpa using hk'⟩ ?_
            conv => whnf
            refine And.intro (by decide) ?_
            conv => whnf
            rw [Int.toNat_natCast, e]
            refine aSeq.go ?_
            conv => whnf
            refine boolK_intro (fun h3 => ?_) (fun h3 => ?_) <;> simp only [decide_eq_true_eq, decide_eq_false_iff_not] at h3 <;> conv => whnf
            · have hm3 : m = 0 ∨ m = 1 ∨ m = 2 := by omega
              rcases hm3 with rfl | rfl | rfl
              · have cC := hclose_fn (stI true false true) (0 : Nat) (by decide) hok.2
                rw [close_tab 0 (by decide)] at cC
                refine ACalls.sub [hdsA (stI true false true), .v (.int .i64 ((0 : Nat) : Int))] ⟨fun _ _ h => h, fun _ _ h => h, trivial⟩ ?_
                refine Fn.closed (cC) rfl ?_
                rintro _ rfl
                conv => whnf
                repeat' (first | (refine aSeq.go ?_; conv => whnf) | (refine And.intro ⟨by decide, by decide⟩ ?_; conv => whnf) | (refine And.intro ⟨rfl, rfl, by decide⟩ ?_; conv => whnf) | (refine aLoop.rounds 4 ?_; conv => whnf) | fail)
                exact ⟨(k + 1, false, false, false, true), ⟨hk', fun h => (by first | exact ⟨rfl, rfl, rfl⟩ | cases h)⟩, by show l.length - (k + 1) < l.length - k; omega, Wk.conv ⟨[], trivial, ⟨rfl, rfl, rfl, rfl, wsucc (by omega), trivial⟩, ⟨rfl, trivial⟩, rfl, rfl, rfl⟩⟩
              · have cC := hclose_fn (stI true false true) (1 : Nat) (by decide) hok.2
                rw [close_tab 1 (by decide)] at cC
                refine ACalls.sub [hdsA (stI true false true), .v (.int .i64 ((1 : Nat) : Int))] ⟨fun _ _ h => h, fun _ _ h => h, trivial⟩ ?_
                refine Fn.closed (cC) rfl ?_
                rintro _ rfl
                conv => whnf
                repeat' (first | (refine aSeq.go ?_; conv => whnf) | (refine And.intro ⟨by decide, by decide⟩ ?_; conv => whnf) | (refine And.intro ⟨rfl, rfl, by decide⟩ ?_; conv => whnf) | (refine aLoop.rounds 4 ?_; conv => whnf) | fail)
                exact ⟨(k + 1, false, true, false, true), ⟨hk', fun h => (by first | exact ⟨rfl, rfl, rfl⟩ | cases h)⟩, by show l.length - (k + 1) < l.length - k; omega, Wk.conv ⟨[], trivial, ⟨rfl, rfl, rfl, rfl, wsucc (by omega), trivial⟩, ⟨rfl, trivial⟩, rfl, rfl, rfl⟩⟩
              · have cC := hclose_fn (stI true false true) (2 : Nat) (by decide) hok.2
                rw [close_tab 2 (by decide)] at cC
                refine ACalls.sub [hdsA (stI true false true), .v (.int .i64 ((2 : Nat) : Int))] ⟨fun _ _ h => h, fun _ _ h => h, trivial⟩ ?_
                refine Fn.closed (cC) rfl ?_
                rintro _ rfl
                conv => whnf
                repeat' (first | (refine aSeq.go ?_; conv => whnf) | (refine And.intro ⟨by decide, by decide⟩ ?_; conv => whnf) | (refine And.intro ⟨rfl, rfl, by decide⟩ ?_; conv => whnf) | (refine aLoop.rounds 4 ?_; conv => whnf) | fail)
                exact ⟨(k + 1, false, true, false, false), ⟨hk', fun h => (by first | exact ⟨rfl, rfl, rfl⟩ | cases h)⟩, by show l.length - (k + 1) < l.length - k; omega, Wk.conv ⟨[], trivial, ⟨rfl, rfl, rfl, rfl, wsucc (by omega), trivial⟩, ⟨rfl, trivial⟩, rfl, rfl, rfl⟩⟩
            · refine ACalls.sub [hdsA (stI true false true)] ⟨fun _ _ h => h, trivial⟩ ?_
              have cO := hopen_fn (stI true false true) (by decide) hok.2
              rw [open_tab] at cO
              refine Fn.closed (cO) rfl ?_
              rintro _ rfl
              conv => whnf
              repeat' (first | (refine aSeq.go ?_; conv => whnf) | (refine And.intro ⟨by decide, by decide⟩ ?_; conv => whnf) | (refine And.intro ⟨rfl, rfl, by decide⟩ ?_; conv => whnf) | (refine aLoop.rounds 4 ?_; conv => whnf) | fail)
              exact ⟨(k + 1, false, true, true, true), ⟨hk', fun h => (by first | exact ⟨rfl, rfl, rfl⟩ | cases h)⟩, by show l.length - (k + 1) < l.length - k; omega, Wk.conv ⟨[], trivial, ⟨rfl, rfl, rfl, rfl, wsucc (by omega), trivial⟩, ⟨rfl, trivial⟩, rfl, rfl, rfl⟩⟩
          · refine Fn.closed (wakes_fn) rfl ?_
            rintro _ rfl
            conv => whnf
            exact ⟨_, fun _ _ h => h, rfl⟩
      | true =>
        cases c with
        | false =>
          have hok := stI_ok true true false
          conv => whnf
          refine boolI (fun h2 => ?_) (fun h2 => ?_) <;> (repeat rw [Int.toNat_natCast] at h2) <;> conv => whnf
          · have hk' : k < l.length := by simpa using h2
            obtain ⟨m, hm, e⟩ := rem6 (l.getD k 0)
            refine aSeq.go ?_
            conv => whnf
            refine And.intro ⟨by simp, by simpa using hk'⟩ ?_
            conv => whnf
            refine And.intro (by decide) ?_
            conv => whnf
            rw [Int.toNat_natCast, e]
            refine aSeq.go ?_
            conv => whnf
            refine boolK_intro (fun h3 => ?_) (fun h3 => ?_) <;> simp only [decide_eq_true_eq, decide_eq_false_iff_not] at h3 <;> conv => whnf
            · have hm3 : m = 0 ∨ m = 1 ∨ m = 2 := by omega
              rcases hm3 with rfl | rfl | rfl
              · have cC := hclose_fn (stI true true false) (0 : Nat) (by decide) hok.2
                rw [close_tab 0 (by decide)] at cC
                refine ACalls.sub [hdsA (stI true true false), .v (.int .i64 ((0 : Nat) : Int))] ⟨fun _ _ h => h, fun _ _ h => h, trivial⟩ ?_
                refine Fn.closed (cC) rfl ?_
                rintro _ rfl
                conv => whnf
                repeat' (first | (refine aSeq.go ?_; conv => whnf) | (refine And.intro ⟨by decide, by decide⟩ ?_; conv => whnf) | (refine And.intro ⟨rfl, rfl, by decide⟩ ?_; conv => whnf) | (refine aLoop.rounds 4 ?_; conv => whnf) | fail)
                exact ⟨(k + 1, false, false, true, false), ⟨hk', fun h => (by first | exact ⟨rfl, rfl, rfl⟩ | cases h)⟩, by show l.length - (k + 1) < l.length - k; omega, Wk.conv ⟨[], trivial, ⟨rfl, rfl, rfl, rfl, wsucc (by omega), trivial⟩, ⟨rfl, trivial⟩, rfl, rfl, rfl⟩⟩
              · have cC := hclose_fn (stI true true false) (1 : Nat) (by decide) hok.2
                rw [close_tab 1 (by decide)] at cC
                refine ACalls.sub [hdsA (stI true true false), .v (.int .i64 ((1 : Nat) : Int))] ⟨fun _ _ h => h, fun _ _ h => h, trivial⟩ ?_
                refine Fn.closed (cC) rfl ?_
                rintro _ rfl
                conv => whnf
                repeat' (first | (refine aSeq.go ?_; conv => whnf) | (refine And.intro ⟨by decide, by decide⟩ ?_; conv => whnf) | (refine And.intro ⟨rfl, rfl, by decide⟩ ?_; conv => whnf) | (refine aLoop.rounds 4 ?_; conv => whnf) | fail)
                exact ⟨(k + 1, false, true, false, false), ⟨hk', fun h => (by first | exact ⟨rfl, rfl, rfl⟩ | cases h)⟩, by show l.length - (k + 1) < l.length - k; omega, Wk.conv ⟨[], trivial, ⟨rfl, rfl, rfl, rfl, wsucc (by omega), trivial⟩, ⟨rfl, trivial⟩, rfl, rfl, rfl⟩⟩
              · have cC := hclose_fn (stI true true false) (2 : Nat) (by decide) hok.2
                rw [close_tab 2 (by decide)] at cC
                refine ACalls.sub [hdsA (stI true true false), .v (.int .i64 ((2 : Nat) : Int))] ⟨fun _ _ h => h, fun _ _ h => h, trivial⟩ ?_
                refine Fn.closed (cC) rfl ?_
                rintro _ rfl
                conv => whnf
                repeat' (first | (refine aSeq.go ?_; conv => whnf) | (refine And.intro ⟨by decide, by decide⟩ ?_; conv => whnf) | (refine And.intro ⟨rfl, rfl, by decide⟩ ?_; conv => whnf) | (refine aLoop.rounds 4 ?_; conv => whnf) | fail)
                exact ⟨(k + 1, false, true, true, false), ⟨hk', fun h => (by first | exact ⟨rfl, rfl, rfl⟩ | cases h)⟩, by show l.length - (k + 1) < l.length - k; omega, Wk.conv ⟨[], trivial, ⟨rfl, rfl, rfl, rfl, wsucc (by omega), trivial⟩, ⟨rfl, trivial⟩, rfl, rfl, rfl⟩⟩
            · refine ACalls.sub [hdsA (stI true true false)] ⟨fun _ _ h => h, trivial⟩ ?_
              have cO := hopen_fn (stI true true false) (by decide) hok.2
              rw [open_tab] at cO
              refine Fn.closed (cO) rfl ?_
              rintro _ rfl
              conv => whnf
              repeat' (first | (refine aSeq.go ?_; conv => whnf) | (refine And.intro ⟨by decide, by decide⟩ ?_; conv => whnf) | (refine And.intro ⟨rfl, rfl, by decide⟩ ?_; conv => whnf) | (refine aLoop.rounds 4 ?_; conv => whnf) | fail)
              exact ⟨(k + 1, false, true, true, true), ⟨hk', fun h => (by first | exact ⟨rfl, rfl, rfl⟩ | cases h)⟩, by show l.length - (k + 1) < l.length - k; omega, Wk.conv ⟨[], trivial, ⟨rfl, rfl, rfl, rfl, wsucc (by omega), trivial⟩, ⟨rfl, trivial⟩, rfl, rfl, rfl⟩⟩
          · refine Fn.closed (wakes_fn) rfl ?_
            rintro _ rfl
            conv => whnf
            exact ⟨_, fun _ _ h => h, rfl⟩
        | true =>
          have hok := stI_ok true true true
          conv => whnf
          refine boolI (fun h2 => ?_) (fun h2 => ?_) <;> (repeat rw [Int.toNat_natCast] at h2) <;> conv => whnf
          · have hk' : k < l.length := by simpa using h2
            obtain ⟨m, hm, e⟩ := rem6 (l.getD k 0)
            refine aSeq.go ?_
            conv => whnf
            refine And.intro ⟨by simp, by simpa using hk'⟩ ?_
            conv => whnf
            refine And.intro (by decide) ?_
            conv => whnf
            rw [Int.toNat_natCast, e]
            refine aSeq.go ?_
            conv => whnf
            refine boolK_intro (fun h3 => ?_) (fun h3 => ?_) <;> simp only [decide_eq_true_eq, decide_eq_false_iff_not] at h3 <;> conv => whnf
            · have hm3 : m = 0 ∨ m = 1 ∨ m = 2 := by omega
              rcases hm3 with rfl | rfl | rfl
              · have cC := hclose_fn (stI true true true) (0 : Nat) (by decide) hok.2
                rw [close_tab 0 (by decide)] at cC
                refine ACalls.sub [hdsA (stI true true true), .v (.int .i64 ((0 : Nat) : Int))] ⟨fun _ _ h => h, fun _ _ h => h, trivial⟩ ?_
                refine Fn.closed (cC) rfl ?_
                rintro _ rfl
                conv => whnf
                repeat' (first | (refine aSeq.go ?_; conv => whnf) | (refine And.intro ⟨by decide, by decide⟩ ?_; conv => whnf) | (refine And.intro ⟨rfl, rfl, by decide⟩ ?_; conv => whnf) | (refine aLoop.rounds 4 ?_; conv => whnf) | fail)
                exact ⟨(k + 1, false, false, true, true), ⟨hk', fun h => (by first | exact ⟨rfl, rfl, rfl⟩ | cases h)⟩, by show l.length - (k + 1) < l.length - k; omega, Wk.conv ⟨[], trivial, ⟨rfl, rfl, rfl, rfl, wsucc (by omega), trivial⟩, ⟨rfl, trivial⟩, rfl, rfl, rfl⟩⟩
              · have cC := hclose_fn (stI true true true) (1 : Nat) (by decide) hok.2
                rw [close_tab 1 (by decide)] at cC
                refine ACalls.sub [hdsA (stI true true true), .v (.int .i64 ((1 : Nat) : Int))] ⟨fun _ _ h => h, fun _ _ h => h, trivial⟩ ?_
                refine Fn.closed (cC) rfl ?_
                rintro _ rfl
                conv => whnf
                repeat' (first | (refine aSeq.go ?_; conv => whnf) | (refine And.intro ⟨by decide, by decide⟩ ?_; conv => whnf) | (refine And.intro ⟨rfl, rfl, by decide⟩ ?_; conv => whnf) | (refine aLoop.rounds 4 ?_; conv => whnf) | fail)
                exact ⟨(k + 1, false, true, false, true), ⟨hk', fun h => (by first | exact ⟨rfl, rfl, rfl⟩ | cases h)⟩, by show l.length - (k + 1) < l.length - k; omega, Wk.conv ⟨[], trivial, ⟨rfl, rfl, rfl, rfl, wsucc (by omega), trivial⟩, ⟨rfl, trivial⟩, rfl, rfl, rfl⟩⟩
              · have cC := hclose_fn (stI true true true) (2 : Nat) (by decide) hok.2
                rw [close_tab 2 (by decide)] at cC
                refine ACalls.sub [hdsA (stI true true true), .v (.int .i64 ((2 : Nat) : Int))] ⟨fun _ _ h => h, fun _ _ h => h, trivial⟩ ?_
                refine Fn.closed (cC) rfl ?_
                rintro _ rfl
                conv => whnf
                repeat' (first | (refine aSeq.go ?_; conv => whnf) | (refine And.intro ⟨by decide, by decide⟩ ?_; conv => whnf) | (refine And.intro ⟨rfl, rfl, by decide⟩ ?_; conv => whnf) | (refine aLoop.rounds 4 ?_; conv => whnf) | fail)
                exact ⟨(k + 1, false, true, true, false), ⟨hk', fun h => (by first | exact ⟨rfl, rfl, rfl⟩ | cases h)⟩, by show l.length - (k + 1) < l.length - k; omega, Wk.conv ⟨[], trivial, ⟨rfl, rfl, rfl, rfl, wsucc (by omega), trivial⟩, ⟨rfl, trivial⟩, rfl, rfl, rfl⟩⟩
            · refine ACalls.sub [hdsA (stI true true true)] ⟨fun _ _ h => h, trivial⟩ ?_
              have cO := hopen_fn (stI true true true) (by decide) hok.2
              rw [open_tab] at cO
              refine Fn.closed (cO) rfl ?_
              rintro _ rfl
              conv => whnf
              repeat' (first | (refine aSeq.go ?_; conv => whnf) | (refine And.intro ⟨by decide, by decide⟩ ?_; conv => whnf) | (refine And.intro ⟨rfl, rfl, by decide⟩ ?_; conv => whnf) | (refine aLoop.rounds 4 ?_; conv => whnf) | fail)
              exact ⟨(k + 1, false, true, true, true), ⟨hk', fun h => (by first | exact ⟨rfl, rfl, rfl⟩ | cases h)⟩, by show l.length - (k + 1) < l.length - k; omega, Wk.conv ⟨[], trivial, ⟨rfl, rfl, rfl, rfl, wsucc (by omega), trivial⟩, ⟨rfl, trivial⟩, rfl, rfl, rfl⟩⟩
          · refine Fn.closed (wakes_fn) rfl ?_
            rintro _ rfl
            conv => whnf
            exact ⟨_, fun _ _ h => h, rfl⟩
end Go.Proofs.Ytjcboeldmgmfcaa.A
