/-
HandExact, over all inputs.
-/
import Derived.Test.YtjcboeldmgmfcaaComP4
namespace Go.Proofs.Ytjcboeldmgmfcaa.A
open Go.RowKit

theorem HdB.s {h : Hd} (x : HdB h) : HdS h := ⟨x.1, x.2.1⟩
set_option maxRecDepth 100000 in
theorem exact_no (l : List Hd) (id lba : Int) (b : List UInt8) (hok : hdsOk l = false) : Fn Try.prog 3 [hdsA l, .v (.int .i64 id), .v (.int .i64 lba), bA b] fun r => r = .v (.bool true) := by
  have ch := heavy_fn l
  cases hh : heavyB l with
  | true =>
    rw [hh] at ch
    refine Fn.of tys_ok Try.func3 rfl rfl (Nat.le_of_ble_eq_true rfl) ?_
    conv => whnf
    refine Fn.closed (ch) rfl ?_
    rintro _ rfl
    conv => whnf
    exact ⟨_, fun _ _ h => h, rfl⟩
  | false =>
    rw [hh] at ch
    obtain ⟨hl, hs⟩ := light_of hh
    have ct := twinhandles_fn l (by omega) hs
    have c1 := hopen_fn l (by omega) hs
    rw [show openH l = ([], 0, 1) by rw [openH, hok]; rfl] at c1
    have c2 := hput_fn l id lba b (by omega) hs
    rw [show putHd l id lba b = ([], 1) by rw [putHd, hok]; rfl] at c2
    have e3 : getH l id lba = ([], false, 1) := by rw [getH, hok]; rfl
    have c3 := hget_none l id lba (by omega) hs (by rw [e3])
    rw [e3] at c3
    have c4 := hclose_fn l id (by omega) hs
    rw [show closeH l id = ([], ⟨0, [], []⟩, 1) by rw [closeH, hok]; rfl] at c4
    have c5 := handles_fn l l (by omega) hs
    rw [decide_eq_true rfl] at c5
    have c6 := rhandles_fn l (by omega) (fun h hh => (hs h hh).s)
    rw [hok] at c6
    have c7 := hcheck_fn l (by omega) (fun h hh => (hs h hh).s)
    rw [hok] at c7
    refine Fn.of tys_ok Try.func3 rfl rfl (Nat.le_of_ble_eq_true rfl) ?_
    conv => whnf
    refine Fn.closed (ch) rfl ?_
    rintro _ rfl
    conv => whnf
    refine boolK_intro (fun t1 => ?_) (fun t1 => ?_) <;> conv => whnf
    · exact ⟨_, fun _ _ h => h, rfl⟩
    refine Fn.closed (ct) rfl ?_
    rintro _ rfl
    conv => whnf
    refine Fn.closed (c1) rfl ?_
    rintro _ rfl
    conv => whnf
    refine Fn.closed (c2) rfl ?_
    rintro _ rfl
    conv => whnf
    refine Fn.closed (c3) rfl ?_
    rintro _ rfl
    conv => whnf
    refine Fn.closed (c4) rfl ?_
    rintro _ rfl
    conv => whnf
    refine Fn.closed (c5) rfl ?_
    rintro _ rfl
    conv => whnf
    refine Fn.closed (c6) rfl ?_
    rintro _ rfl
    conv => whnf
    refine Fn.closed (c7) rfl ?_
    rintro _ rfl
    conv => whnf
    refine Fn.closed (wakes_fn) rfl ?_
    rintro _ rfl
    conv => whnf
    exact ⟨_, fun _ _ h => h, rfl⟩
theorem over_nil : Fn Try.prog 20 [.v (.slice none 0 0)] fun r => r = .tp [] := by
  refine Fn.of tys_ok Try.func20 rfl rfl (Nat.le_of_ble_eq_true rfl) ?_
  conv => whnf
  refine aLoop.rounds 1 ?_
  conv => whnf
  exact ⟨_, fun _ _ h => h, rfl⟩
theorem take_sub {l : List Hd} {p : Nat} (hp : p ≤ l.length) (c : Ctx) (u : Value) (h : Rd (.sl 3 ((p : Int).toNat - (0 : Int).toNat) fun i => hdC (l.getD (i + (0 : Int).toNat) ⟨0, [], []⟩)) c u) : Rd (hdsA (l.take p)) c u :=
  Rd.congr (by rw [List.length_take]; omega) (fun i hi => by
    have hi : i < p := by simpa using hi
    rw [List.getD_eq_getElem?_getD (l := l.take p), List.getElem?_take_of_lt hi, ← List.getD_eq_getElem?_getD]; simp) h
theorem drop_row {l : List Hd} {p : Nat} : (List.range ((l.length : Int).toNat - ((p + 1 : Nat) : Int).toNat)).map (fun i => (fun i => hdC (l.getD i ⟨0, [], []⟩)) (i + ((p + 1 : Nat) : Int).toNat)) = (l.drop (p + 1)).map hdC := by
  rw [← range_map (d := (⟨0, [], []⟩ : Hd)) hdC (l.drop (p + 1)), List.length_drop, Int.toNat_natCast, Int.toNat_natCast]
  refine List.map_congr_left fun i _ => ?_
  rw [List.getD_eq_getElem?_getD (l := l.drop (p + 1)), List.getElem?_drop, ← List.getD_eq_getElem?_getD, Nat.add_comm (p + 1) i]
theorem wrH_ok {h : Hd} {lba : Int} {b : List UInt8} (hs : HdB h) (h4 : h.lbas.length ≤ 900 ∧ h.blocks.length ≤ 900) (hb : b.length ≤ 1000) : HdB (wrH h lba b) := by
  have m : ∀ (n : Nat), ∀ x ∈ h.blocks.take n ++ [b] ++ h.blocks.drop n, x.length ≤ 1000000 := fun n x hx => by
    rcases List.mem_append.1 hx with hx | hx
    · rcases List.mem_append.1 hx with hx | hx
      · exact hs.2.2 x (List.mem_of_mem_take hx)
      · simp only [List.mem_cons, List.not_mem_nil, or_false] at hx; subst hx; omega
    · exact hs.2.2 x (List.mem_of_mem_drop hx)
  unfold wrH
  split
  · refine ⟨hs.1, by show (h.blocks.set _ b).length ≤ 1000; rw [List.length_set]; omega, fun x hx => ?_⟩
    rcases List.mem_or_eq_of_mem_set hx with hx | rfl
    · exact hs.2.2 x hx
    · omega
  · exact ⟨by simp only [List.length_append, List.length_take, List.length_drop, List.length_cons, List.length_nil]; omega, by simp only [List.length_append, List.length_take, List.length_drop, List.length_cons, List.length_nil]; omega, m _⟩
theorem rP_ok {l : List Hd} {p : Nat} {lba : Int} {b : List UInt8} (hs : ∀ h ∈ l, HdB h) (hl : l.length ≤ 1000) (hb : b.length ≤ 1000) (h4 : (l.getD p ⟨0, [], []⟩).lbas.length ≤ 900 ∧ (l.getD p ⟨0, [], []⟩).blocks.length ≤ 900) (hp : p < l.length) : (rP l p lba b).1.length ≤ 1000 ∧ ∀ h ∈ (rP l p lba b).1, HdB h := by
  unfold rP
  split
  · exact ⟨Nat.zero_le _, fun h hh => by cases hh⟩
  · refine ⟨by show (l.set p _).length ≤ 1000; rw [List.length_set]; omega, fun h hh => ?_⟩
    rcases List.mem_or_eq_of_mem_set hh with hh | rfl
    · exact hs h hh
    · exact wrH_ok (hs _ (getD_mem hp)) h4 hb
set_option maxHeartbeats 2000000 in
set_option maxRecDepth 100000 in
theorem exact_yes (l : List Hd) (id lba : Int) (b : List UInt8) (hok : hdsOk l = true) : Fn Try.prog 3 [hdsA l, .v (.int .i64 id), .v (.int .i64 lba), bA b] fun r => r = .v (.bool true) := by
  have ch := heavy_fn l
  cases hh : heavyB l with
  | true =>
    rw [hh] at ch
    refine Fn.of tys_ok Try.func3 rfl rfl (Nat.le_of_ble_eq_true rfl) ?_
    conv => whnf
    refine Fn.closed (ch) rfl ?_
    rintro _ rfl
    conv => whnf
    exact ⟨_, fun _ _ h => h, rfl⟩
  | false =>
    rw [hh] at ch
    obtain ⟨hl, hs⟩ := light_of hh
    have ct := twinhandles_fn l (by omega) hs
    have c5 := handles_fn l l (by omega) hs
    rw [decide_eq_true rfl] at c5
    have c6 := rhandles_fn l (by omega) (fun h hh => (hs h hh).s)
    rw [hok] at c6
    have c7 := hcheck_fn l (by omega) (fun h hh => (hs h hh).s)
    rw [hok] at c7
    have c1 := hopen_fn l (by omega) hs
    have cO := ropen_fn l hok hs
    have c8 := rat_fn l id (by omega)
    have c2 := hput_fn l id lba b (by omega) hs
    have c4 := hclose_fn l id (by omega) hs
    -- what opening answers, either way
    obtain ⟨O, n, e, m, eO, em, hcase⟩ : ∃ (O : List Hd) (n e m : Int), openH l = (O, n, e) ∧ (if 3 ≤ l.length then (-1 : Int) else (openH l).2.1) = m ∧ ((m = -1 ∧ O = [] ∧ n = 0 ∧ e = 19) ∨ (0 ≤ m ∧ n = m ∧ e = 0)) := by
      have eo : openH l = if 3 ≤ l.length then ([], 0, 19) else (l.take (freeId l 0).toNat ++ [⟨freeId l 0, [], []⟩] ++ l.drop (freeId l 0).toNat, freeId l 0, 0) := by simp only [openH, hok]; rfl
      by_cases h3 : 3 ≤ l.length
      · exact ⟨[], 0, 19, -1, by rw [eo, if_pos h3], by rw [if_pos h3], .inl ⟨rfl, rfl, rfl, rfl⟩⟩
      · exact ⟨_, freeId l 0, 0, freeId l 0, by rw [eo, if_neg h3], by rw [if_neg h3, eo, if_neg h3], .inr ⟨(freeId_bd l 0).1, rfl, rfl⟩⟩
    rw [eO] at c1 cO
    have em' : (if 3 ≤ l.length then (-1 : Int) else (O, n, e).2.1) = m := by rw [← eO]; exact em
    rw [em'] at cO
    have hOO : 0 ≤ m → O.length ≤ 1000 ∧ ∀ h ∈ O, HdB h := fun hm => by
      rcases hcase with ⟨rfl, _⟩ | _
      · omega
      have eo : openH l = if 3 ≤ l.length then ([], 0, 19) else (l.take (freeId l 0).toNat ++ [⟨freeId l 0, [], []⟩] ++ l.drop (freeId l 0).toNat, freeId l 0, 0) := by simp only [openH, hok]; rfl
      have : O = (openH l).1 := by rw [eO]
      rw [this, eo]
      split
      · exact ⟨Nat.zero_le _, fun h hh => by cases hh⟩
      · refine ⟨by simp only [List.length_append, List.length_take, List.length_drop, List.length_cons, List.length_nil]; omega, fun h hh => ?_⟩
        rcases List.mem_append.1 hh with hh | hh
        · rcases List.mem_append.1 hh with hh | hh
          · exact hs h (List.mem_of_mem_take hh)
          · simp only [List.mem_cons, List.not_mem_nil, or_false] at hh
            subst hh
            exact ⟨by show 0 ≤ 1000; decide, by show 0 ≤ 1000; decide, fun b hb => by cases hb⟩
        · exact hs h (List.mem_of_mem_drop hh)
    cases hhas : hasH l id with
    | false =>
      rw [hhas] at c8
      rw [show putHd l id lba b = ([], 18) by rw [putHd, hok, hhas]; rfl] at c2
      have e3 : getH l id lba = ([], false, 18) := by rw [getH, hok, hhas]; rfl
      have c3 := hget_none l id lba (by omega) hs (by rw [e3])
      rw [e3] at c3
      rw [show closeH l id = ([], ⟨0, [], []⟩, 18) by rw [closeH, hok, hhas]; rfl] at c4
      rcases hcase with ⟨rfl, rfl, rfl, rfl⟩ | ⟨hm, rfl, rfl⟩
      · refine Fn.of tys_ok Try.func3 rfl rfl (Nat.le_of_ble_eq_true rfl) ?_
        conv => whnf
        refine Fn.closed (ch) rfl ?_
        rintro _ rfl
        conv => whnf
        refine boolK_intro (fun t1 => ?_) (fun t1 => ?_) <;> conv => whnf
        · exact ⟨_, fun _ _ h => h, rfl⟩
        refine Fn.closed (ct) rfl ?_
        rintro _ rfl
        conv => whnf
        refine Fn.closed (c1) rfl ?_
        rintro _ rfl
        conv => whnf
        refine Fn.closed (c2) rfl ?_
        rintro _ rfl
        conv => whnf
        refine Fn.closed (c3) rfl ?_
        rintro _ rfl
        conv => whnf
        refine Fn.closed (c4) rfl ?_
        rintro _ rfl
        conv => whnf
        refine Fn.closed (c5) rfl ?_
        rintro _ rfl
        conv => whnf
        refine Fn.closed (c6) rfl ?_
        rintro _ rfl
        conv => whnf
        refine Fn.closed (c7) rfl ?_
        rintro _ rfl
        conv => whnf
        refine aSeq.go ?_
        conv => whnf
        refine Fn.closed (cO) rfl ?_
        rintro _ rfl
        conv => whnf
        refine Fn.closed (c8) rfl ?_
        rintro _ rfl
        conv => whnf
        refine Fn.closed (wakes_fn) rfl ?_
        rintro _ rfl
        conv => whnf
        exact ⟨_, fun _ _ h => h, rfl⟩
      · have hO := hOO hm
        have hOl := hO.1
        have hOs := hO.2
        refine Fn.of tys_ok Try.func3 rfl rfl (Nat.le_of_ble_eq_true rfl) ?_
        conv => whnf
        refine Fn.closed (ch) rfl ?_
        rintro _ rfl
        conv => whnf
        refine boolK_intro (fun t1 => ?_) (fun t1 => ?_) <;> conv => whnf
        · exact ⟨_, fun _ _ h => h, rfl⟩
        refine Fn.closed (ct) rfl ?_
        rintro _ rfl
        conv => whnf
        refine Fn.closed (c1) rfl ?_
        rintro _ rfl
        conv => whnf
        refine Fn.closed (c2) rfl ?_
        rintro _ rfl
        conv => whnf
        refine Fn.closed (c3) rfl ?_
        rintro _ rfl
        conv => whnf
        refine Fn.closed (c4) rfl ?_
        rintro _ rfl
        conv => whnf
        refine Fn.closed (c5) rfl ?_
        rintro _ rfl
        conv => whnf
        refine Fn.closed (c6) rfl ?_
        rintro _ rfl
        conv => whnf
        refine Fn.closed (c7) rfl ?_
        rintro _ rfl
        conv => whnf
        refine aSeq.go ?_
        conv => whnf
        refine Fn.closed (cO) rfl ?_
        rintro _ rfl
        conv => whnf
        refine boolK_intro (fun t2 => ?_) (fun t2 => ?_) <;> simp only [decide_eq_true_eq, decide_eq_false_iff_not] at t2 <;> conv => whnf
        · omega
        refine boolK_intro (fun t3 => ?_) (fun t3 => ?_) <;> conv => whnf
        · simp at t3
        have cQ := handles_fn O O hOl hOs
        rw [decide_eq_true rfl] at cQ
        refine Fn.closed (cQ) rfl ?_
        rintro _ rfl
        conv => whnf
        refine Fn.closed (c8) rfl ?_
        rintro _ rfl
        conv => whnf
        refine Fn.closed (wakes_fn) rfl ?_
        rintro _ rfl
        conv => whnf
        exact ⟨_, fun _ _ h => h, rfl⟩
    | true =>
      rw [hhas, if_pos rfl] at c8
      have hp := atH_lt hhas
      obtain ⟨p, hpp⟩ : ∃ p, p = atH l id := ⟨_, rfl⟩
      rw [← hpp] at hp c8
      have e4 : closeH l id = (l.take p ++ l.drop (p + 1), l.getD p ⟨0, [], []⟩, 0) := by simp only [closeH, hok, hhas, ← hpp]; rfl
      rw [e4] at c4
      have c9 := rget_fn l p lba hok hp
      have hg := getH_cases (lba := lba) hok hhas
      rw [← hpp] at hg
      cases hgb : (decide (lb (l.getD p ⟨0, [], []⟩).lbas lba < (l.getD p ⟨0, [], []⟩).lbas.length) && ((l.getD p ⟨0, [], []⟩).lbas.getD (lb (l.getD p ⟨0, [], []⟩).lbas lba) 0 == lba)) with
      | false =>
        rw [hgb] at hg
        have hg : getH l id lba = ([], false, 0) := hg
        have c3 := hget_none l id lba (by omega) hs (by rw [hg])
        rw [hg] at c3
        have e9 : gB (l.getD p ⟨0, [], []⟩) lba = ([], false) := by rw [gB, hgb]; rfl
        rw [e9] at c9
        have cB := bytes_fn [] [] (by decide)
        rw [decide_eq_true rfl] at cB
        by_cases hq : lba < 0 ∨ b.length ≠ 8
        · have e2 : putHd l id lba b = ([], 1) := by
            rcases hq with hq | hq
            · simp only [putHd, hok, hhas, decide_eq_true hq]; rfl
            · simp only [putHd, hok, hhas, decide_eq_true hq, Bool.or_true]; rfl
          rw [e2] at c2
          rcases hcase with ⟨rfl, rfl, rfl, rfl⟩ | ⟨hm, rfl, rfl⟩
          · refine Fn.of tys_ok Try.func3 rfl rfl (Nat.le_of_ble_eq_true rfl) ?_
            conv => whnf
            refine Fn.closed (ch) rfl ?_
            rintro _ rfl
            conv => whnf
            refine boolK_intro (fun t1 => ?_) (fun t1 => ?_) <;> conv => whnf
            · exact ⟨_, fun _ _ h => h, rfl⟩
            refine Fn.closed (ct) rfl ?_
            rintro _ rfl
            conv => whnf
            refine Fn.closed (c1) rfl ?_
            rintro _ rfl
            conv => whnf
            refine Fn.closed (c2) rfl ?_
            rintro _ rfl
            conv => whnf
            refine Fn.closed (c3) rfl ?_
            rintro _ rfl
            conv => whnf
            refine Fn.closed (c4) rfl ?_
            rintro _ rfl
            conv => whnf
            refine Fn.closed (c5) rfl ?_
            rintro _ rfl
            conv => whnf
            refine Fn.closed (c6) rfl ?_
            rintro _ rfl
            conv => whnf
            refine Fn.closed (c7) rfl ?_
            rintro _ rfl
            conv => whnf
            refine aSeq.go ?_
            conv => whnf
            refine Fn.closed (cO) rfl ?_
            rintro _ rfl
            conv => whnf
            refine Fn.closed (c8) rfl ?_
            rintro _ rfl
            conv => whnf
            refine Fn.closed (c9) rfl ?_
            rintro _ rfl
            conv => whnf
            refine ACalls.sub [bA [], bA []] ⟨fun c u h => nil_sl 1 _ c u h, fun _ _ h => h, trivial⟩ ?_
            refine Fn.closed (cB) rfl ?_
            rintro _ rfl
            conv => whnf
            refine Fn.closed (over_nil) rfl ?_
            rintro _ rfl
            conv => whnf
            have w9 : IntKind.i64.wrap ((p : Int) + 1) = ((p + 1 : Nat) : Int) := by rw [wi (by omega)]; rfl
            have hT : (l.take p).length = p := by rw [List.length_take]; omega
            apply aDraw.treeM (0) tys_ok mixed (.one 0 (.one 1 (.one 2 (.one 4 (.one 5 (.one 6 (.one 7 (.one 3 (.one 8 (.one 9 .fin)))))))))) [26, 217, 218, 219, 220, 221, 222, 223, 224, 225] (by kernel_rfl)
            · conv => whnf
              try (refine And.intro (by first | omega | (simp; done)) ?_; conv => whnf)
              try (refine And.intro (by first | omega | (simp; done)) ?_; conv => whnf)
              (refine ACalls.sub [hdsA (l.take p)] ⟨take_sub (by omega), trivial⟩ ?_; refine ACalls.beside (twinhandles_own (l.take p) (by rw [List.length_take]; omega) (fun h hh => hs h (List.mem_of_mem_take hh))) rfl ?_; rintro _ _ ⟨rfl, rfl⟩)
              conv => whnf
              try (refine And.intro (by first | rfl | omega) ?_; conv => whnf)
              try (refine And.intro (by first | omega | exact ⟨by first | rfl | (simp only [List.length_map]; done) | (simp only [List.length_map]; omega) | (simp; omega), by omega⟩) ?_; conv => whnf)
              exact ⟨rfl, rfl⟩
            conv => whnf
            rw [w9]
            rw [drop_row]
            have hC : (l.take p ++ l.drop (p + 1)).length = (l.take p).length + ((l.length : Int).toNat - ((p + 1 : Nat) : Int).toNat) := by simp only [List.length_append, List.length_drop]; omega
            have hCs : ∀ h ∈ l.take p ++ l.drop (p + 1), HdB h := fun h hh => by
              rcases List.mem_append.1 hh with hh | hh
              · exact hs h (List.mem_of_mem_take hh)
              · exact hs h (List.mem_of_mem_drop hh)
            have cR := handles_fn (l.take p ++ l.drop (p + 1)) (l.take p ++ l.drop (p + 1)) (by rw [hC]; omega) hCs
            rw [decide_eq_true rfl] at cR
            have cS := handles_fn [l.getD p ⟨0, [], []⟩] [l.getD p ⟨0, [], []⟩] (by show 1 ≤ 1000; omega) (fun h hh => by
              simp only [List.mem_cons, List.not_mem_nil, or_false] at hh; subst hh; exact hs _ (getD_mem hp))
            rw [decide_eq_true rfl] at cS
            refine aDraw.of tys_ok mixed [0, 1, 2, 3, 4, 5, 6, 7, 8, 9, 11, 12, 13, 14, 15, 10, 16, 17, 18, 19, 20, 21, 22, 23, 24] (by kernel_rfl) ?_
            conv => whnf
            refine ACalls.shut cR.go ?_
            conv => whnf
            refine And.intro (by rw [← List.map_append, List.length_map, hC]) ?_
            conv => whnf
            refine ACalls.sub [hdsA (l.take p ++ l.drop (p + 1)), hdsA (l.take p ++ l.drop (p + 1))] ⟨fun _ _ h => h, fun c u h => ?_, trivial⟩ ?_
            · rw [← List.map_append] at h
              exact sub_map (f := hdC) (d := ⟨0, [], []⟩) hC.symm c u h
            refine Fn.closed (cR) rfl ?_
            rintro _ rfl
            conv => whnf
            refine And.intro (by rw [w9]; omega) ?_
            conv => whnf
            rw [w9]
            refine ACalls.shut cS.go ?_
            conv => whnf
            refine And.intro rfl ?_
            conv => whnf
            refine ACalls.sub [hdsA [l.getD p ⟨0, [], []⟩], hdsA [l.getD p ⟨0, [], []⟩]] ⟨fun c u h => Rd.congr rfl (fun i hi => by
              have : i = 0 := by simp at hi; omega
              subst this; rfl) h, fun c u h => Rd.congr (by simp) (fun i hi => by
              have : i = 0 := by simp at hi; omega
              subst this; simp) h, trivial⟩ ?_
            refine Fn.closed (cS) rfl ?_
            rintro _ rfl
            conv => whnf
            refine Fn.closed (c5) rfl ?_
            rintro _ rfl
            conv => whnf
            refine boolK_intro (fun t6 => ?_) (fun t6 => ?_) <;> simp only [decide_eq_true_eq, decide_eq_false_iff_not] at t6 <;> conv => whnf
            · refine Fn.closed (wakes_fn) rfl ?_
              rintro _ rfl
              conv => whnf
              exact ⟨_, fun _ _ h => h, rfl⟩
            refine boolK_intro (fun t7 => ?_) (fun t7 => ?_) <;> conv => whnf
            · refine Fn.closed (wakes_fn) rfl ?_
              rintro _ rfl
              conv => whnf
              exact ⟨_, fun _ _ h => h, rfl⟩
            · simp at t7; omega
          · obtain ⟨hOl, hOs⟩ := hOO hm
            refine Fn.of tys_ok Try.func3 rfl rfl (Nat.le_of_ble_eq_true rfl) ?_
            conv => whnf
            refine Fn.closed (ch) rfl ?_
            rintro _ rfl
            conv => whnf
            refine boolK_intro (fun t1 => ?_) (fun t1 => ?_) <;> conv => whnf
            · exact ⟨_, fun _ _ h => h, rfl⟩
            refine Fn.closed (ct) rfl ?_
            rintro _ rfl
            conv => whnf
            refine Fn.closed (c1) rfl ?_
            rintro _ rfl
            conv => whnf
            refine Fn.closed (c2) rfl ?_
            rintro _ rfl
            conv => whnf
            refine Fn.closed (c3) rfl ?_
            rintro _ rfl
            conv => whnf
            refine Fn.closed (c4) rfl ?_
            rintro _ rfl
            conv => whnf
            refine Fn.closed (c5) rfl ?_
            rintro _ rfl
            conv => whnf
            refine Fn.closed (c6) rfl ?_
            rintro _ rfl
            conv => whnf
            refine Fn.closed (c7) rfl ?_
            rintro _ rfl
            conv => whnf
            refine aSeq.go ?_
            conv => whnf
            refine Fn.closed (cO) rfl ?_
            rintro _ rfl
            conv => whnf
            refine boolK_intro (fun t2 => ?_) (fun t2 => ?_) <;> simp only [decide_eq_true_eq, decide_eq_false_iff_not] at t2 <;> conv => whnf
            · omega
            refine boolK_intro (fun t3 => ?_) (fun t3 => ?_) <;> conv => whnf
            · simp at t3
            have cQ := handles_fn O O hOl hOs
            rw [decide_eq_true rfl] at cQ
            refine Fn.closed (cQ) rfl ?_
            rintro _ rfl
            conv => whnf
            refine Fn.closed (c8) rfl ?_
            rintro _ rfl
            conv => whnf
            refine Fn.closed (c9) rfl ?_
            rintro _ rfl
            conv => whnf
            refine ACalls.sub [bA [], bA []] ⟨fun c u h => nil_sl 1 _ c u h, fun _ _ h => h, trivial⟩ ?_
            refine Fn.closed (cB) rfl ?_
            rintro _ rfl
            conv => whnf
            refine Fn.closed (over_nil) rfl ?_
            rintro _ rfl
            conv => whnf
            have w9 : IntKind.i64.wrap ((p : Int) + 1) = ((p + 1 : Nat) : Int) := by rw [wi (by omega)]; rfl
            have hT : (l.take p).length = p := by rw [List.length_take]; omega
            apply aDraw.treeM (0) tys_ok mixed (.one 0 (.one 1 (.one 2 (.one 4 (.one 5 (.one 6 (.one 7 (.one 3 (.one 8 (.one 9 .fin)))))))))) [26, 217, 218, 219, 220, 221, 222, 223, 224, 225] (by kernel_rfl)
            · conv => whnf
              try (refine And.intro (by first | omega | (simp; done)) ?_; conv => whnf)
              try (refine And.intro (by first | omega | (simp; done)) ?_; conv => whnf)
              (refine ACalls.sub [hdsA (l.take p)] ⟨take_sub (by omega), trivial⟩ ?_; refine ACalls.beside (twinhandles_own (l.take p) (by rw [List.length_take]; omega) (fun h hh => hs h (List.mem_of_mem_take hh))) rfl ?_; rintro _ _ ⟨rfl, rfl⟩)
              conv => whnf
              try (refine And.intro (by first | rfl | omega) ?_; conv => whnf)
              try (refine And.intro (by first | omega | exact ⟨by first | rfl | (simp only [List.length_map]; done) | (simp only [List.length_map]; omega) | (simp; omega), by omega⟩) ?_; conv => whnf)
              exact ⟨rfl, rfl⟩
            conv => whnf
            rw [w9]
            rw [drop_row]
            have hC : (l.take p ++ l.drop (p + 1)).length = (l.take p).length + ((l.length : Int).toNat - ((p + 1 : Nat) : Int).toNat) := by simp only [List.length_append, List.length_drop]; omega
            have hCs : ∀ h ∈ l.take p ++ l.drop (p + 1), HdB h := fun h hh => by
              rcases List.mem_append.1 hh with hh | hh
              · exact hs h (List.mem_of_mem_take hh)
              · exact hs h (List.mem_of_mem_drop hh)
            have cR := handles_fn (l.take p ++ l.drop (p + 1)) (l.take p ++ l.drop (p + 1)) (by rw [hC]; omega) hCs
            rw [decide_eq_true rfl] at cR
            have cS := handles_fn [l.getD p ⟨0, [], []⟩] [l.getD p ⟨0, [], []⟩] (by show 1 ≤ 1000; omega) (fun h hh => by
              simp only [List.mem_cons, List.not_mem_nil, or_false] at hh; subst hh; exact hs _ (getD_mem hp))
            rw [decide_eq_true rfl] at cS
            refine aDraw.of tys_ok mixed [0, 1, 2, 3, 4, 5, 6, 7, 8, 9, 11, 12, 13, 14, 15, 10, 16, 17, 18, 19, 20, 21, 22, 23, 24] (by kernel_rfl) ?_
            conv => whnf
            refine ACalls.shut cR.go ?_
            conv => whnf
            refine And.intro (by rw [← List.map_append, List.length_map, hC]) ?_
            conv => whnf
            refine ACalls.sub [hdsA (l.take p ++ l.drop (p + 1)), hdsA (l.take p ++ l.drop (p + 1))] ⟨fun _ _ h => h, fun c u h => ?_, trivial⟩ ?_
            · rw [← List.map_append] at h
              exact sub_map (f := hdC) (d := ⟨0, [], []⟩) hC.symm c u h
            refine Fn.closed (cR) rfl ?_
            rintro _ rfl
            conv => whnf
            refine And.intro (by rw [w9]; omega) ?_
            conv => whnf
            rw [w9]
            refine ACalls.shut cS.go ?_
            conv => whnf
            refine And.intro rfl ?_
            conv => whnf
            refine ACalls.sub [hdsA [l.getD p ⟨0, [], []⟩], hdsA [l.getD p ⟨0, [], []⟩]] ⟨fun c u h => Rd.congr rfl (fun i hi => by
              have : i = 0 := by simp at hi; omega
              subst this; rfl) h, fun c u h => Rd.congr (by simp) (fun i hi => by
              have : i = 0 := by simp at hi; omega
              subst this; simp) h, trivial⟩ ?_
            refine Fn.closed (cS) rfl ?_
            rintro _ rfl
            conv => whnf
            refine Fn.closed (c5) rfl ?_
            rintro _ rfl
            conv => whnf
            refine boolK_intro (fun t6 => ?_) (fun t6 => ?_) <;> simp only [decide_eq_true_eq, decide_eq_false_iff_not] at t6 <;> conv => whnf
            · refine Fn.closed (wakes_fn) rfl ?_
              rintro _ rfl
              conv => whnf
              exact ⟨_, fun _ _ h => h, rfl⟩
            refine boolK_intro (fun t7 => ?_) (fun t7 => ?_) <;> conv => whnf
            · refine Fn.closed (wakes_fn) rfl ?_
              rintro _ rfl
              conv => whnf
              exact ⟨_, fun _ _ h => h, rfl⟩
            · simp at t7; omega
        · have e2 : putHd l id lba b = rP l p lba b := by
            simp only [putHd, hok, hhas, decide_eq_false (show ¬ lba < 0 by omega), decide_eq_false (show ¬ b.length ≠ 8 by omega), rP, ← hpp]; rfl
          rw [e2] at c2
          have cP := rput_fn l p lba b hok hs hp (by omega)
          have hZ := rP_ok (lba := lba) (b := b) (p := p) hs (by omega) (by omega) (by have := hdOk_iff.1 (hdOk_of hok hp); omega) hp
          have cZ := handles_fn (rP l p lba b).1 (rP l p lba b).1 (by omega) hZ.2
          rw [decide_eq_true rfl] at cZ
          rcases hcase with ⟨rfl, rfl, rfl, rfl⟩ | ⟨hm, rfl, rfl⟩
          · refine Fn.of tys_ok Try.func3 rfl rfl (Nat.le_of_ble_eq_true rfl) ?_
            conv => whnf
            refine Fn.closed (ch) rfl ?_
            rintro _ rfl
            conv => whnf
            refine boolK_intro (fun t1 => ?_) (fun t1 => ?_) <;> conv => whnf
            · exact ⟨_, fun _ _ h => h, rfl⟩
            refine Fn.closed (ct) rfl ?_
            rintro _ rfl
            conv => whnf
            refine Fn.closed (c1) rfl ?_
            rintro _ rfl
            conv => whnf
            refine Fn.closed (c2) rfl ?_
            rintro _ rfl
            conv => whnf
            refine Fn.closed (c3) rfl ?_
            rintro _ rfl
            conv => whnf
            refine Fn.closed (c4) rfl ?_
            rintro _ rfl
            conv => whnf
            refine Fn.closed (c5) rfl ?_
            rintro _ rfl
            conv => whnf
            refine Fn.closed (c6) rfl ?_
            rintro _ rfl
            conv => whnf
            refine Fn.closed (c7) rfl ?_
            rintro _ rfl
            conv => whnf
            refine aSeq.go ?_
            conv => whnf
            refine Fn.closed (cO) rfl ?_
            rintro _ rfl
            conv => whnf
            refine Fn.closed (c8) rfl ?_
            rintro _ rfl
            conv => whnf
            refine Fn.closed (c9) rfl ?_
            rintro _ rfl
            conv => whnf
            refine ACalls.sub [bA [], bA []] ⟨fun c u h => nil_sl 1 _ c u h, fun _ _ h => h, trivial⟩ ?_
            refine Fn.closed (cB) rfl ?_
            rintro _ rfl
            conv => whnf
            refine Fn.closed (over_nil) rfl ?_
            rintro _ rfl
            conv => whnf
            have w9 : IntKind.i64.wrap ((p : Int) + 1) = ((p + 1 : Nat) : Int) := by rw [wi (by omega)]; rfl
            have hT : (l.take p).length = p := by rw [List.length_take]; omega
            apply aDraw.treeM (0) tys_ok mixed (.one 0 (.one 1 (.one 2 (.one 4 (.one 5 (.one 6 (.one 7 (.one 3 (.one 8 (.one 9 .fin)))))))))) [26, 217, 218, 219, 220, 221, 222, 223, 224, 225] (by kernel_rfl)
            · conv => whnf
              try (refine And.intro (by first | omega | (simp; done)) ?_; conv => whnf)
              try (refine And.intro (by first | omega | (simp; done)) ?_; conv => whnf)
              (refine ACalls.sub [hdsA (l.take p)] ⟨take_sub (by omega), trivial⟩ ?_; refine ACalls.beside (twinhandles_own (l.take p) (by rw [List.length_take]; omega) (fun h hh => hs h (List.mem_of_mem_take hh))) rfl ?_; rintro _ _ ⟨rfl, rfl⟩)
              conv => whnf
              try (refine And.intro (by first | rfl | omega) ?_; conv => whnf)
              try (refine And.intro (by first | omega | exact ⟨by first | rfl | (simp only [List.length_map]; done) | (simp only [List.length_map]; omega) | (simp; omega), by omega⟩) ?_; conv => whnf)
              exact ⟨rfl, rfl⟩
            conv => whnf
            rw [w9]
            rw [drop_row]
            have hC : (l.take p ++ l.drop (p + 1)).length = (l.take p).length + ((l.length : Int).toNat - ((p + 1 : Nat) : Int).toNat) := by simp only [List.length_append, List.length_drop]; omega
            have hCs : ∀ h ∈ l.take p ++ l.drop (p + 1), HdB h := fun h hh => by
              rcases List.mem_append.1 hh with hh | hh
              · exact hs h (List.mem_of_mem_take hh)
              · exact hs h (List.mem_of_mem_drop hh)
            have cR := handles_fn (l.take p ++ l.drop (p + 1)) (l.take p ++ l.drop (p + 1)) (by rw [hC]; omega) hCs
            rw [decide_eq_true rfl] at cR
            have cS := handles_fn [l.getD p ⟨0, [], []⟩] [l.getD p ⟨0, [], []⟩] (by show 1 ≤ 1000; omega) (fun h hh => by
              simp only [List.mem_cons, List.not_mem_nil, or_false] at hh; subst hh; exact hs _ (getD_mem hp))
            rw [decide_eq_true rfl] at cS
            refine aDraw.of tys_ok mixed [0, 1, 2, 3, 4, 5, 6, 7, 8, 9, 11, 12, 13, 14, 15, 10, 16, 17, 18, 19, 20, 21, 22, 23, 24] (by kernel_rfl) ?_
            conv => whnf
            refine ACalls.shut cR.go ?_
            conv => whnf
            refine And.intro (by rw [← List.map_append, List.length_map, hC]) ?_
            conv => whnf
            refine ACalls.sub [hdsA (l.take p ++ l.drop (p + 1)), hdsA (l.take p ++ l.drop (p + 1))] ⟨fun _ _ h => h, fun c u h => ?_, trivial⟩ ?_
            · rw [← List.map_append] at h
              exact sub_map (f := hdC) (d := ⟨0, [], []⟩) hC.symm c u h
            refine Fn.closed (cR) rfl ?_
            rintro _ rfl
            conv => whnf
            refine And.intro (by rw [w9]; omega) ?_
            conv => whnf
            rw [w9]
            refine ACalls.shut cS.go ?_
            conv => whnf
            refine And.intro rfl ?_
            conv => whnf
            refine ACalls.sub [hdsA [l.getD p ⟨0, [], []⟩], hdsA [l.getD p ⟨0, [], []⟩]] ⟨fun c u h => Rd.congr rfl (fun i hi => by
              have : i = 0 := by simp at hi; omega
              subst this; rfl) h, fun c u h => Rd.congr (by simp) (fun i hi => by
              have : i = 0 := by simp at hi; omega
              subst this; simp) h, trivial⟩ ?_
            refine Fn.closed (cS) rfl ?_
            rintro _ rfl
            conv => whnf
            refine Fn.closed (c5) rfl ?_
            rintro _ rfl
            conv => whnf
            refine boolK_intro (fun t6 => ?_) (fun t6 => ?_) <;> simp only [decide_eq_true_eq, decide_eq_false_iff_not] at t6 <;> conv => whnf
            · omega
            refine boolK_intro (fun t7 => ?_) (fun t7 => ?_) <;> conv => whnf
            · simp at t7; omega
            refine Fn.closed (cP) rfl ?_
            rintro _ rfl
            conv => whnf
            refine boolK_intro (fun t8 => ?_) (fun t8 => ?_) <;> conv => whnf
            · refine Fn.closed (cZ) rfl ?_
              rintro _ rfl
              conv => whnf
              refine Fn.closed (wakes_fn) rfl ?_
              rintro _ rfl
              conv => whnf
              exact ⟨_, fun _ _ h => h, rfl⟩
            · simp at t8
          · obtain ⟨hOl, hOs⟩ := hOO hm
            refine Fn.of tys_ok Try.func3 rfl rfl (Nat.le_of_ble_eq_true rfl) ?_
            conv => whnf
            refine Fn.closed (ch) rfl ?_
            rintro _ rfl
            conv => whnf
            refine boolK_intro (fun t1 => ?_) (fun t1 => ?_) <;> conv => whnf
            · exact ⟨_, fun _ _ h => h, rfl⟩
            refine Fn.closed (ct) rfl ?_
            rintro _ rfl
            conv => whnf
            refine Fn.closed (c1) rfl ?_
            rintro _ rfl
            conv => whnf
            refine Fn.closed (c2) rfl ?_
            rintro _ rfl
            conv => whnf
            refine Fn.closed (c3) rfl ?_
            rintro _ rfl
            conv => whnf
            refine Fn.closed (c4) rfl ?_
            rintro _ rfl
            conv => whnf
            refine Fn.closed (c5) rfl ?_
            rintro _ rfl
            conv => whnf
            refine Fn.closed (c6) rfl ?_
            rintro _ rfl
            conv => whnf
            refine Fn.closed (c7) rfl ?_
            rintro _ rfl
            conv => whnf
            refine aSeq.go ?_
            conv => whnf
            refine Fn.closed (cO) rfl ?_
            rintro _ rfl
            conv => whnf
            refine boolK_intro (fun t2 => ?_) (fun t2 => ?_) <;> simp only [decide_eq_true_eq, decide_eq_false_iff_not] at t2 <;> conv => whnf
            · omega
            refine boolK_intro (fun t3 => ?_) (fun t3 => ?_) <;> conv => whnf
            · simp at t3
            have cQ := handles_fn O O hOl hOs
            rw [decide_eq_true rfl] at cQ
            refine Fn.closed (cQ) rfl ?_
            rintro _ rfl
            conv => whnf
            refine Fn.closed (c8) rfl ?_
            rintro _ rfl
            conv => whnf
            refine Fn.closed (c9) rfl ?_
            rintro _ rfl
            conv => whnf
            refine ACalls.sub [bA [], bA []] ⟨fun c u h => nil_sl 1 _ c u h, fun _ _ h => h, trivial⟩ ?_
            refine Fn.closed (cB) rfl ?_
            rintro _ rfl
            conv => whnf
            refine Fn.closed (over_nil) rfl ?_
            rintro _ rfl
            conv => whnf
            have w9 : IntKind.i64.wrap ((p : Int) + 1) = ((p + 1 : Nat) : Int) := by rw [wi (by omega)]; rfl
            have hT : (l.take p).length = p := by rw [List.length_take]; omega
            apply aDraw.treeM (0) tys_ok mixed (.one 0 (.one 1 (.one 2 (.one 4 (.one 5 (.one 6 (.one 7 (.one 3 (.one 8 (.one 9 .fin)))))))))) [26, 217, 218, 219, 220, 221, 222, 223, 224, 225] (by kernel_rfl)
            · conv => whnf
              try (refine And.intro (by first | omega | (simp; done)) ?_; conv => whnf)
              try (refine And.intro (by first | omega | (simp; done)) ?_; conv => whnf)
              (refine ACalls.sub [hdsA (l.take p)] ⟨take_sub (by omega), trivial⟩ ?_; refine ACalls.beside (twinhandles_own (l.take p) (by rw [List.length_take]; omega) (fun h hh => hs h (List.mem_of_mem_take hh))) rfl ?_; rintro _ _ ⟨rfl, rfl⟩)
              conv => whnf
              try (refine And.intro (by first | rfl | omega) ?_; conv => whnf)
              try (refine And.intro (by first | omega | exact ⟨by first | rfl | (simp only [List.length_map]; done) | (simp only [List.length_map]; omega) | (simp; omega), by omega⟩) ?_; conv => whnf)
              exact ⟨rfl, rfl⟩
            conv => whnf
            rw [w9]
            rw [drop_row]
            have hC : (l.take p ++ l.drop (p + 1)).length = (l.take p).length + ((l.length : Int).toNat - ((p + 1 : Nat) : Int).toNat) := by simp only [List.length_append, List.length_drop]; omega
            have hCs : ∀ h ∈ l.take p ++ l.drop (p + 1), HdB h := fun h hh => by
              rcases List.mem_append.1 hh with hh | hh
              · exact hs h (List.mem_of_mem_take hh)
              · exact hs h (List.mem_of_mem_drop hh)
            have cR := handles_fn (l.take p ++ l.drop (p + 1)) (l.take p ++ l.drop (p + 1)) (by rw [hC]; omega) hCs
            rw [decide_eq_true rfl] at cR
            have cS := handles_fn [l.getD p ⟨0, [], []⟩] [l.getD p ⟨0, [], []⟩] (by show 1 ≤ 1000; omega) (fun h hh => by
              simp only [List.mem_cons, List.not_mem_nil, or_false] at hh; subst hh; exact hs _ (getD_mem hp))
            rw [decide_eq_true rfl] at cS
            refine aDraw.of tys_ok mixed [0, 1, 2, 3, 4, 5, 6, 7, 8, 9, 11, 12, 13, 14, 15, 10, 16, 17, 18, 19, 20, 21, 22, 23, 24] (by kernel_rfl) ?_
            conv => whnf
            refine ACalls.shut cR.go ?_
            conv => whnf
            refine And.intro (by rw [← List.map_append, List.length_map, hC]) ?_
            conv => whnf
            refine ACalls.sub [hdsA (l.take p ++ l.drop (p + 1)), hdsA (l.take p ++ l.drop (p + 1))] ⟨fun _ _ h => h, fun c u h => ?_, trivial⟩ ?_
            · rw [← List.map_append] at h
              exact sub_map (f := hdC) (d := ⟨0, [], []⟩) hC.symm c u h
            refine Fn.closed (cR) rfl ?_
            rintro _ rfl
            conv => whnf
            refine And.intro (by rw [w9]; omega) ?_
            conv => whnf
            rw [w9]
            refine ACalls.shut cS.go ?_
            conv => whnf
            refine And.intro rfl ?_
            conv => whnf
            refine ACalls.sub [hdsA [l.getD p ⟨0, [], []⟩], hdsA [l.getD p ⟨0, [], []⟩]] ⟨fun c u h => Rd.congr rfl (fun i hi => by
              have : i = 0 := by simp at hi; omega
              subst this; rfl) h, fun c u h => Rd.congr (by simp) (fun i hi => by
              have : i = 0 := by simp at hi; omega
              subst this; simp) h, trivial⟩ ?_
            refine Fn.closed (cS) rfl ?_
            rintro _ rfl
            conv => whnf
            refine Fn.closed (c5) rfl ?_
            rintro _ rfl
            conv => whnf
            refine boolK_intro (fun t6 => ?_) (fun t6 => ?_) <;> simp only [decide_eq_true_eq, decide_eq_false_iff_not] at t6 <;> conv => whnf
            · omega
            refine boolK_intro (fun t7 => ?_) (fun t7 => ?_) <;> conv => whnf
            · simp at t7; omega
            refine Fn.closed (cP) rfl ?_
            rintro _ rfl
            conv => whnf
            refine boolK_intro (fun t8 => ?_) (fun t8 => ?_) <;> conv => whnf
            · refine Fn.closed (cZ) rfl ?_
              rintro _ rfl
              conv => whnf
              refine Fn.closed (wakes_fn) rfl ?_
              rintro _ rfl
              conv => whnf
              exact ⟨_, fun _ _ h => h, rfl⟩
            · simp at t8
      | true =>
        rw [hgb] at hg
        obtain ⟨B, hB⟩ : ∃ B, B = (l.getD p ⟨0, [], []⟩).blocks.getD (lb (l.getD p ⟨0, [], []⟩).lbas lba) [] := ⟨_, rfl⟩
        have hg : getH l id lba = (B, true, 0) := by rw [hg, hB]; rfl
        have hB8 : B.length = 8 := by
          obtain ⟨o1, o2, o3, o4⟩ := hdOk_iff.1 (hdOk_of hok hp)
          simp only [Bool.and_eq_true, decide_eq_true_eq] at hgb
          rw [hB]; exact o4 _ (getD_mem (by omega))
        have c3 := hget_own l id lba (by omega) hs (by rw [hg])
        rw [hg] at c3
        have e9 : gB (l.getD p ⟨0, [], []⟩) lba = (B, true) := by rw [gB, hgb, hB]; rfl
        rw [e9] at c9
        have cB := bytes_fn B B (by omega)
        rw [decide_eq_true rfl] at cB
        by_cases hq : lba < 0 ∨ b.length ≠ 8
        · have e2 : putHd l id lba b = ([], 1) := by
            rcases hq with hq | hq
            · simp only [putHd, hok, hhas, decide_eq_true hq]; rfl
            · simp only [putHd, hok, hhas, decide_eq_true hq, Bool.or_true]; rfl
          rw [e2] at c2
          rcases hcase with ⟨rfl, rfl, rfl, rfl⟩ | ⟨hm, rfl, rfl⟩
          · refine Fn.of tys_ok Try.func3 rfl rfl (Nat.le_of_ble_eq_true rfl) ?_
            conv => whnf
            refine Fn.closed (ch) rfl ?_
            rintro _ rfl
            conv => whnf
            refine boolK_intro (fun t1 => ?_) (fun t1 => ?_) <;> conv => whnf
            · exact ⟨_, fun _ _ h => h, rfl⟩
            refine Fn.closed (ct) rfl ?_
            rintro _ rfl
            conv => whnf
            refine Fn.closed (c1) rfl ?_
            rintro _ rfl
            conv => whnf
            refine Fn.closed (c2) rfl ?_
            rintro _ rfl
            conv => whnf
            refine ACalls.beside c3 rfl ?_
            rintro _ _ ⟨rfl, rfl⟩
            conv => whnf
            refine Fn.closed (c4) rfl ?_
            rintro _ rfl
            conv => whnf
            refine Fn.closed (c5) rfl ?_
            rintro _ rfl
            conv => whnf
            refine Fn.closed (c6) rfl ?_
            rintro _ rfl
            conv => whnf
            refine Fn.closed (c7) rfl ?_
            rintro _ rfl
            conv => whnf
            refine aSeq.go ?_
            conv => whnf
            refine Fn.closed (cO) rfl ?_
            rintro _ rfl
            conv => whnf
            refine Fn.closed (c8) rfl ?_
            rintro _ rfl
            conv => whnf
            refine Fn.closed (c9) rfl ?_
            rintro _ rfl
            conv => whnf
            refine Fn.lend (args' := [.sl 1 B.length fun i => (B.map by1).getD i [], bA B]) (cB.sub ⟨fun c u h => sub_map (f := by1) (d := 0) rfl c u h, fun _ _ h => h, trivial⟩) ⟨by simp, rfl⟩ ?_
            rintro _ rfl
            refine ⟨rfl, ?_⟩
            conv => whnf
            refine ACalls.frame [0] (over_own B (by omega)) rfl rfl rfl rfl (by decide) (bltAll rfl) ⟨rfl, trivial⟩ ?_
            rintro _ _ ⟨rfl, rfl⟩
            conv => whnf
            have w9 : IntKind.i64.wrap ((p : Int) + 1) = ((p + 1 : Nat) : Int) := by rw [wi (by omega)]; rfl
            have hT : (l.take p).length = p := by rw [List.length_take]; omega
            apply aDraw.treeM (0) tys_ok mixed (.one 0 (.one 1 (.one 2 (.one 4 (.one 5 (.one 6 (.one 7 (.one 3 (.one 8 (.one 9 .fin)))))))))) [26, 217, 218, 219, 220, 221, 222, 223, 224, 225] (by kernel_rfl)
            · conv => whnf
              try (refine And.intro (by first | omega | (simp; done)) ?_; conv => whnf)
              try (refine And.intro (by first | omega | (simp; done)) ?_; conv => whnf)
              (refine ACalls.sub [hdsA (l.take p)] ⟨take_sub (by omega), trivial⟩ ?_; refine ACalls.beside (twinhandles_own (l.take p) (by rw [List.length_take]; omega) (fun h hh => hs h (List.mem_of_mem_take hh))) rfl ?_; rintro _ _ ⟨rfl, rfl⟩)
              conv => whnf
              try (refine And.intro (by first | rfl | omega) ?_; conv => whnf)
              try (refine And.intro (by first | omega | exact ⟨by first | rfl | (simp only [List.length_map]; done) | (simp only [List.length_map]; omega) | (simp; omega), by omega⟩) ?_; conv => whnf)
              exact ⟨rfl, rfl⟩
            conv => whnf
            rw [w9]
            rw [drop_row]
            have hC : (l.take p ++ l.drop (p + 1)).length = (l.take p).length + ((l.length : Int).toNat - ((p + 1 : Nat) : Int).toNat) := by simp only [List.length_append, List.length_drop]; omega
            have hCs : ∀ h ∈ l.take p ++ l.drop (p + 1), HdB h := fun h hh => by
              rcases List.mem_append.1 hh with hh | hh
              · exact hs h (List.mem_of_mem_take hh)
              · exact hs h (List.mem_of_mem_drop hh)
            have cR := handles_fn (l.take p ++ l.drop (p + 1)) (l.take p ++ l.drop (p + 1)) (by rw [hC]; omega) hCs
            rw [decide_eq_true rfl] at cR
            have cS := handles_fn [l.getD p ⟨0, [], []⟩] [l.getD p ⟨0, [], []⟩] (by show 1 ≤ 1000; omega) (fun h hh => by
              simp only [List.mem_cons, List.not_mem_nil, or_false] at hh; subst hh; exact hs _ (getD_mem hp))
            rw [decide_eq_true rfl] at cS
            refine aDraw.of tys_ok mixed [0, 1, 2, 3, 4, 5, 6, 7, 8, 9, 11, 12, 13, 14, 15, 10, 16, 17, 18, 19, 20, 21, 22, 23, 24] (by kernel_rfl) ?_
            conv => whnf
            refine ACalls.shut cR.go ?_
            conv => whnf
            refine And.intro (by rw [← List.map_append, List.length_map, hC]) ?_
            conv => whnf
            refine ACalls.sub [hdsA (l.take p ++ l.drop (p + 1)), hdsA (l.take p ++ l.drop (p + 1))] ⟨fun _ _ h => h, fun c u h => ?_, trivial⟩ ?_
            · rw [← List.map_append] at h
              exact sub_map (f := hdC) (d := ⟨0, [], []⟩) hC.symm c u h
            refine Fn.closed (cR) rfl ?_
            rintro _ rfl
            conv => whnf
            refine And.intro (by rw [w9]; omega) ?_
            conv => whnf
            rw [w9]
            refine ACalls.shut cS.go ?_
            conv => whnf
            refine And.intro rfl ?_
            conv => whnf
            refine ACalls.sub [hdsA [l.getD p ⟨0, [], []⟩], hdsA [l.getD p ⟨0, [], []⟩]] ⟨fun c u h => Rd.congr rfl (fun i hi => by
              have : i = 0 := by simp at hi; omega
              subst this; rfl) h, fun c u h => Rd.congr (by simp) (fun i hi => by
              have : i = 0 := by simp at hi; omega
              subst this; simp) h, trivial⟩ ?_
            refine Fn.closed (cS) rfl ?_
            rintro _ rfl
            conv => whnf
            refine Fn.closed (c5) rfl ?_
            rintro _ rfl
            conv => whnf
            refine boolK_intro (fun t6 => ?_) (fun t6 => ?_) <;> simp only [decide_eq_true_eq, decide_eq_false_iff_not] at t6 <;> conv => whnf
            · refine Fn.closed (wakes_fn) rfl ?_
              rintro _ rfl
              conv => whnf
              exact ⟨_, fun _ _ h => h, rfl⟩
            refine boolK_intro (fun t7 => ?_) (fun t7 => ?_) <;> conv => whnf
            · refine Fn.closed (wakes_fn) rfl ?_
              rintro _ rfl
              conv => whnf
              exact ⟨_, fun _ _ h => h, rfl⟩
            · simp at t7; omega
          · obtain ⟨hOl, hOs⟩ := hOO hm
            refine Fn.of tys_ok Try.func3 rfl rfl (Nat.le_of_ble_eq_true rfl) ?_
            conv => whnf
            refine Fn.closed (ch) rfl ?_
            rintro _ rfl
            conv => whnf
            refine boolK_intro (fun t1 => ?_) (fun t1 => ?_) <;> conv => whnf
            · exact ⟨_, fun _ _ h => h, rfl⟩
            refine Fn.closed (ct) rfl ?_
            rintro _ rfl
            conv => whnf
            refine Fn.closed (c1) rfl ?_
            rintro _ rfl
            conv => whnf
            refine Fn.closed (c2) rfl ?_
            rintro _ rfl
            conv => whnf
            refine ACalls.beside c3 rfl ?_
            rintro _ _ ⟨rfl, rfl⟩
            conv => whnf
            refine Fn.closed (c4) rfl ?_
            rintro _ rfl
            conv => whnf
            refine Fn.closed (c5) rfl ?_
            rintro _ rfl
            conv => whnf
            refine Fn.closed (c6) rfl ?_
            rintro _ rfl
            conv => whnf
            refine Fn.closed (c7) rfl ?_
            rintro _ rfl
            conv => whnf
            refine aSeq.go ?_
            conv => whnf
            refine Fn.closed (cO) rfl ?_
            rintro _ rfl
            conv => whnf
            refine boolK_intro (fun t2 => ?_) (fun t2 => ?_) <;> simp only [decide_eq_true_eq, decide_eq_false_iff_not] at t2 <;> conv => whnf
            · omega
            refine boolK_intro (fun t3 => ?_) (fun t3 => ?_) <;> conv => whnf
            · simp at t3
            have cQ := handles_fn O O hOl hOs
            rw [decide_eq_true rfl] at cQ
            refine Fn.closed (cQ) rfl ?_
            rintro _ rfl
            conv => whnf
            refine Fn.closed (c8) rfl ?_
            rintro _ rfl
            conv => whnf
            refine Fn.closed (c9) rfl ?_
            rintro _ rfl
            conv => whnf
            refine Fn.lend (args' := [.sl 1 B.length fun i => (B.map by1).getD i [], bA B]) (cB.sub ⟨fun c u h => sub_map (f := by1) (d := 0) rfl c u h, fun _ _ h => h, trivial⟩) ⟨by simp, rfl⟩ ?_
            rintro _ rfl
            refine ⟨rfl, ?_⟩
            conv => whnf
            refine ACalls.frame [0] (over_own B (by omega)) rfl rfl rfl rfl (by decide) (bltAll rfl) ⟨rfl, trivial⟩ ?_
            rintro _ _ ⟨rfl, rfl⟩
            conv => whnf
            have w9 : IntKind.i64.wrap ((p : Int) + 1) = ((p + 1 : Nat) : Int) := by rw [wi (by omega)]; rfl
            have hT : (l.take p).length = p := by rw [List.length_take]; omega
            apply aDraw.treeM (0) tys_ok mixed (.one 0 (.one 1 (.one 2 (.one 4 (.one 5 (.one 6 (.one 7 (.one 3 (.one 8 (.one 9 .fin)))))))))) [26, 217, 218, 219, 220, 221, 222, 223, 224, 225] (by kernel_rfl)
            · conv => whnf
              try (refine And.intro (by first | omega | (simp; done)) ?_; conv => whnf)
              try (refine And.intro (by first | omega | (simp; done)) ?_; conv => whnf)
              (refine ACalls.sub [hdsA (l.take p)] ⟨take_sub (by omega), trivial⟩ ?_; refine ACalls.beside (twinhandles_own (l.take p) (by rw [List.length_take]; omega) (fun h hh => hs h (List.mem_of_mem_take hh))) rfl ?_; rintro _ _ ⟨rfl, rfl⟩)
              conv => whnf
              try (refine And.intro (by first | rfl | omega) ?_; conv => whnf)
              try (refine And.intro (by first | omega | exact ⟨by first | rfl | (simp only [List.length_map]; done) | (simp only [List.length_map]; omega) | (simp; omega), by omega⟩) ?_; conv => whnf)
              exact ⟨rfl, rfl⟩
            conv => whnf
            rw [w9]
            rw [drop_row]
            have hC : (l.take p ++ l.drop (p + 1)).length = (l.take p).length + ((l.length : Int).toNat - ((p + 1 : Nat) : Int).toNat) := by simp only [List.length_append, List.length_drop]; omega
            have hCs : ∀ h ∈ l.take p ++ l.drop (p + 1), HdB h := fun h hh => by
              rcases List.mem_append.1 hh with hh | hh
              · exact hs h (List.mem_of_mem_take hh)
              · exact hs h (List.mem_of_mem_drop hh)
            have cR := handles_fn (l.take p ++ l.drop (p + 1)) (l.take p ++ l.drop (p + 1)) (by rw [hC]; omega) hCs
            rw [decide_eq_true rfl] at cR
            have cS := handles_fn [l.getD p ⟨0, [], []⟩] [l.getD p ⟨0, [], []⟩] (by show 1 ≤ 1000; omega) (fun h hh => by
              simp only [List.mem_cons, List.not_mem_nil, or_false] at hh; subst hh; exact hs _ (getD_mem hp))
            rw [decide_eq_true rfl] at cS
            refine aDraw.of tys_ok mixed [0, 1, 2, 3, 4, 5, 6, 7, 8, 9, 11, 12, 13, 14, 15, 10, 16, 17, 18, 19, 20, 21, 22, 23, 24] (by kernel_rfl) ?_
            conv => whnf
            refine ACalls.shut cR.go ?_
            conv => whnf
            refine And.intro (by rw [← List.map_append, List.length_map, hC]) ?_
            conv => whnf
            refine ACalls.sub [hdsA (l.take p ++ l.drop (p + 1)), hdsA (l.take p ++ l.drop (p + 1))] ⟨fun _ _ h => h, fun c u h => ?_, trivial⟩ ?_
            · rw [← List.map_append] at h
              exact sub_map (f := hdC) (d := ⟨0, [], []⟩) hC.symm c u h
            refine Fn.closed (cR) rfl ?_
            rintro _ rfl
            conv => whnf
            refine And.intro (by rw [w9]; omega) ?_
            conv => whnf
            rw [w9]
            refine ACalls.shut cS.go ?_
            conv => whnf
            refine And.intro rfl ?_
            conv => whnf
            refine ACalls.sub [hdsA [l.getD p ⟨0, [], []⟩], hdsA [l.getD p ⟨0, [], []⟩]] ⟨fun c u h => Rd.congr rfl (fun i hi => by
              have : i = 0 := by simp at hi; omega
              subst this; rfl) h, fun c u h => Rd.congr (by simp) (fun i hi => by
              have : i = 0 := by simp at hi; omega
              subst this; simp) h, trivial⟩ ?_
            refine Fn.closed (cS) rfl ?_
            rintro _ rfl
            conv => whnf
            refine Fn.closed (c5) rfl ?_
            rintro _ rfl
            conv => whnf
            refine boolK_intro (fun t6 => ?_) (fun t6 => ?_) <;> simp only [decide_eq_true_eq, decide_eq_false_iff_not] at t6 <;> conv => whnf
            · refine Fn.closed (wakes_fn) rfl ?_
              rintro _ rfl
              conv => whnf
              exact ⟨_, fun _ _ h => h, rfl⟩
            refine boolK_intro (fun t7 => ?_) (fun t7 => ?_) <;> conv => whnf
            · refine Fn.closed (wakes_fn) rfl ?_
              rintro _ rfl
              conv => whnf
              exact ⟨_, fun _ _ h => h, rfl⟩
            · simp at t7; omega
        · have e2 : putHd l id lba b = rP l p lba b := by
            simp only [putHd, hok, hhas, decide_eq_false (show ¬ lba < 0 by omega), decide_eq_false (show ¬ b.length ≠ 8 by omega), rP, ← hpp]; rfl
          rw [e2] at c2
          have cP := rput_fn l p lba b hok hs hp (by omega)
          have hZ := rP_ok (lba := lba) (b := b) (p := p) hs (by omega) (by omega) (by have := hdOk_iff.1 (hdOk_of hok hp); omega) hp
          have cZ := handles_fn (rP l p lba b).1 (rP l p lba b).1 (by omega) hZ.2
          rw [decide_eq_true rfl] at cZ
          rcases hcase with ⟨rfl, rfl, rfl, rfl⟩ | ⟨hm, rfl, rfl⟩
          · refine Fn.of tys_ok Try.func3 rfl rfl (Nat.le_of_ble_eq_true rfl) ?_
            conv => whnf
            refine Fn.closed (ch) rfl ?_
            rintro _ rfl
            conv => whnf
            refine boolK_intro (fun t1 => ?_) (fun t1 => ?_) <;> conv => whnf
            · exact ⟨_, fun _ _ h => h, rfl⟩
            refine Fn.closed (ct) rfl ?_
            rintro _ rfl
            conv => whnf
            refine Fn.closed (c1) rfl ?_
            rintro _ rfl
            conv => whnf
            refine Fn.closed (c2) rfl ?_
            rintro _ rfl
            conv => whnf
            refine ACalls.beside c3 rfl ?_
            rintro _ _ ⟨rfl, rfl⟩
            conv => whnf
            refine Fn.closed (c4) rfl ?_
            rintro _ rfl
            conv => whnf
            refine Fn.closed (c5) rfl ?_
            rintro _ rfl
            conv => whnf
            refine Fn.closed (c6) rfl ?_
            rintro _ rfl
            conv => whnf
            refine Fn.closed (c7) rfl ?_
            rintro _ rfl
            conv => whnf
            refine aSeq.go ?_
            conv => whnf
            refine Fn.closed (cO) rfl ?_
            rintro _ rfl
            conv => whnf
            refine Fn.closed (c8) rfl ?_
            rintro _ rfl
            conv => whnf
            refine Fn.closed (c9) rfl ?_
            rintro _ rfl
            conv => whnf
            refine Fn.lend (args' := [.sl 1 B.length fun i => (B.map by1).getD i [], bA B]) (cB.sub ⟨fun c u h => sub_map (f := by1) (d := 0) rfl c u h, fun _ _ h => h, trivial⟩) ⟨by simp, rfl⟩ ?_
            rintro _ rfl
            refine ⟨rfl, ?_⟩
            conv => whnf
            refine ACalls.frame [0] (over_own B (by omega)) rfl rfl rfl rfl (by decide) (bltAll rfl) ⟨rfl, trivial⟩ ?_
            rintro _ _ ⟨rfl, rfl⟩
            conv => whnf
            have w9 : IntKind.i64.wrap ((p : Int) + 1) = ((p + 1 : Nat) : Int) := by rw [wi (by omega)]; rfl
            have hT : (l.take p).length = p := by rw [List.length_take]; omega
            apply aDraw.treeM (0) tys_ok mixed (.one 0 (.one 1 (.one 2 (.one 4 (.one 5 (.one 6 (.one 7 (.one 3 (.one 8 (.one 9 .fin)))))))))) [26, 217, 218, 219, 220, 221, 222, 223, 224, 225] (by kernel_rfl)
            · conv => whnf
              try (refine And.intro (by first | omega | (simp; done)) ?_; conv => whnf)
              try (refine And.intro (by first | omega | (simp; done)) ?_; conv => whnf)
              (refine ACalls.sub [hdsA (l.take p)] ⟨take_sub (by omega), trivial⟩ ?_; refine ACalls.beside (twinhandles_own (l.take p) (by rw [List.length_take]; omega) (fun h hh => hs h (List.mem_of_mem_take hh))) rfl ?_; rintro _ _ ⟨rfl, rfl⟩)
              conv => whnf
              try (refine And.intro (by first | rfl | omega) ?_; conv => whnf)
              try (refine And.intro (by first | omega | exact ⟨by first | rfl | (simp only [List.length_map]; done) | (simp only [List.length_map]; omega) | (simp; omega), by omega⟩) ?_; conv => whnf)
              exact ⟨rfl, rfl⟩
            conv => whnf
            rw [w9]
            rw [drop_row]
            have hC : (l.take p ++ l.drop (p + 1)).length = (l.take p).length + ((l.length : Int).toNat - ((p + 1 : Nat) : Int).toNat) := by simp only [List.length_append, List.length_drop]; omega
            have hCs : ∀ h ∈ l.take p ++ l.drop (p + 1), HdB h := fun h hh => by
              rcases List.mem_append.1 hh with hh | hh
              · exact hs h (List.mem_of_mem_take hh)
              · exact hs h (List.mem_of_mem_drop hh)
            have cR := handles_fn (l.take p ++ l.drop (p + 1)) (l.take p ++ l.drop (p + 1)) (by rw [hC]; omega) hCs
            rw [decide_eq_true rfl] at cR
            have cS := handles_fn [l.getD p ⟨0, [], []⟩] [l.getD p ⟨0, [], []⟩] (by show 1 ≤ 1000; omega) (fun h hh => by
              simp only [List.mem_cons, List.not_mem_nil, or_false] at hh; subst hh; exact hs _ (getD_mem hp))
            rw [decide_eq_true rfl] at cS
            refine aDraw.of tys_ok mixed [0, 1, 2, 3, 4, 5, 6, 7, 8, 9, 11, 12, 13, 14, 15, 10, 16, 17, 18, 19, 20, 21, 22, 23, 24] (by kernel_rfl) ?_
            conv => whnf
            refine ACalls.shut cR.go ?_
            conv => whnf
            refine And.intro (by rw [← List.map_append, List.length_map, hC]) ?_
            conv => whnf
            refine ACalls.sub [hdsA (l.take p ++ l.drop (p + 1)), hdsA (l.take p ++ l.drop (p + 1))] ⟨fun _ _ h => h, fun c u h => ?_, trivial⟩ ?_
            · rw [← List.map_append] at h
              exact sub_map (f := hdC) (d := ⟨0, [], []⟩) hC.symm c u h
            refine Fn.closed (cR) rfl ?_
            rintro _ rfl
            conv => whnf
            refine And.intro (by rw [w9]; omega) ?_
            conv => whnf
            rw [w9]
            refine ACalls.shut cS.go ?_
            conv => whnf
            refine And.intro rfl ?_
            conv => whnf
            refine ACalls.sub [hdsA [l.getD p ⟨0, [], []⟩], hdsA [l.getD p ⟨0, [], []⟩]] ⟨fun c u h => Rd.congr rfl (fun i hi => by
              have : i = 0 := by simp at hi; omega
              subst this; rfl) h, fun c u h => Rd.congr (by simp) (fun i hi => by
              have : i = 0 := by simp at hi; omega
              subst this; simp) h, trivial⟩ ?_
            refine Fn.closed (cS) rfl ?_
            rintro _ rfl
            conv => whnf
            refine Fn.closed (c5) rfl ?_
            rintro _ rfl
            conv => whnf
            refine boolK_intro (fun t6 => ?_) (fun t6 => ?_) <;> simp only [decide_eq_true_eq, decide_eq_false_iff_not] at t6 <;> conv => whnf
            · omega
            refine boolK_intro (fun t7 => ?_) (fun t7 => ?_) <;> conv => whnf
            · simp at t7; omega
            refine Fn.closed (cP) rfl ?_
            rintro _ rfl
            conv => whnf
            refine boolK_intro (fun t8 => ?_) (fun t8 => ?_) <;> conv => whnf
            · refine Fn.closed (cZ) rfl ?_
              rintro _ rfl
              conv => whnf
              refine Fn.closed (wakes_fn) rfl ?_
              rintro _ rfl
              conv => whnf
              exact ⟨_, fun _ _ h => h, rfl⟩
            · simp at t8
          · obtain ⟨hOl, hOs⟩ := hOO hm
            refine Fn.of tys_ok Try.func3 rfl rfl (Nat.le_of_ble_eq_true rfl) ?_
            conv => whnf
            refine Fn.closed (ch) rfl ?_
            rintro _ rfl
            conv => whnf
            refine boolK_intro (fun t1 => ?_) (fun t1 => ?_) <;> conv => whnf
            · exact ⟨_, fun _ _ h => h, rfl⟩
            refine Fn.closed (ct) rfl ?_
            rintro _ rfl
            conv => whnf
            refine Fn.closed (c1) rfl ?_
            rintro _ rfl
            conv => whnf
            refine Fn.closed (c2) rfl ?_
            rintro _ rfl
            conv => whnf
            refine ACalls.beside c3 rfl ?_
            rintro _ _ ⟨rfl, rfl⟩
            conv => whnf
            refine Fn.closed (c4) rfl ?_
            rintro _ rfl
            conv => whnf
            refine Fn.closed (c5) rfl ?_
            rintro _ rfl
            conv => whnf
            refine Fn.closed (c6) rfl ?_
            rintro _ rfl
            conv => whnf
            refine Fn.closed (c7) rfl ?_
            rintro _ rfl
            conv => whnf
            refine aSeq.go ?_
            conv => whnf
            refine Fn.closed (cO) rfl ?_
            rintro _ rfl
            conv => whnf
            refine boolK_intro (fun t2 => ?_) (fun t2 => ?_) <;> simp only [decide_eq_true_eq, decide_eq_false_iff_not] at t2 <;> conv => whnf
            · omega
            refine boolK_intro (fun t3 => ?_) (fun t3 => ?_) <;> conv => whnf
            · simp at t3
            have cQ := handles_fn O O hOl hOs
            rw [decide_eq_true rfl] at cQ
            refine Fn.closed (cQ) rfl ?_
            rintro _ rfl
            conv => whnf
            refine Fn.closed (c8) rfl ?_
            rintro _ rfl
            conv => whnf
            refine Fn.closed (c9) rfl ?_
            rintro _ rfl
            conv => whnf
            refine Fn.lend (args' := [.sl 1 B.length fun i => (B.map by1).getD i [], bA B]) (cB.sub ⟨fun c u h => sub_map (f := by1) (d := 0) rfl c u h, fun _ _ h => h, trivial⟩) ⟨by simp, rfl⟩ ?_
            rintro _ rfl
            refine ⟨rfl, ?_⟩
            conv => whnf
            refine ACalls.frame [0] (over_own B (by omega)) rfl rfl rfl rfl (by decide) (bltAll rfl) ⟨rfl, trivial⟩ ?_
            rintro _ _ ⟨rfl, rfl⟩
            conv => whnf
            have w9 : IntKind.i64.wrap ((p : Int) + 1) = ((p + 1 : Nat) : Int) := by rw [wi (by omega)]; rfl
            have hT : (l.take p).length = p := by rw [List.length_take]; omega
            apply aDraw.treeM (0) tys_ok mixed (.one 0 (.one 1 (.one 2 (.one 4 (.one 5 (.one 6 (.one 7 (.one 3 (.one 8 (.one 9 .fin)))))))))) [26, 217, 218, 219, 220, 221, 222, 223, 224, 225] (by kernel_rfl)
            · conv => whnf
              try (refine And.intro (by first | omega | (simp; done)) ?_; conv => whnf)
              try (refine And.intro (by first | omega | (simp; done)) ?_; conv => whnf)
              (refine ACalls.sub [hdsA (l.take p)] ⟨take_sub (by omega), trivial⟩ ?_; refine ACalls.beside (twinhandles_own (l.take p) (by rw [List.length_take]; omega) (fun h hh => hs h (List.mem_of_mem_take hh))) rfl ?_; rintro _ _ ⟨rfl, rfl⟩)
              conv => whnf
              try (refine And.intro (by first | rfl | omega) ?_; conv => whnf)
              try (refine And.intro (by first | omega | exact ⟨by first | rfl | (simp only [List.length_map]; done) | (simp only [List.length_map]; omega) | (simp; omega), by omega⟩) ?_; conv => whnf)
              exact ⟨rfl, rfl⟩
            conv => whnf
            rw [w9]
            rw [drop_row]
            have hC : (l.take p ++ l.drop (p + 1)).length = (l.take p).length + ((l.length : Int).toNat - ((p + 1 : Nat) : Int).toNat) := by simp only [List.length_append, List.length_drop]; omega
            have hCs : ∀ h ∈ l.take p ++ l.drop (p + 1), HdB h := fun h hh => by
              rcases List.mem_append.1 hh with hh | hh
              · exact hs h (List.mem_of_mem_take hh)
              · exact hs h (List.mem_of_mem_drop hh)
            have cR := handles_fn (l.take p ++ l.drop (p + 1)) (l.take p ++ l.drop (p + 1)) (by rw [hC]; omega) hCs
            rw [decide_eq_true rfl] at cR
            have cS := handles_fn [l.getD p ⟨0, [], []⟩] [l.getD p ⟨0, [], []⟩] (by show 1 ≤ 1000; omega) (fun h hh => by
              simp only [List.mem_cons, List.not_mem_nil, or_false] at hh; subst hh; exact hs _ (getD_mem hp))
            rw [decide_eq_true rfl] at cS
            refine aDraw.of tys_ok mixed [0, 1, 2, 3, 4, 5, 6, 7, 8, 9, 11, 12, 13, 14, 15, 10, 16, 17, 18, 19, 20, 21, 22, 23, 24] (by kernel_rfl) ?_
            conv => whnf
            refine ACalls.shut cR.go ?_
            conv => whnf
            refine And.intro (by rw [← List.map_append, List.length_map, hC]) ?_
            conv => whnf
            refine ACalls.sub [hdsA (l.take p ++ l.drop (p + 1)), hdsA (l.take p ++ l.drop (p + 1))] ⟨fun _ _ h => h, fun c u h => ?_, trivial⟩ ?_
            · rw [← List.map_append] at h
              exact sub_map (f := hdC) (d := ⟨0, [], []⟩) hC.symm c u h
            refine Fn.closed (cR) rfl ?_
            rintro _ rfl
            conv => whnf
            refine And.intro (by rw [w9]; omega) ?_
            conv => whnf
            rw [w9]
            refine ACalls.shut cS.go ?_
            conv => whnf
            refine And.intro rfl ?_
            conv => whnf
            refine ACalls.sub [hdsA [l.getD p ⟨0, [], []⟩], hdsA [l.getD p ⟨0, [], []⟩]] ⟨fun c u h => Rd.congr rfl (fun i hi => by
              have : i = 0 := by simp at hi; omega
              subst this; rfl) h, fun c u h => Rd.congr (by simp) (fun i hi => by
              have : i = 0 := by simp at hi; omega
              subst this; simp) h, trivial⟩ ?_
            refine Fn.closed (cS) rfl ?_
            rintro _ rfl
            conv => whnf
            refine Fn.closed (c5) rfl ?_
            rintro _ rfl
            conv => whnf
            refine boolK_intro (fun t6 => ?_) (fun t6 => ?_) <;> simp only [decide_eq_true_eq, decide_eq_false_iff_not] at t6 <;> conv => whnf
            · omega
            refine boolK_intro (fun t7 => ?_) (fun t7 => ?_) <;> conv => whnf
            · simp at t7; omega
            refine Fn.closed (cP) rfl ?_
            rintro _ rfl
            conv => whnf
            refine boolK_intro (fun t8 => ?_) (fun t8 => ?_) <;> conv => whnf
            · refine Fn.closed (cZ) rfl ?_
              rintro _ rfl
              conv => whnf
              refine Fn.closed (wakes_fn) rfl ?_
              rintro _ rfl
              conv => whnf
              exact ⟨_, fun _ _ h => h, rfl⟩
            · simp at t8
theorem exact_all (l : List Hd) (id lba : Int) (b : List UInt8) : Fn Try.prog 3 [hdsA l, .v (.int .i64 id), .v (.int .i64 lba), bA b] fun r => r = .v (.bool true) := by
  cases h : hdsOk l with
  | false => exact exact_no l id lba b h
  | true => exact exact_yes l id lba b h
end Go.Proofs.Ytjcboeldmgmfcaa.A
