/-
Several texts in one.
-/
import Derived.Test.YteecmgonbdbhdaaDoorPPSMendP7
import Derived.Test.YteecmgonbdbhdaaDoorPPSMendP6

/-
A transaction that was cut while it was written, in plain terms.
-/
section
namespace Go.Proofs.YteecmgonbdbhdaaDoor.A
open Go.RowKit

def saysX (g : Geo) (L L' : List Tx) (ep : Int) (c : Int → Bool) : Int → Option Rc := fun s => if 0 ≤ s ∧ s < g.sl then some (if c s then recW g L ep s else recW g L' ep s) else none
def cutL (bit : Nat → Bool) (slot : Nat → Nat) (X U : List Gt) : Nat → List Gt
  | 0 => X
  | k + 1 => if bit k then (cutL bit slot X U k).set (slot k) (U.getD (slot k) gz) else cutL bit slot X U k
def cutC (bit : Nat → Bool) (slot : Nat → Nat) : Nat → Int → Bool
  | 0, _ => false
  | k + 1, s => (bit k && decide (s = (slot k : Nat))) || cutC bit slot k s
theorem cutL_len (bit : Nat → Bool) (slot : Nat → Nat) (X U : List Gt) : ∀ k, (cutL bit slot X U k).length = X.length
  | 0 => rfl
  | k + 1 => by
    unfold cutL
    split
    · rw [List.length_set, cutL_len bit slot X U k]
    · exact cutL_len bit slot X U k
theorem cutL_mem {bit : Nat → Bool} {slot : Nat → Nat} {X U : List Gt} {Q : Gt → Prop} (hX : ∀ z ∈ X, Q z) (hU : ∀ z ∈ U, Q z) : ∀ k, (∀ i, i < k → slot i < U.length) → ∀ z ∈ cutL bit slot X U k, Q z
  | 0, _ => hX
  | k + 1, hs => by
    have ih := cutL_mem (bit := bit) hX hU k fun i hi => hs i (by omega)
    unfold cutL
    split
    · intro z hz
      rcases List.mem_or_eq_of_mem_set hz with h | rfl
      · exact ih z h
      · exact hU _ (getD_mem (hs k (by omega)))
    · exact ih
theorem cutC_iff {bit : Nat → Bool} {slot : Nat → Nat} : ∀ {n : Nat} {s : Int}, cutC bit slot n s = true ↔ ∃ i, i < n ∧ bit i = true ∧ s = (slot i : Nat)
  | 0, s => by simp [cutC]
  | n + 1, s => by
    simp only [cutC, Bool.or_eq_true, Bool.and_eq_true, decide_eq_true_eq, cutC_iff (n := n)]
    constructor
    · rintro (⟨h1, h2⟩ | ⟨i, h1, h2, h3⟩)
      · exact ⟨n, by omega, h1, h2⟩
      · exact ⟨i, by omega, h2, h3⟩
    · rintro ⟨i, h1, h2, h3⟩
      by_cases e : i = n
      · subst e
        exact .inl ⟨h2, h3⟩
      · exact .inr ⟨i, by omega, h2, h3⟩
theorem cutC_at {bit : Nat → Bool} {slot : Nat → Nat} {n k : Nat} (hk : k < n) (inj : ∀ i j, i < n → j < n → slot i = slot j → i = j) : cutC bit slot n ((slot k : Nat) : Int) = bit k := by
  cases h : bit k with
  | true => exact cutC_iff.2 ⟨k, hk, h, rfl⟩
  | false =>
    rw [← Bool.not_eq_true]
    intro e
    obtain ⟨i, h1, h2, h3⟩ := cutC_iff.1 e
    have := inj k i hk h1 (Int.ofNat_inj.1 h3)
    subst this
    rw [h] at h2
    cases h2
theorem saysF_cut {g : Geo} {L L' : List Tx} {ep copy : Int} {X U : List Gt} {bit : Nat → Bool} {slot : Nat → Nat} (hX : saysF g X copy = saysW g L' ep fun _ => false) (hU : saysF g U copy = saysW g L ep fun _ => false) (hl : (X.length : Int) = g.sl) : ∀ k, (∀ i, i < k → slot i < X.length) → saysF g (cutL bit slot X U k) copy = saysX g L L' ep (cutC bit slot k)
  | 0, _ => by
    unfold cutL
    rw [hX]
    funext s
    simp [saysW, saysX, cutC]
  | k + 1, hs => by
    have ih := saysF_cut (bit := bit) (slot := slot) hX hU hl k fun i hi => hs i (by omega)
    have hk := hs k (by omega)
    unfold cutL
    by_cases hb : bit k = true
    · rw [if_pos hb]
      funext s
      have ihs := congrFun ih s
      unfold saysF at ihs ⊢
      by_cases h0 : 0 ≤ s ∧ s < g.sl
      · obtain ⟨i, rfl⟩ := Int.eq_ofNat_of_zero_le h0.1
        rw [Int.toNat_natCast] at ihs ⊢
        by_cases e : i = slot k
        · subst e
          rw [List.getD_eq_getElem?_getD, List.getElem?_set_self (by rw [cutL_len]; exact hk)]
          have hu := congrFun hU ((slot k : Nat) : Int)
          unfold saysF at hu
          rw [Int.toNat_natCast] at hu
          simp only [Option.getD_some]
          rw [hu]
          unfold saysW saysX
          rw [if_pos h0, if_pos h0, if_neg Bool.false_ne_true]
          have : cutC bit slot (k + 1) ((slot k : Nat) : Int) = true := cutC_iff.2 ⟨k, by omega, hb, rfl⟩
          rw [this]
          rfl
        · rw [List.getD_eq_getElem?_getD, List.getElem?_set_ne (Ne.symm e), ← List.getD_eq_getElem?_getD, ihs]
          unfold saysX
          rw [if_pos h0, if_pos h0]
          have : cutC bit slot (k + 1) ((i : Nat) : Int) = cutC bit slot k ((i : Nat) : Int) := by
            simp only [cutC]
            rw [decide_eq_false (show ¬ ((i : Nat) : Int) = ((slot k : Nat) : Int) by omega), Bool.and_false, Bool.false_or]
          rw [this]
      · unfold saysX
        rw [if_neg h0]
        exact saysR_out h0
    · rw [if_neg hb, ih]
      congr 1
      funext s
      simp only [cutC, Bool.not_eq_true _ ▸ hb, Bool.false_and, Bool.false_or]
theorem first_no (P : Nat → Bool) : ∀ n, (∀ k, k < n → P k = true) ∨ ∃ k0, k0 < n ∧ P k0 = false ∧ ∀ k, k < k0 → P k = true
  | 0 => .inl fun k hk => by omega
  | n + 1 => by
    rcases first_no P n with h | ⟨k0, h1, h2, h3⟩
    · cases hn : P n with
      | true =>
        refine .inl fun k hk => ?_
        by_cases e : k = n
        · rw [e, hn]
        · exact h k (by omega)
      | false => exact .inr ⟨n, by omega, hn, h⟩
    · exact .inr ⟨k0, by omega, h2, h3⟩
theorem tmod_inj {p u v n : Int} (hp : 0 ≤ p ∧ p < n) (hu : 0 ≤ u ∧ u < n) (hv : 0 ≤ v ∧ v < n) (h : (p + u).tmod n = (p + v).tmod n) : u = v := by
  have h1 : (p + u).tmod n = if p + u < n then p + u else p + u - n := by
    split
    · exact tmod_lo (by omega) (by omega)
    · exact tmod_hi (by omega) (by omega) (by omega)
  have h2 : (p + v).tmod n = if p + v < n then p + v else p + v - n := by
    split
    · exact tmod_lo (by omega) (by omega)
    · exact tmod_hi (by omega) (by omega) (by omega)
  rw [h1, h2] at h
  split at h <;> split at h <;> omega
section
variable {g : Geo} {a : An} {fill : UInt8} {sizes : List Int}
theorem used_mono (hg : okG g = true) (ha : anOk g a = true) {i j : Nat} (h : i ≤ j) : usedM ((logM g a fill sizes 0 a.pos 0).take i) ≤ usedM ((logM g a fill sizes 0 a.pos 0).take j) := by
  induction j with
  | zero => rw [show i = 0 by omega]; exact Int.le_refl _
  | succ j ih =>
    by_cases e : i = j + 1
    · rw [e]; exact Int.le_refl _
    · have ih := ih (by omega)
      by_cases hj : j < (logM g a fill sizes 0 a.pos 0).length
      · rw [used_take _ j hj]
        have := (log_get (fill := fill) (sizes := sizes) hg ha hj).2.1
        omega
      · rw [List.take_of_length_le (show _ ≤ j + 1 by omega)]
        rw [List.take_of_length_le (show _ ≤ j by omega)] at ih
        exact ih
theorem who_free {u : Int} (hg : okG g = true) (ha : anOk g a = true) (hu : usedM (logM g a fill sizes 0 a.pos 0) ≤ u) (hs : u < g.sl) : whoM g ((a.pos + u).tmod g.sl) (logM g a fill sizes 0 a.pos 0) 0 = none := by
  obtain ⟨h1, h2, h3, h4, h5⟩ := okG_iff.1 hg
  have hq := anOk_seq ha
  have h0 := used_nn (logM_nn (fill := fill) (sizes := sizes) hg ha)
  have hw := who_log (a := a) (fill := fill) hg (p0 := a.pos) hq.2 (u := u) (by omega) sizes 0 0 0 ⟨Int.le_refl 0, by omega⟩
  rw [show (a.pos + 0).tmod g.sl = a.pos by rw [Int.add_zero]; exact tmod_lo hq.2.1 hq.2.2] at hw
  rw [findU_none _ 0 0 _ (logM_nn hg ha) (by omega)] at hw
  exact hw
theorem who_some (hg : okG g = true) (ha : anOk g a = true) {j k : Nat} (hj : j < (logM g a fill sizes 0 a.pos 0).length) (hk : k < ((logM g a fill sizes 0 a.pos 0).getD j tz).images.length + 1) : (whoM g (slotM g ((logM g a fill sizes 0 a.pos 0).getD j tz).pos k) (logM g a fill sizes 0 a.pos 0) 0).isSome = true := by
  obtain ⟨-, r2⟩ := recW_at (ep := 0) hg ha hj hk
  cases h : whoM g (slotM g ((logM g a fill sizes 0 a.pos 0).getD j tz).pos k) (logM g a fill sizes 0 a.pos 0) 0 with
  | some _ => rfl
  | none =>
    unfold recW at r2
    rw [h] at r2
    have := (recs_facts ((logM g a fill sizes 0 a.pos 0).getD j tz).seq 0 ((logM g a fill sizes 0 a.pos 0).getD j tz).images k hk).1
    rw [← r2] at this
    exact absurd rfl this
theorem log_pos (hg : okG g = true) (ha : anOk g a = true) {j : Nat} (hj : j < (logM g a fill sizes 0 a.pos 0).length) : ((logM g a fill sizes 0 a.pos 0).getD j tz).pos = (a.pos + usedM ((logM g a fill sizes 0 a.pos 0).take j)).tmod g.sl := by
  have hq := anOk_seq ha
  have hp := posM_used hg ((logM g a fill sizes 0 a.pos 0).take j) a.pos hq.2.1 fun t ht => logM_nn hg ha t (List.mem_of_mem_take ht)
  rw [tmod_lo hq.2.1 hq.2.2, ← logM_pos sizes 0 a.pos 0 j hj] at hp
  exact hp
theorem slot_inj (hg : okG g = true) (ha : anOk g a = true) {j j' k k' : Nat} (hj : j < (logM g a fill sizes 0 a.pos 0).length) (hj' : j' < (logM g a fill sizes 0 a.pos 0).length) (hk : k < ((logM g a fill sizes 0 a.pos 0).getD j tz).images.length + 1) (hk' : k' < ((logM g a fill sizes 0 a.pos 0).getD j' tz).images.length + 1) (h : slotM g ((logM g a fill sizes 0 a.pos 0).getD j tz).pos k = slotM g ((logM g a fill sizes 0 a.pos 0).getD j' tz).pos k') : j = j' ∧ k = k' := by
  have hq := anOk_seq ha
  have r1 := log_room hg (a := a) (fill := fill) (sizes := sizes) hj
  have r2 := log_room hg (a := a) (fill := fill) (sizes := sizes) hj'
  have n1 := log_take_nn (fill := fill) (sizes := sizes) hg ha j
  have n2 := log_take_nn (fill := fill) (sizes := sizes) hg ha j'
  have g1 := (log_get (fill := fill) (sizes := sizes) hg ha hj).2.1
  have g2 := (log_get (fill := fill) (sizes := sizes) hg ha hj').2.1
  rw [log_slot hg ha hj hk, log_slot hg ha hj' hk'] at h
  have e := tmod_inj hq.2 (by omega) (by omega) h
  have u1 := used_take _ j hj
  have u2 := used_take _ j' hj'
  rcases Nat.lt_trichotomy j j' with hlt | rfl | hlt
  · have := used_mono (fill := fill) (sizes := sizes) hg ha (show j + 1 ≤ j' by omega)
    exfalso; omega
  · exact ⟨rfl, by omega⟩
  · have := used_mono (fill := fill) (sizes := sizes) hg ha (show j' + 1 ≤ j by omega)
    exfalso; omega
theorem cut_scan {m : Nat} {bit0 bit1 : Nat → Bool} {slot : Nat → Nat} (hg : okG g = true) (ha : anOk g a = true) (hs : a.seq ≤ 1000000) (hl : sizes.length ≤ 40) (hm : (logM g a fill sizes 0 a.pos 0).length = m + 1) (hslot : ∀ i, i < ((logM g a fill sizes 0 a.pos 0).getD m tz).images.length + 1 → slotM g ((logM g a fill sizes 0 a.pos 0).getD m tz).pos i = (slot i : Nat)) :
    ∃ w, scanP g a (saysX g (logM g a fill sizes 0 a.pos 0) ((logM g a fill sizes 0 a.pos 0).take m) a.epoch (cutC bit0 slot (((logM g a fill sizes 0 a.pos 0).getD m tz).images.length + 1))) (saysX g (logM g a fill sizes 0 a.pos 0) ((logM g a fill sizes 0 a.pos 0).take m) a.epoch (cutC bit1 slot (((logM g a fill sizes 0 a.pos 0).getD m tz).images.length + 1))) =
      finM a (if ∀ k, k < ((logM g a fill sizes 0 a.pos 0).getD m tz).images.length + 1 → (bit0 k || bit1 k) = true then some (logM g a fill sizes 0 a.pos 0, w, a.seq + (m + 1)) else some ((logM g a fill sizes 0 a.pos 0).take m, w, a.seq + m)) := by
  obtain ⟨h1, h2, h3, h4, h5⟩ := okG_iff.1 hg
  have hq := anOk_seq ha
  have eT := logM_take (g := g) (a := a) (fill := fill) sizes 0 a.pos 0 m (by omega)
  have hmL : m < (logM g a fill sizes 0 a.pos 0).length := by omega
  have hUm := log_take_nn (fill := fill) (sizes := sizes) hg ha m
  have hroom := log_room hg (a := a) (fill := fill) (sizes := sizes) hmL
  have hgm := log_get (fill := fill) (sizes := sizes) hg ha hmL
  have hpm := log_pos (fill := fill) (sizes := sizes) hg ha hmL
  have hU := log_used hg (a := a) (fill := fill) (sizes := sizes)
  have hU0 := used_nn (logM_nn (fill := fill) (sizes := sizes) hg ha)
  have hmono := used_mono (fill := fill) (sizes := sizes) hg ha (show m ≤ m + 1 by omega)
  rw [List.take_of_length_le (show _ ≤ m + 1 by omega)] at hmono
  have hinj : ∀ i j, i < ((logM g a fill sizes 0 a.pos 0).getD m tz).images.length + 1 → j < ((logM g a fill sizes 0 a.pos 0).getD m tz).images.length + 1 → slot i = slot j → i = j := fun i j hi hj e => (slot_inj (fill := fill) (sizes := sizes) hg ha hmL hmL hi hj (by rw [hslot i hi, hslot j hj, e])).2
  have hsl := fun k hk => log_slot (k := k) (fill := fill) (sizes := sizes) hg ha hmL hk
  -- what the copies say at the last one's slots
  have sayL : ∀ (bit : Nat → Bool) (k : Nat), k < ((logM g a fill sizes 0 a.pos 0).getD m tz).images.length + 1 → saysX g (logM g a fill sizes 0 a.pos 0) ((logM g a fill sizes 0 a.pos 0).take m) a.epoch (cutC bit slot (((logM g a fill sizes 0 a.pos 0).getD m tz).images.length + 1)) (slotM g ((logM g a fill sizes 0 a.pos 0).getD m tz).pos k) = some (if bit k then (recsOf ((logM g a fill sizes 0 a.pos 0).getD m tz).seq a.epoch ((logM g a fill sizes 0 a.pos 0).getD m tz).images).getD k rc0 else zeroC) := fun bit k hk => by
    obtain ⟨r1, r2⟩ := recW_at (ep := a.epoch) (fill := fill) (sizes := sizes) hg ha hmL hk
    unfold saysX
    rw [if_pos r1, r2, eT, hsl k hk, recW_free hg ha (by rw [← eT]; omega) (by omega), ← hsl k hk, hslot k hk, cutC_at hk hinj]
  have whoL : ∀ k : Nat, k < ((logM g a fill sizes 0 a.pos 0).getD m tz).images.length + 1 → whoM g (slotM g ((logM g a fill sizes 0 a.pos 0).getD m tz).pos k) ((logM g a fill sizes 0 a.pos 0).take m) 0 = none := fun k hk => by
    rw [eT, hsl k hk]
    exact who_free hg ha (by rw [← eT]; omega) (by omega)
  have saysL : ∀ (bit : Nat → Bool) (k : Nat), k < ((logM g a fill sizes 0 a.pos 0).getD m tz).images.length + 1 → SaysB a (saysX g (logM g a fill sizes 0 a.pos 0) ((logM g a fill sizes 0 a.pos 0).take m) a.epoch (cutC bit slot (((logM g a fill sizes 0 a.pos 0).getD m tz).images.length + 1)) (slotM g ((logM g a fill sizes 0 a.pos 0).getD m tz).pos k)) (cutC bit slot (((logM g a fill sizes 0 a.pos 0).getD m tz).images.length + 1) (slotM g ((logM g a fill sizes 0 a.pos 0).getD m tz).pos k) || (whoM g (slotM g ((logM g a fill sizes 0 a.pos 0).getD m tz).pos k) ((logM g a fill sizes 0 a.pos 0).take m) 0).isSome) ((recsOf ((logM g a fill sizes 0 a.pos 0).getD m tz).seq a.epoch ((logM g a fill sizes 0 a.pos 0).getD m tz).images).getD k rc0) ((logM g a fill sizes 0 a.pos 0).getD m tz).seq k := fun bit k hk => by
    rw [sayL bit k hk, whoL k hk, hslot k hk, cutC_at hk hinj]
    unfold SaysB
    cases bit k
    · exact fun _ _ => one_zero _ _ _ _ _
    · rfl
  have sayT : ∀ (bit : Nat → Bool) (j k : Nat), j < m → k < ((logM g a fill sizes 0 a.pos 0).getD j tz).images.length + 1 → saysX g (logM g a fill sizes 0 a.pos 0) ((logM g a fill sizes 0 a.pos 0).take m) a.epoch (cutC bit slot (((logM g a fill sizes 0 a.pos 0).getD m tz).images.length + 1)) (slotM g ((logM g a fill sizes 0 a.pos 0).getD j tz).pos k) = some ((recsOf ((logM g a fill sizes 0 a.pos 0).getD j tz).seq a.epoch ((logM g a fill sizes 0 a.pos 0).getD j tz).images).getD k rc0) ∧ (whoM g (slotM g ((logM g a fill sizes 0 a.pos 0).getD j tz).pos k) ((logM g a fill sizes 0 a.pos 0).take m) 0).isSome = true := fun bit j k hj hk => by
    obtain ⟨r1, r2⟩ := recW_at (ep := a.epoch) (fill := fill) (sizes := sizes) hg ha (show j < _ by omega) hk
    have eg : ((logM g a fill sizes 0 a.pos 0).take m).getD j tz = (logM g a fill sizes 0 a.pos 0).getD j tz := by
      rw [List.getD_eq_getElem?_getD, List.getD_eq_getElem?_getD, List.getElem?_take_of_lt hj]
    have hj' : j < (logM g a fill (sizes.take m) 0 a.pos 0).length := by rw [← eT, List.length_take]; omega
    have hk' : k < ((logM g a fill (sizes.take m) 0 a.pos 0).getD j tz).images.length + 1 := by rw [← eT, eg]; exact hk
    obtain ⟨r3, r4⟩ := recW_at (ep := a.epoch) (fill := fill) (sizes := sizes.take m) hg ha hj' hk'
    have r5 := who_some (fill := fill) (sizes := sizes.take m) hg ha hj' hk'
    rw [← eT, eg] at r4 r5
    refine ⟨?_, r5⟩
    unfold saysX
    rw [if_pos r1, r2, r4]
    split <;> rfl
  have allT : ∀ t ∈ (logM g a fill sizes 0 a.pos 0).take m, AllB g a a.epoch (saysX g (logM g a fill sizes 0 a.pos 0) ((logM g a fill sizes 0 a.pos 0).take m) a.epoch (cutC bit0 slot (((logM g a fill sizes 0 a.pos 0).getD m tz).images.length + 1))) (saysX g (logM g a fill sizes 0 a.pos 0) ((logM g a fill sizes 0 a.pos 0).take m) a.epoch (cutC bit1 slot (((logM g a fill sizes 0 a.pos 0).getD m tz).images.length + 1))) (fun s => cutC bit0 slot (((logM g a fill sizes 0 a.pos 0).getD m tz).images.length + 1) s || (whoM g s ((logM g a fill sizes 0 a.pos 0).take m) 0).isSome) (fun s => cutC bit1 slot (((logM g a fill sizes 0 a.pos 0).getD m tz).images.length + 1) s || (whoM g s ((logM g a fill sizes 0 a.pos 0).take m) 0).isSome) t (t.images.length + 1) := fun t ht => by
    obtain ⟨j, j1, j2, rfl⟩ := mem_take_ ht
    refine ⟨.inl rfl, fun k hk => ?_⟩
    obtain ⟨s1, s2⟩ := sayT bit0 j k j1 hk
    obtain ⟨s3, -⟩ := sayT bit1 j k j1 hk
    dsimp only
    rw [s1, s3, s2, Bool.or_true, Bool.or_true]
    exact ⟨rfl, rfl, rfl⟩
  by_cases hW : ∀ k, k < ((logM g a fill sizes 0 a.pos 0).getD m tz).images.length + 1 → (bit0 k || bit1 k) = true
  · obtain ⟨f, e1, e2, e3⟩ := scan_B (g := g) (a := a) (b := a) (fill := fill) (sizes := sizes) (ep := a.epoch) (p := saysX g (logM g a fill sizes 0 a.pos 0) ((logM g a fill sizes 0 a.pos 0).take m) a.epoch (cutC bit0 slot (((logM g a fill sizes 0 a.pos 0).getD m tz).images.length + 1))) (q := saysX g (logM g a fill sizes 0 a.pos 0) ((logM g a fill sizes 0 a.pos 0).take m) a.epoch (cutC bit1 slot (((logM g a fill sizes 0 a.pos 0).getD m tz).images.length + 1))) (b0 := fun s => cutC bit0 slot (((logM g a fill sizes 0 a.pos 0).getD m tz).images.length + 1) s || (whoM g s ((logM g a fill sizes 0 a.pos 0).take m) 0).isSome) (b1 := fun s => cutC bit1 slot (((logM g a fill sizes 0 a.pos 0).getD m tz).images.length + 1) s || (whoM g s ((logM g a fill sizes 0 a.pos 0).take m) 0).isSome) hg ha hs hl rfl rfl (fun t ht => by
      obtain ⟨j, j1, rfl⟩ := log_mem ht
      by_cases hj : j < m
      · refine allT _ ?_
        rw [List.mem_iff_getElem?]
        refine ⟨j, ?_⟩
        rw [List.getElem?_take_of_lt hj, List.getD_eq_getElem?_getD, List.getElem?_eq_getElem j1]
        rfl
      · have e : j = m := by omega
        subst e
        refine ⟨.inl rfl, fun k hk => ⟨saysL bit0 k hk, saysL bit1 k hk, ?_⟩⟩
        dsimp only
        rw [whoL k hk, hslot k hk, cutC_at hk hinj, cutC_at hk hinj, Option.isSome_none, Bool.or_false, Bool.or_false]
        exact hW k hk)
    refine ⟨(logM g a fill sizes 0 a.pos 0).flatMap (txWr g a.epoch (fun s => cutC bit0 slot (((logM g a fill sizes 0 a.pos 0).getD m tz).images.length + 1) s || (whoM g s ((logM g a fill sizes 0 a.pos 0).take m) 0).isSome) (fun s => cutC bit1 slot (((logM g a fill sizes 0 a.pos 0).getD m tz).images.length + 1) s || (whoM g s ((logM g a fill sizes 0 a.pos 0).take m) 0).isSome)), ?_⟩
    rw [if_pos hW, e3, scanLP_end]
    · rw [hm]
      rfl
    · intro hleft
      have hP := slotM_0 (x := a.pos + usedM (logM g a fill sizes 0 a.pos 0)) hg (by omega)
      have q1 := Int.tmod_nonneg g.sl (show 0 ≤ a.pos + usedM (logM g a fill sizes 0 a.pos 0) by omega)
      have q2 := Int.tmod_lt_of_pos (a.pos + usedM (logM g a fill sizes 0 a.pos 0)) (show 0 < g.sl by omega)
      have hz : ∀ c : Int → Bool, saysX g (logM g a fill sizes 0 a.pos 0) ((logM g a fill sizes 0 a.pos 0).take m) a.epoch c ((a.pos + usedM (logM g a fill sizes 0 a.pos 0)).tmod g.sl) = some zeroC := fun c => by
        unfold saysX
        rw [if_pos ⟨q1, q2⟩, recW_free hg ha (Int.le_refl _) (by omega), eT, recW_free hg ha (by rw [← eT]; omega) (by omega)]
        split <;> rfl
      refine txn_other ?_ ?_ ?_
      all_goals
        rw [hP, hz]
      · exact fun _ _ => one_zero _ _ _ _ _
      · exact fun _ _ => one_zero _ _ _ _ _
      · rfl
  · obtain ⟨k0, k1, k2, k3⟩ := (first_no (fun k => bit0 k || bit1 k) (((logM g a fill sizes 0 a.pos 0).getD m tz).images.length + 1)).resolve_left hW
    obtain ⟨f, e1, e2, e3⟩ := scan_B (g := g) (a := a) (b := a) (fill := fill) (sizes := sizes.take m) (ep := a.epoch) (p := saysX g (logM g a fill sizes 0 a.pos 0) ((logM g a fill sizes 0 a.pos 0).take m) a.epoch (cutC bit0 slot (((logM g a fill sizes 0 a.pos 0).getD m tz).images.length + 1))) (q := saysX g (logM g a fill sizes 0 a.pos 0) ((logM g a fill sizes 0 a.pos 0).take m) a.epoch (cutC bit1 slot (((logM g a fill sizes 0 a.pos 0).getD m tz).images.length + 1))) (b0 := fun s => cutC bit0 slot (((logM g a fill sizes 0 a.pos 0).getD m tz).images.length + 1) s || (whoM g s ((logM g a fill sizes 0 a.pos 0).take m) 0).isSome) (b1 := fun s => cutC bit1 slot (((logM g a fill sizes 0 a.pos 0).getD m tz).images.length + 1) s || (whoM g s ((logM g a fill sizes 0 a.pos 0).take m) 0).isSome) hg ha hs (by rw [List.length_take]; omega) rfl rfl (by rw [← eT]; exact allT)
    refine ⟨((logM g a fill sizes 0 a.pos 0).take m).flatMap (txWr g a.epoch (fun s => cutC bit0 slot (((logM g a fill sizes 0 a.pos 0).getD m tz).images.length + 1) s || (whoM g s ((logM g a fill sizes 0 a.pos 0).take m) 0).isSome) (fun s => cutC bit1 slot (((logM g a fill sizes 0 a.pos 0).getD m tz).images.length + 1) s || (whoM g s ((logM g a fill sizes 0 a.pos 0).take m) 0).isSome)), ?_⟩
    rw [← eT] at e1 e2 e3
    have hlm : ((logM g a fill sizes 0 a.pos 0).take m).length = m := by rw [List.length_take]; omega
    rw [hlm] at e3
    rw [if_neg hW, e3, scanLP_end]
    intro _
    rw [← hpm, ← hgm.1]
    refine txnP_fail (b0 := fun s => cutC bit0 slot (((logM g a fill sizes 0 a.pos 0).getD m tz).images.length + 1) s || (whoM g s ((logM g a fill sizes 0 a.pos 0).take m) 0).isSome) (b1 := fun s => cutC bit1 slot (((logM g a fill sizes 0 a.pos 0).getD m tz).images.length + 1) s || (whoM g s ((logM g a fill sizes 0 a.pos 0).take m) 0).isSome) (ep := a.epoch) (k0 := k0) ⟨.inl rfl, fun k hk => ⟨saysL bit0 k (by omega), saysL bit1 k (by omega), ?_⟩⟩ (by omega) (by omega) (by decide) ?_
    · dsimp only
      rw [whoL k (by omega), hslot k (by omega), cutC_at (by omega) hinj, cutC_at (by omega) hinj, Option.isSome_none, Bool.or_false, Bool.or_false]
      exact k3 k hk
    · intro of_
      rw [Bool.or_eq_false_iff] at k2
      unfold recP lookP
      dsimp only
      rw [sayL bit0 k0 k1, sayL bit1 k0 k1, k2.1, k2.2]
      simp only [Bool.false_eq_true, if_false, one_zero]
      rfl
end
end Go.Proofs.YteecmgonbdbhdaaDoor.A
end

/-
A log that is mended says the same, and wants nothing: in plain terms.
-/
section
namespace Go.Proofs.YteecmgonbdbhdaaDoor.A
open Go.RowKit

abbrev PQ := (Int → Option Rc) × (Int → Option Rc)
def upF (p : Int → Option Rc) (s : Int) (v : Option Rc) : Int → Option Rc := fun t => if t = s then v else p t
def mend1 (g : Geo) (x : Wr) (z : PQ) : PQ := if x.addr - g.an < g.sl then (upF z.1 (x.addr - g.an) (saysR g ⟨0, x.bytes⟩ 0 (x.addr - g.an)), z.2) else (z.1, upF z.2 (x.addr - g.an - g.sl) (saysR g ⟨0, x.bytes⟩ 1 (x.addr - g.an - g.sl)))
def mendF (g : Geo) : List Wr → PQ → PQ
  | [], z => z
  | x :: r, z => mendF g r (mend1 g x z)
def wrS (g : Geo) (x : Wr) : Int := if x.addr - g.an < g.sl then x.addr - g.an else x.addr - g.an - g.sl
theorem mendF_app (g : Geo) : ∀ (l m : List Wr) (z : PQ), mendF g (l ++ m) z = mendF g m (mendF g l z)
  | [], _, _ => rfl
  | x :: r, m, z => mendF_app g r m (mend1 g x z)
def AtS (z z' : PQ) (s : Int) : Prop := z.1 s = z'.1 s ∧ z.2 s = z'.2 s
theorem mend1_local {g : Geo} {x : Wr} {z z' : PQ} {s : Int} (h : AtS z z' s) : AtS (mend1 g x z) (mend1 g x z') s := by
  unfold mend1 upF
  split
  · refine ⟨?_, h.2⟩
    dsimp only
    split
    · rfl
    · exact h.1
  · refine ⟨h.1, ?_⟩
    dsimp only
    split
    · rfl
    · exact h.2
theorem mendF_local {g : Geo} : ∀ (l : List Wr) {z z' : PQ} {s : Int}, AtS z z' s → AtS (mendF g l z) (mendF g l z') s
  | [], _, _, _, h => h
  | _ :: r, _, _, _, h => mendF_local r (mend1_local h)
theorem mend1_far {g : Geo} {x : Wr} {z : PQ} {s : Int} (h : wrS g x ≠ s) : AtS (mend1 g x z) z s := by
  unfold wrS at h
  unfold mend1 upF
  split
  · rename_i hc
    rw [if_pos hc] at h
    exact ⟨if_neg (Ne.symm h), rfl⟩
  · rename_i hc
    rw [if_neg hc] at h
    exact ⟨rfl, if_neg (Ne.symm h)⟩
theorem AtS.trans {a b c : PQ} {s : Int} (h : AtS a b s) (k : AtS b c s) : AtS a c s := ⟨h.1.trans k.1, h.2.trans k.2⟩
theorem AtS.symm {a b : PQ} {s : Int} (h : AtS a b s) : AtS b a s := ⟨h.1.symm, h.2.symm⟩
theorem mendF_far {g : Geo} : ∀ (l : List Wr) {z : PQ} {s : Int}, (∀ x ∈ l, wrS g x ≠ s) → AtS (mendF g l z) z s
  | [], _, _, _ => ⟨rfl, rfl⟩
  | x :: r, z, s, h => (mendF_far r fun y hy => h y (List.mem_cons_of_mem _ hy)).trans (mend1_far (h x (by simp)))
theorem okL_of {g : Geo} {c s : Int} (hc : c = 0 ∨ c = 1) (hs : 0 ≤ s ∧ s < g.sl) : okL g c s = true := by
  rw [okL, inB_iff.2 (show 0 ≤ s ∧ s ≤ g.sl - 1 by omega)]
  rcases hc with rfl | rfl <;> rfl
theorem mend1_cell {g : Geo} {c s : Int} {r : Rc} {z : PQ} (hg : okG g = true) (hc : c = 0 ∨ c = 1) (hs : 0 ≤ s ∧ s < g.sl) (hr : okR g r = true) : mend1 g ⟨logAt g c s, cellB g r c s⟩ z = if c = 0 then (upF z.1 s (some r), z.2) else (z.1, upF z.2 s (some r)) := by
  have h := says_cell hg hr (okL_of hc hs)
  unfold mend1 logAt
  rcases hc with rfl | rfl
  · have e : g.an + 0 * g.sl + s - g.an = s := by omega
    dsimp only
    rw [e, if_pos hs.2, if_pos rfl, h]
  · have e : g.an + 1 * g.sl + s - g.an = s + g.sl := by omega
    dsimp only
    rw [e, if_neg (by omega), if_neg (by decide), show s + g.sl - g.sl = s by omega, h]
theorem wrS_cell {g : Geo} {c s : Int} {b : List UInt8} (hc : c = 0 ∨ c = 1) (hs : 0 ≤ s ∧ s < g.sl) : wrS g ⟨logAt g c s, b⟩ = s := by
  unfold wrS logAt
  rcases hc with rfl | rfl
  · dsimp only
    rw [if_pos (by omega)]; omega
  · dsimp only
    rw [if_neg (by omega)]; omega
/-- A record that was found is found again where it was mended, and nothing is wanted. -/
theorem rec_mend {g : Geo} {a : An} {p q : Int → Option Rc} {z' : PQ} {pos seq left at_ of_ : Int} (hg : okG g = true) (hok : ∀ s r, p s = some r ∨ q s = some r → okR g r = true) (hs : 0 ≤ slotM g pos at_ ∧ slotM g pos at_ < g.sl) (h : (recP g a p q pos seq left at_ of_).2.1 = 1) (hz : AtS z' (mendF g (recP g a p q pos seq left at_ of_).2.2 (p, q)) (slotM g pos at_)) : recP g a z'.1 z'.2 pos seq left at_ of_ = ((recP g a p q pos seq left at_ of_).1, 1, []) := by
  unfold recP lookP at h hz ⊢
  dsimp only at h hz ⊢
  generalize slotM g pos at_ = s at h hz hs ⊢
  cases hp : p s with
  | none =>
    cases hq : q s with
    | none => rw [hp, hq] at h; simp [oneO, lookT] at h
    | some r =>
      rw [hp, hq] at h hz
      have ho : isOne r a seq at_ of_ left = true := by
        cases hb : isOne r a seq at_ of_ left with
        | true => rfl
        | false => simp [oneO, hb, lookT] at h
      simp [oneO, ho, lookT, mendF] at hz
      rw [mend1_cell hg (.inl rfl) hs (hok s r (.inr hq)), if_pos rfl] at hz
      obtain ⟨h1, h2⟩ := hz
      dsimp only [upF] at h1 h2
      rw [if_pos rfl] at h1
      rw [h1, h2, hq]
      simp [oneO, ho, lookT]
  | some r1 =>
    cases hq : q s with
    | none =>
      rw [hp, hq] at h hz
      have ho : isOne r1 a seq at_ of_ left = true := by
        cases hb : isOne r1 a seq at_ of_ left with
        | true => rfl
        | false => simp [oneO, hb, lookT] at h
      simp [oneO, ho, lookT, mendF] at hz
      rw [mend1_cell hg (.inr rfl) hs (hok s r1 (.inl hp)), if_neg (by decide)] at hz
      obtain ⟨h1, h2⟩ := hz
      dsimp only [upF] at h1 h2
      rw [if_pos rfl] at h2
      rw [h1, h2, hp]
      simp [oneO, ho, lookT]
    | some r2 =>
      rw [hp, hq] at h hz
      cases ho1 : isOne r1 a seq at_ of_ left with
      | true =>
        cases ho2 : isOne r2 a seq at_ of_ left with
        | true =>
          simp [oneO, ho1, ho2, lookT, mendF] at hz
          obtain ⟨h1, h2⟩ := hz
          dsimp only at h1 h2
          rw [h1, h2, hp, hq]
          simp [oneO, ho1, ho2, lookT]
        | false =>
          simp [oneO, ho1, ho2, lookT, mendF] at hz
          rw [mend1_cell hg (.inr rfl) hs (hok s r1 (.inl hp)), if_neg (by decide)] at hz
          obtain ⟨h1, h2⟩ := hz
          dsimp only [upF] at h1 h2
          rw [if_pos rfl] at h2
          rw [h1, h2, hp]
          simp [oneO, ho1, ho2, lookT]
      | false =>
        cases ho2 : isOne r2 a seq at_ of_ left with
        | true =>
          simp [oneO, ho1, ho2, lookT, mendF] at hz
          rw [mend1_cell hg (.inl rfl) hs (hok s r2 (.inr hq)), if_pos rfl] at hz
          obtain ⟨h1, h2⟩ := hz
          dsimp only [upF] at h1 h2
          rw [if_pos rfl] at h1
          rw [h1, h2, hq]
          simp [oneO, ho1, ho2, lookT]
        | false => simp [oneO, ho1, ho2, lookT] at h
theorem recP_found {g : Geo} {a : An} {p q : Int → Option Rc} {pos seq left at_ of_ : Int} (hok : ∀ s r, p s = some r ∨ q s = some r → okR g r = true) (h : (recP g a p q pos seq left at_ of_).2.1 = 1) : okR g (recP g a p q pos seq left at_ of_).1 = true ∧ isOne (recP g a p q pos seq left at_ of_).1 a seq at_ of_ left = true := by
  unfold recP lookP at h ⊢
  dsimp only at h ⊢
  generalize slotM g pos at_ = s at h ⊢
  cases hp : p s with
  | none =>
    cases hq : q s with
    | none => rw [hp, hq] at h; simp [oneO, lookT] at h
    | some r =>
      rw [hp, hq] at h
      cases hb : isOne r a seq at_ of_ left with
      | true => simp [oneO, hb, lookT, hok s r (.inr hq)]
      | false => simp [oneO, hb, lookT] at h
  | some r1 =>
    cases hq : q s with
    | none =>
      rw [hp, hq] at h
      cases hb : isOne r1 a seq at_ of_ left with
      | true => simp [oneO, hb, lookT, hok s r1 (.inl hp)]
      | false => simp [oneO, hb, lookT] at h
    | some r2 =>
      rw [hp, hq] at h
      cases ho1 : isOne r1 a seq at_ of_ left with
      | true => cases ho2 : isOne r2 a seq at_ of_ left <;> simp [oneO, ho1, ho2, lookT, hok s r1 (.inl hp)]
      | false =>
        cases ho2 : isOne r2 a seq at_ of_ left with
        | true => simp [oneO, ho1, ho2, lookT, hok s r2 (.inr hq)]
        | false => simp [oneO, ho1, ho2, lookT] at h
theorem lookT_01 (x y : Option Rc) (b1 b2 : Bool) : ∀ c ∈ (lookT x y b1 b2).2.1, c = 0 ∨ c = 1 := by
  unfold lookT
  cases b1 <;> cases b2
  · by_cases h : (x.isSome || y.isSome) = true <;> simp [h]
  · simp
  · simp
  · simp
theorem recP_wr {g : Geo} {a : An} {p q : Int → Option Rc} {pos seq left at_ of_ : Int} (hs : 0 ≤ slotM g pos at_ ∧ slotM g pos at_ < g.sl) : ∀ x ∈ (recP g a p q pos seq left at_ of_).2.2, wrS g x = slotM g pos at_ := by
  intro x hx
  unfold recP at hx
  obtain ⟨c, hc, rfl⟩ := List.mem_map.1 hx
  exact wrS_cell (lookT_01 _ _ _ _ c hc) hs
theorem lookT_none (x y : Option Rc) (b1 b2 : Bool) (h : (lookT x y b1 b2).2.2 ≠ 1) : (lookT x y b1 b2).2.1 = [] := by
  unfold lookT at h ⊢
  cases b1 <;> cases b2
  · by_cases h : (x.isSome || y.isSome) = true <;> simp [h]
  · simp at h
  · simp at h
  · simp at h
theorem recP_short {g : Geo} {a : An} {p q : Int → Option Rc} {pos seq left at_ of_ : Int} (hok : ∀ s r, p s = some r ∨ q s = some r → okR g r = true) : ∀ x ∈ (recP g a p q pos seq left at_ of_).2.2, x.bytes.length ≤ 100000 := by
  intro x hx
  by_cases h : (recP g a p q pos seq left at_ of_).2.1 = 1
  · have hr := (recP_found hok h).1
    unfold recP at hx hr
    obtain ⟨c, hc, rfl⟩ := List.mem_map.1 hx
    exact cellB_short hr _ _
  · unfold recP lookP at hx h
    dsimp only at hx h
    rw [lookT_none _ _ _ _ h] at hx
    simp at hx
theorem slotM_off {g : Geo} {p0 U k : Int} (hg : okG g = true) (hp : 0 ≤ p0 ∧ p0 < g.sl) (hU : 0 ≤ U) (hk : 0 ≤ k ∧ k ≤ 1000) : slotM g ((p0 + U).tmod g.sl) k = (p0 + (U + k)).tmod g.sl := by
  obtain ⟨h1, h2, h3, h4, h5⟩ := okG_iff.1 hg
  unfold slotM
  have q1 := Int.tmod_nonneg g.sl (show 0 ≤ p0 + U by omega)
  have q2 := Int.tmod_lt_of_pos (p0 + U) (show 0 < g.sl by omega)
  rw [show IntKind.i64.wrap ((p0 + U).tmod g.sl + k) = (p0 + U).tmod g.sl + k by rw [IntKind.wrap_i64]; omega]
  rw [Int.tmod_eq_emod_of_nonneg (show 0 ≤ p0 + U by omega)] at q1 ⊢
  rw [Int.tmod_eq_emod_of_nonneg (by omega), Int.tmod_eq_emod_of_nonneg (by omega), Int.emod_add_emod, Int.add_assoc]
theorem gather_step {look : Int → Rc × Int × List Wr} {f : Nat} {k : Int} {r : Rc} {im : List Img} {w : List Wr} (h : (look k).2.1 = 1) : gatherM look (f + 1) k r im w = gatherM look f (k + 1) (look k).1 (if r.kind = 1 then im ++ [r.img] else im) (w ++ (look k).2.2) := by
  conv => lhs; unfold gatherM
  dsimp only
  rw [if_neg (not_not_intro h)]
theorem gather_stop {look : Int → Rc × Int × List Wr} {f : Nat} {k : Int} {r : Rc} {im : List Img} {w : List Wr} (h : (look k).2.1 ≠ 1) : gatherM look (f + 1) k r im w = ((look k).2.1, [], []) := by
  conv => lhs; unfold gatherM
  dsimp only
  rw [if_pos h]
theorem txnP_step {g : Geo} {a : An} {p q : Int → Option Rc} {pos seq left : Int} (h : (recP g a p q pos seq left 0 0).2.1 = 1) : txnP g a p q pos seq left = (let t := gatherM (fun k => recP g a p q pos seq left k (recP g a p q pos seq left 0 0).1.of_) ((recP g a p q pos seq left 0 0).1.of_ - 1).toNat 1 (recP g a p q pos seq left 0 0).1 [] (recP g a p q pos seq left 0 0).2.2
    if t.1 ≠ 1 then (t.1, 0, [], []) else (1, (recP g a p q pos seq left 0 0).1.of_, t.2.1, t.2.2)) := by
  conv => lhs; unfold txnP
  dsimp only
  rw [if_neg (not_not_intro h)]
theorem txnP_stop {g : Geo} {a : An} {p q : Int → Option Rc} {pos seq left : Int} (h : (recP g a p q pos seq left 0 0).2.1 ≠ 1) : txnP g a p q pos seq left = ((recP g a p q pos seq left 0 0).2.1, 0, [], []) := by
  conv => lhs; unfold txnP
  dsimp only
  rw [if_pos h]
theorem gather_mend {look look' : Int → Rc × Int × List Wr} : ∀ (f : Nat) (k : Int) (r : Rc) (im : List Img) (w w0 : List Wr), (∀ i, k ≤ i → i < k + f → (look i).2.1 = 1 → look' i = ((look i).1, 1, [])) → (gatherM look f k r im w).1 = 1 →
    gatherM look' f k r im w0 = (1, (gatherM look f k r im w).2.1, w0) ∧ (gatherM look f k r im w).2.2 = w ++ (List.range f).flatMap (fun j => (look (k + (j : Nat))).2.2) ∧ ∀ i, k ≤ i → i < k + f → (look i).2.1 = 1
  | 0, k, r, im, w, w0, _, _ => ⟨rfl, by simp [gatherM], fun i h1 h2 => by omega⟩
  | f + 1, k, r, im, w, w0, hl, h => by
    by_cases hq : (look k).2.1 = 1
    · have e := hl k (by omega) (by omega) hq
      rw [gather_step hq] at h ⊢
      rw [gather_step (show (look' k).2.1 = 1 by rw [e]), e]
      dsimp only
      obtain ⟨i1, i2, i3⟩ := gather_mend f (k + 1) (look k).1 (if r.kind = 1 then im ++ [r.img] else im) (w ++ (look k).2.2) (w0 ++ []) (fun i h1 h2 => hl i (by omega) (by omega)) h
      refine ⟨?_, ?_, fun i h1 h2 => ?_⟩
      · rw [i1, List.append_nil]
      · rw [i2, List.range_succ_eq_map, List.flatMap_cons, List.flatMap_map, List.append_assoc]
        congr 1
        congr 1
        · rw [show k + ((0 : Nat) : Int) = k by omega]
        · congr 1
          funext j
          rw [show k + 1 + (j : Int) = k + ((j.succ : Nat) : Int) by omega]
      · by_cases ei : i = k
        · rw [ei]; exact hq
        · exact i3 i (by omega) (by omega)
    · rw [gather_stop hq] at h
      exact absurd h hq
theorem gather_congr {look look' : Int → Rc × Int × List Wr} : ∀ (f : Nat) (k : Int) (r : Rc) (im : List Img) (w : List Wr), (∀ i, k ≤ i → i < k + f → look' i = look i) → gatherM look' f k r im w = gatherM look f k r im w
  | 0, _, _, _, _, _ => rfl
  | f + 1, k, r, im, w, hl => by
    unfold gatherM
    dsimp only
    rw [hl k (by omega) (by omega), gather_congr f (k + 1) (look k).1 _ _ (fun i h1 h2 => hl i (by omega) (by omega))]
theorem mendF_one {g : Geo} {W : Nat → List Wr} {z : PQ} {s : Int} {k : Nat} : ∀ n, k < n → (∀ j, j < n → j ≠ k → ∀ x ∈ W j, wrS g x ≠ s) → AtS (mendF g ((List.range n).flatMap W) z) (mendF g (W k) z) s
  | 0, h, _ => by omega
  | n + 1, hk, h => by
    rw [List.range_succ, List.flatMap_append, mendF_app]
    simp only [List.flatMap_cons, List.flatMap_nil, List.append_nil]
    by_cases e : k = n
    · subst e
      refine mendF_local (W k) (mendF_far _ fun x hx => ?_)
      obtain ⟨j, hj, hx⟩ := List.mem_flatMap.1 hx
      have hj := List.mem_range.1 hj
      exact h j (by omega) (by omega) x hx
    · exact (mendF_far (W n) (h n (by omega) (Ne.symm e))).trans (mendF_one n (by omega) fun j hj hne => h j (by omega) hne)
def Agree (g : Geo) (p0 U : Int) (z z' : PQ) : Prop := ∀ u, U ≤ u → u < g.sl → AtS z z' ((p0 + u).tmod g.sl)
section
variable {g : Geo} {a : An} {p q : Int → Option Rc} {p0 : Int}
theorem rec_agree {z' : PQ} {pos seq left at_ of_ : Int} (h : AtS z' (p, q) (slotM g pos at_)) : recP g a z'.1 z'.2 pos seq left at_ of_ = recP g a p q pos seq left at_ of_ := by
  unfold recP lookP
  dsimp only
  rw [h.1, h.2]
theorem txn_agree {z' : PQ} {U seq left : Int} (hg : okG g = true) (hok : ∀ s r, p s = some r ∨ q s = some r → okR g r = true) (hp : 0 ≤ p0 ∧ p0 < g.sl) (hU : 0 ≤ U ∧ U + left = g.sl ∧ 0 < left) (h : Agree g p0 U z' (p, q)) : txnP g a z'.1 z'.2 ((p0 + U).tmod g.sl) seq left = txnP g a p q ((p0 + U).tmod g.sl) seq left := by
  obtain ⟨h1, h2, h3, h4, h5⟩ := okG_iff.1 hg
  have hr : ∀ (k of_ : Int), 0 ≤ k → U + k < g.sl → recP g a z'.1 z'.2 ((p0 + U).tmod g.sl) seq left k of_ = recP g a p q ((p0 + U).tmod g.sl) seq left k of_ := fun k of_ hk hk2 => rec_agree (by rw [slotM_off hg hp hU.1 (by omega)]; exact h _ (by omega) hk2)
  by_cases h0 : (recP g a p q ((p0 + U).tmod g.sl) seq left 0 0).2.1 = 1
  · rw [txnP_step h0, txnP_step (by rw [hr 0 0 (by omega) (by omega)]; exact h0), hr 0 0 (by omega) (by omega)]
    obtain ⟨f1, f2⟩ := recP_found hok h0
    have hN := one_of f1 f2
    have hlft := hN.2.2.2.2.1 rfl
    rw [gather_congr (look := fun k => recP g a p q ((p0 + U).tmod g.sl) seq left k (recP g a p q ((p0 + U).tmod g.sl) seq left 0 0).1.of_) _ _ _ _ _ (fun i h1 h2 => hr i _ (by omega) (by omega))]
  · rw [txnP_stop h0, txnP_stop (by rw [hr 0 0 (by omega) (by omega)]; exact h0), hr 0 0 (by omega) (by omega)]
theorem txn_mend {U seq left : Int} (hg : okG g = true) (hok : ∀ s r, p s = some r ∨ q s = some r → okR g r = true) (hp : 0 ≤ p0 ∧ p0 < g.sl) (hU : 0 ≤ U ∧ U + left = g.sl) (h : (txnP g a p q ((p0 + U).tmod g.sl) seq left).1 = 1) :
    (2 ≤ (txnP g a p q ((p0 + U).tmod g.sl) seq left).2.1 ∧ (txnP g a p q ((p0 + U).tmod g.sl) seq left).2.1 ≤ left) ∧
    (∀ x ∈ (txnP g a p q ((p0 + U).tmod g.sl) seq left).2.2.2, ∃ u, (U ≤ u ∧ u < U + (txnP g a p q ((p0 + U).tmod g.sl) seq left).2.1) ∧ wrS g x = (p0 + u).tmod g.sl ∧ x.bytes.length ≤ 100000) ∧
    ∀ z' : PQ, (∀ u, U ≤ u → u < U + (txnP g a p q ((p0 + U).tmod g.sl) seq left).2.1 → AtS z' (mendF g (txnP g a p q ((p0 + U).tmod g.sl) seq left).2.2.2 (p, q)) ((p0 + u).tmod g.sl)) →
      txnP g a z'.1 z'.2 ((p0 + U).tmod g.sl) seq left = (1, (txnP g a p q ((p0 + U).tmod g.sl) seq left).2.1, (txnP g a p q ((p0 + U).tmod g.sl) seq left).2.2.1, []) := by
  obtain ⟨h1, h2, h3, h4, h5⟩ := okG_iff.1 hg
  by_cases h0 : (recP g a p q ((p0 + U).tmod g.sl) seq left 0 0).2.1 = 1
  · obtain ⟨f1, f2⟩ := recP_found hok h0
    have hN := one_of f1 f2
    have hlft := hN.2.2.2.2.1 rfl
    obtain ⟨of_, hof⟩ : ∃ n : Nat, (recP g a p q ((p0 + U).tmod g.sl) seq left 0 0).1.of_ = (n : Int) + 1 := ⟨((recP g a p q ((p0 + U).tmod g.sl) seq left 0 0).1.of_ - 1).toNat, by omega⟩
    have et : ((of_ : Int) + 1 - 1).toNat = of_ := by omega
    have hsl : ∀ k : Int, 0 ≤ k → k ≤ of_ → slotM g ((p0 + U).tmod g.sl) k = (p0 + (U + k)).tmod g.sl ∧ 0 ≤ slotM g ((p0 + U).tmod g.sl) k ∧ slotM g ((p0 + U).tmod g.sl) k < g.sl := fun k hk hk2 => by
      have e := slotM_off hg hp hU.1 (k := k) (by omega)
      rw [e]
      exact ⟨rfl, Int.tmod_nonneg g.sl (by omega), Int.tmod_lt_of_pos _ (by omega)⟩
    rw [txnP_step h0, hof, et] at h ⊢
    dsimp only at h ⊢
    by_cases hG : (gatherM (fun k => recP g a p q ((p0 + U).tmod g.sl) seq left k ((of_ : Int) + 1)) of_ 1 (recP g a p q ((p0 + U).tmod g.sl) seq left 0 0).1 [] (recP g a p q ((p0 + U).tmod g.sl) seq left 0 0).2.2).1 = 1
    · rw [if_neg (not_not_intro hG)]
      dsimp only
      obtain ⟨-, g2, g3⟩ := gather_mend (look' := fun i => ((recP g a p q ((p0 + U).tmod g.sl) seq left i ((of_ : Int) + 1)).1, 1, [])) of_ 1 (recP g a p q ((p0 + U).tmod g.sl) seq left 0 0).1 [] (recP g a p q ((p0 + U).tmod g.sl) seq left 0 0).2.2 [] (fun i _ _ _ => rfl) hG
      -- what is to be written, record by record
      have eW : (gatherM (fun k => recP g a p q ((p0 + U).tmod g.sl) seq left k ((of_ : Int) + 1)) of_ 1 (recP g a p q ((p0 + U).tmod g.sl) seq left 0 0).1 [] (recP g a p q ((p0 + U).tmod g.sl) seq left 0 0).2.2).2.2 = (List.range (of_ + 1)).flatMap fun j => (recP g a p q ((p0 + U).tmod g.sl) seq left (j : Nat) (if j = 0 then 0 else (of_ : Int) + 1)).2.2 := by
        rw [g2, List.range_succ_eq_map, List.flatMap_cons, List.flatMap_map]
        congr 1
        congr 1
        funext j
        rw [if_neg (Nat.succ_ne_zero j), show 1 + (j : Int) = ((j.succ : Nat) : Int) by omega]
      have hwr : ∀ j : Nat, j < of_ + 1 → ∀ x ∈ (recP g a p q ((p0 + U).tmod g.sl) seq left (j : Nat) (if j = 0 then 0 else (of_ : Int) + 1)).2.2, wrS g x = (p0 + (U + j)).tmod g.sl := fun j hj x hx => by
        obtain ⟨e1, e2⟩ := hsl j (by omega) (by omega)
        rw [recP_wr e2 x hx, e1]
      refine ⟨⟨by omega, by omega⟩, fun x hx => ?_, fun z' hz => ?_⟩
      · rw [eW] at hx
        obtain ⟨j, hj, hx⟩ := List.mem_flatMap.1 hx
        have hj := List.mem_range.1 hj
        exact ⟨U + j, by omega, hwr j hj x hx, recP_short hok x hx⟩
      · rw [eW] at hz
        have hrec : ∀ k : Nat, k < of_ + 1 → (recP g a p q ((p0 + U).tmod g.sl) seq left (k : Nat) (if k = 0 then 0 else (of_ : Int) + 1)).2.1 = 1 → recP g a z'.1 z'.2 ((p0 + U).tmod g.sl) seq left (k : Nat) (if k = 0 then 0 else (of_ : Int) + 1) = ((recP g a p q ((p0 + U).tmod g.sl) seq left (k : Nat) (if k = 0 then 0 else (of_ : Int) + 1)).1, 1, []) := fun k hk hf => by
          obtain ⟨e1, e2⟩ := hsl k (by omega) (by omega)
          refine rec_mend hg hok e2 hf ?_
          rw [e1]
          refine (hz (U + k) (by omega) (by omega)).trans ?_
          refine mendF_one (W := fun j => (recP g a p q ((p0 + U).tmod g.sl) seq left (j : Nat) (if j = 0 then 0 else (of_ : Int) + 1)).2.2) (k := k) _ hk fun j hj hne x hx e => ?_
          rw [hwr j hj x hx] at e
          have := tmod_inj hp (by omega) (by omega) e
          omega
        have r0 := hrec 0 (by omega) h0
        rw [if_pos rfl] at r0
        have r0' : recP g a z'.1 z'.2 ((p0 + U).tmod g.sl) seq left 0 0 = ((recP g a p q ((p0 + U).tmod g.sl) seq left 0 0).1, 1, []) := r0
        rw [txnP_step (by rw [r0']), r0']
        dsimp only
        rw [hof, et]
        obtain ⟨g4, -, -⟩ := gather_mend (look := fun k => recP g a p q ((p0 + U).tmod g.sl) seq left k ((of_ : Int) + 1)) (look' := fun k => recP g a z'.1 z'.2 ((p0 + U).tmod g.sl) seq left k ((of_ : Int) + 1)) of_ 1 (recP g a p q ((p0 + U).tmod g.sl) seq left 0 0).1 [] (recP g a p q ((p0 + U).tmod g.sl) seq left 0 0).2.2 [] (fun i i1 i2 hf => by
          obtain ⟨k, rfl⟩ := Int.eq_ofNat_of_zero_le (show 0 ≤ i by omega)
          have := hrec k (by omega)
          rw [if_neg (by omega)] at this
          exact this hf) hG
        rw [g4]
        dsimp only
        rw [if_neg (fun h => h rfl)]
    · rw [if_pos hG] at h
      exact absurd h hG
  · rw [txnP_stop h0] at h
    exact absurd h h0
/-- With all that is wanted written a log says the same, and nothing is wanted. -/
theorem scan_mend (hg : okG g = true) (hok : ∀ s r, p s = some r ∨ q s = some r → okR g r = true) (hp : 0 ≤ p0 ∧ p0 < g.sl) : ∀ (f : Nat) (U seq left : Int) (l : List Tx) (w : List Wr) {l' : List Tx} {w' : List Wr} {seq' : Int}, 0 ≤ U → U + left = g.sl → scanLP g a p q f ((p0 + U).tmod g.sl) seq left l w = some (l', w', seq') →
    ∃ wr, w' = w ++ wr ∧ (∀ x ∈ wr, ∃ u, (U ≤ u ∧ u < g.sl) ∧ wrS g x = (p0 + u).tmod g.sl ∧ x.bytes.length ≤ 100000) ∧ ∀ z' : PQ, Agree g p0 U z' (mendF g wr (p, q)) → ∀ w0, scanLP g a z'.1 z'.2 f ((p0 + U).tmod g.sl) seq left l w0 = some (l', w0, seq')
  | 0, U, seq, left, l, w, l', w', seq', _, _, h => by
    unfold scanLP at h
    injection h with h
    injection h with e1 h
    injection h with e2 e3
    subst e1 e2 e3
    exact ⟨[], by simp, by simp, fun _ _ _ => rfl⟩
  | f + 1, U, seq, left, l, w, l', w', seq', hU, hl, h => by
    obtain ⟨h1, h2, h3, h4, h5⟩ := okG_iff.1 hg
    unfold scanLP at h
    by_cases hc : 0 < left ∧ seq ≤ 4294967295
    · rw [if_pos hc] at h
      dsimp only at h
      by_cases t3 : (txnP g a p q ((p0 + U).tmod g.sl) seq left).1 = 3
      · rw [if_pos t3] at h
        cases h
      · rw [if_neg t3] at h
        by_cases t1 : (txnP g a p q ((p0 + U).tmod g.sl) seq left).1 = 1
        · rw [if_neg (fun h => h t1)] at h
          obtain ⟨⟨n1, n2⟩, n3, n4⟩ := txn_mend hg hok hp ⟨hU, hl⟩ t1
          generalize txnP g a p q ((p0 + U).tmod g.sl) seq left = T at h n1 n2 n3 n4
          obtain ⟨how, n, im, tw⟩ := T
          dsimp only at h n1 n2 n3 n4
          have ep : ((p0 + U).tmod g.sl + n).tmod g.sl = (p0 + (U + n)).tmod g.sl := by
            rw [Int.tmod_eq_emod_of_nonneg (show 0 ≤ p0 + U by omega)]
            have q1 := Int.emod_nonneg (p0 + U) (show g.sl ≠ 0 by omega)
            rw [Int.tmod_eq_emod_of_nonneg (by omega), Int.tmod_eq_emod_of_nonneg (by omega), Int.emod_add_emod, Int.add_assoc]
          rw [ep] at h
          obtain ⟨wr, i1, i2, i3⟩ := scan_mend hg hok hp f (U + n) (seq + 1) (left - n) _ _ (by omega) (by omega) h
          refine ⟨tw ++ wr, by rw [i1, List.append_assoc], fun x hx => ?_, fun z' hz w0 => ?_⟩
          · rcases List.mem_append.1 hx with hx | hx
            · obtain ⟨u, u1, u2⟩ := n3 x hx
              exact ⟨u, by omega, u2⟩
            · obtain ⟨u, u1, u2⟩ := i2 x hx
              exact ⟨u, by omega, u2⟩
          · unfold Agree at hz
            have ht := n4 z' fun u u1 u2 => by
              have := hz u u1 (by omega)
              rw [mendF_app] at this
              refine this.trans (mendF_far wr fun x hx e => ?_)
              obtain ⟨v, v1, v2, -⟩ := i2 x hx
              rw [v2] at e
              have := tmod_inj hp (by omega) (by omega) e
              omega
            unfold scanLP
            rw [if_pos hc, ht]
            dsimp only
            rw [if_neg (by decide), if_neg (fun h => h rfl), ep]
            have := i3 z' (fun u u1 u2 => by
              have := hz u (by omega) u2
              rw [mendF_app] at this
              refine this.trans (mendF_local wr (mendF_far tw fun x hx e => ?_))
              obtain ⟨v, v1, v2, -⟩ := n3 x hx
              rw [v2] at e
              have := tmod_inj hp (by omega) (by omega) e
              omega) (w0 ++ [])
            rw [this, List.append_nil]
        · rw [if_pos t1] at h
          injection h with h
          injection h with e1 h
          injection h with e2 e3
          subst e1 e2 e3
          refine ⟨[], by simp, by simp, fun z' hz w0 => ?_⟩
          have ht := txn_agree (a := a) (seq := seq) hg hok hp ⟨hU, hl, hc.1⟩ hz
          unfold scanLP
          rw [if_pos hc, ht]
          dsimp only
          rw [if_neg t3, if_pos t1]
    · rw [if_neg hc] at h
      injection h with h
      injection h with e1 h
      injection h with e2 e3
      subst e1 e2 e3
      refine ⟨[], by simp, by simp, fun z' hz w0 => ?_⟩
      unfold scanLP
      rw [if_neg hc]
end
end Go.Proofs.YteecmgonbdbhdaaDoor.A
end

/-
Package casematekeep: an anchor copied.
-/
section
namespace Go.Proofs.YteecmgonbdbhdaaDoor.A
open Go.RowKit

theorem twinints_fn (l : List Int) (hl : l.length ≤ 1000000) : Fn Tryd.prog 62 [iA l] fun r => r = iA l := by
  refine Fn.of tys_ok Tryd.func62 rfl rfl (Nat.le_of_ble_eq_true rfl) ?_
  conv => whnf
  refine ⟨by omega, ?_⟩
  conv => whnf
  refine ⟨by simp, ?_⟩
  conv => whnf
  exact ⟨iA l, fun c v h => Rd.congr rfl (fun i hi => getD_range hi) h, rfl⟩
theorem twinanchor_fn (a : An) (hh : a.homes.length ≤ 1000) (hp : ∀ h ∈ a.homes, h.places.length ≤ 1000000) : Fn Tryd.prog 40 [.ag (anC a)] fun r => r = .ag (anC a) := by
  refine Fn.of tys_ok Tryd.func40 rfl rfl (Nat.le_of_ble_eq_true rfl) ?_
  conv => whnf
  refine aLoop.rule Nat (fun k => ([(1, .bp 0 0), (2, .bp 1 0), (3, hmsA a.homes), (4, .v (.int .i64 k))], [.box 26 [.v (.int .i64 a.gen), .v (.int .i64 a.epoch), .v (.int .i64 a.pos), .v (.int .i64 a.seq), .v (.int .i64 a.last), .v (.string a.label), .ow 2 k], .box 26 [.v (.int .i64 0), .v (.int .i64 0), .v (.int .i64 0), .v (.int .i64 0), .v (.int .i64 0), .v (.string ⟨#[]⟩), .v (.slice none 0 0)], .row 91 3 ((a.homes.take k).map hmC)])) (fun k => k ≤ a.homes.length) (fun k => a.homes.length - k) 0 (Nat.zero_le _) ⟨[(1000006, 91, 3)], ⟨rfl, rfl, trivial⟩, ⟨rfl, rfl, rfl, rfl, trivial⟩, ⟨rfl, rfl, rfl, trivial⟩, rfl, rfl, rfl⟩ ?_
  intro k hk
  conv => whnf
  refine boolI (fun c1 => ?_) (fun c1 => ?_) <;> (repeat rw [Int.toNat_natCast] at c1) <;> conv => whnf
  · have ti := twinints_fn (a.homes.getD k ⟨[], 0, 0⟩).places (hp _ (getD_mem c1))
    refine aDraw.of tys_ok mixed [0, 1, 2, 3, 4, 5, 6, 8, 9, 10, 11, 12, 13, 14, 15, 16, 17, 7, 18, 19, 20, 21, 22] (by kernel_rfl) ?_
    conv => whnf
    repeat' (first | (refine aSeq.go ?_; conv => whnf) | (refine boolI (fun _ => ?_) (fun _ => ?_) <;> conv => whnf) | (refine Fn.closed (ti) rfl ?_; rintro _ rfl; conv => whnf) | (refine And.intro (by first | omega | exact of_decide_eq_true rfl) ?_; conv => whnf) | fail)
    refine And.intro ⟨by rw [List.length_map, List.length_take]; omega, by omega⟩ ?_
    conv => whnf
    exact ⟨k + 1, by omega, by omega, [], trivial, ⟨rfl, rfl, rfl, wsucc (by omega), trivial⟩, ⟨rfl, rfl, congrArg (AB.row _ _) (take_map_succ c1), trivial⟩, rfl, rfl, rfl⟩
  · refine And.intro (by rw [List.length_map, List.length_take]; omega) ?_
    conv => whnf
    have ek : k = a.homes.length := by omega
    subst ek
    refine ⟨.ag (anC a), ag_sub ⟨fun _ _ h => h, fun _ _ h => h, fun _ _ h => h, fun _ _ h => h, fun _ _ h => h, fun _ _ h => h, ?_, trivial⟩, rfl⟩
    rw [List.take_length]
    exact row_sub a.homes rfl rfl
end Go.Proofs.YteecmgonbdbhdaaDoor.A
end

/-
What the laws of scan have in common.
-/
section
namespace Go.Proofs.YteecmgonbdbhdaaDoor.A
open Go.RowKit

theorem anOk_parts {g : Geo} {a : An} (h : anOk g a = true) : (0 ≤ a.gen ∧ a.gen ≤ 4294967295) ∧ (0 ≤ a.epoch ∧ a.epoch ≤ 4294967295) ∧ (1 ≤ a.seq ∧ a.seq ≤ 4294967295) ∧ (0 ≤ a.last ∧ a.last ≤ 4294967295 ∧ a.seq - 1 ≤ a.last) ∧ (0 ≤ a.pos ∧ a.pos < g.sl) ∧ (a.homes.length : Int) = g.z ∧ ∀ x ∈ a.homes, hmOk g x = true := by
  simp only [anOk, List.all_cons, List.all_nil, Bool.and_eq_true, inB_iff, decide_eq_true_eq, List.all_eq_true] at h
  obtain ⟨⟨q1, q2, q3, q4, -⟩, q5, q6, q7, q8, q9, q10⟩ := h
  exact ⟨q1, q2, ⟨q5, q3.2⟩, ⟨q4.1, q4.2, q6⟩, ⟨q7.1, by omega⟩, q9, q10⟩
theorem anOk_places {g : Geo} {a : An} (hg : okG g = true) (h : anOk g a = true) : ∀ x ∈ a.homes, x.places.length ≤ 1000000 := by
  obtain ⟨h1, h2, h3, h4, h5⟩ := okG_iff.1 hg
  intro x hx
  have := (anOk_parts h).2.2.2.2.2.2 x hx
  simp only [hmOk, Bool.and_eq_true, decide_eq_true_eq] at this
  omega
theorem modU_var {x : Int} {n : Nat} (hn : n ≤ 1000000) : IntKind.i64.wrap ((IntKind.u64.wrap x).tmod (IntKind.u64.wrap (IntKind.i64.wrap ((n : Int) + 1)))) = modU x ((n : Int) + 1) := by
  rw [wi (n := (n : Int) + 1) (by omega), show IntKind.u64.wrap ((n : Int) + 1) = (n : Int) + 1 by rw [IntKind.wrap_u64]; omega]
  rfl
theorem uwrap_ne {n : Nat} (hn : n ≤ 1000000) : IntKind.u64.wrap (IntKind.i64.wrap ((n : Int) + 1)) ≠ 0 := by
  rw [wi (n := (n : Int) + 1) (by omega), IntKind.wrap_u64]
  omega
theorem anOk_last {g : Geo} {a : An} {n : Int} (h : anOk g a = true) (hn : a.seq - 1 ≤ n) (h2 : n ≤ 4294967295) : anOk g (lastA a n) = true := by
  have hp := anOk_parts h
  simp only [anOk, List.all_cons, List.all_nil, Bool.and_eq_true, inB_iff, decide_eq_true_eq] at h
  simp only [anOk, List.all_cons, List.all_nil, Bool.and_eq_true, inB_iff]
  obtain ⟨⟨q1, q2, q3, q4, q11⟩, q5, q6, q7, q8, q9, q10⟩ := h
  exact ⟨⟨q1, q2, q3, ⟨show 0 ≤ n by omega, h2⟩, q11⟩, decide_eq_true q5, decide_eq_true hn, q7, decide_eq_true q8, decide_eq_true q9, q10⟩
theorem take_sub (L : List Tx) (m : Nat) (hm : m ≤ L.length) {n : Nat} (hn : n = m) {get : Nat → List AV} (hget : ∀ i, i < m → get i = txC (L.getD i ⟨0, 0, 0, []⟩)) (c : Ctx) (u : Value) (h : Rd (.sl 4 n get) c u) : Rd (txsA (L.take m)) c u := by
  refine Rd.congr (by rw [List.length_take]; omega) (fun i hi => ?_) h
  rw [hget i (by omega)]
  congr 1
  rw [List.getD_eq_getElem?_getD, List.getD_eq_getElem?_getD, List.getElem?_take_of_lt (by omega)]
theorem scanA_P {g : Geo} {b : An} {x y : List Gt} {p q : Int → Option Rc} {r : List Tx × List Wr × Int} (hg : okG g = true) (hb : anOk g b = true) (hx : (x.length : Int) = g.sl) (hy : (y.length : Int) = g.sl) (hp : saysF g x 0 = p) (hq : saysF g y 1 = q) (h : scanP g b p q = r) : scanA g b x y = r := by
  unfold scanA
  rw [if_pos (by rw [hg, hb]; rfl), if_pos ⟨hx, hy⟩, scanM_P, hp, hq, h]
end Go.Proofs.YteecmgonbdbhdaaDoor.A
end

/-
A log that is mended: the lists.
-/
section
namespace Go.Proofs.YteecmgonbdbhdaaDoor.A
open Go.RowKit

def mendL1 (g : Geo) (x : Wr) (z : List Gt × List Gt) : List Gt × List Gt := if x.addr - g.an < g.sl then (z.1.set (x.addr - g.an).toNat ⟨0, x.bytes⟩, z.2) else (z.1, z.2.set (x.addr - g.an - g.sl).toNat ⟨0, x.bytes⟩)
def mendL (g : Geo) (w : List Wr) (z : List Gt × List Gt) : Nat → List Gt × List Gt
  | 0 => z
  | k + 1 => mendL1 g (w.getD k ⟨0, []⟩) (mendL g w z k)
theorem mendL_len {g : Geo} {w : List Wr} {z : List Gt × List Gt} : ∀ k, (mendL g w z k).1.length = z.1.length ∧ (mendL g w z k).2.length = z.2.length
  | 0 => ⟨rfl, rfl⟩
  | k + 1 => by
    obtain ⟨h1, h2⟩ := mendL_len (g := g) (w := w) (z := z) k
    unfold mendL mendL1
    split
    · exact ⟨by rw [List.length_set, h1], h2⟩
    · exact ⟨h1, by rw [List.length_set, h2]⟩
theorem mendL_short {g : Geo} {w : List Wr} {z : List Gt × List Gt} {m : Nat} (h1 : ∀ x ∈ z.1, x.bytes.length ≤ m) (h2 : ∀ x ∈ z.2, x.bytes.length ≤ m) (hw : ∀ x ∈ w, x.bytes.length ≤ m) : ∀ k, k ≤ w.length → (∀ x ∈ (mendL g w z k).1, x.bytes.length ≤ m) ∧ ∀ x ∈ (mendL g w z k).2, x.bytes.length ≤ m
  | 0, _ => ⟨h1, h2⟩
  | k + 1, hk => by
    obtain ⟨i1, i2⟩ := mendL_short h1 h2 hw k (by omega)
    have hx := hw _ (getD_mem (d := ⟨0, []⟩) (show k < w.length by omega))
    unfold mendL mendL1
    split
    · refine ⟨fun x hx => ?_, i2⟩
      rcases List.mem_or_eq_of_mem_set hx with h | rfl
      · exact i1 x h
      · assumption
    · refine ⟨i1, fun x hx => ?_⟩
      rcases List.mem_or_eq_of_mem_set hx with h | rfl
      · exact i2 x h
      · assumption
theorem saysF_up {g : Geo} {x : List Gt} {copy : Int} {k : Nat} {b : List UInt8} (hk : k < x.length) : saysF g (x.set k ⟨0, b⟩) copy = upF (saysF g x copy) (k : Nat) (saysR g ⟨0, b⟩ copy (k : Nat)) := by
  funext s
  unfold saysF upF
  by_cases e : s = (k : Nat)
  · subst e
    rw [if_pos rfl, Int.toNat_natCast, List.getD_eq_getElem?_getD, List.getElem?_set_self hk]
    rfl
  · rw [if_neg e]
    by_cases hs : 0 ≤ s ∧ s < g.sl
    · obtain ⟨i, rfl⟩ := Int.eq_ofNat_of_zero_le hs.1
      rw [Int.toNat_natCast, List.getD_eq_getElem?_getD, List.getElem?_set_ne (by omega), ← List.getD_eq_getElem?_getD]
      rfl
    · rw [saysR_out hs]
      exact (saysR_out hs).symm
/-- An address of a slot of the log. -/
def wIn (g : Geo) (x : Wr) : Prop := 0 ≤ x.addr - g.an ∧ x.addr - g.an < 2 * g.sl
theorem mend_says {g : Geo} {w : List Wr} {z : List Gt × List Gt} (h1 : (z.1.length : Int) = g.sl) (h2 : (z.2.length : Int) = g.sl) : ∀ k, k ≤ w.length → (∀ x ∈ w, wIn g x) → (saysF g (mendL g w z k).1 0, saysF g (mendL g w z k).2 1) = mendF g (w.take k) (saysF g z.1 0, saysF g z.2 1)
  | 0, _, _ => rfl
  | k + 1, hk, hw => by
    have ih := mend_says h1 h2 k (by omega) hw
    have hx := hw _ (getD_mem (d := ⟨0, []⟩) (show k < w.length by omega))
    obtain ⟨l1, l2⟩ := mendL_len (g := g) (w := w) (z := z) k
    rw [List.take_succ_eq_append_getElem (by omega), mendF_app, ← ih]
    rw [show w[k] = w.getD k ⟨0, []⟩ by rw [List.getD_eq_getElem?_getD, List.getElem?_eq_getElem (by omega)]; rfl]
    simp only [mendF, mend1, mendL, mendL1]
    generalize w.getD k ⟨0, []⟩ = x at hx
    unfold wIn at hx
    by_cases hc : x.addr - g.an < g.sl
    · rw [if_pos hc, if_pos hc]
      dsimp only
      rw [saysF_up (by omega), Int.toNat_of_nonneg hx.1]
    · rw [if_neg hc, if_neg hc]
      dsimp only
      rw [saysF_up (by omega), Int.toNat_of_nonneg (show 0 ≤ x.addr - g.an - g.sl by omega)]
theorem saysF_ok {g : Geo} {x y : List Gt} : ∀ s r, saysF g x 0 s = some r ∨ saysF g y 1 s = some r → okR g r = true := by
  rintro s r (h | h)
  · exact (saysR_ok h).1
  · exact (saysR_ok h).1
/-- With all that is wanted written a log says the same. -/
theorem scanA_mend {g : Geo} {a : An} {x y : List Gt} {l : List Tx} {w : List Wr} (h : scanA g a x y = (l, w, 0)) : (okG g = true ∧ anOk g a = true) ∧ ((x.length : Int) = g.sl ∧ (y.length : Int) = g.sl) ∧ (∀ z ∈ w, wIn g z ∧ z.bytes.length ≤ 100000) ∧ scanA g a (mendL g w (x, y) w.length).1 (mendL g w (x, y) w.length).2 = (l, [], 0) := by
  unfold scanA at h
  by_cases hA : (okG g && anOk g a) = true
  · rw [if_pos hA] at h
    obtain ⟨hg, ha⟩ := Bool.and_eq_true_iff.1 hA
    obtain ⟨h1, h2, h3, h4, h5⟩ := okG_iff.1 hg
    have hq := anOk_seq ha
    by_cases hx : (x.length : Int) = g.sl ∧ (y.length : Int) = g.sl
    · rw [if_pos hx, scanM_P] at h
      unfold scanP at h
      cases hR : scanLP g a (saysF g x 0) (saysF g y 1) g.sl.toNat a.pos a.seq g.sl [] [] with
      | none => rw [hR] at h; simp [finM, damaged] at h
      | some R =>
        obtain ⟨l', w', seq'⟩ := R
        rw [hR] at h
        by_cases hl : seq' - 1 < a.last
        · rw [finM_pos hl] at h
          simp [damaged] at h
        · rw [finM_neg hl] at h
          injection h with e1 h
          injection h with e2 _
          subst e1 e2
          have e0 : (a.pos + 0).tmod g.sl = a.pos := by rw [Int.add_zero]; exact tmod_lo hq.2.1 hq.2.2
          rw [← e0] at hR
          obtain ⟨wr, w1, w2, w3⟩ := scan_mend hg (saysF_ok (g := g) (x := x) (y := y)) hq.2 g.sl.toNat 0 a.seq g.sl [] [] (Int.le_refl 0) (by omega) hR
          rw [List.nil_append] at w1
          subst w1
          have hin : ∀ z ∈ w', wIn g z ∧ z.bytes.length ≤ 100000 := fun z hz => by
            obtain ⟨u, u1, u2, u3⟩ := w2 z hz
            refine ⟨?_, u3⟩
            have q1 := Int.tmod_nonneg g.sl (show 0 ≤ a.pos + u by omega)
            have q2 := Int.tmod_lt_of_pos (a.pos + u) (show 0 < g.sl by omega)
            rw [← u2] at q1 q2
            unfold wrS at q1 q2
            unfold wIn
            split at q1 <;> omega
          refine ⟨⟨hg, ha⟩, hx, hin, ?_⟩
          obtain ⟨l1, l2⟩ := mendL_len (g := g) (w := w') (z := (x, y)) w'.length
          have hm := mend_says (g := g) (w := w') (z := (x, y)) hx.1 hx.2 w'.length (Nat.le_refl _) fun z hz => (hin z hz).1
          rw [List.take_length] at hm
          have hm1 := congrArg Prod.fst hm
          have hm2 := congrArg Prod.snd hm
          refine scanA_P hg ha (by rw [l1]; exact hx.1) (by rw [l2]; exact hx.2) hm1 hm2 ?_
          unfold scanP
          have := w3 (mendF g w' (saysF g x 0, saysF g y 1)) (fun u _ _ => ⟨rfl, rfl⟩) []
          rw [e0] at this
          rw [this, finM_neg hl]
    · rw [if_neg hx] at h
      injection h with _ h
      injection h with _ h
      cases h
  · rw [if_neg hA] at h
    injection h with _ h
    injection h with _ h
    cases h
theorem scanL_wlen {g : Geo} {a : An} {x y : List Gt} (hg : okG g = true) : ∀ (f : Nat) (pos seq left : Int) (l : List Tx) (w : List Wr) {l' : List Tx} {w' : List Wr} {seq' : Int}, (0 ≤ pos ∧ pos < g.sl) → scanL g a x y f pos seq left l w = some (l', w', seq') → w'.length ≤ w.length + 30 * f
  | 0, pos, seq, left, l, w, l', w', seq', _, h => by
    unfold scanL at h
    injection h with h
    injection h with e1 h
    injection h with e2 e3
    subst e2
    omega
  | f + 1, pos, seq, left, l, w, l', w', seq', hp, h => by
    unfold scanL at h
    have fin : some (l, w, seq) = some (l', w', seq') → w'.length ≤ w.length + 30 * (f + 1) := fun h => by
      injection h with h
      injection h with e1 h
      injection h with e2 e3
      subst e2
      omega
    by_cases hc : 0 < left ∧ seq ≤ 4294967295
    · rw [if_pos hc] at h
      dsimp only at h
      have tf := txnM_facts (a := a) (x := x) (y := y) (seq := seq) (left := left) hg hp
      generalize txnM g a x y pos seq left = T at tf h
      obtain ⟨how, n, im, ws⟩ := T
      dsimp only at tf h
      rcases tf with ⟨rfl, t1, t2⟩ | tf
      · rw [if_neg (by decide), if_neg (by decide)] at h
        obtain ⟨h1, h2, h3, h4, h5⟩ := okG_iff.1 hg
        have hm := Int.tmod_lt_of_pos (pos + n) (show 0 < g.sl by omega)
        have hm0 := Int.tmod_nonneg g.sl (show 0 ≤ pos + n by omega)
        have := scanL_wlen hg f _ _ _ _ _ ⟨hm0, hm⟩ h
        rw [List.length_append] at this
        omega
      · by_cases e3 : how = 3
        · rw [if_pos e3] at h
          cases h
        · rw [if_neg e3, if_pos (by omega)] at h
          exact fin h
    · rw [if_neg hc] at h
      exact fin h
theorem gather_short {look : Int → Rc × Int × List Wr} : ∀ (f : Nat) (k : Int) (r : Rc) (im : List Img) (w : List Wr), (∀ i, k ≤ i → i < k + f → (look i).2.1 = 1 → (look i).1.img.bytes.length ≤ 59) → r.img.bytes.length ≤ 59 → (∀ i ∈ im, i.bytes.length ≤ 59) → ∀ i ∈ (gatherM look f k r im w).2.1, i.bytes.length ≤ 59
  | 0, k, r, im, w, _, hr, hi => by
    unfold gatherM
    dsimp only
    intro i hm
    split at hm
    · rcases List.mem_append.1 hm with h | h
      · exact hi i h
      · have e : i = r.img := by simpa using h
        rw [e]; exact hr
    · exact hi i hm
  | f + 1, k, r, im, w, hl, hr, hi => by
    by_cases hq : (look k).2.1 = 1
    · rw [gather_step hq]
      refine gather_short f (k + 1) _ _ _ (fun i h1 h2 h3 => hl i (by omega) (by omega) h3) (hl k (by omega) (by omega) hq) ?_
      intro i hm
      split at hm
      · rcases List.mem_append.1 hm with h | h
        · exact hi i h
        · have e : i = r.img := by simpa using h
          rw [e]; exact hr
      · exact hi i hm
    · rw [gather_stop hq]
      simp
theorem txnM_short {g : Geo} {a : An} {x y : List Gt} {pos seq left : Int} (hg : okG g = true) (hp : 0 ≤ pos ∧ pos < g.sl) : ∀ i ∈ (txnM g a x y pos seq left).2.2.1, i.bytes.length ≤ 59 := by
  have hf := fun (k of_ : Int) (hk : 0 ≤ k ∧ k ≤ 1000) => recM_facts (a := a) (x := x) (y := y) (seq := seq) (left := left) (of_ := of_) (at_ := k) hg hp hk
  unfold txnM
  dsimp only
  split
  · simp
  · rename_i h0
    have h0 := Classical.not_not.1 h0
    obtain ⟨e1, ⟨e2, e2', e3⟩, -⟩ := (hf 0 0 (by omega)).resolve_right fun h => by omega
    have hN := one_of e2 e3
    split
    · simp
    · dsimp only
      refine gather_short _ _ _ _ _ (fun i h1 h2 h3 => ?_) e2' (by simp)
      obtain ⟨-, ⟨-, q, -⟩, -⟩ := (hf i (recM g a x y pos seq left 0 0).1.of_ (by omega)).resolve_right fun h => by omega
      exact q
theorem scanL_imgs {g : Geo} {a : An} {x y : List Gt} (hg : okG g = true) : ∀ (f : Nat) (pos seq left : Int) (l : List Tx) (w : List Wr) {l' : List Tx} {w' : List Wr} {seq' : Int}, (0 ≤ pos ∧ pos < g.sl) → (∀ t ∈ l, t.images.length ≤ 30 ∧ ∀ i ∈ t.images, i.bytes.length ≤ 59) → scanL g a x y f pos seq left l w = some (l', w', seq') → l'.length ≤ l.length + f ∧ ∀ t ∈ l', t.images.length ≤ 30 ∧ ∀ i ∈ t.images, i.bytes.length ≤ 59
  | 0, pos, seq, left, l, w, l', w', seq', _, hl, h => by
    unfold scanL at h
    injection h with h
    injection h with e1 h
    subst e1
    exact ⟨by omega, hl⟩
  | f + 1, pos, seq, left, l, w, l', w', seq', hp, hl, h => by
    unfold scanL at h
    have fin : some (l, w, seq) = some (l', w', seq') → l'.length ≤ l.length + (f + 1) ∧ ∀ t ∈ l', t.images.length ≤ 30 ∧ ∀ i ∈ t.images, i.bytes.length ≤ 59 := fun h => by
      injection h with h
      injection h with e1 h
      subst e1
      exact ⟨by omega, hl⟩
    by_cases hc : 0 < left ∧ seq ≤ 4294967295
    · rw [if_pos hc] at h
      dsimp only at h
      have tf := txnM_facts (a := a) (x := x) (y := y) (seq := seq) (left := left) hg hp
      have ti := fun e => txnM_imgs (a := a) (x := x) (y := y) (seq := seq) (left := left) hg hp e
      have ts := txnM_short (a := a) (x := x) (y := y) (seq := seq) (left := left) hg hp
      generalize txnM g a x y pos seq left = T at tf h ti ts
      obtain ⟨how, n, im, ws⟩ := T
      dsimp only at tf h ti ts
      rcases tf with ⟨rfl, t1, t2⟩ | tf
      · rw [if_neg (by decide), if_neg (by decide)] at h
        obtain ⟨h1, h2, h3, h4, h5⟩ := okG_iff.1 hg
        have hm := Int.tmod_lt_of_pos (pos + n) (show 0 < g.sl by omega)
        have hm0 := Int.tmod_nonneg g.sl (show 0 ≤ pos + n by omega)
        have hi := ti rfl
        have := scanL_imgs hg f _ _ _ _ _ ⟨hm0, hm⟩ (fun t ht => by
          rcases List.mem_append.1 ht with h | h
          · exact hl t h
          · have e : t = ⟨seq, pos, n, im⟩ := by simpa using h
            rw [e]
            exact ⟨by dsimp only; omega, ts⟩) h
        rw [List.length_append] at this
        exact ⟨by have := this.1; simp only [List.length_cons, List.length_nil] at this; omega, this.2⟩
      · by_cases e3 : how = 3
        · rw [if_pos e3] at h
          cases h
        · rw [if_neg e3, if_pos (by omega)] at h
          exact fin h
    · rw [if_neg hc] at h
      exact fin h
theorem scanA_imgs {g : Geo} {a : An} {x y : List Gt} : (scanA g a x y).1.length ≤ 1000000000 ∧ ∀ t ∈ (scanA g a x y).1, t.images.length ≤ 1000000000 ∧ ∀ i ∈ t.images, i.bytes.length ≤ 100000000000 := by
  have fin : ∀ l : List Tx, l.length ≤ 30 → (∀ t ∈ l, t.images.length ≤ 30 ∧ ∀ i ∈ t.images, i.bytes.length ≤ 59) → l.length ≤ 1000000000 ∧ ∀ t ∈ l, t.images.length ≤ 1000000000 ∧ ∀ i ∈ t.images, i.bytes.length ≤ 100000000000 := fun l h1 h2 => ⟨by omega, fun t ht => by
    obtain ⟨q1, q2⟩ := h2 t ht
    exact ⟨by omega, fun i hi => by have := q2 i hi; omega⟩⟩
  unfold scanA
  by_cases hA : (okG g && anOk g a) = true
  · rw [if_pos hA]
    obtain ⟨hg, ha⟩ := Bool.and_eq_true_iff.1 hA
    obtain ⟨h1, h2, h3, h4, h5⟩ := okG_iff.1 hg
    split
    · unfold scanM
      cases hR : scanL g a x y g.sl.toNat a.pos a.seq g.sl [] [] with
      | none => exact fin [] (by simp) (by simp)
      | some R =>
        obtain ⟨l', w', seq'⟩ := R
        have := scanL_imgs hg _ _ _ _ _ _ (anOk_seq ha).2 (by simp) hR
        by_cases hl : seq' - 1 < a.last
        · rw [finM_pos hl]; exact fin [] (by simp) (by simp)
        · rw [finM_neg hl]
          refine fin _ ?_ this.2
          have := this.1
          simp only [List.length_nil] at this
          dsimp only
          omega
    · exact fin [] (by simp) (by simp)
  · rw [if_neg hA]; exact fin [] (by simp) (by simp)
theorem scanA_wlen {g : Geo} {a : An} {x y : List Gt} : (scanA g a x y).2.1.length ≤ 900 := by
  unfold scanA
  by_cases hA : (okG g && anOk g a) = true
  · rw [if_pos hA]
    obtain ⟨hg, ha⟩ := Bool.and_eq_true_iff.1 hA
    obtain ⟨h1, h2, h3, h4, h5⟩ := okG_iff.1 hg
    split
    · unfold scanM
      cases hR : scanL g a x y g.sl.toNat a.pos a.seq g.sl [] [] with
      | none => exact Nat.zero_le _
      | some R =>
        obtain ⟨l', w', seq'⟩ := R
        have := scanL_wlen hg _ _ _ _ _ _ (anOk_seq ha).2 hR
        by_cases hl : seq' - 1 < a.last
        · rw [finM_pos hl]; exact Nat.zero_le _
        · rw [finM_neg hl]
          simp only [List.length_nil] at this
          dsimp only
          omega
    · exact Nat.zero_le _
  · rw [if_neg hA]; exact Nat.zero_le _
theorem scanA_bad {g : Geo} {a : An} {x y : List Gt} (h : (scanA g a x y).2.2 ≠ 0) : (scanA g a x y).2.1 = [] := by
  unfold scanA at h ⊢
  by_cases hA : (okG g && anOk g a) = true
  · rw [if_pos hA] at h ⊢
    by_cases hx : (x.length : Int) = g.sl ∧ (y.length : Int) = g.sl
    · rw [if_pos hx] at h ⊢
      unfold scanM at h ⊢
      cases hR : scanL g a x y g.sl.toNat a.pos a.seq g.sl [] [] with
      | none => rfl
      | some R =>
        obtain ⟨l', w', seq'⟩ := R
        rw [hR] at h
        by_cases hl : seq' - 1 < a.last
        · rw [finM_pos hl]
        · rw [finM_neg hl] at h
          exact absurd rfl h
    · rw [if_neg hx]
  · rw [if_neg hA]
set_option maxRecDepth 100000 in
theorem twingots_fno (l : List Gt) (hl : l.length ≤ 1000000) (hb : ∀ x ∈ l, x.bytes.length ≤ 1000000000) : FnO Tryd.prog 39 [gotsA l] fun r R => r = .ow 0 l.length ∧ R = [.row 30 2 (l.map gotC)] := by
  refine FnO.of tys_ok Tryd.func39 rfl rfl (Nat.le_of_ble_eq_true rfl) ?_
  conv => whnf
  refine aLoop.rule Nat (fun k => ([(0, gotsA l), (3, .ow 0 k), (4, .v (.int .i64 k))], [.row 30 2 ((l.take k).map gotC)])) (fun k => k ≤ l.length) (fun k => l.length - k) 0 (Nat.zero_le _) ⟨[(3, 30, 2)], ⟨rfl, rfl, trivial⟩, ⟨rfl, rfl, rfl, trivial⟩, ⟨rfl, trivial⟩, rfl, rfl, rfl⟩ ?_
  rintro k hk
  conv => whnf
  refine boolI (fun h2 => ?_) (fun h2 => ?_) <;> (repeat rw [Int.toNat_natCast] at h2) <;> conv => whnf
  · refine aDraw.seq tys_ok mixed (by kernel_rfl) ?_
    conv => whnf
    repeat' (first | (refine aSeq.go ?_; conv => whnf) | (refine boolI (fun _ => ?_) (fun _ => ?_) <;> conv => whnf) | (refine Fn.closed (twin_fn (l.getD k ⟨0, []⟩).bytes (hb _ (getD_mem (by omega)))) rfl ?_; rintro _ rfl; conv => whnf) | (refine And.intro (by first | omega | exact of_decide_eq_true rfl) ?_; conv => whnf) | fail)
    refine And.intro ⟨by simp; omega, by omega⟩ ?_
    conv => whnf
    exact ⟨k + 1, by omega, by omega, [], trivial, ⟨rfl, rfl, wsucc (by omega), trivial⟩, ⟨congrArg (AB.row _ _) (take_map_succ h2), trivial⟩, rfl, rfl, rfl⟩
  · have ek : k = l.length := by omega
    subst ek
    exact ⟨rfl, by rw [List.take_length]⟩
end Go.Proofs.YteecmgonbdbhdaaDoor.A
end

/-
The law ScanMended.
-/
section
namespace Go.Proofs.YteecmgonbdbhdaaDoor.A
open Go.RowKit

set_option maxRecDepth 100000 in
theorem mended18_fn (g : Geo) (a : An) (x y : List Gt) : Fn Tryd.prog 9 [.ag (geoC g), .ag (anC a), gotsA x, gotsA y] fun r => r = .v (.bool true) := by
  have hw := wakes18_fn
  refine Fn.of tys_ok Tryd.func9 rfl rfl (Nat.le_of_ble_eq_true rfl) ?_
  conv => whnf
  refine Fn.closed (heavyA_fn a) rfl ?_
  rintro _ rfl
  conv => whnf
  refine boolI (fun t1 => ?_) (fun t1 => ?_) <;> (repeat rw [Int.toNat_natCast] at t1) <;> conv => whnf
  · exact ⟨_, fun _ _ h => h, rfl⟩
  obtain ⟨hh, hl⟩ := heavyA_no t1
  refine Fn.closed (heavyG_fn x) rfl ?_
  rintro _ rfl
  conv => whnf
  refine boolI (fun t2 => ?_) (fun t2 => ?_) <;> (repeat rw [Int.toNat_natCast] at t2) <;> conv => whnf
  · exact ⟨_, fun _ _ h => h, rfl⟩
  refine Fn.closed (heavyG_fn y) rfl ?_
  rintro _ rfl
  conv => whnf
  refine boolI (fun t3 => ?_) (fun t3 => ?_) <;> (repeat rw [Int.toNat_natCast] at t3) <;> conv => whnf
  · exact ⟨_, fun _ _ h => h, rfl⟩
  obtain ⟨hx1, hx2⟩ := heavyG_no t2
  obtain ⟨hy1, hy2⟩ := heavyG_no t3
  have sc := scan_fn g a x y (by omega) (by omega) (fun z hz => by have := hx2 z hz; omega) (fun z hz => by have := hy2 z hz; omega)
  have hS := scanA_right (g := g) (a := a) (x := x) (y := y)
  have hM := fun l w => scanA_mend (g := g) (a := a) (x := x) (y := y) (l := l) (w := w)
  have hE := scanA_bad (g := g) (a := a) (x := x) (y := y)
  have hWl := scanA_wlen (g := g) (a := a) (x := x) (y := y)
  have hI := scanA_imgs (g := g) (a := a) (x := x) (y := y)
  generalize scanA g a x y = S at sc hS hM hE hWl hI
  obtain ⟨l, w, e⟩ := S
  dsimp only at sc hS hE hWl hI
  refine Fn.closed (sc) rfl ?_
  rintro _ rfl
  conv => whnf
  refine boolI (fun u1 => ?_) (fun u1 => ?_) <;> (repeat rw [Int.toNat_natCast] at u1) <;> conv => whnf
  · obtain ⟨-, rfl⟩ := hS.resolve_left fun h => u1 h.1
    obtain rfl := hE u1
    repeat' (first | (refine aSeq.go ?_; conv => whnf) | (refine boolI (fun _ => ?_) (fun _ => ?_) <;> conv => whnf) | (refine Fn.closed (hw) rfl ?_; rintro _ rfl; conv => whnf) | (refine And.intro (by first | omega | exact of_decide_eq_true rfl) ?_; conv => whnf) | fail)
    exact ⟨_, fun _ _ h => h, rfl⟩
  · subst u1
    obtain ⟨⟨hg, ha⟩, ⟨lx, ly⟩, hW, hM⟩ := hM l w rfl
    obtain ⟨h1, h2, h3, h4, h5⟩ := okG_iff.1 hg
    refine FnO.call (twingots_fno x (by omega) (fun z hz => by have := hx2 z hz; omega)) rfl ?_
    rintro _ _ ⟨rfl, rfl⟩
    conv => whnf
    refine FnO.call (twingots_fno y (by omega) (fun z hz => by have := hy2 z hz; omega)) rfl ?_
    rintro _ _ ⟨rfl, rfl⟩
    conv => whnf
    have hlen := fun k => mendL_len (g := g) (w := w) (z := (x, y)) k
    refine aLoop.rule Nat (fun k => ([(4, .bp 0 0), (5, .bp 1 0), (9, txsA l), (10, wrsA w), (12, .ow 2 x.length), (13, .ow 3 y.length), (14, .v (.int .i64 k))], [.box 23 (geoC g), .box 26 (anC a), .row 30 2 ((mendL g w (x, y) k).1.map gotC), .row 30 2 ((mendL g w (x, y) k).2.map gotC)]))
      (fun k => k ≤ w.length) (fun k => w.length - k) 0 (Nat.zero_le _) ⟨[], trivial, ⟨rfl, rfl, rfl, rfl, rfl, rfl, rfl, trivial⟩, ⟨rfl, rfl, rfl, rfl, trivial⟩, rfl, rfl, rfl⟩ ?_
    intro k hk
    obtain ⟨m1, m2⟩ := hlen k
    dsimp only at m1 m2
    conv => whnf
    refine boolI (fun c1 => ?_) (fun c1 => ?_) <;> (repeat rw [Int.toNat_natCast] at c1) <;> conv => whnf
    · have hx := hW _ (getD_mem (d := ⟨0, []⟩) (show k < w.length by omega))
      have hm1 : (mendL g w (x, y) (k + 1)) = mendL1 g (w.getD k ⟨0, []⟩) (mendL g w (x, y) k) := rfl
      unfold mendL1 at hm1
      obtain ⟨⟨hx3, hx4⟩, -⟩ := hx
      have wa : IntKind.i64.wrap ((w.getD k ⟨0, []⟩).addr - g.an) = (w.getD k ⟨0, []⟩).addr - g.an := wi (by omega)
      have wb : IntKind.i64.wrap ((x.length : Int) + y.length) = (x.length : Int) + y.length := wi (by omega)
      refine aSeq.go ?_
      conv => whnf
      refine aDraw.of tys_ok mixed [0, 1, 2, 3, 4, 5, 6, 7, 8] (by kernel_rfl) ?_
      conv => whnf
      refine ⟨by first | omega | (simp only [List.length_map]; omega) | exact ⟨rfl, by simp only [List.length_map]; omega, by omega⟩, ?_⟩
      conv => whnf
      rw [Int.toNat_natCast, wa]
      conv => whnf
      refine boolI (fun d1 => ?_) (fun d1 => ?_) <;> (repeat rw [Int.toNat_natCast] at d1) <;> conv => whnf
      · exfalso; omega
      rw [wb]
      conv => whnf
      refine boolI (fun d2 => ?_) (fun d2 => ?_) <;> (repeat rw [Int.toNat_natCast] at d2) <;> conv => whnf
      · exfalso; omega
      obtain ⟨n, hn⟩ := Int.eq_ofNat_of_zero_le hx3
      refine boolI (fun d3 => ?_) (fun d3 => ?_) <;> (repeat rw [Int.toNat_natCast] at d3) <;> conv => whnf
      · have gX : ((mendL g w (x, y) k).1.map gotC).getD (Int.toNat ((w.getD k ⟨0, []⟩).addr - g.an)) [] = gotC ((mendL g w (x, y) k).1.getD n gz) := by rw [hn, Int.toNat_natCast]; exact map_getD (by omega)
        rw [if_pos (by omega)] at hm1
        refine ⟨by first | omega | (simp only [List.length_map]; omega) | exact ⟨rfl, by simp only [List.length_map]; omega, by omega⟩, ?_⟩
        conv => whnf
        refine ⟨by first | omega | (simp only [List.length_map]; omega) | exact ⟨rfl, by simp only [List.length_map]; omega, by omega⟩, ?_⟩
        conv => whnf
        refine ⟨by first | omega | (simp only [List.length_map]; omega) | exact ⟨rfl, by simp only [List.length_map]; omega, by omega⟩, ?_⟩
        conv => whnf
        rw [gX]
        conv => whnf
        exact ⟨k + 1, by omega, by omega, [], trivial, ⟨rfl, rfl, rfl, rfl, rfl, rfl, wsucc (by omega), trivial⟩, ⟨rfl, rfl, by rw [hm1, List.map_set]; rfl, by rw [hm1], trivial⟩, rfl, rfl, rfl⟩
      · rw [if_neg (by omega)] at hm1
        have wc : IntKind.i64.wrap ((w.getD k ⟨0, []⟩).addr - g.an - x.length) = (w.getD k ⟨0, []⟩).addr - g.an - g.sl := by rw [wi (by omega)]; omega
        obtain ⟨n2, hn2⟩ := Int.eq_ofNat_of_zero_le (show 0 ≤ (w.getD k ⟨0, []⟩).addr - g.an - g.sl by omega)
        have gY : ((mendL g w (x, y) k).2.map gotC).getD (Int.toNat ((w.getD k ⟨0, []⟩).addr - g.an - g.sl)) [] = gotC ((mendL g w (x, y) k).2.getD n2 gz) := by rw [hn2, Int.toNat_natCast]; exact map_getD (by omega)
        refine ⟨by first | omega | (simp only [List.length_map]; omega) | exact ⟨rfl, by simp only [List.length_map]; omega, by omega⟩, ?_⟩
        conv => whnf
        rw [wc]
        conv => whnf
        refine ⟨by first | omega | (simp only [List.length_map]; omega) | exact ⟨rfl, by simp only [List.length_map]; omega, by omega⟩, ?_⟩
        conv => whnf
        refine ⟨by first | omega | (simp only [List.length_map]; omega) | exact ⟨rfl, by simp only [List.length_map]; omega, by omega⟩, ?_⟩
        conv => whnf
        rw [gY]
        conv => whnf
        exact ⟨k + 1, by omega, by omega, [], trivial, ⟨rfl, rfl, rfl, rfl, rfl, rfl, wsucc (by omega), trivial⟩, ⟨rfl, rfl, by rw [hm1], by rw [hm1, List.map_set]; rfl, trivial⟩, rfl, rfl, rfl⟩
    · have ek : k = w.length := by omega
      subst ek
      have sM := mendL_short (g := g) (w := w) (z := (x, y)) (m := 100000) (fun z hz => by have := hx2 z hz; omega) (fun z hz => by have := hy2 z hz; omega) (fun z hz => (hW z hz).2) w.length (Nat.le_refl _)
      have c2 := scan_fn g a (mendL g w (x, y) w.length).1 (mendL g w (x, y) w.length).2 (by omega) (by omega) sM.1 sM.2
      rw [hM] at c2
      dsimp only at c2
      have lm := hI
      have tx := txns_fn l l lm.1 lm.2
      rw [decide_eq_true rfl] at tx
      refine ACalls.shut (c2).go ?_
      conv => whnf
      repeat' (refine And.intro (by first | rfl | omega | (simp; done) | (simp only [List.length_map]; omega)) ?_; conv => whnf)
      refine ACalls.sub _ ?_ (Fn.closed (c2) rfl ?_)
      · repeat' (first | exact trivial | exact fun _ _ h => h | exact nil_sl _ _ | exact row_sub (mendL g w (x, y) w.length).1 (by omega) rfl | exact row_sub (mendL g w (x, y) w.length).2 (by omega) rfl | refine And.intro ?_ ?_ | refine ag_sub ?_)
      rintro _ rfl
      conv => whnf
      repeat' (first | (refine aSeq.go ?_; conv => whnf) | (refine boolI (fun _ => ?_) (fun _ => ?_) <;> conv => whnf) | (refine Fn.closed (tx) rfl ?_; rintro _ rfl; conv => whnf) | (refine Fn.closed (hw) rfl ?_; rintro _ rfl; conv => whnf) | (refine And.intro (by first | omega | exact of_decide_eq_true rfl) ?_; conv => whnf) | fail)
      exact ⟨_, fun _ _ h => h, rfl⟩
end Go.Proofs.YteecmgonbdbhdaaDoor.A
end
