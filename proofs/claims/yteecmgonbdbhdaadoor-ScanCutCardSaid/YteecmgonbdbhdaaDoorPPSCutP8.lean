/-
Several texts in one.
-/
import Derived.Test.YteecmgonbdbhdaaDoorPPSCutP7
import Derived.Test.YteecmgonbdbhdaaDoorPPSCutP6

/-
A transaction that was cut while it was written, in plain terms.
-/
section
namespace Go.Proofs.YteecmgonbdbhdaaDoor.A
open Go.RowKit

def saysX (g : Geo) (L L' : List Tx) (ep : Int) (c : Int → Bool) : Int → Option Rc := fun s => if 0 ≤ s ∧ s < g.sl then some (if c s then recW g L ep s else recW g L' ep s) else none
def cutL (bit : Nat → Bool) (slot : Nat → Nat) (X U : List Gt) : Nat → List Gt
  | 0 => X
  | k + 1 => if bit k then (cutL bit slot X U k).set (slot k) (U.getD (slot k) gz) else cutL bit slot X U k
def cutC (bit : Nat → Bool) (slot : Nat → Nat) : Nat → Int → Bool
  | 0, _ => false
  | k + 1, s => (bit k && decide (s = (slot k : Nat))) || cutC bit slot k s
theorem cutL_len (bit : Nat → Bool) (slot : Nat → Nat) (X U : List Gt) : ∀ k, (cutL bit slot X U k).length = X.length
  | 0 => rfl
  | k + 1 => by
    unfold cutL
    split
    · rw [List.length_set, cutL_len bit slot X U k]
    · exact cutL_len bit slot X U k
theorem cutL_mem {bit : Nat → Bool} {slot : Nat → Nat} {X U : List Gt} {Q : Gt → Prop} (hX : ∀ z ∈ X, Q z) (hU : ∀ z ∈ U, Q z) : ∀ k, (∀ i, i < k → slot i < U.length) → ∀ z ∈ cutL bit slot X U k, Q z
  | 0, _ => hX
  | k + 1, hs => by
    have ih := cutL_mem (bit := bit) hX hU k fun i hi => hs i (by omega)
    unfold cutL
    split
    · intro z hz
      rcases List.mem_or_eq_of_mem_set hz with h | rfl
      · exact ih z h
      · exact hU _ (getD_mem (hs k (by omega)))
    · exact ih
theorem cutC_iff {bit : Nat → Bool} {slot : Nat → Nat} : ∀ {n : Nat} {s : Int}, cutC bit slot n s = true ↔ ∃ i, i < n ∧ bit i = true ∧ s = (slot i : Nat)
  | 0, s => by simp [cutC]
  | n + 1, s => by
    simp only [cutC, Bool.or_eq_true, Bool.and_eq_true, decide_eq_true_eq, cutC_iff (n := n)]
    constructor
    · rintro (⟨h1, h2⟩ | ⟨i, h1, h2, h3⟩)
      · exact ⟨n, by omega, h1, h2⟩
      · exact ⟨i, by omega, h2, h3⟩
    · rintro ⟨i, h1, h2, h3⟩
      by_cases e : i = n
      · subst e
        exact .inl ⟨h2, h3⟩
      · exact .inr ⟨i, by omega, h2, h3⟩
theorem cutC_at {bit : Nat → Bool} {slot : Nat → Nat} {n k : Nat} (hk : k < n) (inj : ∀ i j, i < n → j < n → slot i = slot j → i = j) : cutC bit slot n ((slot k : Nat) : Int) = bit k := by
  cases h : bit k with
  | true => exact cutC_iff.2 ⟨k, hk, h, rfl⟩
  | false =>
    rw [← Bool.not_eq_true]
    intro e
    obtain ⟨i, h1, h2, h3⟩ := cutC_iff.1 e
    have := inj k i hk h1 (Int.ofNat_inj.1 h3)
    subst this
    rw [h] at h2
    cases h2
theorem saysF_cut {g : Geo} {L L' : List Tx} {ep copy : Int} {X U : List Gt} {bit : Nat → Bool} {slot : Nat → Nat} (hX : saysF g X copy = saysW g L' ep fun _ => false) (hU : saysF g U copy = saysW g L ep fun _ => false) (hl : (X.length : Int) = g.sl) : ∀ k, (∀ i, i < k → slot i < X.length) → saysF g (cutL bit slot X U k) copy = saysX g L L' ep (cutC bit slot k)
  | 0, _ => by
    unfold cutL
    rw [hX]
    funext s
    simp [saysW, saysX, cutC]
  | k + 1, hs => by
    have ih := saysF_cut (bit := bit) (slot := slot) hX hU hl k fun i hi => hs i (by omega)
    have hk := hs k (by omega)
    unfold cutL
    by_cases hb : bit k = true
    · rw [if_pos hb]
      funext s
      have ihs := congrFun ih s
      unfold saysF at ihs ⊢
      by_cases h0 : 0 ≤ s ∧ s < g.sl
      · obtain ⟨i, rfl⟩ := Int.eq_ofNat_of_zero_le h0.1
        rw [Int.toNat_natCast] at ihs ⊢
        by_cases e : i = slot k
        · subst e
          rw [List.getD_eq_getElem?_getD, List.getElem?_set_self (by rw [cutL_len]; exact hk)]
          have hu := congrFun hU ((slot k : Nat) : Int)
          unfold saysF at hu
          rw [Int.toNat_natCast] at hu
          simp only [Option.getD_some]
          rw [hu]
          unfold saysW saysX
          rw [if_pos h0, if_pos h0, if_neg Bool.false_ne_true]
          have : cutC bit slot (k + 1) ((slot k : Nat) : Int) = true := cutC_iff.2 ⟨k, by omega, hb, rfl⟩
          rw [this]
          rfl
        · rw [List.getD_eq_getElem?_getD, List.getElem?_set_ne (Ne.symm e), ← List.getD_eq_getElem?_getD, ihs]
          unfold saysX
          rw [if_pos h0, if_pos h0]
          have : cutC bit slot (k + 1) ((i : Nat) : Int) = cutC bit slot k ((i : Nat) : Int) := by
            simp only [cutC]
            rw [decide_eq_false (show ¬ ((i : Nat) : Int) = ((slot k : Nat) : Int) by omega), Bool.and_false, Bool.false_or]
          rw [this]
      · unfold saysX
        rw [if_neg h0]
        exact saysR_out h0
    · rw [if_neg hb, ih]
      congr 1
      funext s
      simp only [cutC, Bool.not_eq_true _ ▸ hb, Bool.false_and, Bool.false_or]
theorem first_no (P : Nat → Bool) : ∀ n, (∀ k, k < n → P k = true) ∨ ∃ k0, k0 < n ∧ P k0 = false ∧ ∀ k, k < k0 → P k = true
  | 0 => .inl fun k hk => by omega
  | n + 1 => by
    rcases first_no P n with h | ⟨k0, h1, h2, h3⟩
    · cases hn : P n with
      | true =>
        refine .inl fun k hk => ?_
        by_cases e : k = n
        · rw [e, hn]
        · exact h k (by omega)
      | false => exact .inr ⟨n, by omega, hn, h⟩
    · exact .inr ⟨k0, by omega, h2, h3⟩
theorem tmod_inj {p u v n : Int} (hp : 0 ≤ p ∧ p < n) (hu : 0 ≤ u ∧ u < n) (hv : 0 ≤ v ∧ v < n) (h : (p + u).tmod n = (p + v).tmod n) : u = v := by
  have h1 : (p + u).tmod n = if p + u < n then p + u else p + u - n := by
    split
    · exact tmod_lo (by omega) (by omega)
    · exact tmod_hi (by omega) (by omega) (by omega)
  have h2 : (p + v).tmod n = if p + v < n then p + v else p + v - n := by
    split
    · exact tmod_lo (by omega) (by omega)
    · exact tmod_hi (by omega) (by omega) (by omega)
  rw [h1, h2] at h
  split at h <;> split at h <;> omega
section
variable {g : Geo} {a : An} {fill : UInt8} {sizes : List Int}
theorem used_mono (hg : okG g = true) (ha : anOk g a = true) {i j : Nat} (h : i ≤ j) : usedM ((logM g a fill sizes 0 a.pos 0).take i) ≤ usedM ((logM g a fill sizes 0 a.pos 0).take j) := by
  induction j with
  | zero => rw [show i = 0 by omega]; exact Int.le_refl _
  | succ j ih =>
    by_cases e : i = j + 1
    · rw [e]; exact Int.le_refl _
    · have ih := ih (by omega)
      by_cases hj : j < (logM g a fill sizes 0 a.pos 0).length
      · rw [used_take _ j hj]
        have := (log_get (fill := fill) (sizes := sizes) hg ha hj).2.1
        omega
      · rw [List.take_of_length_le (show _ ≤ j + 1 by omega)]
        rw [List.take_of_length_le (show _ ≤ j by omega)] at ih
        exact ih
theorem who_free {u : Int} (hg : okG g = true) (ha : anOk g a = true) (hu : usedM (logM g a fill sizes 0 a.pos 0) ≤ u) (hs : u < g.sl) : whoM g ((a.pos + u).tmod g.sl) (logM g a fill sizes 0 a.pos 0) 0 = none := by
  obtain ⟨h1, h2, h3, h4, h5⟩ := okG_iff.1 hg
  have hq := anOk_seq ha
  have h0 := used_nn (logM_nn (fill := fill) (sizes := sizes) hg ha)
  have hw := who_log (a := a) (fill := fill) hg (p0 := a.pos) hq.2 (u := u) (by omega) sizes 0 0 0 ⟨Int.le_refl 0, by omega⟩
  rw [show (a.pos + 0).tmod g.sl = a.pos by rw [Int.add_zero]; exact tmod_lo hq.2.1 hq.2.2] at hw
  rw [findU_none _ 0 0 _ (logM_nn hg ha) (by omega)] at hw
  exact hw
theorem who_some (hg : okG g = true) (ha : anOk g a = true) {j k : Nat} (hj : j < (logM g a fill sizes 0 a.pos 0).length) (hk : k < ((logM g a fill sizes 0 a.pos 0).getD j tz).images.length + 1) : (whoM g (slotM g ((logM g a fill sizes 0 a.pos 0).getD j tz).pos k) (logM g a fill sizes 0 a.pos 0) 0).isSome = true := by
  obtain ⟨-, r2⟩ := recW_at (ep := 0) hg ha hj hk
  cases h : whoM g (slotM g ((logM g a fill sizes 0 a.pos 0).getD j tz).pos k) (logM g a fill sizes 0 a.pos 0) 0 with
  | some _ => rfl
  | none =>
    unfold recW at r2
    rw [h] at r2
    have := (recs_facts ((logM g a fill sizes 0 a.pos 0).getD j tz).seq 0 ((logM g a fill sizes 0 a.pos 0).getD j tz).images k hk).1
    rw [← r2] at this
    exact absurd rfl this
theorem log_pos (hg : okG g = true) (ha : anOk g a = true) {j : Nat} (hj : j < (logM g a fill sizes 0 a.pos 0).length) : ((logM g a fill sizes 0 a.pos 0).getD j tz).pos = (a.pos + usedM ((logM g a fill sizes 0 a.pos 0).take j)).tmod g.sl := by
  have hq := anOk_seq ha
  have hp := posM_used hg ((logM g a fill sizes 0 a.pos 0).take j) a.pos hq.2.1 fun t ht => logM_nn hg ha t (List.mem_of_mem_take ht)
  rw [tmod_lo hq.2.1 hq.2.2, ← logM_pos sizes 0 a.pos 0 j hj] at hp
  exact hp
theorem slot_inj (hg : okG g = true) (ha : anOk g a = true) {j j' k k' : Nat} (hj : j < (logM g a fill sizes 0 a.pos 0).length) (hj' : j' < (logM g a fill sizes 0 a.pos 0).length) (hk : k < ((logM g a fill sizes 0 a.pos 0).getD j tz).images.length + 1) (hk' : k' < ((logM g a fill sizes 0 a.pos 0).getD j' tz).images.length + 1) (h : slotM g ((logM g a fill sizes 0 a.pos 0).getD j tz).pos k = slotM g ((logM g a fill sizes 0 a.pos 0).getD j' tz).pos k') : j = j' ∧ k = k' := by
  have hq := anOk_seq ha
  have r1 := log_room hg (a := a) (fill := fill) (sizes := sizes) hj
  have r2 := log_room hg (a := a) (fill := fill) (sizes := sizes) hj'
  have n1 := log_take_nn (fill := fill) (sizes := sizes) hg ha j
  have n2 := log_take_nn (fill := fill) (sizes := sizes) hg ha j'
  have g1 := (log_get (fill := fill) (sizes := sizes) hg ha hj).2.1
  have g2 := (log_get (fill := fill) (sizes := sizes) hg ha hj').2.1
  rw [log_slot hg ha hj hk, log_slot hg ha hj' hk'] at h
  have e := tmod_inj hq.2 (by omega) (by omega) h
  have u1 := used_take _ j hj
  have u2 := used_take _ j' hj'
  rcases Nat.lt_trichotomy j j' with hlt | rfl | hlt
  · have := used_mono (fill := fill) (sizes := sizes) hg ha (show j + 1 ≤ j' by omega)
    exfalso; omega
  · exact ⟨rfl, by omega⟩
  · have := used_mono (fill := fill) (sizes := sizes) hg ha (show j' + 1 ≤ j by omega)
    exfalso; omega
theorem cut_scan {m : Nat} {bit0 bit1 : Nat → Bool} {slot : Nat → Nat} (hg : okG g = true) (ha : anOk g a = true) (hs : a.seq ≤ 1000000) (hl : sizes.length ≤ 40) (hm : (logM g a fill sizes 0 a.pos 0).length = m + 1) (hslot : ∀ i, i < ((logM g a fill sizes 0 a.pos 0).getD m tz).images.length + 1 → slotM g ((logM g a fill sizes 0 a.pos 0).getD m tz).pos i = (slot i : Nat)) :
    ∃ w, scanP g a (saysX g (logM g a fill sizes 0 a.pos 0) ((logM g a fill sizes 0 a.pos 0).take m) a.epoch (cutC bit0 slot (((logM g a fill sizes 0 a.pos 0).getD m tz).images.length + 1))) (saysX g (logM g a fill sizes 0 a.pos 0) ((logM g a fill sizes 0 a.pos 0).take m) a.epoch (cutC bit1 slot (((logM g a fill sizes 0 a.pos 0).getD m tz).images.length + 1))) =
      finM a (if ∀ k, k < ((logM g a fill sizes 0 a.pos 0).getD m tz).images.length + 1 → (bit0 k || bit1 k) = true then some (logM g a fill sizes 0 a.pos 0, w, a.seq + (m + 1)) else some ((logM g a fill sizes 0 a.pos 0).take m, w, a.seq + m)) := by
  obtain ⟨h1, h2, h3, h4, h5⟩ := okG_iff.1 hg
  have hq := anOk_seq ha
  have eT := logM_take (g := g) (a := a) (fill := fill) sizes 0 a.pos 0 m (by omega)
  have hmL : m < (logM g a fill sizes 0 a.pos 0).length := by omega
  have hUm := log_take_nn (fill := fill) (sizes := sizes) hg ha m
  have hroom := log_room hg (a := a) (fill := fill) (sizes := sizes) hmL
  have hgm := log_get (fill := fill) (sizes := sizes) hg ha hmL
  have hpm := log_pos (fill := fill) (sizes := sizes) hg ha hmL
  have hU := log_used hg (a := a) (fill := fill) (sizes := sizes)
  have hU0 := used_nn (logM_nn (fill := fill) (sizes := sizes) hg ha)
  have hmono := used_mono (fill := fill) (sizes := sizes) hg ha (show m ≤ m + 1 by omega)
  rw [List.take_of_length_le (show _ ≤ m + 1 by omega)] at hmono
  have hinj : ∀ i j, i < ((logM g a fill sizes 0 a.pos 0).getD m tz).images.length + 1 → j < ((logM g a fill sizes 0 a.pos 0).getD m tz).images.length + 1 → slot i = slot j → i = j := fun i j hi hj e => (slot_inj (fill := fill) (sizes := sizes) hg ha hmL hmL hi hj (by rw [hslot i hi, hslot j hj, e])).2
  have hsl := fun k hk => log_slot (k := k) (fill := fill) (sizes := sizes) hg ha hmL hk
  -- what the copies say at the last one's slots
  have sayL : ∀ (bit : Nat → Bool) (k : Nat), k < ((logM g a fill sizes 0 a.pos 0).getD m tz).images.length + 1 → saysX g (logM g a fill sizes 0 a.pos 0) ((logM g a fill sizes 0 a.pos 0).take m) a.epoch (cutC bit slot (((logM g a fill sizes 0 a.pos 0).getD m tz).images.length + 1)) (slotM g ((logM g a fill sizes 0 a.pos 0).getD m tz).pos k) = some (if bit k then (recsOf ((logM g a fill sizes 0 a.pos 0).getD m tz).seq a.epoch ((logM g a fill sizes 0 a.pos 0).getD m tz).images).getD k rc0 else zeroC) := fun bit k hk => by
    obtain ⟨r1, r2⟩ := recW_at (ep := a.epoch) (fill := fill) (sizes := sizes) hg ha hmL hk
    unfold saysX
    rw [if_pos r1, r2, eT, hsl k hk, recW_free hg ha (by rw [← eT]; omega) (by omega), ← hsl k hk, hslot k hk, cutC_at hk hinj]
  have whoL : ∀ k : Nat, k < ((logM g a fill sizes 0 a.pos 0).getD m tz).images.length + 1 → whoM g (slotM g ((logM g a fill sizes 0 a.pos 0).getD m tz).pos k) ((logM g a fill sizes 0 a.pos 0).take m) 0 = none := fun k hk => by
    rw [eT, hsl k hk]
    exact who_free hg ha (by rw [← eT]; omega) (by omega)
  have saysL : ∀ (bit : Nat → Bool) (k : Nat), k < ((logM g a fill sizes 0 a.pos 0).getD m tz).images.length + 1 → SaysB a (saysX g (logM g a fill sizes 0 a.pos 0) ((logM g a fill sizes 0 a.pos 0).take m) a.epoch (cutC bit slot (((logM g a fill sizes 0 a.pos 0).getD m tz).images.length + 1)) (slotM g ((logM g a fill sizes 0 a.pos 0).getD m tz).pos k)) (cutC bit slot (((logM g a fill sizes 0 a.pos 0).getD m tz).images.length + 1) (slotM g ((logM g a fill sizes 0 a.pos 0).getD m tz).pos k) || (whoM g (slotM g ((logM g a fill sizes 0 a.pos 0).getD m tz).pos k) ((logM g a fill sizes 0 a.pos 0).take m) 0).isSome) ((recsOf ((logM g a fill sizes 0 a.pos 0).getD m tz).seq a.epoch ((logM g a fill sizes 0 a.pos 0).getD m tz).images).getD k rc0) ((logM g a fill sizes 0 a.pos 0).getD m tz).seq k := fun bit k hk => by
    rw [sayL bit k hk, whoL k hk, hslot k hk, cutC_at hk hinj]
    unfold SaysB
    cases bit k
    · exact fun _ _ => one_zero _ _ _ _ _
    · rfl
  have sayT : ∀ (bit : Nat → Bool) (j k : Nat), j < m → k < ((logM g a fill sizes 0 a.pos 0).getD j tz).images.length + 1 → saysX g (logM g a fill sizes 0 a.pos 0) ((logM g a fill sizes 0 a.pos 0).take m) a.epoch (cutC bit slot (((logM g a fill sizes 0 a.pos 0).getD m tz).images.length + 1)) (slotM g ((logM g a fill sizes 0 a.pos 0).getD j tz).pos k) = some ((recsOf ((logM g a fill sizes 0 a.pos 0).getD j tz).seq a.epoch ((logM g a fill sizes 0 a.pos 0).getD j tz).images).getD k rc0) ∧ (whoM g (slotM g ((logM g a fill sizes 0 a.pos 0).getD j tz).pos k) ((logM g a fill sizes 0 a.pos 0).take m) 0).isSome = true := fun bit j k hj hk => by
    obtain ⟨r1, r2⟩ := recW_at (ep := a.epoch) (fill := fill) (sizes := sizes) hg ha (show j < _ by omega) hk
    have eg : ((logM g a fill sizes 0 a.pos 0).take m).getD j tz = (logM g a fill sizes 0 a.pos 0).getD j tz := by
      rw [List.getD_eq_getElem?_getD, List.getD_eq_getElem?_getD, List.getElem?_take_of_lt hj]
    have hj' : j < (logM g a fill (sizes.take m) 0 a.pos 0).length := by rw [← eT, List.length_take]; omega
    have hk' : k < ((logM g a fill (sizes.take m) 0 a.pos 0).getD j tz).images.length + 1 := by rw [← eT, eg]; exact hk
    obtain ⟨r3, r4⟩ := recW_at (ep := a.epoch) (fill := fill) (sizes := sizes.take m) hg ha hj' hk'
    have r5 := who_some (fill := fill) (sizes := sizes.take m) hg ha hj' hk'
    rw [← eT, eg] at r4 r5
    refine ⟨?_, r5⟩
    unfold saysX
    rw [if_pos r1, r2, r4]
    split <;> rfl
  have allT : ∀ t ∈ (logM g a fill sizes 0 a.pos 0).take m, AllB g a a.epoch (saysX g (logM g a fill sizes 0 a.pos 0) ((logM g a fill sizes 0 a.pos 0).take m) a.epoch (cutC bit0 slot (((logM g a fill sizes 0 a.pos 0).getD m tz).images.length + 1))) (saysX g (logM g a fill sizes 0 a.pos 0) ((logM g a fill sizes 0 a.pos 0).take m) a.epoch (cutC bit1 slot (((logM g a fill sizes 0 a.pos 0).getD m tz).images.length + 1))) (fun s => cutC bit0 slot (((logM g a fill sizes 0 a.pos 0).getD m tz).images.length + 1) s || (whoM g s ((logM g a fill sizes 0 a.pos 0).take m) 0).isSome) (fun s => cutC bit1 slot (((logM g a fill sizes 0 a.pos 0).getD m tz).images.length + 1) s || (whoM g s ((logM g a fill sizes 0 a.pos 0).take m) 0).isSome) t (t.images.length + 1) := fun t ht => by
    obtain ⟨j, j1, j2, rfl⟩ := mem_take_ ht
    refine ⟨.inl rfl, fun k hk => ?_⟩
    obtain ⟨s1, s2⟩ := sayT bit0 j k j1 hk
    obtain ⟨s3, -⟩ := sayT bit1 j k j1 hk
    dsimp only
    rw [s1, s3, s2, Bool.or_true, Bool.or_true]
    exact ⟨rfl, rfl, rfl⟩
  by_cases hW : ∀ k, k < ((logM g a fill sizes 0 a.pos 0).getD m tz).images.length + 1 → (bit0 k || bit1 k) = true
  · obtain ⟨f, e1, e2, e3⟩ := scan_B (g := g) (a := a) (b := a) (fill := fill) (sizes := sizes) (ep := a.epoch) (p := saysX g (logM g a fill sizes 0 a.pos 0) ((logM g a fill sizes 0 a.pos 0).take m) a.epoch (cutC bit0 slot (((logM g a fill sizes 0 a.pos 0).getD m tz).images.length + 1))) (q := saysX g (logM g a fill sizes 0 a.pos 0) ((logM g a fill sizes 0 a.pos 0).take m) a.epoch (cutC bit1 slot (((logM g a fill sizes 0 a.pos 0).getD m tz).images.length + 1))) (b0 := fun s => cutC bit0 slot (((logM g a fill sizes 0 a.pos 0).getD m tz).images.length + 1) s || (whoM g s ((logM g a fill sizes 0 a.pos 0).take m) 0).isSome) (b1 := fun s => cutC bit1 slot (((logM g a fill sizes 0 a.pos 0).getD m tz).images.length + 1) s || (whoM g s ((logM g a fill sizes 0 a.pos 0).take m) 0).isSome) hg ha hs hl rfl rfl (fun t ht => by
      obtain ⟨j, j1, rfl⟩ := log_mem ht
      by_cases hj : j < m
      · refine allT _ ?_
        rw [List.mem_iff_getElem?]
        refine ⟨j, ?_⟩
        rw [List.getElem?_take_of_lt hj, List.getD_eq_getElem?_getD, List.getElem?_eq_getElem j1]
        rfl
      · have e : j = m := by omega
        subst e
        refine ⟨.inl rfl, fun k hk => ⟨saysL bit0 k hk, saysL bit1 k hk, ?_⟩⟩
        dsimp only
        rw [whoL k hk, hslot k hk, cutC_at hk hinj, cutC_at hk hinj, Option.isSome_none, Bool.or_false, Bool.or_false]
        exact hW k hk)
    refine ⟨(logM g a fill sizes 0 a.pos 0).flatMap (txWr g a.epoch (fun s => cutC bit0 slot (((logM g a fill sizes 0 a.pos 0).getD m tz).images.length + 1) s || (whoM g s ((logM g a fill sizes 0 a.pos 0).take m) 0).isSome) (fun s => cutC bit1 slot (((logM g a fill sizes 0 a.pos 0).getD m tz).images.length + 1) s || (whoM g s ((logM g a fill sizes 0 a.pos 0).take m) 0).isSome)), ?_⟩
    rw [if_pos hW, e3, scanLP_end]
    · rw [hm]
      rfl
    · intro hleft
      have hP := slotM_0 (x := a.pos + usedM (logM g a fill sizes 0 a.pos 0)) hg (by omega)
      have q1 := Int.tmod_nonneg g.sl (show 0 ≤ a.pos + usedM (logM g a fill sizes 0 a.pos 0) by omega)
      have q2 := Int.tmod_lt_of_pos (a.pos + usedM (logM g a fill sizes 0 a.pos 0)) (show 0 < g.sl by omega)
      have hz : ∀ c : Int → Bool, saysX g (logM g a fill sizes 0 a.pos 0) ((logM g a fill sizes 0 a.pos 0).take m) a.epoch c ((a.pos + usedM (logM g a fill sizes 0 a.pos 0)).tmod g.sl) = some zeroC := fun c => by
        unfold saysX
        rw [if_pos ⟨q1, q2⟩, recW_free hg ha (Int.le_refl _) (by omega), eT, recW_free hg ha (by rw [← eT]; omega) (by omega)]
        split <;> rfl
      refine txn_other ?_ ?_ ?_
      all_goals
        rw [hP, hz]
      · exact fun _ _ => one_zero _ _ _ _ _
      · exact fun _ _ => one_zero _ _ _ _ _
      · rfl
  · obtain ⟨k0, k1, k2, k3⟩ := (first_no (fun k => bit0 k || bit1 k) (((logM g a fill sizes 0 a.pos 0).getD m tz).images.length + 1)).resolve_left hW
    obtain ⟨f, e1, e2, e3⟩ := scan_B (g := g) (a := a) (b := a) (fill := fill) (sizes := sizes.take m) (ep := a.epoch) (p := saysX g (logM g a fill sizes 0 a.pos 0) ((logM g a fill sizes 0 a.pos 0).take m) a.epoch (cutC bit0 slot (((logM g a fill sizes 0 a.pos 0).getD m tz).images.length + 1))) (q := saysX g (logM g a fill sizes 0 a.pos 0) ((logM g a fill sizes 0 a.pos 0).take m) a.epoch (cutC bit1 slot (((logM g a fill sizes 0 a.pos 0).getD m tz).images.length + 1))) (b0 := fun s => cutC bit0 slot (((logM g a fill sizes 0 a.pos 0).getD m tz).images.length + 1) s || (whoM g s ((logM g a fill sizes 0 a.pos 0).take m) 0).isSome) (b1 := fun s => cutC bit1 slot (((logM g a fill sizes 0 a.pos 0).getD m tz).images.length + 1) s || (whoM g s ((logM g a fill sizes 0 a.pos 0).take m) 0).isSome) hg ha hs (by rw [List.length_take]; omega) rfl rfl (by rw [← eT]; exact allT)
    refine ⟨((logM g a fill sizes 0 a.pos 0).take m).flatMap (txWr g a.epoch (fun s => cutC bit0 slot (((logM g a fill sizes 0 a.pos 0).getD m tz).images.length + 1) s || (whoM g s ((logM g a fill sizes 0 a.pos 0).take m) 0).isSome) (fun s => cutC bit1 slot (((logM g a fill sizes 0 a.pos 0).getD m tz).images.length + 1) s || (whoM g s ((logM g a fill sizes 0 a.pos 0).take m) 0).isSome)), ?_⟩
    rw [← eT] at e1 e2 e3
    have hlm : ((logM g a fill sizes 0 a.pos 0).take m).length = m := by rw [List.length_take]; omega
    rw [hlm] at e3
    rw [if_neg hW, e3, scanLP_end]
    intro _
    rw [← hpm, ← hgm.1]
    refine txnP_fail (b0 := fun s => cutC bit0 slot (((logM g a fill sizes 0 a.pos 0).getD m tz).images.length + 1) s || (whoM g s ((logM g a fill sizes 0 a.pos 0).take m) 0).isSome) (b1 := fun s => cutC bit1 slot (((logM g a fill sizes 0 a.pos 0).getD m tz).images.length + 1) s || (whoM g s ((logM g a fill sizes 0 a.pos 0).take m) 0).isSome) (ep := a.epoch) (k0 := k0) ⟨.inl rfl, fun k hk => ⟨saysL bit0 k (by omega), saysL bit1 k (by omega), ?_⟩⟩ (by omega) (by omega) (by decide) ?_
    · dsimp only
      rw [whoL k (by omega), hslot k (by omega), cutC_at (by omega) hinj, cutC_at (by omega) hinj, Option.isSome_none, Bool.or_false, Bool.or_false]
      exact k3 k hk
    · intro of_
      rw [Bool.or_eq_false_iff] at k2
      unfold recP lookP
      dsimp only
      rw [sayL bit0 k0 k1, sayL bit1 k0 k1, k2.1, k2.2]
      simp only [Bool.false_eq_true, if_false, one_zero]
      rfl
end
end Go.Proofs.YteecmgonbdbhdaaDoor.A
end

/-
Package casematekeep: an anchor copied.
-/
section
namespace Go.Proofs.YteecmgonbdbhdaaDoor.A
open Go.RowKit

theorem twinints_fn (l : List Int) (hl : l.length ≤ 1000000) : Fn Tryd.prog 62 [iA l] fun r => r = iA l := by
  refine Fn.of tys_ok Tryd.func62 rfl rfl (Nat.le_of_ble_eq_true rfl) ?_
  conv => whnf
  refine ⟨by omega, ?_⟩
  conv => whnf
  refine ⟨by simp, ?_⟩
  conv => whnf
  exact ⟨iA l, fun c v h => Rd.congr rfl (fun i hi => getD_range hi) h, rfl⟩
theorem twinanchor_fn (a : An) (hh : a.homes.length ≤ 1000) (hp : ∀ h ∈ a.homes, h.places.length ≤ 1000000) : Fn Tryd.prog 40 [.ag (anC a)] fun r => r = .ag (anC a) := by
  refine Fn.of tys_ok Tryd.func40 rfl rfl (Nat.le_of_ble_eq_true rfl) ?_
  conv => whnf
  refine aLoop.rule Nat (fun k => ([(1, .bp 0 0), (2, .bp 1 0), (3, hmsA a.homes), (4, .v (.int .i64 k))], [.box 26 [.v (.int .i64 a.gen), .v (.int .i64 a.epoch), .v (.int .i64 a.pos), .v (.int .i64 a.seq), .v (.int .i64 a.last), .v (.string a.label), .ow 2 k], .box 26 [.v (.int .i64 0), .v (.int .i64 0), .v (.int .i64 0), .v (.int .i64 0), .v (.int .i64 0), .v (.string ⟨#[]⟩), .v (.slice none 0 0)], .row 91 3 ((a.homes.take k).map hmC)])) (fun k => k ≤ a.homes.length) (fun k => a.homes.length - k) 0 (Nat.zero_le _) ⟨[(1000006, 91, 3)], ⟨rfl, rfl, trivial⟩, ⟨rfl, rfl, rfl, rfl, trivial⟩, ⟨rfl, rfl, rfl, trivial⟩, rfl, rfl, rfl⟩ ?_
  intro k hk
  conv => whnf
  refine boolI (fun c1 => ?_) (fun c1 => ?_) <;> (repeat rw [Int.toNat_natCast] at c1) <;> conv => whnf
  · have ti := twinints_fn (a.homes.getD k ⟨[], 0, 0⟩).places (hp _ (getD_mem c1))
    refine aDraw.of tys_ok mixed [0, 1, 2, 3, 4, 5, 6, 8, 9, 10, 11, 12, 13, 14, 15, 16, 17, 7, 18, 19, 20, 21, 22] (by kernel_rfl) ?_
    conv => whnf
    repeat' (first | (refine aSeq.go ?_; conv => whnf) | (refine boolI (fun _ => ?_) (fun _ => ?_) <;> conv => whnf) | (refine Fn.closed (ti) rfl ?_; rintro _ rfl; conv => whnf) | (refine And.intro (by first | omega | exact of_decide_eq_true rfl) ?_; conv => whnf) | fail)
    refine And.intro ⟨by rw [List.length_map, List.length_take]; omega, by omega⟩ ?_
    conv => whnf
    exact ⟨k + 1, by omega, by omega, [], trivial, ⟨rfl, rfl, rfl, wsucc (by omega), trivial⟩, ⟨rfl, rfl, congrArg (AB.row _ _) (take_map_succ c1), trivial⟩, rfl, rfl, rfl⟩
  · refine And.intro (by rw [List.length_map, List.length_take]; omega) ?_
    conv => whnf
    have ek : k = a.homes.length := by omega
    subst ek
    refine ⟨.ag (anC a), ag_sub ⟨fun _ _ h => h, fun _ _ h => h, fun _ _ h => h, fun _ _ h => h, fun _ _ h => h, fun _ _ h => h, ?_, trivial⟩, rfl⟩
    rw [List.take_length]
    exact row_sub a.homes rfl rfl
end Go.Proofs.YteecmgonbdbhdaaDoor.A
end

/-
What the laws of scan have in common.
-/
section
namespace Go.Proofs.YteecmgonbdbhdaaDoor.A
open Go.RowKit

theorem anOk_parts {g : Geo} {a : An} (h : anOk g a = true) : (0 ≤ a.gen ∧ a.gen ≤ 4294967295) ∧ (0 ≤ a.epoch ∧ a.epoch ≤ 4294967295) ∧ (1 ≤ a.seq ∧ a.seq ≤ 4294967295) ∧ (0 ≤ a.last ∧ a.last ≤ 4294967295 ∧ a.seq - 1 ≤ a.last) ∧ (0 ≤ a.pos ∧ a.pos < g.sl) ∧ (a.homes.length : Int) = g.z ∧ ∀ x ∈ a.homes, hmOk g x = true := by
  simp only [anOk, List.all_cons, List.all_nil, Bool.and_eq_true, inB_iff, decide_eq_true_eq, List.all_eq_true] at h
  obtain ⟨⟨q1, q2, q3, q4, -⟩, q5, q6, q7, q8, q9, q10⟩ := h
  exact ⟨q1, q2, ⟨q5, q3.2⟩, ⟨q4.1, q4.2, q6⟩, ⟨q7.1, by omega⟩, q9, q10⟩
theorem anOk_places {g : Geo} {a : An} (hg : okG g = true) (h : anOk g a = true) : ∀ x ∈ a.homes, x.places.length ≤ 1000000 := by
  obtain ⟨h1, h2, h3, h4, h5⟩ := okG_iff.1 hg
  intro x hx
  have := (anOk_parts h).2.2.2.2.2.2 x hx
  simp only [hmOk, Bool.and_eq_true, decide_eq_true_eq] at this
  omega
theorem modU_var {x : Int} {n : Nat} (hn : n ≤ 1000000) : IntKind.i64.wrap ((IntKind.u64.wrap x).tmod (IntKind.u64.wrap (IntKind.i64.wrap ((n : Int) + 1)))) = modU x ((n : Int) + 1) := by
  rw [wi (n := (n : Int) + 1) (by omega), show IntKind.u64.wrap ((n : Int) + 1) = (n : Int) + 1 by rw [IntKind.wrap_u64]; omega]
  rfl
theorem uwrap_ne {n : Nat} (hn : n ≤ 1000000) : IntKind.u64.wrap (IntKind.i64.wrap ((n : Int) + 1)) ≠ 0 := by
  rw [wi (n := (n : Int) + 1) (by omega), IntKind.wrap_u64]
  omega
theorem anOk_last {g : Geo} {a : An} {n : Int} (h : anOk g a = true) (hn : a.seq - 1 ≤ n) (h2 : n ≤ 4294967295) : anOk g (lastA a n) = true := by
  have hp := anOk_parts h
  simp only [anOk, lastA, List.all_cons, List.all_nil, Bool.and_eq_true, inB_iff, decide_eq_true_eq] at h
  simp only [anOk, List.all_cons, List.all_nil, Bool.and_eq_true, inB_iff]
  obtain ⟨⟨q1, q2, q3, q4, q11⟩, q5, q6, q7, q8, q9, q10⟩ := h
  exact ⟨⟨q1, q2, q3, ⟨show 0 ≤ n by omega, h2⟩, q11⟩, decide_eq_true q5, decide_eq_true hn, q7, decide_eq_true q8, decide_eq_true q9, q10⟩
theorem take_sub (L : List Tx) (m : Nat) (hm : m ≤ L.length) {n : Nat} (hn : n = m) {get : Nat → List AV} (hget : ∀ i, i < m → get i = txC (L.getD i ⟨0, 0, 0, []⟩)) (c : Ctx) (u : Value) (h : Rd (.sl 4 n get) c u) : Rd (txsA (L.take m)) c u := by
  refine Rd.congr (by rw [List.length_take]; omega) (fun i hi => ?_) h
  rw [hget i (by omega)]
  congr 1
  rw [List.getD_eq_getElem?_getD, List.getD_eq_getElem?_getD, List.getElem?_take_of_lt (by omega)]
theorem scanA_P {g : Geo} {b : An} {x y : List Gt} {p q : Int → Option Rc} {r : List Tx × List Wr × Int} (hg : okG g = true) (hb : anOk g b = true) (hx : (x.length : Int) = g.sl) (hy : (y.length : Int) = g.sl) (hp : saysF g x 0 = p) (hq : saysF g y 1 = q) (h : scanP g b p q = r) : scanA g b x y = r := by
  unfold scanA
  rw [if_pos (by rw [hg, hb]; rfl), if_pos ⟨hx, hy⟩, scanM_P, hp, hq, h]
end Go.Proofs.YteecmgonbdbhdaaDoor.A
end

/-
The law ScanCut.
-/
section
namespace Go.Proofs.YteecmgonbdbhdaaDoor.A
open Go.RowKit

def kBit (kept : List Int) (k : Nat) : Int := if k < kept.length then modU (kept.getD k 0) 4 else 0
def kB0 (kept : List Int) (k : Nat) : Bool := decide ((kBit kept k).tmod 2 = 1)
def kB1 (kept : List Int) (k : Nat) : Bool := decide ((kBit kept k).tdiv 2 = 1)
def kW (kept : List Int) : Nat → Bool
  | 0 => true
  | k + 1 => kW kept k && decide (kBit kept k > 0)
theorem kBit_in (kept : List Int) (k : Nat) : 0 ≤ kBit kept k ∧ kBit kept k < 4 := by
  unfold kBit
  split
  · exact modU_in (by decide) (by decide)
  · omega
theorem kW_iff (kept : List Int) : ∀ n, kW kept n = true ↔ ∀ k, k < n → (kB0 kept k || kB1 kept k) = true
  | 0 => ⟨fun _ k hk => by omega, fun _ => rfl⟩
  | n + 1 => by
    have hb := kBit_in kept n
    have e : (kB0 kept n || kB1 kept n) = decide (kBit kept n > 0) := by
      unfold kB0 kB1
      rcases (show kBit kept n = 0 ∨ kBit kept n = 1 ∨ kBit kept n = 2 ∨ kBit kept n = 3 by omega) with h | h | h | h <;> rw [h] <;> decide
    simp only [kW, Bool.and_eq_true, kW_iff kept n]
    constructor
    · rintro ⟨h1, h2⟩ k hk
      by_cases ek : k = n
      · rw [ek, e, h2]
      · exact h1 k (by omega)
    · intro h
      exact ⟨fun k hk => h k (by omega), by rw [← e]; exact h n (by omega)⟩
def slC (g : Geo) (t : Tx) (k : Nat) : Nat := ((t.pos + (k : Nat)).tmod g.sl).toNat
set_option maxRecDepth 100000 in
theorem cut18_fn (g : Geo) (a : An) (sizes : List Int) (fill : UInt8) (kept : List Int) : Fn Tryd.prog 8 [.ag (geoC g), .ag (anC a), iA sizes, .v (.int .u8 fill.toNat), iA kept] fun r => r = .v (.bool true) := by
  have hw := wakes18_fn
  refine Fn.of tys_ok Tryd.func8 rfl rfl (Nat.le_of_ble_eq_true rfl) ?_
  conv => whnf
  refine Fn.closed (heavyA_fn a) rfl ?_
  rintro _ rfl
  conv => whnf
  refine boolI (fun t1 => ?_) (fun t1 => ?_) <;> (repeat rw [Int.toNat_natCast] at t1) <;> conv => whnf
  · exact ⟨_, fun _ _ h => h, rfl⟩
  obtain ⟨hh, hl⟩ := heavyA_no t1
  refine boolI (fun t2 => ?_) (fun t2 => ?_) <;> (repeat rw [Int.toNat_natCast] at t2) <;> conv => whnf
  · exact ⟨_, fun _ _ h => h, rfl⟩
  refine Fn.closed (rgeom_br g) rfl ?_
  rintro _ rfl
  conv => whnf
  refine boolI (fun t3 => ?_) (fun t3 => ?_) <;> (repeat rw [Int.toNat_natCast] at t3) <;> conv => whnf
  · exact ⟨_, fun _ _ h => h, rfl⟩
  refine Fn.closed (ranchor_fn g a t3 (by omega)) rfl ?_
  rintro _ rfl
  conv => whnf
  refine boolI (fun t4 => ?_) (fun t4 => ?_) <;> (repeat rw [Int.toNat_natCast] at t4) <;> conv => whnf
  · exact ⟨_, fun _ _ h => h, rfl⟩
  refine boolI (fun t5 => ?_) (fun t5 => ?_) <;> (repeat rw [Int.toNat_natCast] at t5) <;> conv => whnf
  · exact ⟨_, fun _ _ h => h, rfl⟩
  have lf := log_fn16 g a sizes fill t3 t4 (by omega) (by omega)
  obtain ⟨h1, h2, h3, h4, h5⟩ := okG_iff.1 t3
  have hq := anOk_seq t4
  have ap := anOk_parts t4
  have hlen := logM_len (g := g) (a := a) (fill := fill) sizes 0 a.pos 0 (by omega)
  have hOk := logM_ok (fill := fill) (sizes := sizes) (epoch := a.epoch) t3 t4 (by omega) (by omega)
  have hOk2 := fun m (hm : m ≤ (logM g a fill sizes 0 a.pos 0).length) => (show LogOk g ((logM g a fill sizes 0 a.pos 0).take m) a.epoch by rw [logM_take sizes 0 a.pos 0 m hm]; exact logM_ok (fill := fill) (sizes := sizes.take m) (epoch := a.epoch) t3 t4 (by omega) (by omega))
  have hS := fun m bit0 bit1 slot hm hslot => cut_scan (fill := fill) (sizes := sizes) (m := m) (bit0 := bit0) (bit1 := bit1) (slot := slot) t3 t4 (by omega) (by omega) hm hslot
  have hG := fun m (hm : m < (logM g a fill sizes 0 a.pos 0).length) => log_get (fill := fill) (sizes := sizes) t3 t4 hm
  have hR : ∀ m, m < (logM g a fill sizes 0 a.pos 0).length → 0 ≤ ((logM g a fill sizes 0 a.pos 0).getD m tz).pos ∧ ((logM g a fill sizes 0 a.pos 0).getD m tz).pos < g.sl := fun m hm => by
    obtain ⟨pos, n, e, -, -, p1, p2⟩ := (logM_in (a := a) (fill := fill) t3 sizes 0 a.pos 0 hq.2).at_ m hm
    rw [e]
    exact ⟨p1, p2⟩
  have hP := fun m (hm : m < (logM g a fill sizes 0 a.pos 0).length) (k : Nat) hk => (recW_at (ep := 0) (fill := fill) (sizes := sizes) t3 t4 hm (k := k) hk).1
  generalize logM g a fill sizes 0 a.pos 0 = L at lf hlen hOk hOk2 hS hG hP hR
  refine Fn.closed (lf) rfl ?_
  rintro _ rfl
  conv => whnf
  refine boolI (fun u1 => ?_) (fun u1 => ?_) <;> (repeat rw [Int.toNat_natCast] at u1) <;> conv => whnf
  · exact ⟨_, fun _ _ h => h, rfl⟩
  obtain ⟨m, em⟩ : ∃ m, L.length = m + 1 := ⟨L.length - 1, by omega⟩
  have w0 : IntKind.i64.wrap (IntKind.i64.wrap (a.seq + (L.length : Int)) - 2) = a.seq + m - 1 := by rw [wi (n := a.seq + (L.length : Int)) (by omega), wi (by omega)]; omega
  have w1 : IntKind.i64.wrap ((L.length : Int) - 1) = m := by rw [wi (by omega)]; omega
  rw [w0]
  refine boolI (fun u2 => ?_) (fun u2 => ?_) <;> (repeat rw [Int.toNat_natCast] at u2) <;> conv => whnf
  · exact ⟨_, fun _ _ h => h, rfl⟩
  rw [w1]
  conv => whnf
  refine ⟨by first | omega | (simp only [List.length_map]; omega) | exact ⟨rfl, by simp only [List.length_map]; omega, by omega⟩, ?_⟩
  conv => whnf
  have wf := written_fno g (L.take m) a.epoch t3 (hOk2 m (by omega))
  have wg := written_fno g L a.epoch t3 hOk
  refine aDraw.of tys_ok mixed [0, 1, 2, 3, 4, 5, 6, 7, 8, 9, 10, 11, 12, 13] (by kernel_rfl) ?_
  conv => whnf
  rw [w1]
  conv => whnf
  refine ⟨by first | omega | (simp only [List.length_map]; omega) | exact ⟨rfl, by simp only [List.length_map]; omega, by omega⟩, ?_⟩
  conv => whnf
  refine ACalls.sub [.ag (geoC g), txsA (L.take m), .v (.int .i64 a.epoch)] ?_ ?_
  · exact ⟨fun _ _ h => h, take_sub L m (by omega) (by omega) (fun i hi => rfl), fun _ _ h => h, trivial⟩
  refine FnO.call (wf) rfl ?_
  rintro _ _ ⟨rfl, rfl⟩
  conv => whnf
  refine FnO.call (wg) rfl ?_
  rintro _ _ ⟨rfl, rfl⟩
  conv => whnf
  have hgm := hG m (by omega)
  have hpm := hP m (by omega)
  have hrm := hR m (by omega)
  have hLlen : (L.take m).length = m := by rw [List.length_take]; omega
  have hT : L.getD m ⟨0, 0, 0, []⟩ = L.getD m tz := rfl
  obtain ⟨T, eT⟩ : ∃ T, T = L.getD m tz := ⟨_, rfl⟩
  rw [← eT] at hT hgm hpm hrm
  have hslot : ∀ k : Nat, k < T.images.length + 1 → slotM g T.pos k = (slC g T k : Nat) ∧ slC g T k < g.sl.toNat ∧ slotM g T.pos k = (IntKind.i64.wrap (T.pos + k)).tmod g.sl := fun k hk => by
    have hp0 := hpm 0 (by omega)
    have hk' := hpm k hk
    have hp1 : slotM g T.pos (k : Nat) = (T.pos + (k : Nat)).tmod g.sl := by
      unfold slotM
      rw [wi (by omega)]
    refine ⟨?_, ?_, rfl⟩
    · unfold slC
      rw [← hp1]
      omega
    · unfold slC
      rw [← hp1]
      omega
  have hX := written_len g (L.take m) a.epoch 0 g.sl.toNat
  have hY := written_len g (L.take m) a.epoch 1 g.sl.toNat
  have hU := written_len g L a.epoch 0 g.sl.toNat
  have hV := written_len g L a.epoch 1 g.sl.toNat
  have bX := written_short (hOk2 m (by omega)) 0
  have bY := written_short (hOk2 m (by omega)) 1
  have bU := written_short hOk 0
  have bV := written_short hOk 1
  have fX := saysF_W (copy := 0) t3 (hOk2 m (by omega)) (.inl rfl)
  have fY := saysF_W (copy := 1) t3 (hOk2 m (by omega)) (.inr rfl)
  have fU := saysF_W (copy := 0) t3 hOk (.inl rfl)
  have fV := saysF_W (copy := 1) t3 hOk (.inr rfl)
  generalize writtenM g (L.take m) a.epoch 0 g.sl.toNat = X at *
  generalize writtenM g (L.take m) a.epoch 1 g.sl.toNat = Y at *
  generalize writtenM g L a.epoch 0 g.sl.toNat = U at *
  generalize writtenM g L a.epoch 1 g.sl.toNat = V at *
  refine aLoop.rule Nat (fun k => ([(4, iA kept), (5, .bp 0 0), (6, .bp 1 0), (11, txsA L), (12, .bp 2 0), (13, .ow 3 g.sl.toNat), (14, .ow 4 g.sl.toNat), (15, .ow 5 g.sl.toNat), (16, .ow 6 g.sl.toNat), (17, .v (.bool (kW kept k))), (18, .v (.int .i64 k))], [.box 23 (geoC g), .box 26 (anC a), .box 84 (txC T), .row 30 2 ((cutL (kB0 kept) (slC g T) X U k).map gotC), .row 30 2 ((cutL (kB1 kept) (slC g T) Y V k).map gotC), .row 30 2 (U.map gotC), .row 30 2 (V.map gotC)]))
    (fun k => k ≤ T.images.length + 1) (fun k => T.images.length + 1 - k) 0 (Nat.zero_le _) ⟨[], trivial, ⟨rfl, rfl, rfl, rfl, rfl, rfl, rfl, rfl, rfl, rfl, rfl, trivial⟩, ⟨rfl, rfl, by rw [← hT]; rfl, rfl, rfl, rfl, rfl, trivial⟩, rfl, rfl, rfl⟩ ?_
  intro k hk
  conv => whnf
  refine boolI (fun c1 => ?_) (fun c1 => ?_) <;> (repeat rw [Int.toNat_natCast] at c1) <;> conv => whnf
  · obtain ⟨s1, s2, s3⟩ := hslot k (by rw [hgm.2.1] at c1; omega)
    refine aSeq.go ?_
    conv => whnf
    refine And.intro (by omega) ?_
    conv => whnf
    rw [← s3, s1]
    conv => whnf
    refine aSeq.cut Unit (fun _ => ([(4, iA kept), (5, .bp 0 0), (6, .bp 1 0), (11, txsA L), (12, .bp 2 0), (13, .ow 3 g.sl.toNat), (14, .ow 4 g.sl.toNat), (15, .ow 5 g.sl.toNat), (16, .ow 6 g.sl.toNat), (17, .v (.bool (kW kept k))), (18, .v (.int .i64 k)), (19, .v (.int .i64 (slC g T k : Nat))), (20, .v (.int .i64 (kBit kept k)))], [.box 23 (geoC g), .box 26 (anC a), .box 84 (txC T), .row 30 2 ((cutL (kB0 kept) (slC g T) X U k).map gotC), .row 30 2 ((cutL (kB1 kept) (slC g T) Y V k).map gotC), .row 30 2 (U.map gotC), .row 30 2 (V.map gotC)])) (fun _ => True) ?_ ?_
    · conv => whnf
      refine boolI (fun d1 => ?_) (fun d1 => ?_) <;> (repeat rw [Int.toNat_natCast] at d1) <;> conv => whnf
      · refine ⟨by first | omega | (simp only [List.length_map]; omega) | exact ⟨rfl, by simp only [List.length_map]; omega, by omega⟩, ?_⟩
        conv => whnf
        refine And.intro (by decide) ?_
        conv => whnf
        exact ⟨(), trivial, [], trivial, ⟨rfl, rfl, rfl, rfl, rfl, rfl, rfl, rfl, rfl, rfl, rfl, rfl, by unfold kBit; rw [if_pos (show k < kept.length by omega)]; rfl, trivial⟩, ⟨rfl, rfl, rfl, rfl, rfl, rfl, rfl, trivial⟩, rfl, rfl, rfl⟩
      · exact ⟨(), trivial, [], trivial, ⟨rfl, rfl, rfl, rfl, rfl, rfl, rfl, rfl, rfl, rfl, rfl, rfl, by unfold kBit; rw [if_neg (show ¬ k < kept.length by omega)]; rfl, trivial⟩, ⟨rfl, rfl, rfl, rfl, rfl, rfl, rfl, trivial⟩, rfl, rfl, rfl⟩
    · rintro ⟨⟩ -
      conv => whnf
      have gU : (U.map gotC).getD (Int.toNat (slC g T k : Nat)) [] = gotC (U.getD (slC g T k) gz) := by rw [Int.toNat_natCast]; exact map_getD (by omega)
      have gV : (V.map gotC).getD (Int.toNat (slC g T k : Nat)) [] = gotC (V.getD (slC g T k) gz) := by rw [Int.toNat_natCast]; exact map_getD (by omega)
      have gX : ((cutL (kB0 kept) (slC g T) X U k).map gotC).getD (Int.toNat (slC g T k : Nat)) [] = gotC ((cutL (kB0 kept) (slC g T) X U k).getD (slC g T k) gz) := by rw [Int.toNat_natCast]; exact map_getD (by rw [cutL_len]; omega)
      have gY : ((cutL (kB1 kept) (slC g T) Y V k).map gotC).getD (Int.toNat (slC g T k : Nat)) [] = gotC ((cutL (kB1 kept) (slC g T) Y V k).getD (slC g T k) gz) := by rw [Int.toNat_natCast]; exact map_getD (by rw [cutL_len]; omega)
      have hwd : IntKind.i64.wrap ((kBit kept k).tdiv 2) = (kBit kept k).tdiv 2 := by
        have hb := kBit_in kept k
        rcases (show kBit kept k = 0 ∨ kBit kept k = 1 ∨ kBit kept k = 2 ∨ kBit kept k = 3 by omega) with h | h | h | h <;> rw [h] <;> decide
      have lX : (cutL (kB0 kept) (slC g T) X U k).length = g.sl.toNat := by rw [cutL_len, hX]
      have lY : (cutL (kB1 kept) (slC g T) Y V k).length = g.sl.toNat := by rw [cutL_len, hY]
      refine aSeq.cut Unit (fun _ => ([(4, iA kept), (5, .bp 0 0), (6, .bp 1 0), (11, txsA L), (12, .bp 2 0), (13, .ow 3 g.sl.toNat), (14, .ow 4 g.sl.toNat), (15, .ow 5 g.sl.toNat), (16, .ow 6 g.sl.toNat), (17, .v (.bool (kW kept k))), (18, .v (.int .i64 k)), (19, .v (.int .i64 (slC g T k : Nat))), (20, .v (.int .i64 (kBit kept k)))], [.box 23 (geoC g), .box 26 (anC a), .box 84 (txC T), .row 30 2 ((cutL (kB0 kept) (slC g T) X U (k + 1)).map gotC), .row 30 2 ((cutL (kB1 kept) (slC g T) Y V k).map gotC), .row 30 2 (U.map gotC), .row 30 2 (V.map gotC)])) (fun _ => True) ?_ ?_
      · conv => whnf
        refine And.intro (by decide) ?_
        conv => whnf
        refine boolI (fun d2 => ?_) (fun d2 => ?_) <;> (repeat rw [Int.toNat_natCast] at d2) <;> conv => whnf
        · refine ⟨by first | omega | (simp only [List.length_map]; omega) | exact ⟨rfl, by simp only [List.length_map]; omega, by omega⟩, ?_⟩
          conv => whnf
          rw [gU]
          conv => whnf
          refine ⟨by first | omega | (simp only [List.length_map]; omega) | exact ⟨rfl, by simp only [List.length_map]; omega, by omega⟩, ?_⟩
          conv => whnf
          refine ⟨by first | omega | (simp only [List.length_map]; omega) | exact ⟨rfl, by simp only [List.length_map]; omega, by omega⟩, ?_⟩
          conv => whnf
          refine ⟨by first | omega | (simp only [List.length_map]; omega) | exact ⟨rfl, by simp only [List.length_map]; omega, by omega⟩, ?_⟩
          conv => whnf
          rw [gX]
          conv => whnf
          exact ⟨(), trivial, [], trivial, ⟨rfl, rfl, rfl, rfl, rfl, rfl, rfl, rfl, rfl, rfl, rfl, rfl, rfl, trivial⟩, ⟨rfl, rfl, rfl, by rw [cutL, if_pos (show kB0 kept k = true from decide_eq_true d2), List.map_set, Int.toNat_natCast]; rfl, rfl, rfl, rfl, trivial⟩, rfl, rfl, rfl⟩
        · exact ⟨(), trivial, [], trivial, ⟨rfl, rfl, rfl, rfl, rfl, rfl, rfl, rfl, rfl, rfl, rfl, rfl, rfl, trivial⟩, ⟨rfl, rfl, rfl, by rw [cutL, if_neg (by rw [kB0, decide_eq_true_eq]; exact d2)], rfl, rfl, rfl, trivial⟩, rfl, rfl, rfl⟩
      · rintro ⟨⟩ -
        conv => whnf
        refine aSeq.cut Unit (fun _ => ([(4, iA kept), (5, .bp 0 0), (6, .bp 1 0), (11, txsA L), (12, .bp 2 0), (13, .ow 3 g.sl.toNat), (14, .ow 4 g.sl.toNat), (15, .ow 5 g.sl.toNat), (16, .ow 6 g.sl.toNat), (17, .v (.bool (kW kept k))), (18, .v (.int .i64 k)), (19, .v (.int .i64 (slC g T k : Nat))), (20, .v (.int .i64 (kBit kept k)))], [.box 23 (geoC g), .box 26 (anC a), .box 84 (txC T), .row 30 2 ((cutL (kB0 kept) (slC g T) X U (k + 1)).map gotC), .row 30 2 ((cutL (kB1 kept) (slC g T) Y V (k + 1)).map gotC), .row 30 2 (U.map gotC), .row 30 2 (V.map gotC)])) (fun _ => True) ?_ ?_
        · conv => whnf
          refine And.intro (by decide) ?_
          conv => whnf
          rw [hwd]
          refine boolI (fun d3 => ?_) (fun d3 => ?_) <;> (repeat rw [Int.toNat_natCast] at d3) <;> conv => whnf
          · refine ⟨by first | omega | (simp only [List.length_map]; omega) | exact ⟨rfl, by simp only [List.length_map]; omega, by omega⟩, ?_⟩
            conv => whnf
            rw [gV]
            conv => whnf
            refine ⟨by first | omega | (simp only [List.length_map]; omega) | exact ⟨rfl, by simp only [List.length_map]; omega, by omega⟩, ?_⟩
            conv => whnf
            refine ⟨by first | omega | (simp only [List.length_map]; omega) | exact ⟨rfl, by simp only [List.length_map]; omega, by omega⟩, ?_⟩
            conv => whnf
            refine ⟨by first | omega | (simp only [List.length_map]; omega) | exact ⟨rfl, by simp only [List.length_map]; omega, by omega⟩, ?_⟩
            conv => whnf
            rw [gY]
            conv => whnf
            exact ⟨(), trivial, [], trivial, ⟨rfl, rfl, rfl, rfl, rfl, rfl, rfl, rfl, rfl, rfl, rfl, rfl, rfl, trivial⟩, ⟨rfl, rfl, rfl, rfl, by rw [cutL, if_pos (show kB1 kept k = true from decide_eq_true d3), List.map_set, Int.toNat_natCast]; rfl, rfl, rfl, trivial⟩, rfl, rfl, rfl⟩
          · exact ⟨(), trivial, [], trivial, ⟨rfl, rfl, rfl, rfl, rfl, rfl, rfl, rfl, rfl, rfl, rfl, rfl, rfl, trivial⟩, ⟨rfl, rfl, rfl, rfl, by rw [cutL, if_neg (by rw [kB1, decide_eq_true_eq]; exact d3)], rfl, rfl, trivial⟩, rfl, rfl, rfl⟩
        · rintro ⟨⟩ -
          conv => whnf
          refine boolI (fun e1 => ?_) (fun e1 => ?_) <;> (repeat rw [Int.toNat_natCast] at e1) <;> conv => whnf
          · exact ⟨k + 1, by rw [hgm.2.1] at c1; omega, by rw [hgm.2.1] at c1; omega, [], trivial, ⟨rfl, rfl, rfl, rfl, rfl, rfl, rfl, rfl, rfl, by rw [kW, e1]; rfl, wsucc (by omega), trivial⟩, ⟨rfl, rfl, rfl, rfl, rfl, rfl, rfl, trivial⟩, rfl, rfl, rfl⟩
          · exact ⟨k + 1, by rw [hgm.2.1] at c1; omega, by rw [hgm.2.1] at c1; omega, [], trivial, ⟨rfl, rfl, rfl, rfl, rfl, rfl, rfl, rfl, rfl, by rw [kW, e1]; rfl, wsucc (by omega), trivial⟩, ⟨rfl, rfl, rfl, rfl, rfl, rfl, rfl, trivial⟩, rfl, rfl, rfl⟩
  · have ek : k = T.images.length + 1 := by rw [hgm.2.1] at c1; omega
    subst ek
    rw [w1]
    conv => whnf
    refine ⟨by first | omega | (simp only [List.length_map]; omega) | exact ⟨rfl, by simp only [List.length_map]; omega, by omega⟩, ?_⟩
    conv => whnf
    have lX : ((cutL (kB0 kept) (slC g T) X U (T.images.length + 1)).length : Int) = g.sl := by rw [cutL_len]; omega
    have lY : ((cutL (kB1 kept) (slC g T) Y V (T.images.length + 1)).length : Int) = g.sl := by rw [cutL_len]; omega
    have fX1 := saysF_cut (bit := kB0 kept) (slot := slC g T) fX fU (by omega) (T.images.length + 1) fun i hi => by rw [hX]; exact (hslot i hi).2.1
    have fY1 := saysF_cut (bit := kB1 kept) (slot := slC g T) fY fV (by omega) (T.images.length + 1) fun i hi => by rw [hY]; exact (hslot i hi).2.1
    have mX := cutL_mem (bit := kB0 kept) (slot := slC g T) bX bU (T.images.length + 1) fun i hi => by rw [hU]; exact (hslot i hi).2.1
    have mY := cutL_mem (bit := kB1 kept) (slot := slC g T) bY bV (T.images.length + 1) fun i hi => by rw [hV]; exact (hslot i hi).2.1
    generalize cutL (kB0 kept) (slC g T) X U (T.images.length + 1) = X1 at *
    generalize cutL (kB1 kept) (slC g T) Y V (T.images.length + 1) = Y1 at *
    rw [eT] at hslot
    obtain ⟨w, vS⟩ := hS m (kB0 kept) (kB1 kept) (slC g (L.getD m tz)) em (fun i hi => (hslot i hi).1)
    rw [← eT] at vS
    have sc := scan_fn g a X1 Y1 (by omega) (by omega) mX mY
    have tx0 := txns_fn L L (by omega) (fun t ht => by have := hOk.img t ht; exact ⟨by omega, fun x hx => by have := this.2 x hx; omega⟩)
    have tx1 := txns_fn (L.take m) (L.take m) (by omega) (fun t ht => by have := hOk.img t (List.mem_of_mem_take ht); exact ⟨by omega, fun x hx => by have := this.2 x hx; omega⟩)
    rw [decide_eq_true rfl] at tx0 tx1
    cases hW : kW kept (T.images.length + 1) with
    | true =>
      rw [if_pos ((kW_iff kept _).1 hW), finM_neg (by omega)] at vS
      rw [scanA_P t3 t4 lX lY fX1 fY1 vS] at sc
      dsimp only at sc
      conv => whnf
      refine aSeq.go ?_
      conv => whnf
      refine ACalls.shut (sc).go ?_
      conv => whnf
      repeat' (refine And.intro (by first | rfl | omega | (simp; done) | (simp only [List.length_map]; omega)) ?_; conv => whnf)
      refine ACalls.sub _ ?_ (Fn.closed (sc) rfl ?_)
      · repeat' (first | exact trivial | exact fun _ _ h => h | exact nil_sl _ _ | exact row_sub X1 (by omega) rfl | exact row_sub Y1 (by omega) rfl | refine And.intro ?_ ?_ | refine ag_sub ?_)
      rintro _ rfl
      conv => whnf
      repeat' (first | (refine aSeq.go ?_; conv => whnf) | (refine boolI (fun _ => ?_) (fun _ => ?_) <;> conv => whnf) | (refine Fn.closed (tx0) rfl ?_; rintro _ rfl; conv => whnf) | (refine Fn.closed (hw) rfl ?_; rintro _ rfl; conv => whnf) | (refine And.intro (by first | omega | exact of_decide_eq_true rfl) ?_; conv => whnf) | fail)
      exact ⟨_, fun _ _ h => h, rfl⟩
    | false =>
      rw [if_neg (fun h => by rw [(kW_iff kept _).2 h] at hW; cases hW), finM_neg (by omega)] at vS
      rw [scanA_P t3 t4 lX lY fX1 fY1 vS] at sc
      dsimp only at sc
      conv => whnf
      refine aSeq.go ?_
      conv => whnf
      refine ACalls.shut (sc).go ?_
      conv => whnf
      repeat' (refine And.intro (by first | rfl | omega | (simp; done) | (simp only [List.length_map]; omega)) ?_; conv => whnf)
      refine ACalls.sub _ ?_ (Fn.closed (sc) rfl ?_)
      · repeat' (first | exact trivial | exact fun _ _ h => h | exact nil_sl _ _ | exact row_sub X1 (by omega) rfl | exact row_sub Y1 (by omega) rfl | refine And.intro ?_ ?_ | refine ag_sub ?_)
      rintro _ rfl
      conv => whnf
      refine ACalls.sub _ ?_ (Fn.closed (tx1) rfl ?_)
      · repeat' (first | exact trivial | exact fun _ _ h => h | exact nil_sl _ _ | exact take_sub L m (by omega) (by omega) (fun i hi => rfl) | refine And.intro ?_ ?_ | refine ag_sub ?_)
      rintro _ rfl
      conv => whnf
      repeat' (first | (refine aSeq.go ?_; conv => whnf) | (refine boolI (fun _ => ?_) (fun _ => ?_) <;> conv => whnf) | (refine Fn.closed (hw) rfl ?_; rintro _ rfl; conv => whnf) | (refine And.intro (by first | omega | exact of_decide_eq_true rfl) ?_; conv => whnf) | fail)
      exact ⟨_, fun _ _ h => h, rfl⟩
end Go.Proofs.YteecmgonbdbhdaaDoor.A
end
