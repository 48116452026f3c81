/-
lock.opened: a lock in its place.
-/
import Derived.Test.YtombdkdidnoomaaLTwn
import Derived.Test.YtombdkdidnoomaaLIns
import Derived.Test.YtombdkdidnoomaaLCheck
namespace Go.Proofs.Ytombdkdidnoomaa
open Go.RowKit
attribute [local go_sem ↓] Go.wp_at_zero Go.wp_at_succ

def Apart (r s : Value) : Prop := ∀ b, r.ownBlock = some b → s.ownBlock ≠ some b
/-- As DL, told by lists. -/
def DQ (w : World) (base : Nat) (v : Value) (l : List Lk) (vs : List Value) : Prop :=
  vs.length = l.length ∧ w.ownsRow base 39 3 v l.length (cellsL l vs) ∧ (∀ p ∈ l.zip vs, OwR w noM base 3 p.2 p.1.reads) ∧ vs.Pairwise Apart
theorem DQ.of {w : World} {M : Ms} {base : Nat} {v : Value} {l : List Lk} {vs : List Value} (h : DL w M base v l l.length vs) : DQ w base v l vs := by
  obtain ⟨h1, h2, h3, h4⟩ := h
  refine ⟨h1, h2, fun p hp => ?_, List.pairwise_iff_getElem.2 fun i j hi hj hij b hb => h4 i j _ _ b (by omega) (by omega) (by omega) (List.getElem?_eq_getElem hi) (List.getElem?_eq_getElem hj) hb⟩
  obtain ⟨j, hj, rfl⟩ := List.getElem_of_mem hp
  rw [List.length_zip] at hj
  rw [List.getElem_zip]
  exact (h3 j _ _ (List.getElem?_eq_getElem (by omega)) (List.getElem?_eq_getElem (by omega))).1 (by omega)
theorem DQ.to {w : World} {M : Ms} {base : Nat} {v : Value} {l : List Lk} {vs : List Value} (h : DQ w base v l vs) : DL w M base v l l.length vs := by
  obtain ⟨h1, h2, h3, h4⟩ := h
  refine ⟨h1, h2, fun j x r hx hr => ⟨fun hj => ?_, fun hj => absurd (List.getElem?_eq_some_iff.1 hx).1 (by omega)⟩, fun i j r s b hi hj hij hr hs hrb hsb => ?_⟩
  · refine h3 (x, r) ?_
    have hz : (l.zip vs)[j]? = some (x, r) := by rw [List.getElem?_zip_eq_some]; exact ⟨hx, hr⟩
    exact List.mem_of_getElem? hz
  · obtain ⟨hi', rfl⟩ := List.getElem?_eq_some_iff.1 hr
    obtain ⟨hj', rfl⟩ := List.getElem?_eq_some_iff.1 hs
    rcases Nat.lt_or_gt_of_ne hij with hlt | hlt
    · exact List.pairwise_iff_getElem.1 h4 i j hi' hj' hlt b hrb hsb
    · exact List.pairwise_iff_getElem.1 h4 j i hj' hi' hlt b hsb hrb
theorem DQ.one {w : World} {base : Nat} {v : Value} {l : List Lk} {vs : List Value} (h : DQ w base v l vs) : ∀ u ∈ cellsL l vs, u.oneCell' = true := cl_one fun r hr => by
  obtain ⟨j, hj, rfl⟩ := List.getElem_of_mem hr
  have hjl : j < l.length := by rw [← h.1]; exact hj
  have hz : (l.zip vs)[j]? = some (l[j], vs[j]) := by rw [List.getElem?_zip_eq_some]; exact ⟨List.getElem?_eq_getElem hjl, List.getElem?_eq_getElem hj⟩
  obtain ⟨A, C, e⟩ := (h.2.2.1 _ (List.mem_of_getElem? hz)).form
  simp only at e
  rw [e]; rfl
theorem ownsRow_ne {w : World} {base base' n n' sz sz' : Nat} {e e' : TypeId} {v v' : Value} {xs xs' : List Value} (h : w.ownsRow base e sz v n xs) (h' : w.ownsRow base' e' sz' v' n' xs') (hne : e ≠ e') : v.ownBlock = none ∨ v.ownBlock ≠ v'.ownBlock := by
  rcases h.2 with ⟨rfl, _⟩ | ⟨g, _, cur, rfl, _, hg, _⟩
  · left; rfl
  · right
    rcases h'.2 with ⟨rfl, _⟩ | ⟨g', _, cur', rfl, _, hg', _⟩
    · simp [Value.ownBlock]
    · intro e1
      have e2 : g = g' := by simpa [Value.ownBlock] using e1
      subst e2
      rw [hg] at hg'
      injection hg' with hg'
      injection hg' with _ ht
      exact hne ht
/-- A lock that nobody has is put in. -/
theorem DQ.ins {w w' : World} {base i : Nat} {v v' : Value} {l : List Lk} {vs : List Value} {x : Lk} (h : DQ w base v l vs) (hi : i ≤ l.length) (hx : x.reads = [])
    (hrow : w'.ownsRow base 39 3 v' (l.length + 1) ((cellsL l vs).take (i * 3) ++ [.int .i64 x.lba, .slice none 0 0, .int .i64 x.writer] ++ (cellsL l vs).drop (i * 3))) (hg : w.grownBy w' v.ownBlock) :
    DQ w' base v' (l.take i ++ [x] ++ l.drop i) (vs.take i ++ [.slice none 0 0] ++ vs.drop i) := by
  obtain ⟨h1, h2, h3, h4⟩ := h
  have e1 : (vs.take i).length = (l.take i).length := by simp [h1]
  have hk : ∀ p ∈ l.zip vs, OwR w' noM base 3 p.2 p.1.reads := fun p hp => by
    have ho := h3 p hp
    obtain ⟨xs, ho1, _⟩ := id ho
    rcases ownsRow_ne ho1 h2 (by decide) with e | e
    · exact OwR.ints (M := fun b => some b = v.ownBlock) ((OwR.ints ho).kept hg (.inl e) fun b e => e.symm)
    · exact OwR.ints (M := fun b => some b = v.ownBlock) ((OwR.ints ho).kept hg (.inr e) fun b e => e.symm)
  refine ⟨by simp [h1], ?_, fun p hp => ?_, ?_⟩
  · have e2 : cellsL (l.take i ++ [x] ++ l.drop i) (vs.take i ++ [.slice none 0 0] ++ vs.drop i) = (cellsL l vs).take (i * 3) ++ [.int .i64 x.lba, .slice none 0 0, .int .i64 x.writer] ++ (cellsL l vs).drop (i * 3) := by
      rw [List.append_assoc, List.append_assoc, cl_append e1, cl_append (by simp), cl_take, cl_drop, List.append_assoc]
      rfl
    rw [e2]
    have : (l.take i ++ [x] ++ l.drop i).length = l.length + 1 := by simp; omega
    rw [this]
    exact hrow
  · rw [List.zip_append (by simp [h1]), List.zip_append (by simp [h1])] at hp
    simp only [List.mem_append] at hp
    rcases hp with (hp | hp) | hp
    · have e : (l.take i).zip (vs.take i) = (l.zip vs).take i := by simp [List.zip, List.take_zipWith]
      rw [e] at hp; exact hk p (List.mem_of_mem_take hp)
    · simp at hp
      subst hp
      simp only [hx]
      exact OwR.nil _ _ _ _
    · have e : (l.drop i).zip (vs.drop i) = (l.zip vs).drop i := by simp [List.zip, List.drop_zipWith]
      rw [e] at hp; exact hk p (List.mem_of_mem_drop hp)
  · rw [List.append_assoc]
    refine List.pairwise_append.2 ⟨h4.sublist (List.take_sublist _ _), List.pairwise_append.2 ⟨List.pairwise_singleton _ _, h4.sublist (List.drop_sublist _ _), fun a ha b hb c hc => ?_⟩, fun a ha b hb => ?_⟩
    · simp at ha; subst ha; simp [Value.ownBlock] at hc
    · rcases List.mem_append.1 hb with hb | hb
      · simp at hb; subst hb
        intro c _; simp [Value.ownBlock]
      · have hs := h4
        rw [← List.take_append_drop i vs] at hs
        exact (List.pairwise_append.1 hs).2.2 a ha b hb

theorem DQ.grow {w w' : World} {base : Nat} {v : Value} {l : List Lk} {vs : List Value} (h : DQ w base v l vs) (hb : Below w.heap.size w w') : DQ w' base v l vs :=
  ⟨h.1, h.2.1.kept (row := none) ⟨hb.os, hb.tape, hb.output, hb.size, fun i hi _ => hb.block i hi⟩ (by cases v.ownBlock <;> simp), fun p hp => (h.2.2.1 p hp).below hb, h.2.2.2⟩
theorem DeepL.below {w w' : World} {base : Nat} {v : Value} {l : List Lk} (h : DeepL w base v l) (hb : Below w.heap.size w w') : DeepL w' base v l := let ⟨vs, h⟩ := h; ⟨vs, ((DQ.of h).grow hb).to⟩
theorem DeepL.own_ge {w : World} {base g : Nat} {v : Value} {l : List Lk} (h : DeepL w base v l) (hg : v.ownBlock = some g) : base ≤ g ∧ g < w.heap.size := let ⟨_, h⟩ := h; h.2.1.lt g hg
/-- The locks with one of a block among them. -/
def nxtL (l : List Lk) (t : Int) : List Lk := if atB l t = true then l else l.take (atN l t) ++ [⟨t, [], -1⟩] ++ l.drop (atN l t)
theorem atN_le (l : List Lk) (t : Int) : atN l t ≤ l.length := by have := lb_le (l.map Lk.lba) t; simpa [atN] using this

set_option maxHeartbeats 4000000 in
theorem opn_full (v : Value) (l : List Lk) (x : Int) (w : World) (M : Ms) (h : SlR w M v l) (hr : ris (l.map Lk.lba) = true) (hbd : BdL l) (hx0 : 0 ≤ x) (hx1 : x ≤ mI) (hl : l.length ≤ 1000000) (hb : ∀ x ∈ l, x.reads.length ≤ 1000000000)
    (hA : atB l x = false) (hf : 64 ≤ l.length) :
    Calls Try.prog 22 #[v, .int .i64 x] w fun e w' => e = .returned (.tuple #[.slice none 0 0, .int .i64 0, .bool false]) ∧ Below w.heap.size w w' := by
  have hc := Lib.hid (twn_any v l w M h hl hb)
  obtain ⟨a, c, rfl⟩ := h.form
  have H := Lib.hid (And.intro hr hbd)
  have HA := Lib.hid hA
  clear h hr hbd hb hA
  go_enter Try.func22, Try.ntmps22
  go_wp2_with fail
  refine hc.out.mono ?_
  rintro e w1 ⟨r1, rfl, hD, hB⟩
  obtain ⟨A1, c1, rfl⟩ := hD.form
  have hc2 := Lib.hid (at_any _ l x w1 noM (hD.sl fun _ _ h => h) H.out.1 H.out.2 hx0 hx1 (by omega))
  rw [HA.out] at hc2
  have HB := Lib.hid hB
  have hf' : (64 : Int) ≤ l.length := by omega
  clear hc hD hB
  go_wp2_with (go_at_call 40; go_must (refine hc2.out.mono ?_); rintro e w2 ⟨rfl, hB2⟩)
  go_ret3
  exact ⟨rfl, HB.out.trans (hB2.mono HB.out.size)⟩

set_option maxHeartbeats 4000000 in
theorem opn_any (v : Value) (l : List Lk) (x : Int) (w : World) (M : Ms) (h : SlR w M v l) (hr : ris (l.map Lk.lba) = true) (hbd : BdL l) (hx0 : 0 ≤ x) (hx1 : x ≤ mI) (hl : l.length ≤ 1000000) (hb : ∀ x ∈ l, x.reads.length ≤ 1000000000)
    (hf : atB l x = true ∨ l.length < 64) :
    Calls Try.prog 22 #[v, .int .i64 x] w fun e w' => ∃ r, e = .returned (.tuple #[r, .int .i64 (atN l x : Nat), .bool true]) ∧ DeepL w' w.heap.size r (nxtL l x) ∧ Below w.heap.size w w' := by
  have hc := Lib.hid (twn_any v l w M h hl hb)
  obtain ⟨a, c, rfl⟩ := h.form
  have H := Lib.hid (And.intro hr hbd)
  have hN := Lib.hid (atN_le l x)
  clear h hr hbd hb
  cases hA : atB l x with
  | true =>
    have hE := Lib.hid (show nxtL l x = l by simp [nxtL, hA])
    have HA := Lib.hid hA
    clear hA hf
    rw [hE.out]
    go_enter Try.func22, Try.ntmps22
    go_wp2_with fail
    refine hc.out.mono ?_
    rintro e w1 ⟨r1, rfl, hD, hB⟩
    obtain ⟨A1, c1, rfl⟩ := hD.form
    have hc2 := Lib.hid (at_any _ l x w1 noM (hD.sl fun _ _ h => h) H.out.1 H.out.2 hx0 hx1 (by omega))
    rw [HA.out] at hc2
    have HB := Lib.hid hB
    have HD := Lib.hid hD
    clear hc hD hB
    go_wp2_with (go_at_call 40; go_must (refine hc2.out.mono ?_); rintro e w2 ⟨rfl, hB2⟩)
    go_ret3
    exact ⟨_, rfl, HD.out.below hB2, HB.out.trans (hB2.mono HB.out.size)⟩
  | false =>
    have hE := Lib.hid (show nxtL l x = l.take (atN l x) ++ [⟨x, [], -1⟩] ++ l.drop (atN l x) by simp [nxtL, hA])
    have HA := Lib.hid hA
    have hf' : ¬ (64 : Int) ≤ l.length := by rcases hf with h | h
                                             · rw [hA] at h; cases h
                                             · omega
    clear hA hf
    rw [hE.out]
    go_enter Try.func22, Try.ntmps22
    go_wp2_with fail
    refine hc.out.mono ?_
    rintro e w1 ⟨r1, rfl, hD, hB⟩
    obtain ⟨A1, c1, rfl⟩ := hD.form
    have hc2 := Lib.hid (at_any _ l x w1 noM (hD.sl fun _ _ h => h) H.out.1 H.out.2 hx0 hx1 (by omega))
    rw [HA.out] at hc2
    have HB := Lib.hid hB
    have HD := Lib.hid hD
    clear hc hD hB
    go_wp2_with (go_at_call 40; go_must (refine hc2.out.mono ?_); rintro e w2 ⟨rfl, hB2⟩)
    have hB3 := hB2.alloc hB2.size (.cells #[.int .i64 x, .slice none 0 0, .int .i64 (-1)] 39)
    have hblk := Blk.new w2 39 #[.int .i64 x, .slice none 0 0, .int .i64 (-1)]
    obtain ⟨vs, hDv⟩ := HD.out
    have hQ := (DQ.of hDv).grow hB3
    have HQ := Lib.hid hQ
    have HB3 := Lib.hid (HB.out.trans (hB3.mono HB.out.size))
    have hge := Lib.hid (show ∀ g, (Value.slice A1 l.length c1).ownBlock = some g → w.heap.size ≤ g ∧ g < w1.heap.size from fun g hg => HD.out.own_ge hg)
    have hc3 := Lib.hid (insL_any (.slice A1 l.length c1) l.length (atN l x) (cellsL l vs) [.int .i64 x, .slice none 0 0, .int .i64 (-1)] w2.heap.size w.heap.size _ hQ.2.1 hblk rfl hQ.one
      (by intro u hu; simp at hu; rcases hu with rfl | rfl | rfl <;> rfl) (fun e => by have := (hge.out _ e).2; have := hB2.size; omega) hN.out hl HB3.out.size)
    clear hB2 hB3 hblk hQ hDv
    refine hc3.out.mono ?_
    rintro e w3 ⟨v3, rfl, hrow, hg, hat⟩
    have hQ3 := Lib.hid (HQ.out.ins (x := ⟨x, [], -1⟩) hN.out rfl hrow hg)
    have HB4 := Lib.hid (HB3.out.grown hg HB3.out.size (fun b e => (hge.out b e).1))
    have hform := Lib.hid hrow
    clear hrow hg hat hc3
    go_wp2
    go_ret3
    exact ⟨_, rfl, ⟨_, hQ3.out.to⟩, HB4.out⟩
end Go.Proofs.Ytombdkdidnoomaa
