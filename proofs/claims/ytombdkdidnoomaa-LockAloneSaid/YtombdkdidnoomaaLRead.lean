/-
lock.Read.
-/
import Derived.Test.YtombdkdidnoomaaLOpn
import Derived.Test.YtombdkdidnoomaaLIns2
namespace Go.Proofs.Ytombdkdidnoomaa
open Go.RowKit
attribute [local go_sem ↓] Go.wp_at_zero Go.wp_at_succ

def insI (l : List Int) (x : Int) : List Int := l.take (lb l x) ++ [x] ++ l.drop (lb l x)
def lk0 : Lk := ⟨0, [], 0⟩
/-- Somebody reads the i-th one. -/
def readR (n : List Lk) (i : Nat) (id : Int) : List Lk × Int :=
  if (n.getD i lk0).writer ≠ -1 ∧ (n.getD i lk0).writer ≠ id then ([], 22)
  else if (n.getD i lk0).writer = id ∨ hasI (n.getD i lk0).reads id = true then (n, 0)
  else if 8 ≤ (n.getD i lk0).reads.length then ([], 2)
  else (n.set i { n.getD i lk0 with reads := insI (n.getD i lk0).reads id }, 0)
theorem getD_lk {n : List Lk} {i : Nat} (h : i < n.length) : n.getD i lk0 = n[i] := by simp [List.getD_eq_getElem?_getD, List.getElem?_eq_getElem h]
/-- Somebody reads a block. -/
def readL (l : List Lk) (id lba : Int) : List Lk × Int :=
  if okL l = false ∨ id < 0 ∨ lba < 0 then ([], 1)
  else if atB l lba = false ∧ 64 ≤ l.length then ([], 2)
  else readR (nxtL l lba) (atN l lba) id

theorem DL.upd {w w2 : World} {base g n c j : Nat} {r r' : Value} {l : List Lk} {vs : List Value} {m : List Int} (h : DL w (fun _ => True) base (.slice (some ⟨g, 0, none⟩) n c) l l.length vs) (hj : j < l.length) (hv : vs[j]? = some r)
    (hg : w.grownBy w2 r.ownBlock) (ho : OwR w2 noM base 3 r' m) (hat : ∀ b, r'.ownBlock = some b → r.ownBlock = some b ∨ w.heap.size ≤ b) :
    DL (w2.setCell ⟨g, j * 3 + 1, none⟩ r') (fun _ => True) base (.slice (some ⟨g, 0, none⟩) n c) (l.set j { l[j] with reads := m }) (l.set j { l[j] with reads := m }).length (vs.set j r') := by
  have hrow_ne : ∀ (i b : Nat) (s : Value), i < l.length → vs[i]? = some s → s.ownBlock = some b → b ≠ g := fun i b s hi hs e e2 => by
    have := h.row_ne hi hs e
    exact this (by rw [e2]; rfl)
  obtain ⟨hl, hrow, hel, hdis⟩ := h
  have hgw : g < w.heap.size := (hrow.lt g rfl).2
  have hn : n = l.length := by
    rcases hrow.2 with ⟨e, _⟩ | ⟨g', cap, cur, e, _⟩ <;> cases e; rfl
  subst hn
  have hrow2 := hrow.kept hg (.inr fun e => hrow_ne j g r hj hv e.symm rfl)
  have hset := ownsRow_set hrow2 (p := j * 3 + 1) r'
  rw [cl_setR] at hset
  have hkeep : w2.grownBy (w2.setCell ⟨g, j * 3 + 1, none⟩ r') (some g) := ⟨rfl, rfl, rfl, by simp, fun i _ hne => Below.heap_setCell _ _ _ _ (fun e => hne (by rw [e]))⟩
  have hr'g : r'.ownBlock ≠ some g := fun e => by
    rcases hat g e with h1 | h1
    · exact hrow_ne j g r hj hv h1 rfl
    · omega
  have hjv : j < vs.length := by omega
  rw [List.length_set]
  refine ⟨by rw [List.length_set, List.length_set]; exact hl, by rw [List.length_set, cl_reads m (List.getElem?_eq_getElem hj)]; exact hset, fun i x s hx hs => ?_, fun i i' s s' b hi hi' hne hs hs' hsb => ?_⟩
  · by_cases hij : i = j
    · subst hij
      rw [List.getElem?_set_self hjv] at hs
      rw [List.getElem?_set_self hj] at hx
      injection hs with hs; injection hx with hx
      subst hs hx
      exact ⟨fun _ => ho.kept' hkeep hr'g, fun h' => absurd h' (by omega)⟩
    · rw [List.getElem?_set_ne (Ne.symm hij)] at hs hx
      refine ⟨fun hi => ?_, fun h' => absurd (List.getElem?_eq_some_iff.1 hx).1 (by omega)⟩
      have h1 := (hel i x s hx hs).1 hi
      have h2 : OwR w2 noM base 3 s x.reads := by
        by_cases e : s.ownBlock = none
        · exact OwR.ints (M := fun b => some b = r.ownBlock) ((OwR.ints h1).kept hg (.inl e) fun b e => e.symm)
        · refine OwR.ints (M := fun b => some b = r.ownBlock) ((OwR.ints h1).kept hg (.inr fun e2 => ?_) fun b e => e.symm)
          cases hsb : s.ownBlock with
          | none => exact e hsb
          | some b => exact hdis i j s r b hi hj hij hs hv hsb (by rw [← e2]; exact hsb)
      exact h2.kept' hkeep (fun e => hrow_ne i g s hi hs e rfl)
  · by_cases e1 : i = j
    · subst e1
      rw [List.getElem?_set_self hjv] at hs
      rw [List.getElem?_set_ne hne] at hs'
      injection hs with hs
      subst hs
      intro hb'
      rcases hat b hsb with h1 | h1
      · exact hdis i i' r s' b hi hi' hne hv hs' h1 hb'
      · have := ((hel i' l[i'] s' (List.getElem?_eq_getElem hi') hs').1 hi').own_lt hb'; omega
    · rw [List.getElem?_set_ne (Ne.symm e1)] at hs
      by_cases e2 : i' = j
      · subst e2
        rw [List.getElem?_set_self hjv] at hs'
        injection hs' with hs'
        subst hs'
        intro hb'
        rcases hat b hb' with h1 | h1
        · exact hdis i' i r s b hi' hi (Ne.symm hne) hv hs h1 hsb
        · have := ((hel i l[i] s (List.getElem?_eq_getElem hi) hs).1 hi).own_lt hsb; omega
      · rw [List.getElem?_set_ne (Ne.symm e2)] at hs'
        exact hdis i i' s s' b hi hi' hne hs hs' hsb
theorem belowN (w : World) (q : Nat) : Below w.heap.size w (w.drewN q) := ⟨rfl, rfl, rfl, Nat.le_refl _, fun _ _ => rfl⟩
theorem grown_of_below {w w' : World} {row : Option Nat} (hb : Below w.heap.size w w') : w.grownBy w' row := ⟨hb.os, hb.tape, hb.output, hb.size, fun i hi _ => hb.block i hi⟩
theorem ints_cells {w : World} {M : Ms} : ∀ {l : List Int} {xs : List Value}, Elems (Rp.sz Int) (Rp.E w M) xs l ↔ xs = l.map (Value.int .i64)
  | [], xs => Iff.rfl
  | x :: l, xs => by
    constructor
    · rintro ⟨cs, ys, rfl, _, he, hy⟩
      have he : cs = [.int .i64 x] := he
      rw [he, ints_cells.1 hy]; rfl
    · rintro rfl
      exact ⟨[.int .i64 x], l.map (Value.int .i64), rfl, rfl, rfl, ints_cells.2 rfl⟩
theorem OwR.int_iff {w : World} {M : Ms} {base : Nat} {e : TypeId} {v : Value} {l : List Int} : OwR w M base e v l ↔ w.ownsRow base e 1 v l.length (l.map (Value.int .i64)) :=
  ⟨fun ⟨xs, h1, h2⟩ => by rw [ints_cells.1 h2] at h1; exact h1, fun h => ⟨_, h, ints_cells.2 rfl⟩⟩
theorem insO_any (v : Value) (l : List Int) (p : Nat) (x : Int) (vb base : Nat) (w : World) (M : Ms) (ho : OwR w M base 3 v l) (hb : Blk w vb 3 #[.int .i64 x]) (hne : v.ownBlock ≠ some vb) (hp : p ≤ l.length) (hn : l.length ≤ 1000000) (hbase : base ≤ w.heap.size) :
    Calls Try.prog 24 #[v, .int .i64 p, .slice (some ⟨vb, 0, none⟩) 1 1] w fun e w' => ∃ v', e = .returned v' ∧ OwR w' M base 3 v' (l.take p ++ [x] ++ l.drop p) ∧ w.grownBy w' v.ownBlock ∧ (v'.ownBlock = v.ownBlock ∨ v'.ownBlock = some w.heap.size) := by
  refine (insI_any v l.length p (l.map (Value.int .i64)) [.int .i64 x] vb base w (OwR.int_iff.1 ho) hb rfl (by intro u hu; simp at hu; obtain ⟨y, _, rfl⟩ := hu; rfl) (by intro u hu; simp at hu; subst hu; rfl) hne hp hn hbase).mono ?_
  rintro e w' ⟨v', h1, h2, h3, h4⟩
  refine ⟨v', h1, OwR.int_iff.2 ?_, h3, h4⟩
  have e1 : (l.take p ++ [x] ++ l.drop p).length = l.length + 1 := by simp; omega
  rw [e1]
  simpa [List.map_take, List.map_drop] using h2
theorem DeepL.nil (w : World) (base : Nat) : DeepL w base (.slice none 0 0) [] :=
  ⟨[], rfl, World.ownsRow_nil _ _ _ _, fun j x r h => by simp at h, fun i j r s b hi => absurd hi (Nat.not_lt_zero _)⟩

theorem okL_ris' {l : List Lk} (h : okL l = true) : ris (l.map Lk.lba) = true := by simp [okL] at h; exact h.1.2
theorem okL_len {l : List Lk} (h : okL l = true) : l.length ≤ 64 := by simp [okL] at h; exact h.1.1
theorem okL_all {l : List Lk} (h : okL l = true) : ∀ x ∈ l, oneL x = true := by simp [okL] at h; exact h.2
theorem oneL_ris {x : Lk} (h : oneL x = true) : ris x.reads = true := by simp [oneL] at h; exact h.1.1.2
theorem oneL_len {x : Lk} (h : oneL x = true) : x.reads.length ≤ 8 := by simp [oneL] at h; exact h.1.1.1
theorem atB_lt {l : List Lk} {t : Int} (hr : ris (l.map Lk.lba) = true) (h : atB l t = true) : atN l t < l.length := by
  have hh : hasI (l.map Lk.lba) t = true := h
  have hm : t ∈ l.map Lk.lba := by simpa [hasI] using hh
  obtain ⟨j, hj, e⟩ := List.getElem_of_mem hm
  have hlen : lb (l.map Lk.lba) t ≤ j := by
    unfold lb
    have h0 : ((l.map Lk.lba).drop j).countP (fun x => decide (x < t)) = 0 := by
      rw [List.countP_eq_zero]
      intro x hx
      obtain ⟨i, hi, rfl⟩ := List.getElem_of_mem hx
      rw [List.getElem_drop]
      rw [List.length_drop] at hi
      have := ris_mono hr j (j + i) (by omega) (by omega)
      rw [Lib.getD_lt _ _ hj, Lib.getD_lt _ _ (by omega), e] at this
      simp only [decide_eq_true_eq]; omega
    rw [← List.take_append_drop j (l.map Lk.lba), List.countP_append, h0]
    have := List.countP_le_length (p := fun x => decide (x < t)) (l := (l.map Lk.lba).take j)
    rw [List.length_take] at this; omega
  have : j < l.length := by simpa using hj
  show lb _ _ < _
  omega
theorem nxtL_lt {l : List Lk} {t : Int} (hr : ris (l.map Lk.lba) = true) : atN l t < (nxtL l t).length := by
  unfold nxtL
  split
  · rename_i h; exact atB_lt hr h
  · have := atN_le l t
    simp; omega
theorem nxtL_mem {l : List Lk} {t : Int} {x : Lk} (h : x ∈ nxtL l t) : x ∈ l ∨ x = ⟨t, [], -1⟩ := by
  unfold nxtL at h
  split at h
  · exact .inl h
  · simp only [List.mem_append, List.mem_singleton] at h
    rcases h with (h | h) | h
    · exact .inl (List.mem_of_mem_take h)
    · exact .inr h
    · exact .inl (List.mem_of_mem_drop h)
theorem nxtL_one {l : List Lk} {t : Int} (h : okL l = true) {x : Lk} (hx : x ∈ nxtL l t) : ris x.reads = true ∧ x.reads.length ≤ 8 := by
  rcases nxtL_mem hx with h1 | rfl
  · exact ⟨oneL_ris (okL_all h x h1), oneL_len (okL_all h x h1)⟩
  · exact ⟨rfl, by simp⟩
theorem nxtL_len {l : List Lk} {t : Int} : (nxtL l t).length ≤ l.length + 1 := by
  have := atN_le l t
  unfold nxtL
  split <;> simp; omega

set_option maxHeartbeats 8000000 in
theorem read_any (v : Value) (l : List Lk) (id lba : Int) (w : World) (M : Ms) (h : SlR w M v l) (hl : l.length ≤ 1000000) (hb : ∀ x ∈ l, x.reads.length ≤ 1000000000) (hbd : BdL l) (hx1 : lba ≤ mI) :
    Calls Try.prog 8 #[v, .int .i64 id, .int .i64 lba] w fun e w' => ∃ r, e = .returned (.tuple #[r, .int .i64 (readL l id lba).2]) ∧ DeepL w' w.heap.size r (readL l id lba).1 ∧ Below w.heap.size w w' := by
  have hck := Lib.hid (check_any v l w M h hl hb)
  obtain ⟨a, c, rfl⟩ := h.form
  cases hok : okL l with
  | false =>
    have hE := Lib.hid (show readL l id lba = ([], 1) by simp [readL, hok])
    rw [hok] at hck
    clear h hb hbd hok
    rw [hE.out]
    go_enter Try.func8, Try.ntmps8
    go_wp2_with (go_at_call 13; go_must (refine hck.out.mono ?_); rintro e w2 ⟨rfl, hB2⟩)
    go_ret2
    exact ⟨_, rfl, DeepL.nil _ _, hB2⟩
  | true =>
  rw [hok] at hck
  by_cases hneg : id < 0 ∨ lba < 0
  · have hE := Lib.hid (show readL l id lba = ([], 1) by simp [readL, hneg])
    clear h hb hbd hok
    rw [hE.out]
    by_cases h1 : id < 0
    · clear hneg
      go_enter Try.func8, Try.ntmps8
      go_wp2_with (go_at_call 13; go_must (refine hck.out.mono ?_); rintro e w2 ⟨rfl, hB2⟩)
      go_ret2
      exact ⟨_, rfl, DeepL.nil _ _, hB2⟩
    · have h2 : lba < 0 := by omega
      clear hneg
      go_enter Try.func8, Try.ntmps8
      go_wp2_with (go_at_call 13; go_must (refine hck.out.mono ?_); rintro e w2 ⟨rfl, hB2⟩)
      go_ret2
      exact ⟨_, rfl, DeepL.nil _ _, hB2⟩
  have h1 : ¬ id < 0 := by omega
  have h2 : ¬ lba < 0 := by omega
  have h0 : 0 ≤ lba := by omega
  have HR := Lib.hid (okL_ris' hok)
  by_cases hfull : atB l lba = false ∧ 64 ≤ l.length
  · have hE := Lib.hid (show readL l id lba = ([], 2) by simp only [readL]; rw [if_neg (by simp [hok, h1, h2]), if_pos hfull])
    have hop := Lib.hid (fun w1 (hB : Below w.heap.size w w1) => opn_full (.slice a l.length c) l lba w1 M (h.mono (Keep.below hB)) HR.out hbd h0 hx1 hl hb hfull.1 hfull.2)
    clear h hb hbd hok hneg hfull
    rw [hE.out]
    go_enter Try.func8, Try.ntmps8
    go_wp2_with (first | (go_at_call 13; go_must (refine hck.out.mono ?_); rintro e w2 ⟨rfl, hB2⟩; have HB2 := Lib.hid hB2; clear hB2) | (go_at_call 22; go_must (refine (hop.out _ HB2.out).mono ?_); rintro e w3 ⟨rfl, hB3⟩))
    go_ret2
    exact ⟨_, rfl, DeepL.nil _ _, HB2.out.trans (hB3.mono HB2.out.size)⟩
  have hop := Lib.hid (fun w1 (hB : Below w.heap.size w w1) => opn_any (.slice a l.length c) l lba w1 M (h.mono (Keep.below hB)) HR.out hbd h0 hx1 hl hb (by
    cases hh : atB l lba with
    | true => exact .inl rfl
    | false => right; rcases Nat.lt_or_ge l.length 64 with h3 | h3
               · exact h3
               · exact absurd ⟨hh, h3⟩ hfull))
  have hi := nxtL_lt (t := lba) HR.out
  have hN64 : (nxtL l lba).length ≤ 65 := by have := nxtL_len (l := l) (t := lba); have := okL_len hok; omega
  obtain ⟨hkr, hk8⟩ := nxtL_one hok (List.getElem_mem hi)
  have hE : readL l id lba = readR (nxtL l lba) (atN l lba) id := by
    simp only [readL]
    rw [if_neg (by simp [hok, h1, h2]), if_neg hfull]
  have HE := Lib.hid hE
  have HKR := Lib.hid hkr
  clear h hb hbd hok hneg hfull hE hkr HR
  rw [HE.out]
  clear HE
  generalize hNN : nxtL l lba = N at *
  generalize atN l lba = i at *
  have hBd := Lib.hid (show N[i].reads.length ≤ 8 from hk8)
  go_enter Try.func8, Try.ntmps8
  go_wp2_with (go_at_call 13; go_must (refine hck.out.mono ?_); rintro e w2 ⟨rfl, hB2⟩; have HB2 := Lib.hid hB2; clear hB2)
  refine (hop.out _ HB2.out).mono ?_
  rintro e w3 ⟨r3, rfl, hD3, hB3⟩
  obtain ⟨vs, hD⟩ := hD3
  obtain ⟨A3, c3, rfl⟩ := hD.form
  obtain ⟨g, r, rfl, hgb, hgw, hv, y0, y1, y2, hfz, Ar, Cr, rfl⟩ := hD.cells hi
  have hOr := (hD.2.2.1 i _ _ (List.getElem?_eq_getElem hi) hv).1 hi
  have hbs := Lib.hid (fun q => bs_any _ N[i].reads id (w3.drewN q) noM ((hOr.below (show Below w3.heap.size w3 (w3.drewN q) from ⟨rfl, rfl, rfl, Nat.le_refl _, fun _ _ => rfl⟩)).sl (fun _ _ h => h)) HKR.out (by omega))
  have HB3 := Lib.hid (HB2.out.trans (hB3.mono HB2.out.size))
  have HD := Lib.hid hD
  have HOr := Lib.hid hOr
  have Hv := Lib.hid hv
  have Hgb := Lib.hid (show w.heap.size ≤ g from Nat.le_trans HB2.out.size hgb)
  have HB2s := Lib.hid HB2.out.size
  have hi' : (i : Int) < N.length := by omega
  have h8' : N[i].reads.length ≤ 8 := hk8
  have hbase : ∀ (W : World) (r : Value) (L : List Lk), DeepL W w2.heap.size r L → DeepL W w.heap.size r L := fun W r L ⟨us, u1, u2, u3, u4⟩ =>
    ⟨us, u1, ownsRow_base u2 HB2s.out, fun j x s hx hs => ⟨fun hj => ((u3 j x s hx hs).1 hj).mono_base HB2s.out, (u3 j x s hx hs).2⟩, u4⟩
  have Hbase := Lib.hid hbase
  clear hNN hD hOr hB3 hck hop hv hgb hk8 hBd hbase
  by_cases hA : N[i].writer = -1
  · have e1 : (N[i].writer != -1) = false := by simp [hA]
    have e2 : ¬ N[i].writer = id := by omega
    have e3 : (N[i].writer == id) = false := by simpa using e2
    cases hh : hasI N[i].reads id with
    | true =>
      have hR := Lib.hid (show readR N i id = (N, 0) by simp only [readR, getD_lk hi]; rw [if_neg (by simp [hA]), if_pos (.inr hh)])
      rw [hh] at hbs
      clear hA hh e2
      go_wp2_with (go_at_call 23; refine (hbs.out 0).mono ?_; rintro e w4 ⟨rfl, q, rfl⟩)
      go_ret2
      rw [hR.out]
      exact ⟨_, rfl, Hbase.out _ _ _ (DeepL.below (l := N) ⟨vs, HD.out⟩ (belowN w3 q)), HB3.out.trans ((belowN w3 q).mono HB3.out.size)⟩
    | false =>
      rw [hh] at hbs
      by_cases h8 : 8 ≤ N[i].reads.length
      · have hR := Lib.hid (show readR N i id = ([], 2) by simp only [readR, getD_lk hi]; rw [if_neg (by simp [hA]), if_neg (by simp [hh, e2]), if_pos h8])
        have h8'' : (8 : Int) ≤ N[i].reads.length := by omega
        clear hA hh e2
        go_wp2_with (go_at_call 23; refine (hbs.out 0).mono ?_; rintro e w4 ⟨rfl, q, rfl⟩)
        go_ret2
        rw [hR.out]
        exact ⟨_, rfl, DeepL.nil _ _, HB3.out.trans ((belowN w3 q).mono HB3.out.size)⟩
      · have hR := Lib.hid (show readR N i id = (N.set i { N[i] with reads := insI N[i].reads id }, 0) by simp only [readR, getD_lk hi]; rw [if_neg (by simp [hA]), if_neg (by simp [hh, e2]), if_neg h8])
        have h8'' : ¬ (8 : Int) ≤ N[i].reads.length := by omega
        clear hA hh e2
        go_wp2_with (go_at_call 23; refine (hbs.out 0).mono ?_; rintro e w4 ⟨rfl, q, rfl⟩)
        have hb5 := (belowN w3 q).alloc (Nat.le_refl _) (.cells #[.int .i64 id] 3)
        have hblk := Blk.new (w3.drewN q) 3 #[.int .i64 id]
        have hown : (Value.slice Ar N[i].reads.length Cr).ownBlock ≠ some (w3.drewN q).heap.size := fun e => by have h := HOr.out.own_lt e; exact absurd h (Nat.lt_irrefl _)
        have hins := Lib.hid (insO_any _ N[i].reads (lb N[i].reads id) id (w3.drewN q).heap.size w2.heap.size _ noM (HOr.out.below hb5) hblk hown (lb_le _ _) (by omega) (Nat.le_trans (by have := HD.out.2.1.lt g rfl; omega) hb5.size))
        have HB5 := Lib.hid hb5
        have hgne := Lib.hid (fun b (hb : (Value.slice Ar N[i].reads.length Cr).ownBlock = some b) (e : b = g) => by
          have h := HD.out.row_ne hi Hv.out hb
          exact h (by rw [e]; rfl))
        clear hb5 hblk hown
        refine hins.out.mono ?_
        rintro e w6 ⟨v6, rfl, ho6, hg6, hat6⟩
        have ho6 : OwR w6 noM w2.heap.size 3 v6 (insI N[i].reads id) := ho6
        obtain ⟨A6, c6, rfl⟩ := ho6.form
        have hne : some g ≠ (Value.slice Ar N[i].reads.length Cr).ownBlock := fun e => hgne.out g e.symm rfl
        have z1 := hg6.cell (below_cell HB5.out y1) hne
        have hgw5 : g < ((w3.drewN q).alloc (.cells #[.int .i64 id] 3)).heap.size := Nat.lt_of_lt_of_le hgw HB5.out.size
        have z2 : w6.frozen? ⟨g, i * 3 + 1, none⟩ = false := (World.frozen?_of_block (hg6.block g hgw5 hne)).trans ((HB5.out.frozen hgw).trans (hfz _))
        have hU := Lib.hid (DL.upd HD.out hi Hv.out ((grown_of_below HB5.out).trans hg6) ho6 (fun b hb => by
          rcases hat6 with h | h
          · left; rw [← h]; exact hb
          · right; rw [h] at hb; injection hb with hb; rw [← hb]; exact HB5.out.size))
        have HB6 := Lib.hid ((HB3.out.trans (HB5.out.mono HB3.out.size)).grown hg6 (Nat.le_trans HB3.out.size HB5.out.size) (fun b e => Nat.le_trans HB2s.out (HOr.out.own_ge e)))
        clear ho6 hg6 hat6 hins hne hgw5 y0 y1 y2 hfz
        go_wp2
        go_ret2
        rw [hR.out]
        exact ⟨_, rfl, Hbase.out _ _ _ ⟨_, hU.out⟩, HB6.out.trans ⟨rfl, rfl, rfl, by simp, fun k hk => Below.heap_setCell _ _ _ _ (by have := Hgb.out; simp; omega)⟩⟩
  · have e1 : (N[i].writer != -1) = true := by simpa using hA
    by_cases hB : N[i].writer = id
    · have e2 : (N[i].writer != id) = false := by simp [hB]
      have e3 : (N[i].writer == id) = true := by simp [hB]
      have hR := Lib.hid (show readR N i id = (N, 0) by simp only [readR, getD_lk hi]; rw [if_neg (by simp [hB]), if_pos (.inl hB)])
      clear hA hB
      go_wp2_with (go_at_call 23; refine (hbs.out 0).mono ?_; rintro e w4 ⟨rfl, q, rfl⟩)
      go_ret2
      rw [hR.out]
      exact ⟨_, rfl, Hbase.out _ _ _ (DeepL.below (l := N) ⟨vs, HD.out⟩ (belowN w3 q)), HB3.out.trans ((belowN w3 q).mono HB3.out.size)⟩
    · have e2 : (N[i].writer != id) = true := by simpa using hB
      have hR := Lib.hid (show readR N i id = ([], 22) by simp only [readR, getD_lk hi]; rw [if_pos ⟨hA, hB⟩])
      clear hA hB
      go_wp2_with (go_at_call 23; refine (hbs.out 0).mono ?_; rintro e w4 ⟨rfl, q, rfl⟩)
      go_ret2
      rw [hR.out]
      exact ⟨_, rfl, DeepL.nil _ _, HB3.out.trans ((belowN w3 q).mono HB3.out.size)⟩
end Go.Proofs.Ytombdkdidnoomaa
