/-
The reference: where a block's lock is; a number put into a rising list; a lock put in its place.
-/
import Derived.Test.YtombdkdidnoomaaLRead
namespace Go.Proofs.Ytombdkdidnoomaa
open Go.RowKit
attribute [local go_sem ↓] Go.wp_at_zero Go.wp_at_succ

theorem Elems.take_ {α : Type} {sz : Nat} {E : List Value → α → Prop} : ∀ {l : List α} {xs : List Value} (i : Nat), Elems sz E xs l → i ≤ l.length → Elems sz E (xs.take (i * sz)) (l.take i)
  | l, xs, 0, _, _ => by simp [Elems]
  | x :: l, _, i + 1, ⟨cs, ys, e, hc, he, hy⟩, hi => by
    subst e
    refine ⟨cs, ys.take (i * sz), ?_, hc, he, Elems.take_ i hy (by simpa using hi)⟩
    have e1 : (i + 1) * sz = cs.length + i * sz := by rw [hc, Nat.add_mul]; omega
    rw [e1, List.take_append, List.take_of_length_le (by omega)]
    congr 2; omega
  | [], xs, i + 1, h, hi => by simp at hi
theorem Elems.drop_ {α : Type} {sz : Nat} {E : List Value → α → Prop} : ∀ {l : List α} {xs : List Value} (i : Nat), Elems sz E xs l → i ≤ l.length → Elems sz E (xs.drop (i * sz)) (l.drop i)
  | l, xs, 0, h, _ => by simpa using h
  | x :: l, _, i + 1, ⟨cs, ys, e, hc, he, hy⟩, hi => by
    subst e
    have e1 : (i + 1) * sz = cs.length + i * sz := by rw [hc, Nat.add_mul]; omega
    rw [e1, List.drop_append, List.drop_eq_nil_of_le (by omega), List.nil_append, List.drop_succ_cons]
    rw [show cs.length + i * sz - cs.length = i * sz by omega]
    exact Elems.drop_ i hy (by simpa using hi)
  | [], xs, i + 1, h, hi => by simp at hi
theorem SlR.take_ {α : Type} [Rp α] {w : World} {M : Ms} {a : Option Addr} {n c i : Nat} {l : List α} (h : SlR w M (.slice a n c) l) (hi : i ≤ l.length) : SlR w M (.slice a i c) (l.take i) := by
  obtain ⟨a', c', xs, e, h1, h2, h3, h4⟩ := h
  cases e
  have hl : (l.take i).length = i := by rw [List.length_take]; omega
  refine ⟨a, c, xs.take (i * Rp.sz α), by rw [hl], by omega, h2, h3.take_ i hi, fun hne => ?_⟩
  obtain ⟨b, off, e, hm, hc⟩ := h4 (by intro e; rw [e] at hne; simp at hne)
  refine ⟨b, off, e, hm, fun j u hu => hc j u ?_⟩
  rw [List.getElem?_take] at hu
  split at hu
  · exact hu
  · cases hu
theorem SlR.drop_ {α : Type} [Rp α] {w : World} {M : Ms} {b off n c i : Nat} {l : List α} (h : SlR w M (.slice (some ⟨b, off, none⟩) n c) l) (hi : i ≤ l.length) : SlR w M (.slice (if c = i then some ⟨b, off, none⟩ else some ⟨b, off + i * Rp.sz α, none⟩) (n - i) (c - i)) (l.drop i) := by
  obtain ⟨a', c', xs, e, h1, h2, h3, h4⟩ := h
  cases e
  have hl : (l.drop i).length = l.length - i := by rw [List.length_drop]
  refine ⟨_, c - i, xs.drop (i * Rp.sz α), by rw [hl], by omega, by omega, h3.drop_ i hi, fun hne => ?_⟩
  have hci : c ≠ i := fun e => hne (by rw [List.drop_eq_nil_of_le (by omega)])
  rw [if_neg hci]
  obtain ⟨b', off', e, hm, hc⟩ := h4 (by intro e; rw [e] at hne; simp at hne)
  cases e
  refine ⟨b, off + i * Rp.sz α, rfl, hm, fun j u hu => ?_⟩
  rw [List.getElem?_drop] at hu
  have := hc _ u hu
  rwa [← Nat.add_assoc] at this
theorem SlR.dropN {α : Type} [Rp α] {w : World} {M : Ms} {n c : Nat} {l : List α} (h : SlR w M (.slice none n c) l) : l = [] ∧ n = 0 := by
  obtain ⟨a', c', xs, e, h1, h2, h3, h4⟩ := h
  cases e
  by_cases hl : l = []
  · subst hl; exact ⟨rfl, rfl⟩
  · obtain ⟨b, off, e, _⟩ := h4 hl; cases e

theorem SlR.dropI {w : World} {M : Ms} {b off n c i : Nat} {l : List Int} (h : SlR w M (.slice (some ⟨b, off, none⟩) n c) l) (hi : i ≤ l.length) : SlR w M (.slice (if c = i then some ⟨b, off, none⟩ else some ⟨b, off + i, none⟩) (n - i) (c - i)) (l.drop i) := by
  have := h.drop_ hi
  rwa [show Rp.sz Int = 1 from rfl, Nat.mul_one] at this
set_option maxHeartbeats 400000 in
theorem twinIO_any (v : Value) (l : List Int) (w : World) (Mi M : Ms) (h : SlR w Mi v l) (hl : l.length ≤ 1000000000) :
    Calls Try.prog 21 #[v] w fun e w' => ∃ r, e = .returned r ∧ OwR w' M w.heap.size 3 r l ∧ Below w.heap.size w w' := by
  have hs := h.bare
  go_enter Try.func21, Try.ntmps21
  go_wp2_with (at_builtin; go_must (refine wpList_append_R (α := Int) (M := noM) (base := w.heap.size) (l := []) (m := l) (v := .slice none 0 0) (u := v) rfl (by rfl) tyI (by rfl) (OwR.nil _ _ _ _) (by rfl) (hs.mono (Keep.ownNil _ _ _)) (by simpa using hl) (Nat.le_refl _) ?_; intro v1 w1 ho hg hat))
  go_ret
  exact ⟨_, rfl, OwR.ints (M' := M) ho, Below.ofNil hg⟩
theorem SlR.cap {α : Type} [Rp α] {w : World} {M : Ms} {a : Option Addr} {n c : Nat} {l : List α} (h : SlR w M (.slice a n c) l) : n = l.length ∧ l.length ≤ c ∧ c ≤ 9223372036854775807 := by
  obtain ⟨a', c', xs, e, h1, h2, _⟩ := h
  cases e
  exact ⟨rfl, h1, by unfold maxLen at h2; omega⟩
/-- What was there is read, though a row of the call's own may be written. -/
theorem Keep.own {α : Type} [Rp α] {w w4 : World} {M : Ms} {e : TypeId} {v : Value} {L : List α} (hb : Below w.heap.size w w4) (ho : OwR w4 M w.heap.size e v L) : Keep w noM w4 (fun b => noM b ∨ v.ownBlock = some b) := fun b hlt _ =>
  ⟨fun h => h.elim (fun h => h) (fun h => by have := ho.own_ge h; omega), hb.block b hlt⟩

/-- A number put into a rising list. -/
def putI (l : List Int) (x : Int) : List Int := if hasI l x = true then l else insI l x

set_option maxHeartbeats 4000000 in
theorem rat_any (v : Value) (l : List Lk) (x : Int) (w : World) (M : Ms) (h : SlR w M v l) (hr : ris (l.map Lk.lba) = true) (hl : l.length ≤ 1000000000) :
    Calls Try.prog 37 #[v, .int .i64 x] w fun e w' => e = .returned (.tuple #[.int .i64 (atN l x : Nat), .bool (atB l x)]) ∧ Below w.heap.size w w' := by
  obtain ⟨a, c, rfl⟩ := h.form
  have H := Lib.hid h
  have S := Lib.hid (ris_mono hr)
  have HG := Lib.hid (show ∀ k (hk : k < l.length), (l.map Lk.lba).getD k 0 = l[k].lba from fun k hk => by rw [Lib.getD_lt _ _ (by simpa using hk)]; simp)
  clear h hr
  go_enter Try.func37, Try.ntmps37
  go_wp2
  go_loopw [6] (fun s6 wr => Below w.heap.size w wr ∧ ∃ k : Nat, k ≤ l.length ∧ s6 = .int .i64 k ∧ Hid (∀ j, j < k → (l.map Lk.lba).getD j 0 < x)) (fun s6 _ => l.length - (intOf s6).toNat)
  case atStart => exact ⟨Below.refl _ _, 0, Nat.zero_le _, rfl, Lib.hid fun j hj => absurd hj (Nat.not_lt_zero _)⟩
  case round =>
    obtain ⟨hB, k, hk, rfl, hA⟩ := hrel
    have HB := Lib.hid hB
    by_cases hlt : k < l.length
    · obtain ⟨b1, o1, A1, C1, rfl, -, x1, y1, z1, s1⟩ := lk_at (H.out.mono (Keep.below hB)) hlt
      have hlt' : (k : Int) < l.length := by omega
      have Y := Lib.hid (HG.out k hlt)
      clear hB s1 y1 z1
      by_cases hx : x ≤ l[k].lba
      · have E := Lib.hid (search_end' (i := k) (by simpa using hk) hA.out (fun j hj1 hj2 => by
          have h1 := S.out k j hj1 hj2
          rw [Y.out] at h1; omega) S.out)
        have hS := Lib.hid (show wr.drew.cell? ⟨b1, o1 + k * 3, none⟩ = some (.int .i64 l[k].lba) from x1)
        go_wp2_with fail
        refine rp_enter [5] (fun w' => w'.cell? ⟨b1, o1 + k * 3, none⟩ = some (.int .i64 l[k].lba)) (by kernel_rfl) ?_
        apply rp_pure 0 rfl (by kernel_rfl) (fun _ _ _ h => h) rfl
        · (intro W; go_simp; try rfl)
        · (go_simp; try rfl)
        apply rp_pure 1 rfl (by kernel_rfl) (fun _ _ _ h => h) rfl
        · (intro W; go_simp; try rfl)
        · (go_simp; try rfl)
        apply rp_pure 2 rfl (by kernel_rfl) (fun _ _ _ h => h) rfl
        · (intro W; go_simp; try rfl)
        · (go_simp; try rfl)
        apply rp_pure 3 rfl (by kernel_rfl) (fun _ _ _ h => h) rfl
        · (intro W; go_simp; try rfl)
        · (go_simp; try rfl)
        apply rp_pure 4 rfl (by kernel_rfl) (fun _ _ _ h => h) rfl
        · (intro W; go_simp; try rfl)
        · (go_simp; try rfl)
        apply rp_take 5 rfl (by kernel_rfl) (fun _ _ _ h => h) (hS.out) rfl
        · (rintro W s0; go_simp; try rfl)
        · (go_simp; try rfl)
        apply rp_pure 6 rfl (by kernel_rfl) (fun _ _ _ h => h) rfl
        · (intro W; go_simp; try rfl)
        · (go_simp; try rfl)
        apply rp_pure 7 rfl (by kernel_rfl) (fun _ _ _ h => h) rfl
        · (intro W; go_simp; try rfl)
        · (go_simp; try rfl)
        apply rp_pure 8 rfl (by kernel_rfl) (fun _ _ _ h => h) rfl
        · (intro W; go_simp; try rfl)
        · (go_simp; try rfl)
        apply rp_pure 9 rfl (by kernel_rfl) (fun _ _ _ h => h) rfl
        · (intro W; go_simp; try rfl)
        · (go_simp; try rfl)
        refine rp_done (by kernel_rfl) ?_
        go_wp2
        go_ret2
        refine ⟨?_, HB.out.drew⟩
        unfold atN atB
        rw [E.out.1, E.out.2, Y.out]
        by_cases he : l[k].lba = x
        · rw [decide_eq_true (show k < (l.map Lk.lba).length ∧ l[k].lba = x from ⟨by simpa using hlt, he⟩)]
          simp [he]
        · rw [decide_eq_false (show ¬ (k < (l.map Lk.lba).length ∧ l[k].lba = x) from fun h => he h.2)]
          simp [he]
      · have hE := Lib.hid (show ∀ j, j < k + 1 → (l.map Lk.lba).getD j 0 < x from fun j hj => by
          by_cases e : j = k
          · subst e; rw [Y.out]; omega
          · exact hA.out j (by omega))
        go_wp2
        go_roundw
        case rel => exact ⟨HB.out, k + 1, by omega, by go_num, hE⟩
        case measure => simp [intOf]; omega
    · obtain rfl : k = l.length := by omega
      have E := Lib.hid (search_end' (i := l.length) (by simp) hA.out (fun j hj1 hj2 => by rw [List.length_map] at hj2; omega) S.out)
      go_wp2
      go_ret2
      refine ⟨?_, HB.out⟩
      unfold atN atB
      rw [E.out.1, E.out.2, decide_eq_false (show ¬ (l.length < (l.map Lk.lba).length ∧ (l.map Lk.lba).getD l.length 0 = x) from fun h => by have := h.1; simp at this)]
      rfl

set_option maxHeartbeats 4000000 in
theorem rput_any (v : Value) (l : List Int) (x : Int) (w : World) (M : Ms) (h : SlR w M v l) (hr : ris l = true) (hl : l.length ≤ 1000000) :
    Calls Try.prog 39 #[v, .int .i64 x] w fun e w' => ∃ r, e = .returned r ∧ SlR w' noM r (putI l x) ∧ Below w.heap.size w w' := by
  obtain ⟨a, c, rfl⟩ := h.form
  have H := Lib.hid h
  have S := Lib.hid (ris_mono hr)
  have HG := Lib.hid (show ∀ k (hk : k < l.length), l.getD k 0 = l[k] from fun k hk => Lib.getD_lt _ _ hk)
  clear h hr
  go_enter Try.func39, Try.ntmps39
  go_wp2
  go_loopw [5] (fun s6 wr => wr = w ∧ ∃ k : Nat, k ≤ l.length ∧ s6 = .int .i64 k ∧ Hid (∀ j, j < k → l.getD j 0 < x)) (fun s6 _ => l.length - (intOf s6).toNat)
  case atStart => exact ⟨rfl, 0, Nat.zero_le _, rfl, Lib.hid fun j hj => absurd hj (Nat.not_lt_zero _)⟩
  case round =>
    obtain ⟨rfl, k, hk, rfl, hA⟩ := hrel
    by_cases hlt : k < l.length
    · obtain ⟨b1, o1, rfl, -, x1⟩ := int_at H.out hlt
      have hlt' : (k : Int) < l.length := by omega
      have Y := Lib.hid (HG.out k hlt)
      by_cases hx : l[k] < x
      · have hE := Lib.hid (show ∀ j, j < k + 1 → l.getD j 0 < x from fun j hj => by
          by_cases e : j = k
          · subst e; rw [Y.out]; omega
          · exact hA.out j (by omega))
        go_wp2
        go_roundw
        case rel => exact ⟨trivial, k + 1, by omega, by go_num, hE⟩
        case measure => simp [intOf]; omega
      · have E := Lib.hid (search_end' (i := k) hk hA.out (fun j hj1 hj2 => by
          have h1 := S.out k j hj1 hj2
          rw [Y.out] at h1; omega) S.out)
        by_cases he : l[k] = x
        · have hR := Lib.hid (show putI l x = l by unfold putI; rw [if_pos (by rw [E.out.2, Y.out]; simp [hlt, he])])
          have he' : (l[k] == x) = true := by simp [he]
          clear he
          go_wp2
          go_ret
          rw [hR.out]
          exact ⟨_, rfl, H.out.bare, Below.refl _ _⟩
        · have hR := Lib.hid (show putI l x = l.take k ++ [x] ++ l.drop k by unfold putI insI; rw [if_neg (by rw [E.out.2, Y.out]; simp [he]), E.out.1])
          have he' : (l[k] == x) = false := by simp [he]
          clear he
          have hcp := H.out.cap
          have hkc : k ≤ c := by omega
          have hkc' : (k : Int) ≤ c := by omega
          have ht := Lib.hid (twinIO_any _ (l.take k) wr M noM (H.out.take_ hk) (by rw [List.length_take]; omega))
          have hc9 : c ≤ 9223372036854775807 := hcp.2.2
          have hck : ¬ c = k := by omega
          have hd := Lib.hid (show SlR wr M _ (l.drop k) from by have h := H.out.dropI (i := k) hk; rw [if_neg hck] at h; exact h)
          clear hcp
          go_wp2_with fail
          refine ht.out.mono ?_
          rintro e w2 ⟨r2, rfl, ho2, hB2⟩
          have hb3 := hB2.alloc hB2.size (.cells #[.int .i64 x] 3)
          have hblk := Blk.new w2 3 #[.int .i64 x]
          have O3 := Lib.hid (ho2.below ((Below.refl w2.heap.size w2).alloc (Nat.le_refl _) (.cells #[.int .i64 x] 3)))
          have HB3 := Lib.hid hb3
          have hS := Lib.hid (show SlR (w2.alloc (.cells #[.int .i64 x] 3)) (fun b => noM b ∨ r2.ownBlock = some b) (.slice (some ⟨w2.heap.size, 0, none⟩) 1 1) [x] from SlR.one hblk rfl (fun h' => h'.elim (fun h => h) (fun h => by have := ho2.own_lt h; omega)))
          have hlk : (l.take k).length + [x].length ≤ 1000000000 := by rw [List.length_take, List.length_singleton]; omega
          have hlk2 : (l.take k ++ [x]).length + (l.drop k).length ≤ 1000000000 := by simp; omega
          clear ho2 hB2 hb3 hblk ht
          have tok1 : True := trivial
          go_wp2_with (first | (at_builtin; have _t := tok1; go_must (refine wpList_append_R (α := Int) (M := noM) (base := wr.heap.size) (l := l.take k) (m := [x]) rfl (by rfl) tyI (by rfl) O3.out (by rfl) hS.out hlk HB3.out.size ?_); clear tok1 _t; intro v4 w4 ho4 hg4 hat4; have HB4 := Lib.hid (HB3.out.grown hg4 HB3.out.size (fun b e => O3.out.own_ge e)); have O4 := Lib.hid ho4; have hS4 := Lib.hid (hd.out.bare.mono (Keep.own HB4.out O4.out)); clear hg4 hat4 ho4) | (at_builtin; go_must (refine wpList_append_R (α := Int) (M := noM) (base := wr.heap.size) (l := l.take k ++ [x]) (m := l.drop k) rfl (by rfl) tyI (by rfl) O4.out (by rfl) hS4.out hlk2 HB4.out.size ?_); intro v5 w5 ho5 hg5 hat5))
          go_ret
          rw [hR.out]
          exact ⟨_, rfl, ho5.sl (fun b _ h => h), HB4.out.grown hg5 HB4.out.size (fun b e => O4.out.own_ge e)⟩
    · obtain rfl : k = l.length := by omega
      have E := Lib.hid (search_end' (i := l.length) (Nat.le_refl _) hA.out (fun j hj1 hj2 => by omega) S.out)
      have hR := Lib.hid (show putI l x = l.take l.length ++ [x] ++ l.drop l.length by unfold putI insI; rw [if_neg (by rw [E.out.2]; simp), E.out.1])
      cases a with
      | none =>
        have hcp := H.out.cap
        have hkc : l.length ≤ c := by omega
        have hkc' : (l.length : Int) ≤ c := by omega
        have ht := Lib.hid (twinIO_any _ (l.take l.length) wr M noM (H.out.take_ hk) (by rw [List.length_take]; omega))
        have hc9 : c ≤ 9223372036854775807 := hcp.2.2
        have hd := Lib.hid (show SlR wr M (.slice none 0 (c - l.length)) (l.drop l.length) from by rw [List.drop_eq_nil_of_le (by omega)]; exact sl_nil wr M (c - l.length) (by unfold maxLen; omega))
        clear hcp
        go_wp2_with fail
        refine ht.out.mono ?_
        rintro e w2 ⟨r2, rfl, ho2, hB2⟩
        have hb3 := hB2.alloc hB2.size (.cells #[.int .i64 x] 3)
        have hblk := Blk.new w2 3 #[.int .i64 x]
        have O3 := Lib.hid (ho2.below ((Below.refl w2.heap.size w2).alloc (Nat.le_refl _) (.cells #[.int .i64 x] 3)))
        have HB3 := Lib.hid hb3
        have hS := Lib.hid (show SlR (w2.alloc (.cells #[.int .i64 x] 3)) (fun b => noM b ∨ r2.ownBlock = some b) (.slice (some ⟨w2.heap.size, 0, none⟩) 1 1) [x] from SlR.one hblk rfl (fun h' => h'.elim (fun h => h) (fun h => by have := ho2.own_lt h; omega)))
        have hlk : (l.take l.length).length + [x].length ≤ 1000000000 := by rw [List.length_take, List.length_singleton]; omega
        have hlk2 : (l.take l.length ++ [x]).length + (l.drop l.length).length ≤ 1000000000 := by simp; omega
        clear ho2 hB2 hb3 hblk ht
        have tok1 : True := trivial
        go_wp2_with (first | (at_builtin; have _t := tok1; go_must (refine wpList_append_R (α := Int) (M := noM) (base := wr.heap.size) (l := l.take l.length) (m := [x]) rfl (by rfl) tyI (by rfl) O3.out (by rfl) hS.out hlk HB3.out.size ?_); clear tok1 _t; intro v4 w4 ho4 hg4 hat4; have HB4 := Lib.hid (HB3.out.grown hg4 HB3.out.size (fun b e => O3.out.own_ge e)); have O4 := Lib.hid ho4; have hS4 := Lib.hid (hd.out.bare.mono (Keep.own HB4.out O4.out)); clear hg4 hat4 ho4) | (at_builtin; go_must (refine wpList_append_R (α := Int) (M := noM) (base := wr.heap.size) (l := l.take l.length ++ [x]) (m := l.drop l.length) rfl (by rfl) tyI (by rfl) O4.out (by rfl) hS4.out hlk2 HB4.out.size ?_); intro v5 w5 ho5 hg5 hat5))
        go_ret
        rw [hR.out]
        exact ⟨_, rfl, ho5.sl (fun b _ h => h), HB4.out.grown hg5 HB4.out.size (fun b e => O4.out.own_ge e)⟩
      | some ad =>
        obtain ⟨bb, oo, sp⟩ := ad
        have Hnl := Lib.hid (show ∀ A C, C ≤ 9223372036854775807 → SlR wr M (.slice A 0 C) (l.drop l.length) from fun A C hC => by rw [List.drop_eq_nil_of_le (Nat.le_refl _)]; exact ⟨A, C, [], rfl, Nat.zero_le _, by unfold maxLen; omega, rfl, fun h => absurd rfl h⟩)
        have hcp0 := H.out.cap
        by_cases hck : c = l.length
        · subst hck
          have hcp := H.out.cap
          have hkc : l.length ≤ l.length := by omega
          have hkc' : (l.length : Int) ≤ l.length := by omega
          have ht := Lib.hid (twinIO_any _ (l.take l.length) wr M noM (H.out.take_ hk) (by rw [List.length_take]; omega))
          have hc9 : l.length ≤ 9223372036854775807 := hcp.2.2
          have hd := Lib.hid (Hnl.out (some ⟨bb, oo, sp⟩) 0 (by omega))
          clear hcp
          go_wp2_with fail
          refine ht.out.mono ?_
          rintro e w2 ⟨r2, rfl, ho2, hB2⟩
          have hb3 := hB2.alloc hB2.size (.cells #[.int .i64 x] 3)
          have hblk := Blk.new w2 3 #[.int .i64 x]
          have O3 := Lib.hid (ho2.below ((Below.refl w2.heap.size w2).alloc (Nat.le_refl _) (.cells #[.int .i64 x] 3)))
          have HB3 := Lib.hid hb3
          have hS := Lib.hid (show SlR (w2.alloc (.cells #[.int .i64 x] 3)) (fun b => noM b ∨ r2.ownBlock = some b) (.slice (some ⟨w2.heap.size, 0, none⟩) 1 1) [x] from SlR.one hblk rfl (fun h' => h'.elim (fun h => h) (fun h => by have := ho2.own_lt h; omega)))
          have hlk : (l.take l.length).length + [x].length ≤ 1000000000 := by rw [List.length_take, List.length_singleton]; omega
          have hlk2 : (l.take l.length ++ [x]).length + (l.drop l.length).length ≤ 1000000000 := by simp; omega
          clear ho2 hB2 hb3 hblk ht
          have tok1 : True := trivial
          go_wp2_with (first | (at_builtin; have _t := tok1; go_must (refine wpList_append_R (α := Int) (M := noM) (base := wr.heap.size) (l := l.take l.length) (m := [x]) rfl (by rfl) tyI (by rfl) O3.out (by rfl) hS.out hlk HB3.out.size ?_); clear tok1 _t; intro v4 w4 ho4 hg4 hat4; have HB4 := Lib.hid (HB3.out.grown hg4 HB3.out.size (fun b e => O3.out.own_ge e)); have O4 := Lib.hid ho4; have hS4 := Lib.hid (hd.out.bare.mono (Keep.own HB4.out O4.out)); clear hg4 hat4 ho4) | (at_builtin; go_must (refine wpList_append_R (α := Int) (M := noM) (base := wr.heap.size) (l := l.take l.length ++ [x]) (m := l.drop l.length) rfl (by rfl) tyI (by rfl) O4.out (by rfl) hS4.out hlk2 HB4.out.size ?_); intro v5 w5 ho5 hg5 hat5))
          go_ret
          rw [hR.out]
          exact ⟨_, rfl, ho5.sl (fun b _ h => h), HB4.out.grown hg5 HB4.out.size (fun b e => O4.out.own_ge e)⟩
        · skip
          have hcp := H.out.cap
          have hkc : l.length ≤ c := by omega
          have hkc' : (l.length : Int) ≤ c := by omega
          have ht := Lib.hid (twinIO_any _ (l.take l.length) wr M noM (H.out.take_ hk) (by rw [List.length_take]; omega))
          have hc9 : c ≤ 9223372036854775807 := hcp.2.2
          have hd := Lib.hid (Hnl.out (some ((⟨bb, oo, sp⟩ : Addr).add l.length)) (c - l.length) (by omega))
          clear hcp
          go_wp2_with fail
          refine ht.out.mono ?_
          rintro e w2 ⟨r2, rfl, ho2, hB2⟩
          have hb3 := hB2.alloc hB2.size (.cells #[.int .i64 x] 3)
          have hblk := Blk.new w2 3 #[.int .i64 x]
          have O3 := Lib.hid (ho2.below ((Below.refl w2.heap.size w2).alloc (Nat.le_refl _) (.cells #[.int .i64 x] 3)))
          have HB3 := Lib.hid hb3
          have hS := Lib.hid (show SlR (w2.alloc (.cells #[.int .i64 x] 3)) (fun b => noM b ∨ r2.ownBlock = some b) (.slice (some ⟨w2.heap.size, 0, none⟩) 1 1) [x] from SlR.one hblk rfl (fun h' => h'.elim (fun h => h) (fun h => by have := ho2.own_lt h; omega)))
          have hlk : (l.take l.length).length + [x].length ≤ 1000000000 := by rw [List.length_take, List.length_singleton]; omega
          have hlk2 : (l.take l.length ++ [x]).length + (l.drop l.length).length ≤ 1000000000 := by simp; omega
          clear ho2 hB2 hb3 hblk ht
          have tok1 : True := trivial
          go_wp2_with (first | (at_builtin; have _t := tok1; go_must (refine wpList_append_R (α := Int) (M := noM) (base := wr.heap.size) (l := l.take l.length) (m := [x]) rfl (by rfl) tyI (by rfl) O3.out (by rfl) hS.out hlk HB3.out.size ?_); clear tok1 _t; intro v4 w4 ho4 hg4 hat4; have HB4 := Lib.hid (HB3.out.grown hg4 HB3.out.size (fun b e => O3.out.own_ge e)); have O4 := Lib.hid ho4; have hS4 := Lib.hid (hd.out.bare.mono (Keep.own HB4.out O4.out)); clear hg4 hat4 ho4) | (at_builtin; go_must (refine wpList_append_R (α := Int) (M := noM) (base := wr.heap.size) (l := l.take l.length ++ [x]) (m := l.drop l.length) rfl (by rfl) tyI (by rfl) O4.out (by rfl) hS4.out hlk2 HB4.out.size ?_); intro v5 w5 ho5 hg5 hat5))
          go_ret
          rw [hR.out]
          exact ⟨_, rfl, ho5.sl (fun b _ h => h), HB4.out.grown hg5 HB4.out.size (fun b e => O4.out.own_ge e)⟩
end Go.Proofs.Ytombdkdidnoomaa
