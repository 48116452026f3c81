/-
The contract of package seal's function Flip.
-/
import Derived.Test.YtkdjacmabeeceaaFlip0
namespace Go.Proofs.Ytkdjacmabeeceaa
open Go.RowKit
attribute [local go_sem ↓] Go.wp_at_zero Go.wp_at_succ

theorem OwR.u8' {w : World} {M M' : Ms} {base : Nat} {e : TypeId} {v : Value} {l : List UInt8} (h : OwR w M base e v l) : OwR w M' base e v l := by
  obtain ⟨xs, ho, he⟩ := h
  exact ⟨xs, ho, he.mono fun cs x _ h => h⟩
/-- One value of an owned row's element stored anew. -/
theorem OwR.setF {α : Type} [Rp α] {w : World} {M : Ms} {base g c j f : Nat} {e : TypeId} {n : Nat} {l : List α} (h : OwR w M base e (.slice (some ⟨g, 0, none⟩) n c) l) (hj : j < l.length) (hf : f < Rp.sz α) (u : Value) (y : α)
    (hE : ∀ cs, Rp.E w (OM M (.slice (some ⟨g, 0, none⟩) n c)) cs l[j] → Rp.E w (OM M (.slice (some ⟨g, 0, none⟩) n c)) (cs.set f u) y) :
    OwR (w.setCell ⟨g, j * Rp.sz α + f, none⟩ u) M base e (.slice (some ⟨g, 0, none⟩) n c) (l.set j y) := by
  have hgr := grownBy_set w g (j * Rp.sz α + f) u
  obtain ⟨A', c', hv⟩ := h.form
  simp only [Value.slice.injEq] at hv
  obtain ⟨-, hnl, -⟩ := hv
  subst hnl
  obtain ⟨xs, ho, he⟩ := h
  have s1 := (ho.stored (j * Rp.sz α + f) u).1
  obtain ⟨cs, hcl, hEcs, hcj⟩ := he.get (List.getElem?_eq_getElem hj)
  have hkeep : Keep w (OM M (.slice (some ⟨g, 0, none⟩) l.length c)) (w.setCell ⟨g, j * Rp.sz α + f, none⟩ u) (OM M (.slice (some ⟨g, 0, none⟩) l.length c)) :=
    fun b hb hm => ⟨hm, hgr.block b hb (fun e => hm (.inr (by simpa [Value.ownBlock] using e.symm)))⟩
  have hlen := he.length
  have hlt : j * Rp.sz α + Rp.sz α ≤ xs.length := by
    have : (j + 1) * Rp.sz α ≤ l.length * Rp.sz α := Nat.mul_le_mul_right _ hj
    rw [Nat.succ_mul] at this
    omega
  have hp := Elems.put (xs' := xs.set (j * Rp.sz α + f) u) (y := y) (cs := cs.set f u) (he.mono fun cs x _ => Rp.mono hkeep) hj (by simp)
    (fun i hi => List.getElem?_set_ne (by omega)) (by simp [hcl]) (Rp.mono hkeep (hE cs hEcs)) (fun i hi => by
      by_cases hif : f = i
      · subst hif; rw [List.getElem?_set_self (by omega), List.getElem?_set_self (by omega)]
      · rw [List.getElem?_set_ne (by omega), List.getElem?_set_ne hif]; exact hcj i hi)
  exact ⟨_, by rw [List.length_set]; exact s1, hp⟩
theorem OwR.setU8 {w : World} {M : Ms} {base g c j n : Nat} {e : TypeId} {l : List UInt8} (h : OwR w M base e (.slice (some ⟨g, 0, none⟩) n c) l) (hj : j < l.length) (y : UInt8) :
    OwR (w.setCell ⟨g, j, none⟩ (.int .u8 y.toNat)) M base e (.slice (some ⟨g, 0, none⟩) n c) (l.set j y) := by
  have := h.setF hj (f := 0) (show 0 < 1 by omega) (.int .u8 y.toNat) y (fun cs hcs => by
    have hcs' : cs = [.int .u8 l[j].toNat] := hcs
    subst hcs'
    rfl)
  rwa [show j * Rp.sz UInt8 + 0 = j by show j * 1 + 0 = j; omega] at this
theorem u8O_at {w : World} {M : Ms} {base : Nat} {e : TypeId} {v : Value} {l : List UInt8} {k : Nat} (h : OwR w M base e v l) (hk : k < l.length) :
    ∃ g c, v = .slice (some ⟨g, 0, none⟩) l.length c ∧ (∀ i, w.frozen? ⟨g, i, none⟩ = false) ∧ w.cell? ⟨g, k, none⟩ = some (.int .u8 l[k].toNat) := by
  obtain ⟨g, c, cs, rfl, hb, hc, hf, hcs, hj⟩ := h.at_ hk
  have hcs' : cs = [.int .u8 l[k].toNat] := hcs
  subst hcs'
  have := hj 0 _ rfl
  rw [show k * Rp.sz UInt8 + 0 = k by show k * 1 + 0 = k; omega] at this
  exact ⟨g, c, rfl, hf, this⟩

set_option maxHeartbeats 400000 in
theorem bclone2_any (v : Value) (l : List UInt8) (w : World) (Mi : Ms) (h : SlR w Mi v l) (hl : l.length ≤ 1000000000) :
    Calls Try.prog 41 #[v] w fun e w' => ∃ r, e = .returned r ∧ OwR w' noM w.heap.size 5 r l ∧ Below w.heap.size w w' := by
  have hs := h.mono (Keep.less (M' := noM) fun _ h' => h'.elim)
  obtain ⟨a, c, xs, rfl, h1, h2, h3, h4⟩ := id hs
  have he := fun w n => Lib.run_eql_slice_nil (P := Try.prog) w 32 5 a n c 0 0 Try.underlying32
  cases a with
  | none =>
    have hl0 : l = [] := Classical.byContradiction fun hne => by obtain ⟨b, off, e, _⟩ := h4 hne; cases e
    subst hl0
    clear h3 h4 h1 h2 h hs
    simp only [List.length_nil] at hl ⊢
    go_enter Try.func41, Try.ntmps41
    go_wp2
    go_ret
    exact ⟨_, rfl, OwR.nil _ _ _ _, Below.refl _ _⟩
  | some ad =>
    clear h3 h4 h1 h2 h
    go_enter Try.func41, Try.ntmps41
    go_wp2_with (at_builtin; go_must (refine wpList_append_R (α := UInt8) (M := noM) (base := w.heap.size) (l := []) (m := l) (u := .slice (some ad) l.length c) rfl (by rfl) ty32 (by rfl) (OwR.made _ _ _) (by rfl) (hs.mono Keep.ownNew) (by simpa using hl) (by simp) ?_); intro v1 w1 ho hg hat)
    go_ret
    exact ⟨_, rfl, ho, ((Below.refl _ _).alloc (Nat.le_refl _) _).grown hg (by simp) (by simp [Value.ownBlock])⟩

set_option maxRecDepth 100000 in
set_option maxHeartbeats 4000000 in
theorem flip_any (v : Value) (l : List UInt8) (bit bs : Int) (w : World) (Mi M : Ms) (h : SlR w Mi v l) (hM : MOk w M) (hl : l.length ≤ 1000000) :
    Calls Try.prog 40 #[v, .int .i64 bit, .int .i64 bs] w fun e w' => ∃ r, e = .returned r ∧ SlR w' M r (flipS l bit bs) ∧ Below w.heap.size w w' := by
  obtain ⟨a, c, rfl⟩ := h.form
  have H := Lib.hid h
  have hM' := Lib.hid hM
  clear h hM
  go_enter Try.func40, Try.ntmps40
  go_wp2_with fail
  refine (bclone2_any _ l w Mi H.out (by omega)).mono ?_
  rintro q w1 ⟨r1, rfl, hr1, hB1⟩
  obtain ⟨A1, C1, rfl⟩ := hr1.form
  have O1 := Lib.hid hr1
  have B1 := Lib.hid hB1
  clear hr1 hB1
  by_cases hn : l.length = 0
  case pos =>
    have hR := Lib.hid (show flipS l bit bs = l by rw [List.eq_nil_of_length_eq_zero hn]; exact flipS_nil _ _)
    have h0 : ((8 * (l.length : Int)) == 0) = true := by simp [hn]
    replace hn := Lib.hid hn
    go_wp2
    go_ret
    rw [hR.out]
    exact ⟨_, rfl, (OwR.u8' (M' := M) O1.out).sl hM'.out.new, B1.out⟩
  have h0 : ((8 * (l.length : Int)) == 0) = false := by rw [beq_eq_false_iff_ne]; omega
  obtain ⟨hat, hal⟩ := flipAt_at (bit := bit) hn hl
  have hR := Lib.hid (show flipN (fsel bs) (flipAt bit l.length) l 32 = flipS l bit bs from rfl)
  generalize flipAt bit l.length = at0 at *
  obtain ⟨g, cg, hv, -, -⟩ := u8O_at O1.out (k := 0) (by omega)
  simp only [Value.slice.injEq] at hv
  obtain ⟨rfl, -, rfl⟩ := hv
  go_wp2_with fail
  clear hat h0
  go_loopw [31] (fun i wr => ∃ k : Nat, k ≤ 32 ∧ i = .int .i64 k ∧ Hid (OwR wr noM w.heap.size 5 (.slice (some ⟨g, 0, none⟩) l.length C1) (flipN (fsel bs) at0 l k) ∧ Below w.heap.size w wr)) (fun i _ => 32 - (intOf i).toNat)
  case atStart => exact ⟨0, Nat.zero_le _, rfl, Lib.hid ⟨O1.out, B1.out⟩⟩
  case round =>
    obtain ⟨k, hk, rfl, HS⟩ := hrel
    by_cases hlt : k < 32
    · by_cases hp : fsel bs k = true
      case neg =>
        have hp' : (bits .and .u32 (bits .or .u32 (bs % 4294967296) 1 / 2 ^ k) 1 == 1) = false := by
          rw [Bool.not_eq_true] at hp; exact hp
        have hE := Lib.hid (show flipN (fsel bs) at0 l (k + 1) = flipN (fsel bs) at0 l k by rw [flipN, if_neg]; simp [hp])
        clear hp
        go_wp2
        go_roundw
        case rel => exact ⟨k + 1, by omega, by go_num, by rw [hE.out]; exact HS⟩
        case measure => simp [intOf]; omega
      have hp' : (bits .and .u32 (bits .or .u32 (bs % 4294967296) 1 / 2 ^ k) 1 == 1) = true := hp
      by_cases hr : at0 + k < 8 * l.length
      case neg =>
        have hr' : ¬ (at0 : Int) + k < 8 * l.length := by omega
        have hE := Lib.hid (show flipN (fsel bs) at0 l (k + 1) = flipN (fsel bs) at0 l k by rw [flipN, if_neg]; simp [hr])
        clear hp
        go_wp2
        go_roundw
        case rel => exact ⟨k + 1, by omega, by go_num, by rw [hE.out]; exact HS⟩
        case measure => simp [intOf]; omega
      have hr' : (at0 : Int) + k < 8 * l.length := by omega
      have hE := Lib.hid (show flipN (fsel bs) at0 l (k + 1) = flipB (flipN (fsel bs) at0 l k) (at0 + k) by rw [flipN, if_pos]; simp [hp, hr])
      clear hp
      obtain ⟨q, hqe⟩ : ∃ q, (at0 + k) / 8 = q := ⟨_, rfl⟩
      obtain ⟨r, hre⟩ : ∃ r, (at0 + k) % 8 = r := ⟨_, rfl⟩
      have hq1 : IntKind.i64.wrap (((at0 : Int) + k) / 8) = q := by rw [IntKind.wrap_i64]; omega
      have hdv : ((at0 : Int) + k).tdiv 8 = ((at0 : Int) + k) / 8 := Int.tdiv_eq_ediv_of_nonneg (by omega)
      have hq2 : IntKind.i64.wrap (((at0 : Int) + k).tdiv 8) = q := by rw [hdv, hq1]
      clear hdv
      have hr3 : ((at0 : Int) + k).tmod 8 = r := by rw [Int.tmod_eq_emod_of_nonneg (by omega)]; omega
      have hr8 : r < 8 := by omega
      obtain ⟨z, hz⟩ : ∃ z : Nat, 2 ^ r = z := ⟨_, rfl⟩
      have hz256 : z < 256 := by rw [← hz]; have := Nat.pow_lt_pow_right (a := 2) (by omega) hr8; omega
      have hmn : min r 8 = r := by omega
      have hw1 : IntKind.u8.wrap (2 ^ r : Int) = (z : Int) := by
        have : ((2 ^ r : Nat) : Int) = (2 ^ r : Int) := by simp
        rw [← this, hz, IntKind.wrap_u8]; omega
      have hql : q < (flipN (fsel bs) at0 l k).length := by rw [flipN_length]; omega
      have hql' : (q : Int) < l.length := by omega
      have HL := Lib.hid (flipN_length (fsel bs) at0 l k)
      generalize flipN (fsel bs) at0 l k = L at *
      obtain ⟨g', cg', hv, hf, x1⟩ := u8O_at HS.out.1 hql
      simp only [Value.slice.injEq, Option.some.injEq, Addr.mk.injEq, and_true] at hv
      obtain ⟨rfl, -, rfl⟩ := hv
      replace hf := hf q
      have hS := Lib.hid (show wr.drew.cell? ⟨g, q, none⟩ = some (.int .u8 L[q].toNat) from x1)
      clear x1
      obtain ⟨y, hy⟩ : ∃ y, L[q] ^^^ UInt8.ofNat z = y := ⟨_, rfl⟩
      have hx : bits .xor .u8 (L[q].toNat : Int) (z : Int) = (y.toNat : Int) := by rw [← hy, ← hz]; have := flip_byte L[q] r hr8; simpa using this
      have hEy := Lib.hid (show flipB L (at0 + k) = L.set q y by subst hqe; subst hre; rw [flipB_set _ _ hql, hz, hy])
      clear hz hy
      have Hq := Lib.hid hqe
      have Hr := Lib.hid hre
      clear hqe hre
      go_wp2_with fail
      refine rg_enter [0, 1, 2, 3, 4, 5, 6, 7, 8, 9] (fun w' => w'.cell? ⟨g, q, none⟩ = some (.int .u8 L[q].toNat)) (by kernel_rfl) ?_
      apply rg_take 0 rfl (by kernel_rfl) (fun _ _ _ h => h) (hS.out) rfl
      · (rintro W hW; go_simp; try rfl)
      · (go_simp; try rfl)
      apply rg_take 1 rfl (by kernel_rfl) (fun _ _ _ h => h) (hS.out) rfl
      · (rintro W hW; go_simp; try rfl)
      · (go_simp; try rfl)
      apply rg_take 2 rfl (by kernel_rfl) (fun _ _ _ h => h) (hS.out) rfl
      · (rintro W hW; go_simp; try rfl)
      · (go_simp; try rfl)
      apply rg_take 3 rfl (by kernel_rfl) (fun _ _ _ h => h) (hS.out) rfl
      · (rintro W hW; go_simp; try rfl)
      · (go_simp; try rfl)
      apply rg_take 4 rfl (by kernel_rfl) (fun _ _ _ h => h) (hS.out) rfl
      · (rintro W hW; go_simp; try rfl)
      · (go_simp; try rfl)
      apply rg_take 5 rfl (by kernel_rfl) (fun _ _ _ h => h) (hS.out) rfl
      · (rintro W hW; go_simp; try rfl)
      · (go_simp; try rfl)
      apply rg_take 6 rfl (by kernel_rfl) (fun _ _ _ h => h) (hS.out) rfl
      · (rintro W hW; go_simp; try rfl)
      · (go_simp; try rfl)
      apply rg_take 7 rfl (by kernel_rfl) (fun _ _ _ h => h) (hS.out) rfl
      · (rintro W hW; go_simp; try rfl)
      · (go_simp; try rfl)
      apply rg_take 8 rfl (by kernel_rfl) (fun _ _ _ h => h) (hS.out) rfl
      · (rintro W hW; go_simp; try rfl)
      · (go_simp; try rfl)
      apply rg_take 9 rfl (by kernel_rfl) (fun _ _ _ h => h) (hS.out) rfl
      · (rintro W hW; go_simp; try rfl)
      · (go_simp; try rfl)
      have x1 := hS.out
      have hf' : wr.drew.frozen? ⟨g, q, none⟩ = false := hf
      have O2 := Lib.hid (HS.out.1.drew.setU8 hql y)
      have hge := HS.out.1.own_ge rfl
      have B2 := Lib.hid (HS.out.2.drew.setCell (p := ⟨g, q, none⟩) hge (.int .u8 y.toNat))
      replace hge := Lib.hid hge
      refine rg_free 10 (by kernel_rfl) (by kernel_rfl) rfl (fun K hK => ?_)
      go_simp
      refine hK _ _ ?_; clear hK K
      refine rg_done (by kernel_rfl) ?_
      clear x1 hf hf' hS HS
      go_wp2
      go_roundw
      case rel => exact ⟨k + 1, by omega, by go_num, by rw [hE.out, hEy.out]; exact Lib.hid ⟨O2.out, B2.out⟩⟩
      case measure => simp [intOf]; omega
    · obtain rfl : k = 32 := by omega
      rw [hR.out] at HS
      go_wp2
      go_ret
      exact ⟨_, rfl, (by have := (OwR.u8' (M' := M) HS.out.1).sl hM'.out.new; exact this), HS.out.2⟩
end Go.Proofs.Ytkdjacmabeeceaa
