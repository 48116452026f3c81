/-
The reference's LockDrop.
-/
import Derived.Test.YtombdkdidnoomaaLWith
import Derived.Test.YtombdkdidnoomaaLDrop
namespace Go.Proofs.Ytombdkdidnoomaa
open Go.RowKit
attribute [local go_sem ↓] Go.wp_at_zero Go.wp_at_succ

def rDropK (id : Int) (x : Lk) : Lk := ⟨x.lba, wo x.reads id, if x.writer = id then -1 else x.writer⟩
def rLive (x : Lk) : Bool := decide (0 ≤ x.writer) || decide (0 < x.reads.length)
def rDropF (l : List Lk) (id : Int) : List Lk := (l.map (rDropK id)).filter rLive
theorem rDropF_snoc {l : List Lk} {id : Int} {j : Nat} (hj : j < l.length) : rDropF (l.take (j + 1)) id = if rLive (rDropK id l[j]) = true then rDropF (l.take j) id ++ [rDropK id l[j]] else rDropF (l.take j) id := by
  have e : l.take (j + 1) = l.take j ++ [l[j]] := by rw [List.take_add_one, List.getElem?_eq_getElem hj]; rfl
  unfold rDropF
  rw [e, List.map_append, List.filter_append]
  by_cases h : rLive (rDropK id l[j]) = true <;> simp [h]
theorem rDropF_len (l : List Lk) (id : Int) : (rDropF l id).length ≤ l.length := by
  have := List.length_filter_le rLive (l.map (rDropK id))
  simpa [rDropF] using this

theorem grown_set (w : World) (g p : Nat) (u : Value) : w.grownBy (w.setCell ⟨g, p, none⟩ u) (some g) := ⟨rfl, rfl, rfl, by simp, fun j _ hne => Below.heap_setCell _ _ _ _ (fun e => hne (by rw [e]))⟩

set_option maxHeartbeats 16000000 in
theorem rdrop_any (v : Value) (l : List Lk) (id : Int) (w : World) (M : Ms) (h : SlR w M v l) (hl : l.length ≤ 1000000) (hb : ∀ x ∈ l, x.reads.length ≤ 1000000) :
    Calls Try.prog 15 #[v, .int .i64 id] w fun e w' => ∃ r, e = .returned r ∧ SlR w' noM r (rDropF l id) ∧ Below w.heap.size w w' := by
  obtain ⟨a, c, rfl⟩ := h.form
  have H := Lib.hid h
  have HBL := Lib.hid hb
  clear h hb
  go_enter Try.func15, Try.ntmps15
  go_wp2
  go_loopw [5, 6] (fun o i wr => Below w.heap.size w wr ∧ ∃ k : Nat, k ≤ l.length ∧ i = .int .i64 k ∧ Hid (OwR wr noM w.heap.size 39 o (rDropF (l.take k) id))) (fun _ i _ => l.length - (intOf i).toNat)
  case atStart => exact ⟨Below.refl _ _, 0, Nat.zero_le _, rfl, Lib.hid (OwR.nil _ _ _ _)⟩
  case round =>
    obtain ⟨hB, k, hk, rfl, hO⟩ := hrel
    have HB := Lib.hid hB
    by_cases hlt : k < l.length
    · obtain ⟨b1, o1, A1, C1, rfl, -, x1, y1, z1, s1⟩ := lk_at (H.out.mono (Keep.below hB)) hlt
      have hlt' : (k : Int) < l.length := by omega
      have HK := Lib.hid (show ∀ W, (if l[k].writer = id then -1 else l[k].writer) = W → rDropK id l[k] = ⟨l[k].lba, wo l[k].reads id, W⟩ from fun W hW => by rw [← hW]; rfl)
      have HS1 := Lib.hid (s1.mono (Keep.below (below_drew wr)))
      have HD := Lib.hid (HB.out.drew)
      have HOD := Lib.hid (OwR.drew hO.out)
      have hlk := Lib.hid (HBL.out _ (List.getElem_mem hlt))
      have hS := Lib.hid (show wr.drew.cell? ⟨b1, o1 + k * 3, none⟩ = some (.int .i64 l[k].lba) ∧ wr.drew.cell? ⟨b1, o1 + k * 3 + 1, none⟩ = some (.slice A1 l[k].reads.length C1) ∧ wr.drew.cell? ⟨b1, o1 + k * 3 + 2, none⟩ = some (.int .i64 l[k].writer) from ⟨x1, y1, z1⟩)
      clear x1 y1 z1 s1 hB HB hO
      go_wp2_with fail
      refine rp_enter [4, 9, 16] (fun w' => w'.cell? ⟨b1, o1 + k * 3, none⟩ = some (.int .i64 l[k].lba) ∧ w'.cell? ⟨b1, o1 + k * 3 + 1, none⟩ = some (.slice A1 l[k].reads.length C1) ∧ w'.cell? ⟨b1, o1 + k * 3 + 2, none⟩ = some (.int .i64 l[k].writer)) (by kernel_rfl) ?_
      generalize wr.drew = wd at *
      have HoL := Lib.hid (fun b (hb : u5.ownBlock = some b) => HOD.out.own_lt hb)
      apply rp_pure 0 rfl (by kernel_rfl) (fun _ _ _ h => h) rfl
      · (intro W; go_simp; try rfl)
      · (go_simp; try rfl)
      apply rp_pure 1 rfl (by kernel_rfl) (fun _ _ _ h => h) rfl
      · (intro W; go_simp; try rfl)
      · (go_simp; try rfl)
      apply rp_pure 2 rfl (by kernel_rfl) (fun _ _ _ h => h) rfl
      · (intro W; go_simp; try rfl)
      · (go_simp; try rfl)
      apply rp_pure 3 rfl (by kernel_rfl) (fun _ _ _ h => h) rfl
      · (intro W; go_simp; try rfl)
      · (go_simp; try rfl)
      apply rp_take 4 rfl (by kernel_rfl) (fun _ _ _ h => h) (hS.out) rfl
      · (rintro W ⟨s0, s1, s2⟩; go_simp; try rfl)
      · (go_simp; try rfl)
      apply rp_pure 5 rfl (by kernel_rfl) (fun _ _ _ h => h) rfl
      · (intro W; go_simp; try rfl)
      · (go_simp; try rfl)
      apply rp_pure 6 rfl (by kernel_rfl) (fun _ _ _ h => h) rfl
      · (intro W; go_simp; try rfl)
      · (go_simp; try rfl)
      apply rp_pure 7 rfl (by kernel_rfl) (fun _ _ _ h => h) rfl
      · (intro W; go_simp; try rfl)
      · (go_simp; try rfl)
      apply rp_pure 8 rfl (by kernel_rfl) (fun _ _ _ h => h) rfl
      · (intro W; go_simp; try rfl)
      · (go_simp; try rfl)
      apply rp_take 9 rfl (by kernel_rfl) (fun _ _ _ h => h) (hS.out) rfl
      · (rintro W ⟨s0, s1, s2⟩; go_simp; try rfl)
      · (go_simp; try rfl)
      apply rp_pure 10 rfl (by kernel_rfl) (fun _ _ _ h => h) rfl
      · (intro W; go_simp; try rfl)
      · (go_simp; try rfl)
      apply rp_pure 12 rfl (by kernel_rfl) (fun _ _ _ h => h) rfl
      · (intro W; go_simp; try rfl)
      · (go_simp; try rfl)
      apply rp_pure 13 rfl (by kernel_rfl) (fun _ _ _ h => h) rfl
      · (intro W; go_simp; try rfl)
      · (go_simp; try rfl)
      apply rp_pure 14 rfl (by kernel_rfl) (fun _ _ _ h => h) rfl
      · (intro W; go_simp; try rfl)
      · (go_simp; try rfl)
      apply rp_pure 15 rfl (by kernel_rfl) (fun _ _ _ h => h) rfl
      · (intro W; go_simp; try rfl)
      · (go_simp; try rfl)
      apply rp_take 16 rfl (by kernel_rfl) (fun _ _ _ h => h) (hS.out) rfl
      · (rintro W ⟨s0, s1, s2⟩; go_simp; try rfl)
      · (go_simp; try rfl)
      refine rp_two 11 18 (by kernel_rfl) rfl rfl (fun K hK => ?_) (fun K hK => ?_)
      · go_simp
        ((with_reducible refine (without_any _ l[k].reads id wd _ (fun b => u5.ownBlock = some b) HS1.out HoL.out hlk.out).mono ?_); rintro q w2 ⟨r2, rfl, hr2, hB2⟩)
        obtain ⟨A2, C2, rfl⟩ := hr2.form
        have hS2 := Lib.hid (show w2.cell? ⟨b1, o1 + k * 3, none⟩ = some (.int .i64 l[k].lba) ∧ w2.cell? ⟨b1, o1 + k * 3 + 1, none⟩ = some (.slice A1 l[k].reads.length C1) ∧ w2.cell? ⟨b1, o1 + k * 3 + 2, none⟩ = some (.int .i64 l[k].writer) from ⟨below_cell hB2 hS.out.1, below_cell hB2 hS.out.2.1, below_cell hB2 hS.out.2.2⟩)
        refine hK _ _ ⟨fun _ _ => hS2.out, ?_⟩; clear hK K
        apply rp_pure 17 rfl (by kernel_rfl) (fun _ _ _ h => h) rfl
        · (intro W; go_simp; try rfl)
        · (go_simp; try rfl)
        refine rp_only 18 (by kernel_rfl) rfl (fun K hK => ?_)
        go_simp
        refine hK _ _ ⟨fun _ _ => ⟨below_cell ((Below.refl w2.heap.size w2).alloc (Nat.le_refl _) (.cells #[.int .i64 0, .slice none 0 0, .int .i64 0] 39)) hS2.out.1, below_cell ((Below.refl w2.heap.size w2).alloc (Nat.le_refl _) (.cells #[.int .i64 0, .slice none 0 0, .int .i64 0] 39)) hS2.out.2.1, below_cell ((Below.refl w2.heap.size w2).alloc (Nat.le_refl _) (.cells #[.int .i64 0, .slice none 0 0, .int .i64 0] 39)) hS2.out.2.2⟩, ?_⟩; clear hK K
        refine rp_only 19 (by kernel_rfl) rfl (fun K hK => ?_)
        go_simp
        refine hK _ _ ⟨fun _ _ => ⟨below_cell ((Below.refl w2.heap.size w2).alloc (Nat.le_refl _) (.cells #[.int .i64 l[k].lba, .slice A2 (wo l[k].reads id).length C2, .int .i64 l[k].writer] 39)) hS2.out.1, below_cell ((Below.refl w2.heap.size w2).alloc (Nat.le_refl _) (.cells #[.int .i64 l[k].lba, .slice A2 (wo l[k].reads id).length C2, .int .i64 l[k].writer] 39)) hS2.out.2.1, below_cell ((Below.refl w2.heap.size w2).alloc (Nat.le_refl _) (.cells #[.int .i64 l[k].lba, .slice A2 (wo l[k].reads id).length C2, .int .i64 l[k].writer] 39)) hS2.out.2.2⟩, ?_⟩; clear hK K
        refine rp_done (by kernel_rfl) ?_
        have hbE := hB2.alloc hB2.size (.cells #[.int .i64 l[k].lba, .slice A2 (wo l[k].reads id).length C2, .int .i64 l[k].writer] 39)
        have hblkE := Blk.new w2 39 #[.int .i64 l[k].lba, .slice A2 (wo l[k].reads id).length C2, .int .i64 l[k].writer]
        have HEb := Lib.hid (HD.out.trans (hbE.mono HD.out.size))
        have HOE := Lib.hid (HOD.out.box hbE hB2.size)
        have HS2 := Lib.hid (show SlR (w2.alloc (.cells #[.int .i64 l[k].lba, .slice A2 (wo l[k].reads id).length C2, .int .i64 l[k].writer] 39)) (fun b => b = w2.heap.size ∨ u5.ownBlock = some b) _ _ from hr2.mono (fun b hb hm => ⟨fun h => h.elim (fun e => by omega) hm, Below.heap_alloc w2 _ b hb⟩))
        have HoN := Lib.hid (show u5.ownBlock ≠ some w2.heap.size from fun e => by have := HoL.out _ e; have := hB2.size; omega)
        have HN := Lib.hid (show w.heap.size ≤ w2.heap.size ∧ w2.heap.size < (w2.alloc (.cells #[.int .i64 l[k].lba, .slice A2 (wo l[k].reads id).length C2, .int .i64 l[k].writer] 39)).heap.size from ⟨Nat.le_trans HD.out.size hB2.size, hblkE.lt⟩)
        have z0 := hblkE.cell 0
        have z1 := hblkE.cell 1
        have z2 := hblkE.cell 2
        have zf := hblkE.frozen
        have zl := hblkE.lt
        simp only [List.getElem?_toArray, List.getElem?_cons_zero, List.getElem?_cons_succ] at z0 z1 z2
        clear hbE hr2 hB2 hblkE hS2 hS HS1
        generalize w2.alloc (.cells #[.int .i64 l[k].lba, .slice A2 (wo l[k].reads id).length C2, .int .i64 l[k].writer] 39) = wE at *
        generalize w2.heap.size = N at *
        clear HD HOD HoL
        by_cases hw : l[k].writer = id
        · have hwe : (l[k].writer == id) = true := by simp [hw]
          by_cases hR0 : 0 < (wo l[k].reads id).length
          · have hlv : rLive (rDropK id l[k]) = true := by rw [HK.out (-1) (by rw [if_pos hw])]; simp [rLive, hR0]
            have hR1 : (0 : Int) < (wo l[k].reads id).length := by omega
            have hgF : wE.grownBy (wE.setCell ⟨N, 2, none⟩ (.int .i64 (-1))) (some N) := ⟨rfl, rfl, rfl, by simp, fun j _ hne => Below.heap_setCell _ _ _ _ (fun e => hne (by rw [e]))⟩
            have hbF : Below w.heap.size w (wE.setCell ⟨N, 2, none⟩ (.int .i64 (-1))) := HEb.out.grown hgF HEb.out.size (fun b e => by injection e with e; rw [← e]; exact HN.out.1)
            have hOF : OwR (wE.setCell ⟨N, 2, none⟩ (.int .i64 (-1))) noM w.heap.size 39 u5 (rDropF (l.take k) id) := (HOE.out.kept hgF (.inr HoN.out) (fun b e => .inr (by injection e with e; exact e.symm))).less (fun b h => h.elim)
            have hsF : SlR (wE.setCell ⟨N, 2, none⟩ (.int .i64 (-1))) (fun b => b = N ∨ u5.ownBlock = some b) _ _ := HS2.out.mono (fun b hb hm => ⟨hm, hgF.block b hb (fun e => hm (.inl (by injection e)))⟩)
            have hbG := (Below.refl (wE.setCell ⟨N, 2, none⟩ (.int .i64 (-1))).heap.size (wE.setCell ⟨N, 2, none⟩ (.int .i64 (-1)))).alloc (Nat.le_refl _) (.cells #[.int .i64 l[k].lba, .slice A2 (wo l[k].reads id).length C2, .int .i64 (-1)] 39)
            have hblk := Blk.new (wE.setCell ⟨N, 2, none⟩ (.int .i64 (-1))) 39 #[.int .i64 l[k].lba, .slice A2 (wo l[k].reads id).length C2, .int .i64 (-1)]
            have HOG := Lib.hid (hOF.below hbG)
            have hS := Lib.hid (show SlR ((wE.setCell ⟨N, 2, none⟩ (.int .i64 (-1))).alloc (.cells #[.int .i64 l[k].lba, .slice A2 (wo l[k].reads id).length C2, .int .i64 (-1)] 39)) (fun b => noM b ∨ u5.ownBlock = some b) (.slice (some ⟨wE.heap.size, 0, none⟩) 1 1) [rDropK id l[k]] from by
              rw [HK.out (-1) (by rw [if_pos hw])]
              have h := SlR.one (M := fun b => noM b ∨ u5.ownBlock = some b) (x := (⟨l[k].lba, wo l[k].reads id, (-1)⟩ : Lk)) hblk ⟨_, rfl, (SlR.mono hsF (Keep.below hbG)).mono (Keep.less fun b h => h.elim (fun h => h.elim) .inr)⟩ (fun hm => ?_)
              · simpa using h
              · rcases hm with h | h
                · exact h
                · have h1 := hOF.own_lt h; omega)
            have hlen : (rDropF (l.take k) id).length + [rDropK id l[k]].length ≤ 1000000000 := by have := rDropF_len (l.take k) id; rw [List.length_take] at this; rw [List.length_singleton]; omega
            have hE2 := Lib.hid (show rDropF (l.take (k + 1)) id = rDropF (l.take k) id ++ [rDropK id l[k]] by rw [rDropF_snoc hlt, if_pos hlv])
            have HBG := Lib.hid (hbF.trans (hbG.mono hbF.size))
            clear hgF hOF hsF hbF hblk hlv hbG
            go_wp2_with (at_builtin; go_must (refine wpList_append_R (α := Lk) (M := noM) (base := w.heap.size) (l := rDropF (l.take k) id) (m := [rDropK id l[k]]) rfl (by rfl) tyL (by rfl) HOG.out (by rfl) hS.out hlen HBG.out.size ?_); intro v5 w5 ho5 hg5 hat5)
            rw [← hE2.out] at ho5
            have hfin := Lib.hid (And.intro (HBG.out.grown hg5 HBG.out.size (fun b e => HOG.out.own_ge e)) ho5)
            clear ho5 hg5 hat5
            go_roundw
            case rel => exact ⟨hfin.out.1, k + 1, by omega, by go_num, Lib.hid hfin.out.2⟩
            case measure => simp [intOf]; omega
          · have hlv : rLive (rDropK id l[k]) = false := by rw [HK.out (-1) (by rw [if_pos hw])]; simp only [rLive, decide_eq_false hR0]; rfl
            have hR1 : ¬ (0 : Int) < (wo l[k].reads id).length := by omega
            have hgF : wE.grownBy (wE.setCell ⟨N, 2, none⟩ (.int .i64 (-1))) (some N) := ⟨rfl, rfl, rfl, by simp, fun j _ hne => Below.heap_setCell _ _ _ _ (fun e => hne (by rw [e]))⟩
            have hbF : Below w.heap.size w (wE.setCell ⟨N, 2, none⟩ (.int .i64 (-1))) := HEb.out.grown hgF HEb.out.size (fun b e => by injection e with e; rw [← e]; exact HN.out.1)
            have hOF : OwR (wE.setCell ⟨N, 2, none⟩ (.int .i64 (-1))) noM w.heap.size 39 u5 (rDropF (l.take k) id) := (HOE.out.kept hgF (.inr HoN.out) (fun b e => .inr (by injection e with e; exact e.symm))).less (fun b h => h.elim)
            have hE2 := Lib.hid (show rDropF (l.take (k + 1)) id = rDropF (l.take k) id by rw [rDropF_snoc hlt, if_neg (by rw [hlv]; simp)])
            have hfin := Lib.hid (show Below w.heap.size w (wE.setCell ⟨N, 2, none⟩ (.int .i64 (-1))) ∧ OwR (wE.setCell ⟨N, 2, none⟩ (.int .i64 (-1))) noM w.heap.size 39 u5 (rDropF (l.take (k + 1)) id) from ⟨hbF, by rw [hE2.out]; exact hOF⟩)
            clear hgF hOF hbF hlv
            go_wp2
            go_roundw
            case rel => exact ⟨hfin.out.1, k + 1, by omega, by go_num, Lib.hid hfin.out.2⟩
            case measure => simp [intOf]; omega
        · have hwe : (l[k].writer == id) = false := by simpa using hw
          by_cases hm : 0 ≤ l[k].writer
          · have hlv : rLive (rDropK id l[k]) = true := by rw [HK.out l[k].writer (by rw [if_neg hw])]; simp [rLive, hm]
            have hgF : wE.grownBy wE (some N) := World.grownBy.refl _ _
            have hbF : Below w.heap.size w wE := HEb.out.grown hgF HEb.out.size (fun b e => by injection e with e; rw [← e]; exact HN.out.1)
            have hOF : OwR wE noM w.heap.size 39 u5 (rDropF (l.take k) id) := (HOE.out.kept hgF (.inr HoN.out) (fun b e => .inr (by injection e with e; exact e.symm))).less (fun b h => h.elim)
            have hsF : SlR wE (fun b => b = N ∨ u5.ownBlock = some b) _ _ := HS2.out.mono (fun b hb hm => ⟨hm, hgF.block b hb (fun e => hm (.inl (by injection e)))⟩)
            have hbG := (Below.refl wE.heap.size wE).alloc (Nat.le_refl _) (.cells #[.int .i64 l[k].lba, .slice A2 (wo l[k].reads id).length C2, .int .i64 l[k].writer] 39)
            have hblk := Blk.new wE 39 #[.int .i64 l[k].lba, .slice A2 (wo l[k].reads id).length C2, .int .i64 l[k].writer]
            have HOG := Lib.hid (hOF.below hbG)
            have hS := Lib.hid (show SlR (wE.alloc (.cells #[.int .i64 l[k].lba, .slice A2 (wo l[k].reads id).length C2, .int .i64 l[k].writer] 39)) (fun b => noM b ∨ u5.ownBlock = some b) (.slice (some ⟨wE.heap.size, 0, none⟩) 1 1) [rDropK id l[k]] from by
              rw [HK.out l[k].writer (by rw [if_neg hw])]
              have h := SlR.one (M := fun b => noM b ∨ u5.ownBlock = some b) (x := (⟨l[k].lba, wo l[k].reads id, l[k].writer⟩ : Lk)) hblk ⟨_, rfl, (SlR.mono hsF (Keep.below hbG)).mono (Keep.less fun b h => h.elim (fun h => h.elim) .inr)⟩ (fun hm => ?_)
              · simpa using h
              · rcases hm with h | h
                · exact h
                · have h1 := hOF.own_lt h; omega)
            have hlen : (rDropF (l.take k) id).length + [rDropK id l[k]].length ≤ 1000000000 := by have := rDropF_len (l.take k) id; rw [List.length_take] at this; rw [List.length_singleton]; omega
            have hE2 := Lib.hid (show rDropF (l.take (k + 1)) id = rDropF (l.take k) id ++ [rDropK id l[k]] by rw [rDropF_snoc hlt, if_pos hlv])
            have HBG := Lib.hid (hbF.trans (hbG.mono hbF.size))
            clear hgF hOF hsF hbF hblk hlv hbG
            go_wp2_with (at_builtin; go_must (refine wpList_append_R (α := Lk) (M := noM) (base := w.heap.size) (l := rDropF (l.take k) id) (m := [rDropK id l[k]]) rfl (by rfl) tyL (by rfl) HOG.out (by rfl) hS.out hlen HBG.out.size ?_); intro v5 w5 ho5 hg5 hat5)
            rw [← hE2.out] at ho5
            have hfin := Lib.hid (And.intro (HBG.out.grown hg5 HBG.out.size (fun b e => HOG.out.own_ge e)) ho5)
            clear ho5 hg5 hat5
            go_roundw
            case rel => exact ⟨hfin.out.1, k + 1, by omega, by go_num, Lib.hid hfin.out.2⟩
            case measure => simp [intOf]; omega
          have hm' : decide ((0 : Int) ≤ l[k].writer) = false := decide_eq_false hm
          have Hm := Lib.hid hm
          clear hm
          by_cases hR0 : 0 < (wo l[k].reads id).length
          · have hlv : rLive (rDropK id l[k]) = true := by rw [HK.out l[k].writer (by rw [if_neg hw])]; simp [rLive, hR0]
            have hR1 : (0 : Int) < (wo l[k].reads id).length := by omega
            have hgF : wE.grownBy wE (some N) := World.grownBy.refl _ _
            have hbF : Below w.heap.size w wE := HEb.out.grown hgF HEb.out.size (fun b e => by injection e with e; rw [← e]; exact HN.out.1)
            have hOF : OwR wE noM w.heap.size 39 u5 (rDropF (l.take k) id) := (HOE.out.kept hgF (.inr HoN.out) (fun b e => .inr (by injection e with e; exact e.symm))).less (fun b h => h.elim)
            have hsF : SlR wE (fun b => b = N ∨ u5.ownBlock = some b) _ _ := HS2.out.mono (fun b hb hm => ⟨hm, hgF.block b hb (fun e => hm (.inl (by injection e)))⟩)
            have hbG := (Below.refl wE.heap.size wE).alloc (Nat.le_refl _) (.cells #[.int .i64 l[k].lba, .slice A2 (wo l[k].reads id).length C2, .int .i64 l[k].writer] 39)
            have hblk := Blk.new wE 39 #[.int .i64 l[k].lba, .slice A2 (wo l[k].reads id).length C2, .int .i64 l[k].writer]
            have HOG := Lib.hid (hOF.below hbG)
            have hS := Lib.hid (show SlR (wE.alloc (.cells #[.int .i64 l[k].lba, .slice A2 (wo l[k].reads id).length C2, .int .i64 l[k].writer] 39)) (fun b => noM b ∨ u5.ownBlock = some b) (.slice (some ⟨wE.heap.size, 0, none⟩) 1 1) [rDropK id l[k]] from by
              rw [HK.out l[k].writer (by rw [if_neg hw])]
              have h := SlR.one (M := fun b => noM b ∨ u5.ownBlock = some b) (x := (⟨l[k].lba, wo l[k].reads id, l[k].writer⟩ : Lk)) hblk ⟨_, rfl, (SlR.mono hsF (Keep.below hbG)).mono (Keep.less fun b h => h.elim (fun h => h.elim) .inr)⟩ (fun hm => ?_)
              · simpa using h
              · rcases hm with h | h
                · exact h
                · have h1 := hOF.own_lt h; omega)
            have hlen : (rDropF (l.take k) id).length + [rDropK id l[k]].length ≤ 1000000000 := by have := rDropF_len (l.take k) id; rw [List.length_take] at this; rw [List.length_singleton]; omega
            have hE2 := Lib.hid (show rDropF (l.take (k + 1)) id = rDropF (l.take k) id ++ [rDropK id l[k]] by rw [rDropF_snoc hlt, if_pos hlv])
            have HBG := Lib.hid (hbF.trans (hbG.mono hbF.size))
            clear hgF hOF hsF hbF hblk hlv hbG
            go_wp2_with (at_builtin; go_must (refine wpList_append_R (α := Lk) (M := noM) (base := w.heap.size) (l := rDropF (l.take k) id) (m := [rDropK id l[k]]) rfl (by rfl) tyL (by rfl) HOG.out (by rfl) hS.out hlen HBG.out.size ?_); intro v5 w5 ho5 hg5 hat5)
            rw [← hE2.out] at ho5
            have hfin := Lib.hid (And.intro (HBG.out.grown hg5 HBG.out.size (fun b e => HOG.out.own_ge e)) ho5)
            clear ho5 hg5 hat5
            go_roundw
            case rel => exact ⟨hfin.out.1, k + 1, by omega, by go_num, Lib.hid hfin.out.2⟩
            case measure => simp [intOf]; omega
          · have hlv : rLive (rDropK id l[k]) = false := by rw [HK.out l[k].writer (by rw [if_neg hw])]; simp only [rLive, decide_eq_false hR0, decide_eq_false Hm.out]; rfl
            have hR1 : ¬ (0 : Int) < (wo l[k].reads id).length := by omega
            have hgF : wE.grownBy wE (some N) := World.grownBy.refl _ _
            have hbF : Below w.heap.size w wE := HEb.out.grown hgF HEb.out.size (fun b e => by injection e with e; rw [← e]; exact HN.out.1)
            have hOF : OwR wE noM w.heap.size 39 u5 (rDropF (l.take k) id) := (HOE.out.kept hgF (.inr HoN.out) (fun b e => .inr (by injection e with e; exact e.symm))).less (fun b h => h.elim)
            have hE2 := Lib.hid (show rDropF (l.take (k + 1)) id = rDropF (l.take k) id by rw [rDropF_snoc hlt, if_neg (by rw [hlv]; simp)])
            have hfin := Lib.hid (show Below w.heap.size w wE ∧ OwR wE noM w.heap.size 39 u5 (rDropF (l.take (k + 1)) id) from ⟨hbF, by rw [hE2.out]; exact hOF⟩)
            clear hgF hOF hbF hlv
            go_wp2
            go_roundw
            case rel => exact ⟨hfin.out.1, k + 1, by omega, by go_num, Lib.hid hfin.out.2⟩
            case measure => simp [intOf]; omega
      · go_simp
        have hbA := (Below.refl wd.heap.size wd).alloc (Nat.le_refl _) (.cells #[.int .i64 0, .slice none 0 0, .int .i64 0] 39)
        have hblkA := Blk.new wd 39 #[.int .i64 0, .slice none 0 0, .int .i64 0]
        have hSA := Lib.hid (show (wd.alloc (.cells #[.int .i64 0, .slice none 0 0, .int .i64 0] 39)).cell? ⟨b1, o1 + k * 3, none⟩ = some (.int .i64 l[k].lba) ∧ (wd.alloc (.cells #[.int .i64 0, .slice none 0 0, .int .i64 0] 39)).cell? ⟨b1, o1 + k * 3 + 1, none⟩ = some (.slice A1 l[k].reads.length C1) ∧ (wd.alloc (.cells #[.int .i64 0, .slice none 0 0, .int .i64 0] 39)).cell? ⟨b1, o1 + k * 3 + 2, none⟩ = some (.int .i64 l[k].writer) from ⟨below_cell hbA hS.out.1, below_cell hbA hS.out.2.1, below_cell hbA hS.out.2.2⟩)
        refine hK _ _ ⟨fun _ _ => hSA.out, ?_⟩; clear hK K
        refine rp_only 11 (by kernel_rfl) rfl (fun K hK => ?_)
        go_simp
        ((with_reducible refine (without_any _ l[k].reads id (wd.alloc (.cells #[.int .i64 0, .slice none 0 0, .int .i64 0] 39)) _ (fun b => b = wd.heap.size ∨ u5.ownBlock = some b) (HS1.out.mono (Keep.below hbA)) (fun b h => h.elim (fun e => by rw [e]; exact hblkA.lt) (fun h => Nat.lt_of_lt_of_le (HoL.out b h) hbA.size)) hlk.out).mono ?_); rintro q w2 ⟨r2, rfl, hr2, hB2⟩)
        obtain ⟨A2, C2, rfl⟩ := hr2.form
        have hS2 := Lib.hid (show w2.cell? ⟨b1, o1 + k * 3, none⟩ = some (.int .i64 l[k].lba) ∧ w2.cell? ⟨b1, o1 + k * 3 + 1, none⟩ = some (.slice A1 l[k].reads.length C1) ∧ w2.cell? ⟨b1, o1 + k * 3 + 2, none⟩ = some (.int .i64 l[k].writer) from ⟨below_cell hB2 hSA.out.1, below_cell hB2 hSA.out.2.1, below_cell hB2 hSA.out.2.2⟩)
        refine hK _ _ ⟨fun _ _ => hS2.out, ?_⟩; clear hK K
        apply rp_pure 17 rfl (by kernel_rfl) (fun _ _ _ h => h) rfl
        · (intro W; go_simp; try rfl)
        · (go_simp; try rfl)
        refine rp_only 19 (by kernel_rfl) rfl (fun K hK => ?_)
        have hblk2 := hblkA.below hB2
        have z0 := hblk2.cell 0
        have z1 := hblk2.cell 1
        have z2 := hblk2.cell 2
        have zf := hblk2.frozen
        simp only [List.getElem?_toArray, List.getElem?_cons_zero, List.getElem?_cons_succ] at z0 z1 z2
        go_simp
        have hgE : w2.grownBy (((w2.setCell ⟨wd.heap.size, 0, none⟩ (.int .i64 l[k].lba)).setCell ⟨wd.heap.size, 1, none⟩ (.slice A2 (wo l[k].reads id).length C2)).setCell ⟨wd.heap.size, 2, none⟩ (.int .i64 l[k].writer)) (some wd.heap.size) := ((grown_set w2 wd.heap.size 0 _).trans (grown_set _ wd.heap.size 1 _)).trans (grown_set _ wd.heap.size 2 _)
        have hb1 : some b1 ≠ some wd.heap.size := fun e => by have h := World.block_lt_of_cell? wd _ hS.out.1; injection e with e; exact absurd (show b1 < b1 from by rw [e] at h ⊢; exact h) (Nat.lt_irrefl _)
        refine hK _ _ ⟨fun _ _ => ⟨hgE.cell hS2.out.1 hb1, hgE.cell hS2.out.2.1 hb1, hgE.cell hS2.out.2.2 hb1⟩, ?_⟩; clear hK K
        refine rp_done (by kernel_rfl) ?_
        have hbAE := hbA.trans (hB2.mono hbA.size)
        have hblkE : Blk (((w2.setCell ⟨wd.heap.size, 0, none⟩ (.int .i64 l[k].lba)).setCell ⟨wd.heap.size, 1, none⟩ (.slice A2 (wo l[k].reads id).length C2)).setCell ⟨wd.heap.size, 2, none⟩ (.int .i64 l[k].writer)) wd.heap.size 39 #[.int .i64 l[k].lba, .slice A2 (wo l[k].reads id).length C2, .int .i64 l[k].writer] := ((hblk2.set_ 0 (.int .i64 l[k].lba)).set_ 1 (.slice A2 (wo l[k].reads id).length C2)).set_ 2 (.int .i64 l[k].writer)
        have hbE : Below wd.heap.size wd (((w2.setCell ⟨wd.heap.size, 0, none⟩ (.int .i64 l[k].lba)).setCell ⟨wd.heap.size, 1, none⟩ (.slice A2 (wo l[k].reads id).length C2)).setCell ⟨wd.heap.size, 2, none⟩ (.int .i64 l[k].writer)) := ⟨hgE.os.trans hbAE.os, hgE.tape.trans hbAE.tape, hgE.output.trans hbAE.output, Nat.le_trans hbAE.size hgE.size, fun j hj => (hgE.block j (Nat.lt_of_lt_of_le hj hbAE.size) (fun e => by injection e with e; omega)).trans (hbAE.block j hj)⟩
        have HEb := Lib.hid (HD.out.trans (hbE.mono HD.out.size))
        have HOE := Lib.hid (HOD.out.box hbE (Nat.le_refl wd.heap.size))
        have HS2 := Lib.hid (show SlR (((w2.setCell ⟨wd.heap.size, 0, none⟩ (.int .i64 l[k].lba)).setCell ⟨wd.heap.size, 1, none⟩ (.slice A2 (wo l[k].reads id).length C2)).setCell ⟨wd.heap.size, 2, none⟩ (.int .i64 l[k].writer)) (fun b => b = wd.heap.size ∨ u5.ownBlock = some b) _ _ from hr2.mono (fun b hb hm => ⟨hm, hgE.block b hb (fun e => hm (.inl (by injection e)))⟩))
        have HoN := Lib.hid (show u5.ownBlock ≠ some wd.heap.size from fun e => by have := HoL.out _ e; omega)
        have HN := Lib.hid (show w.heap.size ≤ wd.heap.size ∧ wd.heap.size < (((w2.setCell ⟨wd.heap.size, 0, none⟩ (.int .i64 l[k].lba)).setCell ⟨wd.heap.size, 1, none⟩ (.slice A2 (wo l[k].reads id).length C2)).setCell ⟨wd.heap.size, 2, none⟩ (.int .i64 l[k].writer)).heap.size from ⟨HD.out.size, hblkE.lt⟩)
        clear z0 z1 z2 zf hgE hb1 hbAE hbA hblkA hblk2 hSA
        have z0 := hblkE.cell 0
        have z1 := hblkE.cell 1
        have z2 := hblkE.cell 2
        have zf := hblkE.frozen
        have zl := hblkE.lt
        simp only [List.getElem?_toArray, List.getElem?_cons_zero, List.getElem?_cons_succ] at z0 z1 z2
        clear hbE hr2 hB2 hblkE hS2 hS HS1
        generalize (((w2.setCell ⟨wd.heap.size, 0, none⟩ (.int .i64 l[k].lba)).setCell ⟨wd.heap.size, 1, none⟩ (.slice A2 (wo l[k].reads id).length C2)).setCell ⟨wd.heap.size, 2, none⟩ (.int .i64 l[k].writer)) = wE at *
        generalize wd.heap.size = N at *
        clear HD HOD HoL
        by_cases hw : l[k].writer = id
        · have hwe : (l[k].writer == id) = true := by simp [hw]
          by_cases hR0 : 0 < (wo l[k].reads id).length
          · have hlv : rLive (rDropK id l[k]) = true := by rw [HK.out (-1) (by rw [if_pos hw])]; simp [rLive, hR0]
            have hR1 : (0 : Int) < (wo l[k].reads id).length := by omega
            have hgF : wE.grownBy (wE.setCell ⟨N, 2, none⟩ (.int .i64 (-1))) (some N) := ⟨rfl, rfl, rfl, by simp, fun j _ hne => Below.heap_setCell _ _ _ _ (fun e => hne (by rw [e]))⟩
            have hbF : Below w.heap.size w (wE.setCell ⟨N, 2, none⟩ (.int .i64 (-1))) := HEb.out.grown hgF HEb.out.size (fun b e => by injection e with e; rw [← e]; exact HN.out.1)
            have hOF : OwR (wE.setCell ⟨N, 2, none⟩ (.int .i64 (-1))) noM w.heap.size 39 u5 (rDropF (l.take k) id) := (HOE.out.kept hgF (.inr HoN.out) (fun b e => .inr (by injection e with e; exact e.symm))).less (fun b h => h.elim)
            have hsF : SlR (wE.setCell ⟨N, 2, none⟩ (.int .i64 (-1))) (fun b => b = N ∨ u5.ownBlock = some b) _ _ := HS2.out.mono (fun b hb hm => ⟨hm, hgF.block b hb (fun e => hm (.inl (by injection e)))⟩)
            have hbG := (Below.refl (wE.setCell ⟨N, 2, none⟩ (.int .i64 (-1))).heap.size (wE.setCell ⟨N, 2, none⟩ (.int .i64 (-1)))).alloc (Nat.le_refl _) (.cells #[.int .i64 l[k].lba, .slice A2 (wo l[k].reads id).length C2, .int .i64 (-1)] 39)
            have hblk := Blk.new (wE.setCell ⟨N, 2, none⟩ (.int .i64 (-1))) 39 #[.int .i64 l[k].lba, .slice A2 (wo l[k].reads id).length C2, .int .i64 (-1)]
            have HOG := Lib.hid (hOF.below hbG)
            have hS := Lib.hid (show SlR ((wE.setCell ⟨N, 2, none⟩ (.int .i64 (-1))).alloc (.cells #[.int .i64 l[k].lba, .slice A2 (wo l[k].reads id).length C2, .int .i64 (-1)] 39)) (fun b => noM b ∨ u5.ownBlock = some b) (.slice (some ⟨wE.heap.size, 0, none⟩) 1 1) [rDropK id l[k]] from by
              rw [HK.out (-1) (by rw [if_pos hw])]
              have h := SlR.one (M := fun b => noM b ∨ u5.ownBlock = some b) (x := (⟨l[k].lba, wo l[k].reads id, (-1)⟩ : Lk)) hblk ⟨_, rfl, (SlR.mono hsF (Keep.below hbG)).mono (Keep.less fun b h => h.elim (fun h => h.elim) .inr)⟩ (fun hm => ?_)
              · simpa using h
              · rcases hm with h | h
                · exact h
                · have h1 := hOF.own_lt h; omega)
            have hlen : (rDropF (l.take k) id).length + [rDropK id l[k]].length ≤ 1000000000 := by have := rDropF_len (l.take k) id; rw [List.length_take] at this; rw [List.length_singleton]; omega
            have hE2 := Lib.hid (show rDropF (l.take (k + 1)) id = rDropF (l.take k) id ++ [rDropK id l[k]] by rw [rDropF_snoc hlt, if_pos hlv])
            have HBG := Lib.hid (hbF.trans (hbG.mono hbF.size))
            clear hgF hOF hsF hbF hblk hlv hbG
            go_wp2_with (at_builtin; go_must (refine wpList_append_R (α := Lk) (M := noM) (base := w.heap.size) (l := rDropF (l.take k) id) (m := [rDropK id l[k]]) rfl (by rfl) tyL (by rfl) HOG.out (by rfl) hS.out hlen HBG.out.size ?_); intro v5 w5 ho5 hg5 hat5)
            rw [← hE2.out] at ho5
            have hfin := Lib.hid (And.intro (HBG.out.grown hg5 HBG.out.size (fun b e => HOG.out.own_ge e)) ho5)
            clear ho5 hg5 hat5
            go_roundw
            case rel => exact ⟨hfin.out.1, k + 1, by omega, by go_num, Lib.hid hfin.out.2⟩
            case measure => simp [intOf]; omega
          · have hlv : rLive (rDropK id l[k]) = false := by rw [HK.out (-1) (by rw [if_pos hw])]; simp only [rLive, decide_eq_false hR0]; rfl
            have hR1 : ¬ (0 : Int) < (wo l[k].reads id).length := by omega
            have hgF : wE.grownBy (wE.setCell ⟨N, 2, none⟩ (.int .i64 (-1))) (some N) := ⟨rfl, rfl, rfl, by simp, fun j _ hne => Below.heap_setCell _ _ _ _ (fun e => hne (by rw [e]))⟩
            have hbF : Below w.heap.size w (wE.setCell ⟨N, 2, none⟩ (.int .i64 (-1))) := HEb.out.grown hgF HEb.out.size (fun b e => by injection e with e; rw [← e]; exact HN.out.1)
            have hOF : OwR (wE.setCell ⟨N, 2, none⟩ (.int .i64 (-1))) noM w.heap.size 39 u5 (rDropF (l.take k) id) := (HOE.out.kept hgF (.inr HoN.out) (fun b e => .inr (by injection e with e; exact e.symm))).less (fun b h => h.elim)
            have hE2 := Lib.hid (show rDropF (l.take (k + 1)) id = rDropF (l.take k) id by rw [rDropF_snoc hlt, if_neg (by rw [hlv]; simp)])
            have hfin := Lib.hid (show Below w.heap.size w (wE.setCell ⟨N, 2, none⟩ (.int .i64 (-1))) ∧ OwR (wE.setCell ⟨N, 2, none⟩ (.int .i64 (-1))) noM w.heap.size 39 u5 (rDropF (l.take (k + 1)) id) from ⟨hbF, by rw [hE2.out]; exact hOF⟩)
            clear hgF hOF hbF hlv
            go_wp2
            go_roundw
            case rel => exact ⟨hfin.out.1, k + 1, by omega, by go_num, Lib.hid hfin.out.2⟩
            case measure => simp [intOf]; omega
        · have hwe : (l[k].writer == id) = false := by simpa using hw
          by_cases hm : 0 ≤ l[k].writer
          · have hlv : rLive (rDropK id l[k]) = true := by rw [HK.out l[k].writer (by rw [if_neg hw])]; simp [rLive, hm]
            have hgF : wE.grownBy wE (some N) := World.grownBy.refl _ _
            have hbF : Below w.heap.size w wE := HEb.out.grown hgF HEb.out.size (fun b e => by injection e with e; rw [← e]; exact HN.out.1)
            have hOF : OwR wE noM w.heap.size 39 u5 (rDropF (l.take k) id) := (HOE.out.kept hgF (.inr HoN.out) (fun b e => .inr (by injection e with e; exact e.symm))).less (fun b h => h.elim)
            have hsF : SlR wE (fun b => b = N ∨ u5.ownBlock = some b) _ _ := HS2.out.mono (fun b hb hm => ⟨hm, hgF.block b hb (fun e => hm (.inl (by injection e)))⟩)
            have hbG := (Below.refl wE.heap.size wE).alloc (Nat.le_refl _) (.cells #[.int .i64 l[k].lba, .slice A2 (wo l[k].reads id).length C2, .int .i64 l[k].writer] 39)
            have hblk := Blk.new wE 39 #[.int .i64 l[k].lba, .slice A2 (wo l[k].reads id).length C2, .int .i64 l[k].writer]
            have HOG := Lib.hid (hOF.below hbG)
            have hS := Lib.hid (show SlR (wE.alloc (.cells #[.int .i64 l[k].lba, .slice A2 (wo l[k].reads id).length C2, .int .i64 l[k].writer] 39)) (fun b => noM b ∨ u5.ownBlock = some b) (.slice (some ⟨wE.heap.size, 0, none⟩) 1 1) [rDropK id l[k]] from by
              rw [HK.out l[k].writer (by rw [if_neg hw])]
              have h := SlR.one (M := fun b => noM b ∨ u5.ownBlock = some b) (x := (⟨l[k].lba, wo l[k].reads id, l[k].writer⟩ : Lk)) hblk ⟨_, rfl, (SlR.mono hsF (Keep.below hbG)).mono (Keep.less fun b h => h.elim (fun h => h.elim) .inr)⟩ (fun hm => ?_)
              · simpa using h
              · rcases hm with h | h
                · exact h
                · have h1 := hOF.own_lt h; omega)
            have hlen : (rDropF (l.take k) id).length + [rDropK id l[k]].length ≤ 1000000000 := by have := rDropF_len (l.take k) id; rw [List.length_take] at this; rw [List.length_singleton]; omega
            have hE2 := Lib.hid (show rDropF (l.take (k + 1)) id = rDropF (l.take k) id ++ [rDropK id l[k]] by rw [rDropF_snoc hlt, if_pos hlv])
            have HBG := Lib.hid (hbF.trans (hbG.mono hbF.size))
            clear hgF hOF hsF hbF hblk hlv hbG
            go_wp2_with (at_builtin; go_must (refine wpList_append_R (α := Lk) (M := noM) (base := w.heap.size) (l := rDropF (l.take k) id) (m := [rDropK id l[k]]) rfl (by rfl) tyL (by rfl) HOG.out (by rfl) hS.out hlen HBG.out.size ?_); intro v5 w5 ho5 hg5 hat5)
            rw [← hE2.out] at ho5
            have hfin := Lib.hid (And.intro (HBG.out.grown hg5 HBG.out.size (fun b e => HOG.out.own_ge e)) ho5)
            clear ho5 hg5 hat5
            go_roundw
            case rel => exact ⟨hfin.out.1, k + 1, by omega, by go_num, Lib.hid hfin.out.2⟩
            case measure => simp [intOf]; omega
          have hm' : decide ((0 : Int) ≤ l[k].writer) = false := decide_eq_false hm
          have Hm := Lib.hid hm
          clear hm
          by_cases hR0 : 0 < (wo l[k].reads id).length
          · have hlv : rLive (rDropK id l[k]) = true := by rw [HK.out l[k].writer (by rw [if_neg hw])]; simp [rLive, hR0]
            have hR1 : (0 : Int) < (wo l[k].reads id).length := by omega
            have hgF : wE.grownBy wE (some N) := World.grownBy.refl _ _
            have hbF : Below w.heap.size w wE := HEb.out.grown hgF HEb.out.size (fun b e => by injection e with e; rw [← e]; exact HN.out.1)
            have hOF : OwR wE noM w.heap.size 39 u5 (rDropF (l.take k) id) := (HOE.out.kept hgF (.inr HoN.out) (fun b e => .inr (by injection e with e; exact e.symm))).less (fun b h => h.elim)
            have hsF : SlR wE (fun b => b = N ∨ u5.ownBlock = some b) _ _ := HS2.out.mono (fun b hb hm => ⟨hm, hgF.block b hb (fun e => hm (.inl (by injection e)))⟩)
            have hbG := (Below.refl wE.heap.size wE).alloc (Nat.le_refl _) (.cells #[.int .i64 l[k].lba, .slice A2 (wo l[k].reads id).length C2, .int .i64 l[k].writer] 39)
            have hblk := Blk.new wE 39 #[.int .i64 l[k].lba, .slice A2 (wo l[k].reads id).length C2, .int .i64 l[k].writer]
            have HOG := Lib.hid (hOF.below hbG)
            have hS := Lib.hid (show SlR (wE.alloc (.cells #[.int .i64 l[k].lba, .slice A2 (wo l[k].reads id).length C2, .int .i64 l[k].writer] 39)) (fun b => noM b ∨ u5.ownBlock = some b) (.slice (some ⟨wE.heap.size, 0, none⟩) 1 1) [rDropK id l[k]] from by
              rw [HK.out l[k].writer (by rw [if_neg hw])]
              have h := SlR.one (M := fun b => noM b ∨ u5.ownBlock = some b) (x := (⟨l[k].lba, wo l[k].reads id, l[k].writer⟩ : Lk)) hblk ⟨_, rfl, (SlR.mono hsF (Keep.below hbG)).mono (Keep.less fun b h => h.elim (fun h => h.elim) .inr)⟩ (fun hm => ?_)
              · simpa using h
              · rcases hm with h | h
                · exact h
                · have h1 := hOF.own_lt h; omega)
            have hlen : (rDropF (l.take k) id).length + [rDropK id l[k]].length ≤ 1000000000 := by have := rDropF_len (l.take k) id; rw [List.length_take] at this; rw [List.length_singleton]; omega
            have hE2 := Lib.hid (show rDropF (l.take (k + 1)) id = rDropF (l.take k) id ++ [rDropK id l[k]] by rw [rDropF_snoc hlt, if_pos hlv])
            have HBG := Lib.hid (hbF.trans (hbG.mono hbF.size))
            clear hgF hOF hsF hbF hblk hlv hbG
            go_wp2_with (at_builtin; go_must (refine wpList_append_R (α := Lk) (M := noM) (base := w.heap.size) (l := rDropF (l.take k) id) (m := [rDropK id l[k]]) rfl (by rfl) tyL (by rfl) HOG.out (by rfl) hS.out hlen HBG.out.size ?_); intro v5 w5 ho5 hg5 hat5)
            rw [← hE2.out] at ho5
            have hfin := Lib.hid (And.intro (HBG.out.grown hg5 HBG.out.size (fun b e => HOG.out.own_ge e)) ho5)
            clear ho5 hg5 hat5
            go_roundw
            case rel => exact ⟨hfin.out.1, k + 1, by omega, by go_num, Lib.hid hfin.out.2⟩
            case measure => simp [intOf]; omega
          · have hlv : rLive (rDropK id l[k]) = false := by rw [HK.out l[k].writer (by rw [if_neg hw])]; simp only [rLive, decide_eq_false hR0, decide_eq_false Hm.out]; rfl
            have hR1 : ¬ (0 : Int) < (wo l[k].reads id).length := by omega
            have hgF : wE.grownBy wE (some N) := World.grownBy.refl _ _
            have hbF : Below w.heap.size w wE := HEb.out.grown hgF HEb.out.size (fun b e => by injection e with e; rw [← e]; exact HN.out.1)
            have hOF : OwR wE noM w.heap.size 39 u5 (rDropF (l.take k) id) := (HOE.out.kept hgF (.inr HoN.out) (fun b e => .inr (by injection e with e; exact e.symm))).less (fun b h => h.elim)
            have hE2 := Lib.hid (show rDropF (l.take (k + 1)) id = rDropF (l.take k) id by rw [rDropF_snoc hlt, if_neg (by rw [hlv]; simp)])
            have hfin := Lib.hid (show Below w.heap.size w wE ∧ OwR wE noM w.heap.size 39 u5 (rDropF (l.take (k + 1)) id) from ⟨hbF, by rw [hE2.out]; exact hOF⟩)
            clear hgF hOF hbF hlv
            go_wp2
            go_roundw
            case rel => exact ⟨hfin.out.1, k + 1, by omega, by go_num, Lib.hid hfin.out.2⟩
            case measure => simp [intOf]; omega
    · obtain rfl : k = l.length := by omega
      rw [List.take_length] at hO
      go_wp2
      go_ret
      exact ⟨_, rfl, hO.out.sl (fun b _ h => h), HB.out⟩
end Go.Proofs.Ytombdkdidnoomaa
