/-
Several texts in one.
-/
import Derived.Test.YtpknhpfbinplgaaPRExactP3
import Derived.Deep.DeepCutAuto
import Derived.Test.YtpknhpfbinplgaaPRExactP1
import Derived.ProofKit
import Derived.Deep.Slices
import Derived.Test.YtpknhpfbinplgaaRows
import Derived.Below
import Derived.ChangeSame
import Derived.Carry

/-
The reference: a record's bytes, a record's cell.
-/
section
namespace Go.Proofs.Ytpknhpfbinplgaa
open Go.RowKit
attribute [local go_sem ↓] Go.wp_at_zero Go.wp_at_succ

theorem recB_lit (K S E A O : Nat) (x : Img) : recB ⟨K, S, E, A, O, x⟩ = (([UInt8.ofNat (K % 256)] ++ leB 4 S) ++ leB 4 E) ++ [UInt8.ofNat (A % 256), UInt8.ofNat (O % 256)] ++ (if (K : Int) = 1 then imgB x else []) := by
  rw [recB]
  simp [numsOf, szR, rowB, leB]
theorem imgB_lit (Z W : Nat) (x : Img) (hz : x.zone = Z) (hw : whatB x.what = W) : imgB x = [UInt8.ofNat (Z % 256), UInt8.ofNat (W % 256)] ++ (UInt8.ofNat x.bytes.length :: x.bytes) := by
  rw [imgB, hz, hw]
  simp [rowB, leB]
theorem u8_lit (k : Nat) (h : k < 256) : ((UInt8.ofNat k).toNat : Int) = (k : Int) := by rw [UInt8.toNat_ofNat_of_lt' h]
theorem wrap8 (k : Nat) : IntKind.u8.wrap (k : Int) = ((k % 256 : Nat) : Int) := by rw [IntKind.wrap_u8]; omega
theorem OwR.lit1 (w : World) (k : Nat) (h : k < 256) : OwR (w.alloc (.cells #[.int .u8 (k : Int)] 5)) noM w.heap.size 5 (.slice (some ⟨w.heap.size, 0, none⟩) 1 1) [UInt8.ofNat k] := by
  have hL := OwR.litB w noM [UInt8.ofNat k] (by simp)
  simpa only [List.map_cons, List.map_nil, u8_lit k h, List.length_cons, List.length_nil] using hL
theorem OwR.lit2 (w : World) (k m : Nat) (h : k < 256) (h' : m < 256) : OwR (w.alloc (.cells #[.int .u8 (k : Int), .int .u8 (m : Int)] 5)) noM w.heap.size 5 (.slice (some ⟨w.heap.size, 0, none⟩) 2 2) [UInt8.ofNat k, UInt8.ofNat m] := by
  have hL := OwR.litB w noM [UInt8.ofNat k, UInt8.ofNat m] (by simp)
  simpa only [List.map_cons, List.map_nil, u8_lit k h, u8_lit m h', List.length_cons, List.length_nil] using hL
/-- The numbers of a right record. -/
theorem okR_nat {g : Geo} {r : Rc} (h : okR g r = true) : ∃ K S E A O : Nat, r.kind = K ∧ r.seq = S ∧ r.epoch = E ∧ r.at_ = A ∧ r.of_ = O ∧ S ≤ 4294967295 ∧ E ≤ 4294967295 := by
  obtain ⟨-, h⟩ := okR_parts h
  refine ⟨r.kind.toNat, r.seq.toNat, r.epoch.toNat, r.at_.toNat, r.of_.toNat, ?_⟩
  rcases h with h | h | h <;> omega
theorem okR_img {g : Geo} {r : Rc} (h : okR g r = true) (hk : r.kind = 1) : ∃ Z W : Nat, r.img.zone = Z ∧ whatB r.img.what = W ∧ Z ≤ 3 ∧ r.img.bytes.length ≤ 255 := by
  have hb := recB_short h
  rw [recB_len h, if_pos hk] at hb
  obtain ⟨hg, h⟩ := okR_parts h
  obtain ⟨hz, hd, -⟩ := okG_iff.1 hg
  rcases h with h | ⟨-, -, -, -, -, h⟩ | h
  · omega
  · obtain ⟨-, h1, h2⟩ := imgOk_parts h
    refine ⟨r.img.zone.toNat, (whatB r.img.what).toNat, by omega, ?_, by omega, by omega⟩
    unfold whatB
    split
    · rfl
    · rcases h2 with ⟨h3, -⟩ | ⟨-, h3, -⟩ <;> omega
  · omega

set_option maxRecDepth 100000 in
set_option maxHeartbeats 16000000 in
theorem rrecB_any (g : Geo) (r : Rc) (v : Value) (w : World) (Mi : Ms) (h : SlR w Mi v r.img.bytes) (hok : okR g r = true) :
    Calls Try.prog 29 #[rv r v] w fun e w' => ∃ x, e = .returned x ∧ OwR w' noM w.heap.size 5 x (recB r) ∧ Below w.heap.size w w' := by
  obtain ⟨kind, seq, epoch, at_, of_, ⟨zone, what, bytes⟩⟩ := r
  obtain ⟨K, S, E, A, O, e1, e2, e3, e4, e5, hS4, hE4⟩ := okR_nat hok
  simp only at e1 e2 e3 e4 e5 h
  subst e1 e2 e3 e4 e5
  obtain ⟨a, c, rfl⟩ := h.form
  have hb0 := (Below.refl w.heap.size w).alloc (Nat.le_refl _) (.cells #[.int .i64 K, .int .i64 S, .int .i64 E, .int .i64 A, .int .i64 O, .int .i64 zone, .int .i64 what, .slice a bytes.length c] 28)
  have HB := Lib.hid hb0.drew
  have HZ := Lib.hid (Blk.new w 28 #[.int .i64 K, .int .i64 S, .int .i64 E, .int .i64 A, .int .i64 O, .int .i64 zone, .int .i64 what, .slice a bytes.length c]).drew
  have H := Lib.hid h.bare
  have HR := Lib.hid (recB_lit K S E A O ⟨zone, what, bytes⟩)
  have HOK := Lib.hid hok
  have hwK := wrap8 K
  have hwA := wrap8 A
  have hwO := wrap8 O
  have hk8 : K % 256 < 256 := Nat.mod_lt _ (by decide)
  have ha8 : A % 256 < 256 := Nat.mod_lt _ (by decide)
  have ho8 : O % 256 < 256 := Nat.mod_lt _ (by decide)
  obtain ⟨k8, hk8e⟩ : ∃ k8, k8 = K % 256 := ⟨_, rfl⟩
  obtain ⟨a8, ha8e⟩ : ∃ a8, a8 = A % 256 := ⟨_, rfl⟩
  obtain ⟨o8, ho8e⟩ : ∃ o8, o8 = O % 256 := ⟨_, rfl⟩
  rw [← hk8e, ← ha8e, ← ho8e] at HR
  rw [← hk8e] at hwK hk8
  rw [← ha8e] at hwA ha8
  rw [← ho8e] at hwO ho8
  clear hk8e ha8e ho8e
  unfold rv
  simp only
  clear hb0 h hok
  go_enter Try.func29, Try.ntmps29
  go_upto_region 1 with fail
  refine rp_enter [1, 5, 8] (fun V => ∀ i, V.cell? ⟨w.heap.size, i, none⟩ = #[.int .i64 K, .int .i64 S, .int .i64 E, .int .i64 A, .int .i64 O, .int .i64 zone, .int .i64 what, .slice a bytes.length c][i]?) (by kernel_rfl) ?_
  obtain ⟨w0, hw0⟩ : ∃ w0, w0 = (w.alloc (.cells #[.int .i64 K, .int .i64 S, .int .i64 E, .int .i64 A, .int .i64 O, .int .i64 zone, .int .i64 what, .slice a bytes.length c] 28)).drew := ⟨_, rfl⟩
  rw [← hw0] at HB HZ ⊢
  clear hw0
  have hS := Lib.hid HZ.out.cell
  apply rp_pure 0 rfl (by kernel_rfl) (fun _ _ _ h => h) rfl
  · (intro W'; go_simp; try rfl)
  · (go_simp; try rfl)
  apply rp_take 1 rfl (by kernel_rfl) (fun _ _ _ h => h) (hS.out) rfl
  · (rintro W' sz; go_simp; try rfl)
  · (go_simp; try rfl)
  apply rp_pure 2 rfl (by kernel_rfl) (fun _ _ _ h => h) rfl
  · (intro W'; go_simp; try rfl)
  · (go_simp; try rfl)
  apply rp_pure 4 rfl (by kernel_rfl) (fun _ _ _ h => h) rfl
  · (intro W'; go_simp; try rfl)
  · (go_simp; try rfl)
  apply rp_take 5 rfl (by kernel_rfl) (fun _ _ _ h => h) (hS.out) rfl
  · (rintro W' sz; go_simp; try rfl)
  · (go_simp; try rfl)
  apply rp_pure 7 rfl (by kernel_rfl) (fun _ _ _ h => h) rfl
  · (intro W'; go_simp; try rfl)
  · (go_simp; try rfl)
  apply rp_take 8 rfl (by kernel_rfl) (fun _ _ _ h => h) (hS.out) rfl
  · (rintro W' sz; go_simp; try rfl)
  · (go_simp; try rfl)
  refine rp_only 3 (by kernel_rfl) rfl (fun KK hK => ?_)
  go_simp
  have hBk := (Below.refl w0.heap.size w0).alloc (Nat.le_refl _) (.cells #[.int .u8 (k8 : Int)] 5)
  have O1 := Lib.hid ((OwR.lit1 w0 k8 hk8).mono_base (base' := w.heap.size) HB.out.size)
  replace HB := Lib.hid (HB.out.trans (hBk.mono HB.out.size))
  replace HZ := Lib.hid (HZ.out.below hBk)
  clear hBk hS
  refine hK _ _ ⟨fun _ _ => HZ.out.cell, ?_⟩; clear hK KK
  have hS := Lib.hid HZ.out.cell
  refine rp_only 6 (by kernel_rfl) rfl (fun KK hK => ?_)
  have hk := Lib.hid (rput4_any _ [UInt8.ofNat k8] S _ (O1.out.sl (fun _ _ h => h)) (by simp) (by omega))
  go_simp
  ((with_reducible refine hk.out.mono ?_); rintro e w2 ⟨r2, rfl, ho, hBk⟩)
  have O2 := Lib.hid (ho.mono_base (base' := w.heap.size) HB.out.size)
  replace HB := Lib.hid (HB.out.trans (hBk.mono HB.out.size))
  replace HZ := Lib.hid (HZ.out.below hBk)
  clear hBk hk hS ho O1
  refine hK _ _ ⟨fun _ _ => HZ.out.cell, ?_⟩; clear hK KK
  have hS := Lib.hid HZ.out.cell
  refine rp_only 9 (by kernel_rfl) rfl (fun KK hK => ?_)
  have hk := Lib.hid (rput4_any r2 ([UInt8.ofNat k8] ++ leB 4 S) E w2 (O2.out.sl (fun _ _ h => h)) (by simp [leB_len]) (by omega))
  go_simp
  ((with_reducible refine hk.out.mono ?_); rintro e w3 ⟨r3, rfl, ho, hBk⟩)
  have O3 := Lib.hid (ho.mono_base (base' := w.heap.size) HB.out.size)
  replace HB := Lib.hid (HB.out.trans (hBk.mono HB.out.size))
  replace HZ := Lib.hid (HZ.out.below hBk)
  clear hBk hk hS ho O2
  refine hK _ _ ⟨fun _ _ => HZ.out.cell, ?_⟩; clear hK KK
  have hS := Lib.hid HZ.out.cell
  apply rp_pure 10 rfl (by kernel_rfl) (fun _ _ _ h => h) rfl
  · (intro W'; go_simp; try rfl)
  · (go_simp; try rfl)
  refine rp_done (by kernel_rfl) ?_
  clear hS
  obtain ⟨X3, hX3⟩ : ∃ X3, X3 = ([UInt8.ofNat k8] ++ leB 4 S) ++ leB 4 E := ⟨_, rfl⟩
  have hl3s : X3.length ≤ 20 := by rw [hX3]; simp [leB_len]
  have hl3 : X3.length + [UInt8.ofNat a8, UInt8.ofNat o8].length ≤ 1000000000 := by simp only [List.length_cons, List.length_nil]; omega
  rw [← hX3] at O3 HR
  clear hX3
  have hbA := (Below.refl w3.heap.size w3).alloc (Nat.le_refl _) (.cells #[.int .u8 (a8 : Int), .int .u8 (o8 : Int)] 5)
  have hown : ∀ b, r3.ownBlock = some b → b < w3.heap.size := fun b e => O3.out.own_lt e
  have hS4 := Lib.hid ((OwR.lit2 w3 a8 o8 ha8 ho8).sl (M := fun b => noM b ∨ r3.ownBlock = some b) (fun b hb hm => hm.elim (fun h => h) (fun h => by have := hown b h; omega)))
  have O3' := Lib.hid (O3.out.below hbA)
  have HB4 := Lib.hid (HB.out.trans (hbA.mono HB.out.size))
  have HZ4 := Lib.hid (HZ.out.below hbA)
  obtain ⟨z1, z2, z3⟩ := HZ.out.all
  clear hown hbA HB O3
  go_upto_region 3 with (at_builtin; go_must (refine wpList_append_R (α := UInt8) (M := noM) (base := w.heap.size) (l := X3) (m := [UInt8.ofNat a8, UInt8.ofNat o8]) rfl (by rfl) tyB (by rfl) O3'.out (by rfl) hS4.out hl3 HB4.out.size ?_); clear z1 z2 z3; intro r5 w5 ho5 hg5 hat5)
  have HB5 := Lib.hid (HB4.out.grown hg5 HB4.out.size (fun b e => O3'.out.own_ge e))
  have HZ5 := Lib.hid (HZ4.out.grown hg5 (fun e => O3'.out.ne_ HZ4.out (by decide) e.symm))
  obtain ⟨X5, hX5⟩ : ∃ X5, X5 = X3 ++ [UInt8.ofNat a8, UInt8.ofNat o8] := ⟨_, rfl⟩
  have hl5 : X5.length ≤ 1000000 := by rw [hX5, List.length_append]; simp only [List.length_cons, List.length_nil]; omega
  rw [← hX5] at ho5 HR
  have O5 := Lib.hid ho5
  clear hX5 ho5 hg5 hat5 HB4 HZ4 hS4 O3' HZ hl3
  by_cases hk1 : K = 1
  case neg =>
    have hk1' : ((K : Int) != 1) = true := by simp only [bne_iff_ne, ne_eq]; omega
    rw [if_neg (by omega), List.append_nil] at HR
    obtain ⟨z1, z2, z3⟩ := HZ5.out.all
    clear hk1
    go_wp2
    go_ret
    rw [HR.out]
    exact ⟨_, rfl, O5.out, HB5.out⟩
  obtain ⟨ZN, W, hz, hww, hz3, hbl⟩ := okR_img HOK.out (show (K : Int) = 1 by omega)
  simp only at hz hww hbl
  subst hz
  rw [if_pos (show (K : Int) = 1 by omega), imgB_lit ZN W _ rfl hww] at HR
  have hwZ := wrap8 ZN
  have hwW := wrap8 W
  have hz8 : ZN % 256 < 256 := Nat.mod_lt _ (by decide)
  have hw8 : W % 256 < 256 := Nat.mod_lt _ (by decide)
  obtain ⟨z8, hz8e⟩ : ∃ z8, z8 = ZN % 256 := ⟨_, rfl⟩
  obtain ⟨n8, hn8e⟩ : ∃ n8, n8 = W % 256 := ⟨_, rfl⟩
  rw [← hz8e, ← hn8e] at HR
  rw [← hz8e] at hwZ hz8
  rw [← hn8e] at hwW hw8
  clear hz8e hn8e
  simp only at HR
  unfold whatB at hww
  by_cases hwh : what = -1
  · skip
    subst hwh
    rw [if_pos rfl] at hww
    obtain rfl : W = 254 := by omega
    have hwW' : IntKind.u8.wrap 254 = (n8 : Int) := hwW
    clear hww hwW
    have hone : ((K : Int) != 1) = false := by subst hk1; decide
    clear hk1
    obtain ⟨z1, z2, z3⟩ := HZ5.out.all
    go_upto_region 8 with fail
    clear z1 z2 z3
    have HZ := Lib.hid HZ5.out.drew
    have HB := Lib.hid HB5.out.drew
    have HO := Lib.hid O5.out.drew
    clear HZ5 HB5 O5
    refine rp_enter [3, 11] (fun V => ∀ i, V.cell? ⟨w.heap.size, i, none⟩ = #[.int .i64 K, .int .i64 S, .int .i64 E, .int .i64 A, .int .i64 O, .int .i64 ZN, .int .i64 (-1), .slice a bytes.length c][i]?) (by kernel_rfl) ?_
    obtain ⟨w6, hw6⟩ : ∃ w6, w6 = w5.drew := ⟨_, rfl⟩
    rw [← hw6] at HB HZ HO ⊢
    clear hw6
    have hS := Lib.hid HZ.out.cell
    apply rp_pure 0 rfl (by kernel_rfl) (fun _ _ _ h => h) rfl
    · (intro W'; go_simp; try rfl)
    · (go_simp; try rfl)
    apply rp_pure 1 rfl (by kernel_rfl) (fun _ _ _ h => h) rfl
    · (intro W'; go_simp; try rfl)
    · (go_simp; try rfl)
    apply rp_pure 2 rfl (by kernel_rfl) (fun _ _ _ h => h) rfl
    · (intro W'; go_simp; try rfl)
    · (go_simp; try rfl)
    apply rp_take 3 rfl (by kernel_rfl) (fun _ _ _ h => h) (hS.out) rfl
    · (rintro W' sz; go_simp; try rfl)
    · (go_simp; try rfl)
    apply rp_pure 4 rfl (by kernel_rfl) (fun _ _ _ h => h) rfl
    · (intro W'; go_simp; try rfl)
    · (go_simp; try rfl)
    apply rp_pure 5 rfl (by kernel_rfl) (fun _ _ _ h => h) rfl
    · (intro W'; go_simp; try rfl)
    · (go_simp; try rfl)
    apply rp_pure 6 rfl (by kernel_rfl) (fun _ _ _ h => h) rfl
    · (intro W'; go_simp; try rfl)
    · (go_simp; try rfl)
    apply rp_pure 9 rfl (by kernel_rfl) (fun _ _ _ h => h) rfl
    · (intro W'; go_simp; try rfl)
    · (go_simp; try rfl)
    apply rp_pure 10 rfl (by kernel_rfl) (fun _ _ _ h => h) rfl
    · (intro W'; go_simp; try rfl)
    · (go_simp; try rfl)
    apply rp_take 11 rfl (by kernel_rfl) (fun _ _ _ h => h) (hS.out) rfl
    · (rintro W' sz; go_simp; try rfl)
    · (go_simp; try rfl)
    refine rp_only 7 (by kernel_rfl) rfl (fun KK hK => ?_)
    go_simp
    have hBk := (Below.refl w6.heap.size w6).alloc (Nat.le_refl _) (.cells #[.int .u8 (z8 : Int), .int .u8 (n8 : Int)] 5)
    have hown : ∀ b, r5.ownBlock = some b → b < w6.heap.size := fun b e => HO.out.own_lt e
    have hS4 := Lib.hid ((OwR.lit2 w6 z8 n8 hz8 hw8).sl (M := fun b => noM b ∨ r5.ownBlock = some b) (fun b hb hm => hm.elim (fun h => h) (fun h => by have := hown b h; omega)))
    replace HO := Lib.hid (HO.out.below hBk)
    replace HB := Lib.hid (HB.out.trans (hBk.mono HB.out.size))
    replace HZ := Lib.hid (HZ.out.below hBk)
    clear hBk hS hown
    refine hK _ _ ⟨fun _ _ => HZ.out.cell, ?_⟩; clear hK KK
    have hS := Lib.hid HZ.out.cell
    refine rp_only 8 (by kernel_rfl) rfl (fun KK hK => ?_)
    refine step_append_R (α := UInt8) (M := noM) (base := w.heap.size) (l := X5) (m := [UInt8.ofNat z8, UInt8.ofNat n8]) rfl (by rfl) tyB (by rfl) HO.out (by rfl) hS4.out (by simp only [List.length_cons, List.length_nil]; omega) HB.out.size ?_
    intro r7 w7 ho7 hg7 hat7
    replace HB := Lib.hid (HB.out.grown hg7 HB.out.size (fun b e => HO.out.own_ge e))
    replace HZ := Lib.hid (HZ.out.grown hg7 (fun e => HO.out.ne_ HZ.out (by decide) e.symm))
    have HO7 := Lib.hid ho7
    clear hS4 HO ho7 hg7 hat7 hS
    refine hK _ _ ⟨fun _ _ => HZ.out.cell, ?_⟩; clear hK KK
    have hS := Lib.hid HZ.out.cell
    refine rp_only 12 (by kernel_rfl) rfl (fun KK hK => ?_)
    have hk := Lib.hid (rpart_any (.slice a bytes.length c) bytes w7 noM (H.out.mono (Keep.below HB.out)) hbl)
    go_simp
    ((with_reducible refine hk.out.mono ?_); rintro e w8 ⟨r8, rfl, ho, hBk⟩)
    have hown : ∀ b, r7.ownBlock = some b → b < w7.heap.size := fun b e => HO7.out.own_lt e
    have hS8 := Lib.hid (ho.sl (M := fun b => noM b ∨ r7.ownBlock = some b) (fun b hb hm => hm.elim (fun h => h) (fun h => by have := hown b h; omega)))
    have HO8 := Lib.hid (HO7.out.below hBk)
    replace HB := Lib.hid (HB.out.trans (hBk.mono HB.out.size))
    replace HZ := Lib.hid (HZ.out.below hBk)
    clear hBk hk hS ho hown HO7
    refine hK _ _ ⟨fun _ _ => HZ.out.cell, ?_⟩; clear hK KK
    have hS := Lib.hid HZ.out.cell
    refine rp_only 13 (by kernel_rfl) rfl (fun KK hK => ?_)
    refine step_append_R (α := UInt8) (M := noM) (base := w.heap.size) (l := X5 ++ [UInt8.ofNat z8, UInt8.ofNat n8]) (m := UInt8.ofNat bytes.length :: bytes) rfl (by rfl) tyB (by rfl) HO8.out (by rfl) hS8.out (by simp only [List.length_append, List.length_cons, List.length_nil]; omega) HB.out.size ?_
    intro r9 w9 ho9 hg9 hat9
    replace HB := Lib.hid (HB.out.grown hg9 HB.out.size (fun b e => HO8.out.own_ge e))
    replace HZ := Lib.hid (HZ.out.grown hg9 (fun e => HO8.out.ne_ HZ.out (by decide) e.symm))
    have HO9 := Lib.hid ho9
    clear hS8 HO8 ho9 hg9 hat9 hS
    refine hK _ _ ⟨fun _ _ => HZ.out.cell, ?_⟩; clear hK KK
    have hS := Lib.hid HZ.out.cell
    apply rp_pure 14 rfl (by kernel_rfl) (fun _ _ _ h => h) rfl
    · (intro W'; go_simp; try rfl)
    · (go_simp; try rfl)
    refine rp_done (by kernel_rfl) ?_
    clear hS
    go_wp2
    go_ret
    have hf := HO9.out
    rw [List.append_assoc, ← HR.out] at hf
    exact ⟨_, rfl, hf, HB.out⟩
  · skip
    rw [if_neg hwh] at hww
    subst hww
    have hwh' : ((W : Int) == -1) = false := beq_eq_false_iff_ne.2 hwh
    clear hwh
    have hone : ((K : Int) != 1) = false := by subst hk1; decide
    clear hk1
    obtain ⟨z1, z2, z3⟩ := HZ5.out.all
    go_upto_region 8 with fail
    clear z1 z2 z3
    have HZ := Lib.hid HZ5.out.drew
    have HB := Lib.hid HB5.out.drew
    have HO := Lib.hid O5.out.drew
    clear HZ5 HB5 O5
    refine rp_enter [3, 11] (fun V => ∀ i, V.cell? ⟨w.heap.size, i, none⟩ = #[.int .i64 K, .int .i64 S, .int .i64 E, .int .i64 A, .int .i64 O, .int .i64 ZN, .int .i64 W, .slice a bytes.length c][i]?) (by kernel_rfl) ?_
    obtain ⟨w6, hw6⟩ : ∃ w6, w6 = w5.drew := ⟨_, rfl⟩
    rw [← hw6] at HB HZ HO ⊢
    clear hw6
    have hS := Lib.hid HZ.out.cell
    apply rp_pure 0 rfl (by kernel_rfl) (fun _ _ _ h => h) rfl
    · (intro W'; go_simp; try rfl)
    · (go_simp; try rfl)
    apply rp_pure 1 rfl (by kernel_rfl) (fun _ _ _ h => h) rfl
    · (intro W'; go_simp; try rfl)
    · (go_simp; try rfl)
    apply rp_pure 2 rfl (by kernel_rfl) (fun _ _ _ h => h) rfl
    · (intro W'; go_simp; try rfl)
    · (go_simp; try rfl)
    apply rp_take 3 rfl (by kernel_rfl) (fun _ _ _ h => h) (hS.out) rfl
    · (rintro W' sz; go_simp; try rfl)
    · (go_simp; try rfl)
    apply rp_pure 4 rfl (by kernel_rfl) (fun _ _ _ h => h) rfl
    · (intro W'; go_simp; try rfl)
    · (go_simp; try rfl)
    apply rp_pure 5 rfl (by kernel_rfl) (fun _ _ _ h => h) rfl
    · (intro W'; go_simp; try rfl)
    · (go_simp; try rfl)
    apply rp_pure 6 rfl (by kernel_rfl) (fun _ _ _ h => h) rfl
    · (intro W'; go_simp; try rfl)
    · (go_simp; try rfl)
    apply rp_pure 9 rfl (by kernel_rfl) (fun _ _ _ h => h) rfl
    · (intro W'; go_simp; try rfl)
    · (go_simp; try rfl)
    apply rp_pure 10 rfl (by kernel_rfl) (fun _ _ _ h => h) rfl
    · (intro W'; go_simp; try rfl)
    · (go_simp; try rfl)
    apply rp_take 11 rfl (by kernel_rfl) (fun _ _ _ h => h) (hS.out) rfl
    · (rintro W' sz; go_simp; try rfl)
    · (go_simp; try rfl)
    refine rp_only 7 (by kernel_rfl) rfl (fun KK hK => ?_)
    go_simp
    have hBk := (Below.refl w6.heap.size w6).alloc (Nat.le_refl _) (.cells #[.int .u8 (z8 : Int), .int .u8 (n8 : Int)] 5)
    have hown : ∀ b, r5.ownBlock = some b → b < w6.heap.size := fun b e => HO.out.own_lt e
    have hS4 := Lib.hid ((OwR.lit2 w6 z8 n8 hz8 hw8).sl (M := fun b => noM b ∨ r5.ownBlock = some b) (fun b hb hm => hm.elim (fun h => h) (fun h => by have := hown b h; omega)))
    replace HO := Lib.hid (HO.out.below hBk)
    replace HB := Lib.hid (HB.out.trans (hBk.mono HB.out.size))
    replace HZ := Lib.hid (HZ.out.below hBk)
    clear hBk hS hown
    refine hK _ _ ⟨fun _ _ => HZ.out.cell, ?_⟩; clear hK KK
    have hS := Lib.hid HZ.out.cell
    refine rp_only 8 (by kernel_rfl) rfl (fun KK hK => ?_)
    refine step_append_R (α := UInt8) (M := noM) (base := w.heap.size) (l := X5) (m := [UInt8.ofNat z8, UInt8.ofNat n8]) rfl (by rfl) tyB (by rfl) HO.out (by rfl) hS4.out (by simp only [List.length_cons, List.length_nil]; omega) HB.out.size ?_
    intro r7 w7 ho7 hg7 hat7
    replace HB := Lib.hid (HB.out.grown hg7 HB.out.size (fun b e => HO.out.own_ge e))
    replace HZ := Lib.hid (HZ.out.grown hg7 (fun e => HO.out.ne_ HZ.out (by decide) e.symm))
    have HO7 := Lib.hid ho7
    clear hS4 HO ho7 hg7 hat7 hS
    refine hK _ _ ⟨fun _ _ => HZ.out.cell, ?_⟩; clear hK KK
    have hS := Lib.hid HZ.out.cell
    refine rp_only 12 (by kernel_rfl) rfl (fun KK hK => ?_)
    have hk := Lib.hid (rpart_any (.slice a bytes.length c) bytes w7 noM (H.out.mono (Keep.below HB.out)) hbl)
    go_simp
    ((with_reducible refine hk.out.mono ?_); rintro e w8 ⟨r8, rfl, ho, hBk⟩)
    have hown : ∀ b, r7.ownBlock = some b → b < w7.heap.size := fun b e => HO7.out.own_lt e
    have hS8 := Lib.hid (ho.sl (M := fun b => noM b ∨ r7.ownBlock = some b) (fun b hb hm => hm.elim (fun h => h) (fun h => by have := hown b h; omega)))
    have HO8 := Lib.hid (HO7.out.below hBk)
    replace HB := Lib.hid (HB.out.trans (hBk.mono HB.out.size))
    replace HZ := Lib.hid (HZ.out.below hBk)
    clear hBk hk hS ho hown HO7
    refine hK _ _ ⟨fun _ _ => HZ.out.cell, ?_⟩; clear hK KK
    have hS := Lib.hid HZ.out.cell
    refine rp_only 13 (by kernel_rfl) rfl (fun KK hK => ?_)
    refine step_append_R (α := UInt8) (M := noM) (base := w.heap.size) (l := X5 ++ [UInt8.ofNat z8, UInt8.ofNat n8]) (m := UInt8.ofNat bytes.length :: bytes) rfl (by rfl) tyB (by rfl) HO8.out (by rfl) hS8.out (by simp only [List.length_append, List.length_cons, List.length_nil]; omega) HB.out.size ?_
    intro r9 w9 ho9 hg9 hat9
    replace HB := Lib.hid (HB.out.grown hg9 HB.out.size (fun b e => HO8.out.own_ge e))
    replace HZ := Lib.hid (HZ.out.grown hg9 (fun e => HO8.out.ne_ HZ.out (by decide) e.symm))
    have HO9 := Lib.hid ho9
    clear hS8 HO8 ho9 hg9 hat9 hS
    refine hK _ _ ⟨fun _ _ => HZ.out.cell, ?_⟩; clear hK KK
    have hS := Lib.hid HZ.out.cell
    apply rp_pure 14 rfl (by kernel_rfl) (fun _ _ _ h => h) rfl
    · (intro W'; go_simp; try rfl)
    · (go_simp; try rfl)
    refine rp_done (by kernel_rfl) ?_
    clear hS
    go_wp2
    go_ret
    have hf := HO9.out
    rw [List.append_assoc, ← HR.out] at hf
    exact ⟨_, rfl, hf, HB.out⟩
end Go.Proofs.Ytpknhpfbinplgaa
end

/-
The reference: a record's cell.
-/
section
namespace Go.Proofs.Ytpknhpfbinplgaa
open Go.RowKit
attribute [local go_sem ↓] Go.wp_at_zero Go.wp_at_succ

set_option maxRecDepth 100000 in
set_option maxHeartbeats 16000000 in
theorem rrecCell_any (g : Geo) (r : Rc) (v : Value) (copy slot : Int) (w : World) (Mi : Ms) (h : SlR w Mi v r.img.bytes) (hok : okR g r = true) (hl : okL g copy slot = true) :
    Calls Try.prog 30 #[gv g, rv r v, .int .i64 copy, .int .i64 slot] w fun e w' => ∃ x, e = .returned x ∧ OwR w' noM w.heap.size 5 x (cellB g r copy slot) ∧ Below w.heap.size w w' := by
  obtain ⟨kind, seq, epoch, at_, of_, ⟨zone, what, bytes⟩⟩ := r
  obtain ⟨z, d, sp, sl, an⟩ := g
  have hsq := okR_seq hok
  obtain ⟨S, hS0⟩ : ∃ S : Nat, seq = S := ⟨seq.toNat, by simp only at hsq; omega⟩
  simp only at hsq h
  subst hS0
  have hS9 : S ≤ 4294967295 := by omega
  obtain ⟨a, c, rfl⟩ := h.form
  have hgk := (okR_parts hok).1
  have hab := logAt_bounds hgk hl
  have hsh := (recB_short hok).2
  obtain ⟨A0, hA0⟩ : ∃ A0 : Nat, logAt ⟨z, d, sp, sl, an⟩ copy slot = A0 := ⟨(logAt ⟨z, d, sp, sl, an⟩ copy slot).toNat, by omega⟩
  have HE := Lib.hid (show cellB ⟨z, d, sp, sl, an⟩ ⟨kind, S, epoch, at_, of_, ⟨zone, what, bytes⟩⟩ copy slot = sealB A0 S (recB ⟨kind, S, epoch, at_, of_, ⟨zone, what, bytes⟩⟩) by rw [← hA0]; rfl)
  have hA9 : A0 ≤ 65535 := by omega
  have hb1 := (Below.refl w.heap.size w).alloc (Nat.le_refl _) (.cells #[.int .i64 z, .int .i64 d, .int .i64 sp, .int .i64 sl, .int .i64 an] 23)
  have hb2 := hb1.alloc (by simp) (.cells #[.int .i64 kind, .int .i64 S, .int .i64 epoch, .int .i64 at_, .int .i64 of_, .int .i64 zone, .int .i64 what, .slice a bytes.length c] 28)
  have hT := Blk.new (w.alloc (.cells #[.int .i64 z, .int .i64 d, .int .i64 sp, .int .i64 sl, .int .i64 an] 23)) 28 #[.int .i64 kind, .int .i64 S, .int .i64 epoch, .int .i64 at_, .int .i64 of_, .int .i64 zone, .int .i64 what, .slice a bytes.length c]
  simp only [World.size_alloc] at hT
  have HG := Lib.hid ((Blk.new w 23 #[.int .i64 z, .int .i64 d, .int .i64 sp, .int .i64 sl, .int .i64 an]).alloc (.cells #[.int .i64 kind, .int .i64 S, .int .i64 epoch, .int .i64 at_, .int .i64 of_, .int .i64 zone, .int .i64 what, .slice a bytes.length c] 28)).drew
  have HB := Lib.hid hb2.drew
  have HT := Lib.hid hT.drew
  have H := Lib.hid h.bare
  have HOK := Lib.hid hok
  have hlg := Lib.hid (fun w' => rlogAt_any ⟨z, d, sp, sl, an⟩ copy slot w' hgk hl)
  rw [hA0] at hlg
  unfold gv at hlg
  unfold gv rv
  simp only at hlg ⊢
  clear hb1 hb2 hT h hok hgk hab hl hA0 hsq
  go_enter Try.func30, Try.ntmps30
  go_upto_region 1 with fail
  refine rp_enter [0, 5, 6] (fun V => (∀ i, V.cell? ⟨w.heap.size, i, none⟩ = #[.int .i64 z, .int .i64 d, .int .i64 sp, .int .i64 sl, .int .i64 an][i]?) ∧ (∀ i, V.cell? ⟨w.heap.size + 1, i, none⟩ = #[.int .i64 kind, .int .i64 S, .int .i64 epoch, .int .i64 at_, .int .i64 of_, .int .i64 zone, .int .i64 what, .slice a bytes.length c][i]?)) (by kernel_rfl) ?_
  have hS := Lib.hid (And.intro HG.out.cell HT.out.cell)
  apply rp_take 0 rfl (by kernel_rfl) (fun _ _ _ h => h) (hS.out) rfl
  · (rintro W' ⟨sg, st⟩; go_simp; try rfl)
  · (go_simp; try rfl)
  apply rp_pure 1 rfl (by kernel_rfl) (fun _ _ _ h => h) rfl
  · (intro W'; go_simp; try rfl)
  · (go_simp; try rfl)
  apply rp_pure 2 rfl (by kernel_rfl) (fun _ _ _ h => h) rfl
  · (intro W'; go_simp; try rfl)
  · (go_simp; try rfl)
  apply rp_pure 4 rfl (by kernel_rfl) (fun _ _ _ h => h) rfl
  · (intro W'; go_simp; try rfl)
  · (go_simp; try rfl)
  apply rp_take 5 rfl (by kernel_rfl) (fun _ _ _ h => h) (hS.out) rfl
  · (rintro W' ⟨sg, st⟩; go_simp; try rfl)
  · (go_simp; try rfl)
  apply rp_take 6 rfl (by kernel_rfl) (fun _ _ _ h => h) (hS.out) rfl
  · (rintro W' ⟨sg, st⟩; go_simp; try rfl)
  · (go_simp; try rfl)
  refine rp_only 3 (by kernel_rfl) rfl (fun KK hK => ?_)
  go_simp
  ((with_reducible refine (hlg.out _).mono ?_); rintro e w1 ⟨rfl, hBk⟩)
  replace HB := Lib.hid (HB.out.trans (hBk.mono HB.out.size))
  replace HG := Lib.hid (HG.out.below hBk)
  replace HT := Lib.hid (HT.out.below hBk)
  clear hBk hlg hS
  refine hK _ _ ⟨fun _ _ => ⟨HG.out.cell, HT.out.cell⟩, ?_⟩; clear hK KK
  have hS := Lib.hid (And.intro HG.out.cell HT.out.cell)
  refine rp_only 7 (by kernel_rfl) rfl (fun KK hK => ?_)
  have hk := Lib.hid (rrecB_any ⟨z, d, sp, sl, an⟩ ⟨kind, S, epoch, at_, of_, ⟨zone, what, bytes⟩⟩ (.slice a bytes.length c) w1 noM (H.out.mono (Keep.below HB.out)) HOK.out)
  unfold rv at hk
  simp only at hk
  go_simp
  ((with_reducible refine hk.out.mono ?_); rintro e w2 ⟨r2, rfl, ho, hBk⟩)
  have O2 := Lib.hid (ho.sl (M := noM) (fun _ _ h => h))
  replace HB := Lib.hid (HB.out.trans (hBk.mono HB.out.size))
  replace HG := Lib.hid (HG.out.below hBk)
  replace HT := Lib.hid (HT.out.below hBk)
  clear hBk hk hS ho
  refine hK _ _ ⟨fun _ _ => ⟨HG.out.cell, HT.out.cell⟩, ?_⟩; clear hK KK
  have hS := Lib.hid (And.intro HG.out.cell HT.out.cell)
  refine rp_only 8 (by kernel_rfl) rfl (fun KK hK => ?_)
  have hk := Lib.hid (rcellB_any A0 S r2 (recB ⟨kind, S, epoch, at_, of_, ⟨zone, what, bytes⟩⟩) w2 noM O2.out hA9 hS9 (by omega))
  go_simp
  ((with_reducible refine hk.out.mono ?_); rintro e w3 ⟨r3, rfl, ho, hBk⟩)
  have O3 := Lib.hid (ho.mono_base (base' := w.heap.size) HB.out.size)
  replace HB := Lib.hid (HB.out.trans (hBk.mono HB.out.size))
  replace HG := Lib.hid (HG.out.below hBk)
  replace HT := Lib.hid (HT.out.below hBk)
  clear hBk hk hS ho O2
  refine hK _ _ ⟨fun _ _ => ⟨HG.out.cell, HT.out.cell⟩, ?_⟩; clear hK KK
  have hS := Lib.hid (And.intro HG.out.cell HT.out.cell)
  apply rp_pure 9 rfl (by kernel_rfl) (fun _ _ _ h => h) rfl
  · (intro W'; go_simp; try rfl)
  · (go_simp; try rfl)
  refine rp_done (by kernel_rfl) ?_
  clear hS
  go_wp2
  go_ret
  rw [HE.out]
  exact ⟨_, rfl, O3.out, HB.out⟩
end Go.Proofs.Ytpknhpfbinplgaa
end

/-
Contracts that were walked in memory, in the abstract.
-/
section
namespace Go.Proofs.Ytpknhpfbinplgaa.A
open Go.RowKit

theorem rd1 {a : AV} {c : Ctx} {us : List Value} (h : RdL [a] c us) : ∃ u, us = [u] ∧ Rd a c u := by
  simp only [RdL] at h
  obtain ⟨u, r, rfl, h1, rfl⟩ := h
  exact ⟨u, rfl, h1⟩
theorem rd2 {a b : AV} {c : Ctx} {us : List Value} (h : RdL [a, b] c us) : ∃ u v, us = [u, v] ∧ Rd a c u ∧ Rd b c v := by
  simp only [RdL] at h
  obtain ⟨u, r, rfl, h1, v, q, rfl, h2, rfl⟩ := h
  exact ⟨u, v, rfl, h1, h2⟩
theorem rd4 {a b d e : AV} {c : Ctx} {us : List Value} (h : RdL [a, b, d, e] c us) : ∃ u v x y, us = [u, v, x, y] ∧ Rd a c u ∧ Rd b c v ∧ Rd d c x ∧ Rd e c y := by
  simp only [RdL] at h
  obtain ⟨u, r, rfl, h1, v, q, rfl, h2, x, q3, rfl, h3, y, q4, rfl, h4, rfl⟩ := h
  exact ⟨u, v, x, y, rfl, h1, h2, h3, h4⟩
theorem rd_geo {c : Ctx} {g : Geo} {u : Value} (h : Rd (.ag (geoC g)) c u) : u = gv g := by
  simp only [geoC, Rd, RdL] at h
  obtain ⟨xs, rfl, a, _, rfl, rfl, b, _, rfl, rfl, d, _, rfl, rfl, e, _, rfl, rfl, f, _, rfl, rfl, rfl⟩ := h
  rfl
theorem rd_img {c : Ctx} {x : Img} {u : Value} (h : Rd (.ag (imgC x)) c u) : ∃ v, u = .agg #[.int .i64 x.zone, .int .i64 x.what, v] ∧ Rd (bA x.bytes) c v := by
  simp only [imgC, Rd, RdL] at h
  obtain ⟨xs, rfl, a, _, rfl, rfl, b, _, rfl, rfl, d, _, rfl, h, rfl⟩ := h
  exact ⟨d, rfl, h⟩
theorem rd_rc {c : Ctx} {x : Rc} {u : Value} (h : Rd (.ag (rcC x)) c u) : ∃ v, u = rv x v ∧ Rd (bA x.img.bytes) c v := by
  simp only [rcC, Rd, RdL] at h
  obtain ⟨xs, rfl, a, _, rfl, rfl, b, _, rfl, rfl, d, _, rfl, rfl, e, _, rfl, rfl, f, _, rfl, rfl, g, _, rfl, rfl, i, _, rfl, rfl, v, _, rfl, h, rfl⟩ := h
  exact ⟨v, rfl, h⟩
theorem of_rc {c : Ctx} {x : Rc} {v : Value} (h : Rd (bA x.img.bytes) c v) : Rd (.ag (rcC x)) c (rv x v) := by
  simp only [rcC, Rd, RdL]
  exact ⟨_, rfl, _, _, rfl, rfl, _, _, rfl, rfl, _, _, rfl, rfl, _, _, rfl, rfl, _, _, rfl, rfl, _, _, rfl, rfl, _, _, rfl, rfl, _, _, rfl, h, rfl⟩
theorem of_tp2 {c : Ctx} {a b : AV} {u v : Value} (h : Rd a c u) (k : Rd b c v) : Rd (.tp [a, b]) c (.tuple #[u, v]) := by
  simp only [Rd, RdL]
  exact ⟨_, rfl, _, _, rfl, h, _, _, rfl, k, rfl⟩
theorem rd_v {c : Ctx} (v : Value) : Rd (.v v) c v := by simp [Rd]
theorem image_br (g : Geo) (x : Img) (hl : x.bytes.length ≤ 100000) : Fn Try.prog 24 [.ag (geoC g), .ag (imgC x)] fun r => r = .v (errV (imgOk g x)) := by
  refine ⟨⟨_, Try.func24, rfl, by decide⟩, fun c0 us hd hM hr => ?_⟩
  obtain ⟨u1, u2, rfl, h1, h2⟩ := rd2 hr
  obtain rfl := rd_geo h1
  obtain ⟨v, rfl, hv⟩ := rd_img h2
  refine (image_any g x v c0.w c0.M (toBytes hv) hl).mono ?_
  rintro e w' ⟨rfl, hB⟩
  exact ⟨_, _, rfl, rfl, hB, rd_v _⟩
theorem rcheck_br (g : Geo) (x : Rc) (hl : x.img.bytes.length ≤ 100000) : Fn Try.prog 17 [.ag (geoC g), .ag (rcC x)] fun r => r = .v (errV (okR g x)) := by
  refine ⟨⟨_, Try.func17, rfl, by decide⟩, fun c0 us hd hM hr => ?_⟩
  obtain ⟨u1, u2, rfl, h1, h2⟩ := rd2 hr
  obtain rfl := rd_geo h1
  obtain ⟨v, rfl, hv⟩ := rd_rc h2
  refine (rcheck_any g x v c0.w c0.M (toBytes hv) hl).mono ?_
  rintro e w' ⟨rfl, hB⟩
  exact ⟨_, _, rfl, rfl, hB, rd_v _⟩
theorem rbytes_br (g : Geo) (x : Rc) (hl : x.img.bytes.length ≤ 100000) : Fn Try.prog 9 [.ag (geoC g), .ag (rcC x)] fun r => r = .tp [bA (if okR g x then recB x else []), .v (errV (okR g x))] := by
  refine ⟨⟨_, Try.func9, rfl, by decide⟩, fun c0 us hd hM hr => ?_⟩
  obtain ⟨u1, u2, rfl, h1, h2⟩ := rd2 hr
  obtain rfl := rd_geo h1
  obtain ⟨v, rfl, hv⟩ := rd_rc h2
  refine (bytesU_any g x v c0.w c0.M (toBytes hv) hl).mono ?_
  rintro e w' ⟨q, rfl, ho, hB⟩
  exact ⟨_, _, rfl, rfl, hB, of_tp2 (ofOwn ho hM) (rd_v _)⟩
theorem rcell_br (g : Geo) (x : Rc) (copy slot : Int) (hl : x.img.bytes.length ≤ 100000) : Fn Try.prog 22 [.ag (geoC g), .ag (rcC x), .v (.int .i64 copy), .v (.int .i64 slot)] fun r => r = .tp [bA (if okR g x && okL g copy slot then cellB g x copy slot else []), .v (errV (okR g x && okL g copy slot))] := by
  refine ⟨⟨_, Try.func22, rfl, by decide⟩, fun c0 us hd hM hr => ?_⟩
  obtain ⟨u1, u2, u3, u4, rfl, h1, h2, h3, h4⟩ := rd4 hr
  obtain rfl := rd_geo h1
  obtain ⟨v, rfl, hv⟩ := rd_rc h2
  simp only [Rd] at h3 h4
  subst h3 h4
  refine (cellU_any g x copy slot v c0.w c0.M (toBytes hv) hl).mono ?_
  rintro e w' ⟨q, rfl, ho, hB⟩
  exact ⟨_, _, rfl, rfl, hB, of_tp2 (ofOwn ho hM) (rd_v _)⟩
theorem rread_br (g : Geo) (b : List UInt8) (hl : b.length ≤ 100000) : Fn Try.prog 11 [.ag (geoC g), bA b] fun r => r = .tp [.ag (rcC (if okG g then (readR g b).getD zeroC else zeroC)), .v (.int .i64 (readE g b))] := by
  refine ⟨⟨_, Try.func11, rfl, by decide⟩, fun c0 us hd hM hr => ?_⟩
  obtain ⟨u1, u2, rfl, h1, h2⟩ := rd2 hr
  obtain rfl := rd_geo h1
  refine (readU_any g u2 b c0.w c0.M (toBytes h2) hl).mono ?_
  rintro e w' ⟨q, r, rfl, hr', ho, hB⟩
  exact ⟨_, _, rfl, rfl, hB, of_tp2 (hr' ▸ of_rc (ofOwn ho hM)) (rd_v _)⟩
theorem readRec_br (g : Geo) (b : List UInt8) (hl : b.length ≤ 100000) (hg : okG g = true) : Fn Try.prog 25 [.ag (geoC g), bA b] fun r => r = .tp [.ag (rcC ((readR g b).getD zeroC)), .v (.bool (readR g b).isSome)] := by
  refine ⟨⟨_, Try.func25, rfl, by decide⟩, fun c0 us hd hM hr => ?_⟩
  obtain ⟨u1, u2, rfl, h1, h2⟩ := rd2 hr
  obtain rfl := rd_geo h1
  refine (readRecU_any g u2 b c0.w c0.M (toBytes h2) hl hg).mono ?_
  rintro e w' ⟨q, r, rfl, hr', ho, hB⟩
  exact ⟨_, _, rfl, rfl, hB, of_tp2 (hr' ▸ of_rc (ofOwn ho hM)) (rd_v _)⟩
theorem rimage_br (g : Geo) (x : Img) (hl : x.bytes.length ≤ 100000) (hg : okG g = true) : Fn Try.prog 20 [.ag (geoC g), .ag (imgC x)] fun r => r = .v (.bool (imgOk g x)) := by
  refine ⟨⟨_, Try.func20, rfl, by decide⟩, fun c0 us hd hM hr => ?_⟩
  obtain ⟨u1, u2, rfl, h1, h2⟩ := rd2 hr
  obtain rfl := rd_geo h1
  obtain ⟨v, rfl, hv⟩ := rd_img h2
  refine (rimage_any g x v c0.w c0.M (toBytes hv) hl hg).mono ?_
  rintro e w' ⟨rfl, hB⟩
  exact ⟨_, _, rfl, rfl, hB, rd_v _⟩
theorem rrec_br (g : Geo) (x : Rc) (hl : x.img.bytes.length ≤ 100000) (hg : okG g = true) : Fn Try.prog 28 [.ag (geoC g), .ag (rcC x)] fun r => r = .v (.bool (okR g x)) := by
  refine ⟨⟨_, Try.func28, rfl, by decide⟩, fun c0 us hd hM hr => ?_⟩
  obtain ⟨u1, u2, rfl, h1, h2⟩ := rd2 hr
  obtain rfl := rd_geo h1
  obtain ⟨v, rfl, hv⟩ := rd_rc h2
  refine (rrec_any g x v c0.w c0.M (toBytes hv) hl hg).mono ?_
  rintro e w' ⟨rfl, hB⟩
  exact ⟨_, _, rfl, rfl, hB, rd_v _⟩
theorem rgeom_br (g : Geo) : Fn Try.prog 19 [.ag (geoC g)] fun r => r = .v (.bool (okG g)) := by
  refine ⟨⟨_, Try.func19, rfl, by decide⟩, fun c0 us hd hM hr => ?_⟩
  obtain ⟨u1, rfl, h1⟩ := rd1 hr
  obtain rfl := rd_geo h1
  refine (rgeom_any g c0.w).mono ?_
  rintro e w' ⟨rfl, hB⟩
  exact ⟨_, _, rfl, rfl, hB, rd_v _⟩
theorem rrecB_br (g : Geo) (x : Rc) (hok : okR g x = true) : Fn Try.prog 29 [.ag (rcC x)] fun r => r = bA (recB x) := by
  refine ⟨⟨_, Try.func29, rfl, by decide⟩, fun c0 us hd hM hr => ?_⟩
  obtain ⟨u1, rfl, h1⟩ := rd1 hr
  obtain ⟨v, rfl, hv⟩ := rd_rc h1
  refine (rrecB_any g x v c0.w c0.M (toBytes hv) hok).mono ?_
  rintro e w' ⟨q, rfl, ho, hB⟩
  exact ⟨_, _, rfl, rfl, hB, ofOwn ho hM⟩
theorem rrecCell_br (g : Geo) (x : Rc) (copy slot : Int) (hok : okR g x = true) (hl : okL g copy slot = true) : Fn Try.prog 30 [.ag (geoC g), .ag (rcC x), .v (.int .i64 copy), .v (.int .i64 slot)] fun r => r = bA (cellB g x copy slot) := by
  refine ⟨⟨_, Try.func30, rfl, by decide⟩, fun c0 us hd hM hr => ?_⟩
  obtain ⟨u1, u2, u3, u4, rfl, h1, h2, h3, h4⟩ := rd4 hr
  obtain rfl := rd_geo h1
  obtain ⟨v, rfl, hv⟩ := rd_rc h2
  simp only [Rd] at h3 h4
  subst h3 h4
  refine (rrecCell_any g x v copy slot c0.w c0.M (toBytes hv) hok hl).mono ?_
  rintro e w' ⟨q, rfl, ho, hB⟩
  exact ⟨_, _, rfl, rfl, hB, ofOwn ho hM⟩
theorem wakes_br : Fn Try.prog 10 [] fun r => r = .v (.bool true) := by
  refine ⟨⟨_, Try.func10, rfl, by decide⟩, fun c0 us hd hM hr => ?_⟩
  simp only [RdL] at hr
  subst hr
  refine (wakes_any c0.w).mono ?_
  rintro e w' ⟨rfl, hB⟩
  exact ⟨_, _, rfl, rfl, hB, rd_v _⟩
end Go.Proofs.Ytpknhpfbinplgaa.A
end

/-
A transaction's records: the package's, the reference's.
-/
section
namespace Go.Proofs.Ytpknhpfbinplgaa.A
open Go.RowKit

theorem clone_br (b : List UInt8) (hl : b.length ≤ 1000000000) : Fn Try.prog 42 [bA b] fun r => r = bA b := by
  refine ⟨⟨_, Try.func42, rfl, by decide⟩, fun c0 us hd hM hr => ?_⟩
  obtain ⟨u, rfl, h1⟩ := rd1 hr
  refine (bclone_any u b c0.w c0.M c0.M (toBytes h1) hl).mono ?_
  rintro e w' ⟨r, rfl, ho, hB⟩
  exact ⟨_, _, rfl, rfl, hB, ofBytes (c := { c0 with w := w' }) (ho.sl fun b hb hm => by have := hM b hm; omega)⟩
theorem imgR_step' (seq epoch of_ : Int) {k : Nat} {l : List Img} (hk : k < l.length) : (imgR seq epoch of_ (k + 1) l).map rcC = (imgR seq epoch of_ k l).map rcC ++ [rcC ⟨1, seq, epoch, (k : Nat), of_, l.getD k ⟨0, 0, []⟩⟩] := by
  rw [imgR_step seq epoch of_ hk, List.map_append, List.getD_eq_getElem?_getD, List.getElem?_eq_getElem hk]; rfl
theorem map_getD {α β : Type} {d : α} {e : β} {f : α → β} {l : List α} {i : Nat} (h : i < l.length) : (l.map f).getD i e = f (l.getD i d) := by
  rw [List.getD_eq_getElem?_getD, List.getD_eq_getElem?_getD, List.getElem?_map, List.getElem?_eq_getElem h]; rfl
theorem rowEq {t sz : Nat} {a b c : List (List AV)} (h : a = b ++ c) : AB.row t sz a = .row t sz (b ++ c) := by rw [h]

/-- Cell by cell. -/
def SubL : List AV → List AV → Prop
  | [], [] => True
  | x :: l, y :: m => (∀ c u, Rd x c u → Rd y c u) ∧ SubL l m
  | _, _ => False
theorem SubL.refl : ∀ l, SubL l l
  | [] => trivial
  | _ :: l => ⟨fun _ _ h => h, SubL.refl l⟩
theorem SubL.len : ∀ {l m}, SubL l m → l.length = m.length
  | [], [], _ => rfl
  | _ :: _, _ :: _, h => by simp [SubL.len h.2]
  | [], _ :: _, h => h.elim
  | _ :: _, [], h => h.elim
theorem SubL.rd : ∀ {l m} {c : Ctx} {b off : Nat}, SubL l m → RdAt l c b off → RdAt m c b off
  | [], [], _, _, _, _, _ => by simp [RdAt]
  | x :: l, y :: m, c, b, off, h, hr => by
    simp only [RdAt] at hr ⊢
    obtain ⟨⟨u, h1, h2, h3⟩, h4⟩ := hr
    exact ⟨⟨u, h1, h2, h.1 _ _ h3⟩, SubL.rd h.2 h4⟩
  | [], _ :: _, _, _, _, h, _ => h.elim
  | _ :: _, [], _, _, _, h, _ => h.elim
theorem Rd.sub {c : Ctx} {sz n n' : Nat} {get get' : Nat → List AV} {u : Value} (hn : n = n') (hg : ∀ i, i < n → SubL (get i) (get' i)) (h : Rd (.sl sz n get) c u) : Rd (.sl sz n' get') c u := by
  subst hn
  simp only [Rd] at h ⊢
  obtain ⟨a, k, rfl, h1, h2, h3⟩ := h
  refine ⟨a, k, rfl, h1, h2, h3.imp id ?_⟩
  rintro ⟨b, off, rfl, q1, q2, q3⟩
  exact ⟨b, off, rfl, q1, q2, fun i hi => ⟨by rw [← (hg i hi).len]; exact (q3 i hi).1, (hg i hi).rd (q3 i hi).2⟩⟩
theorem nil_sl (sz : Nat) (get : Nat → List AV) (c : Ctx) (u : Value) (h : Rd (.v (.slice none 0 0)) c u) : Rd (.sl sz 0 get) c u := by
  simp only [Rd] at h ⊢
  exact ⟨none, 0, h, by omega, by simp [maxLen], .inl trivial⟩
def lastC (seq epoch n : Int) : List AV := [.v (.int .i64 2), .v (.int .i64 seq), .v (.int .i64 epoch), .v (.int .i64 n), .v (.int .i64 (n + 1)), .v (.int .i64 0), .v (.int .i64 0), .v (.slice none 0 0)]
theorem getD_app {α : Type} {d : α} {a b : List α} {i : Nat} (h : i < a.length) : (a ++ b).getD i d = a.getD i d := by
  rw [List.getD_eq_getElem?_getD, List.getD_eq_getElem?_getD, List.getElem?_append_left h]
theorem getD_appR {α : Type} {d : α} {a b : List α} {i : Nat} (h : a.length ≤ i) : (a ++ b).getD i d = b.getD (i - a.length) d := by
  rw [List.getD_eq_getElem?_getD, List.getD_eq_getElem?_getD, List.getElem?_append_right h]
theorem recs_sub (seq epoch : Int) (l : List Img) (i : Nat) (hi : i < l.length + 1) :
    SubL ((List.map rcC (imgR seq epoch (l.length + 1) l.length l) ++ [lastC seq epoch l.length]).getD i [])
      (rcC ((recsOf seq epoch l).getD i ⟨0, 0, 0, 0, 0, ⟨0, 0, []⟩⟩)) := by
  have hlk : (imgR seq epoch (l.length + 1) l.length l).length = l.length := by rw [imgR_len]; omega
  rcases Nat.lt_or_ge i l.length with h | h
  · have e1 : (List.map rcC (imgR seq epoch (l.length + 1) l.length l) ++ [lastC seq epoch l.length]).getD i [] = rcC ((recsOf seq epoch l).getD i ⟨0, 0, 0, 0, 0, ⟨0, 0, []⟩⟩) := by
      unfold recsOf
      rw [getD_app (by rw [List.length_map, hlk]; exact h), getD_app (by rw [hlk]; exact h)]
      exact map_getD (by rw [hlk]; exact h)
    rw [e1]
    exact SubL.refl _
  · obtain rfl : i = l.length := by omega
    unfold recsOf
    rw [getD_appR (by rw [List.length_map, hlk]; omega), getD_appR (by rw [hlk]; omega), List.length_map, hlk, Nat.sub_self]
    simp only [List.getD_cons_zero, rcC, noImg, lastC]
    exact ⟨fun _ _ h => h, fun _ _ h => h, fun _ _ h => h, fun _ _ h => h, fun _ _ h => h, fun _ _ h => h, fun _ _ h => h, nil_sl _ _, trivial⟩
theorem recsOf_len (seq epoch : Int) (l : List Img) : (recsOf seq epoch l).length = l.length + 1 := by
  unfold recsOf; rw [List.length_append, imgR_len]; simp
theorem records_fn (seq epoch : Int) (l : List Img) (hl : l.length ≤ 1000000) (hb : ∀ x ∈ l, x.bytes.length ≤ 1000000000) : Fn Try.prog 27 [.v (.int .i64 seq), .v (.int .i64 epoch), imgsA l] fun r => r = recsA (recsOf seq epoch l) := by
  refine Fn.of tys_ok Try.func27 rfl rfl (Nat.le_of_ble_eq_true rfl) ?_
  conv => whnf
  refine aLoop.rule Nat (fun k => ([(0, .v (.int .i64 seq)), (1, .v (.int .i64 epoch)), (2, imgsA l), (7, .ow 0 k), (8, .v (.int .i64 k))], [.row 28 8 ((imgR seq epoch (l.length + 1) k l).map rcC)])) (fun k => k ≤ l.length) (fun k => l.length - k) 0 (Nat.zero_le _) ⟨[(7, 28, 8)], ⟨rfl, rfl, trivial⟩, ⟨rfl, rfl, rfl, rfl, rfl, trivial⟩, ⟨rfl, trivial⟩, rfl, rfl, rfl⟩ ?_
  rintro k hk
  have hlk := imgR_len seq epoch (l.length + 1) k l
  conv => whnf
  refine boolK_intro (fun h2 => ?_) (fun h2 => ?_) <;> simp at h2 <;> conv => whnf
  · refine aDraw.seq tys_ok mixed (by kernel_rfl) ?_
    conv => whnf
    refine ⟨by omega, ?_⟩
    conv => whnf
    refine ⟨by omega, ?_⟩
    conv => whnf
    refine ⟨by omega, ?_⟩
    conv => whnf
    refine Fn.closed (twin_fn (l.getD k ⟨0, 0, []⟩).bytes (hb _ (getD_mem h2))) rfl ?_
    rintro _ rfl
    conv => whnf
    refine ⟨rfl, ?_⟩
    conv => whnf
    refine ⟨⟨by rw [List.length_map, hlk]; omega, by omega⟩, ?_⟩
    conv => whnf
    refine ⟨k + 1, by omega, by omega, [], trivial, ⟨rfl, rfl, rfl, rfl, wsucc (by omega), trivial⟩, ⟨rowEq ?_, trivial⟩, rfl, rfl, rfl⟩
    rw [imgR_step' _ _ _ h2, wi (by omega)]
    rfl
  · obtain rfl : k = l.length := by omega
    rw [wi (by omega)]
    refine ⟨rfl, ?_⟩
    conv => whnf
    refine ⟨⟨by rw [List.length_map, hlk]; omega, by omega⟩, ?_⟩
    conv => whnf
    refine ⟨by rw [List.length_append, List.length_map, hlk]; simp, ?_⟩
    conv => whnf
    exact ⟨recsA (recsOf seq epoch l), fun c v h => Rd.sub (recsOf_len seq epoch l).symm (recs_sub seq epoch l) h, rfl⟩

theorem txn_fn (g : Geo) (seq epoch : Int) (l : List Img) (hl : l.length ≤ 100000) (hb : ∀ x ∈ l, x.bytes.length ≤ 100000) : Fn Try.prog 16 [.ag (geoC g), .v (.int .i64 seq), .v (.int .i64 epoch), imgsA l] fun r => r = .tp [recsA (if txnE g seq epoch l = 0 then recsOf seq epoch l else []), .v (.int .i64 (txnE g seq epoch l))] := by
  have nilr : ∀ c v n, n ≠ 0 → txnE g seq epoch l = n → Rd (.tp [.v (.slice none 0 0), .v (.int .i64 n)]) c v → Rd (.tp [recsA (if txnE g seq epoch l = 0 then recsOf seq epoch l else []), .v (.int .i64 (txnE g seq epoch l))]) c v := by
    intro c v n hn he h
    rw [if_neg (by rw [he]; exact hn), he]
    simp only [Rd, RdL] at h ⊢
    obtain ⟨xs, rfl, a, _, rfl, h1, h2⟩ := h
    exact ⟨_, rfl, a, _, rfl, nil_sl _ _ _ _ (by simpa [Rd] using h1), h2⟩
  obtain ⟨z, d, sp, sl, an⟩ := g
  refine Fn.of tys_ok Try.func16 rfl rfl (Nat.le_of_ble_eq_true rfl) ?_
  conv => whnf
  repeat' (first | (refine boolK_intro (fun h => ?_) (fun h => ?_) <;> (try simp at h) <;> conv => whnf) | (refine Fn.closed (gcheck_fn z d sp sl an) rfl ?_; rintro _ rfl; conv => whnf) | (refine Fn.closed (rin_fn _ _ _) rfl ?_; rintro _ rfl; conv => whnf))
  iterate 3 (exact ⟨_, fun c v h => nilr c v 1 (by decide) (by simp [txnE, *]) h, rfl⟩)
  rename_i h1 h2
  have ht0 : (okG ⟨z, d, sp, sl, an⟩ && (inB seq 0 4294967295 && inB epoch 0 4294967295)) = true := by simp [*]
  clear h h1 h2
  refine aLoop.rule Nat (fun k => ([(1, .v (.int .i64 seq)), (2, .v (.int .i64 epoch)), (3, imgsA l), (4, .bp 0 0), (29, imgsA l), (30, .v (.int .i64 l.length)), (31, .v (.int .i64 k))], [.box 23 (geoC ⟨z, d, sp, sl, an⟩)])) (fun k => k ≤ l.length ∧ ∀ i, i < k → imgOk ⟨z, d, sp, sl, an⟩ (l.getD i ⟨0, 0, []⟩) = true) (fun k => l.length - k) 0 ⟨Nat.zero_le _, by simp⟩ ⟨[], trivial, ⟨rfl, rfl, rfl, rfl, rfl, rfl, rfl, trivial⟩, ⟨rfl, trivial⟩, rfl, rfl, rfl⟩ ?_
  rintro k ⟨hk, hI⟩
  conv => whnf
  refine boolK_intro (fun h2 => ?_) (fun h2 => ?_) <;> simp at h2 <;> conv => whnf
  · refine ⟨by omega, ?_⟩
    conv => whnf
    refine Fn.closed (image_br ⟨z, d, sp, sl, an⟩ (l.getD k ⟨0, 0, []⟩) (hb _ (getD_mem h2))) rfl ?_
    rintro _ rfl
    conv => whnf
    refine boolK_intro (fun h3 => ?_) (fun h3 => ?_) <;> conv => whnf
    · refine ⟨_, fun c v h => nilr c v 1 (by decide) ?_ h, rfl⟩
      have : l.all (imgOk ⟨z, d, sp, sl, an⟩) = false := by
        rw [← Bool.not_eq_true]
        intro hh
        have := List.all_eq_true.1 hh _ (getD_mem (d := ⟨0, 0, []⟩) h2)
        rw [this] at h3
        simp at h3
      simp [txnE, ht0, this]
    · refine ⟨k + 1, ⟨by omega, fun i hi => ?_⟩, by omega, [], trivial, ⟨rfl, rfl, rfl, rfl, rfl, rfl, wsucc (by omega), trivial⟩, ⟨rfl, trivial⟩, rfl, rfl, rfl⟩
      rcases Nat.lt_or_ge i k with h | h
      · exact hI i h
      · obtain rfl : i = k := by omega
        cases hq : imgOk ⟨z, d, sp, sl, an⟩ (l.getD i ⟨0, 0, []⟩) with
        | true => rfl
        | false => rw [hq] at h3; simp at h3
  · have ht1 : l.all (imgOk ⟨z, d, sp, sl, an⟩) = true := by
      rw [List.all_eq_true]
      intro x hx
      obtain ⟨i, hi, rfl⟩ := List.getElem_of_mem hx
      have := hI i (by omega)
      rwa [List.getD_eq_getElem?_getD, List.getElem?_eq_getElem hi] at this
    clear hI
    refine Fn.closed (rin_fn _ _ _) rfl ?_
    rintro _ rfl
    conv => whnf
    refine boolK_intro (fun h3 => ?_) (fun h3 => ?_) <;> simp at h3 <;> conv => whnf
    · exact ⟨_, fun c v h => nilr c v 2 (by decide) (by simp [txnE, ht0, ht1, h3]) h, rfl⟩
    have ht2 : txnE ⟨z, d, sp, sl, an⟩ seq epoch l = 0 := by simp [txnE, ht0, ht1, h3]
    clear nilr
    rw [wi (by omega)]
    refine aLoop.rule Nat (fun k => ([(1, .v (.int .i64 seq)), (2, .v (.int .i64 epoch)), (13, .v (.int .i64 (l.length + 1))), (12, .ow 1 k), (47, imgsA l), (48, .v (.int .i64 l.length)), (49, .v (.int .i64 k))], [.dead, .row 28 8 ((imgR seq epoch (l.length + 1) k l).map rcC)])) (fun k => k ≤ l.length) (fun k => l.length - k) 0 (Nat.zero_le _) ⟨[(12, 28, 8)], ⟨rfl, rfl, trivial⟩, ⟨rfl, rfl, rfl, rfl, rfl, rfl, rfl, trivial⟩, ⟨rfl, trivial⟩, rfl, rfl, rfl⟩ ?_
    rintro k hk
    have hlk := imgR_len seq epoch (l.length + 1) k l
    conv => whnf
    refine boolK_intro (fun h2 => ?_) (fun h2 => ?_) <;> simp at h2 <;> conv => whnf
    · refine ⟨by omega, ?_⟩
      conv => whnf
      refine Fn.closed (clone_br (l.getD k ⟨0, 0, []⟩).bytes (by have := hb _ (getD_mem (d := ⟨0, 0, []⟩) h2); omega)) rfl ?_
      rintro _ rfl
      conv => whnf
      refine ⟨rfl, ?_⟩
      conv => whnf
      refine ⟨⟨by rw [List.length_map, hlk]; omega, by omega⟩, ?_⟩
      conv => whnf
      refine ⟨k + 1, by omega, by omega, [], trivial, ⟨rfl, rfl, rfl, rfl, rfl, rfl, wsucc (by omega), trivial⟩, ⟨rowEq ?_, trivial⟩, rfl, rfl, rfl⟩
      rw [imgR_step' _ _ _ h2]
      rfl
    · obtain rfl : k = l.length := by omega
      rw [wi (by omega), show (l.length : Int) + 1 - 1 = l.length by omega]
      refine ⟨rfl, ?_⟩
      conv => whnf
      refine ⟨⟨by rw [List.length_map, hlk]; omega, by omega⟩, ?_⟩
      conv => whnf
      refine ⟨by rw [List.length_append, List.length_map, hlk]; simp, ?_⟩
      conv => whnf
      refine ⟨_, fun c v h => ?_, rfl⟩
      rw [ht2, if_pos rfl]
      simp only [Rd, RdL] at h ⊢
      obtain ⟨xs, rfl, a, _, rfl, h1, h2⟩ := h
      exact ⟨_, rfl, a, _, rfl, Rd.sub (sz := 8) (recsOf_len seq epoch l).symm (recs_sub seq epoch l) (by simp only [Rd]; exact h1), h2⟩
end Go.Proofs.Ytpknhpfbinplgaa.A
end

/-
seal.Open.
-/
section
namespace Go.Proofs.Ytpknhpfbinplgaa
open Go.RowKit
attribute [local go_sem ↓] Go.wp_at_zero Go.wp_at_succ

/-- How the reading of a sector ends. -/
def openE (b : List UInt8) : Int :=
  if b.length < 11 ∨ 107 < b.length then 4
  else if leN (b.drop (b.length - 4)) ≠ sumC (b.take (b.length - 4)) then 5
  else if partOk b = true ∧ partN b = b.length - 11 then 0 else 4
def secAddr (b : List UInt8) : Int := (leN ((b.drop (b.length - 10)).take 2) : Nat)
def secStamp (b : List UInt8) : Int := (leN ((b.drop (b.length - 8)).take 4) : Nat)
def secPay (b : List UInt8) : List UInt8 := (b.drop 1).take (b.length - 11)
def OpenP (w' : World) (base : Nat) (b : List UInt8) (e : Ending) : Prop :=
  (openE b ≠ 0 ∧ e = .returned (.tuple #[.agg #[.int .i64 0, .int .i64 0, .slice none 0 0], .int .i64 (openE b)])) ∨
  (openE b = 0 ∧ ∃ v, e = .returned (.tuple #[.agg #[.int .i64 (secAddr b), .int .i64 (secStamp b), v], .int .i64 0]) ∧ OwR w' noM base 5 v (secPay b))

set_option maxRecDepth 100000 in
set_option maxHeartbeats 16000000 in
theorem open_any (v : Value) (b : List UInt8) (w : World) (Mi : Ms) (h : SlR w Mi v b) (hl : b.length ≤ 100000) :
    Calls Try.prog 31 #[v] w fun e w' => OpenP w' w.heap.size b e ∧ Below w.heap.size w w' := by
  obtain ⟨a, c, rfl⟩ := h.form
  have hcap := h.cap
  have H := Lib.hid h.bare
  have HB := Lib.hid ((Below.refl w.heap.size w).alloc (Nat.le_refl _) (.cells #[.int .i64 0, .int .i64 0, .slice none 0 0] 65))
  have HR := Lib.hid (Blk.new w 65 #[.int .i64 0, .int .i64 0, .slice none 0 0])
  clear h
  by_cases hlen : b.length < 11 ∨ 107 < b.length
  · have hE := Lib.hid (show openE b = 4 by rw [openE, if_pos hlen])
    have hx := HR.out.cell
    by_cases h1 : b.length < 11
    · have h1' : (b.length : Int) < 11 := by omega
      have hlen := Lib.hid hlen
      go_enter Try.func31, Try.ntmps31
      go_wp2
      refine bodyPost_ret (v := .tuple #[.agg #[.int .i64 0, .int .i64 0, .slice none 0 0], .int .i64 4]) (by simp [results, Try.results31, go_sem, hx]) rfl ?_
      exact ⟨.inl ⟨by rw [hE.out]; decide, by rw [hE.out]⟩, HB.out⟩
    · have h1' : ¬ (b.length : Int) < 11 := by omega
      have h2' : (107 : Int) < b.length := by omega
      have hlen := Lib.hid hlen
      go_enter Try.func31, Try.ntmps31
      go_wp2
      refine bodyPost_ret (v := .tuple #[.agg #[.int .i64 0, .int .i64 0, .slice none 0 0], .int .i64 4]) (by simp [results, Try.results31, go_sem, hx]) rfl ?_
      exact ⟨.inl ⟨by rw [hE.out]; decide, by rw [hE.out]⟩, HB.out⟩
  · have h1 : 11 ≤ b.length := by omega
    have h2 : b.length ≤ 107 := by omega
    have h1' : ¬ (b.length : Int) < 11 := by omega
    have h2' : ¬ (107 : Int) < b.length := by omega
    have hE0 := Lib.hid (show openE b = if leN (b.drop (b.length - 4)) ≠ sumC (b.take (b.length - 4)) then 5 else if partOk b = true ∧ partN b = b.length - 11 then 0 else 4 by rw [openE, if_neg hlen])
    obtain ⟨-, hc1, hc2⟩ := hcap
    obtain ⟨bb, off, rfl, -, -⟩ := u8_at H.out (show 0 < b.length by omega)
    have hw4 : IntKind.i64.wrap ((b.length : Int) - 4) = ((b.length - 4 : Nat) : Int) := by rw [IntKind.wrap_i64]; omega
    have hw11 : IntKind.i64.wrap ((b.length : Int) - 11) = ((b.length - 11 : Nat) : Int) := by rw [IntKind.wrap_i64]; omega
    have hat0 : (0 : Int) ≤ ((b.length - 4 : Nat) : Int) := by omega
    have hat1 : ((b.length - 4 : Nat) : Int) ≤ b.length := by omega
    have hat2 : ((b.length - 4 : Nat) : Int) ≤ c := by omega
    have hat3 : (b.length : Int) ≤ c := by omega
    have hne : ¬ c = b.length - 4 := by omega
    have hsd := (H.out.mono (Keep.below HB.out)).dropU (i := b.length - 4) (by omega)
    rw [if_neg hne] at hsd
    have hdl : (b.drop (b.length - 4)).length = 4 := by rw [List.length_drop]; omega
    have hge := get_any _ (b.drop (b.length - 4)) 4 (w.alloc (.cells #[.int .i64 0, .int .i64 0, .slice none 0 0] 65)) noM noM hsd (.inr (.inr rfl)) (by rw [hdl]; decide) (by rw [hdl]; omega)
    rw [show (b.drop (b.length - 4)).take (Int.toNat 4) = b.drop (b.length - 4) from List.take_of_length_le (by rw [hdl]; decide)] at hge
    have hge := Lib.hid hge
    clear hlen hsd hdl
    go_enter Try.func31, Try.ntmps31
    go_wp2_with fail
    ((with_reducible refine hge.out.mono ?_); rintro e w1 ⟨r1, rfl, ho1, hB1⟩)
    have HB1 := Lib.hid (HB.out.trans (hB1.mono HB.out.size))
    have HR1 := Lib.hid (HR.out.below hB1)
    have hsm := Lib.hid (sumOf_any (.slice (some ⟨bb, off, none⟩) (b.length - 4) c) (b.take (b.length - 4)) w1 noM ((H.out.mono (Keep.below HB1.out)).take_ (by omega)))
    obtain ⟨T1, hT1⟩ : ∃ T1, T1 = leN (b.drop (b.length - 4)) := ⟨_, rfl⟩
    obtain ⟨T2, hT2⟩ : ∃ T2, T2 = sumC (b.take (b.length - 4)) := ⟨_, rfl⟩
    rw [← hT1, ← hT2] at hE0
    rw [← hT2] at hsm
    rw [← hT1]
    clear hB1 hge ho1 hT1 hT2 HB HR
    go_wp2_with fail
    ((with_reducible refine hsm.out.mono ?_); rintro e w2 ⟨rfl, rfl⟩)
    by_cases hsum : T1 = T2
    · have hs' : ((T1 : Int) != (T2 : Int)) = false := by simp [hsum]
      have hE1 := Lib.hid (show openE b = if partOk b = true ∧ partN b = b.length - 11 then 0 else 4 by rw [hE0.out, if_neg (by simpa using hsum)])
      have hup := Lib.hid (unpart_any (.slice (some ⟨bb, off, none⟩) b.length c) b w2 noM (H.out.mono (Keep.below HB1.out)) (by omega))
      clear hsum hE0 hsm
      go_wp2_with fail
      ((with_reducible refine hup.out.mono ?_); rintro e w3 ⟨hU, hB3⟩)
      have HB3 := Lib.hid (HB1.out.trans (hB3.mono HB1.out.size))
      have HR3 := Lib.hid (HR1.out.below hB3)
      have HW2 := Lib.hid (show w.heap.size < w2.heap.size from HR1.out.lt)
      clear hB3 hup HB1 HR1
      rcases hU with ⟨hpo, v1, v2, rfl, hv1, hv2⟩ | ⟨hpo, rfl⟩
      · obtain ⟨A1, C1, rfl⟩ := hv1.form
        obtain ⟨A2, C2, rfl⟩ := hv2.form
        have hpl : ((b.drop 1).take (partN b)).length = partN b := by
          simp only [partOk, decide_eq_true_eq] at hpo
          rw [List.length_take, List.length_drop]; omega
        rw [hpl] at hv1 ⊢
        by_cases hpn : partN b = b.length - 11
        · have hE2 := Lib.hid (show openE b = 0 by rw [hE1.out, if_pos ⟨hpo, hpn⟩])
          rw [hpn] at hv1 hv2 ⊢
          have hdr : b.drop (1 + (b.length - 11)) = b.drop (b.length - 10) := by congr 1; omega
          rw [hdr] at hv2 ⊢
          have hrl : (b.drop (b.length - 10)).length = 10 := by rw [List.length_drop]; omega
          have hbl := (Below.refl w3.heap.size w3).alloc (Nat.le_refl _) (.cells #[.int .i64 2, .int .i64 4] 3)
          have hun := unrow_any _ _ (b.drop (b.length - 10)) [2, 4] _ noM noM ((hv2.below hbl).sl (M := noM) (fun _ _ h => h)) ((OwR.litI w3 noM [2, 4] (by simp)).sl (fun _ _ h => h)) (by decide) (by rw [hrl]; omega) (by simp)
          rw [hrl] at hun ⊢
          simp only [List.map_cons, List.map_nil, List.length_cons, List.length_nil, Nat.reduceAdd] at hun
          have hun := Lib.hid hun
          have HV1 := Lib.hid hv1
          have HBL := Lib.hid hbl
          have hnum : nums [2, 4] (b.drop (b.length - 10)) = [secAddr b, secStamp b] := by
            simp only [nums, secAddr, secStamp]
            rw [List.drop_drop, show b.length - 10 + Int.toNat 2 = b.length - 8 by show _ + 2 = _; omega]
            rfl
          have HN := Lib.hid hnum
          have hpe : (((b.length - 11 : Nat) : Int) != ((b.length - 11 : Nat) : Int)) = false := by simp
          clear hpo hpl hpn hdr hv1 hv2 hbl hnum hE1
          go_wp2_with fail
          ((with_reducible refine hun.out.mono ?_); rintro e w4 ⟨hU, hB4⟩)
          have hb34 := HBL.out.trans (hB4.mono HBL.out.size)
          have HB4 := Lib.hid (HB3.out.trans (hb34.mono HB3.out.size))
          have HR4 := Lib.hid (HR3.out.below hb34)
          have HV4 := Lib.hid (HV1.out.below hb34)
          rcases hU with ⟨-, v5, v6, rfl, ho5, ho6⟩ | ⟨hfew, -⟩
          case inr => exact absurd hfew (by rw [hrl]; decide)
          rw [HN.out] at ho5
          obtain ⟨x, hx0⟩ : ∃ x, x = secAddr b := ⟨_, rfl⟩
          obtain ⟨y, hy0⟩ : ∃ y, y = secStamp b := ⟨_, rfl⟩
          rw [← hx0, ← hy0] at ho5
          have HXY := Lib.hid (And.intro hx0 hy0)
          obtain ⟨B, cB, rfl, hBB, hBlt, f1, y0, y1⟩ := ho5.int2
          have hS := Lib.hid (show w4.drew.cell? ⟨B, 0, none⟩ = some (.int .i64 x) ∧ w4.drew.cell? ⟨B, 1, none⟩ = some (.int .i64 y) from ⟨y0, y1⟩)
          clear hx0 hy0 ho5 ho6 hBB hBlt f1 y0 y1 hB4 hb34 hun
          go_wp2_with fail
          refine rp_enter [2, 5] (fun W => W.cell? ⟨B, 0, none⟩ = some (.int .i64 x) ∧ W.cell? ⟨B, 1, none⟩ = some (.int .i64 y)) (by kernel_rfl) ?_
          obtain ⟨r1, r2, r3⟩ := HR4.out.all
          apply rp_pure 0 rfl (by kernel_rfl) (fun _ _ _ h => h) rfl
          · (intro W; go_simp; try rfl)
          · (go_simp; try rfl)
          apply rp_pure 1 rfl (by kernel_rfl) (fun _ _ _ h => h) rfl
          · (intro W; go_simp; try rfl)
          · (go_simp; try rfl)
          apply rp_take 2 rfl (by kernel_rfl) (fun _ _ _ h => h) (hS.out) rfl
          · (rintro W ⟨s0, s1⟩; go_simp; try rfl)
          · (go_simp; try rfl)
          apply rp_pure 3 rfl (by kernel_rfl) (fun _ _ _ h => h) rfl
          · (intro W; go_simp; try rfl)
          · (go_simp; try rfl)
          apply rp_pure 4 rfl (by kernel_rfl) (fun _ _ _ h => h) rfl
          · (intro W; go_simp; try rfl)
          · (go_simp; try rfl)
          apply rp_take 5 rfl (by kernel_rfl) (fun _ _ _ h => h) (hS.out) rfl
          · (rintro W ⟨s0, s1⟩; go_simp; try rfl)
          · (go_simp; try rfl)
          apply rp_pure 6 rfl (by kernel_rfl) (fun _ _ _ h => h) rfl
          · (intro W; go_simp; try rfl)
          · (go_simp; try rfl)
          apply rp_pure 7 rfl (by kernel_rfl) (fun _ _ _ h => h) rfl
          · (intro W; go_simp; try rfl)
          · (go_simp; try rfl)
          refine rp_free 8 (by kernel_rfl) (by kernel_rfl) rfl (fun K hK => ?_)
          go_simp
          refine hK _ _ ?_; clear hK K
          apply rp_pure 9 rfl (by kernel_rfl) (fun _ _ _ h => h) rfl
          · (intro W; go_simp; try rfl)
          · (go_simp; try rfl)
          refine rp_done (by kernel_rfl) ?_
          clear r1 r2 r3 hS
          have hx := st3_cells HR4.out (.int .i64 x) (.int .i64 y) (.slice A1 (b.length - 11) C1)
          have HBf := Lib.hid ((((HB4.out.setCell (p := ⟨w.heap.size, 0, none⟩) (Nat.le_refl _) (.int .i64 x)).setCell (p := ⟨w.heap.size, 1, none⟩) (Nat.le_refl _) (.int .i64 y)).setCell (p := ⟨w.heap.size, 2, none⟩) (Nat.le_refl _) (.slice A1 (b.length - 11) C1)).drew)
          have hnv : (Value.slice A1 (b.length - 11) C1).ownBlock ≠ some w.heap.size := fun e => by have := HV4.out.own_ge e; have := HW2.out; omega
          have HVf := Lib.hid ((((HV4.out.setP plU (p := ⟨w.heap.size, 0, none⟩) hnv (.int .i64 x)).setP plU (p := ⟨w.heap.size, 1, none⟩) hnv (.int .i64 y)).setP plU (p := ⟨w.heap.size, 2, none⟩) hnv (.slice A1 (b.length - 11) C1)).drew)
          clear hnv
          go_wp2
          refine bodyPost_ret (v := .tuple #[.agg #[.int .i64 x, .int .i64 y, .slice A1 (b.length - 11) C1], .int .i64 0]) (by simp [results, Try.results31, go_sem, hx]) rfl ?_
          refine ⟨.inr ⟨hE2.out, _, ?_, HVf.out.mono_base (Nat.le_of_lt HW2.out)⟩, HBf.out⟩
          rw [HXY.out.1, HXY.out.2]
        · have hE2 := Lib.hid (show openE b = 4 by rw [hE1.out, if_neg (fun h => hpn h.2)])
          have hpe : (((partN b : Nat) : Int) != ((b.length - 11 : Nat) : Int)) = true := by simp only [bne_iff_ne, ne_eq]; omega
          obtain ⟨r1, r2, r3⟩ := HR3.out.all
          have hx := st3_cells HR3.out (.int .i64 0) (.int .i64 0) (.slice none 0 0)
          have HBf := Lib.hid (((HB3.out.setCell (p := ⟨w.heap.size, 0, none⟩) (Nat.le_refl _) (.int .i64 0)).setCell (p := ⟨w.heap.size, 1, none⟩) (Nat.le_refl _) (.int .i64 0)).setCell (p := ⟨w.heap.size, 2, none⟩) (Nat.le_refl _) (.slice none 0 0))
          clear hpo hpl hpn hv1 hv2 hE1
          go_wp2
          refine bodyPost_ret (v := .tuple #[.agg #[.int .i64 0, .int .i64 0, .slice none 0 0], .int .i64 4]) (by simp [results, Try.results31, go_sem, hx]) rfl ?_
          exact ⟨.inl ⟨by rw [hE2.out]; decide, by rw [hE2.out]⟩, HBf.out⟩
      · have hE2 := Lib.hid (show openE b = 4 by rw [hE1.out, if_neg (fun h => by rw [hpo] at h; cases h.1)])
        obtain ⟨r1, r2, r3⟩ := HR3.out.all
        have hx := st3_cells HR3.out (.int .i64 0) (.int .i64 0) (.slice none 0 0)
        have HBf := Lib.hid (((HB3.out.setCell (p := ⟨w.heap.size, 0, none⟩) (Nat.le_refl _) (.int .i64 0)).setCell (p := ⟨w.heap.size, 1, none⟩) (Nat.le_refl _) (.int .i64 0)).setCell (p := ⟨w.heap.size, 2, none⟩) (Nat.le_refl _) (.slice none 0 0))
        clear hpo hE1
        go_wp2
        refine bodyPost_ret (v := .tuple #[.agg #[.int .i64 0, .int .i64 0, .slice none 0 0], .int .i64 4]) (by simp [results, Try.results31, go_sem, hx]) rfl ?_
        exact ⟨.inl ⟨by rw [hE2.out]; decide, by rw [hE2.out]⟩, HBf.out⟩
    · have hs' : ((T1 : Int) != (T2 : Int)) = true := by simp only [bne_iff_ne, ne_eq]; omega
      have hE1 := Lib.hid (show openE b = 5 by rw [hE0.out, if_pos (by simpa using hsum)])
      obtain ⟨r1, r2, r3⟩ := HR1.out.all
      have hx := st3_cells HR1.out (.int .i64 0) (.int .i64 0) (.slice none 0 0)
      have HBf := Lib.hid (((HB1.out.setCell (p := ⟨w.heap.size, 0, none⟩) (Nat.le_refl _) (.int .i64 0)).setCell (p := ⟨w.heap.size, 1, none⟩) (Nat.le_refl _) (.int .i64 0)).setCell (p := ⟨w.heap.size, 2, none⟩) (Nat.le_refl _) (.slice none 0 0))
      clear hsum hE0 hsm
      go_wp2
      refine bodyPost_ret (v := .tuple #[.agg #[.int .i64 0, .int .i64 0, .slice none 0 0], .int .i64 5]) (by simp [results, Try.results31, go_sem, hx]) rfl ?_
      exact ⟨.inl ⟨by rw [hE1.out]; decide, by rw [hE1.out]⟩, HBf.out⟩
end Go.Proofs.Ytpknhpfbinplgaa
end

/-
The law RecCells answers true: a right record's two cells open and tell it.
-/
section
namespace Go.Proofs.Ytpknhpfbinplgaa
open Go.RowKit
attribute [local go_sem ↓] Go.wp_at_zero Go.wp_at_succ

theorem take_all {l m : List UInt8} {n : Nat} (h : l.length = n) : (l ++ m).take n = l := by subst h; simp
theorem drop_all {l m : List UInt8} {n : Nat} (h : l.length = n) : (l ++ m).drop n = m := by subst h; simp
theorem sealHead_len (a s : Int) (p : List UInt8) : (sealHead a s p).length = p.length + 7 := by
  simp only [sealHead, List.length_append, List.length_cons, leB_len]
theorem sealB_len (a s : Int) (p : List UInt8) : (sealB a s p).length = p.length + 11 := by
  simp only [sealB, List.length_append, sealHead_len, leB_len]
theorem seal_open {a s : Int} {p : List UInt8} (h : okS a s p) : openE (sealB a s p) = 0 ∧ secAddr (sealB a s p) = a ∧ secStamp (sealB a s p) = s ∧ secPay (sealB a s p) = p := by
  obtain ⟨h1, h2, h3, h4, h5⟩ := h
  have hl := sealB_len a s p
  have hs := sumC_le (sealHead a s p)
  have e1 : sealB a s p = sealHead a s p ++ leB 4 (sumC (sealHead a s p)) := rfl
  have e2 : sealB a s p = (UInt8.ofNat p.length :: p) ++ (leB 2 a.toNat ++ (leB 4 s.toNat ++ leB 4 (sumC (sealHead a s p)))) := by rw [e1]; simp only [sealHead, List.append_assoc]
  have e3 : sealB a s p = ((UInt8.ofNat p.length :: p) ++ leB 2 a.toNat) ++ (leB 4 s.toNat ++ leB 4 (sumC (sealHead a s p))) := by rw [e2, List.append_assoc]
  have hpn : partN (sealB a s p) = p.length := by
    rw [e2]
    show (UInt8.ofNat p.length).toNat = p.length
    rw [UInt8.toNat_ofNat_of_lt']
    exact Nat.lt_of_le_of_lt h5 (by decide)
  refine ⟨?_, ?_, ?_, ?_⟩
  · unfold openE
    rw [if_neg (by omega), if_neg, if_pos]
    · refine ⟨?_, by omega⟩
      simp only [partOk, decide_eq_true_eq]
      omega
    · rw [hl, show p.length + 11 - 4 = p.length + 7 by omega, e1, drop_all (sealHead_len a s p), take_all (sealHead_len a s p), leN_leB _ _ (by have : (256 : Nat) ^ 4 = 4294967296 := rfl; omega)]
      simp
  · unfold secAddr
    rw [hl, show p.length + 11 - 10 = p.length + 1 by omega, e2, drop_all (by simp), take_all (leB_len 2 _), leN_leB _ _ (by have : (256 : Nat) ^ 2 = 65536 := rfl; omega)]
    omega
  · unfold secStamp
    rw [hl, show p.length + 11 - 8 = p.length + 3 by omega, e3, drop_all (by simp [leB_len]), take_all (leB_len 4 _), leN_leB _ _ (by have : (256 : Nat) ^ 4 = 4294967296 := rfl; omega)]
    omega
  · unfold secPay
    rw [hl, show p.length + 11 - 11 = p.length by omega, e2]
    simp
theorem cell_okS {g : Geo} {r : Rc} {copy slot : Int} (h : okR g r = true) (hl : okL g copy slot = true) : okS (logAt g copy slot) r.seq (recB r) := by
  have h1 := logAt_bounds (okR_parts h).1 hl
  have h2 := okR_seq h
  have h3 := recB_short h
  exact ⟨h1.1, h1.2, h2.1, h2.2, by omega⟩

theorem cell_len {g : Geo} {r : Rc} (h : okR g r = true) (copy slot : Int) : (cellB g r copy slot).length ≤ 100000 := by
  have h1 := recB_short h
  rw [cellB, sealB_len]
  omega

set_option maxRecDepth 100000 in
set_option maxHeartbeats 16000000 in
theorem cells_any (g : Geo) (r : Rc) (v : Value) (slot : Int) (w : World) (Mi : Ms) (h : SlR w Mi v r.img.bytes) :
    Calls Try.prog 8 #[gv g, rv r v, .int .i64 slot] w fun e w' => e = .returned (.bool true) ∧ Below w.heap.size w w' := by
  obtain ⟨kind, seq, epoch, at_, of_, ⟨zone, what, bytes⟩⟩ := r
  obtain ⟨z, d, sp, sl, an⟩ := g
  simp only at h
  obtain ⟨a, c, rfl⟩ := h.form
  have hcap := h.cap
  have hb1 := (Below.refl w.heap.size w).alloc (Nat.le_refl _) (.cells #[.int .i64 z, .int .i64 d, .int .i64 sp, .int .i64 sl, .int .i64 an] 23)
  have hb2 := hb1.alloc (by simp) (.cells #[.int .i64 kind, .int .i64 seq, .int .i64 epoch, .int .i64 at_, .int .i64 of_, .int .i64 zone, .int .i64 what, .slice a bytes.length c] 28)
  have hT := Blk.new (w.alloc (.cells #[.int .i64 z, .int .i64 d, .int .i64 sp, .int .i64 sl, .int .i64 an] 23)) 28 #[.int .i64 kind, .int .i64 seq, .int .i64 epoch, .int .i64 at_, .int .i64 of_, .int .i64 zone, .int .i64 what, .slice a bytes.length c]
  simp only [World.size_alloc] at hT
  have HG := Lib.hid ((Blk.new w 23 #[.int .i64 z, .int .i64 d, .int .i64 sp, .int .i64 sl, .int .i64 an]).alloc (.cells #[.int .i64 kind, .int .i64 seq, .int .i64 epoch, .int .i64 at_, .int .i64 of_, .int .i64 zone, .int .i64 what, .slice a bytes.length c] 28))
  have HB := Lib.hid hb2
  have HT := Lib.hid hT
  have H := Lib.hid h.bare
  have hrg := Lib.hid (fun w' => rgeom_any ⟨z, d, sp, sl, an⟩ w')
  unfold gv at hrg
  unfold gv rv
  simp only at hrg ⊢
  clear hb1 hb2 hT h
  by_cases h2 : 200 < bytes.length
  · have h2' : (200 : Int) < bytes.length := by omega
    go_enter Try.func8, Try.ntmps8
    go_wp2
    go_ret
    exact ⟨rfl, HB.out⟩
  have h2' : ¬ (200 : Int) < bytes.length := by omega
  have hbl : bytes.length ≤ 200 := by omega
  cases hok : okG ⟨z, d, sp, sl, an⟩ with
  | false =>
    rw [hok] at hrg
    clear hok
    go_enter Try.func8, Try.ntmps8
    go_wp2_with (go_at_call 19; go_must (with_reducible refine (hrg.out _).mono ?_); rintro e w1 ⟨rfl, hB1⟩)
    go_ret
    exact ⟨rfl, HB.out.trans (hB1.mono HB.out.size)⟩
  | true =>
  rw [hok] at hrg
  have HGK := Lib.hid hok
  clear hok
  go_enter Try.func8, Try.ntmps8
  go_wp2_with fail
  ((with_reducible refine (hrg.out _).mono ?_); rintro e w1 ⟨rfl, hB1⟩)
  have HB1 := Lib.hid (HB.out.trans (hB1.mono HB.out.size))
  have HG1 := Lib.hid (HG.out.below hB1)
  have HT1 := Lib.hid (HT.out.below hB1)
  have hrr := Lib.hid (rrec_any ⟨z, d, sp, sl, an⟩ ⟨kind, seq, epoch, at_, of_, ⟨zone, what, bytes⟩⟩ (.slice a bytes.length c) w1 noM (H.out.mono (Keep.below HB1.out)) (by simp only; omega) HGK.out)
  unfold gv rv at hrr
  simp only at hrr
  obtain ⟨g1, g2, g3⟩ := HG1.out.all
  obtain ⟨t1, t2, t3⟩ := HT1.out.all
  clear hB1 hrg HB HG HT
  cases hokr : okR ⟨z, d, sp, sl, an⟩ ⟨kind, seq, epoch, at_, of_, ⟨zone, what, bytes⟩⟩ with
  | false =>
    rw [hokr] at hrr
    clear hokr
    go_wp2_with (go_at_call 28; go_must (with_reducible refine hrr.out.mono ?_); rintro e w2 ⟨rfl, hB2⟩)
    go_ret
    exact ⟨rfl, HB1.out.trans (hB2.mono HB1.out.size)⟩
  | true =>
  rw [hokr] at hrr
  have HOK := Lib.hid hokr
  clear hokr
  go_wp2_with fail
  clear g1 g2 g3 t1 t2 t3
  ((with_reducible refine hrr.out.mono ?_); rintro e w2 ⟨rfl, hB2⟩)
  have HB2 := Lib.hid (HB1.out.trans (hB2.mono HB1.out.size))
  have HG2 := Lib.hid (HG1.out.below hB2)
  have HT2 := Lib.hid (HT1.out.below hB2)
  clear hB2 hrr HB1 HG1 HT1
  have hsl0 : (14 : Int) ≤ sl := (okG_iff.1 HGK.out).2.2.2.1.1
  have hsl1 : sl ≤ 30 := (okG_iff.1 HGK.out).2.2.2.1.2
  have han0 : (1 : Int) ≤ an := (okG_iff.1 HGK.out).2.2.2.2.1
  have han1 : an ≤ 3 := (okG_iff.1 HGK.out).2.2.2.2.2
  have hu0 : 0 ≤ IntKind.u64.wrap slot := by have := IntKind.wrap_u64 slot; omega
  have hm1 := Int.tmod_nonneg sl hu0
  have hm2 := Int.tmod_lt_of_pos (IntKind.u64.wrap slot) (show (0 : Int) < sl by omega)
  have hwsl : IntKind.u64.wrap sl = sl := by rw [IntKind.wrap_u64]; omega
  have hsz : (sl == 0) = false := beq_eq_false_iff_ne.2 (by omega)
  have hsz2 : ¬ sl = 0 := by omega
  obtain ⟨m, hm⟩ : ∃ m : Int, (IntKind.u64.wrap slot).tmod sl = m := ⟨_, rfl⟩
  rw [hm] at hm1 hm2
  have hwu : IntKind.u64.wrap m = m := by rw [IntKind.wrap_u64]; omega
  have hwm : IntKind.i64.wrap m = m := by rw [IntKind.wrap_i64]; omega
  have hl0 : okL ⟨z, d, sp, sl, an⟩ 0 m = true := by simp only [okL, Bool.and_eq_true, inB_iff]; omega
  have hl1 : okL ⟨z, d, sp, sl, an⟩ 1 m = true := by simp only [okL, Bool.and_eq_true, inB_iff]; omega
  have HL0 := Lib.hid hl0
  have HL1 := Lib.hid hl1
  have HS0 := Lib.hid (seal_open (cell_okS HOK.out hl0))
  have HS1 := Lib.hid (seal_open (cell_okS HOK.out hl1))
  have hcl0 := cell_len HOK.out 0 m
  have hcl1 := cell_len HOK.out 1 m
  obtain ⟨A0, hA0⟩ : ∃ A0, A0 = logAt ⟨z, d, sp, sl, an⟩ 0 m := ⟨_, rfl⟩
  obtain ⟨A1, hA1⟩ : ∃ A1, A1 = logAt ⟨z, d, sp, sl, an⟩ 1 m := ⟨_, rfl⟩
  have hwA0 : IntKind.i64.wrap (an + m) = A0 := by rw [hA0, IntKind.wrap_i64]; simp only [logAt]; omega
  have hwA1 : IntKind.i64.wrap (A0 + sl) = A1 := by rw [hA0, hA1, IntKind.wrap_i64]; simp only [logAt]; omega
  have HA0 := Lib.hid hA0
  have HA1 := Lib.hid hA1
  have HCL0 := Lib.hid hcl0
  have HCL1 := Lib.hid hcl1
  have HA := Lib.hid (And.intro hwA0 hwA1)
  clear hl0 hl1 hcl0 hcl1 hA0 hA1 hwA0 hwA1 hu0 hm1 hm2 hsl0 hsl1 han0 han1
  have hc0 := Lib.hid (rcell_any ⟨z, d, sp, sl, an⟩ ⟨kind, seq, epoch, at_, of_, ⟨zone, what, bytes⟩⟩ 0 m (.slice a bytes.length c) w2 noM (H.out.mono (Keep.below HB2.out)) (by simp only; omega))
  unfold gv rv at hc0
  simp only at hc0
  obtain ⟨g1, g2, g3⟩ := HG2.out.all
  obtain ⟨t1, t2, t3⟩ := HT2.out.all
  go_wp2_with fail
  clear g1 g2 g3 t1 t2 t3 hm hwsl hsz hsz2 hwu hwm
  ((with_reducible refine hc0.out.mono ?_); rintro e w3 ⟨hU3, hB3⟩)
  have HB3 := Lib.hid (HB2.out.trans (hB3.mono HB2.out.size))
  have HG3 := Lib.hid (HG2.out.below hB3)
  have HT3 := Lib.hid (HT2.out.below hB3)
  clear hB3 hc0 HB2 HG2 HT2
  rcases hU3 with ⟨-, -, va, rfl, hoa⟩ | ⟨hbad, -⟩
  case inr => exact absurd hbad (by rw [HOK.out, HL0.out]; simp)
  have hc1 := Lib.hid (rcell_any ⟨z, d, sp, sl, an⟩ ⟨kind, seq, epoch, at_, of_, ⟨zone, what, bytes⟩⟩ 1 m (.slice a bytes.length c) w3 noM (H.out.mono (Keep.below HB3.out)) (by simp only; omega))
  unfold gv rv at hc1
  simp only at hc1
  have HA3 := Lib.hid (hoa.sl (M := noM) (fun _ _ h => h))
  clear hoa
  obtain ⟨g1, g2, g3⟩ := HG3.out.all
  obtain ⟨t1, t2, t3⟩ := HT3.out.all
  go_wp2_with fail
  clear g1 g2 g3 t1 t2 t3
  ((with_reducible refine hc1.out.mono ?_); rintro e w4 ⟨hU4, hB4⟩)
  have HB4 := Lib.hid (HB3.out.trans (hB4.mono HB3.out.size))
  have HG4 := Lib.hid (HG3.out.below hB4)
  have HT4 := Lib.hid (HT3.out.below hB4)
  have HA4 := Lib.hid (HA3.out.mono (Keep.below hB4))
  clear hB4 hc1 HB3 HG3 HT3 HA3
  rcases hU4 with ⟨-, -, vb, rfl, hob⟩ | ⟨hbad, -⟩
  case inr => exact absurd hbad (by rw [HOK.out, HL1.out]; simp)
  have HV4 := Lib.hid (hob.sl (M := noM) (fun _ _ h => h))
  clear hob
  have ho0 := Lib.hid (open_any va (cellB ⟨z, d, sp, sl, an⟩ ⟨kind, seq, epoch, at_, of_, ⟨zone, what, bytes⟩⟩ 0 m) w4 noM HA4.out HCL0.out)
  obtain ⟨X, hX0⟩ : ∃ X, X = recB ⟨kind, seq, epoch, at_, of_, ⟨zone, what, bytes⟩⟩ := ⟨_, rfl⟩
  have HXE := Lib.hid hX0
  clear hX0
  go_wp2_with fail
  ((with_reducible refine ho0.out.mono ?_); rintro e w5 ⟨hU5, hB5⟩)
  have HB5 := Lib.hid (HB4.out.trans (hB5.mono HB4.out.size))
  have HG5 := Lib.hid (HG4.out.below hB5)
  have HT5 := Lib.hid (HT4.out.below hB5)
  have HV5 := Lib.hid (HV4.out.mono (Keep.below hB5))
  clear hB5 ho0 HB4 HG4 HT4 HV4 HA4
  rcases hU5 with ⟨hbad, -⟩ | ⟨-, vx, rfl, hox⟩
  · exact absurd HS0.out.1 hbad
  rw [show secPay (cellB ⟨z, d, sp, sl, an⟩ ⟨kind, seq, epoch, at_, of_, ⟨zone, what, bytes⟩⟩ 0 m) = X from HS0.out.2.2.2.trans HXE.out.symm] at hox
  rw [show secAddr (cellB ⟨z, d, sp, sl, an⟩ ⟨kind, seq, epoch, at_, of_, ⟨zone, what, bytes⟩⟩ 0 m) = A0 from HS0.out.2.1.trans HA0.out.symm, show secStamp (cellB ⟨z, d, sp, sl, an⟩ ⟨kind, seq, epoch, at_, of_, ⟨zone, what, bytes⟩⟩ 0 m) = seq from HS0.out.2.2.1]
  obtain ⟨px, cx, rfl⟩ := hox.form
  have hb6 := (Below.refl w5.heap.size w5).alloc (Nat.le_refl _) (.cells #[.int .i64 A0, .int .i64 seq, .slice px X.length cx] 65)
  have HX6 := Lib.hid ((hox.sl (M := noM) (fun _ _ h => h)).mono (Keep.below hb6))
  have HP6 := Lib.hid (Blk.new w5 65 #[.int .i64 A0, .int .i64 seq, .slice px X.length cx])
  have HB6 := Lib.hid (HB5.out.trans (hb6.mono HB5.out.size))
  have HG6 := Lib.hid (HG5.out.below hb6)
  have HT6 := Lib.hid (HT5.out.below hb6)
  have ho1 := Lib.hid (open_any vb (cellB ⟨z, d, sp, sl, an⟩ ⟨kind, seq, epoch, at_, of_, ⟨zone, what, bytes⟩⟩ 1 m) _ noM (HV5.out.mono (Keep.below hb6)) HCL1.out)
  clear hox hb6 HB5 HG5 HT5 HV5
  go_wp2_with fail
  ((with_reducible refine ho1.out.mono ?_); rintro e w6 ⟨hU6, hB6⟩)
  have HB7 := Lib.hid (HB6.out.trans (hB6.mono HB6.out.size))
  have HG7 := Lib.hid (HG6.out.below hB6)
  have HT7 := Lib.hid (HT6.out.below hB6)
  have HX7 := Lib.hid (HX6.out.mono (Keep.below hB6))
  have HP7 := Lib.hid (HP6.out.below hB6)
  clear hB6 ho1 HB6 HG6 HT6 HX6 HP6
  rcases hU6 with ⟨hbad, -⟩ | ⟨-, vy, rfl, hoy⟩
  · exact absurd HS1.out.1 hbad
  rw [show secPay (cellB ⟨z, d, sp, sl, an⟩ ⟨kind, seq, epoch, at_, of_, ⟨zone, what, bytes⟩⟩ 1 m) = X from HS1.out.2.2.2.trans HXE.out.symm] at hoy
  rw [show secAddr (cellB ⟨z, d, sp, sl, an⟩ ⟨kind, seq, epoch, at_, of_, ⟨zone, what, bytes⟩⟩ 1 m) = A1 from HS1.out.2.1.trans HA1.out.symm, show secStamp (cellB ⟨z, d, sp, sl, an⟩ ⟨kind, seq, epoch, at_, of_, ⟨zone, what, bytes⟩⟩ 1 m) = seq from HS1.out.2.2.1]
  obtain ⟨py, cy, rfl⟩ := hoy.form
  have hb8 := (Below.refl w6.heap.size w6).alloc (Nat.le_refl _) (.cells #[.int .i64 A1, .int .i64 seq, .slice py X.length cy] 65)
  have HY8 := Lib.hid ((hoy.sl (M := noM) (fun _ _ h => h)).mono (Keep.below hb8))
  have HQ8 := Lib.hid (Blk.new w6 65 #[.int .i64 A1, .int .i64 seq, .slice py X.length cy])
  have HB8 := Lib.hid (HB7.out.trans (hb8.mono HB7.out.size))
  have HG8 := Lib.hid (HG7.out.below hb8)
  have HT8 := Lib.hid (HT7.out.below hb8)
  have HX8 := Lib.hid (HX7.out.mono (Keep.below hb8))
  have HP8 := Lib.hid (HP7.out.below hb8)
  have hxl := recB_short HOK.out
  rw [← HXE.out] at hxl
  have hrd := Lib.hid (rread_any ⟨z, d, sp, sl, an⟩ (.slice px X.length cx) X _ noM HX8.out (by omega))
  unfold gv at hrd
  simp only at hrd
  have HRX := Lib.hid (show readR ⟨z, d, sp, sl, an⟩ X = some ⟨kind, seq, epoch, at_, of_, ⟨zone, what, bytes⟩⟩ by rw [HXE.out]; exact readR_recB HOK.out)
  obtain ⟨p1, p2, p3⟩ := HP7.out.all
  clear hoy hb8 HB7 HT7 HX7 HP7
  obtain ⟨g1, g2, g3⟩ := HG7.out.all
  go_wp2_with fail
  clear g1 g2 g3 p1 p2 p3 HG7
  ((with_reducible refine hrd.out.mono ?_); rintro e w7 ⟨hU7, hB7⟩)
  have HB9 := Lib.hid (HB8.out.trans (hB7.mono HB8.out.size))
  have HG9 := Lib.hid (HG8.out.below hB7)
  have HT9 := Lib.hid (HT8.out.below hB7)
  have HX9 := Lib.hid (HX8.out.mono (Keep.below hB7))
  have HY9 := Lib.hid (HY8.out.mono (Keep.below hB7))
  have HP9 := Lib.hid (HP8.out.below hB7)
  have HQ9 := Lib.hid (HQ8.out.below hB7)
  clear hB7 hrd HB8 HG8 HT8 HX8 HY8 HP8 HQ8
  rcases hU7 with ⟨hbad, -⟩ | ⟨-, hbad, -⟩ | ⟨-, v5, r5, hr5, rfl, ho5⟩
  · exact absurd hbad (by rw [HGK.out]; simp)
  · exact absurd hbad (by rw [HRX.out]; simp)
  rw [HRX.out] at hr5
  injection hr5 with hr5
  subst hr5
  obtain ⟨p5, c5, rfl⟩ := ho5.form
  unfold rv
  simp only
  have hb4 := (Below.refl w7.heap.size w7).alloc (Nat.le_refl _) (.cells #[.int .i64 kind, .int .i64 seq, .int .i64 epoch, .int .i64 at_, .int .i64 of_, .int .i64 zone, .int .i64 what, .slice p5 bytes.length c5] 28)
  have HS5 := Lib.hid ((ho5.below hb4).sl (M := noM) (fun _ _ h => h))
  have HZ := Lib.hid (Blk.new w7 28 #[.int .i64 kind, .int .i64 seq, .int .i64 epoch, .int .i64 at_, .int .i64 of_, .int .i64 zone, .int .i64 what, .slice p5 bytes.length c5])
  have HBW := Lib.hid (HB9.out.trans (hb4.mono HB9.out.size))
  have HGW := Lib.hid (HG9.out.below hb4)
  have HTW := Lib.hid (HT9.out.below hb4)
  have HXW := Lib.hid (HX9.out.mono (Keep.below hb4))
  have HYW := Lib.hid (HY9.out.mono (Keep.below hb4))
  have HPW := Lib.hid (HP9.out.below hb4)
  have HQW := Lib.hid (HQ9.out.below hb4)
  have hk1 := Lib.hid (bytes_any (.slice px X.length cx) (.slice py X.length cy) X X _ noM noM HXW.out HYW.out (by omega))
  rw [show decide (X = X) = true by simp] at hk1
  obtain ⟨hwA0, hwA1⟩ := HA.out
  obtain ⟨g1, g2, g3⟩ := HG9.out.all
  obtain ⟨t1, t2, t3⟩ := HT9.out.all
  obtain ⟨p1, p2, p3⟩ := HP9.out.all
  obtain ⟨y1, y2, y3⟩ := HQ9.out.all
  clear hb4 ho5 HB9 HX9 HY9
  go_wp2_with fail
  clear g1 g2 g3 t1 t2 t3 p1 p2 p3 y1 y2 y3 hwA0 hwA1 HG9 HT9 HP9 HQ9
  ((with_reducible refine hk1.out.mono ?_); rintro e w8 ⟨rfl, hB8⟩)
  have HB10 := Lib.hid (HBW.out.trans (hB8.mono HBW.out.size))
  have HZ10 := Lib.hid (HZ.out.below hB8)
  have HT10 := Lib.hid (HTW.out.below hB8)
  have hk2 := Lib.hid (krec_any ⟨kind, seq, epoch, at_, of_, ⟨zone, what, bytes⟩⟩ ⟨kind, seq, epoch, at_, of_, ⟨zone, what, bytes⟩⟩ (.slice p5 bytes.length c5) (.slice a bytes.length c) w8 noM noM (HS5.out.mono (Keep.below hB8)) (H.out.mono (Keep.below HB10.out)) (by simp only; omega))
  rw [show decide ((⟨kind, seq, epoch, at_, of_, ⟨zone, what, bytes⟩⟩ : Rc) = ⟨kind, seq, epoch, at_, of_, ⟨zone, what, bytes⟩⟩) = true by simp] at hk2
  unfold rv at hk2
  simp only at hk2
  obtain ⟨g1, g2, g3⟩ := HZ10.out.all
  obtain ⟨t1, t2, t3⟩ := HT10.out.all
  clear hB8 hk1 HBW HGW HTW HXW HYW HPW HQW HZ HS5
  go_wp2_with fail
  clear g1 g2 g3 t1 t2 t3 HZ10 HT10
  ((with_reducible refine hk2.out.mono ?_); rintro e w9 ⟨rfl, hB9⟩)
  have HB11 := Lib.hid (HB10.out.trans (hB9.mono HB10.out.size))
  have hwk := Lib.hid (wakes_any w9)
  clear hB9 hk2 HB10
  go_wp2_with fail
  ((with_reducible refine hwk.out.mono ?_); rintro e w10 ⟨rfl, hB10⟩)
  have HB12 := Lib.hid (HB11.out.trans (hB10.mono HB11.out.size))
  clear hB10 hwk HB11
  go_wp2
  go_ret
  exact ⟨rfl, HB12.out⟩
end Go.Proofs.Ytpknhpfbinplgaa
end

/-
RecExact: the program's records are the reference's.
-/
section
namespace Go.Proofs.Ytpknhpfbinplgaa.A
open Go.RowKit

theorem heavy_no {l : List Img} (h : heavyL l = false) : l.length ≤ 40 ∧ ∀ x ∈ l, x.bytes.length ≤ 200 := by
  simp only [heavyL, Bool.or_eq_false_iff, decide_eq_false_iff_not, List.any_eq_false, decide_eq_true_eq] at h
  exact ⟨by omega, fun x hx => by have := h.2 x hx; omega⟩
theorem SubL.rdl : ∀ {l m} {c : Ctx} {xs : List Value}, SubL l m → RdL l c xs → RdL m c xs
  | [], [], _, _, _, h => h
  | x :: l, y :: m, c, xs, h, hr => by
    simp only [RdL] at hr ⊢
    obtain ⟨u, us, rfl, h1, h2⟩ := hr
    exact ⟨u, us, rfl, h.1 _ _ h1, SubL.rdl h.2 h2⟩
  | [], _ :: _, _, _, h, _ => h.elim
  | _ :: _, [], _, _, h, _ => h.elim
theorem ag_sub {l m : List AV} (h : SubL l m) (c : Ctx) (u : Value) (hr : Rd (.ag l) c u) : Rd (.ag m) c u := by
  simp only [Rd] at hr ⊢
  obtain ⟨xs, rfl, h1⟩ := hr
  exact ⟨xs, rfl, h.rdl h1⟩
theorem ACalls.sub {P : Program} {q : Bool} {f : FuncId} {args : List AV} {H : List AB} {k : AV → List AB → Prop} (args' : List AV) (hs : SubL args args') (h : ACalls P q f args' H k) : ACalls P q f args H k :=
  ⟨h.go, fun w0 M0 c us h1 h2 => h.calls w0 M0 c us h1 (hs.rdl h2)⟩
theorem rexact_no (g : Geo) (r : Rc) (l : List Img) (b : List UInt8) (seq epoch copy slot : Int) (hg : okG g = false) :
    Fn Try.prog 7 [.ag (geoC g), .ag (rcC r), imgsA l, bA b, .v (.int .i64 seq), .v (.int .i64 epoch), .v (.int .i64 copy), .v (.int .i64 slot)] fun x => x = .v (.bool true) := by
  have f1 : okR g r = false := by simp [okR, hg]
  have f2 : imgOk g r.img = false := by simp [imgOk, hg]
  have f3 : readE g b = 1 := by simp [readE, hg]
  have f4 : txnE g seq epoch l = 1 := by simp [txnE, hg]
  refine Fn.of tys_ok Try.func7 rfl rfl (Nat.le_of_ble_eq_true rfl) ?_
  conv => whnf
  refine Fn.closed (heavy_fn l) rfl ?_
  rintro _ rfl
  conv => whnf
  refine boolK_intro (fun hh => ?_) (fun hh => ?_) <;> conv => whnf
  · exact ⟨_, fun _ _ h => h, rfl⟩
  obtain ⟨hl, hb⟩ := heavy_no hh
  refine boolK_intro (fun hr => ?_) (fun hr => ?_) <;> simp at hr <;> conv => whnf
  · exact ⟨_, fun _ _ h => h, rfl⟩
  refine boolK_intro (fun hbl => ?_) (fun hbl => ?_) <;> simp at hbl <;> conv => whnf
  · exact ⟨_, fun _ _ h => h, rfl⟩
  have s1 := rbytes_br g r (by omega)
  have s2 := rread_br g b (by omega)
  have s3 := txn_fn g seq epoch l (by omega) (fun x hx => by have := hb x hx; omega)
  have s4 := rcell_br g r copy slot (by omega)
  have s5 := images_fn l l (by omega) (fun x hx => by have := hb x hx; omega)
  have s6 := rgeom_br g
  have s7 := rcheck_br g r (by omega)
  have s8 := image_br g r.img (by omega)
  rw [f1] at s1 s7
  rw [hg, f3] at s2
  simp only [Bool.false_eq_true, if_false] at s2
  rw [f4] at s3
  rw [f1] at s4
  rw [hg] at s6
  rw [f2] at s8
  simp only [decide_true] at s5
  refine Fn.closed (twinimages_fn l (by omega) (fun x hx => by have := hb x hx; omega)) rfl ?_
  rintro _ rfl
  conv => whnf
  refine Fn.closed (s1) rfl ?_
  rintro _ rfl
  conv => whnf
  refine Fn.closed (s2) rfl ?_
  rintro _ rfl
  conv => whnf
  refine Fn.closed (s3) rfl ?_
  rintro _ rfl
  conv => whnf
  refine Fn.closed (s4) rfl ?_
  rintro _ rfl
  conv => whnf
  refine Fn.closed (s5) rfl ?_
  rintro _ rfl
  conv => whnf
  refine Fn.closed (s6) rfl ?_
  rintro _ rfl
  conv => whnf
  refine Fn.closed (s7) rfl ?_
  rintro _ rfl
  conv => whnf
  refine Fn.closed (s8) rfl ?_
  rintro _ rfl
  conv => whnf
  have s9 := rec_fn zeroC zeroC (by decide)
  simp only [decide_true] at s9
  refine ACalls.sub [.ag (rcC zeroC), .ag (rcC zeroC)] ⟨fun _ _ h => h, ag_sub ⟨fun _ _ h => h, fun _ _ h => h, fun _ _ h => h, fun _ _ h => h, fun _ _ h => h, fun _ _ h => h, fun _ _ h => h, nil_sl _ _, trivial⟩, trivial⟩ ?_
  refine Fn.closed (s9) rfl ?_
  rintro _ rfl
  conv => whnf
  refine Fn.closed (wakes_br) rfl ?_
  rintro _ rfl
  conv => whnf
  exact ⟨_, fun _ _ h => h, rfl⟩

@[reducible] def xF (g : Geo) (r : Rc) (l : List Img) (E seq epoch copy slot : Int) (O L : Bool) (w : Int) (t : List (Nat × AV)) : List (Nat × AV) := (2, imgsA l) :: (4, .v (.int .i64 seq)) :: (5, .v (.int .i64 epoch)) :: (6, .v (.int .i64 copy)) :: (7, .v (.int .i64 slot)) :: (8, .bp 0 0) :: (9, .bp 1 0) :: (18, bA (if O then recB r else [])) :: (19, .v (errV (O))) :: (22, recsA (if E = 0 then recsOf seq epoch l else [])) :: (23, .v (.int .i64 (E))) :: (24, bA (if O && L then cellB g r copy slot else [])) :: (25, .v (errV (O && L))) :: (29, .v (.int .i64 w)) :: t
@[reducible] def xH (g : Geo) (r : Rc) : List AB := [.box 23 (geoC g), .box 28 (rcC r)]
theorem txnE_eq (g : Geo) (seq epoch : Int) (l : List Img) (hg : okG g = true) : txnE g seq epoch l = if (l.all (imgOk g) && (inB seq 0 4294967295 && inB epoch 0 4294967295)) then (if inB l.length 1 29 then 0 else 2) else 1 := by
  simp only [txnE, hg, Bool.true_and]
  cases inB seq 0 4294967295 && inB epoch 0 4294967295 <;> cases l.all (imgOk g) <;> cases inB l.length 1 29 <;> simp
theorem recsOf_le (seq epoch : Int) (l : List Img) (n : Nat) (h : ∀ x ∈ l, x.bytes.length ≤ n) : ∀ x ∈ recsOf seq epoch l, x.img.bytes.length ≤ n := by
  intro x hx
  simp only [recsOf, List.mem_append] at hx
  rcases hx with hx | hx
  · simp only [imgR, List.mem_map] at hx
    obtain ⟨⟨y, i⟩, hy, rfl⟩ := hx
    obtain ⟨_, _, hy⟩ := List.mem_zipIdx hy
    rw [hy]
    exact h _ (List.mem_of_mem_take (List.getElem_mem _))
  · simp only [List.mem_singleton] at hx
    subst hx
    exact Nat.zero_le _
theorem readR_le {g : Geo} {b : List UInt8} {q : Rc} (h : readR g b = some q) : q.img.bytes.length ≤ b.length := by
  unfold readR at h
  split at h
  · obtain rfl := Option.some.inj h
    simp only [parseR]
    split
    · simp only [imgOf, List.length_take, List.length_drop]; omega
    · exact Nat.zero_le _
  · cases h
theorem rexact_yes (g : Geo) (r : Rc) (l : List Img) (b : List UInt8) (seq epoch copy slot : Int) (hg : okG g = true) (q : Rc) (hq : readR g b = some q) :
    Fn Try.prog 7 [.ag (geoC g), .ag (rcC r), imgsA l, bA b, .v (.int .i64 seq), .v (.int .i64 epoch), .v (.int .i64 copy), .v (.int .i64 slot)] fun x => x = .v (.bool true) := by
  have f3 : readE g b = 0 := by simp [readE, hg, hq]
  refine Fn.of tys_ok Try.func7 rfl rfl (Nat.le_of_ble_eq_true rfl) ?_
  conv => whnf
  refine Fn.closed (heavy_fn l) rfl ?_
  rintro _ rfl
  conv => whnf
  refine boolK_intro (fun hh => ?_) (fun hh => ?_) <;> conv => whnf
  · exact ⟨_, fun _ _ h => h, rfl⟩
  obtain ⟨hl, hb⟩ := heavy_no hh
  refine boolK_intro (fun hr => ?_) (fun hr => ?_) <;> simp at hr <;> conv => whnf
  · exact ⟨_, fun _ _ h => h, rfl⟩
  refine boolK_intro (fun hbl => ?_) (fun hbl => ?_) <;> simp at hbl <;> conv => whnf
  · exact ⟨_, fun _ _ h => h, rfl⟩
  have hb' : ∀ x ∈ l, x.bytes.length ≤ 100000 := fun x hx => by have := hb x hx; omega
  have s2 := rread_br g b (by omega)
  have s5 := images_fn l l (by omega) (fun x hx => by have := hb x hx; omega)
  have s6 := rgeom_br g
  have s1 := rbytes_br g r (by omega)
  have s3 := txn_fn g seq epoch l (by omega) hb'
  have s4 := rcell_br g r copy slot (by omega)
  have s14 := rrec_br g r (by omega) hg
  have s17 := rcheck_br g r (by omega)
  have s15 := rrecB_br g r
  have s16 := rrecCell_br g r copy slot
  obtain ⟨E, hE⟩ : ∃ E, E = txnE g seq epoch l := ⟨_, rfl⟩
  obtain ⟨O, hO⟩ : ∃ O, O = okR g r := ⟨_, rfl⟩
  obtain ⟨L, hL⟩ : ∃ L, L = okL g copy slot := ⟨_, rfl⟩
  rw [← hO] at s1 s4 s14 s17 s15 s16
  rw [← hL] at s4 s16
  rw [← hE] at s3
  have s9 := readRec_br g b (by omega) hg
  rw [hg, f3, hq] at s2
  rw [hg] at s6
  rw [hq] at s9
  simp only [if_true, Option.getD_some, Option.isSome_some, decide_true] at s2 s5 s9
  refine Fn.closed (twinimages_fn l (by omega) (fun x hx => by have := hb x hx; omega)) rfl ?_
  rintro _ rfl
  conv => whnf
  refine Fn.closed (s1) rfl ?_
  rintro _ rfl
  conv => whnf
  refine Fn.closed (s2) rfl ?_
  rintro _ rfl
  conv => whnf
  refine Fn.closed (s3) rfl ?_
  rintro _ rfl
  conv => whnf
  refine Fn.closed (s4) rfl ?_
  rintro _ rfl
  conv => whnf
  refine Fn.closed (s5) rfl ?_
  rintro _ rfl
  conv => whnf
  refine Fn.closed (s6) rfl ?_
  rintro _ rfl
  conv => whnf
  refine Fn.closed (s9) rfl ?_
  rintro _ rfl
  conv => whnf
  have hq2 : q.img.bytes.length ≤ 100000000000 := by have := readR_le hq; omega
  have s10 := rec_fn q q hq2
  simp only [decide_true] at s10
  refine Fn.closed (s10) rfl ?_
  rintro _ rfl
  conv => whnf
  refine aDraw.of tys_ok mixed [0, 1, 2, 5, 6, 7, 3, 4, 8, 9] (by kernel_rfl) ?_
  conv => whnf
  refine Fn.closed (image_br g r.img (by omega)) rfl ?_
  rintro _ rfl
  conv => whnf
  refine Fn.closed (rimage_br g r.img (by omega) hg) rfl ?_
  rintro _ rfl
  conv => whnf
  refine boolK_intro (fun h => ?_) (fun _ => ?_) <;> conv => whnf
  · exfalso; revert h; cases imgOk g r.img <;> simp
  obtain ⟨R, hR⟩ : ∃ R, R = (inB seq 0 4294967295 && inB epoch 0 4294967295) := ⟨_, rfl⟩
  obtain ⟨A, hA⟩ : ∃ A, A = l.all (imgOk g) := ⟨_, rfl⟩
  refine aSeq.cut Int (fun w => (xF g r l E seq epoch copy slot O L w [], xH g r)) (fun w => w = if R then 0 else 1) ?_ ?_
  · conv => whnf
    refine boolK_intro (fun h1 => ?_) (fun h1 => ?_) <;> simp at h1 <;> conv => whnf
    · exact ⟨1, by simp [hR, inB]; omega, [], trivial, ⟨rfl, rfl, rfl, rfl, rfl, rfl, rfl, rfl, rfl, rfl, rfl, rfl, rfl, rfl, trivial⟩, ⟨rfl, rfl, trivial⟩, rfl, rfl, rfl⟩
    refine boolK_intro (fun h2 => ?_) (fun h2 => ?_) <;> simp at h2 <;> conv => whnf
    · exact ⟨1, by simp [hR, inB]; omega, [], trivial, ⟨rfl, rfl, rfl, rfl, rfl, rfl, rfl, rfl, rfl, rfl, rfl, rfl, rfl, rfl, trivial⟩, ⟨rfl, rfl, trivial⟩, rfl, rfl, rfl⟩
    refine boolK_intro (fun h3 => ?_) (fun h3 => ?_) <;> simp at h3 <;> conv => whnf
    · exact ⟨1, by simp [hR, inB]; omega, [], trivial, ⟨rfl, rfl, rfl, rfl, rfl, rfl, rfl, rfl, rfl, rfl, rfl, rfl, rfl, rfl, trivial⟩, ⟨rfl, rfl, trivial⟩, rfl, rfl, rfl⟩
    refine boolK_intro (fun h4 => ?_) (fun h4 => ?_) <;> simp at h4 <;> conv => whnf
    · exact ⟨1, by simp [hR, inB]; omega, [], trivial, ⟨rfl, rfl, rfl, rfl, rfl, rfl, rfl, rfl, rfl, rfl, rfl, rfl, rfl, rfl, trivial⟩, ⟨rfl, rfl, trivial⟩, rfl, rfl, rfl⟩
    · exact ⟨0, by simp [hR, inB]; omega, [], trivial, ⟨rfl, rfl, rfl, rfl, rfl, rfl, rfl, rfl, rfl, rfl, rfl, rfl, rfl, rfl, trivial⟩, ⟨rfl, rfl, trivial⟩, rfl, rfl, rfl⟩
  · rintro w rfl
    conv => whnf
    refine aLoop.rule Nat (fun k => (xF g r l E seq epoch copy slot O L (if (l.take k).all (imgOk g) && R then 0 else 1) [(30, .v (.int .i64 k))], xH g r)) (fun k => k ≤ l.length) (fun k => l.length - k) 0 (Nat.zero_le _) ⟨[], trivial, ⟨rfl, rfl, rfl, rfl, rfl, rfl, rfl, rfl, rfl, rfl, rfl, rfl, rfl, rfl, rfl, trivial⟩, ⟨rfl, rfl, trivial⟩, rfl, rfl, rfl⟩ ?_
    intro k hk
    conv => whnf
    refine boolK_intro (fun hk1 => ?_) (fun hk1 => ?_) <;> simp at hk1 <;> conv => whnf
    · refine aSeq.cut Int (fun w => (xF g r l E seq epoch copy slot O L w [(30, .v (.int .i64 k))], xH g r)) (fun w => w = if (l.take (k + 1)).all (imgOk g) && R then 0 else 1) ?_ ?_
      · conv => whnf
        refine aDraw.of tys_ok mixed [0, 1, 2, 3, 4, 5, 6] (by kernel_rfl) ?_
        conv => whnf
        refine ⟨by omega, ?_⟩
        conv => whnf
        refine Fn.closed (rimage_br g (l.getD k ⟨0, 0, []⟩) (hb' _ (getD_mem hk1)) hg) rfl ?_
        rintro _ rfl
        conv => whnf
        have hs : (l.take (k + 1)).all (imgOk g) = ((l.take k).all (imgOk g) && imgOk g (l.getD k ⟨0, 0, []⟩)) := by
          rw [List.take_succ_eq_append_getElem hk1, List.all_append, List.getD_eq_getElem?_getD, List.getElem?_eq_getElem hk1]; simp
        refine boolK_intro (fun hi => ?_) (fun hi => ?_) <;> simp only [Bool.not_eq_true', Bool.not_eq_false'] at hi <;> conv => whnf
        · exact ⟨1, by rw [hs, hi]; simp, [], trivial, ⟨rfl, rfl, rfl, rfl, rfl, rfl, rfl, rfl, rfl, rfl, rfl, rfl, rfl, rfl, rfl, trivial⟩, ⟨rfl, rfl, trivial⟩, rfl, rfl, rfl⟩
        · exact ⟨_, by rw [hs, hi, Bool.and_true], [], trivial, ⟨rfl, rfl, rfl, rfl, rfl, rfl, rfl, rfl, rfl, rfl, rfl, rfl, rfl, rfl, rfl, trivial⟩, ⟨rfl, rfl, trivial⟩, rfl, rfl, rfl⟩
      · rintro w rfl
        conv => whnf
        exact ⟨k + 1, by omega, by omega, [], trivial, ⟨rfl, rfl, rfl, rfl, rfl, rfl, rfl, rfl, rfl, rfl, rfl, rfl, rfl, rfl, wsucc (by omega), trivial⟩, ⟨rfl, rfl, trivial⟩, rfl, rfl, rfl⟩
    · have hA : (l.take k).all (imgOk g) = l.all (imgOk g) := by rw [List.take_of_length_le hk1]
      rw [hA]
      refine aSeq.cut Int (fun w => (xF g r l E seq epoch copy slot O L w [], xH g r)) (fun w => w = E) ?_ ?_
      · conv => whnf
        have hEq := txnE_eq g seq epoch l hg
        rw [← hR] at hEq
        refine boolK_intro (fun h1 => ?_) (fun h1 => ?_) <;> conv => whnf
        · refine boolK_intro (fun h2 => ?_) (fun h2 => ?_) <;> conv => whnf
          · exact ⟨2, by rw [hE, hEq]; revert h1 h2; cases l.all (imgOk g) && R <;> simp [inB] <;> omega, [], trivial, ⟨rfl, rfl, rfl, rfl, rfl, rfl, rfl, rfl, rfl, rfl, rfl, rfl, rfl, rfl, trivial⟩, ⟨rfl, rfl, trivial⟩, rfl, rfl, rfl⟩
          refine boolK_intro (fun h3 => ?_) (fun h3 => ?_) <;> conv => whnf
          · exact ⟨2, by rw [hE, hEq]; revert h1 h3; cases l.all (imgOk g) && R <;> simp [inB] <;> omega, [], trivial, ⟨rfl, rfl, rfl, rfl, rfl, rfl, rfl, rfl, rfl, rfl, rfl, rfl, rfl, rfl, trivial⟩, ⟨rfl, rfl, trivial⟩, rfl, rfl, rfl⟩
          · exact ⟨_, by rw [hE, hEq]; revert h1 h2 h3; cases l.all (imgOk g) && R <;> simp [inB] <;> omega, [], trivial, ⟨rfl, rfl, rfl, rfl, rfl, rfl, rfl, rfl, rfl, rfl, rfl, rfl, rfl, rfl, trivial⟩, ⟨rfl, rfl, trivial⟩, rfl, rfl, rfl⟩
        · exact ⟨_, by rw [hE, hEq]; revert h1; cases l.all (imgOk g) && R <;> simp, [], trivial, ⟨rfl, rfl, rfl, rfl, rfl, rfl, rfl, rfl, rfl, rfl, rfl, rfl, rfl, rfl, trivial⟩, ⟨rfl, rfl, trivial⟩, rfl, rfl, rfl⟩
      · rintro w hw
        have hw := hw.symm
        subst hw
        conv => whnf
        have hrb : true = okR g r → (recB r).length ≤ 100000000000 := fun h => by have := (recB_short h.symm).2; omega
        have hcb : true = okR g r → true = okL g copy slot → (cellB g r copy slot).length ≤ 100000000000 := fun h _ => by have := cell_len h.symm copy slot; omega
        refine boolK_intro (fun h => ?_) (fun _ => ?_) <;> conv => whnf
        · simp at h
        have hE2 : ((if E = 0 then recsOf seq epoch l else []).length : Int) = if E = 0 then (l.length : Int) + 1 else 0 := by
          split
          · rw [recsOf_len]; simp
          · rfl
        refine boolK_intro (fun h0 => ?_) (fun h0 => ?_) <;> conv => whnf
        · refine boolK_intro (fun h => ?_) (fun _ => ?_) <;> conv => whnf
          · exfalso; simp at h h0; rw [if_neg h0] at h; simp at h
          refine boolK_intro (fun h => ?_) (fun _ => ?_) <;> conv => whnf
          · exfalso; simp at h h0; exact h0 h
          refine Fn.closed (s14) rfl ?_
          rintro _ rfl
          conv => whnf
          cases O <;> conv => whnf
          · refine Fn.closed (s17) rfl ?_
            rintro _ rfl
            conv => whnf
            refine Fn.closed (wakes_br) rfl ?_
            rintro _ rfl
            conv => whnf
            exact ⟨_, fun _ _ h => h, rfl⟩
          · refine Fn.closed (s17) rfl ?_
            rintro _ rfl
            conv => whnf
            refine Fn.closed (s15 rfl) rfl ?_
            rintro _ rfl
            conv => whnf
            refine Fn.closed (bytes_fn (recB r) (recB r) (hrb hO)) rfl ?_
            rintro _ rfl
            conv => whnf
            refine boolK_intro (fun h => ?_) (fun _ => ?_) <;> conv => whnf
            · exfalso; simp at h
            cases L <;> conv => whnf
            · have hL0 : ¬(0 ≤ copy ∧ copy ≤ 1 ∧ 0 ≤ slot ∧ slot ≤ g.sl - 1) := by
                rintro ⟨e1, e2, e3, e4⟩
                have : okL g copy slot = true := by simp [okL, inB, e1, e2, e3, e4]
                rw [this] at hL; exact absurd hL (by decide)
              repeat' (refine boolK_intro (fun h => ?_) (fun h => ?_) <;> simp at h <;> conv => whnf)
              all_goals first | (exfalso; omega) | (refine Fn.closed wakes_br rfl ?_; rintro _ rfl; (conv => whnf); exact ⟨_, fun _ _ h => h, rfl⟩)
            · have hL0 : 0 ≤ copy ∧ copy ≤ 1 ∧ 0 ≤ slot ∧ slot ≤ g.sl - 1 := by
                have := hL.symm
                simpa [okL, inB, and_assoc] using this
              repeat' (refine boolK_intro (fun h => ?_) (fun h => ?_) <;> simp at h <;> conv => whnf)
              all_goals first | (exfalso; omega) | skip
              all_goals
                refine Fn.closed (s16 rfl rfl) rfl ?_; rintro _ rfl; (conv => whnf)
                refine Fn.closed (bytes_fn (cellB g r copy slot) (cellB g r copy slot) (hcb hO hL)) rfl ?_; rintro _ rfl; (conv => whnf)
                refine boolK_intro (fun h => ?_) (fun h => ?_) <;> conv => whnf
                · refine Fn.closed wakes_br rfl ?_; rintro _ rfl; (conv => whnf); exact ⟨_, fun _ _ h => h, rfl⟩
                · exfalso; simp at h
        · refine boolK_intro (fun _ => ?_) (fun h => ?_) <;> conv => whnf
          · simp only [bne_eq_false_iff_eq] at h0
            refine Fn.closed (records_fn seq epoch l (by omega) (fun x hx => by have := hb x hx; omega)) rfl ?_
            rintro _ rfl
            conv => whnf
            refine Fn.closed (recs_fn (if E = 0 then recsOf seq epoch l else []) (recsOf seq epoch l) (by rw [if_pos h0, recsOf_len]; omega) (by rw [if_pos h0]; exact recsOf_le seq epoch l _ (fun x hx => by have := hb x hx; omega))) rfl ?_
            rintro _ rfl
            conv => whnf
            refine boolK_intro (fun h => ?_) (fun _ => ?_) <;> conv => whnf
            · exfalso; simp [h0] at h
            refine Fn.closed (s14) rfl ?_
            rintro _ rfl
            conv => whnf
            cases O <;> conv => whnf
            · refine Fn.closed (s17) rfl ?_
              rintro _ rfl
              conv => whnf
              refine Fn.closed (wakes_br) rfl ?_
              rintro _ rfl
              conv => whnf
              exact ⟨_, fun _ _ h => h, rfl⟩
            · refine Fn.closed (s17) rfl ?_
              rintro _ rfl
              conv => whnf
              refine Fn.closed (s15 rfl) rfl ?_
              rintro _ rfl
              conv => whnf
              refine Fn.closed (bytes_fn (recB r) (recB r) (hrb hO)) rfl ?_
              rintro _ rfl
              conv => whnf
              refine boolK_intro (fun h => ?_) (fun _ => ?_) <;> conv => whnf
              · exfalso; simp at h
              cases L <;> conv => whnf
              · have hL0 : ¬(0 ≤ copy ∧ copy ≤ 1 ∧ 0 ≤ slot ∧ slot ≤ g.sl - 1) := by
                  rintro ⟨e1, e2, e3, e4⟩
                  have : okL g copy slot = true := by simp [okL, inB, e1, e2, e3, e4]
                  rw [this] at hL; exact absurd hL (by decide)
                repeat' (refine boolK_intro (fun h => ?_) (fun h => ?_) <;> simp at h <;> conv => whnf)
                all_goals first | (exfalso; omega) | (refine Fn.closed wakes_br rfl ?_; rintro _ rfl; (conv => whnf); exact ⟨_, fun _ _ h => h, rfl⟩)
              · have hL0 : 0 ≤ copy ∧ copy ≤ 1 ∧ 0 ≤ slot ∧ slot ≤ g.sl - 1 := by
                  have := hL.symm
                  simpa [okL, inB, and_assoc] using this
                repeat' (refine boolK_intro (fun h => ?_) (fun h => ?_) <;> simp at h <;> conv => whnf)
                all_goals first | (exfalso; omega) | skip
                all_goals
                  refine Fn.closed (s16 rfl rfl) rfl ?_; rintro _ rfl; (conv => whnf)
                  refine Fn.closed (bytes_fn (cellB g r copy slot) (cellB g r copy slot) (hcb hO hL)) rfl ?_; rintro _ rfl; (conv => whnf)
                  refine boolK_intro (fun h => ?_) (fun h => ?_) <;> conv => whnf
                  · refine Fn.closed wakes_br rfl ?_; rintro _ rfl; (conv => whnf); exact ⟨_, fun _ _ h => h, rfl⟩
                  · exfalso; simp at h
          · exfalso; simp at h h0; exact h h0
theorem rexact_none (g : Geo) (r : Rc) (l : List Img) (b : List UInt8) (seq epoch copy slot : Int) (hg : okG g = true) (hq : readR g b = none) :
    Fn Try.prog 7 [.ag (geoC g), .ag (rcC r), imgsA l, bA b, .v (.int .i64 seq), .v (.int .i64 epoch), .v (.int .i64 copy), .v (.int .i64 slot)] fun x => x = .v (.bool true) := by
  have f3 : readE g b = 4 := by simp [readE, hg, hq]
  refine Fn.of tys_ok Try.func7 rfl rfl (Nat.le_of_ble_eq_true rfl) ?_
  conv => whnf
  refine Fn.closed (heavy_fn l) rfl ?_
  rintro _ rfl
  conv => whnf
  refine boolK_intro (fun hh => ?_) (fun hh => ?_) <;> conv => whnf
  · exact ⟨_, fun _ _ h => h, rfl⟩
  obtain ⟨hl, hb⟩ := heavy_no hh
  refine boolK_intro (fun hr => ?_) (fun hr => ?_) <;> simp at hr <;> conv => whnf
  · exact ⟨_, fun _ _ h => h, rfl⟩
  refine boolK_intro (fun hbl => ?_) (fun hbl => ?_) <;> simp at hbl <;> conv => whnf
  · exact ⟨_, fun _ _ h => h, rfl⟩
  have hb' : ∀ x ∈ l, x.bytes.length ≤ 100000 := fun x hx => by have := hb x hx; omega
  have s2 := rread_br g b (by omega)
  have s5 := images_fn l l (by omega) (fun x hx => by have := hb x hx; omega)
  have s6 := rgeom_br g
  have s1 := rbytes_br g r (by omega)
  have s3 := txn_fn g seq epoch l (by omega) hb'
  have s4 := rcell_br g r copy slot (by omega)
  have s14 := rrec_br g r (by omega) hg
  have s17 := rcheck_br g r (by omega)
  have s15 := rrecB_br g r
  have s16 := rrecCell_br g r copy slot
  obtain ⟨E, hE⟩ : ∃ E, E = txnE g seq epoch l := ⟨_, rfl⟩
  obtain ⟨O, hO⟩ : ∃ O, O = okR g r := ⟨_, rfl⟩
  obtain ⟨L, hL⟩ : ∃ L, L = okL g copy slot := ⟨_, rfl⟩
  rw [← hO] at s1 s4 s14 s17 s15 s16
  rw [← hL] at s4 s16
  rw [← hE] at s3
  have s9 := readRec_br g b (by omega) hg
  rw [hg, f3, hq] at s2
  rw [hg] at s6
  rw [hq] at s9
  simp only [if_true, Option.getD_none, Option.isSome_none, decide_true] at s2 s5 s9
  refine Fn.closed (twinimages_fn l (by omega) (fun x hx => by have := hb x hx; omega)) rfl ?_
  rintro _ rfl
  conv => whnf
  refine Fn.closed (s1) rfl ?_
  rintro _ rfl
  conv => whnf
  refine Fn.closed (s2) rfl ?_
  rintro _ rfl
  conv => whnf
  refine Fn.closed (s3) rfl ?_
  rintro _ rfl
  conv => whnf
  refine Fn.closed (s4) rfl ?_
  rintro _ rfl
  conv => whnf
  refine Fn.closed (s5) rfl ?_
  rintro _ rfl
  conv => whnf
  refine Fn.closed (s6) rfl ?_
  rintro _ rfl
  conv => whnf
  refine Fn.closed (s9) rfl ?_
  rintro _ rfl
  conv => whnf
  have s10 := rec_fn zeroC zeroC (by decide)
  simp only [decide_true] at s10
  refine Fn.closed (s10) rfl ?_
  rintro _ rfl
  conv => whnf
  refine aDraw.of tys_ok mixed [0, 1, 2, 5, 6, 7, 3, 4, 8, 9] (by kernel_rfl) ?_
  conv => whnf
  refine Fn.closed (image_br g r.img (by omega)) rfl ?_
  rintro _ rfl
  conv => whnf
  refine Fn.closed (rimage_br g r.img (by omega) hg) rfl ?_
  rintro _ rfl
  conv => whnf
  refine boolK_intro (fun h => ?_) (fun _ => ?_) <;> conv => whnf
  · exfalso; revert h; cases imgOk g r.img <;> simp
  obtain ⟨R, hR⟩ : ∃ R, R = (inB seq 0 4294967295 && inB epoch 0 4294967295) := ⟨_, rfl⟩
  obtain ⟨A, hA⟩ : ∃ A, A = l.all (imgOk g) := ⟨_, rfl⟩
  refine aSeq.cut Int (fun w => (xF g r l E seq epoch copy slot O L w [], xH g r)) (fun w => w = if R then 0 else 1) ?_ ?_
  · conv => whnf
    refine boolK_intro (fun h1 => ?_) (fun h1 => ?_) <;> simp at h1 <;> conv => whnf
    · exact ⟨1, by simp [hR, inB]; omega, [], trivial, ⟨rfl, rfl, rfl, rfl, rfl, rfl, rfl, rfl, rfl, rfl, rfl, rfl, rfl, rfl, trivial⟩, ⟨rfl, rfl, trivial⟩, rfl, rfl, rfl⟩
    refine boolK_intro (fun h2 => ?_) (fun h2 => ?_) <;> simp at h2 <;> conv => whnf
    · exact ⟨1, by simp [hR, inB]; omega, [], trivial, ⟨rfl, rfl, rfl, rfl, rfl, rfl, rfl, rfl, rfl, rfl, rfl, rfl, rfl, rfl, trivial⟩, ⟨rfl, rfl, trivial⟩, rfl, rfl, rfl⟩
    refine boolK_intro (fun h3 => ?_) (fun h3 => ?_) <;> simp at h3 <;> conv => whnf
    · exact ⟨1, by simp [hR, inB]; omega, [], trivial, ⟨rfl, rfl, rfl, rfl, rfl, rfl, rfl, rfl, rfl, rfl, rfl, rfl, rfl, rfl, trivial⟩, ⟨rfl, rfl, trivial⟩, rfl, rfl, rfl⟩
    refine boolK_intro (fun h4 => ?_) (fun h4 => ?_) <;> simp at h4 <;> conv => whnf
    · exact ⟨1, by simp [hR, inB]; omega, [], trivial, ⟨rfl, rfl, rfl, rfl, rfl, rfl, rfl, rfl, rfl, rfl, rfl, rfl, rfl, rfl, trivial⟩, ⟨rfl, rfl, trivial⟩, rfl, rfl, rfl⟩
    · exact ⟨0, by simp [hR, inB]; omega, [], trivial, ⟨rfl, rfl, rfl, rfl, rfl, rfl, rfl, rfl, rfl, rfl, rfl, rfl, rfl, rfl, trivial⟩, ⟨rfl, rfl, trivial⟩, rfl, rfl, rfl⟩
  · rintro w rfl
    conv => whnf
    refine aLoop.rule Nat (fun k => (xF g r l E seq epoch copy slot O L (if (l.take k).all (imgOk g) && R then 0 else 1) [(30, .v (.int .i64 k))], xH g r)) (fun k => k ≤ l.length) (fun k => l.length - k) 0 (Nat.zero_le _) ⟨[], trivial, ⟨rfl, rfl, rfl, rfl, rfl, rfl, rfl, rfl, rfl, rfl, rfl, rfl, rfl, rfl, rfl, trivial⟩, ⟨rfl, rfl, trivial⟩, rfl, rfl, rfl⟩ ?_
    intro k hk
    conv => whnf
    refine boolK_intro (fun hk1 => ?_) (fun hk1 => ?_) <;> simp at hk1 <;> conv => whnf
    · refine aSeq.cut Int (fun w => (xF g r l E seq epoch copy slot O L w [(30, .v (.int .i64 k))], xH g r)) (fun w => w = if (l.take (k + 1)).all (imgOk g) && R then 0 else 1) ?_ ?_
      · conv => whnf
        refine aDraw.of tys_ok mixed [0, 1, 2, 3, 4, 5, 6] (by kernel_rfl) ?_
        conv => whnf
        refine ⟨by omega, ?_⟩
        conv => whnf
        refine Fn.closed (rimage_br g (l.getD k ⟨0, 0, []⟩) (hb' _ (getD_mem hk1)) hg) rfl ?_
        rintro _ rfl
        conv => whnf
        have hs : (l.take (k + 1)).all (imgOk g) = ((l.take k).all (imgOk g) && imgOk g (l.getD k ⟨0, 0, []⟩)) := by
          rw [List.take_succ_eq_append_getElem hk1, List.all_append, List.getD_eq_getElem?_getD, List.getElem?_eq_getElem hk1]; simp
        refine boolK_intro (fun hi => ?_) (fun hi => ?_) <;> simp only [Bool.not_eq_true', Bool.not_eq_false'] at hi <;> conv => whnf
        · exact ⟨1, by rw [hs, hi]; simp, [], trivial, ⟨rfl, rfl, rfl, rfl, rfl, rfl, rfl, rfl, rfl, rfl, rfl, rfl, rfl, rfl, rfl, trivial⟩, ⟨rfl, rfl, trivial⟩, rfl, rfl, rfl⟩
        · exact ⟨_, by rw [hs, hi, Bool.and_true], [], trivial, ⟨rfl, rfl, rfl, rfl, rfl, rfl, rfl, rfl, rfl, rfl, rfl, rfl, rfl, rfl, rfl, trivial⟩, ⟨rfl, rfl, trivial⟩, rfl, rfl, rfl⟩
      · rintro w rfl
        conv => whnf
        exact ⟨k + 1, by omega, by omega, [], trivial, ⟨rfl, rfl, rfl, rfl, rfl, rfl, rfl, rfl, rfl, rfl, rfl, rfl, rfl, rfl, wsucc (by omega), trivial⟩, ⟨rfl, rfl, trivial⟩, rfl, rfl, rfl⟩
    · have hA : (l.take k).all (imgOk g) = l.all (imgOk g) := by rw [List.take_of_length_le hk1]
      rw [hA]
      refine aSeq.cut Int (fun w => (xF g r l E seq epoch copy slot O L w [], xH g r)) (fun w => w = E) ?_ ?_
      · conv => whnf
        have hEq := txnE_eq g seq epoch l hg
        rw [← hR] at hEq
        refine boolK_intro (fun h1 => ?_) (fun h1 => ?_) <;> conv => whnf
        · refine boolK_intro (fun h2 => ?_) (fun h2 => ?_) <;> conv => whnf
          · exact ⟨2, by rw [hE, hEq]; revert h1 h2; cases l.all (imgOk g) && R <;> simp [inB] <;> omega, [], trivial, ⟨rfl, rfl, rfl, rfl, rfl, rfl, rfl, rfl, rfl, rfl, rfl, rfl, rfl, rfl, trivial⟩, ⟨rfl, rfl, trivial⟩, rfl, rfl, rfl⟩
          refine boolK_intro (fun h3 => ?_) (fun h3 => ?_) <;> conv => whnf
          · exact ⟨2, by rw [hE, hEq]; revert h1 h3; cases l.all (imgOk g) && R <;> simp [inB] <;> omega, [], trivial, ⟨rfl, rfl, rfl, rfl, rfl, rfl, rfl, rfl, rfl, rfl, rfl, rfl, rfl, rfl, trivial⟩, ⟨rfl, rfl, trivial⟩, rfl, rfl, rfl⟩
          · exact ⟨_, by rw [hE, hEq]; revert h1 h2 h3; cases l.all (imgOk g) && R <;> simp [inB] <;> omega, [], trivial, ⟨rfl, rfl, rfl, rfl, rfl, rfl, rfl, rfl, rfl, rfl, rfl, rfl, rfl, rfl, trivial⟩, ⟨rfl, rfl, trivial⟩, rfl, rfl, rfl⟩
        · exact ⟨_, by rw [hE, hEq]; revert h1; cases l.all (imgOk g) && R <;> simp, [], trivial, ⟨rfl, rfl, rfl, rfl, rfl, rfl, rfl, rfl, rfl, rfl, rfl, rfl, rfl, rfl, trivial⟩, ⟨rfl, rfl, trivial⟩, rfl, rfl, rfl⟩
      · rintro w hw
        have hw := hw.symm
        subst hw
        conv => whnf
        have hrb : true = okR g r → (recB r).length ≤ 100000000000 := fun h => by have := (recB_short h.symm).2; omega
        have hcb : true = okR g r → true = okL g copy slot → (cellB g r copy slot).length ≤ 100000000000 := fun h _ => by have := cell_len h.symm copy slot; omega
        refine boolK_intro (fun h => ?_) (fun _ => ?_) <;> conv => whnf
        · simp at h
        have hE2 : ((if E = 0 then recsOf seq epoch l else []).length : Int) = if E = 0 then (l.length : Int) + 1 else 0 := by
          split
          · rw [recsOf_len]; simp
          · rfl
        refine boolK_intro (fun h0 => ?_) (fun h0 => ?_) <;> conv => whnf
        · refine boolK_intro (fun h => ?_) (fun _ => ?_) <;> conv => whnf
          · exfalso; simp at h h0; rw [if_neg h0] at h; simp at h
          refine boolK_intro (fun h => ?_) (fun _ => ?_) <;> conv => whnf
          · exfalso; simp at h h0; exact h0 h
          refine Fn.closed (s14) rfl ?_
          rintro _ rfl
          conv => whnf
          cases O <;> conv => whnf
          · refine Fn.closed (s17) rfl ?_
            rintro _ rfl
            conv => whnf
            refine Fn.closed (wakes_br) rfl ?_
            rintro _ rfl
            conv => whnf
            exact ⟨_, fun _ _ h => h, rfl⟩
          · refine Fn.closed (s17) rfl ?_
            rintro _ rfl
            conv => whnf
            refine Fn.closed (s15 rfl) rfl ?_
            rintro _ rfl
            conv => whnf
            refine Fn.closed (bytes_fn (recB r) (recB r) (hrb hO)) rfl ?_
            rintro _ rfl
            conv => whnf
            refine boolK_intro (fun h => ?_) (fun _ => ?_) <;> conv => whnf
            · exfalso; simp at h
            cases L <;> conv => whnf
            · have hL0 : ¬(0 ≤ copy ∧ copy ≤ 1 ∧ 0 ≤ slot ∧ slot ≤ g.sl - 1) := by
                rintro ⟨e1, e2, e3, e4⟩
                have : okL g copy slot = true := by simp [okL, inB, e1, e2, e3, e4]
                rw [this] at hL; exact absurd hL (by decide)
              repeat' (refine boolK_intro (fun h => ?_) (fun h => ?_) <;> simp at h <;> conv => whnf)
              all_goals first | (exfalso; omega) | (refine Fn.closed wakes_br rfl ?_; rintro _ rfl; (conv => whnf); exact ⟨_, fun _ _ h => h, rfl⟩)
            · have hL0 : 0 ≤ copy ∧ copy ≤ 1 ∧ 0 ≤ slot ∧ slot ≤ g.sl - 1 := by
                have := hL.symm
                simpa [okL, inB, and_assoc] using this
              repeat' (refine boolK_intro (fun h => ?_) (fun h => ?_) <;> simp at h <;> conv => whnf)
              all_goals first | (exfalso; omega) | skip
              all_goals
                refine Fn.closed (s16 rfl rfl) rfl ?_; rintro _ rfl; (conv => whnf)
                refine Fn.closed (bytes_fn (cellB g r copy slot) (cellB g r copy slot) (hcb hO hL)) rfl ?_; rintro _ rfl; (conv => whnf)
                refine boolK_intro (fun h => ?_) (fun h => ?_) <;> conv => whnf
                · refine Fn.closed wakes_br rfl ?_; rintro _ rfl; (conv => whnf); exact ⟨_, fun _ _ h => h, rfl⟩
                · exfalso; simp at h
        · refine boolK_intro (fun _ => ?_) (fun h => ?_) <;> conv => whnf
          · simp only [bne_eq_false_iff_eq] at h0
            refine Fn.closed (records_fn seq epoch l (by omega) (fun x hx => by have := hb x hx; omega)) rfl ?_
            rintro _ rfl
            conv => whnf
            refine Fn.closed (recs_fn (if E = 0 then recsOf seq epoch l else []) (recsOf seq epoch l) (by rw [if_pos h0, recsOf_len]; omega) (by rw [if_pos h0]; exact recsOf_le seq epoch l _ (fun x hx => by have := hb x hx; omega))) rfl ?_
            rintro _ rfl
            conv => whnf
            refine boolK_intro (fun h => ?_) (fun _ => ?_) <;> conv => whnf
            · exfalso; simp [h0] at h
            refine Fn.closed (s14) rfl ?_
            rintro _ rfl
            conv => whnf
            cases O <;> conv => whnf
            · refine Fn.closed (s17) rfl ?_
              rintro _ rfl
              conv => whnf
              refine Fn.closed (wakes_br) rfl ?_
              rintro _ rfl
              conv => whnf
              exact ⟨_, fun _ _ h => h, rfl⟩
            · refine Fn.closed (s17) rfl ?_
              rintro _ rfl
              conv => whnf
              refine Fn.closed (s15 rfl) rfl ?_
              rintro _ rfl
              conv => whnf
              refine Fn.closed (bytes_fn (recB r) (recB r) (hrb hO)) rfl ?_
              rintro _ rfl
              conv => whnf
              refine boolK_intro (fun h => ?_) (fun _ => ?_) <;> conv => whnf
              · exfalso; simp at h
              cases L <;> conv => whnf
              · have hL0 : ¬(0 ≤ copy ∧ copy ≤ 1 ∧ 0 ≤ slot ∧ slot ≤ g.sl - 1) := by
                  rintro ⟨e1, e2, e3, e4⟩
                  have : okL g copy slot = true := by simp [okL, inB, e1, e2, e3, e4]
                  rw [this] at hL; exact absurd hL (by decide)
                repeat' (refine boolK_intro (fun h => ?_) (fun h => ?_) <;> simp at h <;> conv => whnf)
                all_goals first | (exfalso; omega) | (refine Fn.closed wakes_br rfl ?_; rintro _ rfl; (conv => whnf); exact ⟨_, fun _ _ h => h, rfl⟩)
              · have hL0 : 0 ≤ copy ∧ copy ≤ 1 ∧ 0 ≤ slot ∧ slot ≤ g.sl - 1 := by
                  have := hL.symm
                  simpa [okL, inB, and_assoc] using this
                repeat' (refine boolK_intro (fun h => ?_) (fun h => ?_) <;> simp at h <;> conv => whnf)
                all_goals first | (exfalso; omega) | skip
                all_goals
                  refine Fn.closed (s16 rfl rfl) rfl ?_; rintro _ rfl; (conv => whnf)
                  refine Fn.closed (bytes_fn (cellB g r copy slot) (cellB g r copy slot) (hcb hO hL)) rfl ?_; rintro _ rfl; (conv => whnf)
                  refine boolK_intro (fun h => ?_) (fun h => ?_) <;> conv => whnf
                  · refine Fn.closed wakes_br rfl ?_; rintro _ rfl; (conv => whnf); exact ⟨_, fun _ _ h => h, rfl⟩
                  · exfalso; simp at h
          · exfalso; simp at h h0; exact h h0
end Go.Proofs.Ytpknhpfbinplgaa.A
end

/-
From rows that callers hand over to abstract values.
-/
section
namespace Go.Proofs.Ytpknhpfbinplgaa.A
open Go.RowKit

theorem rdAt_of {c : Ctx} {b : Nat} : ∀ {cs : List AV} {xs : List Value} {off : Nat}, RdL cs c xs → (∀ j u, xs[j]? = some u → c.w.cell? ⟨b, off + j, none⟩ = some u ∧ u.oneCell' = true) → RdAt cs c b off
  | [], _, _, _, _ => by simp [RdAt]
  | x :: l, xs, off, h, hc => by
    simp only [RdL] at h
    obtain ⟨y, ys, rfl, h1, h2⟩ := h
    simp only [RdAt]
    refine ⟨⟨y, (hc 0 y rfl).1, (hc 0 y rfl).2, h1⟩, rdAt_of h2 fun j u hu => ?_⟩
    have := hc (j + 1) u hu
    rwa [show off + (j + 1) = off + 1 + j by omega] at this
theorem rdL_len {c : Ctx} : ∀ {cs : List AV} {xs : List Value}, RdL cs c xs → cs.length = xs.length
  | [], _, h => by simp only [RdL] at h; subst h; rfl
  | x :: l, xs, h => by
    simp only [RdL] at h
    obtain ⟨y, ys, rfl, _, h2⟩ := h
    simp [rdL_len h2]
theorem ofSl {α : Type} [Rp α] (f : α → List AV) (d : α) (sz : Nat) (hsz : Rp.sz α = sz) (hE : ∀ (c : Ctx) cs x, Rp.E c.w c.M cs x → RdL (f x) c cs) {c : Ctx} {u : Value} {l : List α} (h : SlR c.w c.M u l) : Rd (.sl sz l.length fun i => f (l.getD i d)) c u := by
  subst hsz
  obtain ⟨a, k, xs, rfl, h1, h2, h3, h4⟩ := h
  simp only [Rd]
  refine ⟨a, k, rfl, h1, h2, ?_⟩
  by_cases hne : l = []
  · exact .inl (by rw [hne]; rfl)
  · obtain ⟨bl, off, rfl, hm, hc⟩ := h4 hne
    have one : ∀ i, i < l.length → ∃ cs, cs.length = Rp.sz α ∧ Rp.E c.w c.M cs (l.getD i d) ∧ ∀ j u, cs[j]? = some u → c.w.cell? ⟨bl, off + i * Rp.sz α + j, none⟩ = some u ∧ u.oneCell' = true := by
      intro i hi
      obtain ⟨cs, e1, e2, e3⟩ := h3.get (List.getElem?_eq_getElem hi)
      rw [show l.getD i d = l[i] by rw [List.getD_eq_getElem?_getD, List.getElem?_eq_getElem hi]; rfl]
      refine ⟨cs, e1, e2, fun j u hu => ?_⟩
      have hj : j < Rp.sz α := by rw [← e1]; exact (List.getElem?_eq_some_iff.1 hu).1
      refine ⟨?_, Rp.one e2 u (List.mem_of_getElem? hu)⟩
      have := hc (i * Rp.sz α + j) u ((e3 j hj).trans hu)
      rwa [← Nat.add_assoc] at this
    have hlt : bl < c.w.heap.size := by
      obtain ⟨cs, q1, _, q3⟩ := one 0 (List.length_pos_iff.2 hne)
      have h0 : 0 < cs.length := by rw [q1]; exact Rp.pos
      exact World.block_lt_of_cell? _ _ (q3 0 _ (List.getElem?_eq_getElem h0)).1
    refine .inr ⟨bl, off, rfl, hm, hlt, fun i hi => ?_⟩
    obtain ⟨cs, q1, q2, q3⟩ := one i hi
    have := hE c.closed cs _ q2
    exact ⟨(rdL_len this).trans q1, rdAt_of this q3⟩
theorem ofImgs {c : Ctx} {u : Value} {l : List Img} (h : SlR c.w c.M u l) : Rd (imgsA l) c u :=
  ofSl imgC ⟨0, 0, []⟩ 3 rfl (fun c cs x ⟨r, e, hr⟩ => by
    subst e
    simp only [imgC, RdL, Rd]
    exact ⟨_, _, rfl, rfl, _, _, rfl, rfl, _, _, rfl, ofBytes hr, rfl⟩) h
theorem ofRecs {c : Ctx} {u : Value} {l : List Rc} (h : SlR c.w c.M u l) : Rd (recsA l) c u :=
  ofSl rcC ⟨0, 0, 0, 0, 0, ⟨0, 0, []⟩⟩ 8 rfl (fun c cs x ⟨r, e, hr⟩ => by
    subst e
    simp only [rcC, RdL, Rd]
    exact ⟨_, _, rfl, rfl, _, _, rfl, rfl, _, _, rfl, rfl, _, _, rfl, rfl, _, _, rfl, rfl, _, _, rfl, rfl, _, _, rfl, rfl, _, _, rfl, ofBytes hr, rfl⟩) h
theorem ofInts {c : Ctx} {u : Value} {l : List Int} (h : SlR c.w c.M u l) : Rd (iA l) c u :=
  ofSl (fun n => [.v (.int .i64 n)]) 0 1 rfl (fun c cs x e => by
    have e : cs = [.int .i64 x] := e
    subst e
    simp only [RdL, Rd]
    exact ⟨_, _, rfl, rfl, rfl⟩) h
theorem of_geo {c : Ctx} (g : Geo) : Rd (.ag (geoC g)) c (gv g) := by
  simp only [geoC, Rd, RdL]
  exact ⟨_, rfl, _, _, rfl, rfl, _, _, rfl, rfl, _, _, rfl, rfl, _, _, rfl, rfl, _, _, rfl, rfl, rfl⟩
/-- Where a call begins: nothing is one's own. -/
def ctx0 (w : World) : Ctx := { w := w, M := noM, base := w.heap.size, dom := 0, len := fun _ => 0, rho := fun _ => undef }
theorem Fn.any {P : Program} {f : FuncId} {args : List AV} {a : AV} (h : Fn P f args fun r => r = a) (w : World) (us : List Value) (hr : RdL args (ctx0 w) us) :
    Calls P f us.toArray w fun e w' => ∃ v, e = .returned v ∧ Below w.heap.size w w' ∧ Rd a { ctx0 w with w := w' } v := by
  refine (h.calls (ctx0 w) us rfl (fun _ h => h.elim) hr).mono ?_
  rintro e w' ⟨v, r, rfl, rfl, h1, h2⟩
  exact ⟨v, rfl, h1, h2⟩
theorem Fn.anyV {P : Program} {f : FuncId} {args : List AV} {a : Value} (h : Fn P f args fun r => r = .v a) (w : World) (us : List Value) (hr : RdL args (ctx0 w) us) :
    Calls P f us.toArray w fun e w' => e = .returned a ∧ Below w.heap.size w w' := by
  refine (h.any w us hr).mono ?_
  rintro e w' ⟨v, rfl, h1, h2⟩
  simp only [Rd] at h2
  exact ⟨by rw [h2], h1⟩
end Go.Proofs.Ytpknhpfbinplgaa.A
end

/-
RecExact, over all inputs.
-/
section
namespace Go.Proofs.Ytpknhpfbinplgaa.A
open Go.RowKit

theorem rexact_all (g : Geo) (r : Rc) (l : List Img) (b : List UInt8) (seq epoch copy slot : Int) :
    Fn Try.prog 7 [.ag (geoC g), .ag (rcC r), imgsA l, bA b, .v (.int .i64 seq), .v (.int .i64 epoch), .v (.int .i64 copy), .v (.int .i64 slot)] fun x => x = .v (.bool true) := by
  cases hg : okG g with
  | false => exact rexact_no g r l b seq epoch copy slot hg
  | true =>
    cases hq : readR g b with
    | none => exact rexact_none g r l b seq epoch copy slot hg hq
    | some q => exact rexact_yes g r l b seq epoch copy slot hg q hq
theorem rexact_any (g : Geo) (r : Rc) (l : List Img) (b : List UInt8) (seq epoch copy slot : Int) (v1 v2 v3 : Value) (w : World) (M1 M2 M3 : Ms) (h1 : SlR w M1 v1 r.img.bytes) (h2 : SlR w M2 v2 l) (h3 : SlR w M3 v3 b) :
    Calls Try.prog 7 #[gv g, rv r v1, v2, v3, .int .i64 seq, .int .i64 epoch, .int .i64 copy, .int .i64 slot] w fun e w' => e = .returned (.bool true) ∧ Below w.heap.size w w' := by
  refine (rexact_all g r l b seq epoch copy slot).anyV w [gv g, rv r v1, v2, v3, .int .i64 seq, .int .i64 epoch, .int .i64 copy, .int .i64 slot] ?_
  simp only [RdL]
  exact ⟨_, _, rfl, of_geo g, _, _, rfl, of_rc (ofBytes (c := ctx0 w) h1.bare), _, _, rfl, ofImgs (c := ctx0 w) h2.bare, _, _, rfl, ofBytes (c := ctx0 w) h3.bare, _, _, rfl, rd_v _, _, _, rfl, rd_v _, _, _, rfl, rd_v _, _, _, rfl, rd_v _, rfl⟩
end Go.Proofs.Ytpknhpfbinplgaa.A
end

/-
Arguments opened: what a handed value reads as: numbers, bytes, images, records, geometries.
-/
section
namespace Go.Proofs.Ytpknhpfbinplgaa
open Go.ChangeShapes Go.WideShapes Go.ChangeAt Go.RowKit Go.Deep

theorem list3 {α : Type} : ∀ {l : List α}, l.length = 3 → ∃ x0 x1 x2, l = [x0, x1, x2]
  | [x0, x1, x2], _ => ⟨x0, x1, x2, rfl⟩
theorem list5 {α : Type} : ∀ {l : List α}, l.length = 5 → ∃ x0 x1 x2 x3 x4, l = [x0, x1, x2, x3, x4]
  | [x0, x1, x2, x3, x4], _ => ⟨x0, x1, x2, x3, x4, rfl⟩
theorem list6 {α : Type} : ∀ {l : List α}, l.length = 6 → ∃ x0 x1 x2 x3 x4 x5, l = [x0, x1, x2, x3, x4, x5]
  | [x0, x1, x2, x3, x4, x5], _ => ⟨x0, x1, x2, x3, x4, x5, rfl⟩
theorem list8 {α : Type} : ∀ {l : List α}, l.length = 8 → ∃ x0 x1 x2 x3 x4 x5 x6 x7, l = [x0, x1, x2, x3, x4, x5, x6, x7]
  | [x0, x1, x2, x3, x4, x5, x6, x7], _ => ⟨x0, x1, x2, x3, x4, x5, x6, x7, rfl⟩
variable {H : Type} {enc : TypeId × Value → H}

/-- Whatever a type's cells read as is an element of α. -/
def OpenAs (enc : TypeId × Value → H) (w : World) (t : TypeId) (α : Type) [Rp α] (p : α → Prop) : Prop :=
  ∀ n cs x, DataW.trod enc Try.prog w 0 (fun _ => true) true n t cs = some x → ∃ a : α, Rp.E w noM cs a ∧ p a

theorem chain_elems {α : Type} [Rp α] {p : α → Prop} {w : World} {b off : Nat} : ∀ (n : Nat), (∀ i, i < n → ∃ cs, ∃ a : α, (Rp.E w noM cs a ∧ p a) ∧ ∀ j u, cs[j]? = some u → w.cell? ⟨b, off + (i * Rp.sz α + j), none⟩ = some u) →
    ∃ (l : List α) (xs : List Value), l.length = n ∧ (Elems (Rp.sz α) (Rp.E w noM) xs l ∧ ∀ a ∈ l, p a) ∧ ∀ j u, xs[j]? = some u → w.cell? ⟨b, off + j, none⟩ = some u
  | 0, _ => ⟨[], [], rfl, ⟨rfl, fun a h => by cases h⟩, fun j u h => by simp at h⟩
  | n + 1, h => by
    obtain ⟨l, xs, hl, ⟨he, hp⟩, hc⟩ := chain_elems n (fun i hi => h i (by omega))
    obtain ⟨cs, a, ⟨hE, hpa⟩, hcs⟩ := h n (by omega)
    refine ⟨l ++ [a], xs ++ cs, by simp [hl], ⟨he.append (Elems.one (Rp.len hE) hE), fun x hx => (List.mem_append.1 hx).elim (hp x) (fun h => by simp at h; rw [h]; exact hpa)⟩, fun j u hu => ?_⟩
    have hlen := he.length
    rw [hl] at hlen
    by_cases hj : j < xs.length
    · rw [List.getElem?_append_left hj] at hu
      exact hc j u hu
    · rw [List.getElem?_append_right (by omega)] at hu
      have := hcs _ u hu
      rw [hlen] at this
      rw [show j = n * Rp.sz α + (j - n * Rp.sz α) by omega]
      exact this

theorem spot_none {w : World} {a : Addr} {u : Value} (h : w.cell? a = some u) : a.spot = none := by
  unfold World.cell? at h
  split at h
  · split at h
    · cases h
    · rename_i hn
      cases hs : a.spot with
      | none => rfl
      | some x => rw [hs] at hn; exact absurd rfl hn
  · cases h

theorem open_sl {α : Type} [Rp α] {p : α → Prop} {w : World} {t e : TypeId} (ht : Try.prog.underlying t = some (.slice e)) (hsz : Try.prog.cellsOf e = Rp.sz α) (hel : OpenAs enc w e α p) {n : Nat} {cs : List Value} {x : DataW H × List MemPlace}
    (h : DataW.trod enc Try.prog w 0 (fun _ => true) true n t cs = some x) : ∃ v, ∃ l : List α, cs = [v] ∧ SlR w noM v l ∧ ∀ a ∈ l, p a := by
  rcases open_slice ht h with ⟨rfl, -⟩ | ⟨a, len, cap, m, n', D, Pl, rfl, -, hlc, hcm, hm, -, hel'⟩
  · exact ⟨_, [], rfl, ⟨none, 0, [], rfl, by simp, by simp [maxLen], rfl, fun h => absurd rfl h⟩, fun a h => by cases h⟩
  · simp only [if_true] at hm
    subst hm
    obtain ⟨b, off, spot⟩ := a
    by_cases h0 : len = 0
    · subst h0
      exact ⟨_, [], rfl, ⟨_, m, [], rfl, by simp, hcm, rfl, fun h => absurd rfl h⟩, fun a h => by cases h⟩
    · have hsp : spot = none := by
        obtain ⟨cs', hc, htr⟩ := hel' 0 (by omega)
        obtain ⟨a, hE, _⟩ := hel n' cs' _ htr
        obtain ⟨-, hl, hcell⟩ := World.cells?_some hc
        have hp := Rp.pos (α := α)
        have hle := Rp.len hE
        have := hcell 0 (by omega)
        rw [List.getElem?_eq_getElem (by omega)] at this
        simp only [Addr.add, Nat.zero_mul, if_true] at this
        exact spot_none this
      subst hsp
      have key : ∀ i, i < len → ∃ cs, ∃ a : α, (Rp.E w noM cs a ∧ p a) ∧ ∀ j u, cs[j]? = some u → w.cell? ⟨b, off + (i * Rp.sz α + j), none⟩ = some u := fun i hi => by
        obtain ⟨cs', hc, htr⟩ := hel' i (by omega)
        obtain ⟨a, hE, hpa⟩ := hel n' cs' _ htr
        refine ⟨cs', a, ⟨hE, hpa⟩, fun j u hu => ?_⟩
        obtain ⟨-, hl, hcell⟩ := World.cells?_some hc
        have hj : j < Try.prog.cellsOf e := by rw [← hl]; exact (List.getElem?_eq_some_iff.1 hu).1
        have := (hcell j hj).trans hu
        rw [Addr.add_lit, Addr.add_lit, hsz, Nat.add_assoc] at this
        exact this
      obtain ⟨l, xs, hl, ⟨he, hpl⟩, hc⟩ := chain_elems len key
      subst hl
      exact ⟨_, l, rfl, ⟨_, m, xs, rfl, hlc, hcm, he, fun _ => ⟨b, off, rfl, fun h => h, hc⟩⟩, hpl⟩
theorem open_arg {α : Type} [Rp α] {p : α → Prop} {w : World} {t e : TypeId} (ht : Try.prog.underlying t = some (.slice e)) (hsz : Try.prog.cellsOf e = Rp.sz α) (hel : OpenAs enc w e α p) {v : Value} (hv : v.cells.toList = [v]) {d : DataW H} {ps : List MemPlace}
    (h : DataW.Trod enc Try.prog w 0 (fun _ => true) true t v d ps) : ∃ l : List α, SlR w noM v l ∧ ∀ a ∈ l, p a := by
  obtain ⟨n, hn⟩ := h
  obtain ⟨v', l, e, hs, hp⟩ := open_sl ht hsz hel hn
  rw [hv] at e
  injection e with e
  subst e
  exact ⟨l, hs, hp⟩
theorem int_max {k : Int} (h : (Lit.int .i64 k).wf = true) : k ≤ 9223372036854775807 := by
  have h2 : IntKind.i64.min ≤ k ∧ k ≤ IntKind.i64.max := by
    simp only [Lit.wf, Bool.and_eq_true, decide_eq_true_eq] at h
    exact h
  have e2 : IntKind.i64.max = 9223372036854775807 := by decide
  omega
theorem open_asInt {w : World} {t : TypeId} (ht : Try.prog.underlying t = some (.int .i64)) : OpenAs enc w t Int (fun k => k ≤ 9223372036854775807) := fun n cs x h => by
  obtain ⟨k, rfl, -, hw⟩ := DataW.trod_int ht h
  exact ⟨k, rfl, int_max hw⟩
theorem int_min {k : Int} (h : (Lit.int .i64 k).wf = true) : -9223372036854775808 ≤ k := by
  have h2 : IntKind.i64.min ≤ k ∧ k ≤ IntKind.i64.max := by
    simp only [Lit.wf, Bool.and_eq_true, decide_eq_true_eq] at h
    exact h
  have e2 : IntKind.i64.min = -9223372036854775808 := by decide
  omega
theorem u8_wf {k : Int} (h : (Lit.int .u8 k).wf = true) : ∃ x : UInt8, k = x.toNat := by
  have h2 : 0 ≤ k ∧ k < 256 := by
    simp only [Lit.wf, Bool.and_eq_true, decide_eq_true_eq] at h
    have e1 : IntKind.u8.min = 0 := by decide
    have e2 : IntKind.u8.max = 255 := by decide
    omega
  obtain ⟨j, rfl⟩ := Int.eq_ofNat_of_zero_le h2.1
  exact ⟨UInt8.ofNat j, by rw [UInt8.toNat_ofNat_of_lt' (show j < 256 by omega)]⟩
theorem open_asU8 {w : World} {t : TypeId} (ht : Try.prog.underlying t = some (.int .u8)) : OpenAs enc w t UInt8 (fun _ => True) := fun n cs x h => by
  obtain ⟨k, rfl, -, hw⟩ := DataW.trod_int ht h
  obtain ⟨y, rfl⟩ := u8_wf hw
  exact ⟨y, rfl, trivial⟩
theorem cellsI : Try.prog.cellsOf 3 = 1 := by kernel_rfl
theorem cellsU : Try.prog.cellsOf 5 = 1 := by kernel_rfl
theorem cellsB : Try.prog.cellsOf 24 = 1 := by kernel_rfl
theorem open_bytes {w : World} {n : Nat} {cs : List Value} {x : DataW H × List MemPlace} (h : DataW.trod enc Try.prog w 0 (fun _ => true) true n 24 cs = some x) : ∃ v, ∃ l : List UInt8, cs = [v] ∧ SlR w noM v l := by
  obtain ⟨v, l, e, hs, -⟩ := open_sl Try.underlying24 cellsU (open_asU8 Try.underlying5) h
  exact ⟨v, l, e, hs⟩
theorem cells_img : Try.prog.cellsOf 26 = 3 := by kernel_rfl
theorem open_img {w : World} : OpenAs enc w 26 Img (fun _ => True) := fun n cs x h => by
  obtain ⟨xs, n', _, rfl, hl, hlen, hf⟩ := DataW.trod_struct Try.underlying26 h
  have hlc : cs.length = 3 := hl.trans cells_img
  obtain ⟨c0, c1, c2, rfl⟩ : ∃ c0 c1 c2, cs = [c0, c1, c2] := list3 hlc
  obtain ⟨y0, y1, y2, rfl⟩ : ∃ y0 y1 y2, xs = [y0, y1, y2] := list3 hlen
  have h0 : DataW.trod enc Try.prog w 0 (fun _ => true) true n' 3 (([c0, c1, c2].drop 0).take (Try.prog.cellsOf 3)) = some y0 := hf 0 _ rfl
  rw [cellsI] at h0
  obtain ⟨k0, e0, -, -⟩ := DataW.trod_int Try.underlying3 h0
  have h1 : DataW.trod enc Try.prog w 0 (fun _ => true) true n' 3 (([c0, c1, c2].drop 1).take (Try.prog.cellsOf 3)) = some y1 := hf 1 _ rfl
  rw [cellsI] at h1
  obtain ⟨k1, e1, -, -⟩ := DataW.trod_int Try.underlying3 h1
  have h2 : DataW.trod enc Try.prog w 0 (fun _ => true) true n' 24 (([c0, c1, c2].drop 2).take (Try.prog.cellsOf 24)) = some y2 := hf 2 _ rfl
  rw [cellsB] at h2
  obtain ⟨v2, l2, e2, s2⟩ := open_bytes h2
  simp at e0 e1 e2
  subst e0
  subst e1
  subst e2
  exact ⟨⟨k0, k1, l2⟩, ⟨_, rfl, s2⟩, trivial⟩
theorem cells_rec : Try.prog.cellsOf 28 = 8 := by kernel_rfl
theorem open_rec {w : World} : OpenAs enc w 28 Rc (fun _ => True) := fun n cs x h => by
  obtain ⟨xs, n', _, rfl, hl, hlen, hf⟩ := DataW.trod_struct Try.underlying28 h
  have hlc : cs.length = 8 := hl.trans cells_rec
  obtain ⟨c0, c1, c2, c3, c4, c5, c6, c7, rfl⟩ : ∃ c0 c1 c2 c3 c4 c5 c6 c7, cs = [c0, c1, c2, c3, c4, c5, c6, c7] := list8 hlc
  obtain ⟨y0, y1, y2, y3, y4, y5, rfl⟩ : ∃ y0 y1 y2 y3 y4 y5, xs = [y0, y1, y2, y3, y4, y5] := list6 hlen
  have h0 : DataW.trod enc Try.prog w 0 (fun _ => true) true n' 3 (([c0, c1, c2, c3, c4, c5, c6, c7].drop 0).take (Try.prog.cellsOf 3)) = some y0 := hf 0 _ rfl
  rw [cellsI] at h0
  obtain ⟨k0, e0, -, -⟩ := DataW.trod_int Try.underlying3 h0
  have h1 : DataW.trod enc Try.prog w 0 (fun _ => true) true n' 3 (([c0, c1, c2, c3, c4, c5, c6, c7].drop 1).take (Try.prog.cellsOf 3)) = some y1 := hf 1 _ rfl
  rw [cellsI] at h1
  obtain ⟨k1, e1, -, -⟩ := DataW.trod_int Try.underlying3 h1
  have h2 : DataW.trod enc Try.prog w 0 (fun _ => true) true n' 3 (([c0, c1, c2, c3, c4, c5, c6, c7].drop 2).take (Try.prog.cellsOf 3)) = some y2 := hf 2 _ rfl
  rw [cellsI] at h2
  obtain ⟨k2, e2, -, -⟩ := DataW.trod_int Try.underlying3 h2
  have h3 : DataW.trod enc Try.prog w 0 (fun _ => true) true n' 3 (([c0, c1, c2, c3, c4, c5, c6, c7].drop 3).take (Try.prog.cellsOf 3)) = some y3 := hf 3 _ rfl
  rw [cellsI] at h3
  obtain ⟨k3, e3, -, -⟩ := DataW.trod_int Try.underlying3 h3
  have h4 : DataW.trod enc Try.prog w 0 (fun _ => true) true n' 3 (([c0, c1, c2, c3, c4, c5, c6, c7].drop 4).take (Try.prog.cellsOf 3)) = some y4 := hf 4 _ rfl
  rw [cellsI] at h4
  obtain ⟨k4, e4, -, -⟩ := DataW.trod_int Try.underlying3 h4
  have h5 : DataW.trod enc Try.prog w 0 (fun _ => true) true n' 26 (([c0, c1, c2, c3, c4, c5, c6, c7].drop 5).take (Try.prog.cellsOf 26)) = some y5 := hf 5 _ rfl
  rw [cells_img] at h5
  obtain ⟨m5, e5, -⟩ := open_img n' _ _ h5
  obtain ⟨r5, e5, s5⟩ := e5
  simp at e0 e1 e2 e3 e4 e5
  subst e0
  subst e1
  subst e2
  subst e3
  subst e4
  obtain ⟨e5a, e5b, e5c⟩ := e5
  subst e5a e5b e5c
  exact ⟨⟨k0, k1, k2, k3, k4, m5⟩, ⟨_, rfl, s5⟩, trivial⟩
instance : Rp Geo where
  sz := 5
  agg := true
  pos := by omega
  E := fun _ _ cs g => cs = [.int .i64 g.z, .int .i64 g.d, .int .i64 g.sp, .int .i64 g.sl, .int .i64 g.an]
  len := fun h => by rw [h]; rfl
  one := fun h u hu => by rw [h] at hu; simp at hu; rcases hu with rfl | rfl | rfl | rfl | rfl <;> rfl
  mono := fun _ h => h
theorem cells_geo : Try.prog.cellsOf 23 = 5 := by kernel_rfl
theorem open_geo {w : World} : OpenAs enc w 23 Geo (fun _ => True) := fun n cs x h => by
  obtain ⟨xs, n', _, rfl, hl, hlen, hf⟩ := DataW.trod_struct Try.underlying23 h
  have hlc : cs.length = 5 := hl.trans cells_geo
  obtain ⟨c0, c1, c2, c3, c4, rfl⟩ : ∃ c0 c1 c2 c3 c4, cs = [c0, c1, c2, c3, c4] := list5 hlc
  obtain ⟨y0, y1, y2, y3, y4, rfl⟩ : ∃ y0 y1 y2 y3 y4, xs = [y0, y1, y2, y3, y4] := list5 hlen
  have h0 : DataW.trod enc Try.prog w 0 (fun _ => true) true n' 3 (([c0, c1, c2, c3, c4].drop 0).take (Try.prog.cellsOf 3)) = some y0 := hf 0 _ rfl
  rw [cellsI] at h0
  obtain ⟨k0, e0, -, -⟩ := DataW.trod_int Try.underlying3 h0
  have h1 : DataW.trod enc Try.prog w 0 (fun _ => true) true n' 3 (([c0, c1, c2, c3, c4].drop 1).take (Try.prog.cellsOf 3)) = some y1 := hf 1 _ rfl
  rw [cellsI] at h1
  obtain ⟨k1, e1, -, -⟩ := DataW.trod_int Try.underlying3 h1
  have h2 : DataW.trod enc Try.prog w 0 (fun _ => true) true n' 3 (([c0, c1, c2, c3, c4].drop 2).take (Try.prog.cellsOf 3)) = some y2 := hf 2 _ rfl
  rw [cellsI] at h2
  obtain ⟨k2, e2, -, -⟩ := DataW.trod_int Try.underlying3 h2
  have h3 : DataW.trod enc Try.prog w 0 (fun _ => true) true n' 3 (([c0, c1, c2, c3, c4].drop 3).take (Try.prog.cellsOf 3)) = some y3 := hf 3 _ rfl
  rw [cellsI] at h3
  obtain ⟨k3, e3, -, -⟩ := DataW.trod_int Try.underlying3 h3
  have h4 : DataW.trod enc Try.prog w 0 (fun _ => true) true n' 3 (([c0, c1, c2, c3, c4].drop 4).take (Try.prog.cellsOf 3)) = some y4 := hf 4 _ rfl
  rw [cellsI] at h4
  obtain ⟨k4, e4, -, -⟩ := DataW.trod_int Try.underlying3 h4
  simp at e0 e1 e2 e3 e4
  subst e0
  subst e1
  subst e2
  subst e3
  subst e4
  exact ⟨⟨k0, k1, k2, k3, k4⟩, rfl, trivial⟩
theorem open_geoA {w : World} {cs : Array Value} {d : DataW H} {ps : List MemPlace} (h : DataW.Trod enc Try.prog w 0 (fun _ => true) true 23 (.agg cs) d ps) : ∃ g : Geo, .agg cs = gv g := by
  obtain ⟨n, hn⟩ := h
  obtain ⟨x, hx, -⟩ := open_geo n _ _ hn
  have hx : cs.toList = [.int .i64 x.z, .int .i64 x.d, .int .i64 x.sp, .int .i64 x.sl, .int .i64 x.an] := hx
  exact ⟨x, by unfold gv; rw [← hx]⟩
theorem open_recA {w : World} {cs : Array Value} {d : DataW H} {ps : List MemPlace} (h : DataW.Trod enc Try.prog w 0 (fun _ => true) true 28 (.agg cs) d ps) : ∃ (r : Rc) (v : Value), .agg cs = Value.agg #[.int .i64 r.kind, .int .i64 r.seq, .int .i64 r.epoch, .int .i64 r.at_, .int .i64 r.of_, .int .i64 r.img.zone, .int .i64 r.img.what, v] ∧ SlR w noM v r.img.bytes := by
  obtain ⟨n, hn⟩ := h
  obtain ⟨x, ⟨v, hx, hs⟩, -⟩ := open_rec n _ _ hn
  have hx : cs.toList = _ := hx
  exact ⟨x, v, by rw [← hx], hs⟩
theorem open_imgA {w : World} {cs : Array Value} {d : DataW H} {ps : List MemPlace} (h : DataW.Trod enc Try.prog w 0 (fun _ => true) true 26 (.agg cs) d ps) : ∃ (r : Img) (v : Value), .agg cs = Value.agg #[.int .i64 r.zone, .int .i64 r.what, v] ∧ SlR w noM v r.bytes := by
  obtain ⟨n, hn⟩ := h
  obtain ⟨x, ⟨v, hx, hs⟩, -⟩ := open_img n _ _ hn
  have hx : cs.toList = _ := hx
  exact ⟨x, v, by rw [← hx], hs⟩
end Go.Proofs.Ytpknhpfbinplgaa
end

/-
A law's last step: true is returned, nothing that was there has changed.
-/
section
namespace Go.Proofs.Ytpknhpfbinplgaa
open Go.ChangeShapes Go.WideShapes Go.ChangeAt Go.RowKit

theorem own_none : ownKnob Try.prog.godebug = none := by kernel_rfl
theorem laidOut : laidOutB Try.prog = true := by kernel_rfl

section
variable {H : Type} {enc : TypeId × Value → H}
set_option maxRecDepth 100000 in
theorem law_post {f : Func} {s : ChangeSpec} {apart fresh handsOn again : Bool} {W W' : World} {args : Array Value} {ds : List (DataW H)} {before : List MemPlace}
    (hW : DataW.Whole enc Try.prog f.params.toList s.vars apart W args.toList ds [] before) (hv : s.vars = []) (hvs : (s.fn H (ds ++ [])).vars = [])
    (hr : f.resultTypes = #[4]) (hfr : (s.fn H (ds ++ [])).results = [.lit (.bool true)]) (hfa : (s.fn H (ds ++ [])).args = ds)
    (hrow : ∀ t ∈ f.params.toList, Try.prog.readableRec t = true ∧ t < Try.prog.types.size) (hb : Below W.heap.size W W') :
    s.post enc Try.prog f apart fresh handsOn again W args (.bool true) W' := by
  have hlt : ∀ p ∈ before, p.block < W.heap.size := fun p hp => hW.lt p hp
  obtain ⟨p, q, hA, hV, hpq, hz, hn⟩ := id hW
  rw [hv] at hV
  obtain ⟨-, rfl⟩ := trodVars_none hV
  rw [List.append_nil] at hpq
  subst hpq
  have stay : ∀ sp : Nat → Bool, (∀ x ∈ before, sp x.block = true) → DataW.TrodAll enc Try.prog W' 0 sp true f.params.toList args.toList ds before := by
    intro sp hsp
    have go : ∀ (ts : List TypeId) (vs : List Value) (es : List (DataW H)) (ps : List MemPlace), (∀ t ∈ ts, Try.prog.readableRec t = true ∧ t < Try.prog.types.size) → (∀ x ∈ ps, x ∈ before) →
        DataW.TrodAll enc Try.prog W 0 (fun _ => true) true ts vs es ps → DataW.TrodAll enc Try.prog W' 0 sp true ts vs es ps := by
      intro ts
      induction ts with
      | nil =>
        intro vs es ps _ _ h
        cases vs <;> cases es <;> exact h
      | cons t ts ih =>
        intro vs es ps ht hin h
        cases vs with
        | nil => cases es <;> exact h.elim
        | cons v vs =>
          cases es with
          | nil => exact h.elim
          | cons e es =>
            obtain ⟨p1, p2, h1, h2, rfl⟩ := h
            exact ⟨p1, p2, WideElems.Trod_stays laidOut (ht t (by simp)).1 (ht t (by simp)).2 h1 (fun x hx => hb.same (hlt x (hin x (by simp [hx])))) (fun x hx => hsp x (hin x (by simp [hx]))),
              ih vs es p2 (fun t' ht' => ht t' (by simp [ht'])) (fun x hx => hin x (by simp [hx])) h2, rfl⟩
    exact go _ _ _ _ hrow (fun x hx => hx) hA
  have hres : ∀ (b : Nat) (sp : Nat → Bool) (hd : Bool), DataW.TrodAll enc Try.prog W' b sp hd f.resultTypes.toList ((Value.bool true).resultList f.resultTypes.size) (s.fn H (ds ++ [])).results [] := by
    intro b sp hd
    rw [hr, hfr]
    exact trodAll_mk1 ⟨1, by simp [DataW.trod, Value.cells, Try.underlying4]⟩
  have hold : ∀ p ∈ before, (fun b => decide (b < W.heap.size)) p.block = true := fun p hp => by simpa using hlt p hp
  have hvars : ∀ sp : Nat → Bool, DataW.TrodVars enc Try.prog W' sp s.vars (s.fn H (ds ++ [])).vars [] := by
    intro sp; rw [hv, hvs]; exact rfl
  refine ⟨ds, [], before, [], before, [], hW, hres _ _ _, by rw [hfa]; exact stay _ hold, hvars _, World.keptBut_mono (fun p hp => ⟨hp, ?_⟩) (hb.frame (· ∈ before)), fun _ => ?_⟩
  · exact Or.inr (by simpa using hp)
  · refine ⟨ok_one hr rfl (by simp [Value.okWide, Try.underlying4, Cell.okWide, Cell.ok]), _, _, ([] ++ before) ++ [], ⟨[] ++ before, [], trodAll_append (stay _ (fun _ _ => rfl)) (hres _ _ _), hvars _, rfl, ?_, ?_⟩, ?_⟩
    · intro b off hp
      have hin : MemPlace.cell b off ∈ before := by simpa using hp
      rw [hb.frozen (hlt _ hin)]
      exact hz b off hin
    · intro ha
      have := hn ha
      simpa using this
    · intro p hp _
      simpa using hp
end
end Go.Proofs.Ytpknhpfbinplgaa
end
