/-
The reference: ReadTable, walked.
-/
import Derived.Test.YtpknhpfbinplgaaRfReadT
namespace Go.Proofs.Ytpknhpfbinplgaa
open Go.RowKit
attribute [local go_sem ↓] Go.wp_at_zero Go.wp_at_succ

theorem rget4 (v : Value) (l : List UInt8) (w : World) (Mi : Ms) (h : SlR w Mi v l) (hm : 4 ≤ l.length) :
    Calls Try.prog 50 #[v, .int .i64 4] w fun e w' => e = .returned (.int .i64 (leN (l.take 4) : Nat)) ∧ w' = w := rget_any v l 4 w Mi h hm (by omega)
theorem SlR.dropU' {w : World} {M : Ms} {b off n c i : Nat} {l : List UInt8} (h : SlR w M (.slice (some ⟨b, off, none⟩) n c) l) (hi : i ≤ l.length) (hc : ¬ c = i) : SlR w M (.slice (some ⟨b, off + i, none⟩) (n - i) (c - i)) (l.drop i) := by
  have := h.dropU hi
  rwa [if_neg hc] at this

set_option maxRecDepth 100000 in
set_option maxHeartbeats 16000000 in
theorem rreadT_any (g : Geo) (v : Value) (b : List UInt8) (w : World) (Mi : Ms) (h : SlR w Mi v b) (hl : b.length ≤ 100000) (hg : okG g = true) :
    Calls Try.prog 45 #[gv g, v] w fun e w' => RreadTP w' w.heap.size g b e ∧ Below w.heap.size w w' := by
  obtain ⟨a, c, rfl⟩ := h.form
  have hcap := h.cap
  obtain ⟨z, d, sp, sl, an⟩ := g
  have HGK := Lib.hid hg
  obtain ⟨-, hd, -⟩ := okG_iff.1 hg
  obtain ⟨n, rfl⟩ : ∃ k : Nat, d = k := ⟨d.toNat, by simp only at hd; omega⟩
  have hk1 : (1 : Int) ≤ n := hd.1
  have hk2 : (n : Int) ≤ 4 := hd.2
  have hb1 := (Below.refl w.heap.size w).alloc (Nat.le_refl _) (.cells #[.int .i64 z, .int .i64 n, .int .i64 sp, .int .i64 sl, .int .i64 an] 23)
  have hb2 := hb1.alloc (by simp) (.cells #[.slice none 0 0] 89)
  have hG := (Blk.new w 23 #[.int .i64 z, .int .i64 n, .int .i64 sp, .int .i64 sl, .int .i64 an]).alloc (.cells #[.slice none 0 0] 89)
  have hR := Blk.new (w.alloc (.cells #[.int .i64 z, .int .i64 n, .int .i64 sp, .int .i64 sl, .int .i64 an] 23)) 89 #[.slice none 0 0]
  simp only [World.size_alloc] at hR
  have HB := Lib.hid hb2
  have HG := Lib.hid hG
  have HR := Lib.hid hR
  have H := Lib.hid h.bare
  have hw0 : IntKind.i64.wrap ((n : Int) + 1) = n + 1 := by rw [IntKind.wrap_i64]; omega
  have hw9 : IntKind.i64.wrap (9 * ((n : Int) + 1)) = 9 * ((n : Int) + 1) := by rw [IntKind.wrap_i64]; omega
  have htn : ((n : Int) + 1).toNat = n + 1 := by omega
  have HTN := Lib.hid htn
  unfold gv
  simp only
  clear hb1 hb2 hG hR h hd hg htn
  by_cases hlen : b.length = 9 * (n + 1)
  case neg =>
    have hN := Lib.hid (readT_bad (g := ⟨z, n, sp, sl, an⟩) (b := b) (.inl (by simp only [HTN.out]; exact hlen)))
    have hne : ((b.length : Int) != 9 * ((n : Int) + 1)) = true := by simp only [bne_iff_ne, ne_eq]; omega
    have hR := HR.out
    obtain ⟨r1, r2, r3⟩ := hR.all
    have hx := hR.cell 0
    clear hlen hR
    go_enter Try.func45, Try.ntmps45
    go_wp2
    refine bodyPost_ret (v := .tuple #[.agg #[.slice none 0 0], .bool false]) (by simp [results, Try.results45, go_sem, hx]) rfl ?_
    exact ⟨.inl ⟨hN.out, rfl⟩, HB.out⟩
  have hne : ((b.length : Int) != 9 * ((n : Int) + 1)) = false := by simp only [bne_eq_false_iff_eq]; omega
  have HLn := Lib.hid hlen
  have hpos : 0 < b.length := by omega
  obtain ⟨bb, off, rfl, -, -⟩ := u8_at H.out hpos
  obtain ⟨-, hc1, hc2⟩ := hcap
  clear hlen
  go_enter Try.func45, Try.ntmps45
  go_wp2_with fail
  clear hne
  obtain ⟨W, hW⟩ : ∃ W, W = (((w.alloc (.cells #[.int .i64 z, .int .i64 n, .int .i64 sp, .int .i64 sl, .int .i64 an] 23)).alloc (.cells #[.slice none 0 0] 89)).alloc (.cells #[.slice none 0 0] 89)) := ⟨_, rfl⟩
  have HW : Hid (Blk W w.heap.size 23 #[.int .i64 z, .int .i64 n, .int .i64 sp, .int .i64 sl, .int .i64 an] ∧ Blk W (w.heap.size + 1) 89 #[.slice none 0 0] ∧ Blk W (w.heap.size + 1 + 1) 89 #[.slice none 0 0] ∧ Below w.heap.size w W) := Lib.hid (by
    rw [hW]
    refine ⟨HG.out.alloc _, HR.out.alloc _, ?_, HB.out.alloc HB.out.size _⟩
    have := Blk.new ((w.alloc (.cells #[.int .i64 z, .int .i64 n, .int .i64 sp, .int .i64 sl, .int .i64 an] 23)).alloc (.cells #[.slice none 0 0] 89)) 89 #[.slice none 0 0]
    simpa using this)
  rw [← hW]
  clear hW HB HG HR
  go_loopg [7] (n + 1) (fun gk s7 wr => ∃ k : Nat, s7 = .int .i64 k ∧ k ≤ n + 1 ∧ n + 1 - k ≤ gk ∧ Hid ((∀ i, i < k → lostV (b.drop (9 * i)) ≤ 1) ∧ (∃ vE, Blk wr (w.heap.size + 1 + 1) 89 #[vE] ∧ OwR wr noM w.heap.size 110 vE (entsOf k b)) ∧
      Blk wr w.heap.size 23 #[.int .i64 z, .int .i64 n, .int .i64 sp, .int .i64 sl, .int .i64 an] ∧ Blk wr (w.heap.size + 1) 89 #[.slice none 0 0] ∧ Below w.heap.size w wr))
  case atStart => exact ⟨0, rfl, Nat.zero_le _, by omega, Lib.hid ⟨fun i hi => absurd hi (Nat.not_lt_zero _), ⟨_, HW.out.2.2.1, OwR.nil _ _ _ _⟩, HW.out.1, HW.out.2.1, HW.out.2.2.2⟩⟩
  case round =>
    obtain ⟨k, rfl, hkl, hgk, hI⟩ := hrel
    obtain ⟨w0, rfl⟩ : ∃ w0, w0 = wr := ⟨_, rfl⟩
    obtain ⟨hA, ⟨vE, hQ, hoE⟩, hG, hR, hB⟩ := hI.out
    obtain ⟨g1, g2, g3⟩ := hG.all
    by_cases hlt : k < n + 1
    · have hle : (k : Int) ≤ n := by omega
      have hln : 9 * k + 9 ≤ b.length := by have := HLn.out; omega
      have hln' : ((9 * k : Nat) : Int) ≤ b.length := by omega
      have hlnc : ((9 * k : Nat) : Int) ≤ c := by omega
      have hbc : (b.length : Int) ≤ c := by omega
      have hw1 : IntKind.i64.wrap (9 * (k : Int)) = ((9 * k : Nat) : Int) := by rw [IntKind.wrap_i64]; omega
      have hck : ¬ c = 9 * k := by omega
      have hc4 : ¬ c - 9 * k = 4 := by omega
      have h8 : 8 < b.length - 9 * k := by omega
      have h8' : (8 : Int) < ((b.length - 9 * k : Nat) : Int) := by omega
      have h4' : (4 : Int) ≤ ((b.length - 9 * k : Nat) : Int) := by omega
      have h4c : (4 : Int) ≤ ((c - 9 * k : Nat) : Int) := by omega
      have hlc : ((b.length - 9 * k : Nat) : Int) ≤ ((c - 9 * k : Nat) : Int) := by omega
      have hsx := (H.out.mono (Keep.below hB)).dropU' (i := 9 * k) (by omega) hck
      have hxl : (b.drop (9 * k)).length = b.length - 9 * k := List.length_drop
      obtain ⟨R, hR0⟩ : ∃ R, R = b.drop (9 * k) := ⟨_, rfl⟩
      rw [← hR0] at hsx hxl
      have hR9 : 9 ≤ R.length := by omega
      have hsx4 := hsx.dropU' (i := 4) (by omega) hc4
      obtain ⟨b8, o8, e8, -, x8⟩ := u8_at hsx (show 8 < R.length by omega)
      cases e8
      have hlv := lostV_at (x := R) hR9
      obtain ⟨y8, hy8⟩ : ∃ y : UInt8, y = R[8] := ⟨_, rfl⟩
      rw [← hy8] at x8 hlv
      have hg1 := Lib.hid (rget4 _ R w0.drew noM (hsx.mono (Keep.below (below_drew w0))) (by omega))
      have hg2 := Lib.hid (rget4 _ (R.drop 4) w0.drew noM (hsx4.mono (Keep.below (below_drew w0))) (by rw [List.length_drop]; omega))
      have HS := Lib.hid (And.intro hsx (And.intro hR0 (And.intro hxl hlv)))
      have HI := Lib.hid (And.intro hA (And.intro hQ (And.intro hoE (And.intro hG (And.intro hR hB)))))
      obtain ⟨r1, r2, r3⟩ := hR.all
      obtain ⟨q1, q2, q3⟩ := hQ.all
      by_cases hbig : 1 < y8.toNat
      · have hbig' : (1 : Int) < y8.toNat := by omega
        have hN := Lib.hid (readT_bad (g := ⟨z, n, sp, sl, an⟩) (b := b) (.inr (by
          simp only [HTN.out]
          intro hall
          have := hall k hlt
          rw [← hR0, hlv] at this
          omega)))
        have hx := (hR.set_ 0 (.slice none 0 0)).cell 0
        have HB5 := Lib.hid hB
        clear hA hQ hoE hG hR hB hI hsx hsx4 hR0 hy8 hR9 hxl hlv
        go_wp2
        refine bodyPost_ret (v := .tuple #[.agg #[.slice none 0 0], .bool false]) (by simp [results, Try.results45, go_sem, hx]) rfl ?_
        exact ⟨.inl ⟨hN.out, rfl⟩, HB5.out.setCell (p := ⟨w.heap.size + 1, 0, none⟩) (Nat.le_succ _) _⟩
      · have hbig' : ¬ (1 : Int) < y8.toNat := by omega
        clear hA hQ hoE hG hR hB hI hsx hsx4 hR0 hy8 hR9 hxl hlv
        have HW0 := Lib.hid (show bb < w.heap.size from by
          obtain ⟨b', o', e', -, x'⟩ := u8_at H.out hpos
          cases e'
          exact World.block_lt_of_cell? _ _ x')
        have hS := Lib.hid (show w0.drew.cell? ⟨w.heap.size + 1 + 1, 0, none⟩ = some vE ∧ w0.drew.cell? ⟨bb, off + 9 * k + 8, none⟩ = some (.int .u8 y8.toNat) from ⟨q1 0, x8⟩)
        go_wp2_with fail
        clear g1 g2 g3 r1 r2 r3 q1 q2 q3 x8
        refine rp_enter [1, 9] (fun V => V.cell? ⟨w.heap.size + 1 + 1, 0, none⟩ = some vE ∧ V.cell? ⟨bb, off + 9 * k + 8, none⟩ = some (.int .u8 y8.toNat)) (by kernel_rfl) ?_
        apply rp_pure 0 rfl (by kernel_rfl) (fun _ _ _ h => h) rfl
        · (intro W'; go_simp; try rfl)
        · (go_simp; try rfl)
        apply rp_take 1 rfl (by kernel_rfl) (fun _ _ _ h => h) (hS.out) rfl
        · (rintro W' ⟨s0, s1⟩; go_simp; try rfl)
        · (go_simp; try rfl)
        apply rp_pure 2 rfl (by kernel_rfl) (fun _ _ _ h => h) rfl
        · (intro W'; go_simp; try rfl)
        · (go_simp; try rfl)
        apply rp_pure 4 rfl (by kernel_rfl) (fun _ _ _ h => h) rfl
        · (intro W'; go_simp; try rfl)
        · (go_simp; try rfl)
        apply rp_pure 5 rfl (by kernel_rfl) (fun _ _ _ h => h) rfl
        · (intro W'; go_simp; try rfl)
        · (go_simp; try rfl)
        apply rp_pure 7 rfl (by kernel_rfl) (fun _ _ _ h => h) rfl
        · (intro W'; go_simp; try rfl)
        · (go_simp; try rfl)
        apply rp_pure 8 rfl (by kernel_rfl) (fun _ _ _ h => h) rfl
        · (intro W'; go_simp; try rfl)
        · (go_simp; try rfl)
        apply rp_take 9 rfl (by kernel_rfl) (fun _ _ _ h => h) (hS.out) rfl
        · (rintro W' ⟨s0, s1⟩; go_simp; try rfl)
        · (go_simp; try rfl)
        apply rp_pure 10 rfl (by kernel_rfl) (fun _ _ _ h => h) rfl
        · (intro W'; go_simp; try rfl)
        · (go_simp; try rfl)
        refine rp_only 3 (by kernel_rfl) rfl (fun K hK => ?_)
        go_simp
        ((with_reducible refine hg1.out.mono ?_); rintro e w2 ⟨rfl, rfl⟩)
        refine hK _ _ ⟨fun _ h => h, ?_⟩; clear hK K
        refine rp_only 6 (by kernel_rfl) rfl (fun K hK => ?_)
        go_simp
        ((with_reducible refine hg2.out.mono ?_); rintro e w2 ⟨rfl, rfl⟩)
        refine hK _ _ ⟨fun _ h => h, ?_⟩; clear hK K
        obtain ⟨n1, hn1⟩ : ∃ n1 : Int, n1 = ((leN (R.take 4) : Nat) : Int) := ⟨_, rfl⟩
        obtain ⟨n2, hn2⟩ : ∃ n2 : Int, n2 = ((leN ((R.drop 4).take 4) : Nat) : Int) := ⟨_, rfl⟩
        rw [← hn1, ← hn2]
        have HEn := Lib.hid (show entOf R = (⟨n1, n2, (y8.toNat : Int) == 1⟩ : Ent) by rw [hn1, hn2, ← HS.out.2.2.2]; rfl)
        clear hn1 hn2 hg1 hg2
        apply rp_pure 11 rfl (by kernel_rfl) (fun _ _ _ h => h) rfl
        · (intro W'; go_simp; try rfl)
        · (go_simp; try rfl)
        refine rp_only 12 (by kernel_rfl) rfl (fun K hK => ?_)
        go_simp
        have hbA := (Below.refl w0.heap.size w0).alloc (Nat.le_refl _) (.cells #[.int .i64 n1, .int .i64 n2, .bool ((y8.toNat : Int) == 1)] 110)
        have hbD := hbA.drew
        have hS2 := Lib.hid (And.intro (below_cell hbD hS.out.1) (below_cell hbD hS.out.2))
        obtain ⟨iA, iQ, iE, iG, iR, iB⟩ := HI.out
        have O3 := Lib.hid (iE.below hbD)
        have HB3 := Lib.hid (iB.trans (hbD.mono iB.size))
        have HBD := Lib.hid hbD
        have hS3 := Lib.hid (show SlR (w0.alloc (.cells #[.int .i64 n1, .int .i64 n2, .bool ((y8.toNat : Int) == 1)] 110)).drew (fun b => noM b ∨ vE.ownBlock = some b) (.slice (some ⟨w0.heap.size, 0, none⟩) 1 1) [(⟨n1, n2, (y8.toNat : Int) == 1⟩ : Ent)] from
          SlR.one ((Blk.new w0 110 #[.int .i64 n1, .int .i64 n2, .bool ((y8.toNat : Int) == 1)]).drew) rfl (fun h' => h'.elim (fun h => h) (fun h => by have := iE.own_lt h; omega)))
        have hlk : (entsOf k b).length + 1 ≤ 1000000000 := by rw [entsOf_len]; omega
        have hBt : bb ≠ w.heap.size + 1 + 1 ∧ vE.ownBlock ≠ some bb := ⟨by have h1 := HW0.out; omega, fun e => by have h1 := HW0.out; have h2 := iE.own_ge e; omega⟩
        have HBt := Lib.hid hBt
        clear iA iQ iE iG iR iB hbA hbD hS hBt
        refine hK _ _ ⟨fun _ _ => hS2.out, ?_⟩; clear hK K
        refine rp_only 13 (by kernel_rfl) rfl (fun K hK => ?_)
        refine step_append_R (α := Ent) (M := noM) (base := w.heap.size) (l := entsOf k b) (m := [(⟨n1, n2, (y8.toNat : Int) == 1⟩ : Ent)]) rfl (by rfl) tyE (by rfl) O3.out (by rfl) hS3.out (by simpa using hlk) HB3.out.size ?_
        intro v4 w4 ho4 hg4 hat4
        obtain ⟨L4, hL4⟩ : ∃ L4, L4 = entsOf k b ++ [(⟨n1, n2, (y8.toNat : Int) == 1⟩ : Ent)] := ⟨_, rfl⟩
        rw [← hL4] at ho4
        have HL4 := Lib.hid hL4
        clear hL4
        obtain ⟨A4, C4, rfl⟩ := ho4.form
        obtain ⟨iA, iQ, iE, iG, iR, iB⟩ := HI.out
        have Q3 := iQ.below HBD.out
        have Q4 := Q3.grown hg4 (fun e => O3.out.ne_ Q3 (by decide) e.symm)
        have G3 := iG.below HBD.out
        have G4 := Lib.hid (G3.grown hg4 (fun e => O3.out.ne_ G3 (by decide) e.symm))
        have R3 := iR.below HBD.out
        have R4 := Lib.hid (R3.grown hg4 (fun e => O3.out.ne_ R3 (by decide) e.symm))
        have x84 : w4.cell? ⟨bb, off + 9 * k + 8, none⟩ = some (.int .u8 y8.toNat) := (World.cell?_of_block (a := ⟨bb, off + 9 * k + 8, none⟩) (hg4.block bb (World.block_lt_of_cell? _ _ hS2.out.2) (fun e => HBt.out.2 e.symm))).trans hS2.out.2
        have HB4 := Lib.hid (HB3.out.grown hg4 HB3.out.size (fun b e => O3.out.own_ge e))
        have O4 := Lib.hid (And.intro ho4 (ho4.ne_ Q4 (by decide)))
        have HQ4 := Lib.hid Q4
        have hq40 := Q4.cell 0
        obtain ⟨q1, q2, q3⟩ := Q4.all
        refine hK _ _ ⟨fun _ _ => ⟨hq40, x84⟩, ?_⟩; clear hK K
        clear iA iQ iE iG iR iB Q3 Q4 G3 R3 ho4 hg4 hat4 hq40
        apply rp_pure 14 rfl (by kernel_rfl) (fun _ _ _ h => h) rfl
        · (intro W'; go_simp; try rfl)
        · (go_simp; try rfl)
        refine rp_free 15 (by kernel_rfl) (by kernel_rfl) rfl (fun K hK => ?_)
        go_simp
        clear q1 q2 q3
        have x85 : (w4.setCell ⟨w.heap.size + 1 + 1, 0, none⟩ (.slice A4 L4.length C4)).cell? ⟨bb, off + 9 * k + 8, none⟩ = some (.int .u8 y8.toNat) := (World.cell?_setCell_other w4 _ _ _ (fun e => HBt.out.1 (by injection e with e1; exact e1.symm))).trans x84
        have hq5 := (HQ4.out.set_ 0 (.slice A4 L4.length C4)).cell 0
        refine hK _ _ ?_; clear hK K x85 hq5 x84
        refine rp_done (by kernel_rfl) ?_
        go_wp2
        go_roundg (n + 1 - (k + 1))
        case measure => omega
        case rel =>
          obtain ⟨iA, iQ, iE, iG, iR, iB⟩ := HI.out
          refine ⟨k + 1, by go_num, by omega, by omega, Lib.hid ⟨fun i hi => ?_, ⟨_, HQ4.out.set_ 0 _, ?_⟩, G4.out.far (by simp; omega) _, R4.out.far (by simp) _, HB4.out.setCell (by simp; omega) _⟩⟩
          · by_cases e : i = k
            · subst e; rw [← HS.out.2.1, HS.out.2.2.2]; omega
            · exact iA i (by omega)
          · rw [entsOf_step, ← HS.out.2.1, HEn.out, ← HL4.out]
            exact O4.out.1.setP plE (p := ⟨w.heap.size + 1 + 1, 0, none⟩) O4.out.2 _
    · obtain rfl : k = n + 1 := by omega
      have hRT := readT_ref (g := ⟨z, n, sp, sl, an⟩) (b := b) (by simp only [HTN.out]; exact HLn.out) (by simp only [HTN.out]; exact hA)
      simp only [HTN.out] at hRT
      have hlen := entsOf_len (n + 1) b
      obtain ⟨L, hL⟩ : ∃ L, L = entsOf (n + 1) b := ⟨_, rfl⟩
      rw [← hL] at hRT hoE hlen
      have htb := Lib.hid (rtab_any ⟨z, n, sp, sl, an⟩ vE L w0 noM (hoE.sl (fun _ _ h => h)) (by omega) HGK.out)
      unfold gv at htb
      simp only at htb
      obtain ⟨q1, q2, q3⟩ := hQ.all
      have HI := Lib.hid (And.intro hQ (And.intro hoE (And.intro hR hB)))
      have HRT := Lib.hid hRT
      have hnle : ¬ (((n + 1 : Nat) : Int) ≤ (n : Int)) := by omega
      clear hI hL hlen hA hQ hoE hG hR hB hRT
      go_wp2_with fail
      clear g1 g2 g3 q1 q2 q3 hnle
      ((with_reducible refine htb.out.mono ?_); rintro e w2 ⟨rfl, hB2⟩)
      obtain ⟨iQ, iE, iR, iB⟩ := HI.out
      have Q2 := iQ.below hB2
      have R2 := iR.below hB2
      have E2 := iE.below hB2
      have B2 := Lib.hid (iB.trans (hB2.mono iB.size))
      obtain ⟨r1, r2, r3⟩ := R2.all
      obtain ⟨p1, p2, p3⟩ := Q2.all
      obtain ⟨aE, cE, rfl⟩ := E2.form
      cases hok : okT ⟨z, n, sp, sl, an⟩ L with
      | false =>
        have hF := Lib.hid (show readT ⟨z, n, sp, sl, an⟩ b = none by rw [HRT.out, hok]; rfl)
        have hx := (R2.set_ 0 (.slice none 0 0)).cell 0
        clear iQ iE iR iB Q2 E2 hB2 hok R2
        go_wp2
        refine bodyPost_ret (v := .tuple #[.agg #[.slice none 0 0], .bool false]) (by simp [results, Try.results45, go_sem, hx]) rfl ?_
        exact ⟨.inl ⟨hF.out, rfl⟩, B2.out.setCell (p := ⟨w.heap.size + 1, 0, none⟩) (Nat.le_succ _) _⟩
      | true =>
        have hF := Lib.hid (show readT ⟨z, n, sp, sl, an⟩ b = some L by rw [HRT.out, hok]; rfl)
        have hne := Lib.hid (E2.ne_ R2 (by decide))
        have HE2 := Lib.hid E2
        have hx := (R2.set_ 0 (.slice aE L.length cE)).cell 0
        clear iQ iE iR iB Q2 E2 hB2 hok R2
        go_wp2
        refine bodyPost_ret (v := .tuple #[.agg #[.slice aE L.length cE], .bool true]) (by simp [results, Try.results45, go_sem, hx]) rfl ?_
        exact ⟨.inr ⟨_, L, hF.out, rfl, HE2.out.setP plE (p := ⟨w.heap.size + 1, 0, none⟩) hne.out _⟩, B2.out.setCell (p := ⟨w.heap.size + 1, 0, none⟩) (Nat.le_succ _) _⟩
end Go.Proofs.Ytpknhpfbinplgaa
