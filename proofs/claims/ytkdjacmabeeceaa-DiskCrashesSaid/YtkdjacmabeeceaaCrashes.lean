/-
The law DiskCrashes: what was flushed last of a cell, or a later writing that may have been kept, is what is read.
-/
import Derived.Test.YtkdjacmabeeceaaCrashes0
import Derived.Test.YtkdjacmabeeceaaKeeps
import Derived.Test.YtkdjacmabeeceaaAct
import Derived.Test.YtkdjacmabeeceaaKRows2
namespace Go.Proofs.Ytkdjacmabeeceaa
open Go.RowKit
attribute [local go_sem ↓] Go.wp_at_zero Go.wp_at_succ

/-- The two blocks that are stored into. -/
def M2 (bd g : Nat) : Ms := fun b => b = bd ∨ b = g
/-- What stands while DiskCrashes works. -/
structure CS (w0 w : World) (bd g : Nat) (c k : Value) (D : Dis) (sure now : List (List UInt8)) (vs : Value) (vl : Value) (l : List Deed) : Prop where
  var : VarD w (M2 bd g) bd c k D
  now : WantR w (M2 bd g) g now
  sure : SlR w (M2 bd g) vs sure
  acts : SlR w (M2 bd g) vl l
  low : Below w0.heap.size w0 w
  geb : w0.heap.size ≤ bd
  geg : w0.heap.size ≤ g
  ne : g ≠ bd
section
variable {w0 w w' : World} {bd g : Nat} {c k c' k' : Value} {D D' : Dis} {sure now : List (List UInt8)} {vs vl : Value} {l : List Deed}
theorem CS.up (h : CS w0 w bd g c k D sure now vs vl l) (hB : Below w.heap.size w w') : CS w0 w' bd g c k D sure now vs vl l :=
  ⟨h.var.below hB, h.now.below hB, h.sure.mono (Keep.below hB), h.acts.mono (Keep.below hB), h.low.trans (hB.mono h.low.size), h.geb, h.geg, h.ne⟩
theorem CS.setD (h : CS w0 w bd g c k D sure now vs vl l) (hr : Rv w (M2 bd g) (.agg #[c', k', .int .i64 D'.reqs, .int .i64 D'.left]) D') :
    CS w0 (st4 w bd c' k' (.int .i64 D'.reqs) (.int .i64 D'.left)) bd g c' k' D' sure now vs vl l :=
  have ⟨h1, h2⟩ := h.var.set hr
  ⟨h1, h.now.grown (st4_grown _ _ _ _ _ _) h.ne h.var.mem, h.sure.mono h2, h.acts.mono h2, st4_below h.low h.geb _ _ _ _, h.geb, h.geg, h.ne⟩
theorem CS.setW (h : CS w0 w bd g c k D sure now vs vl l) {a : Nat} (ha : a < now.length) {v : Value} {b : List UInt8} (hv : SlR w (M2 bd g) v b) :
    CS w0 (w.setCell ⟨g, a, none⟩ v) bd g c k D sure (now.set a b) vs vl l :=
  have hk := keep_set (w := w) h.now.mem a v
  ⟨⟨h.var.blk.far (fun e => h.ne e.symm) v, h.var.rv.mono hk, h.var.mem, h.var.ok.below (by simp)⟩, h.now.set ha hv, h.sure.mono hk, h.acts.mono hk, h.low.setCell (p := ⟨g, a, none⟩) h.geg v, h.geb, h.geg, h.ne⟩
/-- What was flushed is now a copy of what is read. -/
theorem CS.newSure (h : CS w0 w bd g c k D sure now vs vl l) (hB : Below w.heap.size w w') {r : Value} {s : List (List UInt8)} (hr : SlR w' (M2 bd g) r s) : CS w0 w' bd g c k D s now r vl l :=
  have h' := h.up hB
  ⟨h'.var, h'.now, hr, h'.acts, h'.low, h'.geb, h'.geg, h'.ne⟩
/-- What is read is now a copy of what was flushed. -/
theorem CS.newNow (h : CS w0 w bd g c k D sure now vs vl l) (hB : Below w.heap.size w w') {r : Value} {s : List (List UInt8)} (hs : s ≠ []) (hr : OwR w' (M2 bd g) w.heap.size 32 r s) :
    ∃ g' cg, r = .slice (some ⟨g', 0, none⟩) s.length cg ∧ s.length ≤ cg ∧ cg ≤ maxLen ∧ Keep w (M2 bd g) w' (M2 bd g') ∧ CS w0 w' bd g' c k D sure s vs vl l := by
  obtain ⟨xs, ho, he⟩ := hr
  rcases ho.2 with ⟨rfl, hn⟩ | ⟨g', cap, cur, rfl, hb, hg, hnc, hcm, hcs, ht⟩
  · exact absurd (List.eq_nil_of_length_eq_zero hn) hs
  · have hbd : bd < w.heap.size := h.var.blk.lt
    have hg' : g' < w'.heap.size := (Array.getElem?_eq_some_iff.1 hg).1
    have hK : Keep w (M2 bd g) w' (M2 bd g') := fun b hlt hm => ⟨fun h' => h'.elim (fun e => hm (.inl e)) (fun e => by omega), hB.block b hlt⟩
    have hge := h.low.size
    refine ⟨g', cap, rfl, hnc, hcm, hK, ⟨(h.var.below hB).blk, h.var.rv.mono hK, .inl rfl, fun b h' => h'.elim (fun e => by have := hB.size; omega) (fun e => by omega)⟩, ⟨⟨cur, xs, hg, he.mono fun _ _ _ => Rp.mono fun b hlt hm => ⟨fun h' => hm (h'.elim (fun e => .inl (.inl e)) (fun e => .inr (by rw [e]; rfl))), rfl⟩, fun j u hu => ?_⟩, .inr rfl⟩, h.sure.mono hK, h.acts.mono hK, h.low.trans (hB.mono hge), h.geb, by omega, by omega⟩
    rw [← ht, List.getElem?_take] at hu
    split at hu
    · simpa using hu
    · cases hu
theorem WantR.sl {M : Ms} {L : List (List UInt8)} {c : Nat} (h : WantR w M g L) (h1 : L.length ≤ c) (h2 : c ≤ maxLen) : SlR w noM (.slice (some ⟨g, 0, none⟩) L.length c) L := by
  obtain ⟨⟨cs, xs, hb, he, hx⟩, hm⟩ := h
  exact ⟨_, c, xs, rfl, h1, h2, he.mono fun _ _ _ => Rp.mono (Keep.less fun _ h' => h'.elim), fun _ => ⟨g, 0, rfl, fun h' => h'.elim, fun j u hu => by rw [Nat.zero_add, hb.cell]; exact hx j u hu⟩⟩
theorem CS.start {w1 wd : World} {m : Nat} (hm : m ≤ 300) (R1 : Rv w1 noM (.agg #[c, k, .int .i64 D.reqs, .int .i64 D.left]) D) (Y2 : Blk wd bd 27 #[c, k, .int .i64 D.reqs, .int .i64 D.left]) (B2 : Below w0.heap.size w0 wd) (geb : w0.heap.size ≤ bd) (hB1 : Below w1.heap.size w1 wd) (hbd1 : w1.heap.size ≤ bd)
    (HL : SlR w1 noM vl l) (s : Nat) (h : s = wd.heap.size ∧ g = wd.heap.size + 1 ∨ g = wd.heap.size ∧ s = wd.heap.size + 1) :
    CS w0 ((wd.alloc (.cells (madeCells #[.slice none 0 0] m) 32)).alloc (.cells (madeCells #[.slice none 0 0] m) 32)) bd g c k D (List.replicate m []) (List.replicate m []) (.slice (some ⟨s, 0, none⟩) m m) vl l := by
  have hB := ((Below.refl wd.heap.size wd).alloc (Nat.le_refl _) (.cells (madeCells #[.slice none 0 0] m) 32)).alloc (by simp) (.cells (madeCells #[.slice none 0 0] m) 32)
  have hbd : bd < wd.heap.size := Y2.lt
  have hb1 : Blk ((wd.alloc (.cells (madeCells #[.slice none 0 0] m) 32)).alloc (.cells (madeCells #[.slice none 0 0] m) 32)) wd.heap.size 32 (madeCells #[.slice none 0 0] m) := (Blk.new wd 32 _).alloc _
  have hb2 : Blk ((wd.alloc (.cells (madeCells #[.slice none 0 0] m) 32)).alloc (.cells (madeCells #[.slice none 0 0] m) 32)) (wd.heap.size + 1) 32 (madeCells #[.slice none 0 0] m) := by
    have := Blk.new (wd.alloc (.cells (madeCells #[.slice none 0 0] m) 32)) 32 (madeCells #[.slice none 0 0] m)
    rwa [show (wd.alloc (.cells (madeCells #[.slice none 0 0] m) 32)).heap.size = wd.heap.size + 1 by simp] at this
  have hg : Blk ((wd.alloc (.cells (madeCells #[.slice none 0 0] m) 32)).alloc (.cells (madeCells #[.slice none 0 0] m) 32)) g 32 (madeCells #[.slice none 0 0] m) := by rcases h with ⟨-, rfl⟩ | ⟨rfl, -⟩; exact hb2; exact hb1
  have hs : Blk ((wd.alloc (.cells (madeCells #[.slice none 0 0] m) 32)).alloc (.cells (madeCells #[.slice none 0 0] m) 32)) s 32 (madeCells #[.slice none 0 0] m) := by rcases h with ⟨rfl, -⟩ | ⟨-, rfl⟩; exact hb1; exact hb2
  have hgd : wd.heap.size ≤ g := by omega
  have hsg : s ≠ g ∧ s ≠ bd := by omega
  have hK : Keep w1 noM ((wd.alloc (.cells (madeCells #[.slice none 0 0] m) 32)).alloc (.cells (madeCells #[.slice none 0 0] m) 32)) (M2 bd g) := fun b hb _ => ⟨fun h' => by have := hB1.size; rcases h' with h' | h' <;> omega, (hB1.trans (hB.mono hB1.size)).block b hb⟩
  have hsz := B2.size
  have hlR : (List.replicate m ([] : List UInt8)).length = m := List.length_replicate
  refine ⟨⟨Y2.below hB, ?_, .inl rfl, fun b h' => ?_⟩, ⟨⟨_, _, hg, madeR_elems _ _ m, fun j u hu => by rw [← Array.getElem?_toList]; exact hu⟩, .inr rfl⟩, ⟨_, m, _, by rw [hlR], by rw [hlR]; exact Nat.le_refl _, by simp [maxLen]; omega, madeR_elems _ _ m, fun _ => ⟨s, 0, rfl, fun h' => ?_, fun j u hu => ?_⟩⟩, ?_, B2.trans (hB.mono hsz), geb, by omega, by omega⟩
  · exact R1.mono hK
  · rcases h' with rfl | rfl
    · exact Nat.lt_of_lt_of_le hbd hB.size
    · exact hg.lt
  · exact h'.elim hsg.2 hsg.1
  · rw [Nat.zero_add, hs.cell, ← Array.getElem?_toList]; exact hu
  · exact HL.mono hK
end
theorem CInv.small {n i : Nat} {d : Dis} {sure now : List (List UInt8)} (h : CInv n i d sure now) : ∀ x ∈ sure, x.length ≤ 1000000000 := fun x hx => by
  rw [← h.sure, List.mem_map] at hx
  obtain ⟨c, hc, rfl⟩ := hx
  exact (h.ok.sm.2.2.1 c hc).1
theorem ukind (z : Int) : (IntKind.u64.wrap z).tmod 4 = 0 ∨ (IntKind.u64.wrap z).tmod 4 = 1 ∨ (IntKind.u64.wrap z).tmod 4 = 2 ∨ (IntKind.u64.wrap z).tmod 4 = 3 := by
  rw [IntKind.wrap_u64, Int.tmod_eq_emod_of_nonneg (by omega)]
  omega
set_option maxRecDepth 100000 in
set_option maxHeartbeats 64000000 in
theorem crashes_any (n0 : Int) (vl : Value) (l : List Deed) (w : World) (hl : SlR w noM vl l) :
    Calls Try.prog 3 #[.int .i64 n0, vl] w fun e w' => e = .returned (.bool true) ∧ Below w.heap.size w w' := by
  obtain ⟨al, cl, rfl⟩ := hl.form
  have HL := Lib.hid hl
  clear hl
  go_enter Try.func3, Try.ntmps3
  by_cases h100 : l.length ≤ 100
  case neg =>
    have h100' : (100 : Int) < l.length := by omega
    go_wp2
    go_ret
    exact ⟨rfl, Below.refl _ _⟩
  have h100' : ¬ (100 : Int) < l.length := by omega
  obtain ⟨m, hm, hm1, hm8⟩ := umod8 n0
  go_wp2_with fail
  clear hm
  refine (tnew_any m w noM (noMok _)).mono ?_
  rw [newT_ok hm1 hm8]
  dsimp only
  rintro q w1 ⟨r1, rfl, hr1, hB1⟩
  have HI := Lib.hid (CInv.start hm1 hm8)
  generalize hd0 : (⟨List.replicate m ⟨0, [], []⟩, [], 0, -1⟩ : Dis) = d0 at *
  obtain ⟨Ac1, nc1, Ak1, nk1, rfl⟩ := dis_form hr1
  have hal := (Below.refl w1.heap.size w1).alloc (Nat.le_refl _) (.cells #[.slice Ac1 d0.cells.length nc1, .slice Ak1 d0.cache.length nk1, .int .i64 d0.reqs, .int .i64 d0.left] 27)
  have hmk := mkR m (by omega)
  have R1 := Lib.hid hr1
  have Y2 := Lib.hid (Blk.new w1 27 #[.slice Ac1 d0.cells.length nc1, .slice Ak1 d0.cache.length nk1, .int .i64 d0.reqs, .int .i64 d0.left])
  have B2 := Lib.hid (hB1.trans (hal.mono hB1.size))
  have HL1 := Lib.hid (HL.out.mono (Keep.below hB1))
  have BB := Lib.hid (show Below w1.heap.size w1 _ from hal)
  have hge := Lib.hid hB1.size
  have hs2 := Lib.hid (show w1.heap.size < (w1.alloc (.cells #[.slice Ac1 d0.cells.length nc1, .slice Ak1 d0.cache.length nk1, .int .i64 d0.reqs, .int .i64 d0.left] 27)).heap.size by simp)
  clear hr1 hB1 hal hd0 HL
  go_wp2_with fail
  generalize w1.alloc (.cells #[.slice Ac1 d0.cells.length nc1, .slice Ak1 d0.cache.length nk1, .int .i64 d0.reqs, .int .i64 d0.left] 27) = w2 at *
  replace B2 := Lib.hid B2.out.drew
  replace BB := Lib.hid BB.out.drew
  replace Y2 := Lib.hid Y2.out.drew
  clear hs2
  refine rg_enter [] (fun _ => True) (by kernel_rfl) ?_
  generalize w2.drew = wd at *
  apply rg_pure 0 rfl (by kernel_rfl) (fun _ _ _ h => h) rfl
  · (intro W; go_simp; try rfl)
  · (go_simp; try rfl)
  apply rg_pure 2 rfl (by kernel_rfl) (fun _ _ _ h => h) rfl
  · (intro W; go_simp; try rfl)
  · (go_simp; try rfl)
  refine rg_two 1 3 (by kernel_rfl) rfl rfl (fun K hK => ?_) (fun K hK => ?_)
  · go_simp
    refine hK _ _ ⟨fun _ => trivial, ?_⟩; clear hK K
    apply rg_pure 4 rfl (by kernel_rfl) (fun _ _ _ h => h) rfl
    · (intro W; go_simp; try rfl)
    · (go_simp; try rfl)
    refine rg_only 3 (by kernel_rfl) rfl (fun K hK => ?_)
    go_simp
    refine hK _ _ ⟨fun _ => trivial, ?_⟩; clear hK K
    apply rg_pure 5 rfl (by kernel_rfl) (fun _ _ _ h => h) rfl
    · (intro W; go_simp; try rfl)
    · (go_simp; try rfl)
    refine rg_done (by kernel_rfl) ?_
    have J := Lib.hid (CS.start (m := m) (by omega) R1.out Y2.out B2.out hge.out BB.out (Nat.le_refl _) HL1.out (g := wd.heap.size + 1) wd.heap.size (.inl ⟨rfl, rfl⟩))
    clear R1 Y2 B2 HL1 BB hge hmk
    generalize ((wd.alloc (.cells (madeCells #[.slice none 0 0] m) 32)).alloc (.cells (madeCells #[.slice none 0 0] m) 32)) = w3 at *
    go_wp2_with fail
    generalize wd.heap.size + 1 = g0 at *
    generalize wd.heap.size = s0 at *
    generalize w1.heap.size = bd at *
    go_loopw [7, 8, 9] (fun s o i wr => ∃ k : Nat, k ≤ l.length ∧ i = .int .i64 k ∧ Hid (∃ D sure now c' k' g cg, o = .slice (some ⟨g, 0, none⟩) m cg ∧ m ≤ cg ∧ cg ≤ maxLen ∧ CInv m k D sure now ∧ CS w wr bd g c' k' D sure now s (.slice al l.length cl) l)) (fun _ _ i _ => l.length - (intOf i).toNat)
    case atStart => exact ⟨0, Nat.zero_le _, rfl, Lib.hid ⟨_, _, _, _, _, _, _, rfl, Nat.le_refl _, by simp [maxLen]; omega, HI.out, J.out⟩⟩
    case round =>
      clear HI J
      obtain ⟨k, hk, rfl, HS⟩ := hrel
      obtain ⟨D, sure, now, vc, vk, g, cg, rfl, hcg1, hcg2, hI, hS⟩ := HS.out
      clear HS
      replace hI := Lib.hid hI
      have X := Lib.hid hS
      have hcg := Lib.hid (And.intro hcg1 hcg2)
      obtain ⟨aS, cS, rfl⟩ := hS.sure.form
      clear hS hcg1 hcg2
      obtain ⟨Ac, nc, Ak, nk, hag⟩ := dis_form X.out.var.rv
      simp only [Value.agg.injEq, Array.mk.injEq, List.cons.injEq, and_true] at hag
      obtain ⟨rfl, rfl⟩ := hag
      by_cases hlt : k < l.length
      · obtain ⟨b1, o1, A1, C1, rfl, -, x1, x2, x3, x4, z1⟩ := act_at X.out.acts hlt
        have Z1 := Lib.hid z1
        clear z1
        obtain ⟨a, haw, ham⟩ := umodw (z := IntKind.u64.wrap l[k].addr) (by rw [IntKind.wrap_u64]; omega) hm1 (by omega)
        by_cases h1 : l[k].bytes.length ≤ 100
        case neg =>
          have h1' : (100 : Int) < l[k].bytes.length := by omega
          go_wp2
          go_ret
          exact ⟨rfl, X.out.low⟩
        have h1' : ¬ (100 : Int) < l[k].bytes.length := by omega
        have haL : a < now.length := by rw [hI.out.lens.2]; exact ham
        have ham' : (a : Int) < m := by omega
        have hsm := Lib.hid hI.out.ok.sm
        have hd1 : D.cells.length ≤ 1000000000 := hsm.out.1
        have hd2 : D.cache.length ≤ 1000000000 := hsm.out.2.1
        obtain ⟨c1, -, l1⟩ := X.out.var.blk.all
        rcases ukind l[k].kind with hkd | hkd | hkd | hkd
        · obtain ⟨D', hW, hI'⟩ := hI.out.write ham (b := l[k].bytes) (by omega) (by omega)
          replace hW := Lib.hid hW
          replace hI' := Lib.hid hI'
          go_wp2_with fail
          clear c1 l1 x1 x2 x3 x4 haw hkd
          refine (twrite_any _ _ D a l[k].bytes wr _ X.out.var.rv Z1.out X.out.var.ok hd1 hd2 (by omega)).mono ?_
          rw [hW.out]
          dsimp only
          rintro q w4 ⟨r4, rfl, hr4, hB4⟩
          obtain ⟨Ac4, nc4, Ak4, nk4, rfl⟩ := dis_form hr4
          have hal := (Below.refl w4.heap.size w4).alloc (Nat.le_refl _) (.cells #[.slice Ac4 D'.cells.length nc4, .slice Ak4 D'.cache.length nk4, .int .i64 D'.reqs, .int .i64 D'.left] 27)
          have X4 := Lib.hid (X.out.up (belowUp hB4 hal))
          have R4 := Lib.hid (hr4.below hal)
          have Y4 := Lib.hid (Blk.new w4 27 #[.slice Ac4 D'.cells.length nc4, .slice Ak4 D'.cache.length nk4, .int .i64 D'.reqs, .int .i64 D'.left])
          have hnb := Lib.hid (Nat.ne_of_gt (Nat.lt_of_lt_of_le X.out.var.blk.lt hB4.size))
          have Z4 := Lib.hid (Z1.out.mono (Keep.below (belowUp hB4 hal)))
          clear hr4 hB4 hal X Z1 hI
          go_wp2_with fail
          generalize w4.alloc (.cells #[.slice Ac4 D'.cells.length nc4, .slice Ak4 D'.cache.length nk4, .int .i64 D'.reqs, .int .i64 D'.left] 27) = w5 at *
          generalize w4.heap.size = b12 at *
          have X5 := Lib.hid (X4.out.up (below_drew w5))
          have R5 := Lib.hid (R4.out.below (below_drew w5))
          have Y5 := Lib.hid Y4.out.drew
          have hS := Lib.hid (show ∀ i, w5.drew.cell? ⟨b12, i, none⟩ = #[Value.slice Ac4 D'.cells.length nc4, .slice Ak4 D'.cache.length nk4, .int .i64 D'.reqs, .int .i64 D'.left][i]? from Y5.out.cell)
          have Z5 := Lib.hid (Z4.out.mono (Keep.below (below_drew w5)))
          clear X4 R4 Y4 Z4
          refine rg_enter [0, 1, 2, 3, 6] (fun w' => ∀ i, w'.cell? ⟨b12, i, none⟩ = #[Value.slice Ac4 D'.cells.length nc4, .slice Ak4 D'.cache.length nk4, .int .i64 D'.reqs, .int .i64 D'.left][i]?) (by kernel_rfl) ?_
          generalize w5.drew = w6 at *
          apply rg_take 0 rfl (by kernel_rfl) (fun _ _ _ h => h) (hS.out) rfl
          · (rintro W hW; go_simp; try rfl)
          · (go_simp; try rfl)
          apply rg_take 1 rfl (by kernel_rfl) (fun _ _ _ h => h) (hS.out) rfl
          · (rintro W hW; go_simp; try rfl)
          · (go_simp; try rfl)
          apply rg_take 2 rfl (by kernel_rfl) (fun _ _ _ h => h) (hS.out) rfl
          · (rintro W hW; go_simp; try rfl)
          · (go_simp; try rfl)
          apply rg_take 3 rfl (by kernel_rfl) (fun _ _ _ h => h) (hS.out) rfl
          · (rintro W hW; go_simp; try rfl)
          · (go_simp; try rfl)
          refine rg_only 4 (by kernel_rfl) rfl (fun K hK => ?_)
          go_simp
          refine (twin2_any _ l[k].bytes w6 _ _ Z5.out X5.out.var.ok (by omega)).mono ?_
          rintro q w7 ⟨r7, rfl, hr7, hB7⟩
          obtain ⟨A7, C7, rfl⟩ := hr7.form
          have X7 := Lib.hid (X5.out.up hB7)
          have R7 := Lib.hid (R5.out.below hB7)
          have Y7 := Lib.hid (Y5.out.below hB7)
          have V7 := Lib.hid hr7
          have hS7 := Lib.hid (show ∀ i, w7.cell? ⟨b12, i, none⟩ = #[Value.slice Ac4 D'.cells.length nc4, .slice Ak4 D'.cache.length nk4, .int .i64 D'.reqs, .int .i64 D'.left][i]? from Y7.out.cell)
          clear hr7 hB7 X5 R5 Y5 Z5 hS
          refine hK _ _ ⟨fun _ => hS7.out, ?_⟩; clear hK K
          obtain ⟨c7, f7, l7⟩ := X7.out.var.blk.all
          have X8 := Lib.hid (X7.out.setD R7.out)
          have V8 := Lib.hid (V7.out.mono (X7.out.var.set R7.out).2)
          have hS8 := Lib.hid (show ∀ i, (st4 w7 bd (.slice Ac4 D'.cells.length nc4) (.slice Ak4 D'.cache.length nk4) (.int .i64 D'.reqs) (.int .i64 D'.left)).cell? ⟨b12, i, none⟩ = #[Value.slice Ac4 D'.cells.length nc4, .slice Ak4 D'.cache.length nk4, .int .i64 D'.reqs, .int .i64 D'.left][i]? from ((Y7.out).grown (st4_grown w7 bd (.slice Ac4 D'.cells.length nc4) (.slice Ak4 D'.cache.length nk4) (.int .i64 D'.reqs) (.int .i64 D'.left)) (by simpa using hnb.out)).cell)
          refine rg_only 5 (by kernel_rfl) rfl (fun K hK => ?_)
          go_simp
          clear c7 f7 l7
          refine hK _ _ ⟨fun _ => hS8.out, ?_⟩; clear hK K
          unfold st4 at X8 V8 hS8
          apply rg_take 6 rfl (by kernel_rfl) (fun _ _ _ h => h) (hS8.out) rfl
          · (rintro W hW; go_simp; try rfl)
          · (go_simp; try rfl)
          obtain ⟨A8, C8, x8, -⟩ := X8.out.now.at_ haL
          obtain ⟨f8, l8⟩ := X8.out.now.fro
          replace f8 := f8 a
          refine rg_free 7 (by kernel_rfl) (by kernel_rfl) rfl (fun K hK => ?_)
          go_simp
          refine hK _ _ ?_; clear hK K
          refine rg_done (by kernel_rfl) ?_
          clear x8 f8 l8 hS8 hS7 X7 R7 Y7 V7
          have X9 := Lib.hid (X8.out.setW haL V8.out)
          clear X8 V8
          go_wp2
          go_roundw
          case rel => exact ⟨k + 1, by omega, by go_num, Lib.hid ⟨_, _, _, _, _, _, _, rfl, hcg.out.1, hcg.out.2, hI'.out, X9.out⟩⟩
          case measure => simp [intOf]; omega
        · obtain ⟨D', hW, hI'⟩ := hI.out.flush
          replace hW := Lib.hid hW
          replace hI' := Lib.hid hI'
          go_wp2_with fail
          clear c1 l1 x1 x2 x3 x4 haw hkd
          refine (tflush_any _ D wr _ X.out.var.rv X.out.var.ok hd1 hd2).mono ?_
          rw [hW.out]
          dsimp only
          rintro q w4 ⟨r4, rfl, hr4, hB4⟩
          obtain ⟨Ac4, nc4, Ak4, nk4, rfl⟩ := dis_form hr4
          have hal := (Below.refl w4.heap.size w4).alloc (Nat.le_refl _) (.cells #[.slice Ac4 D'.cells.length nc4, .slice Ak4 D'.cache.length nk4, .int .i64 D'.reqs, .int .i64 D'.left] 27)
          have X4 := Lib.hid (X.out.up (belowUp hB4 hal))
          have R4 := Lib.hid (hr4.below hal)
          have Y4 := Lib.hid (Blk.new w4 27 #[.slice Ac4 D'.cells.length nc4, .slice Ak4 D'.cache.length nk4, .int .i64 D'.reqs, .int .i64 D'.left])
          have hnb := Lib.hid (Nat.ne_of_gt (Nat.lt_of_lt_of_le X.out.var.blk.lt hB4.size))
          clear hr4 hB4 hal X Z1
          go_wp2_with fail
          generalize w4.alloc (.cells #[.slice Ac4 D'.cells.length nc4, .slice Ak4 D'.cache.length nk4, .int .i64 D'.reqs, .int .i64 D'.left] 27) = w5 at *
          generalize w4.heap.size = b12 at *
          have X5 := Lib.hid (X4.out.up (below_drew w5))
          have R5 := Lib.hid (R4.out.below (below_drew w5))
          have Y5 := Lib.hid Y4.out.drew
          have hS := Lib.hid (show ∀ i, w5.drew.cell? ⟨b12, i, none⟩ = #[Value.slice Ac4 D'.cells.length nc4, .slice Ak4 D'.cache.length nk4, .int .i64 D'.reqs, .int .i64 D'.left][i]? from Y5.out.cell)
          clear X4 R4 Y4
          refine rg_enter [0, 1] (fun w' => ∀ i, w'.cell? ⟨b12, i, none⟩ = #[Value.slice Ac4 D'.cells.length nc4, .slice Ak4 D'.cache.length nk4, .int .i64 D'.reqs, .int .i64 D'.left][i]?) (by kernel_rfl) ?_
          generalize w5.drew = w6 at *
          apply rg_take 0 rfl (by kernel_rfl) (fun _ _ _ h => h) (hS.out) rfl
          · (rintro W hW; go_simp; try rfl)
          · (go_simp; try rfl)
          apply rg_take 1 rfl (by kernel_rfl) (fun _ _ _ h => h) (hS.out) rfl
          · (rintro W hW; go_simp; try rfl)
          · (go_simp; try rfl)
          refine rg_only 2 (by kernel_rfl) rfl (fun K hK => ?_)
          go_simp
          have hsl := Lib.hid (show SlR w6 noM (.slice (some ⟨g, 0, none⟩) m cg) now by have := X5.out.now.sl (by rw [hI.out.lens.2]; exact hcg.out.1) hcg.out.2; rwa [hI.out.lens.2] at this)
          refine (trows2_any _ now w6 _ _ hsl.out X5.out.var.ok (by rw [hI.out.lens.2]; omega) hI'.out.small).mono ?_
          rintro q w7 ⟨r7, rfl, hr7, hB7⟩
          have X7 := Lib.hid (X5.out.newSure hB7 (hr7.sl X5.out.var.ok.new))
          have R7 := Lib.hid (R5.out.below hB7)
          have Y7 := Lib.hid (Y5.out.below hB7)
          have hS7 := Lib.hid (show ∀ i, w7.cell? ⟨b12, i, none⟩ = #[Value.slice Ac4 D'.cells.length nc4, .slice Ak4 D'.cache.length nk4, .int .i64 D'.reqs, .int .i64 D'.left][i]? from Y7.out.cell)
          clear hr7 hB7 X5 R5 Y5 hS hsl hI
          refine hK _ _ ⟨fun _ => hS7.out, ?_⟩; clear hK K
          obtain ⟨c7, f7, l7⟩ := X7.out.var.blk.all
          have X8 := Lib.hid (X7.out.setD R7.out)
          have hS8 := Lib.hid (show ∀ i, (st4 w7 bd (.slice Ac4 D'.cells.length nc4) (.slice Ak4 D'.cache.length nk4) (.int .i64 D'.reqs) (.int .i64 D'.left)).cell? ⟨b12, i, none⟩ = #[Value.slice Ac4 D'.cells.length nc4, .slice Ak4 D'.cache.length nk4, .int .i64 D'.reqs, .int .i64 D'.left][i]? from ((Y7.out).grown (st4_grown w7 bd (.slice Ac4 D'.cells.length nc4) (.slice Ak4 D'.cache.length nk4) (.int .i64 D'.reqs) (.int .i64 D'.left)) (by simpa using hnb.out)).cell)
          refine rg_only 3 (by kernel_rfl) rfl (fun K hK => ?_)
          go_simp
          clear c7 f7 l7
          refine hK _ _ ⟨fun _ => hS8.out, ?_⟩; clear hK K
          unfold st4 at X8 hS8
          apply rg_pure 4 rfl (by kernel_rfl) (fun _ _ _ h => h) rfl
          · (intro W; go_simp; try rfl)
          · (go_simp; try rfl)
          refine rg_done (by kernel_rfl) ?_
          clear hS8 hS7 X7 R7 Y7
          go_wp2
          go_roundw
          case rel => exact ⟨k + 1, by omega, by go_num, Lib.hid ⟨_, _, _, _, _, _, _, rfl, hcg.out.1, hcg.out.2, hI'.out, X8.out⟩⟩
          case measure => simp [intOf]; omega
        · have hW := Lib.hid (hI.out.read ham haL)
          have hI' := Lib.hid hI.out.req
          have hbl := Lib.hid (show now[a].length ≤ 1000000000 from (hI.out.flush).elim fun d' h => h.2.small _ (List.getElem_mem haL))
          generalize reqD D = D' at *
          go_wp2_with fail
          clear c1 l1 x1 x2 x3 x4 haw hkd
          refine (tread_any _ D a wr _ X.out.var.rv X.out.var.ok hd1 hd2).mono ?_
          rw [hW.out]
          dsimp only
          rintro q w4 ⟨r4, s4, rfl, hr4, hs4, hB4⟩
          obtain ⟨Ac4, nc4, Ak4, nk4, rfl⟩ := dis_form hr4
          obtain ⟨As4, ns4, rfl⟩ := SlR.form hs4
          have hal := (Below.refl w4.heap.size w4).alloc (Nat.le_refl _) (.cells #[.slice Ac4 D'.cells.length nc4, .slice Ak4 D'.cache.length nk4, .int .i64 D'.reqs, .int .i64 D'.left] 27)
          have X4 := Lib.hid (X.out.up (belowUp hB4 hal))
          have R4 := Lib.hid (hr4.below hal)
          have Y4 := Lib.hid (Blk.new w4 27 #[.slice Ac4 D'.cells.length nc4, .slice Ak4 D'.cache.length nk4, .int .i64 D'.reqs, .int .i64 D'.left])
          have hnb := Lib.hid (Nat.ne_of_gt (Nat.lt_of_lt_of_le X.out.var.blk.lt hB4.size))
          have V4 := Lib.hid (SlR.mono hs4 (Keep.below hal))
          clear hr4 hs4 hB4 hal X Z1
          obtain ⟨A8, C8, x8, z8⟩ := X4.out.now.at_ haL
          have Z8 := Lib.hid z8
          clear z8
          go_wp2_with fail
          clear x8
          generalize w4.alloc (.cells #[.slice Ac4 D'.cells.length nc4, .slice Ak4 D'.cache.length nk4, .int .i64 D'.reqs, .int .i64 D'.left] 27) = w5 at *
          generalize w4.heap.size = b12 at *
          refine (bytes_any _ _ now[a] now[a] _ _ _ V4.out Z8.out hbl.out).mono ?_
          rw [show decide (now[a] = now[a]) = true by simp]
          rintro q w6 ⟨rfl, hB6⟩
          have X6 := Lib.hid (X4.out.up hB6)
          have R6 := Lib.hid (R4.out.below hB6)
          have Y6 := Lib.hid (Y4.out.below hB6)
          clear hB6 X4 R4 Y4 V4 Z8
          obtain ⟨c6, f6, l6⟩ := X6.out.var.blk.all
          obtain ⟨y6, y7, y8⟩ := Y6.out.all
          have X7 := Lib.hid (X6.out.setD R6.out)
          unfold st4 at X7
          clear X6 R6
          go_wp2
          clear c6 f6 l6 y6 y7 y8
          go_roundw
          case rel => exact ⟨k + 1, by omega, by go_num, Lib.hid ⟨_, _, _, _, _, _, _, rfl, hcg.out.1, hcg.out.2, hI'.out, X7.out⟩⟩
          case measure => simp [intOf]; omega
        · by_cases hp : l[k].keep.tmod 2 = 0
          · have hpar : (l[k].keep.tmod 2 != 0) = false := by simp [hp]
            clear hp
            obtain ⟨D', hW, hE, hI'⟩ := hI.out.crash0
            obtain ⟨xc, xk, xr, xl⟩ := D'
            subst hE
            generalize hD' : (⟨xc, [], xr, xl⟩ : Dis) = D' at hW hI'
            replace hW := Lib.hid hW
            replace hI' := Lib.hid hI'
            go_wp2_with fail
            clear c1 l1 x1 x2 x3 x4 haw hkd hpar
            refine (tcrash_any _ D 0 wr _ X.out.var.rv X.out.var.ok hd1 hd2 (by omega)).mono ?_
            rw [hW.out]
            dsimp only
            rintro q w4 ⟨r4, rfl, hr4, hB4⟩
            obtain ⟨Ac4, nc4, Ak4, nk4, rfl⟩ := dis_form hr4
            have hal := (Below.refl w4.heap.size w4).alloc (Nat.le_refl _) (.cells #[.slice Ac4 D'.cells.length nc4, .slice Ak4 D'.cache.length nk4, .int .i64 D'.reqs, .int .i64 D'.left] 27)
            have X4 := Lib.hid (X.out.up (belowUp hB4 hal))
            have R4 := Lib.hid (hr4.below hal)
            have Y4 := Lib.hid (Blk.new w4 27 #[.slice Ac4 D'.cells.length nc4, .slice Ak4 D'.cache.length nk4, .int .i64 D'.reqs, .int .i64 D'.left])
            have hnb := Lib.hid (Nat.ne_of_gt (Nat.lt_of_lt_of_le X.out.var.blk.lt hB4.size))
            clear hr4 hB4 hal X Z1
            have hck : D'.cache.length = 0 := by rw [← hD']; rfl
            replace hck := Lib.hid hck
            clear hD'
            have hc0 : ¬ (0 : Int) < (D'.cache.length : Int) := by rw [hck.out]; decide
            have hc0' : ¬ 0 < D'.cache.length := by rw [hck.out]; decide
            go_wp2_with fail
            clear hc0 hc0'
            generalize w4.alloc (.cells #[.slice Ac4 D'.cells.length nc4, .slice Ak4 D'.cache.length nk4, .int .i64 D'.reqs, .int .i64 D'.left] 27) = w5 at *
            generalize w4.heap.size = b12 at *
            refine (trows2_any _ sure w5 _ _ X4.out.sure X4.out.var.ok (by rw [hI.out.lens.1]; omega) hI.out.small).mono ?_
            rintro q w6 ⟨r6, rfl, hr6, hB6⟩
            obtain ⟨g', cg', rfl, hg1, hg2, hK, hX⟩ := X4.out.newNow hB6 (by have := hI.out.lens.1; intro e; rw [e] at this; simp at this; omega) hr6
            have X6 := Lib.hid hX
            have R6 := Lib.hid (R4.out.mono hK)
            have Y6 := Lib.hid (Y4.out.below hB6)
            replace hg1 := Lib.hid hg1
            replace hg2 := Lib.hid hg2
            have hlen := Lib.hid hI.out.lens.1
            clear hB6 hK hX hr6 X4 R4 Y4 hI
            obtain ⟨c6, f6, l6⟩ := X6.out.var.blk.all
            obtain ⟨y6, y7, y8⟩ := Y6.out.all
            have X7 := Lib.hid (X6.out.setD R6.out)
            unfold st4 at X7
            clear X6 R6
            go_wp2
            clear c6 f6 l6 y6 y7 y8
            go_roundw
            case rel => exact ⟨k + 1, by omega, by go_num, Lib.hid ⟨_, _, _, _, _, _, _, by rw [hlen.out], by rw [← hlen.out]; exact hg1.out, hg2.out, hI'.out, X7.out⟩⟩
            case measure => simp [intOf]; omega
          · have hpar : (l[k].keep.tmod 2 != 0) = true := by simpa using hp
            clear hp
            obtain ⟨D', hW, hE, hI'⟩ := hI.out.crashA
            obtain ⟨xc, xk, xr, xl⟩ := D'
            subst hE
            generalize hD' : (⟨xc, [], xr, xl⟩ : Dis) = D' at hW hI'
            replace hW := Lib.hid hW
            replace hI' := Lib.hid hI'
            go_wp2_with fail
            clear c1 l1 x1 x2 x3 x4 haw hkd hpar
            refine (tcrash_any _ D 2147483647 wr _ X.out.var.rv X.out.var.ok hd1 hd2 (by omega)).mono ?_
            rw [hW.out]
            dsimp only
            rintro q w4 ⟨r4, rfl, hr4, hB4⟩
            obtain ⟨Ac4, nc4, Ak4, nk4, rfl⟩ := dis_form hr4
            have hal := (Below.refl w4.heap.size w4).alloc (Nat.le_refl _) (.cells #[.slice Ac4 D'.cells.length nc4, .slice Ak4 D'.cache.length nk4, .int .i64 D'.reqs, .int .i64 D'.left] 27)
            have X4 := Lib.hid (X.out.up (belowUp hB4 hal))
            have R4 := Lib.hid (hr4.below hal)
            have Y4 := Lib.hid (Blk.new w4 27 #[.slice Ac4 D'.cells.length nc4, .slice Ak4 D'.cache.length nk4, .int .i64 D'.reqs, .int .i64 D'.left])
            have hnb := Lib.hid (Nat.ne_of_gt (Nat.lt_of_lt_of_le X.out.var.blk.lt hB4.size))
            clear hr4 hB4 hal X Z1
            have hck : D'.cache.length = 0 := by rw [← hD']; rfl
            replace hck := Lib.hid hck
            clear hD'
            have hc0 : ¬ (0 : Int) < (D'.cache.length : Int) := by rw [hck.out]; decide
            have hc0' : ¬ 0 < D'.cache.length := by rw [hck.out]; decide
            go_wp2_with fail
            clear hc0 hc0'
            generalize w4.alloc (.cells #[.slice Ac4 D'.cells.length nc4, .slice Ak4 D'.cache.length nk4, .int .i64 D'.reqs, .int .i64 D'.left] 27) = w5 at *
            generalize w4.heap.size = b12 at *
            have hsl := Lib.hid (show SlR w5 noM (.slice (some ⟨g, 0, none⟩) m cg) now by have := X4.out.now.sl (by rw [hI.out.lens.2]; exact hcg.out.1) hcg.out.2; rwa [hI.out.lens.2] at this)
            refine (trows2_any _ now w5 _ _ hsl.out X4.out.var.ok (by rw [hI.out.lens.2]; omega) hI'.out.small).mono ?_
            rintro q w6 ⟨r6, rfl, hr6, hB6⟩
            have X6 := Lib.hid (X4.out.newSure hB6 (hr6.sl X4.out.var.ok.new))
            have R6 := Lib.hid (R4.out.below hB6)
            have Y6 := Lib.hid (Y4.out.below hB6)
            clear hB6 hr6 hsl X4 R4 Y4 hI
            obtain ⟨c6, f6, l6⟩ := X6.out.var.blk.all
            obtain ⟨y6, y7, y8⟩ := Y6.out.all
            have X7 := Lib.hid (X6.out.setD R6.out)
            unfold st4 at X7
            clear X6 R6
            go_wp2
            clear c6 f6 l6 y6 y7 y8
            go_roundw
            case rel => exact ⟨k + 1, by omega, by go_num, Lib.hid ⟨_, _, _, _, _, _, _, rfl, hcg.out.1, hcg.out.2, hI'.out, X7.out⟩⟩
            case measure => simp [intOf]; omega
      · obtain rfl : k = l.length := by omega
        go_wp2_with fail
        refine (wakes_any _).mono ?_
        rintro q w9 ⟨rfl, hB9⟩
        go_wp2
        go_ret
        exact ⟨rfl, belowUp X.out.low hB9⟩
  · go_simp
    refine hK _ _ ⟨fun _ => trivial, ?_⟩; clear hK K
    refine rg_only 1 (by kernel_rfl) rfl (fun K hK => ?_)
    go_simp
    refine hK _ _ ⟨fun _ => trivial, ?_⟩; clear hK K
    apply rg_pure 4 rfl (by kernel_rfl) (fun _ _ _ h => h) rfl
    · (intro W; go_simp; try rfl)
    · (go_simp; try rfl)
    apply rg_pure 5 rfl (by kernel_rfl) (fun _ _ _ h => h) rfl
    · (intro W; go_simp; try rfl)
    · (go_simp; try rfl)
    refine rg_done (by kernel_rfl) ?_
    have J := Lib.hid (CS.start (m := m) (by omega) R1.out Y2.out B2.out hge.out BB.out (Nat.le_refl _) HL1.out (g := wd.heap.size) (wd.heap.size + 1) (.inr ⟨rfl, rfl⟩))
    clear R1 Y2 B2 HL1 BB hge hmk
    generalize ((wd.alloc (.cells (madeCells #[.slice none 0 0] m) 32)).alloc (.cells (madeCells #[.slice none 0 0] m) 32)) = w3 at *
    go_wp2_with fail
    generalize wd.heap.size + 1 = s0 at *
    generalize wd.heap.size = g0 at *
    generalize w1.heap.size = bd at *
    go_loopw [7, 8, 9] (fun s o i wr => ∃ k : Nat, k ≤ l.length ∧ i = .int .i64 k ∧ Hid (∃ D sure now c' k' g cg, o = .slice (some ⟨g, 0, none⟩) m cg ∧ m ≤ cg ∧ cg ≤ maxLen ∧ CInv m k D sure now ∧ CS w wr bd g c' k' D sure now s (.slice al l.length cl) l)) (fun _ _ i _ => l.length - (intOf i).toNat)
    case atStart => exact ⟨0, Nat.zero_le _, rfl, Lib.hid ⟨_, _, _, _, _, _, _, rfl, Nat.le_refl _, by simp [maxLen]; omega, HI.out, J.out⟩⟩
    case round =>
      clear HI J
      obtain ⟨k, hk, rfl, HS⟩ := hrel
      obtain ⟨D, sure, now, vc, vk, g, cg, rfl, hcg1, hcg2, hI, hS⟩ := HS.out
      clear HS
      replace hI := Lib.hid hI
      have X := Lib.hid hS
      have hcg := Lib.hid (And.intro hcg1 hcg2)
      obtain ⟨aS, cS, rfl⟩ := hS.sure.form
      clear hS hcg1 hcg2
      obtain ⟨Ac, nc, Ak, nk, hag⟩ := dis_form X.out.var.rv
      simp only [Value.agg.injEq, Array.mk.injEq, List.cons.injEq, and_true] at hag
      obtain ⟨rfl, rfl⟩ := hag
      by_cases hlt : k < l.length
      · obtain ⟨b1, o1, A1, C1, rfl, -, x1, x2, x3, x4, z1⟩ := act_at X.out.acts hlt
        have Z1 := Lib.hid z1
        clear z1
        obtain ⟨a, haw, ham⟩ := umodw (z := IntKind.u64.wrap l[k].addr) (by rw [IntKind.wrap_u64]; omega) hm1 (by omega)
        by_cases h1 : l[k].bytes.length ≤ 100
        case neg =>
          have h1' : (100 : Int) < l[k].bytes.length := by omega
          go_wp2
          go_ret
          exact ⟨rfl, X.out.low⟩
        have h1' : ¬ (100 : Int) < l[k].bytes.length := by omega
        have haL : a < now.length := by rw [hI.out.lens.2]; exact ham
        have ham' : (a : Int) < m := by omega
        have hsm := Lib.hid hI.out.ok.sm
        have hd1 : D.cells.length ≤ 1000000000 := hsm.out.1
        have hd2 : D.cache.length ≤ 1000000000 := hsm.out.2.1
        obtain ⟨c1, -, l1⟩ := X.out.var.blk.all
        rcases ukind l[k].kind with hkd | hkd | hkd | hkd
        · obtain ⟨D', hW, hI'⟩ := hI.out.write ham (b := l[k].bytes) (by omega) (by omega)
          replace hW := Lib.hid hW
          replace hI' := Lib.hid hI'
          go_wp2_with fail
          clear c1 l1 x1 x2 x3 x4 haw hkd
          refine (twrite_any _ _ D a l[k].bytes wr _ X.out.var.rv Z1.out X.out.var.ok hd1 hd2 (by omega)).mono ?_
          rw [hW.out]
          dsimp only
          rintro q w4 ⟨r4, rfl, hr4, hB4⟩
          obtain ⟨Ac4, nc4, Ak4, nk4, rfl⟩ := dis_form hr4
          have hal := (Below.refl w4.heap.size w4).alloc (Nat.le_refl _) (.cells #[.slice Ac4 D'.cells.length nc4, .slice Ak4 D'.cache.length nk4, .int .i64 D'.reqs, .int .i64 D'.left] 27)
          have X4 := Lib.hid (X.out.up (belowUp hB4 hal))
          have R4 := Lib.hid (hr4.below hal)
          have Y4 := Lib.hid (Blk.new w4 27 #[.slice Ac4 D'.cells.length nc4, .slice Ak4 D'.cache.length nk4, .int .i64 D'.reqs, .int .i64 D'.left])
          have hnb := Lib.hid (Nat.ne_of_gt (Nat.lt_of_lt_of_le X.out.var.blk.lt hB4.size))
          have Z4 := Lib.hid (Z1.out.mono (Keep.below (belowUp hB4 hal)))
          clear hr4 hB4 hal X Z1 hI
          go_wp2_with fail
          generalize w4.alloc (.cells #[.slice Ac4 D'.cells.length nc4, .slice Ak4 D'.cache.length nk4, .int .i64 D'.reqs, .int .i64 D'.left] 27) = w5 at *
          generalize w4.heap.size = b12 at *
          have X5 := Lib.hid (X4.out.up (below_drew w5))
          have R5 := Lib.hid (R4.out.below (below_drew w5))
          have Y5 := Lib.hid Y4.out.drew
          have hS := Lib.hid (show ∀ i, w5.drew.cell? ⟨b12, i, none⟩ = #[Value.slice Ac4 D'.cells.length nc4, .slice Ak4 D'.cache.length nk4, .int .i64 D'.reqs, .int .i64 D'.left][i]? from Y5.out.cell)
          have Z5 := Lib.hid (Z4.out.mono (Keep.below (below_drew w5)))
          clear X4 R4 Y4 Z4
          refine rg_enter [0, 1, 2, 3, 6] (fun w' => ∀ i, w'.cell? ⟨b12, i, none⟩ = #[Value.slice Ac4 D'.cells.length nc4, .slice Ak4 D'.cache.length nk4, .int .i64 D'.reqs, .int .i64 D'.left][i]?) (by kernel_rfl) ?_
          generalize w5.drew = w6 at *
          apply rg_take 0 rfl (by kernel_rfl) (fun _ _ _ h => h) (hS.out) rfl
          · (rintro W hW; go_simp; try rfl)
          · (go_simp; try rfl)
          apply rg_take 1 rfl (by kernel_rfl) (fun _ _ _ h => h) (hS.out) rfl
          · (rintro W hW; go_simp; try rfl)
          · (go_simp; try rfl)
          apply rg_take 2 rfl (by kernel_rfl) (fun _ _ _ h => h) (hS.out) rfl
          · (rintro W hW; go_simp; try rfl)
          · (go_simp; try rfl)
          apply rg_take 3 rfl (by kernel_rfl) (fun _ _ _ h => h) (hS.out) rfl
          · (rintro W hW; go_simp; try rfl)
          · (go_simp; try rfl)
          refine rg_only 4 (by kernel_rfl) rfl (fun K hK => ?_)
          go_simp
          refine (twin2_any _ l[k].bytes w6 _ _ Z5.out X5.out.var.ok (by omega)).mono ?_
          rintro q w7 ⟨r7, rfl, hr7, hB7⟩
          obtain ⟨A7, C7, rfl⟩ := hr7.form
          have X7 := Lib.hid (X5.out.up hB7)
          have R7 := Lib.hid (R5.out.below hB7)
          have Y7 := Lib.hid (Y5.out.below hB7)
          have V7 := Lib.hid hr7
          have hS7 := Lib.hid (show ∀ i, w7.cell? ⟨b12, i, none⟩ = #[Value.slice Ac4 D'.cells.length nc4, .slice Ak4 D'.cache.length nk4, .int .i64 D'.reqs, .int .i64 D'.left][i]? from Y7.out.cell)
          clear hr7 hB7 X5 R5 Y5 Z5 hS
          refine hK _ _ ⟨fun _ => hS7.out, ?_⟩; clear hK K
          obtain ⟨c7, f7, l7⟩ := X7.out.var.blk.all
          have X8 := Lib.hid (X7.out.setD R7.out)
          have V8 := Lib.hid (V7.out.mono (X7.out.var.set R7.out).2)
          have hS8 := Lib.hid (show ∀ i, (st4 w7 bd (.slice Ac4 D'.cells.length nc4) (.slice Ak4 D'.cache.length nk4) (.int .i64 D'.reqs) (.int .i64 D'.left)).cell? ⟨b12, i, none⟩ = #[Value.slice Ac4 D'.cells.length nc4, .slice Ak4 D'.cache.length nk4, .int .i64 D'.reqs, .int .i64 D'.left][i]? from ((Y7.out).grown (st4_grown w7 bd (.slice Ac4 D'.cells.length nc4) (.slice Ak4 D'.cache.length nk4) (.int .i64 D'.reqs) (.int .i64 D'.left)) (by simpa using hnb.out)).cell)
          refine rg_only 5 (by kernel_rfl) rfl (fun K hK => ?_)
          go_simp
          clear c7 f7 l7
          refine hK _ _ ⟨fun _ => hS8.out, ?_⟩; clear hK K
          unfold st4 at X8 V8 hS8
          apply rg_take 6 rfl (by kernel_rfl) (fun _ _ _ h => h) (hS8.out) rfl
          · (rintro W hW; go_simp; try rfl)
          · (go_simp; try rfl)
          obtain ⟨A8, C8, x8, -⟩ := X8.out.now.at_ haL
          obtain ⟨f8, l8⟩ := X8.out.now.fro
          replace f8 := f8 a
          refine rg_free 7 (by kernel_rfl) (by kernel_rfl) rfl (fun K hK => ?_)
          go_simp
          refine hK _ _ ?_; clear hK K
          refine rg_done (by kernel_rfl) ?_
          clear x8 f8 l8 hS8 hS7 X7 R7 Y7 V7
          have X9 := Lib.hid (X8.out.setW haL V8.out)
          clear X8 V8
          go_wp2
          go_roundw
          case rel => exact ⟨k + 1, by omega, by go_num, Lib.hid ⟨_, _, _, _, _, _, _, rfl, hcg.out.1, hcg.out.2, hI'.out, X9.out⟩⟩
          case measure => simp [intOf]; omega
        · obtain ⟨D', hW, hI'⟩ := hI.out.flush
          replace hW := Lib.hid hW
          replace hI' := Lib.hid hI'
          go_wp2_with fail
          clear c1 l1 x1 x2 x3 x4 haw hkd
          refine (tflush_any _ D wr _ X.out.var.rv X.out.var.ok hd1 hd2).mono ?_
          rw [hW.out]
          dsimp only
          rintro q w4 ⟨r4, rfl, hr4, hB4⟩
          obtain ⟨Ac4, nc4, Ak4, nk4, rfl⟩ := dis_form hr4
          have hal := (Below.refl w4.heap.size w4).alloc (Nat.le_refl _) (.cells #[.slice Ac4 D'.cells.length nc4, .slice Ak4 D'.cache.length nk4, .int .i64 D'.reqs, .int .i64 D'.left] 27)
          have X4 := Lib.hid (X.out.up (belowUp hB4 hal))
          have R4 := Lib.hid (hr4.below hal)
          have Y4 := Lib.hid (Blk.new w4 27 #[.slice Ac4 D'.cells.length nc4, .slice Ak4 D'.cache.length nk4, .int .i64 D'.reqs, .int .i64 D'.left])
          have hnb := Lib.hid (Nat.ne_of_gt (Nat.lt_of_lt_of_le X.out.var.blk.lt hB4.size))
          clear hr4 hB4 hal X Z1
          go_wp2_with fail
          generalize w4.alloc (.cells #[.slice Ac4 D'.cells.length nc4, .slice Ak4 D'.cache.length nk4, .int .i64 D'.reqs, .int .i64 D'.left] 27) = w5 at *
          generalize w4.heap.size = b12 at *
          have X5 := Lib.hid (X4.out.up (below_drew w5))
          have R5 := Lib.hid (R4.out.below (below_drew w5))
          have Y5 := Lib.hid Y4.out.drew
          have hS := Lib.hid (show ∀ i, w5.drew.cell? ⟨b12, i, none⟩ = #[Value.slice Ac4 D'.cells.length nc4, .slice Ak4 D'.cache.length nk4, .int .i64 D'.reqs, .int .i64 D'.left][i]? from Y5.out.cell)
          clear X4 R4 Y4
          refine rg_enter [0, 1] (fun w' => ∀ i, w'.cell? ⟨b12, i, none⟩ = #[Value.slice Ac4 D'.cells.length nc4, .slice Ak4 D'.cache.length nk4, .int .i64 D'.reqs, .int .i64 D'.left][i]?) (by kernel_rfl) ?_
          generalize w5.drew = w6 at *
          apply rg_take 0 rfl (by kernel_rfl) (fun _ _ _ h => h) (hS.out) rfl
          · (rintro W hW; go_simp; try rfl)
          · (go_simp; try rfl)
          apply rg_take 1 rfl (by kernel_rfl) (fun _ _ _ h => h) (hS.out) rfl
          · (rintro W hW; go_simp; try rfl)
          · (go_simp; try rfl)
          refine rg_only 2 (by kernel_rfl) rfl (fun K hK => ?_)
          go_simp
          have hsl := Lib.hid (show SlR w6 noM (.slice (some ⟨g, 0, none⟩) m cg) now by have := X5.out.now.sl (by rw [hI.out.lens.2]; exact hcg.out.1) hcg.out.2; rwa [hI.out.lens.2] at this)
          refine (trows2_any _ now w6 _ _ hsl.out X5.out.var.ok (by rw [hI.out.lens.2]; omega) hI'.out.small).mono ?_
          rintro q w7 ⟨r7, rfl, hr7, hB7⟩
          have X7 := Lib.hid (X5.out.newSure hB7 (hr7.sl X5.out.var.ok.new))
          have R7 := Lib.hid (R5.out.below hB7)
          have Y7 := Lib.hid (Y5.out.below hB7)
          have hS7 := Lib.hid (show ∀ i, w7.cell? ⟨b12, i, none⟩ = #[Value.slice Ac4 D'.cells.length nc4, .slice Ak4 D'.cache.length nk4, .int .i64 D'.reqs, .int .i64 D'.left][i]? from Y7.out.cell)
          clear hr7 hB7 X5 R5 Y5 hS hsl hI
          refine hK _ _ ⟨fun _ => hS7.out, ?_⟩; clear hK K
          obtain ⟨c7, f7, l7⟩ := X7.out.var.blk.all
          have X8 := Lib.hid (X7.out.setD R7.out)
          have hS8 := Lib.hid (show ∀ i, (st4 w7 bd (.slice Ac4 D'.cells.length nc4) (.slice Ak4 D'.cache.length nk4) (.int .i64 D'.reqs) (.int .i64 D'.left)).cell? ⟨b12, i, none⟩ = #[Value.slice Ac4 D'.cells.length nc4, .slice Ak4 D'.cache.length nk4, .int .i64 D'.reqs, .int .i64 D'.left][i]? from ((Y7.out).grown (st4_grown w7 bd (.slice Ac4 D'.cells.length nc4) (.slice Ak4 D'.cache.length nk4) (.int .i64 D'.reqs) (.int .i64 D'.left)) (by simpa using hnb.out)).cell)
          refine rg_only 3 (by kernel_rfl) rfl (fun K hK => ?_)
          go_simp
          clear c7 f7 l7
          refine hK _ _ ⟨fun _ => hS8.out, ?_⟩; clear hK K
          unfold st4 at X8 hS8
          apply rg_pure 4 rfl (by kernel_rfl) (fun _ _ _ h => h) rfl
          · (intro W; go_simp; try rfl)
          · (go_simp; try rfl)
          refine rg_done (by kernel_rfl) ?_
          clear hS8 hS7 X7 R7 Y7
          go_wp2
          go_roundw
          case rel => exact ⟨k + 1, by omega, by go_num, Lib.hid ⟨_, _, _, _, _, _, _, rfl, hcg.out.1, hcg.out.2, hI'.out, X8.out⟩⟩
          case measure => simp [intOf]; omega
        · have hW := Lib.hid (hI.out.read ham haL)
          have hI' := Lib.hid hI.out.req
          have hbl := Lib.hid (show now[a].length ≤ 1000000000 from (hI.out.flush).elim fun d' h => h.2.small _ (List.getElem_mem haL))
          generalize reqD D = D' at *
          go_wp2_with fail
          clear c1 l1 x1 x2 x3 x4 haw hkd
          refine (tread_any _ D a wr _ X.out.var.rv X.out.var.ok hd1 hd2).mono ?_
          rw [hW.out]
          dsimp only
          rintro q w4 ⟨r4, s4, rfl, hr4, hs4, hB4⟩
          obtain ⟨Ac4, nc4, Ak4, nk4, rfl⟩ := dis_form hr4
          obtain ⟨As4, ns4, rfl⟩ := SlR.form hs4
          have hal := (Below.refl w4.heap.size w4).alloc (Nat.le_refl _) (.cells #[.slice Ac4 D'.cells.length nc4, .slice Ak4 D'.cache.length nk4, .int .i64 D'.reqs, .int .i64 D'.left] 27)
          have X4 := Lib.hid (X.out.up (belowUp hB4 hal))
          have R4 := Lib.hid (hr4.below hal)
          have Y4 := Lib.hid (Blk.new w4 27 #[.slice Ac4 D'.cells.length nc4, .slice Ak4 D'.cache.length nk4, .int .i64 D'.reqs, .int .i64 D'.left])
          have hnb := Lib.hid (Nat.ne_of_gt (Nat.lt_of_lt_of_le X.out.var.blk.lt hB4.size))
          have V4 := Lib.hid (SlR.mono hs4 (Keep.below hal))
          clear hr4 hs4 hB4 hal X Z1
          obtain ⟨A8, C8, x8, z8⟩ := X4.out.now.at_ haL
          have Z8 := Lib.hid z8
          clear z8
          go_wp2_with fail
          clear x8
          generalize w4.alloc (.cells #[.slice Ac4 D'.cells.length nc4, .slice Ak4 D'.cache.length nk4, .int .i64 D'.reqs, .int .i64 D'.left] 27) = w5 at *
          generalize w4.heap.size = b12 at *
          refine (bytes_any _ _ now[a] now[a] _ _ _ V4.out Z8.out hbl.out).mono ?_
          rw [show decide (now[a] = now[a]) = true by simp]
          rintro q w6 ⟨rfl, hB6⟩
          have X6 := Lib.hid (X4.out.up hB6)
          have R6 := Lib.hid (R4.out.below hB6)
          have Y6 := Lib.hid (Y4.out.below hB6)
          clear hB6 X4 R4 Y4 V4 Z8
          obtain ⟨c6, f6, l6⟩ := X6.out.var.blk.all
          obtain ⟨y6, y7, y8⟩ := Y6.out.all
          have X7 := Lib.hid (X6.out.setD R6.out)
          unfold st4 at X7
          clear X6 R6
          go_wp2
          clear c6 f6 l6 y6 y7 y8
          go_roundw
          case rel => exact ⟨k + 1, by omega, by go_num, Lib.hid ⟨_, _, _, _, _, _, _, rfl, hcg.out.1, hcg.out.2, hI'.out, X7.out⟩⟩
          case measure => simp [intOf]; omega
        · by_cases hp : l[k].keep.tmod 2 = 0
          · have hpar : (l[k].keep.tmod 2 != 0) = false := by simp [hp]
            clear hp
            obtain ⟨D', hW, hE, hI'⟩ := hI.out.crash0
            obtain ⟨xc, xk, xr, xl⟩ := D'
            subst hE
            generalize hD' : (⟨xc, [], xr, xl⟩ : Dis) = D' at hW hI'
            replace hW := Lib.hid hW
            replace hI' := Lib.hid hI'
            go_wp2_with fail
            clear c1 l1 x1 x2 x3 x4 haw hkd hpar
            refine (tcrash_any _ D 0 wr _ X.out.var.rv X.out.var.ok hd1 hd2 (by omega)).mono ?_
            rw [hW.out]
            dsimp only
            rintro q w4 ⟨r4, rfl, hr4, hB4⟩
            obtain ⟨Ac4, nc4, Ak4, nk4, rfl⟩ := dis_form hr4
            have hal := (Below.refl w4.heap.size w4).alloc (Nat.le_refl _) (.cells #[.slice Ac4 D'.cells.length nc4, .slice Ak4 D'.cache.length nk4, .int .i64 D'.reqs, .int .i64 D'.left] 27)
            have X4 := Lib.hid (X.out.up (belowUp hB4 hal))
            have R4 := Lib.hid (hr4.below hal)
            have Y4 := Lib.hid (Blk.new w4 27 #[.slice Ac4 D'.cells.length nc4, .slice Ak4 D'.cache.length nk4, .int .i64 D'.reqs, .int .i64 D'.left])
            have hnb := Lib.hid (Nat.ne_of_gt (Nat.lt_of_lt_of_le X.out.var.blk.lt hB4.size))
            clear hr4 hB4 hal X Z1
            have hck : D'.cache.length = 0 := by rw [← hD']; rfl
            replace hck := Lib.hid hck
            clear hD'
            have hc0 : ¬ (0 : Int) < (D'.cache.length : Int) := by rw [hck.out]; decide
            have hc0' : ¬ 0 < D'.cache.length := by rw [hck.out]; decide
            go_wp2_with fail
            clear hc0 hc0'
            generalize w4.alloc (.cells #[.slice Ac4 D'.cells.length nc4, .slice Ak4 D'.cache.length nk4, .int .i64 D'.reqs, .int .i64 D'.left] 27) = w5 at *
            generalize w4.heap.size = b12 at *
            refine (trows2_any _ sure w5 _ _ X4.out.sure X4.out.var.ok (by rw [hI.out.lens.1]; omega) hI.out.small).mono ?_
            rintro q w6 ⟨r6, rfl, hr6, hB6⟩
            obtain ⟨g', cg', rfl, hg1, hg2, hK, hX⟩ := X4.out.newNow hB6 (by have := hI.out.lens.1; intro e; rw [e] at this; simp at this; omega) hr6
            have X6 := Lib.hid hX
            have R6 := Lib.hid (R4.out.mono hK)
            have Y6 := Lib.hid (Y4.out.below hB6)
            replace hg1 := Lib.hid hg1
            replace hg2 := Lib.hid hg2
            have hlen := Lib.hid hI.out.lens.1
            clear hB6 hK hX hr6 X4 R4 Y4 hI
            obtain ⟨c6, f6, l6⟩ := X6.out.var.blk.all
            obtain ⟨y6, y7, y8⟩ := Y6.out.all
            have X7 := Lib.hid (X6.out.setD R6.out)
            unfold st4 at X7
            clear X6 R6
            go_wp2
            clear c6 f6 l6 y6 y7 y8
            go_roundw
            case rel => exact ⟨k + 1, by omega, by go_num, Lib.hid ⟨_, _, _, _, _, _, _, by rw [hlen.out], by rw [← hlen.out]; exact hg1.out, hg2.out, hI'.out, X7.out⟩⟩
            case measure => simp [intOf]; omega
          · have hpar : (l[k].keep.tmod 2 != 0) = true := by simpa using hp
            clear hp
            obtain ⟨D', hW, hE, hI'⟩ := hI.out.crashA
            obtain ⟨xc, xk, xr, xl⟩ := D'
            subst hE
            generalize hD' : (⟨xc, [], xr, xl⟩ : Dis) = D' at hW hI'
            replace hW := Lib.hid hW
            replace hI' := Lib.hid hI'
            go_wp2_with fail
            clear c1 l1 x1 x2 x3 x4 haw hkd hpar
            refine (tcrash_any _ D 2147483647 wr _ X.out.var.rv X.out.var.ok hd1 hd2 (by omega)).mono ?_
            rw [hW.out]
            dsimp only
            rintro q w4 ⟨r4, rfl, hr4, hB4⟩
            obtain ⟨Ac4, nc4, Ak4, nk4, rfl⟩ := dis_form hr4
            have hal := (Below.refl w4.heap.size w4).alloc (Nat.le_refl _) (.cells #[.slice Ac4 D'.cells.length nc4, .slice Ak4 D'.cache.length nk4, .int .i64 D'.reqs, .int .i64 D'.left] 27)
            have X4 := Lib.hid (X.out.up (belowUp hB4 hal))
            have R4 := Lib.hid (hr4.below hal)
            have Y4 := Lib.hid (Blk.new w4 27 #[.slice Ac4 D'.cells.length nc4, .slice Ak4 D'.cache.length nk4, .int .i64 D'.reqs, .int .i64 D'.left])
            have hnb := Lib.hid (Nat.ne_of_gt (Nat.lt_of_lt_of_le X.out.var.blk.lt hB4.size))
            clear hr4 hB4 hal X Z1
            have hck : D'.cache.length = 0 := by rw [← hD']; rfl
            replace hck := Lib.hid hck
            clear hD'
            have hc0 : ¬ (0 : Int) < (D'.cache.length : Int) := by rw [hck.out]; decide
            have hc0' : ¬ 0 < D'.cache.length := by rw [hck.out]; decide
            go_wp2_with fail
            clear hc0 hc0'
            generalize w4.alloc (.cells #[.slice Ac4 D'.cells.length nc4, .slice Ak4 D'.cache.length nk4, .int .i64 D'.reqs, .int .i64 D'.left] 27) = w5 at *
            generalize w4.heap.size = b12 at *
            have hsl := Lib.hid (show SlR w5 noM (.slice (some ⟨g, 0, none⟩) m cg) now by have := X4.out.now.sl (by rw [hI.out.lens.2]; exact hcg.out.1) hcg.out.2; rwa [hI.out.lens.2] at this)
            refine (trows2_any _ now w5 _ _ hsl.out X4.out.var.ok (by rw [hI.out.lens.2]; omega) hI'.out.small).mono ?_
            rintro q w6 ⟨r6, rfl, hr6, hB6⟩
            have X6 := Lib.hid (X4.out.newSure hB6 (hr6.sl X4.out.var.ok.new))
            have R6 := Lib.hid (R4.out.below hB6)
            have Y6 := Lib.hid (Y4.out.below hB6)
            clear hB6 hr6 hsl X4 R4 Y4 hI
            obtain ⟨c6, f6, l6⟩ := X6.out.var.blk.all
            obtain ⟨y6, y7, y8⟩ := Y6.out.all
            have X7 := Lib.hid (X6.out.setD R6.out)
            unfold st4 at X7
            clear X6 R6
            go_wp2
            clear c6 f6 l6 y6 y7 y8
            go_roundw
            case rel => exact ⟨k + 1, by omega, by go_num, Lib.hid ⟨_, _, _, _, _, _, _, rfl, hcg.out.1, hcg.out.2, hI'.out, X7.out⟩⟩
            case measure => simp [intOf]; omega
      · obtain rfl : k = l.length := by omega
        go_wp2_with fail
        refine (wakes_any _).mono ?_
        rintro q w9 ⟨rfl, hB9⟩
        go_wp2
        go_ret
        exact ⟨rfl, belowUp X.out.low hB9⟩
end Go.Proofs.Ytkdjacmabeeceaa
