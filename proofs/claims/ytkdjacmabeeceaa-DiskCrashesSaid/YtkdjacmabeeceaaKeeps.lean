/-
The law DiskKeeps: each cell that was cut off has what was flushed, or the last writing since that was kept.
-/
import Derived.Test.YtkdjacmabeeceaaKeeps0
import Derived.Test.YtkdjacmabeeceaaKRows
import Derived.Test.YtkdjacmabeeceaaRgn2
namespace Go.Proofs.Ytkdjacmabeeceaa
open Go.RowKit
attribute [local go_sem ↓] Go.wp_at_zero Go.wp_at_succ

/-- A row of byte rows that is stored into. -/
structure WantR (w : World) (M : Ms) (g : Nat) (L : List (List UInt8)) : Prop where
  row : ∃ cs xs, Blk w g 32 cs ∧ Elems 1 (Rp.E w M) xs L ∧ ∀ (j : Nat) (u : Value), xs[j]? = some u → cs[j]? = some u
  mem : M g
section
variable {w w' : World} {M M' : Ms} {g bd a : Nat} {L : List (List UInt8)}
theorem WantR.keep (h : WantR w M g L) (hK : Keep w M w' M') (hb : w'.heap[g]? = w.heap[g]?) (hm' : M' g) : WantR w' M' g L := by
  obtain ⟨⟨cs, xs, h1, he, hx⟩, hm⟩ := h
  exact ⟨⟨cs, xs, hb.trans h1, he.mono fun _ _ _ => Rp.mono hK, hx⟩, hm'⟩
theorem WantR.lt (h : WantR w M g L) : g < w.heap.size := by obtain ⟨⟨cs, xs, h1, he, hx⟩, hm⟩ := h; exact h1.lt
theorem WantR.below (h : WantR w M g L) (hB : Below w.heap.size w w') : WantR w' M g L := h.keep (Keep.below hB) (hB.block g h.lt) h.mem
theorem WantR.grown (h : WantR w M g L) (hG : w.grownBy w' (some bd)) (hne : g ≠ bd) (hM : M bd) : WantR w' M g L :=
  h.keep (fun x hx hm' => ⟨hm', hG.block x hx (fun e => hm' (by injection e with e; rw [e]; exact hM))⟩) (hG.block g h.lt (by simpa using hne)) h.mem
theorem keep_set (hM : M g) (i : Nat) (v : Value) : Keep w M (w.setCell ⟨g, i, none⟩ v) M := fun x hx hm =>
  ⟨hm, (grownBy_set w g i v).block x hx (fun e => hm (by injection e with e; rw [e]; exact hM))⟩
theorem WantR.set (h : WantR w M g L) (ha : a < L.length) {v : Value} {b : List UInt8} (hv : SlR w M v b) : WantR (w.setCell ⟨g, a, none⟩ v) M g (L.set a b) := by
  obtain ⟨⟨cs, xs, hb, he, hx⟩, hm⟩ := h
  have hk := keep_set (w := w) hm a v
  have hl : xs.length = L.length := by have := he.length; omega
  have ha' : a < xs.length := by omega
  have hac : a < cs.size := (Array.getElem?_eq_some_iff.1 (hx a xs[a] (List.getElem?_eq_getElem ha'))).1
  refine ⟨⟨_, xs.set a v, hb.set_ a v, (he.mono fun _ _ _ => Rp.mono hk).put (cs := [v]) ha (by simp) (fun i hi => ?_) rfl (e_list.2 (hv.mono hk)) (fun j hj => ?_), fun j u hu => ?_⟩, hm⟩
  · rw [List.getElem?_set_ne (by omega)]
  · obtain rfl : j = 0 := by omega
    rw [Nat.mul_one, Nat.add_zero, List.getElem?_set_self ha']
    rfl
  · by_cases hj : j = a
    · subst hj
      rw [List.getElem?_set_self ha'] at hu
      rw [Array.getElem?_setIfInBounds_self_of_lt hac, hu]
    · rw [List.getElem?_set_ne (fun e => hj e.symm)] at hu
      rw [Array.getElem?_setIfInBounds_ne (fun e => hj e.symm)]
      exact hx j u hu
theorem WantR.at_ (h : WantR w M g L) (ha : a < L.length) : ∃ A c, w.cell? ⟨g, a, none⟩ = some (.slice A L[a].length c) ∧ SlR w M (.slice A L[a].length c) L[a] := by
  obtain ⟨⟨cs, xs, hb, he, hx⟩, hm⟩ := h
  obtain ⟨ds, hd, ⟨v, rfl, hs⟩, hj⟩ := he.get (List.getElem?_eq_getElem ha)
  obtain ⟨A, c, rfl⟩ := hs.form
  refine ⟨A, c, ?_, hs⟩
  rw [hb.cell]
  have := hj 0 (by omega)
  rw [Nat.mul_one, Nat.add_zero] at this
  exact hx _ _ this
theorem WantR.fro (h : WantR w M g L) : (∀ i, w.frozen? ⟨g, i, none⟩ = false) ∧ g < w.heap.size := by
  obtain ⟨⟨cs, xs, hb, he, hx⟩, hm⟩ := h
  exact ⟨hb.frozen, hb.lt⟩
end
theorem mkR (n : Nat) (hn : n ≤ 300) : ∀ w : World, (Instr.makeSlice 31 (.int .i64 (n : Int)) (.int .i64 (n : Int))).run Try.prog w = .ok (.slice (some ⟨w.heap.size, 0, none⟩) n n) (w.alloc (.cells (madeCells #[.slice none 0 0] n) 32)) := by
  intro w
  have hr := fun i h1 h2 h3 => run_make (P := Try.prog) w 31 32 i (.slice none 0 0) (by kernel_rfl) h1 h2 .i64 .i64 n n (by omega) (by omega) h3 (by omega)
  simp only [Int.toNat_natCast] at hr
  have hi : ∃ i, Try.prog.info? 32 = some i ∧ i.zero = some (.slice none 0 0) ∧ i.size = 1 ∧ i.bytes = 24 := by
    have h : (Try.prog.info? 32).map (fun i => (i.zero, i.size, i.bytes)) = some (some (.slice none 0 0), 1, 24) := by kernel_rfl
    cases hp : Try.prog.info? 32 with
    | none => rw [hp] at h; cases h
    | some i => rw [hp] at h; simp only [Option.map_some, Option.some.injEq, Prod.mk.injEq] at h; exact ⟨i, rfl, h.1, h.2.1, h.2.2⟩
  obtain ⟨i, h1, h2, h3, h4⟩ := hi
  have := hr i h1 h2 (by rw [h4]; omega)
  rw [h3, Nat.mul_one] at this
  exact this
theorem madeR_elems (w : World) (M : Ms) (n : Nat) : Elems 1 (Rp.E w M) (madeCells #[.slice none 0 0] n).toList (List.replicate n ([] : List UInt8)) := by
  refine Elems.of_get (by simp [madeCells]) fun i x hx => ?_
  obtain ⟨hi, rfl⟩ : i < n ∧ x = [] := by
    rw [List.getElem?_replicate] at hx
    split at hx
    · exact ⟨‹_›, by injection hx with hx; exact hx.symm⟩
    · cases hx
  refine ⟨[.slice none 0 0], rfl, ⟨_, rfl, sl_nil _ _ _ (Nat.zero_le _)⟩, fun j hj => ?_⟩
  have hlt : i * 1 + j < n := by omega
  rw [Array.getElem?_toList, madeCells, Array.getElem?_map, Array.getElem?_range, if_pos hlt, Option.map_some]
  obtain rfl : j = 0 := by omega
  simp [Nat.mod_one]

/-- What stands while DiskKeeps works. -/
structure KS (w0 w : World) (M : Ms) (bd g : Nat) (c k : Value) (D : Dis) (L : List (List UInt8)) (vr : Value) (rows : List (List UInt8)) (va : Value) (addrs : List Int) : Prop where
  var : VarD w M bd c k D
  want : WantR w M g L
  rows : SlR w M vr rows
  addrs : SlR w M va addrs
  low : Below w0.heap.size w0 w
  geb : w0.heap.size ≤ bd
  geg : w0.heap.size ≤ g
  ne : g ≠ bd
section
variable {w0 w w' : World} {M : Ms} {bd g : Nat} {c k c' k' : Value} {D D' : Dis} {L : List (List UInt8)} {vr va : Value} {rows : List (List UInt8)} {addrs : List Int}
theorem KS.up (h : KS w0 w M bd g c k D L vr rows va addrs) (hB : Below w.heap.size w w') : KS w0 w' M bd g c k D L vr rows va addrs :=
  ⟨h.var.below hB, h.want.below hB, h.rows.mono (Keep.below hB), h.addrs.mono (Keep.below hB), h.low.trans (hB.mono h.low.size), h.geb, h.geg, h.ne⟩
theorem KS.move {M' : Ms} (h : KS w0 w M bd g c k D L vr rows va addrs) (hK : Keep w M w' M') (hb : w'.heap[bd]? = w.heap[bd]?) (hg : w'.heap[g]? = w.heap[g]?) (hB : Below w0.heap.size w w') (m1 : M' bd) (m2 : M' g) (ok : MOk w' M') : KS w0 w' M' bd g c k D L vr rows va addrs :=
  ⟨⟨hb.trans h.var.blk, h.var.rv.mono hK, m1, ok⟩, h.want.keep hK hg m2, h.rows.mono hK, h.addrs.mono hK, h.low.trans hB, h.geb, h.geg, h.ne⟩
theorem KS.boxed (h : KS w0 w M bd g c k D L vr rows va addrs) (o : Obj) : KS w0 (w.alloc o) (M.and w.heap.size) bd g c k D L vr rows va addrs :=
  have hB := (Below.refl w.heap.size w).alloc (Nat.le_refl _) o
  h.move (Keep.boxed hB (Nat.le_refl _)) (hB.block bd h.var.blk.lt) (hB.block g h.want.lt) (hB.mono h.low.size) (.inl h.var.mem) (.inl h.want.mem) (h.var.ok.boxed hB.size (by simp))
theorem KS.store {b : Nat} (h : KS w0 w (M.and b) bd g c k D L vr rows va addrs) (hb : b ≠ bd) (hg : b ≠ g) (hge : w0.heap.size ≤ b) (m1 : M bd) (m2 : M g) (v0 v1 v2 v3 : Value) : KS w0 (st4 w b v0 v1 v2 v3) M bd g c k D L vr rows va addrs :=
  have hG := st4_grown w b v0 v1 v2 v3
  h.move (st4_keep w M b v0 v1 v2 v3) (hG.block bd h.var.blk.lt (by simpa using hb.symm)) (hG.block g h.want.lt (by simpa using hg.symm)) (st4_below (Below.refl _ _) hge v0 v1 v2 v3) m1 m2 (fun x hx => Nat.lt_of_lt_of_le (h.var.ok x (.inl hx)) hG.size)
theorem KS.setD (h : KS w0 w M bd g c k D L vr rows va addrs) (hr : Rv w M (.agg #[c', k', .int .i64 D'.reqs, .int .i64 D'.left]) D') :
    KS w0 (st4 w bd c' k' (.int .i64 D'.reqs) (.int .i64 D'.left)) M bd g c' k' D' L vr rows va addrs :=
  have ⟨h1, h2⟩ := h.var.set hr
  ⟨h1, h.want.grown (st4_grown _ _ _ _ _ _) h.ne h.var.mem, h.rows.mono h2, h.addrs.mono h2, st4_below h.low h.geb _ _ _ _, h.geb, h.geg, h.ne⟩
theorem KS.setW (h : KS w0 w M bd g c k D L vr rows va addrs) {a : Nat} (ha : a < L.length) {v : Value} {b : List UInt8} (hv : SlR w M v b) :
    KS w0 (w.setCell ⟨g, a, none⟩ v) M bd g c k D (L.set a b) vr rows va addrs :=
  have hk := keep_set (w := w) h.want.mem a v
  ⟨⟨h.var.blk.far (fun e => h.ne e.symm) v, h.var.rv.mono hk, h.var.mem, h.var.ok.below (by simp)⟩, h.want.set ha hv, h.rows.mono hk, h.addrs.mono hk, h.low.setCell (p := ⟨g, a, none⟩) h.geg v, h.geb, h.geg, h.ne⟩
end
theorem belowUp {w w' w'' : World} (h : Below w.heap.size w w') (hB : Below w'.heap.size w' w'') : Below w.heap.size w w'' := h.trans (hB.mono h.size)
theorem umodw {z : Int} {n : Nat} (hz : 0 ≤ z) (h1 : 1 ≤ n) (h3 : n ≤ 300) : ∃ a : Nat, wrap64 (z.tmod n) = a ∧ a < n := by
  have e1 := Int.emod_nonneg z (show (n : Int) ≠ 0 by omega)
  have e2 := Int.emod_lt_of_pos z (show 0 < (n : Int) by omega)
  refine ⟨(z % (n : Int)).toNat, ?_, by omega⟩
  rw [Int.tmod_eq_emod_of_nonneg hz]
  unfold wrap64
  omega
theorem umod8 (z : Int) : ∃ m : Nat, 1 + wrap64 ((IntKind.u64.wrap z).tmod 8) = m ∧ 1 ≤ m ∧ m ≤ 8 := by
  have h0 : 0 ≤ IntKind.u64.wrap z := by rw [IntKind.wrap_u64]; omega
  refine ⟨(1 + (IntKind.u64.wrap z) % 8).toNat, ?_, by omega, by omega⟩
  rw [Int.tmod_eq_emod_of_nonneg h0]
  unfold wrap64
  omega
set_option maxRecDepth 100000 in
set_option maxHeartbeats 16000000 in
theorem keeps_any (n0 keep : Int) (hk63 : keep < 9223372036854775808) (vr va : Value) (rows : List (List UInt8)) (addrs : List Int) (w : World) (hr : SlR w noM vr rows) (ha : SlR w noM va addrs) :
    Calls Try.prog 4 #[.int .i64 n0, vr, va, .int .i64 keep] w fun e w' => e = .returned (.bool true) ∧ Below w.heap.size w w' := by
  obtain ⟨ar, cr, rfl⟩ := hr.form
  obtain ⟨aa, ca, rfl⟩ := ha.form
  have HR := Lib.hid hr
  have HA := Lib.hid ha
  clear hr ha
  go_enter Try.func4, Try.ntmps4
  by_cases h31 : rows.length ≤ 31
  case neg =>
    have h31' : (31 : Int) < rows.length := by omega
    go_wp2
    go_ret
    exact ⟨rfl, Below.refl _ _⟩
  have h31' : ¬ (31 : Int) < rows.length := by omega
  by_cases hra : rows.length ≤ addrs.length
  case neg =>
    have hra' : (addrs.length : Int) < rows.length := by omega
    go_wp2
    go_ret
    exact ⟨rfl, Below.refl _ _⟩
  have hra' : ¬ (addrs.length : Int) < rows.length := by omega
  by_cases hk0 : 0 ≤ keep
  case neg =>
    have hk0' : keep < 0 := by omega
    go_wp2
    go_ret
    exact ⟨rfl, Below.refl _ _⟩
  have hk0' : ¬ keep < 0 := by omega
  obtain ⟨m, hm, hm1, hm8⟩ := umod8 n0
  go_wp2_with fail
  clear hm
  refine (tnew_any m w noM (noMok _)).mono ?_
  rw [newT_ok hm1 hm8]
  dsimp only
  rintro q w1 ⟨r1, rfl, hr1, hB1⟩
  have HI := Lib.hid (KInv.start keep hm1 hm8)
  generalize hd0 : (⟨List.replicate m ⟨0, [], []⟩, [], 0, -1⟩ : Dis) = d0 at *
  obtain ⟨Ac1, nc1, Ak1, nk1, rfl⟩ := dis_form hr1
  have hal := (Below.refl w1.heap.size w1).alloc (Nat.le_refl _) (.cells #[.slice Ac1 d0.cells.length nc1, .slice Ak1 d0.cache.length nk1, .int .i64 d0.reqs, .int .i64 d0.left] 27)
  have hmk := mkR m (by omega)
  have V1 := Lib.hid (VarD.new hr1 (noMok _))
  have HB := Lib.hid (hB1.trans (hal.mono hB1.size))
  have HR1 := Lib.hid ((HR.out.mono (Keep.below hB1)).mono (Keep.boxed hal (Nat.le_refl _)))
  have HA1 := Lib.hid ((HA.out.mono (Keep.below hB1)).mono (Keep.boxed hal (Nat.le_refl _)))
  have hge := Lib.hid hB1.size
  clear hr1 hB1 hal hd0 HR HA
  have hs2 : (w1.alloc (.cells #[.slice Ac1 d0.cells.length nc1, .slice Ak1 d0.cache.length nk1, .int .i64 d0.reqs, .int .i64 d0.left] 27)).heap.size = w1.heap.size + 1 := by simp
  have hal := (Below.refl (w1.alloc (.cells #[.slice Ac1 d0.cells.length nc1, .slice Ak1 d0.cache.length nk1, .int .i64 d0.reqs, .int .i64 d0.left] 27)).heap.size (w1.alloc (.cells #[.slice Ac1 d0.cells.length nc1, .slice Ak1 d0.cache.length nk1, .int .i64 d0.reqs, .int .i64 d0.left] 27))).alloc (Nat.le_refl _) (.cells (madeCells #[.slice none 0 0] m) 32)
  have hkp : Keep (w1.alloc (.cells #[.slice Ac1 d0.cells.length nc1, .slice Ak1 d0.cache.length nk1, .int .i64 d0.reqs, .int .i64 d0.left] 27)) (noM.and w1.heap.size) _ ((noM.and w1.heap.size).and (w1.heap.size + 1)) := Keep.boxed hal (by omega)
  have J : Hid (KS w ((w1.alloc (.cells #[.slice Ac1 d0.cells.length nc1, .slice Ak1 d0.cache.length nk1, .int .i64 d0.reqs, .int .i64 d0.left] 27)).alloc (.cells (madeCells #[.slice none 0 0] m) 32)) ((noM.and w1.heap.size).and (w1.heap.size + 1)) w1.heap.size (w1.heap.size + 1) (.slice Ac1 d0.cells.length nc1) (.slice Ak1 d0.cache.length nk1) d0 (List.replicate m []) (.slice ar rows.length cr) rows (.slice aa addrs.length ca) addrs) :=
    Lib.hid ⟨⟨V1.out.blk.below hal, V1.out.rv.mono hkp, .inl V1.out.mem, MOk.boxed V1.out.ok hal.size (by simp)⟩, ⟨⟨_, _, hs2 ▸ Blk.new _ _ _, madeR_elems _ _ m, fun j u hu => by rw [← Array.getElem?_toList]; exact hu⟩, .inr rfl⟩, HR1.out.mono hkp, HA1.out.mono hkp, HB.out.trans (hal.mono HB.out.size), hge.out, by have := hge.out; omega, by omega⟩
  clear hs2 hal hkp V1 HB HR1 HA1
  go_wp2_with fail
  clear hmk
  generalize ((w1.alloc (.cells #[.slice Ac1 d0.cells.length nc1, .slice Ak1 d0.cache.length nk1, .int .i64 d0.reqs, .int .i64 d0.left] 27)).alloc (.cells (madeCells #[.slice none 0 0] m) 32)) = w3 at *
  generalize hgg : w1.heap.size + 1 = g at *
  generalize w1.heap.size = bd at *
  clear hge hgg
  generalize hM : (noM.and bd).and g = M at *
  clear hM
  go_loopw [12] (fun i wr => ∃ k : Nat, k ≤ rows.length ∧ i = .int .i64 k ∧ Hid (∃ D L c' k', KInv keep m k D L ∧ KS w wr M bd g c' k' D L (.slice ar rows.length cr) rows (.slice aa addrs.length ca) addrs)) (fun i _ => rows.length - (intOf i).toNat)
  case atStart => exact ⟨0, Nat.zero_le _, rfl, Lib.hid ⟨_, _, _, _, HI.out, J.out⟩⟩
  case round =>
    clear HI J
    obtain ⟨k, hk, rfl, HS⟩ := hrel
    obtain ⟨D, L, vc, vk, hI, hS⟩ := HS.out
    clear HS
    replace hI := Lib.hid hI
    have X := Lib.hid hS
    clear hS
    obtain ⟨Ac, nc, Ak, nk, hag⟩ := dis_form X.out.var.rv
    simp only [Value.agg.injEq, Array.mk.injEq, List.cons.injEq, and_true] at hag
    obtain ⟨rfl, rfl⟩ := hag
    by_cases hlt : k < rows.length
    · have hlta : k < addrs.length := by omega
      obtain ⟨b1, o1, A1, C1, rfl, -, x1, z1⟩ := rowS_at X.out.rows hlt
      obtain ⟨b2, o2, rfl, -, x2⟩ := int_at X.out.addrs hlta
      have Z1 := Lib.hid z1
      have hlta' : (k : Int) < addrs.length := by omega
      clear z1
      by_cases h100 : rows[k].length ≤ 100
      case neg =>
        have h100' : (100 : Int) < rows[k].length := by omega
        go_wp2
        go_ret
        exact ⟨rfl, X.out.low⟩
      have h100' : ¬ (100 : Int) < rows[k].length := by omega
      obtain ⟨a, haw, ham⟩ := umodw (z := IntKind.u64.wrap addrs[k]) (by rw [IntKind.wrap_u64]; omega) hm1 (by omega)
      have haL : a < L.length := by rw [hI.out.len.1]; exact ham
      obtain ⟨D', hW, hI'⟩ := hI.out.write ham (b := rows[k]) (by omega) (by omega)
      replace hI' := Lib.hid hI'
      replace hW := Lib.hid hW
      have hsm := Lib.hid hI.out.ok.sm
      have hd1 : D.cells.length ≤ 1000000000 := hsm.out.1
      have hd2 : D.cache.length ≤ 1000000000 := hsm.out.2.1
      go_wp2_with fail
      clear haw x2
      have X1 := Lib.hid (X.out.up (below_drew wr))
      have Z2 := Lib.hid (Z1.out.mono (Keep.below (below_drew wr)))
      have hS := Lib.hid (show (∀ i, wr.drew.cell? ⟨bd, i, none⟩ = #[Value.slice Ac D.cells.length nc, .slice Ak D.cache.length nk, .int .i64 D.reqs, .int .i64 D.left][i]?) ∧ wr.drew.cell? ⟨b1, o1 + k, none⟩ = some (.slice A1 rows[k].length C1) from ⟨X1.out.var.blk.cell, x1⟩)
      clear x1 X Z1 hI
      refine rg_enter [0, 1, 2, 3, 4, 5, 7, 8, 9] (fun w' => (∀ i, w'.cell? ⟨bd, i, none⟩ = #[Value.slice Ac D.cells.length nc, .slice Ak D.cache.length nk, .int .i64 D.reqs, .int .i64 D.left][i]?) ∧ w'.cell? ⟨b1, o1 + k, none⟩ = some (.slice A1 rows[k].length C1)) (by kernel_rfl) ?_
      generalize wr.drew = wd at *
      apply rg_take 0 rfl (by kernel_rfl) (fun _ _ _ h => h) (hS.out) rfl
      · (rintro W ⟨s0, s1⟩; go_simp; try rfl)
      · (go_simp; try rfl)
      apply rg_take 1 rfl (by kernel_rfl) (fun _ _ _ h => h) (hS.out) rfl
      · (rintro W ⟨s0, s1⟩; go_simp; try rfl)
      · (go_simp; try rfl)
      apply rg_take 2 rfl (by kernel_rfl) (fun _ _ _ h => h) (hS.out) rfl
      · (rintro W ⟨s0, s1⟩; go_simp; try rfl)
      · (go_simp; try rfl)
      apply rg_take 3 rfl (by kernel_rfl) (fun _ _ _ h => h) (hS.out) rfl
      · (rintro W ⟨s0, s1⟩; go_simp; try rfl)
      · (go_simp; try rfl)
      apply rg_take 4 rfl (by kernel_rfl) (fun _ _ _ h => h) (hS.out) rfl
      · (rintro W ⟨s0, s1⟩; go_simp; try rfl)
      · (go_simp; try rfl)
      apply rg_take 5 rfl (by kernel_rfl) (fun _ _ _ h => h) (hS.out) rfl
      · (rintro W ⟨s0, s1⟩; go_simp; try rfl)
      · (go_simp; try rfl)
      refine rg_two 6 10 (by kernel_rfl) rfl rfl (fun K hK => ?_) (fun K hK => ?_)
      · go_simp
        refine (twrite_any _ _ D a rows[k] _ M X1.out.var.rv Z2.out X1.out.var.ok hd1 hd2 (by omega)).mono ?_
        rw [hW.out]
        dsimp only
        rintro q w4 ⟨r4, rfl, hr4, hB4⟩
        obtain ⟨Ac4, nc4, Ak4, nk4, rfl⟩ := dis_form hr4
        have X4 := Lib.hid (X1.out.up hB4)
        have hal := (Below.refl w4.heap.size w4).alloc (Nat.le_refl _) (.cells #[.slice none 0 0, .slice none 0 0, .int .i64 0, .int .i64 0] 27)
        have X5 := Lib.hid (X4.out.up hal)
        have hS4 := Lib.hid (show (∀ i, w4.cell? ⟨bd, i, none⟩ = #[Value.slice Ac D.cells.length nc, .slice Ak D.cache.length nk, .int .i64 D.reqs, .int .i64 D.left][i]?) ∧ w4.cell? ⟨b1, o1 + k, none⟩ = some (.slice A1 rows[k].length C1) from ⟨X4.out.var.blk.cell, below_cell hB4 hS.out.2⟩)
        have hS5 := Lib.hid (show (∀ i, (w4.alloc (.cells #[.slice none 0 0, .slice none 0 0, .int .i64 0, .int .i64 0] 27)).cell? ⟨bd, i, none⟩ = #[Value.slice Ac D.cells.length nc, .slice Ak D.cache.length nk, .int .i64 D.reqs, .int .i64 D.left][i]?) ∧ (w4.alloc (.cells #[.slice none 0 0, .slice none 0 0, .int .i64 0, .int .i64 0] 27)).cell? ⟨b1, o1 + k, none⟩ = some (.slice A1 rows[k].length C1) from ⟨X5.out.var.blk.cell, below_cell hal hS4.out.2⟩)
        have R4 := Lib.hid hr4
        clear hr4 hB4 hal
        refine hK _ _ ⟨fun _ => hS4.out, ?_⟩; clear hK K
        apply rg_take 7 rfl (by kernel_rfl) (fun _ _ _ h => h) (hS4.out) rfl
        · (rintro W ⟨s0, s1⟩; go_simp; try rfl)
        · (go_simp; try rfl)
        apply rg_take 8 rfl (by kernel_rfl) (fun _ _ _ h => h) (hS4.out) rfl
        · (rintro W ⟨s0, s1⟩; go_simp; try rfl)
        · (go_simp; try rfl)
        apply rg_take 9 rfl (by kernel_rfl) (fun _ _ _ h => h) (hS4.out) rfl
        · (rintro W ⟨s0, s1⟩; go_simp; try rfl)
        · (go_simp; try rfl)
        refine rg_only 10 (by kernel_rfl) rfl (fun K hK => ?_)
        go_simp
        refine hK _ _ ⟨fun _ => hS5.out, ?_⟩; clear hK K
        have hal := (Below.refl w4.heap.size w4).alloc (Nat.le_refl _) (.cells #[.slice Ac4 D'.cells.length nc4, .slice Ak4 D'.cache.length nk4, .int .i64 D'.reqs, .int .i64 D'.left] 27)
        have X6 := Lib.hid (X4.out.up hal)
        have R6 := Lib.hid (R4.out.below hal)
        have Y := Lib.hid (Blk.new w4 27 #[.slice Ac4 D'.cells.length nc4, .slice Ak4 D'.cache.length nk4, .int .i64 D'.reqs, .int .i64 D'.left])
        have hS6 := Lib.hid (show (∀ i, (w4.alloc (.cells #[.slice Ac4 D'.cells.length nc4, .slice Ak4 D'.cache.length nk4, .int .i64 D'.reqs, .int .i64 D'.left] 27)).cell? ⟨bd, i, none⟩ = #[Value.slice Ac D.cells.length nc, .slice Ak D.cache.length nk, .int .i64 D.reqs, .int .i64 D.left][i]?) ∧ (w4.alloc (.cells #[.slice Ac4 D'.cells.length nc4, .slice Ak4 D'.cache.length nk4, .int .i64 D'.reqs, .int .i64 D'.left] 27)).cell? ⟨b1, o1 + k, none⟩ = some (.slice A1 rows[k].length C1) from ⟨X6.out.var.blk.cell, below_cell hal hS4.out.2⟩)
        clear hal
        refine rg_only 11 (by kernel_rfl) rfl (fun K hK => ?_)
        go_simp
        refine hK _ _ ⟨fun _ => hS6.out, ?_⟩; clear hK K
        clear hS6
        clear hS hS4 hS5 X1 X4 X5 R4
        generalize w4.alloc (.cells #[.slice Ac4 D'.cells.length nc4, .slice Ak4 D'.cache.length nk4, .int .i64 D'.reqs, .int .i64 D'.left] 27) = w5 at *
        generalize w4.heap.size = b14 at *
        apply rg_pure 12 rfl (by kernel_rfl) (fun _ _ _ h => h) rfl
        · (intro W; go_simp; try rfl)
        · (go_simp; try rfl)
        refine rg_done (by kernel_rfl) ?_
        obtain ⟨y1, y2, y3⟩ := Y.out.all
        obtain ⟨x1, x2, x3⟩ := X6.out.var.blk.all
        have X7 := Lib.hid (X6.out.setD R6.out)
        obtain ⟨b7, o7, A7, C7, e7, -, x7, z7⟩ := rowS_at X7.out.rows hlt
        simp only [Option.some.injEq, Addr.mk.injEq, and_true] at e7
        obtain ⟨rfl, rfl⟩ := e7
        obtain ⟨A8, C8, x8, -⟩ := X7.out.want.at_ haL
        obtain ⟨x9, x10⟩ := X7.out.want.fro
        replace x9 := x9 a
        have Z7 := Lib.hid z7
        clear z7 X6 R6 Y
        unfold st4 at X7 x7 x8 x9 x10 Z7
        have ham' : (a : Int) < m := by omega
        go_wp2
        · have hs : sel keep k = true := ‹_›
          have X8 := Lib.hid (X7.out.setW haL Z7.out)
          replace hI' := hI'.out
          rw [if_pos hs] at hI'
          replace hI' := Lib.hid hI'
          clear y1 y2 y3 x1 x2 x3 x7 x8 x9 x10 X7 Z7
          go_roundw
          case rel => exact ⟨k + 1, by omega, by go_num, Lib.hid ⟨_, _, _, _, hI'.out, X8.out⟩⟩
          case measure => simp [intOf]; omega
        · have hs : sel keep k = false := ‹_›
          replace hI' := hI'.out
          rw [if_neg (by rw [hs]; decide)] at hI'
          replace hI' := Lib.hid hI'
          clear y1 y2 y3 x1 x2 x3 x7 x8 x9 x10 Z7
          go_roundw
          case rel => exact ⟨k + 1, by omega, by go_num, Lib.hid ⟨_, _, _, _, hI'.out, X7.out⟩⟩
          case measure => simp [intOf]; omega
      · go_simp
        have hal := (Below.refl wd.heap.size wd).alloc (Nat.le_refl _) (.cells #[.slice none 0 0, .slice none 0 0, .int .i64 0, .int .i64 0] 27)
        have X2 := Lib.hid (X1.out.boxed (.cells #[.slice none 0 0, .slice none 0 0, .int .i64 0, .int .i64 0] 27))
        have Z3 := Lib.hid (Z2.out.mono (Keep.boxed (M := M) hal (Nat.le_refl _)))
        have hS4 := Lib.hid (show (∀ i, (wd.alloc (.cells #[.slice none 0 0, .slice none 0 0, .int .i64 0, .int .i64 0] 27)).cell? ⟨bd, i, none⟩ = #[Value.slice Ac D.cells.length nc, .slice Ak D.cache.length nk, .int .i64 D.reqs, .int .i64 D.left][i]?) ∧ (wd.alloc (.cells #[.slice none 0 0, .slice none 0 0, .int .i64 0, .int .i64 0] 27)).cell? ⟨b1, o1 + k, none⟩ = some (.slice A1 rows[k].length C1) from ⟨X2.out.var.blk.cell, below_cell hal hS.out.2⟩)
        have Y := Lib.hid (Blk.new wd 27 #[.slice none 0 0, .slice none 0 0, .int .i64 0, .int .i64 0])
        have hn1 := Lib.hid (Nat.ne_of_gt X1.out.var.blk.lt)
        have hn2 := Lib.hid (Nat.ne_of_gt X1.out.want.lt)
        have hn3 := Lib.hid X1.out.low.size
        have m1 := Lib.hid X1.out.var.mem
        have m2 := Lib.hid X1.out.want.mem
        have hn4 := Lib.hid (Nat.ne_of_lt (World.block_lt_of_cell? wd _ hS.out.2))
        clear hal hS X1 Z2
        refine hK _ _ ⟨fun _ => hS4.out, ?_⟩; clear hK K
        refine rg_only 6 (by kernel_rfl) rfl (fun K hK => ?_)
        go_simp
        generalize (wd.alloc (.cells #[.slice none 0 0, .slice none 0 0, .int .i64 0, .int .i64 0] 27)) = wz at *
        generalize wd.heap.size = b14 at *
        refine (twrite_any _ _ D a rows[k] wz _ X2.out.var.rv Z3.out X2.out.var.ok hd1 hd2 (by omega)).mono ?_
        rw [hW.out]
        dsimp only
        rintro q w4 ⟨r4, rfl, hr4, hB4⟩
        obtain ⟨Ac4, nc4, Ak4, nk4, rfl⟩ := dis_form hr4
        have X4 := Lib.hid (X2.out.up hB4)
        have Y4 := Lib.hid (Y.out.below hB4)
        have hS5 := Lib.hid (show (∀ i, w4.cell? ⟨bd, i, none⟩ = #[Value.slice Ac D.cells.length nc, .slice Ak D.cache.length nk, .int .i64 D.reqs, .int .i64 D.left][i]?) ∧ w4.cell? ⟨b1, o1 + k, none⟩ = some (.slice A1 rows[k].length C1) from ⟨X4.out.var.blk.cell, below_cell hB4 hS4.out.2⟩)
        have R4 := Lib.hid hr4
        clear hr4 hB4 hS4 X2 Z3 Y
        refine hK _ _ ⟨fun _ => hS5.out, ?_⟩; clear hK K
        apply rg_take 7 rfl (by kernel_rfl) (fun _ _ _ h => h) (hS5.out) rfl
        · (rintro W ⟨s0, s1⟩; go_simp; try rfl)
        · (go_simp; try rfl)
        apply rg_take 8 rfl (by kernel_rfl) (fun _ _ _ h => h) (hS5.out) rfl
        · (rintro W ⟨s0, s1⟩; go_simp; try rfl)
        · (go_simp; try rfl)
        apply rg_take 9 rfl (by kernel_rfl) (fun _ _ _ h => h) (hS5.out) rfl
        · (rintro W ⟨s0, s1⟩; go_simp; try rfl)
        · (go_simp; try rfl)
        obtain ⟨c4, f4, l4⟩ := Y4.out.all
        have X5 := Lib.hid (X4.out.store hn1.out hn2.out hn3.out m1.out m2.out (.slice Ac4 D'.cells.length nc4) (.slice Ak4 D'.cache.length nk4) (.int .i64 D'.reqs) (.int .i64 D'.left))
        have R6 := Lib.hid (R4.out.mono (st4_keep w4 M b14 (.slice Ac4 D'.cells.length nc4) (.slice Ak4 D'.cache.length nk4) (.int .i64 D'.reqs) (.int .i64 D'.left)))
        have Y := Lib.hid (st4_blk Y4.out (.slice Ac4 D'.cells.length nc4) (.slice Ak4 D'.cache.length nk4) (.int .i64 D'.reqs) (.int .i64 D'.left))
        have hS6 := Lib.hid (show (∀ i, (st4 w4 b14 (.slice Ac4 D'.cells.length nc4) (.slice Ak4 D'.cache.length nk4) (.int .i64 D'.reqs) (.int .i64 D'.left)).cell? ⟨bd, i, none⟩ = #[Value.slice Ac D.cells.length nc, .slice Ak D.cache.length nk, .int .i64 D.reqs, .int .i64 D.left][i]?) ∧ (st4 w4 b14 (.slice Ac4 D'.cells.length nc4) (.slice Ak4 D'.cache.length nk4) (.int .i64 D'.reqs) (.int .i64 D'.left)).cell? ⟨b1, o1 + k, none⟩ = some (.slice A1 rows[k].length C1) from ⟨X5.out.var.blk.cell, (st4_grown w4 b14 (.slice Ac4 D'.cells.length nc4) (.slice Ak4 D'.cache.length nk4) (.int .i64 D'.reqs) (.int .i64 D'.left)).cell hS5.out.2 (by simpa using hn4.out)⟩)
        refine rg_only 11 (by kernel_rfl) rfl (fun K hK => ?_)
        go_simp
        clear c4 f4 l4
        refine hK _ _ ⟨fun _ => hS6.out, ?_⟩; clear hK K
        clear hS6 hn4
        clear X4 Y4 R4 hS5 hn1 hn2 hn3 m1 m2
        unfold st4 at *
        generalize (((w4.setCell ⟨b14, 0, none⟩ (.slice Ac4 D'.cells.length nc4)).setCell ⟨b14, 1, none⟩ (.slice Ak4 D'.cache.length nk4)).setCell ⟨b14, 2, none⟩ (.int .i64 D'.reqs)).setCell ⟨b14, 3, none⟩ (.int .i64 D'.left) = w5 at *
        apply rg_pure 12 rfl (by kernel_rfl) (fun _ _ _ h => h) rfl
        · (intro W; go_simp; try rfl)
        · (go_simp; try rfl)
        refine rg_done (by kernel_rfl) ?_
        obtain ⟨y1, y2, y3⟩ := Y.out.all
        obtain ⟨x1, x2, x3⟩ := X5.out.var.blk.all
        have X7 := Lib.hid (X5.out.setD R6.out)
        obtain ⟨b7, o7, A7, C7, e7, -, x7, z7⟩ := rowS_at X7.out.rows hlt
        simp only [Option.some.injEq, Addr.mk.injEq, and_true] at e7
        obtain ⟨rfl, rfl⟩ := e7
        obtain ⟨A8, C8, x8, -⟩ := X7.out.want.at_ haL
        obtain ⟨x9, x10⟩ := X7.out.want.fro
        replace x9 := x9 a
        have Z7 := Lib.hid z7
        clear z7 X5 R6 Y
        unfold st4 at X7 x7 x8 x9 x10 Z7
        have ham' : (a : Int) < m := by omega
        go_wp2
        · have hs : sel keep k = true := ‹_›
          have X8 := Lib.hid (X7.out.setW haL Z7.out)
          replace hI' := hI'.out
          rw [if_pos hs] at hI'
          replace hI' := Lib.hid hI'
          clear y1 y2 y3 x1 x2 x3 x7 x8 x9 x10 X7 Z7
          go_roundw
          case rel => exact ⟨k + 1, by omega, by go_num, Lib.hid ⟨_, _, _, _, hI'.out, X8.out⟩⟩
          case measure => simp [intOf]; omega
        · have hs : sel keep k = false := ‹_›
          replace hI' := hI'.out
          rw [if_neg (by rw [hs]; decide)] at hI'
          replace hI' := Lib.hid hI'
          clear y1 y2 y3 x1 x2 x3 x7 x8 x9 x10 Z7
          go_roundw
          case rel => exact ⟨k + 1, by omega, by go_num, Lib.hid ⟨_, _, _, _, hI'.out, X7.out⟩⟩
          case measure => simp [intOf]; omega
    · obtain rfl : k = rows.length := by omega
      have y1 := X.out.var.blk.cell
      obtain ⟨XX, hC, hOK, hXl, hXb⟩ := hI.out.crash hk0
      replace hC := Lib.hid hC
      replace hXb := Lib.hid hXb
      replace hXl := Lib.hid hXl
      have hOX := Lib.hid hOK.sm
      have hsm := Lib.hid hI.out.ok.sm
      have hd1 : D.cells.length ≤ 1000000000 := hsm.out.1
      have hd2 : D.cache.length ≤ 1000000000 := hsm.out.2.1
      clear hOK
      go_wp2_with fail
      clear y1
      refine (tcrash_any _ D keep wr M X.out.var.rv X.out.var.ok hd1 hd2 hk63).mono ?_
      rw [hC.out]
      dsimp only
      rintro q w4 ⟨r4, rfl, hr4, hB4⟩
      obtain ⟨Ac4, nc4, Ak4, nk4, rfl⟩ := dis_form hr4
      have hal := (Below.refl w4.heap.size w4).alloc (Nat.le_refl _) (.cells #[.slice Ac4 XX.cells.length nc4, .slice Ak4 XX.cache.length nk4, .int .i64 XX.reqs, .int .i64 XX.left] 27)
      have X4 := Lib.hid (X.out.up (belowUp hB4 hal))
      have R4 := Lib.hid (hr4.below hal)
      have Y := Lib.hid (Blk.new w4 27 #[.slice Ac4 XX.cells.length nc4, .slice Ak4 XX.cache.length nk4, .int .i64 XX.reqs, .int .i64 XX.left])
      clear hr4 hB4 hal X hI
      have x1 : ((XX.cells.length : Int) != m) = false := by simp [hXl.out]
      go_wp2
      clear x1
      generalize w4.alloc (.cells #[.slice Ac4 XX.cells.length nc4, .slice Ak4 XX.cache.length nk4, .int .i64 XX.reqs, .int .i64 XX.left] 27) = w5 at *
      generalize w4.heap.size = b16 at *
      have hLl := Lib.hid (show L.length = m by rw [← hXb.out, List.length_map, hXl.out])
      go_loopw [18] (fun i wr => ∃ j : Nat, j ≤ m ∧ i = .int .i64 j ∧ Below w5.heap.size w5 wr) (fun i _ => m - (intOf i).toNat)
      case atStart => exact ⟨0, Nat.zero_le _, rfl, Below.refl _ _⟩
      case round =>
        obtain ⟨j, hj, rfl, hB⟩ := hrel
        by_cases hjl : j < m
        · have y2 := (Y.out.below hB).cell
          have X5 := Lib.hid (X4.out.up hB)
          have hjX : j < XX.cells.length := by rw [hXl.out]; exact hjl
          have hjL : j < L.length := by rw [hLl.out]; exact hjl
          obtain ⟨bx, ox, vb, vo, rfl, -, -, q1, -, z1, -⟩ := cel_at (rv_agg (R4.out.below hB)).1 hjX
          obtain ⟨Ab, Cb, rfl⟩ := z1.form
          obtain ⟨Aw, Cw, q2, z2⟩ := X5.out.want.at_ hjL
          have hEq := Lib.hid (show XX.cells[j].bytes = L[j] by simp only [← hXb.out, List.getElem_map])
          have hS := Lib.hid (show (∀ i, wr.drew.cell? ⟨b16, i, none⟩ = #[Value.slice (some ⟨bx, ox, none⟩) XX.cells.length nc4, .slice Ak4 XX.cache.length nk4, .int .i64 XX.reqs, .int .i64 XX.left][i]?) ∧ wr.drew.cell? ⟨bx, ox + j * 3 + 1, none⟩ = some (.slice Ab XX.cells[j].bytes.length Cb) ∧ wr.drew.cell? ⟨g, j, none⟩ = some (.slice Aw L[j].length Cw) from ⟨y2, q1, q2⟩)
          have hbl := Lib.hid (hOX.out.2.2.1 XX.cells[j] (List.getElem_mem hjX)).1
          have Z1 := Lib.hid (z1.mono (Keep.below (below_drew wr)))
          have Z2 := Lib.hid (z2.mono (Keep.below (below_drew wr)))
          have hBd := Lib.hid hB.drew
          have hjX' : (j : Int) < XX.cells.length := by omega
          have hjm : (j : Int) < m := by omega
          clear q1 q2 z1 z2 y2 hB X5
          go_wp2_with fail
          refine rg_enter [0, 1, 2, 3, 4, 5, 6, 7, 8, 9, 11] (fun w' => (∀ i, w'.cell? ⟨b16, i, none⟩ = #[Value.slice (some ⟨bx, ox, none⟩) XX.cells.length nc4, .slice Ak4 XX.cache.length nk4, .int .i64 XX.reqs, .int .i64 XX.left][i]?) ∧ w'.cell? ⟨bx, ox + j * 3 + 1, none⟩ = some (.slice Ab XX.cells[j].bytes.length Cb) ∧ w'.cell? ⟨g, j, none⟩ = some (.slice Aw L[j].length Cw)) (by kernel_rfl) ?_
          apply rg_take 0 rfl (by kernel_rfl) (fun _ _ _ h => h) (hS.out) rfl
          · (rintro W ⟨s0, s1, s2⟩; go_simp; try rfl)
          · (go_simp; try rfl)
          apply rg_take 1 rfl (by kernel_rfl) (fun _ _ _ h => h) (hS.out) rfl
          · (rintro W ⟨s0, s1, s2⟩; go_simp; try rfl)
          · (go_simp; try rfl)
          apply rg_take 2 rfl (by kernel_rfl) (fun _ _ _ h => h) (hS.out) rfl
          · (rintro W ⟨s0, s1, s2⟩; go_simp; try rfl)
          · (go_simp; try rfl)
          apply rg_take 3 rfl (by kernel_rfl) (fun _ _ _ h => h) (hS.out) rfl
          · (rintro W ⟨s0, s1, s2⟩; go_simp; try rfl)
          · (go_simp; try rfl)
          apply rg_take 4 rfl (by kernel_rfl) (fun _ _ _ h => h) (hS.out) rfl
          · (rintro W ⟨s0, s1, s2⟩; go_simp; try rfl)
          · (go_simp; try rfl)
          apply rg_take 5 rfl (by kernel_rfl) (fun _ _ _ h => h) (hS.out) rfl
          · (rintro W ⟨s0, s1, s2⟩; go_simp; try rfl)
          · (go_simp; try rfl)
          apply rg_take 6 rfl (by kernel_rfl) (fun _ _ _ h => h) (hS.out) rfl
          · (rintro W ⟨s0, s1, s2⟩; go_simp; try rfl)
          · (go_simp; try rfl)
          apply rg_take 7 rfl (by kernel_rfl) (fun _ _ _ h => h) (hS.out) rfl
          · (rintro W ⟨s0, s1, s2⟩; go_simp; try rfl)
          · (go_simp; try rfl)
          apply rg_take 8 rfl (by kernel_rfl) (fun _ _ _ h => h) (hS.out) rfl
          · (rintro W ⟨s0, s1, s2⟩; go_simp; try rfl)
          · (go_simp; try rfl)
          apply rg_take 9 rfl (by kernel_rfl) (fun _ _ _ h => h) (hS.out) rfl
          · (rintro W ⟨s0, s1, s2⟩; go_simp; try rfl)
          · (go_simp; try rfl)
          refine rg_only 10 (by kernel_rfl) rfl (fun K hK => ?_)
          go_simp
          refine (bytes_any _ _ XX.cells[j].bytes L[j] _ _ _ Z1.out Z2.out hbl.out).mono ?_
          rw [show decide (XX.cells[j].bytes = L[j]) = true by simp [hEq.out]]
          rintro q w6 ⟨rfl, hB6⟩
          have hBt := hBd.out.trans (hB6.mono hBd.out.size)
          have hS6 := Lib.hid (show (∀ i, w6.cell? ⟨b16, i, none⟩ = #[Value.slice (some ⟨bx, ox, none⟩) XX.cells.length nc4, .slice Ak4 XX.cache.length nk4, .int .i64 XX.reqs, .int .i64 XX.left][i]?) ∧ w6.cell? ⟨bx, ox + j * 3 + 1, none⟩ = some (.slice Ab XX.cells[j].bytes.length Cb) ∧ w6.cell? ⟨g, j, none⟩ = some (.slice Aw L[j].length Cw) from ⟨(Y.out.below hBt).cell, below_cell hB6 hS.out.2.1, below_cell hB6 hS.out.2.2⟩)
          replace hBt := Lib.hid hBt
          clear hB6
          refine hK _ _ ⟨fun _ => hS6.out, ?_⟩; clear hK K
          apply rg_take 11 rfl (by kernel_rfl) (fun _ _ _ h => h) (hS6.out) rfl
          · (rintro W ⟨s0, s1, s2⟩; go_simp; try rfl)
          · (go_simp; try rfl)
          refine rg_done (by kernel_rfl) ?_
          go_wp2
          go_roundw
          case rel => exact ⟨j + 1, by omega, by go_num, hBt.out⟩
          case measure => simp [intOf]; omega
        · obtain rfl : j = m := by omega
          have X5 := Lib.hid (X4.out.up hB)
          clear hB
          go_wp2_with fail
          refine (wakes_any _).mono ?_
          rintro q w6 ⟨rfl, hB6⟩
          go_wp2
          go_ret
          exact ⟨rfl, belowUp X5.out.low hB6⟩
end Go.Proofs.Ytkdjacmabeeceaa
