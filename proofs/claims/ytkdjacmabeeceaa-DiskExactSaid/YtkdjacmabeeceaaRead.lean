/-
The contract of a drive's method Read.
-/
import Derived.Test.YtkdjacmabeeceaaBack
import Derived.Test.YtkdjacmabeeceaaDrv3
namespace Go.Proofs.Ytkdjacmabeeceaa
open Go.RowKit Go.Shelf
attribute [local go_sem] Oper.semAt_some

theorem grownBy_of_below {w w' : World} (h : Below w.heap.size w w') (r : Option Nat) : w.grownBy w' r := ⟨h.os, h.tape, h.output, h.size, fun k hk _ => h.block k hk⟩
/-- A slice of bytes, where what turns is no cells. -/
theorem u8_kept {W W' : World} {M : Ms} {r : Value} {l : List UInt8} {row : Option Nat} (h : SlR W M r l) (hg : W.grownBy W' row) (hr : ∀ k, row = some k → ∃ o : Obj, W.heap[k]? = some o ∧ o.isCells = false) : SlR W' M r l := by
  obtain ⟨a, c, xs, rfl, h1, h2, h3, h4⟩ := h
  refine ⟨a, c, xs, rfl, h1, h2, h3, fun hne => ?_⟩
  obtain ⟨b, off, rfl, hm, hc⟩ := h4 hne
  exact ⟨b, off, rfl, hm, fun j u hu => cell_kept (hc j u hu) hg hr⟩
theorem blk_kept {W W' : World} {g : Nat} {t : TypeId} {cs : Array Value} {row : Option Nat} (h : Blk W g t cs) (hg : W.grownBy W' row) (hr : ∀ k, row = some k → ∃ o : Obj, W.heap[k]? = some o ∧ o.isCells = false) : Blk W' g t cs :=
  h.grown hg (fun e => by obtain ⟨_, ho, hc⟩ := hr g e.symm; rw [show W.heap[g]? = _ from h] at ho; cases ho; cases hc)
theorem Keep.set2 {W : World} (M : Ms) (g g' : Nat) (u u' : Value) : Keep W (Ms.and (Ms.and M g) g') ((W.setCell ⟨g, 0, none⟩ u).setCell ⟨g', 0, none⟩ u') M := fun _ _ hm =>
  ⟨fun h => hm (.inl (.inl h)), (Below.heap_setCell _ _ _ _ (fun e => hm (.inr e))).trans (Below.heap_setCell _ _ _ _ (fun e => hm (.inl (.inr e))))⟩
theorem grownBy_after {w w2 W : World} {r : Option Nat} (h : w.grownBy w2 r) (hB : Below w.heap.size w2 W) : w.grownBy W r :=
  ⟨hB.os.trans h.os, hB.tape.trans h.tape, hB.output.trans h.output, Nat.le_trans h.size hB.size, fun k hk hne => (hB.block k hk).trans (h.block k hk hne)⟩
theorem deferred_set {W : World} {D g i : Nat} {u : Value} {c : Option (List Deferred)} (h : W.heap[D]? = some (.deferred c)) : (W.setCell ⟨g, i, none⟩ u).heap[D]? = some (.deferred c) :=
  (KeepsOthers.setCell W ⟨g, i, none⟩ u).same D _ h rfl
theorem others_of_below {W W' : World} (h : Below W.heap.size W W') : KeepsOthers W W' := ⟨h.size, fun k _ hk _ => (h.block k (Array.getElem?_eq_some_iff.1 hk).1).trans hk⟩
def lastW (l : List Wri) (k : Nat) : Option (List UInt8) := (l.reverse.find? fun x => x.addr == (k : Int)).map (·.bytes)
def readV (d : Dis) (k : Nat) : List UInt8 × Int :=
  if d.left = 0 then ([], 8)
  else match lastW d.cache k with
    | some b => (b, 0)
    | none => match d.cells[k]? with
      | some c => if c.state = 0 then (c.bytes, 0) else ([], 6)
      | none => ([], 6)
theorem find_rev {l : List Wri} {k : Nat} : ∀ (n : Nat), n ≤ l.length → (∀ i (h : i < l.length), n ≤ i → l[i].addr ≠ (k : Int)) → l.reverse.find? (fun x => x.addr == (k : Int)) = (l.take n).reverse.find? (fun x => x.addr == (k : Int)) := by
  intro n hn h
  conv => lhs; rw [← List.take_append_drop n l]
  rw [List.reverse_append, List.find?_append]
  have : (l.drop n).reverse.find? (fun x => x.addr == (k : Int)) = none := by
    rw [List.find?_eq_none]
    intro x hx
    rw [List.mem_reverse] at hx
    obtain ⟨i, hi, rfl⟩ := List.mem_iff_getElem.1 hx
    rw [List.getElem_drop]
    have := h (n + i) (by rw [List.length_drop] at hi; omega) (by omega)
    simpa using this
  rw [this]; rfl
theorem lastW_at {l : List Wri} {k j : Nat} (hj : j < l.length) (h : ∀ i (h : i < l.length), j < i → l[i].addr ≠ (k : Int)) (hx : l[j].addr = (k : Int)) : lastW l k = some l[j].bytes := by
  unfold lastW
  rw [find_rev (j + 1) (by omega) (fun i hi hji => h i hi (by omega)), List.take_succ_eq_append_getElem hj, List.reverse_append]
  simp [hx]
theorem lastW_hit {l : List Wri} {k j : Nat} {pre : List (Fin l.length)} {x : Fin l.length} (hj : j ≤ l.length) (hpre : pre.map Fin.val = downTo l.length j) (hlast : pre.getLast? = some x)
    (hp : ∀ y ∈ pre.dropLast, l[y.val].addr ≠ (k : Int)) (hx : l[x.val].addr = (k : Int)) : lastW l k = some l[x.val].bytes := by
  obtain ⟨q, rfl⟩ : ∃ q, pre = q ++ [x] := List.getLast?_eq_some_iff.1 hlast
  rw [List.dropLast_concat] at hp
  have hlen : q.length + 1 = j := by
    have := congrArg List.length hpre
    simpa [downTo] using this
  have hget : ∀ i (h : i < q.length), (q[i]).val = l.length - 1 - i := fun i h => by
    have := congrArg (fun z => z[i]?) hpre
    simp [downTo, show i < j by omega] at this
    rw [List.getElem?_append_left (by simpa using h)] at this
    simpa [List.getElem?_eq_getElem h] using this
  have hxv : x.val = l.length - 1 - q.length := by
    have := congrArg (fun z => z[q.length]?) hpre
    simp [downTo, show q.length < j by omega] at this
    exact this
  refine lastW_at x.isLt (fun i hi hxi => ?_) hx
  have hq : l.length - 1 - i < q.length := by omega
  have h1 := hp q[l.length - 1 - i] (List.getElem_mem hq)
  have h2 := hget _ hq
  have h3 : (q[l.length - 1 - i]).val = i := by omega
  simpa [h3] using h1
theorem lastW_none {l : List Wri} {k : Nat} {ys : List (Fin l.length)} (hys : ys.map Fin.val = downTo l.length l.length) (hp : ∀ y ∈ ys, l[y.val].addr ≠ (k : Int)) : lastW l k = none := by
  have hlen : ys.length = l.length := by
    have := congrArg List.length hys
    simpa [downTo] using this
  have hall : ∀ i (h : i < l.length), l[i].addr ≠ (k : Int) := fun i h => by
    have hq : l.length - 1 - i < ys.length := by omega
    have h1 := hp ys[l.length - 1 - i] (List.getElem_mem hq)
    have h2 := congrArg (fun z => z[l.length - 1 - i]?) hys
    simp [downTo, List.getElem?_eq_getElem hq, show l.length - 1 - i < l.length by omega] at h2
    have h3 : (ys[l.length - 1 - i]).val = i := by omega
    simpa [h3] using h1
  unfold lastW
  rw [find_rev 0 (Nat.zero_le _) (fun i h _ => hall i h)]
  rfl
theorem readV_cell {d : Dis} {k : Nat} (hl : ¬ d.left = 0) (hw : lastW d.cache k = none) (hk : k < d.cells.length) (hs : d.cells[k].state = 0) : readV d k = (d.cells[k].bytes, 0) := by
  unfold readV
  rw [if_neg hl, hw, List.getElem?_eq_getElem hk]
  simp [hs]
theorem readV_bad {d : Dis} {k : Nat} (hl : ¬ d.left = 0) (hw : lastW d.cache k = none) (hk : k < d.cells.length) (hs : ¬ d.cells[k].state = 0) : readV d k = ([], 6) := by
  unfold readV
  rw [if_neg hl, hw, List.getElem?_eq_getElem hk]
  simp [hs]
theorem readV_hit {d : Dis} {k j : Nat} {pre : List (Fin d.cache.length)} {x : Fin d.cache.length} (hl : Hid (¬ d.left = 0)) (hj : j ≤ d.cache.length) (hpre : pre.map Fin.val = downTo d.cache.length j) (hlast : pre.getLast? = some x)
    (hp : ∀ y ∈ pre.dropLast, d.cache[y.val].addr ≠ (k : Int)) (hx : d.cache[x.val].addr = (k : Int)) : readV d k = (d.cache[x.val].bytes, 0) := by
  unfold readV
  rw [if_neg hl, lastW_hit hj hpre hlast hp hx]
def readD (d : Dis) : Dis := if d.left = 0 then d else reqD d

set_option maxHeartbeats 2000000 in
theorem read_any (w : World) (M : Ms) (base bd : Nat) (vc vk : Value) (d : Dis) (k : Nat) (h : DrvR w M base bd vc vk d) (hbase : base ≤ w.heap.size) (hr : rngB d)
    (hk : k < d.cells.length) (hkl : d.cache.length ≤ 1000000) (hM : MOk w M) (hbl : ∀ c ∈ d.cells, c.bytes.length ≤ 1000000) (hbk : ∀ c ∈ d.cache, c.bytes.length ≤ 1000000) :
    Calls Try.prog 37 #[.pointer (some ⟨bd, 0, none⟩), .int .i64 k] w fun e w' => ∃ r, e = .returned (.tuple #[r, .int .i64 (readV d k).2]) ∧ SlR w' (DA M bd vc vk) r (readV d k).1 ∧ DStep w M base bd vc vk w' vc vk (readD d) := by
  by_cases hl : d.left = 0
  · have hB := (((Below.refl w.heap.size w).alloc (Nat.le_refl _) (.cells #[.int .i64 k] 3)).alloc (by simp) (.cells #[.slice none 0 0] 32)).alloc (by simp; omega) (.cells #[.int .i64 0] 28)
    have H3 := Lib.hid (h.belowd hB hbase)
    have hq := Lib.hid (request_dead _ M base bd vc vk d H3.out.drv hl)
    have e1 : readV d k = ([], 8) := by simp [readV, hl]
    have e2 : readD d = d := by simp [readD, hl]
    rw [e1, e2]
    have H0 := Lib.hid h
    clear e1 e2 hl h hB
    go_enter Try.func37, Try.ntmps37
    go_wp2_with (go_at_call 52; go_must (refine hq.out.mono ?_); rintro e w1 ⟨rfl, rfl⟩)
    refine bodyPost_ret (v := .tuple #[.slice none 0 0, .int .i64 8]) (by simp [results, Try.results37, go_sem]) rfl ?_
    refine ⟨_, rfl, ⟨none, 0, [], rfl, by simp, by simp [maxLen], rfl, fun h => absurd rfl h⟩, ?_⟩
    exact H0.out.belowd ((((Below.refl w.heap.size w).alloc (Nat.le_refl _) (.cells #[.int .i64 k] 3)).alloc (by simp) (.cells #[.slice none 0 0] 32)).alloc (by simp; omega) (.cells #[.int .i64 8] 28)) hbase
  · obtain ⟨vkA, vkc, rfl⟩ := h.cache.form
    have hnew : ∀ b, w.heap.size ≤ b → ¬ DA M bd vc (.slice vkA d.cache.length vkc) b := (h.mok hM).new
    rw [← callsIn_wide (n := 5)]
    have hB := (((Below.refl w.heap.size w).alloc (Nat.le_refl _) (.cells #[.int .i64 k] 3)).alloc (by simp) (.cells #[.slice none 0 0] 32)).alloc (by simp; omega) (.cells #[.int .i64 0] 28)
    have H3 := h.belowd hB hbase
    have hq := Lib.hid (request_any _ M base bd vc _ d H3.drv (by simp; omega) hl hr.1 hr.2.1 hr.2.2.1 hr.2.2.2)
    have b0 := ((Blk.new w 3 #[.int .i64 k]).alloc (.cells #[.slice none 0 0] 32)).alloc (.cells #[.int .i64 0] 28)
    have b1 := (Blk.new (w.alloc (.cells #[.int .i64 k] 3)) 32 #[.slice none 0 0]).alloc (.cells #[.int .i64 0] 28)
    have b2 := (Blk.new ((w.alloc (.cells #[.int .i64 k] 3)).alloc (.cells #[.slice none 0 0] 32)) 28 #[.int .i64 0])
    simp only [World.size_alloc] at b1 b2
    have hB' := Lib.hid hB
    have H3' := Lib.hid H3
    have B0 := Lib.hid b0
    have B1 := Lib.hid b1
    have B2 := Lib.hid b2
    have H := Lib.hid h
    clear hB H3 b0 b1 b2 h
    refine callsIn_of_wp_marks Try.func37 rfl trivial ?_ rfl
    simp only [Try.ntmps37, List.size_toArray, List.length_cons, List.length_nil, Nat.reduceAdd, Nat.reduceSub, Array.replicate_succ, Array.replicate_zero, List.push_toArray, List.append_toArray, List.nil_append, List.cons_append]
    gi_wp2_with fail
    refine ⟨trivial, (callsIn_wide.2 hq.out).mono ?_⟩
    rintro e w1 ⟨rfl, h1, hg1⟩
    have hbl0 := B0.out.keep h1.keep (hnew w.heap.size (Nat.le_refl _))
    have hbl1 := B1.out.keep h1.keep (hnew (w.heap.size + 1) (by omega))
    have hbl2 := B2.out.keep h1.keep (hnew (w.heap.size + 1 + 1) (by omega))
    obtain ⟨p0, q0, r0⟩ := hbl0.all
    obtain ⟨p1, q1, r1⟩ := hbl1.all
    obtain ⟨p2, q2, r2⟩ := hbl2.all
    obtain ⟨c1, f1, l1⟩ := h1.drv.blk.all
    have h1' := Lib.hid (H3'.out.trans h1)
    have K0 := Lib.hid hbl0
    have K1 := Lib.hid hbl1
    have K2 := Lib.hid hbl2
    have hG1 := Lib.hid (grownBy_trans (grownBy_of_below hB'.out (some bd)) hg1)
    have D1 := Lib.hid h1.drv.blk
    clear h1 hbl0 hbl1 hbl2
    gi_wp2_with fail
    refine ⟨trivial, (callsIn_wide.2 (back_any _ _ _ _)).mono ?_⟩
    rintro e w2 ⟨rfl, rfl⟩
    gi_wp2_with fail
    have hl' := Lib.hid hl
    clear hq B0 B1 B2 H3' hl p0 q0 p1 q1 p2 q2 c1 f1
    have hbs := Blk.new w1 25 #[.slice vkA d.cache.length vkc]
    have hB2 := (Below.refl w1.heap.size w1).alloc (Nat.le_refl _) (.cells #[.slice vkA d.cache.length vkc] 25)
    have hG2 := Lib.hid (grownBy_trans hG1.out (grownBy_of_below hB2 (some bd)))
    have D2 := Lib.hid (D1.out.below hB2)
    have L0 := Lib.hid (K0.out.below hB2)
    have L1 := Lib.hid (K1.out.below hB2)
    have L2 := Lib.hid (K2.out.below hB2)
    have Hbs := Lib.hid hbs
    have hzz : (w1.alloc (.cells #[.slice vkA d.cache.length vkc] 25)).heap.size = w1.heap.size + 1 := by simp
    clear hbs hB2 K0 K1 K2 D1 hG1
    generalize hw2 : w1.alloc (.cells #[.slice vkA d.cache.length vkc] 25) = w2 at *
    have hwz : w.heap.size ≤ w2.heap.size := by omega
    obtain ⟨g0, hg0⟩ : ∃ g0, g0 = (vkA.getD ⟨0, 0, none⟩).block := ⟨_, rfl⟩
    obtain ⟨X, hX⟩ : ∃ X : Nat → Value, ∀ j, X j = (w.cell? ⟨g0, j * 2, none⟩).getD undef := ⟨_, fun _ => rfl⟩
    obtain ⟨Y, hY⟩ : ∃ Y : Nat → Value, ∀ j, Y j = (w.cell? ⟨g0, j * 2 + 1, none⟩).getD undef := ⟨_, fun _ => rfl⟩
    have hel : ∀ j (hj : j < d.cache.length), vkA = some ⟨g0, 0, none⟩ ∧ g0 < w.heap.size ∧ w.cell? ⟨g0, j * 2, none⟩ = some (X j) ∧ w.cell? ⟨g0, j * 2 + 1, none⟩ = some (Y j) ∧ X j = .int .i64 d.cache[j].addr ∧ SlR w (DA M bd vc (.slice vkA d.cache.length vkc)) (Y j) d.cache[j].bytes := by
      intro j hj
      obtain ⟨g, c, vb, he, hgb, k0, k1, hs⟩ := wriO_at H.out.cache hj
      injection he with he
      subst he
      have hg : g0 = g := hg0
      subst hg
      refine ⟨rfl, World.block_lt_of_cell? w _ k0, ?_, ?_, ?_, ?_⟩
      · rw [hX, k0]; rfl
      · rw [hY, k1]; rfl
      · rw [hX, k0]; rfl
      · rw [hY, k1]
        refine hs.mono (Keep.less ?_)
        rintro b (h' | h' | h' | h')
        · exact .inl (.inl h')
        · exact .inl (.inr (.inl h'))
        · exact .inl (.inr (.inr h'))
        · exact .inr h'
    have hne : ∀ g0, g0 < w.heap.size → g0 ≠ bd → ∀ o u, w.cell? ⟨g0, o, none⟩ = some u → w2.cell? ⟨g0, o, none⟩ = some u := fun g0 _ hb o u hc => hG2.out.cell hc (fun e => hb (by injection e))
    have hgb : ∀ j (hj : j < d.cache.length), g0 ≠ bd := fun j hj e => by
      have := (hel j hj).1
      exact H.out.cache.ne_ H.out.blk (by decide) (by rw [this]; simp [Value.ownBlock, e])
    have Hel := Lib.hid hel
    have Hne := Lib.hid hne
    have Hgb := Lib.hid hgb
    clear hel hne hgb hX hY hg0
    have fin : Hid (∀ (D : Nat) (W : World) (r : Value) (l : List UInt8) (n : Int), w2.heap.size ≤ D → Blk W (w.heap.size + 1) 32 #[r] → Blk W (w.heap.size + 1 + 1) 28 #[.int .i64 n] →
        SlR W (DA M bd vc (.slice vkA d.cache.length vkc)) r l → Below w.heap.size w2 W → W.heap[D]? = some (.deferred (some [])) →
        (W.putObj D (.deferred none)).cell? ⟨w.heap.size + 1, 0, none⟩ = some r ∧ (W.putObj D (.deferred none)).cell? ⟨w.heap.size + 1 + 1, 0, none⟩ = some (.int .i64 n) ∧
        SlR (W.putObj D (.deferred none)) (DA M bd vc (.slice vkA d.cache.length vkc)) r l ∧
        DStep w M base bd vc (.slice vkA d.cache.length vkc) (W.putObj D (.deferred none)) vc (.slice vkA d.cache.length vkc) { d with reqs := (reqD d).reqs, left := (reqD d).left }) := by
      intro D W r l n hD b1 b2 hs hB hdef
      have hB5 := hB.grown (grownBy_putObj' W D (.deferred none)) (Nat.le_trans hwz hB.size) (fun k e => by cases e; omega)
      have hr5 : ∀ k, some D = some k → ∃ o : Obj, W.heap[k]? = some o ∧ o.isCells = false := fun k e => by cases e; exact ⟨_, hdef, rfl⟩
      exact ⟨(blk_kept b1 (grownBy_putObj' W D (.deferred none)) hr5).cell 0, (blk_kept b2 (grownBy_putObj' W D (.deferred none)) hr5).cell 0, u8_kept hs (grownBy_putObj' W D (.deferred none)) hr5,
        H.out.head (grownBy_after hG2.out hB5) ((hB5.block bd H.out.blk.lt).trans D2.out) hbase⟩
    have hstops := back_stops Fence.wide 4 trivial rfl (by omega) w1.heap.size w2.heap.size vkA d.cache.length vkc X Y (by omega) w2 (by omega) (Nat.le_refl _) (Hbs.out.cell 0)
      (fun hp => ⟨g0, 0, (Hel.out 0 hp).1, by have := (Hel.out 0 hp).2.1; omega, fun j hj => ⟨by rw [Nat.zero_add]; exact Hne.out g0 (Hel.out j hj).2.1 (Hgb.out j hj) _ _ (Hel.out j hj).2.2.1, by rw [Nat.zero_add]; exact Hne.out g0 (Hel.out j hj).2.1 (Hgb.out j hj) _ _ (Hel.out j hj).2.2.2.1⟩⟩)
    refine wpIn_rangeFunc_ownH rfl (by omega) (gf := 57) (lb := #[.pointer (some ⟨w1.heap.size, 0, none⟩)]) rfl trivial (enters_of Try.func57 (by kernel_rfl) rfl)
      hstops belowK_t (belowK_b (Nat.le_refl _)) (Below.refl _ _) (fun _ => rfl)
      (fun pre W => Below w2.heap.size w2 W ∧ ∀ x ∈ pre, d.cache[x.val].addr ≠ (k : Int))
      (fun c pre W => c = .ret ∧ ∃ r x, pre.getLast? = some x ∧ (∀ y ∈ pre.dropLast, d.cache[y.val].addr ≠ (k : Int)) ∧ d.cache[x.val].addr = (k : Int) ∧ Blk W (w.heap.size + 1) 32 #[r] ∧ Blk W (w.heap.size + 1 + 1) 28 #[.int .i64 0] ∧
        SlR W (DA M bd vc (.slice vkA d.cache.length vkc)) r d.cache[x.val].bytes ∧ Below w.heap.size w2 W)
      ?hI ?hIx ⟨Below.refl _ _, by simp⟩
      (fun x a' W => ∃ Bx, Blk W Bx 78 #[X x, Y x] ∧ a' = { tmps := #[Value.pointer (some ⟨bd, 0, none⟩), Value.int .i64 k, undef, Value.pointer (some ⟨w.heap.size, 0, none⟩), Value.pointer (some ⟨w.heap.size + 1, 0, none⟩),
        Value.pointer (some ⟨w.heap.size + 1 + 1, 0, none⟩), undef, Value.pointer (some ⟨Bx, 0, none⟩), undef, Value.pointer (some ⟨bd, 0, none⟩), Value.bool true, Value.bool false, Value.pointer (some ⟨bd, 0, none⟩), Value.pointer (some ⟨bd, 0, none⟩),
        Value.pointer (some ⟨bd, 0, none⟩), Value.pointer (some ⟨bd, 1, none⟩), Value.slice vkA d.cache.length vkc, Value.func (Fn.func 57) #[] #[Value.pointer (some ⟨w1.heap.size, 0, none⟩)], .int .i64 x.val, .agg #[X x, Y x], undef,
        undef, undef, undef, undef, undef, undef, undef, undef, undef, undef, undef, undef, undef, undef, undef, undef, undef, undef, undef, undef], defers := [] })
      ?hAx ?assign ?body ?done ?stop
    case hI => exact OwnFrom.and (ownFrom_below (Nat.le_refl _) (Nat.le_refl _)) (ownFrom_pure _ _)
    case hIx =>
      rintro c s W W' row ⟨hc, r, x, h1, h2, h3, b1, b2, hs, hB⟩ hg hr
      exact ⟨hc, r, x, h1, h2, h3, blk_kept b1 hg (fun k e => (hr k e).2), blk_kept b2 hg (fun k e => (hr k e).2), u8_kept hs hg (fun k e => (hr k e).2), hB.grown hg (Nat.le_trans hwz hB.size) (fun k e => Nat.le_trans hwz (hr k e).1)⟩
    case hAx =>
      rintro x a' s W W' row ⟨Bx, b1, ha⟩ hg hr
      exact ⟨Bx, blk_kept b1 hg (fun k e => (hr k e).2), ha⟩
    case assign =>
      rintro l pre x W K ⟨hB, hp⟩ hK
      obtain ⟨-, -, -, -, e1, hs⟩ := Hel.out x.val x.isLt
      obtain ⟨ay, cy, e2⟩ := hs.form
      have h9 := hK _ _ ((KeepsOthers.alloc _ _).from _) ((Below.refl _ W).alloc hB.size _) ⟨hB.alloc hB.size _, hp⟩ ⟨W.heap.size, Blk.new _ _ _, rfl⟩
      rw [e1, e2] at h9 ⊢
      have H9 := Lib.hid h9
      clear h9 hs hK
      gi_wp2
      exact H9.out
    case body =>
      rintro l pre x a' W hl ⟨r, hr⟩ ⟨hB, hp⟩ ⟨Bx, bX, rfl⟩ hlt
      have hx := Hel.out x.val x.isLt
      obtain ⟨x0, x1, x2⟩ := bX.all
      rw [hx.2.2.2.2.1] at x0
      obtain ⟨p0, q0, r0⟩ := (L0.out.below hB).all
      obtain ⟨p1, q1, r1'⟩ := (L1.out.below hB).all
      obtain ⟨p2, q2, r2'⟩ := (L2.out.below hB).all
      have hx2 := Lib.hid hx.2.2.2.2.2
      obtain ⟨ay, cy, e2⟩ := hx.2.2.2.2.2.form
      rw [e2] at hx2 x0
      clear hx e2
      by_cases hxk : d.cache[x.val].addr = (k : Int)
      · have hxe : (d.cache[x.val].addr == (k : Int)) = true := by simpa using hxk
        have Hxk := Lib.hid hxk
        have Hp := Lib.hid hp
        clear hxk hp
        have hW : ∀ b, b < w.heap.size → ¬ DA M bd vc (.slice vkA d.cache.length vkc) b → W.heap[b]? = w.heap[b]? := fun b hb hm => (hB.block b (by omega)).trans (hG2.out.block b hb (fun e => hm (.inr (.inl (by injection e)))))
        have hkM : Keep w (DA M bd vc (.slice vkA d.cache.length vkc)) W (Ms.and (Ms.and (DA M bd vc (.slice vkA d.cache.length vkc)) (w.heap.size + 1)) (w.heap.size + 1 + 1)) := fun b hb hm => ⟨fun h' => by rcases h' with (h' | h') | h'; exact hm h'; omega; omega, hW b hb hm⟩
        have hcl := bclone_any (.slice ay d.cache[x.val].bytes.length cy) d.cache[x.val].bytes W _ (rv_list.2 (hx2.out.mono hkM)) (fun b hb => by
          rcases hb with (h' | h') | h'
          · have := H.out.mok hM b h'; omega
          · omega
          · omega) (Nat.le_trans (hbk _ (List.getElem_mem _)) (by omega))
        have Hcl := Lib.hid hcl
        clear hW hkM hcl
        gi_wp2_with fail
        refine ⟨trivial, (CallsIn.inRound l (callsIn_wide.2 Hcl.out)).mono ?_⟩
        rintro e W3 ⟨rv, rfl, hr3, hB3⟩
        have hs3 := rv_list.1 hr3
        obtain ⟨ar, cr, rfl⟩ := hs3.form
        have k1 := (L1.out.below hB).below hB3
        have k2 := (L2.out.below hB).below hB3
        obtain ⟨y1, z1, v1⟩ := k1.all
        obtain ⟨y2, z2, v2⟩ := k2.all
        have hs4 := hs3.mono (Keep.set2 (W := W3) (DA M bd vc (.slice vkA d.cache.length vkc)) (w.heap.size + 1) (w.heap.size + 1 + 1) (.slice ar d.cache[x.val].bytes.length cr) (.int .i64 0))
        have m1 := (k1.set_ 0 (.slice ar d.cache[x.val].bytes.length cr)).far (p := ⟨w.heap.size + 1 + 1, 0, none⟩) (by simp) (.int .i64 0)
        have m2 := (k2.far (p := ⟨w.heap.size + 1, 0, none⟩) (by simp) (.slice ar d.cache[x.val].bytes.length cr)).set_ 0 (.int .i64 0)
        have hB4 := (((hB.trans (hB3.mono hB.size)).mono hwz).setCell (p := ⟨w.heap.size + 1, 0, none⟩) (by simp) (.slice ar d.cache[x.val].bytes.length cr)).setCell (p := ⟨w.heap.size + 1 + 1, 0, none⟩) (by simp; omega) (.int .i64 0)
        have hO := (((others_of_below hB3).trans (KeepsOthers.setCell _ ⟨w.heap.size + 1, 0, none⟩ (.slice ar d.cache[x.val].bytes.length cr))).trans (KeepsOthers.setCell _ ⟨w.heap.size + 1 + 1, 0, none⟩ (.int .i64 0))).from w2.heap.size
        have Hs4 := Lib.hid hs4
        have M1 := Lib.hid m1
        have M2 := Lib.hid m2
        have HB4 := Lib.hid hB4
        have HO := Lib.hid hO
        clear hs4 m1 m2 hB4 hO k1 k2 hs3 hr3 hB3
        gi_wp2
        exact ⟨HO.out, rfl, _, x, by simp, fun y hy => Hp.out y (by simpa using hy), Hxk.out, M1.out, M2.out, Hs4.out, HB4.out⟩
      · have hxe : (d.cache[x.val].addr == (k : Int)) = false := by simpa using hxk
        have Hxk := Lib.hid hxk
        have Hp := Lib.hid hp
        clear hxk hp
        gi_wp2
        refine ⟨KeepsFrom.refl _ _, Below.refl _ _, hB, fun y hy => ?_⟩
        rcases List.mem_append.1 hy with h' | h'
        · exact Hp.out y h'
        · simp at h'; subst h'; exact Hxk.out
    case done =>
      rintro D ys W hD hys ⟨hB, hp⟩ hdef
      have hDz : D < W.heap.size := (Array.getElem?_eq_some_iff.1 hdef).1
      have hnoW := Lib.hid (lastW_none hys hp)
      have hBw := hB.mono hwz
      have hG3 := Lib.hid (grownBy_after hG2.out hBw)
      have D3 := Lib.hid (D2.out.below hB)
      have N0 := Lib.hid (L0.out.below hB)
      have N1 := Lib.hid (L1.out.below hB)
      have N2 := Lib.hid (L2.out.below hB)
      have HB := Lib.hid hB
      have hdr := Lib.hid (H.out.head hG3.out D3.out hbase)
      obtain ⟨g, c, vb0, vo0, rfl, hg, hf, k0, k1, k2, hsb0, hso0⟩ := celO_at H.out.cells hk
      have hgbd : some g ≠ some bd := fun e => by injection e with e; exact H.out.cells.ne_ H.out.blk (by decide) (by simp [Value.ownBlock, e])
      have e0 := hG3.out.cell k0 hgbd
      have e1 := hG3.out.cell k1 hgbd
      have e2 := hG3.out.cell k2 hgbd
      have hless : ∀ b, (DA M bd (.slice (some ⟨g, 0, none⟩) d.cells.length c) (.slice vkA d.cache.length vkc)) b → (DM M bd (.slice vkA d.cache.length vkc) b ∨ (Value.slice (some ⟨g, 0, none⟩) d.cells.length c).ownBlock = some b) := by
        rintro b (h' | h' | h' | h')
        · exact .inl (.inl h')
        · exact .inl (.inr (.inl h'))
        · exact .inr h'
        · exact .inl (.inr (.inr h'))
      have hsb := hsb0.mono (Keep.less hless)
      have hso := hso0
      obtain ⟨c3, f3, l3⟩ := D3.out.all
      have hi : (k : Int) < (d.cells.length : Int) := by omega
      have c0 := N0.out.cell
      clear hB hp hstops
      gi_wp2
      refine wpIn_wide.2 (wp_region_noPanic ?_)
      have e0' : W.cell? ⟨g, k * 3, none⟩ = some (.int .i64 d.cells[k].state) := e0
      have hS := Lib.hid (And.intro c3 (And.intro (N0.out.cell 0) (And.intro e0' (And.intro e1 e2))))
      refine rg_enter [0, 1, 2, 3, 4, 5, 6, 7] (fun w' => (∀ i, w'.cell? ⟨bd, i, none⟩ = #[Value.slice (some ⟨g, 0, none⟩) d.cells.length c, .slice vkA d.cache.length vkc, .int .i64 (reqD d).reqs, .int .i64 (reqD d).left][i]?) ∧
        w'.cell? ⟨w.heap.size, 0, none⟩ = some (.int .i64 k) ∧ w'.cell? ⟨g, k * 3, none⟩ = some (.int .i64 d.cells[k].state) ∧ w'.cell? ⟨g, k * 3 + 1, none⟩ = some vb0 ∧ w'.cell? ⟨g, k * 3 + 2, none⟩ = some vo0) (by kernel_rfl) ?_
      clear e0 e0' e1 e2 c3 c0
      apply rg_take 0 rfl (by kernel_rfl) (fun _ _ _ h => h) (hS.out) rfl
      · (rintro W ⟨s0, s1, s2, s3, s4⟩; go_simp; try rfl)
      · (go_simp; try rfl)
      apply rg_take 1 rfl (by kernel_rfl) (fun _ _ _ h => h) (hS.out) rfl
      · (rintro W ⟨s0, s1, s2, s3, s4⟩; go_simp; try rfl)
      · (go_simp; try rfl)
      apply rg_take 2 rfl (by kernel_rfl) (fun _ _ _ h => h) (hS.out) rfl
      · (rintro W ⟨s0, s1, s2, s3, s4⟩; go_simp; try rfl)
      · (go_simp; try rfl)
      apply rg_take 3 rfl (by kernel_rfl) (fun _ _ _ h => h) (hS.out) rfl
      · (rintro W ⟨s0, s1, s2, s3, s4⟩; go_simp; try rfl)
      · (go_simp; try rfl)
      apply rg_take 4 rfl (by kernel_rfl) (fun _ _ _ h => h) (hS.out) rfl
      · (rintro W ⟨s0, s1, s2, s3, s4⟩; go_simp; try rfl)
      · (go_simp; try rfl)
      apply rg_take 5 rfl (by kernel_rfl) (fun _ _ _ h => h) (hS.out) rfl
      · (rintro W ⟨s0, s1, s2, s3, s4⟩; go_simp; try rfl)
      · (go_simp; try rfl)
      apply rg_take 6 rfl (by kernel_rfl) (fun _ _ _ h => h) (hS.out) rfl
      · (rintro W ⟨s0, s1, s2, s3, s4⟩; go_simp; try rfl)
      · (go_simp; try rfl)
      apply rg_take 7 rfl (by kernel_rfl) (fun _ _ _ h => h) (hS.out) rfl
      · (rintro W ⟨s0, s1, s2, s3, s4⟩; go_simp; try rfl)
      · (go_simp; try rfl)
      refine rg_only 8 (by kernel_rfl) rfl (fun K hK => ?_)
      go_simp
      refine hK _ _ ⟨fun _ => ?_, ?_⟩
      · obtain ⟨s0, s1, s2, s3, s4⟩ := hS.out
        refine ⟨fun i => ?_, ?_, ?_, ?_, ?_⟩
        · exact (World.cell?_alloc_lt _ _ _ (by simp; omega)).trans (s0 i)
        · exact (World.cell?_alloc_lt _ _ _ (by simp; omega)).trans s1
        · exact (World.cell?_alloc_lt _ _ _ (by exact World.block_lt_of_cell? W _ s2)).trans s2
        · exact (World.cell?_alloc_lt _ _ _ (by exact World.block_lt_of_cell? W _ s3)).trans s3
        · exact (World.cell?_alloc_lt _ _ _ (by exact World.block_lt_of_cell? W _ s4)).trans s4
      clear hK K
      obtain ⟨ab, cb, rfl⟩ := hsb.form
      obtain ⟨ao, co, rfl⟩ := hso.form
      have Hsb := Lib.hid hsb
      clear hsb hso hS
      refine rg_free 9 (by kernel_rfl) (by kernel_rfl) rfl (fun K hK => ?_)
      go_simp
      refine hK _ _ ?_; clear hK K
      refine rg_done (by kernel_rfl) ?_
      refine NoPanic.normal ?_
      have hB4 : Below W.heap.size W (W.alloc (.cells #[.int .i64 d.cells[k].state, .slice ab d.cells[k].bytes.length cb, .slice ao d.cells[k].old.length co] 47)).drew := ((Below.refl _ _).alloc (Nat.le_refl _) _).drew
      have x4 := (Blk.new W 47 #[.int .i64 d.cells[k].state, .slice ab d.cells[k].bytes.length cb, .slice ao d.cells[k].old.length co]).drew
      have hdef4 : (W.alloc (.cells #[.int .i64 d.cells[k].state, .slice ab d.cells[k].bytes.length cb, .slice ao d.cells[k].old.length co] 47)).drew.heap[D]? = some (.deferred (some [])) := (hB4.block D hDz).trans hdef
      have hz4 : W.heap.size < (W.alloc (.cells #[.int .i64 d.cells[k].state, .slice ab d.cells[k].bytes.length cb, .slice ao d.cells[k].old.length co] 47)).drew.heap.size := by simp
      have Hdef4 := Lib.hid hdef4
      have X4 := Lib.hid x4
      have HB4 := Lib.hid (HB.out.trans (hB4.mono HB.out.size))
      have P1 := Lib.hid (N1.out.below hB4)
      have P2 := Lib.hid (N2.out.below hB4)
      have hW4 : ∀ b, b < w.heap.size → b ≠ bd → (W.alloc (.cells #[.int .i64 d.cells[k].state, .slice ab d.cells[k].bytes.length cb, .slice ao d.cells[k].old.length co] 47)).drew.heap[b]? = w.heap[b]? := fun b hb hne => (hB4.block b (by have := HB.out.size; omega)).trans (hG3.out.block b hb (fun e => hne (by injection e)))
      have HW4 := Lib.hid hW4
      clear hW4
      clear hB4 x4 hdef4 hdef
      generalize hW4 : (W.alloc (.cells #[.int .i64 d.cells[k].state, .slice ab d.cells[k].bytes.length cb, .slice ao d.cells[k].old.length co] 47)).drew = W4 at *
      obtain ⟨y0, z0, v0⟩ := X4.out.all
      obtain ⟨y1, z1, v1⟩ := P1.out.all
      obtain ⟨y2, z2, v2⟩ := P2.out.all
      by_cases hst : d.cells[k].state = 0
      · have hse : (d.cells[k].state != 0) = false := by simp [hst]
        have hv := Lib.hid (readV_cell (k := k) hl'.out hnoW.out hk hst)
        clear hst
        have hM4 : MOk W4 (Ms.and (Ms.and (DA M bd (.slice (some ⟨g, 0, none⟩) d.cells.length c) (.slice vkA d.cache.length vkc)) (w.heap.size + 1)) (w.heap.size + 1 + 1)) := fun b hb => by
          rcases hb with (h' | h') | h'
          · have := H.out.mok hM b h'; omega
          · omega
          · omega
        have hcl := Lib.hid (bclone_any (.slice ab d.cells[k].bytes.length cb) d.cells[k].bytes W4 _ (rv_list.2 (Hsb.out.mono (fun b hb hm => ⟨fun h' => (by rcases h' with (h' | h') | h'; exact hm h'; omega; omega), HW4.out b hb (fun e => hm (.inr (.inl e)))⟩))) hM4 (Nat.le_trans (hbl _ (List.getElem_mem _)) (by omega)))
        gi_wp2_with fail
        refine ⟨trivial, (callsIn_wide.2 hcl.out).mono ?_⟩
        rintro e W5 ⟨rv, rfl, hr5, hB5⟩
        have hs5 := rv_list.1 hr5
        obtain ⟨ar, cr, rfl⟩ := hs5.form
        have p1 := P1.out.below hB5
        have p2 := P2.out.below hB5
        obtain ⟨u1, z1', v1'⟩ := p1.all
        obtain ⟨u2, z2', v2'⟩ := p2.all
        have hs6 := hs5.mono (Keep.set2 (W := W5) (DA M bd (.slice (some ⟨g, 0, none⟩) d.cells.length c) (.slice vkA d.cache.length vkc)) (w.heap.size + 1) (w.heap.size + 1 + 1) (.slice ar d.cells[k].bytes.length cr) (.int .i64 0))
        have hB6 := ((HB4.out.trans (hB5.mono HB4.out.size)).mono hwz).setCell (p := ⟨w.heap.size + 1, 0, none⟩) (by simp) (.slice ar d.cells[k].bytes.length cr) |>.setCell (p := ⟨w.heap.size + 1 + 1, 0, none⟩) (by simp; omega) (.int .i64 0)
        have q1 := (p1.set_ 0 (.slice ar d.cells[k].bytes.length cr)).far (p := ⟨w.heap.size + 1 + 1, 0, none⟩) (by simp) (.int .i64 0)
        have q2 := (p2.far (p := ⟨w.heap.size + 1, 0, none⟩) (by simp) (.slice ar d.cells[k].bytes.length cr)).set_ 0 (.int .i64 0)
        have hd6 := deferred_set (deferred_set ((hB5.block D (by omega)).trans Hdef4.out) (g := w.heap.size + 1) (i := 0) (u := .slice ar d.cells[k].bytes.length cr)) (g := w.heap.size + 1 + 1) (i := 0) (u := .int .i64 0)
        have hfin := Lib.hid (fin.out D _ _ d.cells[k].bytes 0 hD q1 q2 hs6 hB6 hd6)
        have Hd6 := Lib.hid hd6
        clear hd6 q1 q2 hB6 hs6 p1 p2 hs5 hr5 hB5
        gi_wp2
        obtain ⟨o1, o2, ns, hst⟩ := hfin.out
        refine ⟨by simp, .inl ⟨_, _, rfl, run_takeDeferred Hd6.out, ?_⟩⟩
        rw [hv.out, show readD d = { d with reqs := (reqD d).reqs, left := (reqD d).left } from if_neg hl'.out]
        exact ⟨.tuple #[.slice ar d.cells[k].bytes.length cr, .int .i64 0], by simp [results, Try.results37, go_sem, o1, o2], _, rfl, ns, hst⟩
      · have hse : (d.cells[k].state != 0) = true := by simp [hst]
        have hv := Lib.hid (readV_bad (k := k) hl'.out hnoW.out hk hst)
        clear hst
        gi_wp2
        have hB6 := (HB4.out.mono hwz).setCell (p := ⟨w.heap.size + 1, 0, none⟩) (by simp) (.slice none 0 0) |>.setCell (p := ⟨w.heap.size + 1 + 1, 0, none⟩) (by simp; omega) (.int .i64 6)
        have q1 := (P1.out.set_ 0 (.slice none 0 0)).far (p := ⟨w.heap.size + 1 + 1, 0, none⟩) (by simp) (.int .i64 6)
        have q2 := (P2.out.far (p := ⟨w.heap.size + 1, 0, none⟩) (by simp) (.slice none 0 0)).set_ 0 (.int .i64 6)
        have hd6 := deferred_set (deferred_set Hdef4.out (g := w.heap.size + 1) (i := 0) (u := .slice none 0 0)) (g := w.heap.size + 1 + 1) (i := 0) (u := .int .i64 6)
        obtain ⟨o1, o2, ns, hst⟩ := fin.out D _ _ [] 6 hD q1 q2 ⟨none, 0, [], rfl, by simp, by simp [maxLen], rfl, fun h => absurd rfl h⟩ hB6 hd6
        refine ⟨by simp, .inl ⟨_, _, rfl, run_takeDeferred hd6, ?_⟩⟩
        rw [hv.out, show readD d = { d with reqs := (reqD d).reqs, left := (reqD d).left } from if_neg hl'.out]
        exact ⟨.tuple #[.slice none 0 0, .int .i64 6], by simp [results, Try.results37, go_sem, o1, o2], _, rfl, ns, hst⟩
    case stop =>
      rintro D c pre W hD ⟨j, hj, hpre⟩ ⟨rfl, r, x, hlast, hp, hx, b1, b2, hs, hB⟩ hdef
      obtain ⟨o1, o2, ns, hst⟩ := fin.out D W r d.cache[x.val].bytes 0 hD b1 b2 hs hB hdef
      have hv := Lib.hid (readV_hit (d := d) (k := k) hl' hj hpre hlast hp hx)
      gi_wp2
      refine ⟨by simp, .inl ⟨_, _, rfl, run_takeDeferred hdef, ?_⟩⟩
      rw [hv.out, show readD d = { d with reqs := (reqD d).reqs, left := (reqD d).left } from if_neg hl'.out]
      exact ⟨.tuple #[r, .int .i64 0], by simp [results, Try.results37, go_sem, o1, o2], r, rfl, ns, hst⟩
end Go.Proofs.Ytkdjacmabeeceaa
