/-
Several texts in one.
-/
import Derived.Test.YteecmgonbdbhdaaGreatDoorComP0
import Derived.Laws.OwnMore
import Derived.Laws.RangeString
import Derived.Deep.LoopGhost
import Derived.LoopN
import Derived.Test.YteecmgonbdbhdaaGreatDoorProg
import Derived.Ground.NamesProg
import Derived.Shelf.Unicode.ValidAny
import Derived.ProofKit
import Derived.Deep.Slices
import Derived.OpenShut
import Derived.Lib.LaidIn
import Derived.Lib.LaidU8T
import Derived.LaidHandle
import Derived.MakeChecks
import Derived.Handed
import Derived.Lib.IndexBytes

/-
Appends, in the abstract and in memory.
-/
section
namespace Go.Proofs.YteecmgonbdbhdaaGreatDoor.A
open Go.RowKit

section
variable {w0 : Fl} {M0 : Ms} {c : Ctx} {H : List AB}
theorem flat_range {get : Nat → List AV} {sz : Nat} {c : Ctx} {b off : Nat} : ∀ (m : Nat), (∀ i, i < m → (get i).length = sz ∧ RdAt (get i) c b (off + i * sz)) →
    RdAt ((List.range m).map get).flatten c b off ∧ ((List.range m).map get).flatten.length = m * sz
  | 0, _ => by simp [RdAt]
  | m + 1, h => by
    obtain ⟨h1, h2⟩ := flat_range m fun i hi => h i (by omega)
    obtain ⟨h3, h4⟩ := h m (by omega)
    rw [List.range_succ, List.map_append, List.flatten_append]
    simp only [List.map_cons, List.map_nil, List.flatten_cons, List.flatten_nil, List.append_nil]
    refine ⟨RdAt.append.2 ⟨h1, by rw [h2]; exact h4⟩, by rw [List.length_append, h2, h3, Nat.add_mul]; omega⟩
theorem src_sound (hs : HS w0 M0 c H) {esz : Nat} {x : AV} {u : Value} (hr : Rd x c u) {k : List (List AV) → Nat → Prop} (h : srcK H esz x k) :
    ∃ ess m, k ess m ∧ ess.length = m ∧ (∀ e ∈ ess, e.length = esz) ∧ ∃ a p, u = .slice a m p ∧ (m = 0 ∨ ∃ b off ys, a = some ⟨b, off, none⟩ ∧ RdL ess.flatten c.closed ys ∧ (∀ u ∈ ys, u.oneCell' = true) ∧ ∀ j u, ys[j]? = some u → c.w.cell? ⟨b, off + j, none⟩ = some u) := by
  unfold srcK at h
  split at h
  · rename_i sz m get
    split at h
    · rename_i hb
      have := Nat.eq_of_beq_eq_true hb
      subst this
      simp only [Rd] at hr
      obtain ⟨a, p, rfl, h1, h2, h3⟩ := hr
      refine ⟨_, m, h, by simp, fun e he => ?_, a, p, rfl, ?_⟩
      · obtain ⟨i, hi, rfl⟩ := List.mem_map.1 he
        rcases h3 with rfl | ⟨b, off, _, _, _, hc⟩
        · simp at hi
        · exact (hc i (by simpa using hi)).1
      · refine h3.imp id ?_
        rintro ⟨b, off, rfl, _, _, hc⟩
        obtain ⟨q1, q2⟩ := flat_range m hc
        obtain ⟨ys, q3, q4, q5⟩ := q1.list
        exact ⟨b, off, ys, rfl, q3, q4, q5⟩
    · exact h.elim
  · rename_i j m
    rw [hget_eq] at h
    split at h
    · rename_i t sz es hj
      split at h
      · rename_i hb
        have := Nat.eq_of_beq_eq_true hb
        subst this
        obtain ⟨rfl, h⟩ := h
        obtain ⟨h1, h2, h3, xs, h4, h5, h6⟩ := hs.blk j _ hj
        simp only [Rd] at hr
        obtain ⟨q1, q2, q3, q4⟩ := hr
        have hur := q4 h1.symm
        subst hur
        rcases h4.2 with ⟨hn, hz⟩ | ⟨g, cap, cur, hv, _⟩
        · exact ⟨_, _, h, rfl, h3, none, 0, by rw [hn, hz], .inl hz⟩
        · refine ⟨_, _, h, rfl, h3, _, cap, hv, .inr ⟨g, 0, xs, rfl, h5, h6, fun i u hu => ?_⟩⟩
          rw [Nat.zero_add]
          exact row_at h4 hv hu
      · exact h.elim
    · exact h.elim
  · rename_i p
    simp only [Rd] at hr
    exact ⟨_, _, h, rfl, by simp, none, p, hr, .inl rfl⟩
  · exact h.elim

theorem ownB {v : Value} {base : Nat} {t : TypeId} {sz n : Nat} {xs : List Value} {w : World} (h : w.ownsRow base t sz v n xs) : oB v = v.ownBlock := by
  rcases h.2 with ⟨rfl, _⟩ | ⟨g, cap, cur, rfl, _⟩ <;> rfl

theorem append_sound {P : Program} (hs : HS w0 M0 c H) {t et ty : TypeId} {esz sz : Nat} {ty1 ty2 : Ty} (ht : TyOk P t ty1) (hd : ty1.d = .slice et esz) (he : TyOk P et ty2) (hsz : ty2.sz = sz) (_ : 0 < sz) (hzl : ty2.zero.length = sz)
    {j n m : Nat} {es ess : List (List AV)} (hj : H[j]? = some (.row et sz es)) (hn : n = es.length) (hm : ess.length = m) (hle : ∀ e ∈ ess, e.length = sz) (hbd : n + m ≤ 1000000000)
    {v : Value} (hv : Rd (.ow j n) c v) {a : Option Addr} {p : Nat} (hsrc : m = 0 ∨ ∃ b off ys, a = some ⟨b, off, none⟩ ∧ RdL ess.flatten c.closed ys ∧ (∀ u ∈ ys, u.oneCell' = true) ∧ ∀ i u, ys[i]? = some u → c.w.cell? ⟨b, off + i, none⟩ = some u) :
    ∃ v' c', (Builtin.append_ #[t, t] ty #[v, .slice a m p]).run P c.w = .ok v' c'.w ∧ HS w0 M0 c' (H.set j (.row et sz (es ++ ess))) ∧ Ext c c' ∧ Rd (.ow j (n + m)) c' v' := by
  obtain ⟨i1, d1, z1, hp1⟩ := ht.parts
  obtain ⟨i2, d2, z2, hp2⟩ := he.parts
  have htd := hp1.td
  rw [hd] at htd
  obtain ⟨e', rfl⟩ : ∃ e, d1 = .slice e := by cases d1 <;> simp [tdOf] at htd; exact ⟨_, rfl⟩
  simp only [tdOf, TD.slice.injEq] at htd
  obtain ⟨rfl, _⟩ := htd
  obtain ⟨h1, h2, h3, xs, h4, h5, h6⟩ := hs.blk j _ hj
  have hv0 := hv
  simp only [Rd] at hv
  obtain ⟨q1, q2, q3, q4⟩ := hv
  have hvr := q4 (by omega)
  have hjl := hs.klt hj
  by_cases hm0 : m = 0
  · subst hm0
    have he0 : ess = [] := List.eq_nil_of_length_eq_zero hm
    subst he0
    have hset : H.set j (.row e' sz (es ++ [])) = H := by
      rw [List.append_nil]
      apply List.ext_getElem?
      intro k
      by_cases hk : k = j
      · subst hk; rw [List.getElem?_set_self (List.getElem?_eq_some_iff.1 hj).1, hj]
      · rw [List.getElem?_set_ne (Ne.symm hk)]
    refine ⟨v, c, ?_, by rw [hset]; exact hs, Ext.refl c, by simpa using hv0⟩
    have hsi : i2.size = sz := by rw [hp2.size, hsz]
    rw [hvr]
    rcases h4.2 with ⟨hn', h0⟩ | ⟨g, cap, cur, hv', _, hg, hnc, _⟩
    · rw [hn']
      cases a <;> simp [Builtin.append_, run_underlying hp1.und, sizeOf, typeInfo, hp2.info, Builtin.lenOf, Builtin.firstCells, loadCells, loadCellsFrom]
    · rw [hv']
      cases a <;> simp [Builtin.append_, run_underlying hp1.und, sizeOf, typeInfo, hp2.info, Builtin.lenOf, Builtin.firstCells, hnc, storeCells, loadCells, loadCellsFrom]
  · obtain ⟨b, off, ys, rfl, r1, r2, r3⟩ := hsrc.resolve_left hm0
    have hbase : c.base ≤ c.w.heap.size := by rw [hs.base]; exact Nat.zero_le _
    have hfl : ∀ (l : List (List AV)), (∀ e ∈ l, e.length = sz) → l.flatten.length = l.length * sz := by
      intro l
      induction l with
      | nil => simp
      | cons x l ih => intro h; rw [List.flatten_cons, List.length_append, ih fun e he => h e (by simp [he]), h x (by simp), List.length_cons, Nat.add_mul]; omega
    have hyl : ys.length = m * sz := by rw [r1.length, hfl ess hle, hm]
    have hbytes : (es.length + m) * i2.bytes ≤ 1000000000 * 1000 := Nat.mul_le_mul (by omega) hp2.bytes
    obtain ⟨v', w', hrun, ho', hgr, _, hat⟩ := run_append_own_at (P := P) c.w c.base t ty e' i2 z2 sz i2.bytes hp1.und hp2.info hp2.zero (by rw [hp2.size, hsz]) rfl (by rw [← hzl, ← hp2.zc]; simp) h2
      (c.rho j) es.length xs h4 ⟨b, off, none⟩ m p ys hyl (fun i u hu => by rw [Addr.add_lit]; exact r3 i u hu) r2 (by unfold maxLen; omega) (by omega) hbase
    have hob := ownB h4
    have hob' := ownB ho'
    have hmg : ∀ g, oB (c.rho j) = some g → c.M g ∧ ¬ w0.old g := fun g hg => hs.own j _ g hj rfl hg
    let c' : Ctx := { w := w', base := c.base, M := fun b => c.M b ∨ oB v' = some b, rho := fun k => if k = j then v' else c.rho k, len := fun k => if k = j then es.length + m else c.len k, dom := c.dom }
    have hrow : ∀ g, c.rho j ≠ .pointer g := fun g hg => by rcases h4.2 with ⟨e, _⟩ | ⟨_, _, _, e, _⟩ <;> rw [e] at hg <;> cases hg
    have e : Ext c c' := by
      refine ⟨hgr.os, hgr.tape, hgr.output, hgr.size, fun b hb hmb => ⟨fun hm' => ?_, hgr.block b hb fun e => ?_⟩, Nat.le_refl _, fun k hk => ?_, fun k hk hlk => ?_, fun k g hk hg => ?_⟩
      · rcases hm' with h | h
        · exact hmb h
        · rw [hob'] at h
          rcases hat with h7 | h7
          · rw [h7, ← hob] at h; exact hmb (hmg b h).1
          · rw [h7] at h; cases h; omega
      · rw [← hob] at e; exact hmb (hmg b e.symm).1
      · simp only [c']; split
        · rename_i hkj; subst hkj; omega
        · exact Nat.le_refl _
      · simp only [c'] at hlk ⊢
        split
        · rename_i hkj; subst hkj; rw [if_pos rfl] at hlk; omega
        · rfl
      · simp only [c']; split
        · rename_i hkj; subst hkj; exact absurd hg (hrow g)
        · exact hg
    have hget : ∀ k y, (H.set j (.row e' sz (es ++ ess)))[k]? = some y → (k = j ∧ y = .row e' sz (es ++ ess)) ∨ (k ≠ j ∧ H[k]? = some y) := by
      intro k y hk
      by_cases hkj : k = j
      · subst hkj
        rw [List.getElem?_set_self (List.getElem?_eq_some_iff.1 hj).1] at hk
        cases hk; exact .inl ⟨rfl, rfl⟩
      · rw [List.getElem?_set_ne (Ne.symm hkj)] at hk
        exact .inr ⟨hkj, hk⟩
    have hog : ∀ g, oB v' = some g → c.base ≤ g ∧ g < w'.heap.size := by
      intro g hg
      rcases ho'.2 with ⟨e, _⟩ | ⟨g', cap, cur, e, q, hh, _⟩
      · rw [e] at hg; simp [oB] at hg
      · rw [e] at hg; simp [oB] at hg; subst hg; exact ⟨q, (Array.getElem?_eq_some_iff.1 hh).1⟩
    have hother : ∀ k y g, k ≠ j → H[k]? = some y → y.live = true → oB (c.rho k) = some g → w'.heap[g]? = c.w.heap[g]? := by
      intro k y g hkj hk hl hg
      refine hgr.block g (hs.sub hk hl hg) fun e => ?_
      rw [← hob] at e
      exact hkj (hs.dis k j y _ g hk hj hl rfl hg e.symm)
    have hlow : LowF w0 w' := ⟨hgr.os.trans hs.low.os, hgr.tape.trans hs.low.tape, hgr.output.trans hs.low.output, Nat.le_trans hs.low.size hgr.size, fun b hb => (hgr.block b (Nat.lt_of_lt_of_le (w0.lt b hb) hs.low.size) fun e => by rw [← hob] at e; exact (hmg b e.symm).2 hb).trans (hs.low.block b hb)⟩
    have hold : ∀ g, oB v' = some g → ¬ w0.old g := by
      intro g hg ho
      rw [hob'] at hg
      rcases hat with h7 | h7
      · rw [h7, ← hob] at hg; exact (hmg g hg).2 ho
      · rw [h7] at hg; cases hg; have := Nat.lt_of_lt_of_le (w0.lt _ ho) hs.low.size; omega
    refine ⟨v', c', by rw [hvr]; exact hrun, ⟨hlow, hs.base, by simp [c', hs.dom], fun b hb => ?_, fun b hmb => ?_, fun k y hk => ?_, fun k y g hk hl hg => ?_, fun i k y z g hi hk hly hlz hgi hgk => ?_⟩, e, ?_⟩
    · refine ⟨fun hmb => ?_, fun hmb => .inl ((hs.foreign b hb).2 hmb)⟩
      rcases hmb with h | h
      · exact (hs.foreign b hb).1 h
      · exact (hold b h hb).elim
    · rcases hmb with h | h
      · exact Nat.lt_of_lt_of_le (hs.lt b h) hgr.size
      · exact (hog b h).2
    · rcases hget k y hk with ⟨rfl, rfl⟩ | ⟨hkj, hk'⟩
      · refine ⟨by simp [c', hm], h2, fun e he => ?_, xs ++ ys, by simpa [c', hm] using ho', ?_, ?_⟩
        · rcases List.mem_append.1 he with h | h
          · exact h3 e h
          · exact hle e h
        · rw [List.flatten_append]
          exact (RdL.ext _ e.closed h5).append (RdL.ext _ e.closed r1)
        · intro u hu
          rcases List.mem_append.1 hu with h | h
          · exact h6 u h
          · exact r2 u h
      · exact BlkOk.ext e rfl (hs.klt hk') (by simp [c', hkj]) (fun g hl hg => hother k y g hkj hk' hl hg) (hs.blk k y hk')
    · rcases hget k y hk with ⟨rfl, rfl⟩ | ⟨hkj, hk'⟩
      · simp only [c', if_true] at hg
        exact ⟨.inr hg, hold g hg⟩
      · simp only [c', if_neg hkj] at hg
        have := hs.own k y g hk' hl hg
        exact ⟨.inl this.1, this.2⟩
    · have key : ∀ k y g, k ≠ j → H[k]? = some y → y.live = true → oB (c.rho k) = some g → oB v' = some g → False := by
        intro k y g hkj hk hl hg hg'
        rw [hob'] at hg'
        rcases hat with h7 | h7
        · rw [h7, ← hob] at hg'
          exact hkj (hs.dis k j y _ g hk hj hl rfl hg hg')
        · rw [h7] at hg'; cases hg'
          have := hs.sub hk hl hg
          omega
      rcases hget i y hi with ⟨rfl, rfl⟩ | ⟨hij, hi'⟩ <;> rcases hget k z hk with ⟨rfl, rfl⟩ | ⟨hkj, hk'⟩
      · rfl
      · simp only [c', if_true] at hgi
        simp only [c', if_neg hkj] at hgk
        exact (key k z g hkj hk' hlz hgk hgi).elim
      · simp only [c', if_true] at hgk
        simp only [c', if_neg hij] at hgi
        exact (key i y g hij hi' hly hgi hgk).elim
      · simp only [c', if_neg hij] at hgi
        simp only [c', if_neg hkj] at hgk
        exact hs.dis i k y z g hi' hk' hly hlz hgi hgk
    · simp only [Rd]
      refine ⟨q1, by simp [c', hn], ?_, fun _ => by simp [c']⟩
      rcases ho'.2 with ⟨e, hz⟩ | ⟨g', cap, cur, e, _⟩
      · omega
      · exact ⟨_, cap, by rw [e, hn], fun _ => ⟨g', rfl⟩⟩
end
end Go.Proofs.YteecmgonbdbhdaaGreatDoor.A
end

/-
What an operation does that makes memory, writes, calls: it is so.
-/
section
namespace Go.Proofs.YteecmgonbdbhdaaGreatDoor.A
open Go.RowKit

theorem run_newVar {P : Program} {w : World} (t : TypeId) (v : Value) : (newVar t v).run P w = .ok ⟨w.heap.size, 0, none⟩ (w.alloc (.cells v.cells t)) := rfl
theorem run_storeVar {P : Program} {w w' : World} {t : TypeId} {a : Addr} {v : Value} {ty : Ty} (h : TyOk P t ty) (hs : v.cells.size = ty.sz) (hr : (storeCells a v.cells.toList).run P w = .ok () w') : (storeVar t a v).run P w = .ok () w' := by
  obtain ⟨i, d, z, hp⟩ := h.parts
  unfold storeVar
  simp only [Sem.run_bind, hp.sizeOf, Result.andThen_ok, hs, ne_eq, not_true_eq_false, if_false]
  simpa using hr
theorem zero_rd {c : Ctx} : ∀ (l : List Value), RdL (l.map .v) c l
  | [] => by simp [RdL]
  | x :: l => by simp only [List.map_cons, RdL]; exact ⟨x, l, rfl, by simp [Rd], zero_rd l⟩
theorem zrep_rd {c : Ctx} (z : List Value) : ∀ n, RdL (zrep n z) c (List.replicate n z).flatten
  | 0 => by simp [zrep, RdL]
  | n + 1 => by
    rw [List.replicate_succ, List.flatten_cons]
    exact (zero_rd z).append (zrep_rd z n)
theorem zrow {z : Array Value} (hz : 0 < z.size) (n : Nat) : ((Array.range (n * z.size)).map fun i => z[i % z.size]!).toList = (List.replicate n z.toList).flatten := by
  apply List.ext_getElem?
  intro i
  have hfl : ∀ n : Nat, (List.replicate n z.toList).flatten.length = n * z.size := by intro n; simp
  have hget : ∀ (n i : Nat), i < n * z.size → (List.replicate n z.toList).flatten[i]? = z.toList[i % z.size]? := by
    intro n
    induction n with
    | zero => intro i hi; omega
    | succ n ih =>
      intro i hi
      rw [List.replicate_succ, List.flatten_cons]
      rcases Nat.lt_or_ge i z.size with h | h
      · rw [List.getElem?_append_left (by simpa using h), Nat.mod_eq_of_lt h]
      · rw [List.getElem?_append_right (by simpa using h), ih _ (by rw [Nat.add_mul] at hi; simp; omega)]
        simp only [Array.length_toList]
        rw [Nat.mod_eq_sub_mod h]
  rcases Nat.lt_or_ge i (n * z.size) with h | h
  · rw [hget n i h]
    have hm : i % z.size < z.size := Nat.mod_lt _ hz
    simp [h, hm]
  · rw [List.getElem?_eq_none (by simpa using h), List.getElem?_eq_none (by rw [hfl]; exact h)]

theorem flat_set {sz : Nat} : ∀ (es : List (List AV)) (i off : Nat) (l : List AV), (∀ e ∈ es, e.length = sz) → i < es.length → off + l.length ≤ sz →
    (es.set i ((es.getD i []).take off ++ l ++ (es.getD i []).drop (off + l.length))).flatten = es.flatten.take (i * sz + off) ++ l ++ es.flatten.drop (i * sz + off + l.length)
  | [], _, _, _, _, h, _ => by simp at h
  | e :: es, 0, off, l, h, _, hl => by
    have he := h e (by simp)
    simp only [List.set_cons_zero, List.getD_cons_zero, List.flatten_cons, Nat.zero_mul, Nat.zero_add]
    rw [List.take_append_of_le_length (by omega), List.drop_append_of_le_length (by omega)]
    simp
  | e :: es, i + 1, off, l, h, hi, hl => by
    have he := h e (by simp)
    have ih := flat_set es i off l (fun x hx => h x (by simp [hx])) (by simpa using hi) hl
    simp only [List.set_cons_succ, List.getD_cons_succ, List.flatten_cons]
    rw [ih, Nat.add_mul, Nat.one_mul, show i * sz + sz + off = e.length + (i * sz + off) by omega, show e.length + (i * sz + off) + l.length = e.length + (i * sz + off + l.length) by omega, List.take_append, List.drop_append, List.take_of_length_le (l := e) (by omega), show List.drop (e.length + (i * sz + off + l.length)) e = [] from List.drop_eq_nil_of_le (by omega)]
    simp
theorem take_splice {A v : List Value} {p N : Nat} (h : p + v.length ≤ N) (hN : N ≤ A.length) : (A.take p ++ v ++ A.drop (p + v.length)).take N = (A.take N).take p ++ v ++ (A.take N).drop (p + v.length) := by
  have hp : (A.take p ++ v).length = p + v.length := by rw [List.length_append, List.length_take]; omega
  rw [List.take_append, List.take_of_length_le (by omega), hp, List.take_take, Nat.min_eq_left (by omega), List.drop_take]

theorem fill_more {p q : Nat → Option (Nat × Nat)} : ∀ {l : List (Nat × Value)} {cs r : Array Value}, Instr.fill p cs l = some r → (∀ i x, p i = some x → q i = some x) → Instr.fill q cs l = some r
  | [], _, _, h, _ => by simpa [Instr.fill] using h
  | (i, v) :: l, cs, r, h, hq => by
    simp only [Instr.fill] at h ⊢
    cases hp : p i with
    | none => rw [hp] at h; simp at h
    | some x =>
      rw [hp] at h
      rw [hq i x hp]
      simp only at h ⊢
      split at h
      · cases h
      · rename_i hn
        rw [if_neg hn]
        exact fill_more h hq

set_option maxHeartbeats 1000000 in
theorem eff_sound {P : Program} {T : Tys} (hT : TOk P T) {w0 : Fl} {M0 : Ms} {c : Ctx} {H : List AB} (hs : HS w0 M0 c H) {n : Nat} {fr : Fr} {a : Act} (hf : FR c n fr a) {o : Oper} {k : AV → List AB → Prop} {q : Bool} (h : eff P T q o.op (ev fr) H k)
    {next : Act → World → Prop} {Q : Exit → Act → World → Prop} (hn : ∀ r H' c' v, k r H' → HS w0 M0 c' H' → Ext c c' → Rd r c' v → (q = true → Old c.w c'.w) → next (a.put o.dst v) c'.w) : o.wp P a c.w next Q := by
  unfold eff at h
  unfold Oper.wp
  split at h
  · rename_i t ho
    split at h
    · rename_i ty ht
      split at h
      · rename_i hz
        have h := snocK_iff h
        obtain ⟨i, d, z, hp⟩ := (hT.get ht).parts
        obtain ⟨c', e1, e2, e3, e4⟩ := hs.box t (cs := ty.zero.map .v) (xs := ty.zero) (zero_rd _) (fun u hu => List.all_eq_true.1 hz u hu)
        rw [Nat.zero_add] at h
        have hrun : (execOp a.eval o).run P c.w = .ok (.value (.pointer (some ⟨c.w.heap.size, 0, none⟩))) c'.w := by
          have hzc : z.cells = ty.zero.toArray := Array.ext' (by simpa using hp.zc)
          simp [execOp, ho, Instr.alloc, zeroValue, typeInfo, hp.info, hp.zero, run_newVar, e1, hzc]
        rw [hrun]
        exact hn _ _ _ _ h e2 e3 e4 fun _ => by rw [e1]; exact ((Below.refl c.w.heap.size c.w).alloc (Nat.le_refl _) _).old
      · exact h.elim
    · exact h.elim
  · rename_i t x ho
    have h := forceK_iff h
    split at h
    · rename_i hok
      have h := snocK_iff h
      rw [Nat.zero_add] at h
      obtain ⟨h1, h2⟩ := cells1_rd (hf.ev x) hok
      obtain ⟨c', e1, e2, e3, e4⟩ := hs.box t h1 h2
      have hrun : (execOp a.eval o).run P c.w = .ok (.value (.pointer (some ⟨c.w.heap.size, 0, none⟩))) c'.w := by
        simp [execOp, ho, Instr.box, run_newVar, e1]
      rw [hrun]
      exact hn _ _ _ _ h e2 e3 e4 fun _ => by rw [e1]; exact ((Below.refl c.w.heap.size c.w).alloc (Nat.le_refl _) _).old
    · exact h.elim
  · rename_i t ad x ho
    split at h
    · rename_i ty ht
      have h := forceK_iff h
      split at h
      · rename_i hok
        simp only [Bool.and_eq_true] at hok
        have hsz := Nat.eq_of_beq_eq_true hok.2
        obtain ⟨hc1, hc2⟩ := cells1_rd (hf.ev x) hok.1
        have hcl := hc1.length
        have hcs : (a.eval x).cells.size = ty.sz := by rw [← hsz, ← hcl]; simp
        have hra := hf.ev ad
        split at h
        · rename_i j off hx
          rw [hx] at hra
          split at h
          case h_1 => exact h.elim
          rw [hget_eq] at h
          split at h
          · rename_i bt cs hj
            obtain ⟨hle, h⟩ := spliceK_iff h
            have h := setK_iff h
            obtain ⟨g, xs, q1, q2, q3, q4⟩ := hs.blk j _ hj
            have hxl := q3.length
            simp only [Rd] at hra
            obtain ⟨_, g', hg', hu⟩ := hra
            rw [q1] at hg'
            cases hg'
            obtain ⟨w', r1, r2, r3, r4, r5, r6, r7⟩ := run_storeCells (P := P) (a.eval x).cells.toList (i := 0) (off := off) q2 hc2 (by omega)
            have hrun : (execOp a.eval o).run P c.w = .ok .skip w' := by
              have := run_storeVar (a := ⟨g, off, none⟩) (hT.get ht) hcs r1
              simp [execOp, ho, Instr.storeAt, hu, Instr.sureAddr, this]
            rw [hrun]
            have hE : Ext c { c with w := w' } := ⟨r5, r6, r7, by simp [r4], fun b _ hm => ⟨hm, r3 b fun e => hm (e ▸ (hs.own j _ g hj rfl (by rw [q1]; rfl)).1)⟩, Nat.le_refl _, fun _ _ => Nat.le_refl _, fun _ _ _ => rfl, fun _ _ _ h => h⟩
            have hset := hs.set_ (y := .box bt (cs.take off ++ cells1 (ev fr x) ++ cs.drop (off + (cells1 (ev fr x)).length))) hj rfl rfl (g := g) (by rw [q1]; rfl) r3 r4 r5 r6 r7 (by
              refine ⟨g, xs.take off ++ (a.eval x).cells.toList ++ xs.drop (off + (a.eval x).cells.toList.length), q1, by rw [Nat.add_zero] at r2; exact r2, ?_, ?_⟩
              · rw [← hcl]
                exact ((RdL.ext _ hE (q3.take off)).append (RdL.ext _ hE hc1)).append (RdL.ext _ hE (q3.drop _))
              · intro u hu
                rcases List.mem_append.1 hu with hu | hu
                · rcases List.mem_append.1 hu with hu | hu
                  · exact q4 u (List.mem_of_mem_take hu)
                  · exact hc2 u hu
                · exact q4 u (List.mem_of_mem_drop hu))
            exact hn _ _ _ _ h hset.1 hset.2 (by simp [Rd]) (fun e => by cases e)
          · exact h.elim
        · rename_i j m i sz off hx
          rw [hx] at hra
          split at h
          case h_1 => exact h.elim
          obtain ⟨l', H', c1, k1, k2, k3, k4, k5, k6, k7, k8⟩ := sealK_sound hs hc1 h
          rw [hget_eq] at k1
          split at k1
          · rename_i rt sz' es hj
            obtain ⟨⟨rfl, hm, hi⟩, k1⟩ := k1
            obtain ⟨hle, k1⟩ := spliceK_iff k1
            have k1 := setK_iff k1
            obtain ⟨h1, h2, h3, xs, h4, h5, h6⟩ := k3.blk j _ hj
            have hra1 := Rd.ext _ k4 hra
            simp only [Rd] at hra1
            obtain ⟨p1, p2, g, oo, hu, p3⟩ := hra1
            obtain ⟨pp, p4, rfl⟩ := p3 (by omega)
            rcases h4.2 with ⟨e, _⟩ | ⟨g', cap, cur, e, hbg, hh, hnc, hcm, hcsz, htk⟩
            · rw [p4] at e; cases e
            rw [p4] at e; cases e
            have hlen := getD_len h3 (show i < es.length by omega)
            have hxl : xs.length = es.length * sz' := h4.1
            have hcl' : (a.eval x).cells.toList.length = l'.length := by rw [k7, hcl]
            have hcur : cur.toList.length = pp * sz' := by simpa using hcsz
            have hcap : es.length * sz' ≤ pp * sz' := Nat.mul_le_mul_right _ (by omega)
            have hi1 : (i + 1) * sz' ≤ es.length * sz' := Nat.mul_le_mul_right _ (by omega)
            rw [Nat.add_mul, Nat.one_mul] at hi1
            have hk2 : c1.w = c.w := k2
            rw [← hk2]
            obtain ⟨w', r1, r2, r3, r4, r5, r6, r7⟩ := run_storeCells (P := P) (w := c1.w) (cur := cur.toList) (a.eval x).cells.toList (i := 0) (off := i * sz' + off) (by simpa using hh) hc2 (by omega)
            have hrun : (execOp a.eval o).run P c1.w = .ok .skip w' := by
              have := run_storeVar (a := ⟨g, i * sz' + off, none⟩) (hT.get ht) hcs r1
              simp [execOp, ho, Instr.storeAt, hu, Instr.sureAddr, this]
            rw [hrun]
            have hog : oB (c1.rho j) = some g := by rw [p4]; rfl
            have hE : Ext c1 { c1 with w := w' } := ⟨r5, r6, r7, by simp [r4], fun b _ hm => ⟨hm, r3 b fun e => hm (e ▸ (k3.own j _ g hj rfl hog).1)⟩, Nat.le_refl _, fun _ _ => Nat.le_refl _, fun _ _ _ => rfl, fun _ _ _ h => h⟩
            have hflat : (es.set i (List.take off (es.getD i []) ++ l' ++ List.drop (off + l'.length) (es.getD i []))).flatten = es.flatten.take (i * sz' + off) ++ l' ++ es.flatten.drop (i * sz' + off + l'.length) := flat_set es i off l' h3 (by omega) (by omega)
            have hset := k3.set_ (y := .row rt sz' (es.set i (List.take off (es.getD i []) ++ l' ++ List.drop (off + l'.length) (es.getD i [])))) hj rfl rfl (g := g) hog r3 r4 r5 r6 r7 (by
              refine ⟨by simpa using h1, h2, fun e he => ?_, xs.take (i * sz' + off) ++ (a.eval x).cells.toList ++ xs.drop (i * sz' + off + (a.eval x).cells.toList.length), ?_, ?_, ?_⟩
              · rcases List.mem_or_eq_of_mem_set he with he | rfl
                · exact h3 e he
                · simp only [List.length_append, List.length_take, List.length_drop]; omega
              · have hN : i * sz' + off + (a.eval x).cells.toList.length ≤ es.length * sz' := by omega
                refine ⟨?_,   .inr ⟨g, pp, (cur.toList.take (i * sz' + off) ++ (a.eval x).cells.toList ++ cur.toList.drop (i * sz' + off + (a.eval x).cells.toList.length)).toArray, by simpa using p4, hbg, by rw [Nat.add_zero] at r2; exact r2, by simpa using hnc, hcm, ?_, ?_⟩⟩
                · simp only [List.length_append, List.length_take, List.length_drop, List.length_set]; omega
                · simp only [List.size_toArray, List.length_append, List.length_take, List.length_drop]; omega
                · rw [List.length_set, ← htk]
                  exact take_splice hN (by omega)
              · rw [hflat, hcl']
                exact ((RdL.ext _ hE.closed (h5.take _)).append (RdL.ext _ hE.closed k5)).append (RdL.ext _ hE.closed (h5.drop _))
              · intro u hu
                rcases List.mem_append.1 hu with hu | hu
                · rcases List.mem_append.1 hu with hu | hu
                  · exact h6 u (List.mem_of_mem_take hu)
                  · exact hc2 u hu
                · exact h6 u (List.mem_of_mem_drop hu))
            exact hn _ _ _ _ k1 hset.1 (k4.trans hset.2) (by simp [Rd]) (fun e => by cases e)
          · exact k1.elim
        · exact h.elim
      · exact h.elim
    · exact h.elim
  · rename_i t len ps ho
    split at h
    · rename_i s1 g1 z1 et esz ht
      split at h
      · rename_i sz g2 z d2 het
        split at h
        · rename_i hb
          simp only [Bool.and_eq_true] at hb
          obtain ⟨⟨⟨⟨⟨b1, b2⟩, b3⟩, b4⟩, b5⟩, b6⟩ := hb
          have b6 : 0 < len := by simpa using b6
          have b1 := Nat.eq_of_beq_eq_true b1
          have b3 := Nat.eq_of_beq_eq_true b3
          have b2 : 0 < sz := by simpa using b2
          have b5 : len * sz ≤ 10000 := Nat.le_of_ble_eq_true b5
          subst b1
          obtain ⟨i1, d1, z1', hp1⟩ := (hT.get ht).parts
          obtain ⟨i2, d2', z2, hp2⟩ := (hT.get het).parts
          have htd := hp1.td
          obtain ⟨e', rfl⟩ : ∃ e, d1 = .slice e := by cases d1 <;> simp [tdOf] at htd; exact ⟨_, rfl⟩
          simp only [tdOf, TD.slice.injEq] at htd
          obtain ⟨rfl, _⟩ := htd
          have hzs : z2.cells.size = sz := by rw [← b3, show z = _ from hp2.zc.symm]; simp
          have hzr : RdL (zrep len z) c ((Array.range (len * sz)).map fun i => z2.cells[i % z2.cells.size]!).toList := by
            have hz2 := zrow (z := z2.cells) (by omega) len
            rw [hzs] at hz2 ⊢
            rw [hz2, hp2.zc]
            exact zrep_rd z len
          obtain ⟨cs', vs', h1, h2, h3, h4⟩ := fill_sound hf (place := fun i => if i < len then some ((0 + i) * sz, sz) else none) (fun i => (rng_get len 0 sz i).symm) hzr h
          have h4' := h4 (by
            have hz2 := zrow (z := z2.cells) (by omega) len
            rw [hzs] at hz2 ⊢
            rw [hz2, hp2.zc]
            intro u hu
            obtain ⟨l, hl, hul⟩ := List.mem_flatten.1 hu
            rw [List.eq_of_mem_replicate hl] at hul
            exact List.all_eq_true.1 b4 u hul)
          obtain ⟨l', H', c1, k1, k2, k3, k4, k5, k6, k7, k8⟩ := sealK_sound hs h2 h3
          obtain ⟨es, e1, e2, e3, k1'⟩ := chunkK_iff k1
          clear k1
          have k9 := snocK_iff k1'
          clear k1'
          rw [Nat.zero_add] at k9
          subst e1
          have hfl : ∀ (l : List (List AV)), (∀ e ∈ l, e.length = sz) → l.flatten.length = l.length * sz := by
            intro l
            induction l with
            | nil => simp
            | cons x l ih => intro h; rw [List.flatten_cons, List.length_append, ih fun e he => h e (by simp [he]), h x (by simp), List.length_cons, Nat.add_mul]; omega
          have hvs : vs'.toList.length = len * sz := by rw [k5.length, hfl es e3, e2]
          have hlen : len ≤ 10000 := Nat.le_trans (Nat.le_mul_of_pos_right len b2) b5
          have hrun : (execOp a.eval o).run P c1.w = .ok (.value (.slice (some ⟨c1.w.heap.size, 0, none⟩) len len)) (c1.w.alloc (.cells vs' e')) := by
            have hsi : i2.size = sz := hp2.size
            have hz0 : ¬ len * sz > 2 ^ 24 := by
              have : (2 : Nat) ^ 24 = 16777216 := rfl
              omega
            have hfill : Instr.fill (fun i => some (i * sz, sz)) ((Array.range (len * sz)).map fun i => z2.cells[i % z2.cells.size]!) (ps.toList.map fun p => (p.1, a.eval p.2)) = some vs' := fill_more h1 fun i x hx => by
              split at hx
              · rw [Nat.zero_add] at hx; exact hx
              · cases hx
            have hl0 : ¬ len * sz = 0 := by
              intro h
              rcases Nat.mul_eq_zero.1 h with h | h <;> omega
            simp [execOp, ho, Instr.buildSlice, run_underlying hp1.und, sizeOf, typeInfo, zeroValue, hp2.info, hp2.zero, hsi, newRow, hz0, hl0, hfill, k2]
          rw [← k2, hrun]
          have hB := (Below.refl c1.w.heap.size c1.w).alloc (Nat.le_refl _) (.cells vs' e')
          have hE : Ext c1 (c1.new (c1.w.alloc (.cells vs' e')) (.slice (some ⟨c1.w.heap.size, 0, none⟩) len len) es.length) := Ext.new hB fun g hg => by simp [oB] at hg; omega
          have hrow := k3.newrow hB (t := e') (es := es) (v := .slice (some ⟨c1.w.heap.size, 0, none⟩) len len) (xs := vs'.toList) b2 e3
            ⟨by rw [hvs, e2], .inr ⟨c1.w.heap.size, len, vs', by rw [e2], Nat.le_refl _, heap_alloc_new c1.w _, by omega, by unfold maxLen; omega, by simpa using hvs, by rw [e2, ← hvs, List.take_length]⟩⟩ h4' (RdL.ext _ hE.closed k5)
          rw [e2] at hrow
          exact hn _ _ _ _ k9 hrow.1 (k4.trans hrow.2.1) hrow.2.2 fun _ => by rw [← k2]; exact hB.old
        · exact h.elim
      · exact h.elim
    · exact h.elim
  · rename_i args ts ho
    split at h
    case h_2 => exact h.elim
    rename_i s x hargs
    split at h
    case h_2 => exact h.elim
    rename_i t t' hts
    have e1 : args = #[s, x] := Array.ext' (by simpa using hargs)
    have e2 : ts = #[t, t'] := Array.ext' (by simpa using hts)
    subst e1 e2
    split at h
    case h_2 => exact h.elim
    rename_i s1 g1 z1 et esz ht
    split at h
    case h_2 => exact h.elim
    rename_i sz g2 z d2 het
    split at h
    case h_2 => exact h.elim
    rename_i hb
    simp only [Bool.and_eq_true] at hb
    obtain ⟨⟨⟨b0, b1⟩, b2⟩, b3⟩ := hb
    have b0 := Nat.eq_of_beq_eq_true b0
    have b1 := Nat.eq_of_beq_eq_true b1
    have b2 : 0 < sz := by simpa using b2
    have b3 := Nat.eq_of_beq_eq_true b3
    subst b0 b1
    have hss := src_sound hs (hf.ev x) h
    clear h
    obtain ⟨ess, m, h, q1, q2, ad, p, q3, q4⟩ := hss
    have hrunw : ∀ v' w', (Builtin.append_ #[t, t] o.type #[a.eval s, .slice ad m p]).run P c.w = .ok v' w' → (execOp a.eval o).run P c.w = .ok (.value v') w' := by
      intro v' w' hr
      simp [execOp, ho, resolve, invoke, builtin, q3, hr]
    split at h
    · rename_i j n' hxs
      split at h
      case h_1 => exact h.elim
      rw [hget_eq] at h
      split at h
      case h_2 => exact h.elim
      rename_i rt sz' es hj
      split at h
      case h_2 => exact h.elim
      rename_i hb
      simp only [Bool.and_eq_true] at hb
      have c1 := Nat.eq_of_beq_eq_true hb.1
      have c2 := Nat.eq_of_beq_eq_true hb.2
      subst c1 c2
      obtain ⟨⟨hn1, hbd⟩, h⟩ := h
      have h := setK_iff h
      have hv := hf.ev s
      rw [hxs] at hv
      obtain ⟨v', c', r1, r2, r3, r4⟩ := append_sound (ty := o.type) hs (hT.get ht) rfl (hT.get het) rfl b2 b3 hj hn1 q1 q2 hbd hv q4
      rw [hrunw _ _ r1]
      exact hn _ _ _ _ h r2 r3 r4 (fun e => by cases e)
    · rename_i hxs
      obtain ⟨hbd, h⟩ := h
      have h := snocK_iff h
      rw [Nat.zero_add] at h
      have hv := hf.ev s
      rw [hxs] at hv
      simp only [Rd] at hv
      rw [hv] at hrunw
      obtain ⟨i1, d1, z1', hp1⟩ := (hT.get ht).parts
      obtain ⟨i2, d2', z2, hp2⟩ := (hT.get het).parts
      have htd := hp1.td
      obtain ⟨e', rfl⟩ : ∃ e, d1 = .slice e := by cases d1 <;> simp [tdOf] at htd; exact ⟨_, rfl⟩
      simp only [tdOf, TD.slice.injEq] at htd
      obtain ⟨rfl, _⟩ := htd
      have hfl : ∀ (l : List (List AV)), (∀ e ∈ l, e.length = sz) → l.flatten.length = l.length * sz := by
        intro l
        induction l with
        | nil => simp
        | cons x l ih => intro h; rw [List.flatten_cons, List.length_append, ih fun e he => h e (by simp [he]), h x (by simp), List.length_cons, Nat.add_mul]; omega
      by_cases hm0 : m = 0
      · subst hm0
        have he0 : ess = [] := List.eq_nil_of_length_eq_zero q1
        subst he0
        have hrun : (Builtin.append_ #[t, t] o.type #[.slice none 0 0, .slice ad 0 p]).run P c.w = .ok (.slice none 0 0) c.w := by
          cases ad <;> simp [Builtin.append_, run_underlying hp1.und, sizeOf, typeInfo, hp2.info, Builtin.lenOf, Builtin.firstCells, loadCells, loadCellsFrom]
        rw [hrunw _ _ hrun]
        have hrow := hs.newrow (Below.refl _ _) (t := e') (es := []) (v := .slice none 0 0) (xs := []) b2 (by simp) (World.ownsRow_nil _ _ _ _) (by simp) (by simp [RdL])
        exact hn _ _ (c.new c.w (.slice none 0 0) 0) _ h hrow.1 hrow.2.1 hrow.2.2 (fun _ => Old.refl _)
      · obtain ⟨b, off, ys, rfl, r1, r2, r3⟩ := q4.resolve_left hm0
        have hyl : ys.length = m * sz := by rw [r1.length, hfl ess q2, q1]
        have hbytes : (0 + m) * i2.bytes ≤ 1000000000 * 1000 := Nat.mul_le_mul (by omega) hp2.bytes
        have hzs : z2.cells.size = sz := by rw [← b3, show z = _ from hp2.zc.symm]; simp
        obtain ⟨v', w', hrun, ho', hgr, _, hat⟩ := run_append_own_at (P := P) c.w c.w.heap.size t o.type e' i2 z2 sz i2.bytes hp1.und hp2.info hp2.zero hp2.size rfl hzs b2
          (.slice none 0 0) 0 [] (World.ownsRow_nil _ _ _ _) ⟨b, off, none⟩ m p ys hyl (fun i u hu => by rw [Addr.add_lit]; exact r3 i u hu) r2 (by unfold maxLen; omega) (by omega) (Nat.le_refl _)
        rw [Nat.zero_add, List.nil_append] at ho'
        rw [hrunw _ _ hrun]
        have hB : Below c.w.heap.size c.w w' := ⟨hgr.os, hgr.tape, hgr.output, hgr.size, fun k hk => hgr.block k hk (by simp [Value.ownBlock])⟩
        have hE : Ext c (c.new w' v' ess.length) := Ext.new hB fun g hg => by
          rcases ho'.2 with ⟨e, _⟩ | ⟨g', cap, cur, e, hbg, _⟩
          · rw [e] at hg; simp [oB] at hg
          · rw [e] at hg; simp [oB] at hg; omega
        subst q1
        have hrow := hs.newrow hB (t := e') (es := ess) (v := v') (xs := ys) b2 q2 ho' r2 (RdL.ext _ hE.closed r1)
        exact hn _ _ _ _ h hrow.1 hrow.2.1 hrow.2.2 (fun _ => hB.old)
    · exact h.elim
  · rename_i f args ts ho
    split at h
    · rename_i g hg
      have h := evs_iff h
      have hgv := hf.ev f
      rw [hg] at hgv
      simp only [Rd] at hgv
      obtain ⟨⟨fn, f1, f2, f3⟩, h⟩ := h
      have hargs : RdL (args.toList.map (ev fr)) c (args.toList.map a.eval) := by
        generalize args.toList = l
        induction l with
        | nil => simp [RdL]
        | cons x l ih => simp only [List.map_cons, RdL]; exact ⟨_, _, rfl, hf.ev x, ih⟩
      have hc := h w0 M0 c _ hs hargs
      have hrun : (execOp a.eval o).run P c.w = .ok (.enter g (args.toList.map a.eval).toArray) c.w := by
        have hm : args.map a.eval = (args.toList.map a.eval).toArray := Array.ext' (by simp)
        have f3' : ¬ fn.name = "runtime.NumGoroutine" := by simpa using f3
        have f2' : ¬ fn.body = none := by intro e; rw [e] at f2; simp at f2
        rw [← hm]
        simp [execOp, ho, resolve, hgv, Deferred.ofValue, invoke, callFunc, f1, f2', f3']
      rw [hrun, Oper.upon_enter]
      refine hc.mono ?_
      rintro e w' ⟨v, c', r, H', rfl, rfl, h1, h2, h3, h4, h5⟩
      exact hn _ _ _ _ h1 h2 h3 h4 h5
    · rename_i g cs hg
      have h := evs_iff h
      have hgv := hf.ev f
      rw [hg] at hgv
      simp only [Rd] at hgv
      obtain ⟨zs, hgv, hzs⟩ := hgv
      obtain ⟨⟨fn, f1, f2, f3⟩, h⟩ := h
      have hargs : RdL (args.toList.map (ev fr)) c (args.toList.map a.eval) := by
        generalize args.toList = l
        induction l with
        | nil => simp [RdL]
        | cons x l ih => simp only [List.map_cons, RdL]; exact ⟨_, _, rfl, hf.ev x, ih⟩
      have hc := h w0 M0 c _ hs (hargs.append hzs)
      have hrun : (execOp a.eval o).run P c.w = .ok (.enter g (args.toList.map a.eval ++ zs).toArray) c.w := by
        have hm : args.map a.eval ++ zs.toArray = (args.toList.map a.eval ++ zs).toArray := Array.ext' (by simp)
        have f3' : ¬ fn.name = "runtime.NumGoroutine" := by simpa using f3
        have f2' : ¬ fn.body = none := by intro e; rw [e] at f2; simp at f2
        rw [← hm]
        simp [execOp, ho, resolve, hgv, Deferred.ofValue, invoke, callFunc, f1, f2', f3']
      rw [hrun, Oper.upon_enter]
      refine hc.mono ?_
      rintro e w' ⟨v, c', r, H', rfl, rfl, h1, h2, h3, h4, h5⟩
      exact hn _ _ _ _ h1 h2 h3 h4 h5
    · exact h.elim
  · rename_i f0 cl ho
    split at h
    · rename_i g
      have h := evs_iff h
      have hargs : RdL (cl.toList.map (ev fr)) c (cl.toList.map a.eval) := by
        generalize cl.toList = l
        induction l with
        | nil => simp [RdL]
        | cons x l ih => simp only [List.map_cons, RdL]; exact ⟨_, _, rfl, hf.ev x, ih⟩
      obtain ⟨l', H2, c2, r1, r2, r3, r4, r5⟩ := capK_sound hs hargs h
      have hrun : (execOp a.eval o).run P c.w = .ok (.value (.func (.func g) #[] (cl.toList.map a.eval).toArray)) c2.w := by
        have hm : cl.map a.eval = (cl.toList.map a.eval).toArray := Array.ext' (by simp)
        rw [← hm, r2]
        simp [execOp, ho, Instr.makeFunc]
      rw [hrun]
      exact hn _ _ _ _ r1 r3 r4 (by simp only [Rd]; exact ⟨_, rfl, r5⟩) (fun _ => by rw [r2]; exact Old.refl _)
    · exact h.elim
  · rename_i t ln cp ho
    split at h
    · rename_i s1 g1 z1 et esz ht
      split at h
      · rename_i sz g2 z d2 het
        split at h
        · rename_i hb0
          simp only [Bool.and_eq_true, Nat.beq_eq, Nat.blt_eq] at hb0
          obtain ⟨⟨⟨rfl, b2⟩, b3⟩, b4⟩ := hb0
          obtain ⟨jl, n, hle, h⟩ := intK_sound (hf.ev ln) h
          obtain ⟨jc, m, hce, ⟨rfl, h0, h1⟩, h⟩ := intK_sound (hf.ev cp) h
          obtain ⟨N, rfl⟩ : ∃ N : Nat, n = N := ⟨n.toNat, by omega⟩
          rw [Int.toNat_natCast] at h
          have h := snocK_iff h
          rw [Nat.zero_add] at h
          obtain ⟨i1, d, z1', hp1⟩ := (hT.get ht).parts
          obtain ⟨i2, d2', z2, hp2⟩ := (hT.get het).parts
          have htd := hp1.td
          obtain ⟨e', rfl⟩ : ∃ e, d = .slice e := by cases d <;> simp [tdOf] at htd; exact ⟨_, rfl⟩
          simp only [tdOf, TD.slice.injEq] at htd
          obtain ⟨rfl, _⟩ := htd
          have hby : i2.bytes * N ≤ 1000 * 1000000000 := Nat.mul_le_mul hp2.bytes (by omega)
          obtain ⟨w', hrun, ho', hgr⟩ := run_make_full (P := P) c.w c.w.heap.size t e' i2 z2 sz hp1.und hp2.info hp2.zero hp2.size jl jc N (by omega) (by unfold maxLen; omega) (Nat.le_refl _)
          have hzc : z2.cells.toList = z := hp2.zc
          have hz2 : z2.cells.size = sz := by rw [← b3, ← hzc]; simp
          have hxs : (madeCells z2.cells (N * sz)).toList = (List.replicate N z).flatten := by
            have := zrow (z := z2.cells) (by omega) N
            rw [hz2] at this
            rw [← hzc]
            simp only [madeCells, hz2]
            exact this
          rw [hxs] at ho'
          have hB : Below c.w.heap.size c.w w' := ⟨hgr.os, hgr.tape, hgr.output, hgr.size, fun k hk => hgr.block k hk (by simp)⟩
          have hrl : ∀ (c : Ctx) (N : Nat), RdL (List.replicate N (z.map AV.v)).flatten c (List.replicate N z).flatten := by
            intro c N
            induction N with
            | zero => simp [RdL]
            | succ N ih => rw [List.replicate_succ, List.replicate_succ, List.flatten_cons, List.flatten_cons]; exact (zero_rd z).append ih
          have hlen : (List.replicate N (z.map AV.v)).length = N := by simp
          have hrow := hs.newrow hB (t := e') (es := List.replicate N (z.map AV.v)) (v := .slice (some ⟨c.w.heap.size, 0, none⟩) N N) (xs := (List.replicate N z).flatten) b2 (fun e he => by rw [List.eq_of_mem_replicate he]; simpa using b3) (by rw [hlen]; exact ho') (fun u hu => by
            obtain ⟨l, hl, hu⟩ := List.mem_flatten.1 hu
            rw [List.eq_of_mem_replicate hl] at hu
            exact List.all_eq_true.1 b4 u hu) (hrl _ N)
          rw [hlen] at hrow
          have hrun' : (execOp a.eval o).run P c.w = .ok (.value (.slice (some ⟨c.w.heap.size, 0, none⟩) N N)) w' := by
            simp [execOp, ho, hle, hce, hrun]
          rw [hrun']
          exact hn _ _ _ _ h hrow.1 hrow.2.1 hrow.2.2 (fun _ => hB.old)
        · exact h.elim
      · exact h.elim
    · exact h.elim
  · rename_i t x ho
    split at h
    · rename_i ht
      obtain ⟨i1, d, z, hp⟩ := (hT.get ht).parts
      have htd := hp.td
      obtain rfl : d = .string := by cases d <;> simp [tdOf] at htd; rfl
      have hr := hf.ev x
      split at h
      · rename_i s hx
        rw [hx] at hr
        simp only [Rd] at hr
        have h := snocK_iff h
        rw [Nat.zero_add] at h
        have hB : Below c.w.heap.size c.w (c.w.iter s 0) := (Below.refl c.w.heap.size c.w).alloc (Nat.le_refl _) _
        have hp2 := hs.push hB (v := .pointer (some ⟨c.w.heap.size, 0, none⟩)) (n := 0) (x := .iter s 0) (fun g hg => by
          simp only [oB, Option.some.injEq] at hg; subst hg; exact ⟨Nat.le_refl _, by simp [World.iter]⟩) ⟨c.w.heap.size, by simp [Ctx.new], World.iter_heap c.w s 0⟩
        have hrun : (execOp a.eval o).run P c.w = .ok (.value (.pointer (some ⟨c.w.heap.size, 0, none⟩))) (c.w.iter s 0) := by
          simp [execOp, ho, hr, run_range_string c.w t s hp.und]
        rw [hrun]
        refine hn _ _ _ _ h hp2.1 hp2.2 ?_ (fun _ => hB.old)
        simp only [Rd]
        rw [← hs.dom]
        exact ⟨by simp [Ctx.new], c.w.heap.size, by simp [Ctx.new], rfl⟩
      · exact h.elim
    · exact h.elim
  · rename_i x b ho
    split at h
    · split at h
      · exact h.elim
      · have hr := hf.ev x
        split at h
        · rename_i j off hx
          rw [hx] at hr
          split at h
          · rename_i hoff
            have := Nat.eq_of_beq_eq_true hoff
            subst this
            rw [hget_eq] at h
            split at h
            · rename_i s pos hj
              obtain ⟨h1, h2⟩ := boolK_iff h
              obtain ⟨g, q1, q2⟩ := hs.blk j _ hj
              simp only [Rd] at hr
              obtain ⟨_, g', q3, q4⟩ := hr
              rw [q1] at q3
              simp only [Value.pointer.injEq, Option.some.injEq, Addr.mk.injEq, and_true] at q3
              subst q3
              by_cases hps : pos < s.size
              · have h := setK_iff (h1 (by simpa using hps))
                let w' : World := { c.w with heap := c.w.heap.setIfInBounds g (.stringIter s (pos + (Utf8.decode s pos).2)) }
                have hglt : g < c.w.heap.size := hs.sub hj rfl (by rw [q1]; rfl)
                have hset := hs.set_ (y := .iter s (pos + (Utf8.decode s pos).2)) hj rfl rfl (g := g) (by rw [q1]; rfl) (w' := w') (fun b hb => by simp only [w']; rw [Array.getElem?_setIfInBounds_ne (Ne.symm hb)]) (by simp [w']) rfl rfl rfl ⟨g, q1, by simp only [w']; rw [Array.getElem?_setIfInBounds_self_of_lt hglt]⟩
                have hrun : (execOp a.eval o).run P c.w = .ok (.value (.tuple #[.bool true, .int .i64 pos, .int .i32 (Utf8.decode s pos).1])) w' := by
                  simp [execOp, ho, q4, Instr.next, getObj, setObj, Sem.run, q2, hps, goInt, w']
                rw [hrun]
                refine hn _ _ _ _ h hset.1 hset.2 ?_ (fun e => by cases e)
                simp only [Rd, RdL]
                exact ⟨_, rfl, _, _, rfl, rfl, _, _, rfl, rfl, _, _, rfl, rfl, rfl⟩
              · have h := h2 (by simpa using hps)
                have hrun : (execOp a.eval o).run P c.w = .ok (.value (.tuple #[.bool false])) c.w := by
                  simp [execOp, ho, q4, Instr.next, getObj, Sem.run, q2, hps]
                rw [hrun]
                refine hn _ _ _ _ h hs (Ext.refl _) ?_ (fun e => by cases e)
                simp only [Rd, RdL]
                exact ⟨_, rfl, _, _, rfl, rfl, rfl⟩
            · exact h.elim
          · exact h.elim
        · exact h.elim
    · exact h.elim
  · exact h.elim
end Go.Proofs.YteecmgonbdbhdaaGreatDoor.A
end

/-
Statements, loops, functions in the abstract.
-/
section
namespace Go.Proofs.YteecmgonbdbhdaaGreatDoor.A
open Go.RowKit

inductive EX where
  | normal
  | exit (id : Nat)
  | ret
abbrev QA := EX → Fr → List AB → Prop

def isEff : Op → Bool
  | .alloc _ | .box _ _ | .store _ _ _ | .buildSlice _ _ _ | .makeSlice _ _ _ | .range _ _ | .next _ _ => true
  | .makeFunc _ _ ⟨_ :: _⟩ => true
  | .call ⟨.builtin .append, _, _⟩ => true
  | .call ⟨.value _, _, _⟩ => true
  | _ => false
def putK (n : Nat) (d : Option Nat) (r : AV) (fr : Fr) (K : Fr → Prop) : Prop :=
  match d with
  | none => K fr
  | some d => match Nat.blt d n with | true => K ((d, r) :: fr) | false => False
def stepK (P : Program) (T : Tys) (n : Nat) (q : Bool) (o : Oper) (fr : Fr) (H : List AB) (K : Fr → List AB → Prop) : Prop :=
  match isEff o.op with
  | false => det T o.op (ev fr) H fun r => putK n o.dst r fr fun fr => K fr H
  | true => eff P T q o.op (ev fr) H fun r H => putK n o.dst r fr fun fr => K fr H
def guardK (ops : List Oper) (o : Oper) (fr : Fr) (run skip : Fr → Prop) : Prop :=
  match o.guard with
  | none => run fr
  | some (j, want) => match lget ops j with
    | some oj => match oj.dst with
      | some d => match fget fr d with
        | .v (.bool t) => match want with
          | true => boolK t (run ((d, .v (.bool true)) :: fr)) (skip ((d, .v (.bool false)) :: fr))
          | false => boolK t (skip ((d, .v (.bool true)) :: fr)) (run ((d, .v (.bool false)) :: fr))
        | .v (.tuple _) => skip fr
        | _ => False
      | none => False
    | none => False
def opsK (P : Program) (T : Tys) (n : Nat) (ops : List Oper) : List Oper → Fr → List AB → (Fr → List AB → Prop) → Prop
  | [], fr, H, K => K fr H
  | o :: r, fr, H, K => guardK ops o fr (fun fr => stepK P T n false o fr H fun fr H => opsK P T n ops r fr H K) fun fr => putK n o.dst (.v undef) fr fun fr => opsK P T n ops r fr H K
/-- A frame of which less is known, blocks that are given up. -/
def wkF : Fr → Fr → Prop
  | [], _ => True
  | (i, x) :: r, fr => fget fr i = x ∧ wkF r fr
def wkH : List AB → List AB → Prop
  | [], _ => True
  | .dead :: r, _ :: s => wkH r s
  | x :: r, y :: s => x = y ∧ wkH r s
  | _ :: _, [] => False
def okF (n : Nat) : Fr → Bool
  | [] => true
  | (_, x) :: r => x.lt n && okF n r
def okH (n : Nat) : List AB → Bool
  | [] => true
  | .box _ cs :: r => AV.ltL cs n && okH n r
  | _ :: r => okH n r
/-- A block's cell, and a block with a cell anew. -/
def cellAt : List AB → Nat → Nat → Option AV
  | .box _ cs :: _, 0, j => lget cs j
  | _ :: r, k + 1, j => cellAt r k j
  | _, _, _ => none
def lset : List AV → Nat → AV → List AV
  | _ :: r, 0, y => y :: r
  | x :: r, j + 1, y => x :: lset r j y
  | [], _, _ => []
def setCellK : List AB → Nat → Nat → AV → List AB
  | .box t cs :: r, 0, j, x => .box t (lset cs j x) :: r
  | y :: r, 0, _, _ => y :: r
  | y :: r, k + 1, j, x => y :: setCellK r k j x
  | [], _, _, _ => []
/-- Slices that are nil yet are taken for own rows that are empty (a slot; or, from 1000000 on, a cell: 1000 times the block's number and the cell's). -/
def gF : List (Nat × Nat × Nat) → Fr → Nat → Fr
  | [], fr, _ => fr
  | (s, _, _) :: r, fr, n => gF r (match Nat.blt s 1000000 with | true => (s, .ow n 0) :: fr | false => fr) (n + 1)
def gH : List (Nat × Nat × Nat) → List AB → List AB
  | [], H => H
  | (s, t, sz) :: r, H => gH r ((match Nat.blt s 1000000 with | true => H | false => setCellK H ((s - 1000000) / 1000) ((s - 1000000) % 1000) (.ow H.length 0)) ++ [.row t sz []])
def gOk : List (Nat × Nat × Nat) → Fr → List AB → Prop
  | [], _, _ => True
  | (s, t, sz) :: r, fr, H => (match Nat.blt s 1000000 with | true => fget fr s = .v (.slice none 0 0) | false => cellAt H ((s - 1000000) / 1000) ((s - 1000000) % 1000) = some (.v (.slice none 0 0))) ∧ Nat.blt 0 sz = true ∧
    gOk r (match Nat.blt s 1000000 with | true => (s, .ow H.length 0) :: fr | false => fr) ((match Nat.blt s 1000000 with | true => H | false => setCellK H ((s - 1000000) / 1000) ((s - 1000000) % 1000) (.ow H.length 0)) ++ [.row t sz []])
structure WkG (gs : List (Nat × Nat × Nat)) (d0 : Nat) (fr : Fr) (H : List AB) (fr2 : Fr) (H2 : List AB) : Prop where
  g : gOk gs fr H
  f : wkF fr2 (gF gs fr H.length)
  h : wkH H2 (gH gs H)
  nf : okF H2.length fr2 = true
  nh : okH H2.length H2 = true
  d : Nat.ble d0 H2.length = true
def Wk (d0 : Nat) (fr : Fr) (H : List AB) (fr2 : Fr) (H2 : List AB) : Prop := ∃ gs, WkG gs d0 fr H fr2 H2
theorem Wk.plain {d0 : Nat} {fr : Fr} {H : List AB} {fr2 : Fr} {H2 : List AB} (h1 : wkF fr2 fr) (h2 : wkH H2 H) (h3 : okF H2.length fr2 = true) (h4 : okH H2.length H2 = true) (h5 : Nat.ble d0 H2.length = true) : Wk d0 fr H fr2 H2 := ⟨[], trivial, h1, h2, h3, h4, h5⟩
def EX.then (next : Fr → List AB → Prop) (Q : QA) : QA := fun ex fr H => match ex with | .normal => next fr H | e => Q e fr H
/-- A loop gone through round by round, at most so many. -/
def rndK (body : QA → Fr → List AB → Prop) (Q : QA) : Nat → Fr → List AB → Prop
  | 0, _, _ => False
  | n + 1, fr, H => body (EX.then (fun fr H => rndK body Q n fr H) Q) fr H
structure aLoop (d0 : Nat) (body : QA → Fr → List AB → Prop) (Q : QA) (fr : Fr) (H : List AB) : Prop where
  ex : (∃ n, rndK body Q n fr H) ∨ ∃ (ι : Type) (st : ι → Fr × List AB) (I : ι → Prop) (μ : ι → Nat), (∃ x, I x ∧ Wk d0 fr H (st x).1 (st x).2) ∧
    ∀ x, I x → body (fun ex fr' H' => match ex with | .normal => ∃ x', I x' ∧ μ x' < μ x ∧ Wk d0 fr' H' (st x').1 (st x').2 | e => Q e fr' H') (st x).1 (st x).2
theorem aLoop.rounds {d0 : Nat} {body : QA → Fr → List AB → Prop} {Q : QA} {fr : Fr} {H : List AB} (n : Nat) (h : rndK body Q n fr H) : aLoop d0 body Q fr H := ⟨.inl ⟨n, h⟩⟩
def EX.inBlock (id : Nat) (Q : QA) : QA := fun ex fr H => match ex with
  | .exit i => match Nat.beq i id with | true => Q .normal fr H | false => Q (.exit i) fr H
  | e => Q e fr H
/-- A region whose order is open, in the abstract (it is dealt with by a law of its own). -/
structure aDraw (P : Program) (T : Tys) (n d0 : Nat) (id : Nat) (ops : Array Oper) (K : Fr → List AB → Prop) (fr : Fr) (H : List AB) : Prop where
  wp : ∀ (w0 : Fl) (M0 : Ms) (ce c : Ctx) (a : Act), HS w0 M0 c H → FR c n fr a → Ext ce c → ce.dom = d0 →
    ∀ Q : Exit → Act → World → Prop, (∀ c' fr' H' a', K fr' H' → HS w0 M0 c' H' → FR c' n fr' a' → Ext ce c' → Q .normal a' c'.w) → (Code.region id ops true).wp P Q a c.w
/-- May a statement end by coming to its end? Do ways meet behind it? -/
def falls : Code → Bool
  | .exit _ | .ret => false
  | .seq a b => falls a && falls b
  | .cond _ a b => falls a || falls b
  | _ => true
def meets : Code → Bool
  | .cond _ a b => (falls a && falls b) || meets a || meets b
  | .seq a b => meets a || meets b
  | .block _ c => meets c
  | _ => false
/-- A statement behind which ways meet: it is gone through as it stands, or what it leaves is said once. -/
structure aSeq (d0 : Nat) (body : QA → Prop) (next : Fr → List AB → Prop) (Q : QA) : Prop where
  ex : body (EX.then next Q) ∨ ∃ (ι : Type) (st : ι → Fr × List AB) (I : ι → Prop), body (EX.then (fun fr' H' => ∃ x, I x ∧ Wk d0 fr' H' (st x).1 (st x).2) Q) ∧ ∀ x, I x → next (st x).1 (st x).2
theorem aSeq.go {d0 : Nat} {body : QA → Prop} {next : Fr → List AB → Prop} {Q : QA} (h : body (EX.then next Q)) : aSeq d0 body next Q := ⟨.inl h⟩
theorem aSeq.cut {d0 : Nat} {body : QA → Prop} {next : Fr → List AB → Prop} {Q : QA} (ι : Type) (st : ι → Fr × List AB) (I : ι → Prop) (h : body (EX.then (fun fr' H' => ∃ x, I x ∧ Wk d0 fr' H' (st x).1 (st x).2) Q)) (k : ∀ x, I x → next (st x).1 (st x).2) : aSeq d0 body next Q := ⟨.inr ⟨ι, st, I, h, k⟩⟩
def aCode (P : Program) (T : Tys) (n d0 : Nat) : Code → QA → Fr → List AB → Prop
  | .skip, Q, fr, H => Q .normal fr H
  | .region id ops draw, Q, fr, H => match draw with
    | false => opsK P T n ops.toList ops.toList fr H (Q .normal)
    | true => aDraw P T n d0 id ops (Q .normal) fr H
  | .seq a b, Q, fr, H => match meets a with
    | true => aSeq d0 (fun Q => aCode P T n d0 a Q fr H) (fun fr H => aCode P T n d0 b Q fr H) Q
    | false => aCode P T n d0 a (EX.then (fun fr H => aCode P T n d0 b Q fr H) Q) fr H
  | .cond c a b, Q, fr, H => match ev fr c with
    | .v (.bool t) => boolK t (aCode P T n d0 a Q fr H) (aCode P T n d0 b Q fr H)
    | _ => False
  | .block id c, Q, fr, H => aCode P T n d0 c (EX.inBlock id Q) fr H
  | .loop c, Q, fr, H => aLoop d0 (fun Q fr H => aCode P T n d0 c Q fr H) Q fr H
  | .exit id, Q, fr, H => Q (.exit id) fr H
  | .ret, Q, fr, H => Q .ret fr H
  | _, _, _, _ => False

section
variable {P : Program} {T : Tys} {w0 : Fl} {M0 : Ms} {n d0 : Nat} {ce : Ctx}
/-- What is known behind a statement. -/
def Lift (w0 : Fl) (M0 : Ms) (ce : Ctx) (n : Nat) (K : Fr → List AB → Prop) (a : Act) (w : World) : Prop :=
  ∃ c fr H, c.w = w ∧ K fr H ∧ HS w0 M0 c H ∧ FR c n fr a ∧ Ext ce c
def LiftQ (w0 : Fl) (M0 : Ms) (ce : Ctx) (n : Nat) (Q : QA) : Exit → Act → World → Prop
  | .normal, a, w => Lift w0 M0 ce n (Q .normal) a w
  | .exit id, a, w => Lift w0 M0 ce n (Q (.exit id)) a w
  | .ret, a, w => Lift w0 M0 ce n (Q .ret) a w
  | _, _, _ => False

theorem putK_sound {c : Ctx} {fr : Fr} {a : Act} (hf : FR c n fr a) {d : Option Nat} {r : AV} {v : Value} (hr : Rd r c v) {K : Fr → Prop} (h : putK n d r fr K) : ∃ fr', K fr' ∧ FR c n fr' (a.put d v) := by
  unfold putK at h
  split at h
  · exact ⟨fr, h, hf.none⟩
  · split at h
    · rename_i hb
      exact ⟨_, h, hf.put (by simpa using hb) hr⟩
    · exact h.elim
theorem stepK_sound (hT : TOk P T) {c : Ctx} {H : List AB} (hs : HS w0 M0 c H) {fr : Fr} {a : Act} (hf : FR c n fr a) (he : Ext ce c) {q : Bool} {o : Oper} {K : Fr → List AB → Prop} (h : stepK P T n q o fr H K)
    {next : Act → World → Prop} {Q : Exit → Act → World → Prop} (hn : ∀ a w, Lift w0 M0 ce n K a w → (q = true → Old c.w w) → next a w) : o.wp P a c.w next Q := by
  unfold stepK at h
  split at h
  · obtain ⟨r, v, h1, h2, h3⟩ := (det_sound hT hs hf h).y
    obtain ⟨fr', h4, h5⟩ := putK_sound hf h3 h1
    unfold Oper.wp
    rw [h2 c.w (Old.refl _), Oper.upon_value]
    exact hn _ _ ⟨c, fr', H, rfl, h4, hs, h5, he⟩ fun _ => Old.refl _
  · refine eff_sound hT hs hf h fun r H' c' v h1 h2 h3 h4 hold => ?_
    obtain ⟨fr', h5, h6⟩ := putK_sound (hf.ext h3) h4 h1
    exact hn _ _ ⟨c', fr', H', rfl, h5, h2, h6, he.trans h3⟩ hold
theorem FR.lit {c : Ctx} {fr : Fr} {a : Act} (hf : FR c n fr a) {d : Nat} {t : Bool} (h : fget fr d = .v (.bool t)) : FR c n ((d, .v (.bool t)) :: fr) a := by
  refine ⟨hf.size, hf.defers, fun i => ?_⟩
  unfold fget
  cases hb : Nat.beq d i with
  | true => have := Nat.eq_of_beq_eq_true hb; subst this; have := hf.get d; rw [h] at this; exact this
  | false => exact hf.get i
theorem opsK_sound (hT : TOk P T) {ops : Array Oper} {K : Fr → List AB → Prop} {Q : Exit → Act → World → Prop} (hq : ∀ a w, Lift w0 M0 ce n K a w → Q .normal a w) :
    ∀ (l : List Oper) (c : Ctx) (fr : Fr) (H : List AB) (a : Act), HS w0 M0 c H → FR c n fr a → Ext ce c → opsK P T n ops.toList l fr H K → wpList P ops Q l a c.w
  | [], c, fr, H, a, hs, hf, he, h => hq _ _ ⟨c, fr, H, rfl, h, hs, hf, he⟩
  | o :: l, c, fr, H, a, hs, hf, he, h => by
    simp only [opsK] at h
    have run : ∀ fr, FR c n fr a → Region.wanted o (yielded ops a.tmps) = true → stepK P T n false o fr H (fun fr H => opsK P T n ops.toList l fr H K) → wpList P ops Q (o :: l) a c.w := by
      intro fr hf hw h
      unfold wpList
      rw [if_pos hw]
      refine .inl (stepK_sound hT hs hf he h ?_)
      rintro a' w' ⟨c', fr', H', rfl, h1, h2, h3, h4⟩ -
      exact opsK_sound hT hq l c' fr' H' a' h2 h3 h4 h1
    have skip : ∀ fr, FR c n fr a → Region.wanted o (yielded ops a.tmps) = false → putK n o.dst (.v undef) fr (fun fr => opsK P T n ops.toList l fr H K) → wpList P ops Q (o :: l) a c.w := by
      intro fr hf hw h
      unfold wpList
      rw [if_neg (by rw [hw]; simp)]
      obtain ⟨fr', h1, h2⟩ := putK_sound (v := undef) hf (by simp [Rd]) h
      exact opsK_sound hT hq l c fr' H _ hs h2 he h1
    unfold guardK at h
    split at h
    · rename_i hg
      exact run fr hf (by simp [Region.wanted, hg]) h
    · rename_i j want hg
      rw [lget_eq] at h
      split at h
      · rename_i oj hj
        have hj' : ops[j]? = some oj := by simpa using hj
        split at h
        · rename_i d hd
          have hgd := hf.get d
          split at h
          · rename_i t ht
            rw [ht] at hgd
            simp only [Rd] at hgd
            have hy : yielded ops a.tmps j = some t := by
              unfold yielded
              simp only [hj', Option.bind_some, hd]
              have : a.tmps[d]? = some (.bool t) := by
                rw [Array.getD_eq_getD_getElem?] at hgd
                cases hq : a.tmps[d]? with
                | none => rw [hq] at hgd; simp [undef] at hgd
                | some x => rw [hq] at hgd; simp at hgd; rw [hgd]
              rw [this]
            have hl := hf.lit ht
            split at h
            · obtain ⟨h1, h2⟩ := boolK_iff h
              cases t with
              | true => exact run _ hl (by simp [Region.wanted, hg, hy]) (h1 rfl)
              | false => exact skip _ hl (by simp [Region.wanted, hg, hy]) (h2 rfl)
            · obtain ⟨h1, h2⟩ := boolK_iff h
              cases t with
              | true => exact skip _ hl (by simp [Region.wanted, hg, hy]) (h1 rfl)
              | false => exact run _ hl (by simp [Region.wanted, hg, hy]) (h2 rfl)
          · rename_i vs ht
            rw [ht] at hgd
            simp only [Rd] at hgd
            refine skip fr hf ?_ h
            have hy : yielded ops a.tmps j = none := by
              unfold yielded
              simp only [hj', Option.bind_some, hd]
              rw [Array.getD_eq_getD_getElem?] at hgd
              cases hq : a.tmps[d]? with
              | none => rfl
              | some x => rw [hq] at hgd; simp at hgd; rw [hgd]
            simp [Region.wanted, hg, hy]
          · exact h.elim
        · exact h.elim
      · exact h.elim
theorem wkF_get {fr : Fr} : ∀ {fr2 : Fr}, wkF fr2 fr → ∀ i, fget fr2 i = .top ∨ fget fr2 i = fget fr i
  | [], _, i => .inl rfl
  | (j, x) :: r, h, i => by
    have e : fget ((j, x) :: r) i = bif Nat.beq j i then x else fget r i := rfl
    rw [e]
    cases hb : Nat.beq j i with
    | true => have := Nat.eq_of_beq_eq_true hb; subst this; exact .inr h.1.symm
    | false => exact wkF_get h.2 i
theorem wkH_get : ∀ {H2 H : List AB}, wkH H2 H → ∀ (k : Nat) (x : AB), H2[k]? = some x → x.live = true → H[k]? = some x
  | [], _, _, k, x, h, _ => by simp at h
  | y :: r, [], h, _, _, _, _ => by cases y <;> simp [wkH] at h
  | y :: r, z :: s, h, k, x, hk, hl => by
    have hh : (y.live = true → y = z) ∧ wkH r s := by cases y <;> simp only [wkH] at h; exact ⟨fun _ => h.1, h.2⟩; exact ⟨fun _ => h.1, h.2⟩; exact ⟨fun _ => h.1, h.2⟩; exact ⟨fun e => by simp [AB.live] at e, h⟩
    cases k with
    | zero => simp at hk; subst hk; simp; exact (hh.1 hl).symm
    | succ k => simp at hk ⊢; exact wkH_get hh.2 k x hk hl
theorem wkH_len : ∀ {H2 H : List AB}, wkH H2 H → H2.length ≤ H.length
  | [], _, _ => Nat.zero_le _
  | y :: r, [], h => by cases y <;> simp [wkH] at h
  | y :: r, z :: s, h => by
    have hh : wkH r s := by cases y <;> simp only [wkH] at h; exact h.2; exact h.2; exact h.2; exact h
    have := wkH_len hh
    simp; omega
theorem okF_get {m : Nat} : ∀ {fr : Fr}, okF m fr = true → ∀ i, (fget fr i).lt m = true
  | [], _, i => by simp [fget, AV.lt]
  | (j, x) :: r, h, i => by
    simp only [okF, Bool.and_eq_true] at h
    unfold fget
    cases hb : Nat.beq j i with
    | true => exact h.1
    | false => exact okF_get h.2 i
theorem okH_get {m : Nat} : ∀ {H : List AB}, okH m H = true → ∀ (k : Nat) (t : TypeId) (cs : List AV), H[k]? = some (.box t cs) → AV.ltL cs m = true
  | [], _, k, _, _, h => by simp at h
  | x :: r, h, k, t, cs, hk => by
    cases k with
    | zero => simp at hk; subst hk; simp only [okH, Bool.and_eq_true] at h; exact h.1
    | succ k =>
      simp at hk
      refine okH_get (H := r) ?_ k t cs hk
      cases x <;> simp only [okH, Bool.and_eq_true] at h
      exact h.2
      exact h
      exact h
      exact h
theorem lset_eq : ∀ (l : List AV) (j : Nat) (y : AV), lset l j y = l.set j y
  | [], _, _ => by simp [lset]
  | _ :: _, 0, _ => rfl
  | x :: r, j + 1, y => by simp only [lset, List.set_cons_succ, lset_eq r j y]
theorem cellAt_box : ∀ {H : List AB} {k j : Nat} {x : AV}, cellAt H k j = some x → ∃ t cs, H[k]? = some (.box t cs) ∧ cs[j]? = some x
  | [], _, _, _, h => by simp [cellAt] at h
  | .box t cs :: r, 0, j, x, h => ⟨t, cs, rfl, by simpa [cellAt, lget_eq] using h⟩
  | .row _ _ _ :: r, 0, j, x, h => by simp [cellAt] at h
  | .iter _ _ :: r, 0, j, x, h => by simp [cellAt] at h
  | .dead :: r, 0, j, x, h => by simp [cellAt] at h
  | y :: r, k + 1, j, x, h => by
    have h' : cellAt r k j = some x := by cases y <;> simpa [cellAt] using h
    obtain ⟨t, cs, h1, h2⟩ := cellAt_box h'
    exact ⟨t, cs, by simpa using h1, h2⟩
theorem setCellK_get : ∀ {H : List AB} {k j : Nat} {x : AV} {t : TypeId} {cs : List AV}, H[k]? = some (.box t cs) → setCellK H k j x = H.set k (.box t (cs.set j x))
  | [], _, _, _, _, _, h => by simp at h
  | y :: r, 0, j, x, t, cs, h => by simp at h; subst h; simp [setCellK, lset_eq]
  | y :: r, k + 1, j, x, t, cs, h => by
    simp at h
    have := setCellK_get (j := j) (x := x) h
    cases y <;> simp [setCellK, this]
/-- What is known of a box, said in another way. -/
theorem HS.rebox {c : Ctx} {H : List AB} (h : HS w0 M0 c H) {k : Nat} {t : TypeId} {cs cs' : List AV} (hk : H[k]? = some (.box t cs)) (hc : ∀ xs, RdL cs c xs → RdL cs' c xs) : HS w0 M0 c (H.set k (.box t cs')) := by
  have hget : ∀ (j : Nat) (y : AB), (H.set k (.box t cs'))[j]? = some y → (j = k ∧ y = .box t cs') ∨ (j ≠ k ∧ H[j]? = some y) := by
    intro j y hj
    by_cases hjk : j = k
    · subst hjk
      rw [List.getElem?_set_self (List.getElem?_eq_some_iff.1 hk).1] at hj
      exact .inl ⟨rfl, (Option.some.inj hj).symm⟩
    · rw [List.getElem?_set_ne (Ne.symm hjk)] at hj
      exact .inr ⟨hjk, hj⟩
  have hlive : ∀ (j : Nat) (y : AB), (H.set k (.box t cs'))[j]? = some y → y.live = true → ∃ z : AB, H[j]? = some z ∧ z.live = true := by
    intro j y hj hy
    rcases hget j y hj with ⟨rfl, rfl⟩ | ⟨_, h2⟩
    · exact ⟨_, hk, rfl⟩
    · exact ⟨_, h2, hy⟩
  refine ⟨h.low, h.base, by simp [h.dom], h.foreign, h.lt, fun j y hj => ?_, fun j y g hj hl ho => ?_, fun i j y z g hi hj hy hz hoi hoj => ?_⟩
  · rcases hget j y hj with ⟨rfl, rfl⟩ | ⟨_, h2⟩
    · obtain ⟨g, xs, q1, q2, q3, q4⟩ := h.blk _ _ hk
      exact ⟨g, xs, q1, q2, hc xs q3, q4⟩
    · exact h.blk j y h2
  · obtain ⟨z, h1, h2⟩ := hlive j y hj hl
    exact h.own j z g h1 h2 ho
  · obtain ⟨y', h1, h2⟩ := hlive i y hi hy
    obtain ⟨z', h3, h4⟩ := hlive j z hj hz
    exact h.dis i j y' z' g h1 h3 h2 h4 hoi hoj
theorem ghost : ∀ (gs : List (Nat × Nat × Nat)) {fr : Fr} {H : List AB} {c : Ctx} {a : Act}, gOk gs fr H → HS w0 M0 c H → FR c n fr a → Ext ce c →
    ∃ c', c'.w = c.w ∧ HS w0 M0 c' (gH gs H) ∧ FR c' n (gF gs fr H.length) a ∧ Ext ce c'
  | [], fr, H, c, a, _, hs, hf, he => ⟨c, rfl, hs, hf, he⟩
  | (s, t, sz) :: r, fr, H, c, a, hg, hs, hf, he => by
    simp only [gOk] at hg
    obtain ⟨h1, h2, h3⟩ := hg
    simp only [gF, gH]
    have hsz : 0 < sz := by simpa using h2
    have hrow := hs.newrow (Below.refl _ _) (t := t) (es := []) (v := .slice none 0 0) (xs := []) hsz (by simp) (World.ownsRow_nil _ _ _ _) (by simp) (by simp [RdL])
    obtain ⟨q1, q2, q3⟩ := hrow
    cases hb : Nat.blt s 1000000 with
    | true =>
      rw [hb] at h1 h3
      simp only at h1 h3 ⊢
      have hf' : FR (c.new c.w (.slice none 0 0) ([] : List (List AV)).length) n ((s, .ow H.length 0) :: fr) a := by
        refine ⟨hf.size, hf.defers, fun i => ?_⟩
        have e : fget ((s, .ow H.length 0) :: fr) i = bif Nat.beq s i then .ow H.length 0 else fget fr i := rfl
        rw [e]
        cases hb : Nat.beq s i with
        | true =>
          have := Nat.eq_of_beq_eq_true hb
          subst this
          have hr := hf.get s
          rw [h1] at hr
          simp only [Rd] at hr
          rw [hr]
          exact q3
        | false => exact Rd.ext _ q2 (hf.get i)
      have hl : (H ++ [AB.row t sz []]).length = H.length + 1 := by simp
      obtain ⟨c', e1, e2, e3, e4⟩ := ghost r h3 q1 hf' (he.trans q2)
      rw [hl] at e3
      exact ⟨c', e1, e2, e3, e4⟩
    | false =>
      rw [hb] at h1 h3
      simp only at h1 h3 ⊢
      obtain ⟨bt, cs, hk, hj⟩ := cellAt_box h1
      have hset := setCellK_get (j := (s - 1000000) % 1000) (x := .ow H.length 0) hk
      rw [hset] at h3 ⊢
      have hkl := (List.getElem?_eq_some_iff.1 hk).1
      have hk' : (H ++ [AB.row t sz []])[(s - 1000000) / 1000]? = some (.box bt cs) := by rw [List.getElem?_append_left hkl]; exact hk
      have q1' := q1.rebox hk' (cs' := cs.set ((s - 1000000) % 1000) (.ow H.length 0)) (fun xs hx => by
        obtain ⟨v, h5, h6⟩ := hx.get hj
        simp only [Rd] at h6
        subst h6
        have h7 := hx.set (i := (s - 1000000) % 1000) q3
        have e : xs.set ((s - 1000000) % 1000) (.slice none 0 0) = xs := by
          obtain ⟨hlt, h8⟩ := List.getElem?_eq_some_iff.1 h5
          have := @List.set_getElem_self _ xs _ hlt
          rw [h8] at this
          exact this
        rw [e] at h7
        exact h7)
      have e : (H ++ [AB.row t sz []]).set ((s - 1000000) / 1000) (.box bt (cs.set ((s - 1000000) % 1000) (.ow H.length 0))) = H.set ((s - 1000000) / 1000) (.box bt (cs.set ((s - 1000000) % 1000) (.ow H.length 0))) ++ [AB.row t sz []] := by
        rw [List.set_append_left _ _ hkl]
      rw [e] at q1'
      obtain ⟨c', e1, e2, e3, e4⟩ := ghost r h3 q1' (hf.ext q2) (he.trans q2)
      have hl : (H.set ((s - 1000000) / 1000) (.box bt (cs.set ((s - 1000000) % 1000) (.ow H.length 0))) ++ [AB.row t sz []]).length = H.length + 1 := by simp
      rw [hl] at e3
      exact ⟨c', e1, e2, e3, e4⟩
theorem Wk.sound {fr fr2 : Fr} {H H2 : List AB} (hwk : Wk d0 fr H fr2 H2) (hd : ce.dom = d0) {c : Ctx} {a : Act} (hs : HS w0 M0 c H) (hf : FR c n fr a) (he : Ext ce c) :
    ∃ c', c'.w = c.w ∧ HS w0 M0 c' H2 ∧ FR c' n fr2 a ∧ Ext ce c' := by
  obtain ⟨gs, hw⟩ := hwk
  obtain ⟨c1, ec, hs1, hf1, he1⟩ := ghost gs hw.g hs hf he
  clear hs hf he
  rw [← ec]
  clear ec
  revert hs1 hf1 he1
  revert c1
  intro c hs hf he
  have hlen := wkH_len hw.h
  have hcut : Cut c { c with dom := H2.length } := ⟨⟨rfl, rfl, rfl, Nat.le_refl _, fun _ _ h => ⟨h, rfl⟩, Nat.le_refl _, fun k hk => absurd hk (Nat.not_lt_zero k), fun k hk => absurd hk (Nat.not_lt_zero k), fun k _ hk => absurd hk (Nat.not_lt_zero k)⟩, fun _ _ => ⟨rfl, rfl⟩⟩
  have hdl : d0 ≤ H2.length := Nat.le_of_ble_eq_true hw.d
  refine ⟨{ c with dom := H2.length }, rfl, ⟨hs.low, hs.base, rfl, hs.foreign, hs.lt, fun k x hk => ?_, fun k x g hk hl ho => hs.own k x g (wkH_get hw.h k x hk hl) hl ho, fun j k x y g hj hk hx hy ho ho' => hs.dis j k x y g (wkH_get hw.h j x hj hx) (wkH_get hw.h k y hk hy) hx hy ho ho'⟩,
    ⟨hf.size, hf.defers, fun i => ?_⟩, ⟨he.os, he.tape, he.output, he.size, he.keep, by simpa [hd] using hdl, he.len, he.rho, he.box⟩⟩
  · cases x with
    | dead => trivial
    | box t cs =>
      obtain ⟨g, xs, h1, h2, h3, h4⟩ := hs.blk k _ (wkH_get hw.h k _ hk rfl)
      exact ⟨g, xs, h1, h2, RdL.cut cs hcut (okH_get hw.nh k t cs hk) h3, h4⟩
    | iter s pos =>
      obtain ⟨g, h1, h2⟩ := hs.blk k _ (wkH_get hw.h k _ hk rfl)
      exact ⟨g, h1, h2⟩
    | row t sz es =>
      obtain ⟨h1, h2, h3, xs, h4, h5, h6⟩ := hs.blk k _ (wkH_get hw.h k _ hk rfl)
      exact ⟨h1, h2, h3, xs, h4, h5, h6⟩
  · rcases wkF_get hw.f i with h | h
    · rw [h]; simp [Rd]
    · refine Rd.cut _ hcut (okF_get hw.nf i) ?_
      rw [h]
      exact hf.get i

theorem LiftQ.mono_then {next : Fr → List AB → Prop} {Q : QA} {K : Act → World → Prop} {Q' : Exit → Act → World → Prop} (h1 : ∀ a w, Lift w0 M0 ce n next a w → K a w) (h2 : ∀ e a w, LiftQ w0 M0 ce n Q e a w → Q' e a w) :
    ∀ e a w, LiftQ w0 M0 ce n (EX.then next Q) e a w → Exit.then K Q' e a w := by
  intro e a w h
  cases e with
  | normal => exact h1 a w h
  | exit id => exact h2 (.exit id) a w h
  | ret => exact h2 .ret a w h
  | _ => exact h.elim
theorem aCode_sound (hT : TOk P T) (hd : ce.dom = d0) : ∀ (cd : Code) (Q : QA) (Q' : Exit → Act → World → Prop) (c : Ctx) (fr : Fr) (H : List AB) (a : Act), (∀ e a w, LiftQ w0 M0 ce n Q e a w → Q' e a w) → HS w0 M0 c H → FR c n fr a → Ext ce c →
    aCode P T n d0 cd Q fr H → cd.wp P Q' a c.w
  | .skip, Q, Q', c, fr, H, a, hq, hs, hf, he, h => wp_skip (hq .normal _ _ ⟨c, fr, H, rfl, h, hs, hf, he⟩)
  | .region id ops draw, Q, Q', c, fr, H, a, hq, hs, hf, he, h => by
    simp only [aCode] at h
    split at h
    · exact wp_region_list (opsK_sound hT (fun a w hl => hq .normal a w hl) ops.toList c fr H a hs hf he h)
    · exact h.wp w0 M0 ce c a hs hf he hd Q' fun c' fr' H' a' h1 h2 h3 h4 => hq .normal _ _ ⟨c', fr', H', rfl, h1, h2, h3, h4⟩
  | .seq x y, Q, Q', c, fr, H, a, hq, hs, hf, he, h => by
    simp only [aCode] at h
    have plain : aCode P T n d0 x (EX.then (fun fr H => aCode P T n d0 y Q fr H) Q) fr H → (Code.seq x y).wp P Q' a c.w := by
      intro h
      refine wp_seq_k fun K hK => aCode_sound hT hd x _ _ c fr H a (LiftQ.mono_then ?_ hq) hs hf he h
      rintro a' w' ⟨c', fr', H', rfl, h1, h2, h3, h4⟩
      exact hK _ _ (aCode_sound hT hd y Q Q' c' fr' H' a' hq h2 h3 h4 h1)
    split at h
    · rcases h.ex with h | ⟨ι, st, I, h, hk⟩
      · exact plain h
      · refine wp_seq_k fun K hK => aCode_sound hT hd x _ _ c fr H a (LiftQ.mono_then ?_ hq) hs hf he h
        rintro a' w' ⟨c', fr', H', rfl, ⟨z, hI, hw⟩, h2, h3, h4⟩
        obtain ⟨c4, e4, hs4, hf4, he4⟩ := hw.sound hd h2 h3 h4
        rw [← e4]
        exact hK _ _ (aCode_sound hT hd y Q Q' c4 _ _ a' hq hs4 hf4 he4 (hk z hI))
    · exact plain h
  | .cond x y z, Q, Q', c, fr, H, a, hq, hs, hf, he, h => by
    simp only [aCode] at h
    split at h
    · rename_i t ht
      have hr := hf.ev x
      rw [ht] at hr
      simp only [Rd] at hr
      obtain ⟨h1, h2⟩ := boolK_iff h
      refine wp_cond_split hr (fun e => ?_) fun e => ?_
      · exact aCode_sound hT hd y Q Q' c fr H a hq hs hf he (h1 e)
      · exact aCode_sound hT hd z Q Q' c fr H a hq hs hf he (h2 e)
    · exact h.elim
  | .block id x, Q, Q', c, fr, H, a, hq, hs, hf, he, h => by
    simp only [aCode] at h
    refine wp_block (aCode_sound hT hd x _ _ c fr H a ?_ hs hf he h)
    intro e a' w' hl
    cases e with
    | normal => exact hq .normal _ _ hl
    | exit i =>
      simp only [Exit.inBlock]
      have hl : Lift w0 M0 ce n (match Nat.beq i id with | true => Q .normal | false => Q (.exit i)) a' w' := by
        have e : (EX.inBlock id Q (EX.exit i)) = (match Nat.beq i id with | true => Q .normal | false => Q (.exit i)) := by
          funext fr H
          simp only [EX.inBlock]
          cases Nat.beq i id <;> rfl
        rw [← e]
        exact hl
      by_cases hi : i = id
      · subst hi
        rw [if_pos rfl]
        rw [Nat.beq_refl] at hl
        exact hq .normal _ _ hl
      · rw [if_neg hi]
        have hb : Nat.beq i id = false := by
          cases hq : Nat.beq i id with
          | true => exact absurd (Nat.eq_of_beq_eq_true hq) hi
          | false => rfl
        rw [hb] at hl
        exact hq (.exit i) _ _ hl
    | ret => exact hq .ret _ _ hl
    | _ => exact hl.elim
  | .loop x, Q, Q', c, fr, H, a, hq, hs, hf, he, h => by
    simp only [aCode] at h
    rcases h.ex with ⟨m, hm⟩ | ⟨ι, st, I, μ, ⟨x0, hI, hw⟩, hround⟩
    · refine wp_loop_rounds m ?_
      clear h
      induction m generalizing c fr H a with
      | zero => exact hm.elim
      | succ m ih =>
        rw [rounds_succ]
        refine aCode_sound hT hd x _ _ c fr H a (LiftQ.mono_then ?_ hq) hs hf he hm
        rintro a' w' ⟨c', fr', H', rfl, h1, h2, h3, h4⟩
        exact ih _ _ _ _ h2 h3 h4 h1
    obtain ⟨c2, e1, hs2, hf2, he2⟩ := hw.sound hd hs hf he
    rw [← e1]
    refine wp_loop_ghost (fun m a w => ∃ c x, c.w = w ∧ μ x = m ∧ I x ∧ HS w0 M0 c (st x).2 ∧ FR c n (st x).1 a ∧ Ext ce c) (μ x0) ⟨c2, x0, rfl, rfl, hI, hs2, hf2, he2⟩ ?_
    rintro m a' w' ⟨c', y, rfl, rfl, hI', hs', hf', he'⟩
    refine aCode_sound hT hd x _ _ c' _ _ a' ?_ hs' hf' he' (hround y hI')
    intro e a3 w3 hl
    cases e with
    | normal =>
      obtain ⟨c3, fr3, H3, rfl, ⟨z, hI4, hlt, hw4⟩, hs3, hf3, he3⟩ := hl
      obtain ⟨c4, e4, hs4, hf4, he4⟩ := hw4.sound hd hs3 hf3 he3
      exact ⟨μ z, hlt, c4, z, e4, rfl, hI4, hs4, hf4, he4⟩
    | exit id => exact hq (.exit id) _ _ hl
    | ret => exact hq .ret _ _ hl
    | _ => exact hl.elim
  | .exit id, Q, Q', c, fr, H, a, hq, hs, hf, he, h => wp_exit (hq (.exit id) _ _ ⟨c, fr, H, rfl, h, hs, hf, he⟩)
  | .ret, Q, Q', c, fr, H, a, hq, hs, hf, he, h => wp_ret (hq .ret _ _ ⟨c, fr, H, rfl, h, hs, hf, he⟩)
  | .rangeFunc _ _ _ _, _, _, _, _, _, _, _, _, _, _, h => by simp [aCode] at h
  | .label _, _, _, _, _, _, _, _, _, _, _, h => by simp [aCode] at h
  | .goto _, _, _, _, _, _, _, _, _, _, _, h => by simp [aCode] at h
  | .scope _, _, _, _, _, _, _, _, _, _, _, h => by simp [aCode] at h
  | .refuse _, _, _, _, _, _, _, _, _, _, _, h => by simp [aCode] at h
end
end Go.Proofs.YteecmgonbdbhdaaGreatDoor.A
end

/-
Functions in the abstract: results, what is given up at the end, contracts of functions that write nothing of their caller's.
-/
section
namespace Go.Proofs.YteecmgonbdbhdaaGreatDoor.A
open Go.RowKit

def retOne (T : Tys) (fr : Fr) (H : List AB) (r : ResultVar) (k : AV → Prop) : Prop :=
  match r with
  | .tmp t => forceK (fget fr t) k
  | .cell a t => match tget T t with
    | some ty => ptK H (fget fr a) fun cs => ldK ty cs k
    | none => False
def retL (T : Tys) (fr : Fr) (H : List AB) : List ResultVar → (List AV → Prop) → Prop
  | [], k => k []
  | r :: l, k => retOne T fr H r fun x => retL T fr H l fun xs => k (x :: xs)
def retK (T : Tys) (rs : List ResultVar) (fr : Fr) (H : List AB) (k : AV → Prop) : Prop :=
  retL T fr H rs fun l => match l with | [x] => k x | l => k (.tp l)
/-- A value, its own rows given up for reading. -/
def seal1 (x : AV) (H : List AB) (k : AV → List AB → Prop) : Prop :=
  match x with
  | .ag cs => sealK cs H fun l H => k (.ag l) H
  | .v u => k (.v u) H
  | .sl sz n get => k (.sl sz n get) H
  | .ow j n => match hget H j with
      | some (.row _ sz es) => n = es.length ∧ setK j .dead H fun H => k (.sl sz n (fun i => es.getD i [])) H
      | _ => False
  | _ => False
def sealA : List AV → List AB → (List AV → List AB → Prop) → Prop
  | [], H, k => k [] H
  | x :: l, H, k => seal1 x H fun x H => sealA l H fun l H => k (x :: l) H
def sealR (x : AV) (H : List AB) (k : AV → Prop) : Prop :=
  match x with
  | .tp l => sealA l H fun l _ => k (.tp l)
  | x => seal1 x H fun x _ => k x

theorem seal1_sound {w0 : Fl} {M0 : Ms} {c : Ctx} {H : List AB} {x : AV} {u : Value} {k : AV → List AB → Prop} (hs : HS w0 M0 c H) (hr : Rd x c u) (h : seal1 x H k) :
    ∃ r H' c', k r H' ∧ c'.w = c.w ∧ HS w0 M0 c' H' ∧ Ext c c' ∧ Rd r c'.closed u ∧ H'.length = H.length := by
  unfold seal1 at h
  split at h
  · rename_i cs
    simp only [Rd] at hr
    obtain ⟨xs, rfl, hx⟩ := hr
    obtain ⟨l', H', c', q1, q2, q3, q4, q5, q6, q7, q8⟩ := sealK_sound hs hx h
    exact ⟨_, H', c', q1, q2, q3, q4, by simp only [Rd]; exact ⟨xs, rfl, q5⟩, q6⟩
  · exact ⟨_, H, c, h, rfl, hs, Ext.refl c, by simpa [Rd] using hr, rfl⟩
  · exact ⟨_, H, c, h, rfl, hs, Ext.refl c, by simp only [Rd] at hr ⊢; exact hr, rfl⟩
  · rename_i j n
    rw [hget_eq] at h
    split at h
    · rename_i t sz es hj
      obtain ⟨rfl, h⟩ := h
      have h := setK_iff h
      obtain ⟨c1, e1, e2, e3, e4⟩ := hs.freeze hj
      refine ⟨_, _, c1, h, e1, e2, e3, ?_, by simp⟩
      have := e4 u hr
      simp only [Rd] at this ⊢
      exact this
    · exact h.elim
  · exact h.elim
theorem sealA_sound : ∀ {l : List AV} {w0 : Fl} {M0 : Ms} {c : Ctx} {H : List AB} {xs : List Value} {k : List AV → List AB → Prop}, HS w0 M0 c H → RdL l c xs → sealA l H k →
    ∃ l' H' c', k l' H' ∧ c'.w = c.w ∧ HS w0 M0 c' H' ∧ Ext c c' ∧ RdL l' c'.closed xs ∧ H'.length = H.length
  | [], _, _, c, H, xs, k, hs, hr, h => ⟨[], H, c, h, rfl, hs, Ext.refl c, by simp only [RdL] at hr ⊢; exact hr, rfl⟩
  | x :: l, w0, M0, c, H, xs, k, hs, hr, h => by
    simp only [RdL] at hr
    obtain ⟨u, us, rfl, h1, h2⟩ := hr
    simp only [sealA] at h
    obtain ⟨r, H1, c1, q1, q2, q3, q4, q5, q6⟩ := seal1_sound hs h1 h
    obtain ⟨l', H2, c2, p1, p2, p3, p4, p5, p6⟩ := sealA_sound q3 (RdL.ext _ q4 h2) q1
    refine ⟨_, H2, c2, p1, p2.trans q2, p3, q4.trans p4, ?_, by omega⟩
    simp only [RdL]
    exact ⟨u, us, rfl, Rd.ext _ p4.closed q5, p5⟩
theorem sealR_sound {w0 : Fl} {M0 : Ms} {c : Ctx} {H : List AB} {x : AV} {u : Value} {k : AV → Prop} (hs : HS w0 M0 c H) (hr : Rd x c u) (h : sealR x H k) :
    ∃ r H' c', k r ∧ c'.w = c.w ∧ HS w0 M0 c' H' ∧ Ext c c' ∧ Rd r c'.closed u := by
  unfold sealR at h
  split at h
  · simp only [Rd] at hr
    obtain ⟨xs, rfl, hx⟩ := hr
    obtain ⟨l', H', c', q1, q2, q3, q4, q5, q6⟩ := sealA_sound hs hx h
    exact ⟨_, H', c', q1, q2, q3, q4, by simp only [Rd]; exact ⟨xs, rfl, q5⟩⟩
  · obtain ⟨r, H', c', q1, q2, q3, q4, q5, _⟩ := seal1_sound hs hr h
    exact ⟨r, H', c', q1, q2, q3, q4, q5⟩

def resOne (tmps : Array Value) (r : ResultVar) : Sem Value :=
  match r with
  | .tmp t => pure (tmps.getD t undef)
  | .cell a t => do loadVar t (← asAddr (tmps.getD a undef))
theorem results_eq (fn : Func) (tmps : Array Value) : results fn tmps = (do let vs ← fn.results.mapM (resOne tmps); pure (if h : vs.size = 1 then vs[0] else .tuple vs)) := by
  unfold results
  congr 1
theorem retOne_sound {P : Program} {T : Tys} (hT : TOk P T) {w0 : Fl} {M0 : Ms} {c : Ctx} {H : List AB} (hs : HS w0 M0 c H) {n : Nat} {fr : Fr} {a : Act} (hf : FR c n fr a) {r : ResultVar} {k : AV → Prop} (h : retOne T fr H r k) :
    ∃ x v, k x ∧ Rd x c v ∧ (resOne a.tmps r).run P c.w = .ok v c.w := by
  cases r with
  | tmp t => exact ⟨_, _, forceK_iff h, hf.get _, rfl⟩
  | cell ad t =>
    simp only [retOne] at h
    split at h
    · rename_i ty ht
      obtain ⟨b, off, cs, hu, hc, hk⟩ := pt_sound hs (hf.get ad) h
      obtain ⟨x, v, h1, h2, h3⟩ := ld_sound (P := P) (hT.get ht) hc hk
      exact ⟨x, v, h1, h3, by simp only [resOne, hu, asAddr, Sem.run_bind, Sem.run_pure, Result.andThen_ok]; exact h2 c.w (Old.refl _)⟩
    · exact h.elim
theorem retL_sound {P : Program} {T : Tys} (hT : TOk P T) {w0 : Fl} {M0 : Ms} {c : Ctx} {H : List AB} (hs : HS w0 M0 c H) {n : Nat} {fr : Fr} {a : Act} (hf : FR c n fr a) : ∀ {l : List ResultVar} {k : List AV → Prop}, retL T fr H l k →
    ∃ xs vs, k xs ∧ RdL xs c vs ∧ (l.mapM (resOne a.tmps)).run P c.w = .ok vs c.w
  | [], k, h => ⟨[], [], h, by simp [RdL], by simp⟩
  | r :: l, k, h => by
    simp only [retL] at h
    obtain ⟨x, v, h1, h2, h3⟩ := retOne_sound hT hs hf h
    obtain ⟨xs, vs, h4, h5, h6⟩ := retL_sound hT hs hf h1
    refine ⟨x :: xs, v :: vs, h4, by simp only [RdL]; exact ⟨v, vs, rfl, h2, h5⟩, ?_⟩
    rw [List.mapM_cons, Sem.run_bind, h3, Result.andThen_ok, Sem.run_bind, h6]
    rfl
theorem retK_sound {P : Program} {T : Tys} (hT : TOk P T) {w0 : Fl} {M0 : Ms} {c : Ctx} {H : List AB} (hs : HS w0 M0 c H) {n : Nat} {fr : Fr} {a : Act} (hf : FR c n fr a) {fn : Func} {k : AV → Prop} (h : retK T fn.results.toList fr H k) :
    ∃ x v, k x ∧ Rd x c v ∧ (results fn a.tmps).run P c.w = .ok v c.w := by
  unfold retK at h
  obtain ⟨xs, vs, h1, h2, h3⟩ := retL_sound hT hs hf h
  have hrun : ∀ v, (if h : vs.toArray.size = 1 then vs.toArray[0] else .tuple vs.toArray) = v → (results fn a.tmps).run P c.w = .ok v c.w := by
    intro v hv
    rw [results_eq, Sem.run_bind, Array.mapM_eq_mapM_toList, Sem.run_map, h3]
    simp only [Result.andThen_ok, Sem.run_pure]
    rw [← hv]
  have hl := h2.length
  cases xs with
  | nil =>
    simp only [RdL] at h2
    subst h2
    exact ⟨.tp [], .tuple #[], h1, by simp only [Rd]; exact ⟨[], rfl, by simp [RdL]⟩, hrun _ (by simp)⟩
  | cons x xs =>
    have h2' := h2
    simp only [RdL] at h2
    obtain ⟨v, us, rfl, h4, h5⟩ := h2
    cases xs with
    | nil =>
      simp only [RdL] at h5
      subst h5
      exact ⟨x, v, h1, h4, hrun v (by simp)⟩
    | cons y xs =>
      refine ⟨.tp (x :: y :: xs), .tuple (v :: us).toArray, h1, by simp only [Rd]; exact ⟨_, rfl, h2'⟩, hrun _ ?_⟩
      rw [dif_neg]
      have := h5.length
      simp at this ⊢
      intro e; subst e; simp at this

def IsGo (P : Program) (f : FuncId) : Prop := ∃ fn, P.funcs[f]? = some fn ∧ fn.body.isNone = false ∧ (fn.name == "runtime.NumGoroutine") = false
/-- A function that writes nothing of its caller's: what it answers to such arguments. -/
structure Fn (P : Program) (f : FuncId) (args : List AV) (K : AV → Prop) : Prop where
  go : IsGo P f
  calls : ∀ (c0 : Ctx) (us : List Value), c0.dom = 0 → (∀ b, c0.M b → b < c0.w.heap.size) → globOk c0.w → RdL args c0 us →
    Calls P f us.toArray c0.w fun e w' => ∃ v r, e = .returned v ∧ K r ∧ Below c0.w.heap.size c0.w w' ∧ Rd r { c0 with w := w' } v
theorem Fn.mono {P : Program} {f : FuncId} {args : List AV} {K K' : AV → Prop} (h : Fn P f args K) (hk : ∀ r, K r → K' r) : Fn P f args K' :=
  ⟨h.1, fun c0 us h1 h2 h3 h4 => (h.2 c0 us h1 h2 h3 h4).mono fun _ _ ⟨v, r, h4, h5, h6⟩ => ⟨v, r, h4, hk _ h5, h6⟩⟩
theorem Fn.closed {P : Program} {f : FuncId} {args : List AV} {H : List AB} {K : AV → Prop} {q : Bool} {k : AV → List AB → Prop} (h : Fn P f args K) (hc : AV.ltL args 0 = true) (hk : ∀ r, K r → k r H) : ACalls P q f args H k := by
  refine ⟨h.go, fun w0 M0 c us hs0 hr => ?_⟩
  have hcut : Cut c c.closed := ⟨Ext.refl _, fun k hk => absurd hk (Nat.not_lt_zero k)⟩
  refine (h.calls c.closed us rfl hs0.lt hs0.glob (RdL.cut args hcut hc hr)).mono ?_
  rintro e w' ⟨v, r, rfl, q1, q2, q3⟩
  obtain ⟨p1, p2⟩ := hs0.grow (w' := w') q2
  exact ⟨v, _, r, H, rfl, rfl, hk r q1, p1, p2, Rd.ext r (Ext.ofClosed { c with w := w' }) q3, fun _ => q2.old⟩
theorem ACalls.shut {P : Program} {q : Bool} {f : FuncId} {args : List AV} {H : List AB} {k : AV → List AB → Prop} (h : IsGo P f) (hs : sealA args H fun a H => ACalls P q f a H k) : ACalls P q f args H k := by
  refine ⟨h, fun w0 M0 c us hs0 hr => ?_⟩
  obtain ⟨l', H', c', h1, h2, h3, h4, h5, _⟩ := sealA_sound hs0 hr hs
  have := h1.calls w0 M0 c' us h3 (RdL.ext _ (Ext.ofClosed c') h5)
  rw [h2] at this
  refine this.mono ?_
  rintro e w' ⟨v, c2, r, H2, rfl, rfl, q1, q2, q3, q4, q5⟩
  exact ⟨v, c2, r, H2, rfl, rfl, q1, q2, h4.trans q3, q4, q5⟩
theorem Fn.shut {P : Program} {f : FuncId} {args args' : List AV} {H : List AB} {K : AV → Prop} {q : Bool} {k : AV → List AB → Prop} (h : Fn P f args' K) (hs : sealA args H fun a H => a = args' ∧ ∀ r, K r → k r H) : ACalls P q f args H k := by
  refine ⟨h.1, fun w0 M0 c us hs0 hr => ?_⟩
  obtain ⟨l', H', c', ⟨rfl, h1⟩, h2, h3, h4, h5, _⟩ := sealA_sound hs0 hr hs
  have := h.2 c'.closed us rfl h3.lt h3.glob h5
  rw [show c'.closed.w = c.w from h2] at this
  refine this.mono ?_
  rintro e w' ⟨v, r, rfl, q1, q2, q3⟩
  have hB : Below c'.w.heap.size c'.w w' := by rw [h2]; exact q2
  obtain ⟨p1, p2⟩ := h3.grow hB
  exact ⟨v, _, r, H', rfl, rfl, h1 r q1, p1, h4.trans p2, Rd.ext r (Ext.ofClosed { c' with w := w' }) q3, fun _ => q2.old⟩

def frOf : Nat → List AV → Fr
  | _, [] => []
  | i, x :: l => (i, x) :: frOf (i + 1) l
theorem frOf_rd {c : Ctx} {us : List Value} {m : Nat} : ∀ {l : List AV} {i : Nat} {pre : List Value}, pre.length = i → RdL l c us → ∀ j, Rd (fget (frOf i l) j) c ((pre ++ us ++ List.replicate m undef)[j]?.getD undef) := by
  intro l
  induction l generalizing us with
  | nil => intro i pre _ _ j; simp [frOf, fget, Rd]
  | cons x l ih =>
    intro i pre hp hr j
    simp only [RdL] at hr
    obtain ⟨y, ys, rfl, h1, h2⟩ := hr
    simp only [frOf, fget]
    cases hb : Nat.beq i j with
    | true =>
      have := Nat.eq_of_beq_eq_true hb
      subst this
      simp only [cond_true]
      rw [List.append_assoc, List.getElem?_append_right (by omega), hp]
      simpa using h1
    | false =>
      have := ih (us := ys) (i := i + 1) (pre := pre ++ [y]) (by simp [hp]) h2 j
      simpa using this
/-- What stands at a function's end. -/
def finQ (T : Tys) (rs : List ResultVar) (K : AV → Prop) : QA := fun ex fr H => match ex with
  | .exit _ => False
  | _ => retK T rs fr H fun x => sealR x H fun r => ∃ r', (∀ c v, Rd r c v → Rd r' c v) ∧ K r'
theorem Fn.of {P : Program} {T : Tys} (hT : TOk P T) {f : FuncId} {fn : Func} {body : Code} {args : List AV} {K : AV → Prop} (hf : P.funcs[f]? = some fn) (hb : fn.body = some body) (hname : (fn.name == "runtime.NumGoroutine") = false) (hn : args.length ≤ fn.ntmps)
    (h : aCode P T fn.ntmps 0 body (finQ T fn.results.toList K) (frOf 0 args) []) : Fn P f args K := by
  refine ⟨⟨fn, hf, by rw [hb]; rfl, hname⟩, fun c0 us hd hM hg hr => ?_⟩
  refine calls_of_wp hf hb ?_
  let ce : Ctx := { c0 with base := 0 }
  have hce : Ext c0 ce := ⟨rfl, rfl, rfl, Nat.le_refl _, fun _ _ h => ⟨h, rfl⟩, Nat.le_refl _, fun _ _ => Nat.le_refl _, fun _ _ _ => rfl, fun _ _ _ h => h⟩
  have hHS : HS (Fl.all c0.w hg) c0.M ce [] := ⟨LowF.refl _ hg, rfl, hd, fun _ _ => Iff.rfl, hM, by simp, by simp, by simp⟩
  have hlen := hr.length
  have hFR : FR ce fn.ntmps (frOf 0 args) { tmps := us.toArray ++ Array.replicate (fn.ntmps - us.toArray.size) undef, defers := [] } := by
    refine ⟨by simp; omega, rfl, fun i => ?_⟩
    have := frOf_rd (c := ce) (m := fn.ntmps - us.length) (l := args) (i := 0) (pre := []) rfl (RdL.ext _ hce hr) i
    rw [Array.getD_eq_getD_getElem?]
    have e : (us.toArray ++ Array.replicate (fn.ntmps - us.toArray.size) undef)[i]? = ([] ++ us ++ List.replicate (fn.ntmps - us.length) undef)[i]? := by
      have : (us.toArray ++ Array.replicate (fn.ntmps - us.toArray.size) undef) = ([] ++ us ++ List.replicate (fn.ntmps - us.length) undef).toArray := Array.ext' (by simp)
      rw [this]; simp only [List.getElem?_toArray]
    rw [e]
    exact this
  refine aCode_sound (w0 := Fl.all c0.w hg) (M0 := c0.M) (ce := ce) hT hd body _ _ ce _ [] _ ?_ hHS hFR (Ext.refl _) h
  have fin : ∀ a w, Lift (Fl.all c0.w hg) c0.M ce fn.ntmps (fun fr H => retK T fn.results.toList fr H fun x => sealR x H fun r => ∃ r', (∀ c v, Rd r c v → Rd r' c v) ∧ K r') a w → a.defers = [] ∧ ∃ v, (results fn a.tmps).run P w = .ok v w ∧ ∃ v' r, Ending.returned v = .returned v' ∧ K r ∧ Below c0.w.heap.size c0.w w ∧ Rd r { c0 with w := w } v' := by
    rintro a w ⟨c, fr, H, rfl, h1, h2, h3, h4⟩
    obtain ⟨x, v, q1, q2, q3⟩ := retK_sound hT h2 h3 h1
    obtain ⟨r, H', c', p1, p2, p3, p4, p5⟩ := sealR_sound h2 q2 q1
    obtain ⟨r', o1, o2⟩ := p1
    refine ⟨h3.defers, v, q3, v, r', rfl, o2, h2.low.below, ?_⟩
    refine o1 _ _ ?_
    have hE : Ext c'.closed { c0 with w := c.w } := by
      refine ⟨by simp [Ctx.closed, p2], by simp [Ctx.closed, p2], by simp [Ctx.closed, p2], by simp [Ctx.closed, p2], fun b hb hm => ⟨fun h => hm ?_, by simp [Ctx.closed, p2]⟩, Nat.zero_le _, fun k hk => absurd hk (Nat.not_lt_zero k), fun k hk => absurd hk (Nat.not_lt_zero k), fun k _ hk => absurd hk (Nat.not_lt_zero k)⟩
      exact (p3.foreign b (hM b h)).2 h
    exact Rd.ext _ hE p5
  intro e a w hl
  cases e with
  | normal => exact fin a w hl
  | ret => exact fin a w hl
  | exit id =>
    obtain ⟨c, fr, H, _, h1, _⟩ := hl
    exact h1.elim
  | _ => exact hl.elim
end Go.Proofs.YteecmgonbdbhdaaGreatDoor.A
end

/-
A statement whose order Go leaves open, in the abstract: one order that stands for all.
-/
section
namespace Go.Proofs.YteecmgonbdbhdaaGreatDoor.A
open Go.RowKit

/-- Which operations stand ahead of which, by whatever way: as numbers whose bits are asked. -/
def orL (B : List Nat) (l : List Edge) : Nat := l.foldl (fun s e => s ||| (match Region.binds .any e with | true => 2 ^ e.on ||| B.getD e.on 0 | false => 0)) 0
def befC (ops : Array Oper) : List Nat := ops.toList.foldl (fun B o => B ++ [orL B o.after.toList]) []
def befOk (ops : Array Oper) (B : List Nat) : Bool :=
  (List.range ops.size).all fun j => match ops[j]? with
    | none => true
    | some o => o.after.toList.all (fun e => !Region.binds .any e || Nat.blt e.on j) && Nat.beq (B.getD j 0) (orL B o.after.toList)
/-- What only hands on: whatever the memory. -/
def pureOp : Op → Bool
  | .move _ | .assign _ | .extract _ _ => true
  | _ => false
theorem pureRun {P : Program} {ρ : Operand → Value} {o : Oper} {v : Value} {w : World} (hp : pureOp o.op = true) (h : (execOp ρ o).run P w = .ok (.value v) w) (w' : World) : (execOp ρ o).run P w' = .ok (.value v) w' := by
  cases ho : o.op <;> rw [ho] at hp <;> simp only [pureOp] at hp <;> try cases hp
  · simp only [execOp, ho] at h ⊢; simpa using h
  · simp only [execOp, ho] at h ⊢; simpa using h
  · rename_i x i
    simp only [execOp, ho] at h ⊢
    revert h
    unfold Instr.extract
    generalize ρ x = u
    cases u with
    | tuple vs =>
      simp only
      generalize vs[i]? = q
      cases q <;> simp
    | _ => simp
def mayT (ops : Array Oper) (B : List Nat) (j : Nat) : Bool :=
  (List.range ops.size).any fun i => !(((ops[i]?).map fun o => isEff o.op || pureOp o.op).getD true) && i != j && !(B.getD j 0).testBit i && !(B.getD i 0).testBit j
theorem orL_bit {B : List Nat} {i : Nat} : ∀ (l : List Edge) (s : Nat), (l.foldl (fun s e => s ||| (match Region.binds .any e with | true => 2 ^ e.on ||| B.getD e.on 0 | false => 0)) s).testBit i = true →
    s.testBit i = true ∨ ∃ e ∈ l, Region.binds .any e = true ∧ (e.on = i ∨ (B.getD e.on 0).testBit i = true)
  | [], s, h => .inl h
  | e :: l, s, h => by
    rw [List.foldl_cons] at h
    rcases orL_bit l _ h with h | ⟨x, hx, h1, h2⟩
    · rw [Nat.testBit_or, Bool.or_eq_true] at h
      rcases h with h | h
      · exact .inl h
      · cases hb : Region.binds .any e with
        | false => rw [hb] at h; simp at h
        | true =>
          rw [hb] at h
          simp only [Nat.testBit_or, Bool.or_eq_true, Nat.testBit_two_pow, decide_eq_true_eq] at h
          exact .inr ⟨e, by simp, hb, h⟩
    · exact .inr ⟨x, by simp [hx], h1, h2⟩

section
variable {P : Program} {ops : Array Oper} {B : List Nat} {Q : Exit → Act → World → Prop}
/-- What has come up is closed under 'ahead'. -/
def Cl (ops : Array Oper) (l : Array Bool) : Prop := ∀ j o, ops[j]? = some o → l.getD j false = true → ∀ e ∈ o.after, Region.binds .any e = true → l.getD e.on false = true
theorem anc (hB : befOk ops B = true) {l : Array Bool} (hl : Cl ops l) : ∀ (j : Nat) (o : Oper), ops[j]? = some o → (∀ e ∈ o.after, Region.binds .any e = true → l.getD e.on false = true) → ∀ i, (B.getD j 0).testBit i = true → l.getD i false = true := by
  intro j
  induction j using Nat.strongRecOn with
  | _ j ih =>
    intro o ho hall i hi
    have h1 := List.all_eq_true.1 hB j (List.mem_range.2 (Array.getElem?_eq_some_iff.1 ho).1)
    rw [ho] at h1
    simp only [Bool.and_eq_true] at h1
    obtain ⟨h2, h3⟩ := h1
    rw [Nat.eq_of_beq_eq_true h3] at hi
    rcases orL_bit _ _ hi with h | ⟨e, he, hb, h⟩
    · simp at h
    · have he' : e ∈ o.after := by simpa using he
      have hl1 := hall e he' hb
      rcases h with rfl | h
      · exact hl1
      · have hlt := List.all_eq_true.1 h2 e he
        simp only [hb, Bool.not_true, Bool.false_or] at hlt
        have hlt : e.on < j := by simpa using hlt
        have hsz : e.on < ops.size := Nat.lt_trans hlt (Array.getElem?_eq_some_iff.1 ho).1
        exact ih e.on hlt ops[e.on] (Array.getElem?_eq_getElem hsz) (fun e' he2 hb2 => hl e.on _ (Array.getElem?_eq_getElem hsz) hl1 e' he2 hb2) i h
theorem Cl.set {l : Array Bool} (hl : Cl ops l) {j : Nat} (hj : j ∈ Region.ready .any ops l) : Cl ops (l.setIfInBounds j true) := by
  obtain ⟨hjun, oj, hoj, hall⟩ := mem_ready.1 hj
  intro k o hk hlk e he hb
  refine getD_set_true ?_
  by_cases hkj : k = j
  · subst hkj
    rw [hoj] at hk
    cases hk
    exact hall e he hb
  · rw [getD_set_ne false (Ne.symm hkj)] at hlk
    exact hl k o hk hlk e he hb
def HeldR (P : Program) (ops : Array Oper) (B : List Nat) (Q : Exit → Act → World → Prop) : Nat → Array Bool → Act → World → Prop
  | 0, l, a, w => Region.ready .any ops l = [] ∧ Q .normal a w
  | n + 1, l, a, w => (Region.ready .any ops l = [] → Q .normal a w) ∧
      ∀ i ∈ Region.ready .any ops l, wpOp P ops Q i (fun a' w' => (mayT ops B i = true → Old w w') ∧ HeldR P ops B Q n (l.setIfInBounds i true) a' w') a w
theorem HeldR.any : ∀ (n : Nat) (l : Array Bool) (a : Act) (w : World), HeldR P ops B Q n l a w → wpAny P .any ops Q n l a w
  | 0, _, _, _, h => h
  | n + 1, _, _, _, h => ⟨h.1, fun i hi => wpOp_mono (fun a' w' h' => HeldR.any n _ a' w' h'.2) (h.2 i hi)⟩
theorem HeldR.first (hB : befOk ops B = true) {i : Nat} {oi : Oper} {v : Value} (hi : ops[i]? = some oi) (hdet : isEff oi.op = false)
    (hsel : ∀ (j : Nat) (o : Oper) cs b, ops[j]? = some o → o.op ≠ .select cs b)
    (hQ : ∀ c a w, Q (.panic c) (a.put oi.dst v) w → Q (.panic c) a w) {S : World → Prop} (hk : ∀ w w', S w → (pureOp oi.op = false → Old w w') → S w') : ∀ (n : Nat) (l : Array Bool) (a : Act) (w : World), Cl ops l →
      (∀ j oj, ops[j]? = some oj → j ≠ i → l.getD j true = false → (∀ e ∈ oj.after, Region.binds .any e = true → e.on ≠ i) → oi.apart ops oj = true) →
      i ∈ Region.ready .any ops l → YieldsIf P ops S oi v a → S w → HeldR P ops B Q n (l.setIfInBounds i true) (a.put oi.dst v) w → HeldR P ops B Q (n + 1) l a w := by
  intro n
  induction n with
  | zero =>
    intro l a w _ _ hr hy hS H
    refine ⟨fun h => (by rw [h] at hr; cases hr), fun j hj => ?_⟩
    by_cases hji : j = i
    · subst hji; exact hy.wpOp hi hS ⟨fun _ => Old.refl _, H⟩
    · have h1 := ready_mono hj hji
      rw [H.1] at h1
      cases h1
  | succ n ih =>
    intro l a w hcl hfree hr hy hS H
    refine ⟨fun h => (by rw [h] at hr; cases hr), fun j hj => ?_⟩
    by_cases hji : j = i
    · subst hji; exact hy.wpOp hi hS ⟨fun _ => Old.refl _, H⟩
    have h1 := H.2 j (ready_mono hj hji)
    obtain ⟨hjun, oj, hoj, hall⟩ := mem_ready.1 hj
    obtain ⟨hiun, oi', hoi', halli⟩ := mem_ready.1 hr
    rw [hi] at hoi'
    cases hoi'
    have unl : ∀ k, l.getD k true = false → l.getD k false = true → False := by
      intro k h1 h2
      rcases Nat.lt_or_ge k l.size with h' | h'
      · simp [h'] at h1 h2; rw [h1] at h2; cases h2
      · simp [Array.getElem?_eq_none h'] at h2
    have hnot : ∀ e ∈ oj.after, Region.binds .any e = true → e.on ≠ i := fun e he hb heq => unl i hiun (heq ▸ hall e he hb)
    have hmay : pureOp oi.op = false → mayT ops B j = true := by
      intro hpu
      refine List.any_eq_true.2 ⟨i, List.mem_range.2 (Array.getElem?_eq_some_iff.1 hi).1, ?_⟩
      have hne : (i != j) = true := by rw [bne_iff_ne]; exact fun h => hji h.symm
      have b1 : (B.getD j 0).testBit i = false := by
        rw [← Bool.not_eq_true]; exact fun h => unl i hiun (anc hB hcl j oj hoj hall i h)
      have b2 : (B.getD i 0).testBit j = false := by
        rw [← Bool.not_eq_true]; exact fun h => unl j hjun (anc hB hcl i oi hi halli j h)
      simp only [hi, Option.map_some, Option.getD_some, hdet, hpu, hne, b1, b2, Bool.or_false, Bool.not_false, Bool.and_true]
    have h2 := wpOp_putIf hoj (hfree j oj hoj hji hjun hnot) (fun cs b => hsel i oi cs b hi) (fun cs b => hsel j oj cs b hoj) hQ hy h1
    refine wpOp_mono (fun a' w' h3 => ⟨h3.2.1, ih (l.setIfInBounds j true) a' w' (hcl.set hj) (fun k ok hk hki hun hno => ?_) (ready_mono hr (Ne.symm hji)) h3.1 (hk _ _ hS fun hp => h3.2.1 (hmay hp)) ?_⟩) h2
    · refine hfree k ok hk hki ?_ hno
      by_cases hjk : j = k
      · subst hjk; exact hjun
      · rw [getD_set_ne true hjk] at hun; exact hun
    · rw [Array.setIfInBounds_comm _ _ hji]
      exact h3.2.2

theorem HeldR.first1 (hB : befOk ops B = true) {i : Nat} {oi : Oper} {v : Value} (hi : ops[i]? = some oi) (hdet : isEff oi.op = false)
    (hsel : ∀ (j : Nat) (o : Oper) cs b, ops[j]? = some o → o.op ≠ .select cs b)
    (hQ : ∀ c a w, Q (.panic c) (a.put oi.dst v) w → Q (.panic c) a w) (n : Nat) (l : Array Bool) (a : Act) (w : World) (hcl : Cl ops l)
    (hfree : ∀ j oj, ops[j]? = some oj → j ≠ i → l.getD j true = false → (∀ e ∈ oj.after, Region.binds .any e = true → e.on ≠ i) → oi.apart ops oj = true)
    (hr : i ∈ Region.ready .any ops l) (hy : YieldsIf P ops (Old w) oi v a) (H : HeldR P ops B Q n (l.setIfInBounds i true) (a.put oi.dst v) w) : HeldR P ops B Q (n + 1) l a w := by
  cases hp : pureOp oi.op with
  | true =>
    refine HeldR.first hB hi hdet hsel hQ (S := fun _ => True) (fun _ _ _ _ => trivial) n l a w hcl hfree hr ?_ trivial H
    rcases hy with ⟨h1, h2⟩ | h
    · exact .inl ⟨h1, fun w' _ => pureRun hp (h2 w (Old.refl w)) w'⟩
    · exact .inr h
  | false =>
    exact HeldR.first hB hi hdet hsel hQ (S := Old w) (fun _ _ h1 h2 => h1.trans (h2 hp)) n l a w hcl hfree hr hy (Old.refl w) H

def qOf : Op → Bool
  | .store _ _ _ => false
  | .call ⟨.builtin .append, _, _⟩ => false
  | _ => true
/-- Is such an order one that stands for all? -/
def drawOk (ops : Array Oper) (B : List Nat) : List Nat → Array Bool → Bool
  | [], l => (Region.ready .any ops l).isEmpty
  | i :: r, l => (match ops[i]? with
      | none => false
      | some o => match isEff o.op with
        | true => (match Region.ready .any ops l with | [j] => Nat.beq i j | _ => false) && (qOf o.op || !mayT ops B i)
        | false => Region.free .any ops l i && (Region.ready .any ops l).contains i) && drawOk ops B r (l.setIfInBounds i true)
def opsD (P : Program) (T : Tys) (n : Nat) (ops : Array Oper) : List Nat → Fr → List AB → (Fr → List AB → Prop) → Prop
  | [], fr, H, K => K fr H
  | i :: r, fr, H, K => match lget ops.toList i with
    | none => False
    | some o => guardK ops.toList o fr (fun fr => stepK P T n (qOf o.op) o fr H fun fr H => opsD P T n ops r fr H K) fun fr => putK n o.dst (.v undef) fr fun fr => opsD P T n ops r fr H K
variable {T : Tys} {w0 : Fl} {M0 : Ms} {n d0 : Nat} {ce : Ctx}
theorem guardK_sound {c : Ctx} {fr : Fr} {a : Act} (hf : FR c n fr a) {o : Oper} {run skip : Fr → Prop} (h : guardK ops.toList o fr run skip) :
    (Region.wanted o (yielded ops a.tmps) = true ∧ ∃ fr', FR c n fr' a ∧ run fr') ∨ (Region.wanted o (yielded ops a.tmps) = false ∧ ∃ fr', FR c n fr' a ∧ skip fr') := by
  unfold guardK at h
  split at h
  · rename_i hg
    exact .inl ⟨by simp [Region.wanted, hg], fr, hf, h⟩
  · rename_i j want hg
    rw [lget_eq] at h
    split at h
    · rename_i oj hj
      have hj' : ops[j]? = some oj := by simpa using hj
      split at h
      · rename_i d hd
        have hgd := hf.get d
        split at h
        · rename_i t ht
          rw [ht] at hgd
          simp only [Rd] at hgd
          have hy : yielded ops a.tmps j = some t := by
            unfold yielded
            simp only [hj', Option.bind_some, hd]
            have : a.tmps[d]? = some (.bool t) := by
              rw [Array.getD_eq_getD_getElem?] at hgd
              cases hq : a.tmps[d]? with
              | none => rw [hq] at hgd; simp [undef] at hgd
              | some x => rw [hq] at hgd; simp at hgd; rw [hgd]
            rw [this]
          have hl := hf.lit ht
          split at h
          · obtain ⟨h1, h2⟩ := boolK_iff h
            cases t with
            | true => exact .inl ⟨by simp [Region.wanted, hg, hy], _, hl, h1 rfl⟩
            | false => exact .inr ⟨by simp [Region.wanted, hg, hy], _, hl, h2 rfl⟩
          · obtain ⟨h1, h2⟩ := boolK_iff h
            cases t with
            | true => exact .inr ⟨by simp [Region.wanted, hg, hy], _, hl, h1 rfl⟩
            | false => exact .inl ⟨by simp [Region.wanted, hg, hy], _, hl, h2 rfl⟩
        · rename_i vs ht
          rw [ht] at hgd
          simp only [Rd] at hgd
          have hy : yielded ops a.tmps j = none := by
            unfold yielded
            simp only [hj', Option.bind_some, hd]
            rw [Array.getD_eq_getD_getElem?] at hgd
            cases hq : a.tmps[d]? with
            | none => rfl
            | some x => rw [hq] at hgd; simp at hgd; rw [hgd]
          exact .inr ⟨by simp [Region.wanted, hg, hy], fr, hf, h⟩
        · exact h.elim
      · exact h.elim
    · exact h.elim
theorem opsD_sound (hT : TOk P T) (hB : befOk ops B = true) (hns : Region.noSelect ops = true) {K : Fr → List AB → Prop} (hq : ∀ a w, Lift w0 M0 ce n K a w → Q .normal a w) (hpan : ∀ c a w, ¬ Q (.panic c) a w) :
    ∀ (r : List Nat) (m : Nat) (l : Array Bool) (c : Ctx) (fr : Fr) (H : List AB) (a : Act), r.length ≤ m → Cl ops l → drawOk ops B r l = true → HS w0 M0 c H → FR c n fr a → Ext ce c → opsD P T n ops r fr H K → HeldR P ops B Q m l a c.w
  | [], m, l, c, fr, H, a, hm, hcl, hd, hs, hf, he, h => by
    simp only [drawOk, List.isEmpty_iff] at hd
    cases m with
    | zero => exact ⟨hd, hq _ _ ⟨c, fr, H, rfl, h, hs, hf, he⟩⟩
    | succ m => exact ⟨fun _ => hq _ _ ⟨c, fr, H, rfl, h, hs, hf, he⟩, by rw [hd]; simp⟩
  | i :: r, m, l, c, fr, H, a, hm, hcl, hd, hs, hf, he, h => by
    cases m with
    | zero => simp at hm
    | succ m =>
      simp only [List.length_cons, Nat.add_le_add_iff_right] at hm
      simp only [drawOk, Bool.and_eq_true] at hd
      obtain ⟨hd1, hd2⟩ := hd
      simp only [opsD, lget_eq] at h
      cases ho : ops[i]? with
      | none => rw [ho] at hd1; simp at hd1
      | some o =>
        rw [ho] at hd1
        simp only at hd1
        rw [show ops.toList[i]? = some o by simpa using ho] at h
        simp only at h
        cases hE : isEff o.op with
        | true =>
          rw [hE] at hd1
          simp only [Bool.and_eq_true] at hd1
          obtain ⟨hr, hmq⟩ := hd1
          have hr' : Region.ready .any ops l = [i] := by
            split at hr
            · rename_i j hj; rw [hj, Nat.eq_of_beq_eq_true hr]
            · cases hr
          have hri : i ∈ Region.ready .any ops l := by rw [hr']; simp
          refine ⟨fun h0 => (by rw [hr'] at h0; cases h0), fun j hj => ?_⟩
          rw [hr', List.mem_singleton] at hj
          subst hj
          refine wpOp_step ho fun KK hK => ?_
          rcases guardK_sound hf h with ⟨hw, fr', hf', h⟩ | ⟨hw, fr', hf', h⟩
          · rw [if_pos hw]
            refine stepK_sound hT hs hf' he h ?_
            rintro a' w' ⟨c', fr2, H', rfl, h1, h2, h3, h4⟩ hold
            refine hK _ _ ⟨fun hmay => hold ?_, opsD_sound hT hB hns hq hpan r m _ c' fr2 H' a' hm (hcl.set hri) hd2 h2 h3 h4 h1⟩
            rw [hmay] at hmq
            simpa using hmq
          · rw [if_neg (by rw [hw]; simp)]
            obtain ⟨fr2, h1, h2⟩ := putK_sound (v := undef) hf' (by simp [Rd]) h
            exact hK _ _ ⟨fun _ => Old.refl _, opsD_sound hT hB hns hq hpan r m _ c fr2 H _ hm (hcl.set hri) hd2 hs h2 he h1⟩
        | false =>
          rw [hE] at hd1
          simp only [Bool.and_eq_true] at hd1
          obtain ⟨hfree, hr⟩ := hd1
          have hri : i ∈ Region.ready .any ops l := by simpa using hr
          have step : ∀ v fr2, YieldsIf P ops (Old c.w) o v a → FR c n fr2 (a.put o.dst v) → opsD P T n ops r fr2 H K → HeldR P ops B Q (m + 1) l a c.w := by
            intro v fr2 hy hf2 h2
            exact HeldR.first1 hB ho hE (Region.noSelect_spec hns) (fun c a w h => (hpan _ _ _ h).elim) m l a c.w hcl (Region.free_spec ho hfree) hri hy
              (opsD_sound hT hB hns hq hpan r m _ c fr2 H _ hm (hcl.set hri) hd2 hs hf2 he h2)
          rcases guardK_sound hf h with ⟨hw, fr', hf', h⟩ | ⟨hw, fr', hf', h⟩
          · unfold stepK at h
            rw [hE] at h
            obtain ⟨rr, v, h1, h2, h3⟩ := (det_sound hT hs hf' h).y
            obtain ⟨fr2, h4, h5⟩ := putK_sound hf' h3 h1
            exact step v fr2 (.inl ⟨hw, h2⟩) h5 h4
          · obtain ⟨fr2, h4, h5⟩ := putK_sound (v := undef) hf' (by simp [Rd]) h
            exact step undef fr2 (.inr ⟨hw, rfl⟩) h5 h4
def drawAll (ops : Array Oper) (ord : List Nat) : Bool := befOk ops (befC ops) && Region.noSelect ops && Nat.ble ord.length ops.size && drawOk ops (befC ops) ord (Array.replicate ops.size false)
theorem aDraw.of (hT : TOk P T) (hm : P.follows .mixedOrders = true) {id : Nat} {K : Fr → List AB → Prop} {fr : Fr} {H : List AB} (ord : List Nat) (hok : drawAll ops ord = true) (h : opsD P T n ops ord fr H K) : aDraw P T n d0 id ops K fr H := by
  simp only [drawAll, Bool.and_eq_true] at hok
  obtain ⟨⟨⟨hB, hns⟩, hlen⟩, hok⟩ := hok
  refine ⟨fun w0 M0 ce c a hs hf he hd Q hQ => ?_⟩
  refine wp_mono (Q := fun e a w => e = .normal ∧ Lift w0 M0 ce n K a w) ?_ ?_
  · refine wp_region_any hm (HeldR.any (B := befC ops) _ _ _ _ ?_)
    have hb := (Below.refl c.w.heap.size c.w).drew
    obtain ⟨h1, h2⟩ := hs.grow hb
    refine opsD_sound (w0 := w0) (M0 := M0) (ce := ce) hT hB hns (fun a w hl => ⟨rfl, hl⟩) (fun c a w h => by cases h.1) ord _ _ { c with w := c.w.drew } fr H a (Nat.le_of_ble_eq_true hlen) ?_ hok h1 (hf.ext h2) (he.trans h2) h
    intro j o hj hlj
    rcases Nat.lt_or_ge j ops.size with h' | h'
    · simp [h'] at hlj
    · simp [Array.getElem?_eq_none h'] at hj
  · rintro e a w ⟨rfl, c', fr', H', rfl, h1, h2, h3, h4⟩
    exact hQ c' fr' H' a h1 h2 h3 h4
end
end Go.Proofs.YteecmgonbdbhdaaGreatDoor.A
namespace Go.Proofs.YteecmgonbdbhdaaGreatDoor.A
open Go.RowKit
/-- A loop by a state that hangs on a ghost. -/
theorem aLoop.rule {d0 : Nat} {body : QA → Fr → List AB → Prop} {Q : QA} {fr : Fr} {H : List AB} (ι : Type) (st : ι → Fr × List AB) (I : ι → Prop) (μ : ι → Nat) (x0 : ι) (h0 : I x0) (hw : Wk d0 fr H (st x0).1 (st x0).2)
    (round : ∀ x, I x → body (fun ex fr' H' => match ex with | .normal => ∃ x', I x' ∧ μ x' < μ x ∧ Wk d0 fr' H' (st x').1 (st x').2 | e => Q e fr' H') (st x).1 (st x).2) : aLoop d0 body Q fr H :=
  ⟨.inr ⟨ι, st, I, μ, ⟨x0, h0, hw⟩, round⟩⟩
theorem aDraw.seq {P : Program} {T : Tys} {n d0 : Nat} (hT : TOk P T) (hm : P.follows .mixedOrders = true) {id : Nat} {ops : Array Oper} {K : Fr → List AB → Prop} {fr : Fr} {H : List AB} (hok : drawAll ops (List.range ops.size) = true) (h : opsD P T n ops (List.range ops.size) fr H K) : aDraw P T n d0 id ops K fr H :=
  aDraw.of hT hm _ hok h
end Go.Proofs.YteecmgonbdbhdaaGreatDoor.A
end

/-
A statement whose order Go leaves open where ways part: a tree of orders; all ways lead to one state.
-/
section
namespace Go.Proofs.YteecmgonbdbhdaaGreatDoor.A
open Go.RowKit

/-- What a test says where it is true, and where it is false. -/
class Say (b : Bool) (p q : outParam Prop) : Prop where
  yes : b = true → p
  no : b = false → q
theorem boolI {t : Bool} {p q A B : Prop} [h : Say t p q] (h1 : p → A) (h2 : q → B) : boolK t A B := boolK_intro (fun e => h1 (h.yes e)) fun e => h2 (h.no e)
instance (priority := 10) sayAny (b : Bool) : Say b (b = true) (b = false) := ⟨id, id⟩
instance (priority := 100) sayDec (p : Prop) [Decidable p] : Say (decide p) p (¬ p) := ⟨of_decide_eq_true, of_decide_eq_false⟩
instance sayLt (a b : Int) : Say (decide (a < b)) (a < b) (b ≤ a) := ⟨of_decide_eq_true, fun h => Int.not_lt.1 (of_decide_eq_false h)⟩
instance sayLe (a b : Int) : Say (decide (a ≤ b)) (a ≤ b) (b < a) := ⟨of_decide_eq_true, fun h => Int.not_le.1 (of_decide_eq_false h)⟩
instance sayGt (a b : Int) : Say (decide (a > b)) (b < a) (a ≤ b) := ⟨of_decide_eq_true, fun h => Int.not_lt.1 (of_decide_eq_false h)⟩
instance sayGe (a b : Int) : Say (decide (a ≥ b)) (b ≤ a) (a < b) := ⟨of_decide_eq_true, fun h => Int.not_le.1 (of_decide_eq_false h)⟩
instance (priority := 2000) sayLtN (a b : Nat) : Say (decide ((a : Int) < (b : Int))) (a < b) (b ≤ a) := ⟨fun h => Int.ofNat_lt.1 (of_decide_eq_true h), fun h => Int.ofNat_le.1 (Int.not_lt.1 (of_decide_eq_false h))⟩
instance (priority := 2000) sayLeN (a b : Nat) : Say (decide ((a : Int) ≤ (b : Int))) (a ≤ b) (b < a) := ⟨fun h => Int.ofNat_le.1 (of_decide_eq_true h), fun h => Int.ofNat_lt.1 (Int.not_le.1 (of_decide_eq_false h))⟩
instance (priority := 2000) sayGtN (a b : Nat) : Say (decide ((a : Int) > (b : Int))) (b < a) (a ≤ b) := ⟨fun h => Int.ofNat_lt.1 (of_decide_eq_true h), fun h => Int.ofNat_le.1 (Int.not_lt.1 (of_decide_eq_false h))⟩
instance (priority := 2000) sayGeN (a b : Nat) : Say (decide ((a : Int) ≥ (b : Int))) (b ≤ a) (a < b) := ⟨fun h => Int.ofNat_le.1 (of_decide_eq_true h), fun h => Int.ofNat_lt.1 (Int.not_le.1 (of_decide_eq_false h))⟩
instance (priority := 2000) sayEqN (a b : Nat) : Say ((a : Int) == (b : Int)) (a = b) (a ≠ b) := ⟨fun h => Int.ofNat.inj (eq_of_beq h), fun h e => ne_of_beq_false h (by rw [e])⟩
instance (priority := 2000) sayNeN (a b : Nat) : Say ((a : Int) != (b : Int)) (a ≠ b) (a = b) := ⟨fun h e => bne_iff_ne.1 h (by rw [e]), fun h => Int.ofNat.inj (by simpa using h)⟩
instance sayEq {α : Type} [BEq α] [LawfulBEq α] (a b : α) : Say (a == b) (a = b) (a ≠ b) := ⟨eq_of_beq, fun h => ne_of_beq_false h⟩
instance sayNe {α : Type} [BEq α] [LawfulBEq α] (a b : α) : Say (a != b) (a ≠ b) (a = b) := ⟨fun h => bne_iff_ne.1 h, fun h => by simpa using h⟩
instance sayNot (b : Bool) (p q : Prop) [h : Say b p q] : Say (!b) q p := ⟨fun e => h.no (by simpa using e), fun e => h.yes (by simpa using e)⟩

inductive Tr where
  | fin
  | one (i : Nat) (r : Tr)
  | two (i : Nat) (a : Tr) (j : Nat) (b : Tr)
def Tr.depth : Tr → Nat
  | .fin => 0
  | .one _ r => r.depth + 1
  | .two _ a _ b => max a.depth b.depth + 1
section
variable {P : Program} {ops : Array Oper} {B : List Nat} {Q : Exit → Act → World → Prop}
def effq (ops : Array Oper) (B : List Nat) (i : Nat) : Bool := match ops[i]? with | some o => isEff o.op && (qOf o.op || !mayT ops B i) | none => false
def treeOk (ops : Array Oper) (B : List Nat) : Tr → Array Bool → Bool
  | .fin, l => (Region.ready .any ops l).isEmpty
  | .one i r, l => (match ops[i]? with
      | none => false
      | some o => match isEff o.op with
        | true => (match Region.ready .any ops l with | [j] => Nat.beq i j | _ => false) && (qOf o.op || !mayT ops B i)
        | false => Region.free .any ops l i && (Region.ready .any ops l).contains i) && treeOk ops B r (l.setIfInBounds i true)
  | .two i a j b, l => (match Region.ready .any ops l with | [x, y] => Nat.beq x i && Nat.beq y j | _ => false) && effq ops B i && effq ops B j && treeOk ops B a (l.setIfInBounds i true) && treeOk ops B b (l.setIfInBounds j true)
def stepT (P : Program) (T : Tys) (n : Nat) (ops : Array Oper) (i : Nat) (fr : Fr) (H : List AB) (K : Fr → List AB → Prop) : Prop :=
  match lget ops.toList i with
  | none => False
  | some o => guardK ops.toList o fr (fun fr => stepK P T n (qOf o.op) o fr H K) fun fr => putK n o.dst (.v undef) fr fun fr => K fr H
def opsT (P : Program) (T : Tys) (n : Nat) (ops : Array Oper) : Tr → Fr → List AB → (Fr → List AB → Prop) → Prop
  | .fin, fr, H, K => K fr H
  | .one i r, fr, H, K => stepT P T n ops i fr H fun fr H => opsT P T n ops r fr H K
  | .two i a j b, fr, H, K => (stepT P T n ops i fr H fun fr H => opsT P T n ops a fr H K) ∧ (stepT P T n ops j fr H fun fr H => opsT P T n ops b fr H K)
variable {T : Tys} {w0 : Fl} {M0 : Ms} {n d0 : Nat} {ce : Ctx}
theorem effT_sound (hT : TOk P T) {i : Nat} {o : Oper} (ho : ops[i]? = some o) {m : Nat} {l : Array Bool} (hmq : (qOf o.op || !mayT ops B i) = true) {c : Ctx} {fr : Fr} {H : List AB} {a : Act} (hs : HS w0 M0 c H) (hf : FR c n fr a) (he : Ext ce c) {K : Fr → List AB → Prop}
    (hk : ∀ (c' : Ctx) (fr' : Fr) (H' : List AB) (a' : Act), HS w0 M0 c' H' → FR c' n fr' a' → Ext ce c' → K fr' H' → HeldR P ops B Q m (l.setIfInBounds i true) a' c'.w)
    (h : stepT P T n ops i fr H K) : wpOp P ops Q i (fun a' w' => (mayT ops B i = true → Old c.w w') ∧ HeldR P ops B Q m (l.setIfInBounds i true) a' w') a c.w := by
  simp only [stepT, lget_eq] at h
  rw [show ops.toList[i]? = some o by simpa using ho] at h
  simp only at h
  refine wpOp_step ho fun KK hK => ?_
  rcases guardK_sound hf h with ⟨hw, fr', hf', h⟩ | ⟨hw, fr', hf', h⟩
  · rw [if_pos hw]
    refine stepK_sound hT hs hf' he h ?_
    rintro a' w' ⟨c', fr2, H', rfl, h1, h2, h3, h4⟩ hold
    refine hK _ _ ⟨fun hmay => hold ?_, hk c' fr2 H' a' h2 h3 h4 h1⟩
    rw [hmay] at hmq
    simpa using hmq
  · rw [if_neg (by rw [hw]; simp)]
    obtain ⟨fr2, h1, h2⟩ := putK_sound (v := undef) hf' (by simp [Rd]) h
    exact hK _ _ ⟨fun _ => Old.refl _, hk c fr2 H _ hs h2 he h1⟩
theorem opsT_sound (hT : TOk P T) (hB : befOk ops B = true) (hns : Region.noSelect ops = true) {K : Fr → List AB → Prop} (hq : ∀ a w, Lift w0 M0 ce n K a w → Q .normal a w) (hpan : ∀ c a w, ¬ Q (.panic c) a w) :
    ∀ (r : Tr) (m : Nat) (l : Array Bool) (c : Ctx) (fr : Fr) (H : List AB) (a : Act), r.depth ≤ m → Cl ops l → treeOk ops B r l = true → HS w0 M0 c H → FR c n fr a → Ext ce c → opsT P T n ops r fr H K → HeldR P ops B Q m l a c.w
  | .fin, m, l, c, fr, H, a, hm, hcl, hd, hs, hf, he, h => by
    simp only [treeOk, List.isEmpty_iff] at hd
    cases m with
    | zero => exact ⟨hd, hq _ _ ⟨c, fr, H, rfl, h, hs, hf, he⟩⟩
    | succ m => exact ⟨fun _ => hq _ _ ⟨c, fr, H, rfl, h, hs, hf, he⟩, by rw [hd]; simp⟩
  | .two i x j y, m, l, c, fr, H, a, hm, hcl, hd, hs, hf, he, h => by
    cases m with
    | zero => simp [Tr.depth] at hm
    | succ m =>
      simp only [Tr.depth] at hm
      simp only [treeOk, Bool.and_eq_true] at hd
      obtain ⟨⟨⟨⟨hr, hi⟩, hj⟩, hx⟩, hy⟩ := hd
      have hr' : Region.ready .any ops l = [i, j] := by
        split at hr
        · rename_i p q hpq
          simp only [Bool.and_eq_true] at hr
          rw [hpq, Nat.eq_of_beq_eq_true hr.1, Nat.eq_of_beq_eq_true hr.2]
        · cases hr
      obtain ⟨h1, h2⟩ := h
      have go : ∀ k r, effq ops B k = true → r.depth ≤ m → k ∈ Region.ready .any ops l → treeOk ops B r (l.setIfInBounds k true) = true → (stepT P T n ops k fr H fun fr H => opsT P T n ops r fr H K) → (∀ (c : Ctx) (fr : Fr) (H : List AB) (a : Act), HS w0 M0 c H → FR c n fr a → Ext ce c → opsT P T n ops r fr H K → HeldR P ops B Q m (l.setIfInBounds k true) a c.w) →
          wpOp P ops Q k (fun a' w' => (mayT ops B k = true → Old c.w w') ∧ HeldR P ops B Q m (l.setIfInBounds k true) a' w') a c.w := by
        intro k r hk _ _ _ hst hrec
        unfold effq at hk
        split at hk
        · rename_i o ho
          simp only [Bool.and_eq_true] at hk
          exact effT_sound hT ho hk.2 hs hf he hrec hst
        · cases hk
      refine ⟨fun h0 => (by rw [hr'] at h0; cases h0), fun k hk => ?_⟩
      have hi' : i ∈ Region.ready .any ops l := by rw [hr']; simp
      have hj' : j ∈ Region.ready .any ops l := by rw [hr']; simp
      rw [hr', List.mem_cons, List.mem_singleton] at hk
      rcases hk with rfl | rfl
      · exact go k x hi (by omega) hi' hx h1 fun c' fr' H' a' q1 q2 q3 q4 => opsT_sound hT hB hns hq hpan x m _ c' fr' H' a' (by omega) (hcl.set hi') hx q1 q2 q3 q4
      · exact go k y hj (by omega) hj' hy h2 fun c' fr' H' a' q1 q2 q3 q4 => opsT_sound hT hB hns hq hpan y m _ c' fr' H' a' (by omega) (hcl.set hj') hy q1 q2 q3 q4
  | .one i r, m, l, c, fr, H, a, hm, hcl, hd, hs, hf, he, h => by
    cases m with
    | zero => simp [Tr.depth] at hm
    | succ m =>
      simp only [Tr.depth, Nat.add_le_add_iff_right] at hm
      simp only [treeOk, Bool.and_eq_true] at hd
      obtain ⟨hd1, hd2⟩ := hd
      simp only [opsT] at h
      cases ho : ops[i]? with
      | none => rw [ho] at hd1; simp at hd1
      | some o =>
        rw [ho] at hd1
        simp only at hd1
        cases hE : isEff o.op with
        | true =>
          rw [hE] at hd1
          simp only [Bool.and_eq_true] at hd1
          obtain ⟨hr, hmq⟩ := hd1
          have hr' : Region.ready .any ops l = [i] := by
            split at hr
            · rename_i j hj; rw [hj, Nat.eq_of_beq_eq_true hr]
            · cases hr
          have hri : i ∈ Region.ready .any ops l := by rw [hr']; simp
          refine ⟨fun h0 => (by rw [hr'] at h0; cases h0), fun j hj => ?_⟩
          rw [hr', List.mem_singleton] at hj
          subst hj
          exact effT_sound hT ho hmq hs hf he (fun c' fr' H' a' q1 q2 q3 q4 => opsT_sound hT hB hns hq hpan r m _ c' fr' H' a' hm (hcl.set hri) hd2 q1 q2 q3 q4) h
        | false =>
          rw [hE] at hd1
          simp only [Bool.and_eq_true] at hd1
          obtain ⟨hfree, hr⟩ := hd1
          have hri : i ∈ Region.ready .any ops l := by simpa using hr
          simp only [stepT, lget_eq] at h
          rw [show ops.toList[i]? = some o by simpa using ho] at h
          simp only at h
          have step : ∀ v fr2, YieldsIf P ops (Old c.w) o v a → FR c n fr2 (a.put o.dst v) → opsT P T n ops r fr2 H K → HeldR P ops B Q (m + 1) l a c.w := by
            intro v fr2 hy hf2 h2
            exact HeldR.first1 hB ho hE (Region.noSelect_spec hns) (fun c a w h => (hpan _ _ _ h).elim) m l a c.w hcl (Region.free_spec ho hfree) hri hy
              (opsT_sound hT hB hns hq hpan r m _ c fr2 H _ hm (hcl.set hri) hd2 hs hf2 he h2)
          rcases guardK_sound hf h with ⟨hw, fr', hf', h⟩ | ⟨hw, fr', hf', h⟩
          · unfold stepK at h
            rw [hE] at h
            obtain ⟨rr, v, h1, h2, h3⟩ := (det_sound hT hs hf' h).y
            obtain ⟨fr2, h4, h5⟩ := putK_sound hf' h3 h1
            exact step v fr2 (.inl ⟨hw, h2⟩) h5 h4
          · obtain ⟨fr2, h4, h5⟩ := putK_sound (v := undef) hf' (by simp [Rd]) h
            exact step undef fr2 (.inr ⟨hw, rfl⟩) h5 h4
/-- A frame, its slots in a given order. -/
def canonK : List Nat → Fr → (Fr → Prop) → Prop
  | [], _, k => k []
  | d :: r, fr, k => forceK (fget fr d) fun x => canonK r fr fun l => k ((d, x) :: l)
theorem canonK_iff : ∀ {ds : List Nat} {fr : Fr} {k : Fr → Prop}, canonK ds fr k → k (ds.map fun d => (d, fget fr d))
  | [], _, _, h => h
  | d :: r, fr, k, h => by simp only [canonK] at h; exact canonK_iff (ds := r) (k := fun l => k ((d, fget fr d) :: l)) (forceK_iff h)
theorem canon_get (fr : Fr) : ∀ (ds : List Nat) (i : Nat), fget (ds.map fun d => (d, fget fr d)) i = .top ∨ fget (ds.map fun d => (d, fget fr d)) i = fget fr i
  | [], _ => .inl rfl
  | d :: r, i => by
    simp only [List.map_cons, fget]
    cases hb : Nat.beq d i with
    | true => have := Nat.eq_of_beq_eq_true hb; subst this; exact .inr rfl
    | false => exact canon_get fr r i
theorem FR.canon {c : Ctx} {fr : Fr} {a : Act} (h : FR c n fr a) (ds : List Nat) : FR c n (ds.map fun d => (d, fget fr d)) a := by
  refine ⟨h.size, h.defers, fun i => ?_⟩
  rcases canon_get fr ds i with e | e <;> rw [e]
  · simp [Rd]
  · exact h.get i
def slots : Fr → List Nat
  | [] => []
  | (i, _) :: r => i :: slots r
def treeAll (ops : Array Oper) (tr : Tr) : Bool := befOk ops (befC ops) && Region.noSelect ops && Nat.ble tr.depth ops.size && treeOk ops (befC ops) tr (Array.replicate ops.size false)
theorem aDraw.tree (hT : TOk P T) (hm : P.follows .mixedOrders = true) {id : Nat} {K : Fr → List AB → Prop} {fr : Fr} {H : List AB} (tr : Tr) (ds : List Nat) {F : Fr} {H2 : List AB} (hok : treeAll ops tr = true)
    (h : opsT P T n ops tr fr H fun fr' H' => canonK (ds ++ slots fr) fr' fun l => l = F ∧ H' = H2) (hk : K F H2) : aDraw P T n d0 id ops K fr H := by
  simp only [treeAll, Bool.and_eq_true] at hok
  obtain ⟨⟨⟨hB, hns⟩, hlen⟩, hok⟩ := hok
  refine ⟨fun w0 M0 ce c a hs hf he hd Q hQ => ?_⟩
  refine wp_mono (Q := fun e a w => e = .normal ∧ Lift w0 M0 ce n (fun fr' H' => canonK (ds ++ slots fr) fr' fun l => l = F ∧ H' = H2) a w) ?_ ?_
  · refine wp_region_any hm (HeldR.any (B := befC ops) _ _ _ _ ?_)
    have hb := (Below.refl c.w.heap.size c.w).drew
    obtain ⟨h1, h2⟩ := hs.grow hb
    refine opsT_sound (w0 := w0) (M0 := M0) (ce := ce) hT hB hns (fun a w hl => ⟨rfl, hl⟩) (fun c a w h => by cases h.1) tr _ _ { c with w := c.w.drew } fr H a (Nat.le_of_ble_eq_true hlen) ?_ hok h1 (hf.ext h2) (he.trans h2) h
    intro j o hj hlj
    rcases Nat.lt_or_ge j ops.size with h' | h'
    · simp [h'] at hlj
    · simp [Array.getElem?_eq_none h'] at hj
  · rintro e a w ⟨rfl, c', fr', H', rfl, h1, h2, h3, h4⟩
    obtain ⟨e1, rfl⟩ := canonK_iff h1
    exact hQ c' F H' a hk h2 (e1 ▸ h3.canon _) h4
end
end Go.Proofs.YteecmgonbdbhdaaGreatDoor.A
end

/-
The program's types, as a table, and that it is right.
-/
section
namespace Go.Proofs.YteecmgonbdbhdaaGreatDoor.A
open Go.RowKit

def tys : Tys := [
  (2, ⟨1, false, [.int .i64 0], .int .i64⟩),
  (3, ⟨1, false, [.int .i64 0], .int .i64⟩),
  (4, ⟨1, false, [.bool false], .bool⟩),
  (5, ⟨1, false, [.int .u8 0], .int .u8⟩),
  (6, ⟨1, false, [.int .u8 0], .int .u8⟩),
  (7, ⟨4, true, [.int .i64 0, .int .i64 0, .bool false, .int .u8 0], .struct [(0, 1), (1, 1), (2, 1), (3, 1)]⟩),
  (8, ⟨4, true, [.int .i64 0, .int .i64 0, .bool false, .int .u8 0], .struct [(0, 1), (1, 1), (2, 1), (3, 1)]⟩),
  (9, ⟨1, false, [.string ⟨#[]⟩], .str⟩),
  (10, ⟨1, false, [.string ⟨#[]⟩], .str⟩),
  (11, ⟨1, false, [.string ⟨#[]⟩], .str⟩),
  (12, ⟨1, false, [.int .u64 0], .int .u64⟩),
  (13, ⟨2, true, [.string ⟨#[]⟩, .int .u64 0], .struct [(0, 1), (1, 1)]⟩),
  (14, ⟨2, true, [.string ⟨#[]⟩, .int .u64 0], .struct [(0, 1), (1, 1)]⟩),
  (15, ⟨1, false, [.pointer none], .other⟩),
  (16, ⟨1, false, [.pointer none], .other⟩),
  (17, ⟨1, false, [.pointer none], .other⟩),
  (18, ⟨1, true, [.pointer none], .struct [(0, 1)]⟩),
  (19, ⟨1, true, [.pointer none], .struct [(0, 1)]⟩),
  (20, ⟨1, false, [.nilIface], .other⟩),
  (21, ⟨1, false, [.int .i32 0], .int .i32⟩),
  (22, ⟨5, true, [.int .i64 0, .int .i64 0, .int .i64 0, .int .i64 0, .int .i64 0], .struct [(0, 1), (1, 1), (2, 1), (3, 1), (4, 1)]⟩),
  (23, ⟨5, true, [.int .i64 0, .int .i64 0, .int .i64 0, .int .i64 0, .int .i64 0], .struct [(0, 1), (1, 1), (2, 1), (3, 1), (4, 1)]⟩),
  (24, ⟨1, false, [.slice none 0 0], .slice 58 3⟩),
  (25, ⟨7, true, [.int .i64 0, .int .i64 0, .int .i64 0, .int .i64 0, .int .i64 0, .string ⟨#[]⟩, .slice none 0 0], .struct [(0, 1), (1, 1), (2, 1), (3, 1), (4, 1), (5, 1), (6, 1)]⟩),
  (26, ⟨7, true, [.int .i64 0, .int .i64 0, .int .i64 0, .int .i64 0, .int .i64 0, .string ⟨#[]⟩, .slice none 0 0], .struct [(0, 1), (1, 1), (2, 1), (3, 1), (4, 1), (5, 1), (6, 1)]⟩),
  (27, ⟨1, false, [.slice none 0 0], .slice 54 2⟩),
  (31, ⟨1, false, [.slice none 0 0], .slice 51 4⟩),
  (32, ⟨1, false, [.slice none 0 0], .slice 72 2⟩),
  (33, ⟨1, false, [.int .i64 0], .int .i64⟩),
  (43, ⟨1, false, [.slice none 0 0], .slice 3 1⟩),
  (45, ⟨1, false, [.int .u64 0], .int .u64⟩),
  (49, ⟨1, false, [.slice none 0 0], .slice 74 3⟩),
  (50, ⟨4, true, [.int .i64 0, .int .i64 0, .int .i64 0, .slice none 0 0], .struct [(0, 1), (1, 1), (2, 1), (3, 1)]⟩),
  (51, ⟨4, true, [.int .i64 0, .int .i64 0, .int .i64 0, .slice none 0 0], .struct [(0, 1), (1, 1), (2, 1), (3, 1)]⟩),
  (52, ⟨1, false, [.slice none 0 0], .slice 5 1⟩),
  (53, ⟨2, true, [.int .i64 0, .slice none 0 0], .struct [(0, 1), (1, 1)]⟩),
  (54, ⟨2, true, [.int .i64 0, .slice none 0 0], .struct [(0, 1), (1, 1)]⟩),
  (57, ⟨3, true, [.slice none 0 0, .int .i64 0, .int .i64 0], .struct [(0, 1), (1, 1), (2, 1)]⟩),
  (58, ⟨3, true, [.slice none 0 0, .int .i64 0, .int .i64 0], .struct [(0, 1), (1, 1), (2, 1)]⟩),
  (61, ⟨1, false, [.pointer none], .other⟩),
  (62, ⟨18, true, [.int .i64 0, .int .i64 0, .int .i64 0, .int .i64 0, .int .i64 0, .int .i64 0, .int .i64 0, .int .i64 0, .int .i64 0, .int .i64 0, .string ⟨#[]⟩, .slice none 0 0, .slice none 0 0, .slice none 0 0, .int .i64 0, .int .i64 0, .int .i64 0, .slice none 0 0], .struct [(0, 5), (5, 7), (12, 1), (13, 1), (14, 1), (15, 1), (16, 1), (17, 1)]⟩),
  (63, ⟨18, true, [.int .i64 0, .int .i64 0, .int .i64 0, .int .i64 0, .int .i64 0, .int .i64 0, .int .i64 0, .int .i64 0, .int .i64 0, .int .i64 0, .string ⟨#[]⟩, .slice none 0 0, .slice none 0 0, .slice none 0 0, .int .i64 0, .int .i64 0, .int .i64 0, .slice none 0 0], .struct [(0, 5), (5, 7), (12, 1), (13, 1), (14, 1), (15, 1), (16, 1), (17, 1)]⟩),
  (71, ⟨2, true, [.int .i64 0, .slice none 0 0], .struct [(0, 1), (1, 1)]⟩),
  (72, ⟨2, true, [.int .i64 0, .slice none 0 0], .struct [(0, 1), (1, 1)]⟩),
  (73, ⟨3, true, [.int .i64 0, .int .i64 0, .slice none 0 0], .struct [(0, 1), (1, 1), (2, 1)]⟩),
  (74, ⟨3, true, [.int .i64 0, .int .i64 0, .slice none 0 0], .struct [(0, 1), (1, 1), (2, 1)]⟩),
  (75, ⟨8, true, [.int .i64 0, .int .i64 0, .int .i64 0, .int .i64 0, .int .i64 0, .int .i64 0, .int .i64 0, .slice none 0 0], .struct [(0, 1), (1, 1), (2, 1), (3, 1), (4, 1), (5, 3)]⟩),
  (76, ⟨8, true, [.int .i64 0, .int .i64 0, .int .i64 0, .int .i64 0, .int .i64 0, .int .i64 0, .int .i64 0, .slice none 0 0], .struct [(0, 1), (1, 1), (2, 1), (3, 1), (4, 1), (5, 3)]⟩),
  (83, ⟨1, false, [.slice none 0 0], .slice 109 3⟩),
  (84, ⟨1, true, [.slice none 0 0], .struct [(0, 1)]⟩),
  (85, ⟨1, true, [.slice none 0 0], .struct [(0, 1)]⟩),
  (89, ⟨1, false, [.slice none 0 0], .slice 76 8⟩),
  (108, ⟨3, true, [.int .i64 0, .int .i64 0, .bool false], .struct [(0, 1), (1, 1), (2, 1)]⟩),
  (109, ⟨3, true, [.int .i64 0, .int .i64 0, .bool false], .struct [(0, 1), (1, 1), (2, 1)]⟩),
  (124, ⟨3, true, [.int .i64 0, .int .i64 0, .slice none 0 0], .struct [(0, 1), (1, 1), (2, 1)]⟩),
  (125, ⟨3, true, [.int .i64 0, .int .i64 0, .slice none 0 0], .struct [(0, 1), (1, 1), (2, 1)]⟩),
  (143, ⟨2, true, [.int .u8 0, .int .u8 0], .struct [(0, 1), (1, 1)]⟩),
  (144, ⟨2, true, [.int .u8 0, .int .u8 0], .struct [(0, 1), (1, 1)]⟩),
  (145, ⟨32, true, [.int .u8 0, .int .u8 0, .int .u8 0, .int .u8 0, .int .u8 0, .int .u8 0, .int .u8 0, .int .u8 0, .int .u8 0, .int .u8 0, .int .u8 0, .int .u8 0, .int .u8 0, .int .u8 0, .int .u8 0, .int .u8 0, .int .u8 0, .int .u8 0, .int .u8 0, .int .u8 0, .int .u8 0, .int .u8 0, .int .u8 0, .int .u8 0, .int .u8 0, .int .u8 0, .int .u8 0, .int .u8 0, .int .u8 0, .int .u8 0, .int .u8 0, .int .u8 0], .arr 16 144 2⟩),
  (155, ⟨3, true, [.int .i64 0, .int .i64 0, .slice none 0 0], .struct [(0, 1), (1, 1), (2, 1)]⟩),
  (156, ⟨3, true, [.int .i64 0, .int .i64 0, .slice none 0 0], .struct [(0, 1), (1, 1), (2, 1)]⟩),
  (161, ⟨1, false, [.int .u64 0], .int .u64⟩),
  (175, ⟨1, false, [.int .u32 0], .int .u32⟩),
  (182, ⟨1, false, [.int .u16 0], .int .u16⟩),
  (183, ⟨1, false, [.slice none 0 0], .slice 52 1⟩),
  (195, ⟨4, true, [.pointer none, .pointer none, .pointer none, .string ⟨#[]⟩], .struct [(0, 1), (1, 1), (2, 1), (3, 1)]⟩),
  (196, ⟨4, true, [.pointer none, .pointer none, .pointer none, .string ⟨#[]⟩], .struct [(0, 1), (1, 1), (2, 1), (3, 1)]⟩),
  (201, ⟨1, false, [.int .u8 0], .int .u8⟩),
  (202, ⟨1, false, [.int .u8 0], .int .u8⟩),
  (204, ⟨1, false, [.pointer none], .other⟩),
  (205, ⟨1, false, [.int .i32 0], .int .i32⟩),
  (206, ⟨1, false, [.int .i32 0], .int .i32⟩),
  (209, ⟨1, false, [.pointer none], .other⟩)]
theorem tys_ok : TOk Tryz.prog tys := by
  refine ⟨?_, ?_, ?_, ?_, ?_, ?_, ?_, ?_, ?_, ?_, ?_, ?_, ?_, ?_, ?_, ?_, ?_, ?_, ?_, ?_, ?_, ?_, ?_, ?_, ?_, ?_, ?_, ?_, ?_, ?_, ?_, ?_, ?_, ?_, ?_, ?_, ?_, ?_, ?_, ?_, ?_, ?_, ?_, ?_, ?_, ?_, ?_, ?_, ?_, ?_, ?_, ?_, ?_, ?_, ?_, ?_, ?_, ?_, ?_, ?_, ?_, ?_, ?_, ?_, ?_, ?_, ?_, ?_, ?_, ?_, ?_, ?_, ?_, trivial⟩ <;> (unfold TyOk; kernel_rfl)
theorem mixed : Tryz.prog.follows .mixedOrders = true := by kernel_rfl
end Go.Proofs.YteecmgonbdbhdaaGreatDoor.A
end

/-
Bytes, numbers, images, records as abstract values.
-/
section
namespace Go.Proofs.YteecmgonbdbhdaaGreatDoor.A
open Go.RowKit

def bA (b : List UInt8) : AV := .sl 1 b.length fun i => [.v (.int .u8 (b.getD i 0).toNat)]
def iA (l : List Int) : AV := .sl 1 l.length fun i => [.v (.int .i64 (l.getD i 0))]
def imgC (x : Img) : List AV := [.v (.int .i64 x.zone), .v (.int .i64 x.what), bA x.bytes]
def imgsA (l : List Img) : AV := .sl 3 l.length fun i => imgC (l.getD i ⟨0, 0, []⟩)
def rcC (x : Rc) : List AV := [.v (.int .i64 x.kind), .v (.int .i64 x.seq), .v (.int .i64 x.epoch), .v (.int .i64 x.at_), .v (.int .i64 x.of_), .v (.int .i64 x.img.zone), .v (.int .i64 x.img.what), bA x.img.bytes]
def recsA (l : List Rc) : AV := .sl 8 l.length fun i => rcC (l.getD i ⟨0, 0, 0, 0, 0, ⟨0, 0, []⟩⟩)
def geoC (g : Geo) : List AV := [.v (.int .i64 g.z), .v (.int .i64 g.d), .v (.int .i64 g.sp), .v (.int .i64 g.sl), .v (.int .i64 g.an)]

theorem wi {n : Int} (h : -9223372036854775808 ≤ n ∧ n ≤ 9223372036854775807) : IntKind.i64.wrap n = n := IntWalk.i64_in n h
theorem wsucc {k : Nat} (h : k < 1000000000000) : AV.v (.int .i64 (IntKind.i64.wrap ((k : Int) + 1))) = .v (.int .i64 ((k + 1 : Nat) : Int)) := by
  rw [wi (by omega)]; rfl

theorem toBytes {c : Ctx} {u : Value} {b : List UInt8} (h : Rd (bA b) c u) : SlR c.w c.M u b := by
  simp only [bA, Rd] at h
  obtain ⟨a, k, rfl, h1, h2, h3⟩ := h
  refine ⟨a, k, b.map fun x => .int .u8 x.toNat, rfl, h1, h2, ?_, fun hne => ?_⟩
  · refine Elems.of_get (by simp [Rp.sz]) fun i x hx => ⟨[.int .u8 x.toNat], rfl, rfl, fun j hj => ?_⟩
    have hj : j < 1 := hj
    obtain rfl : j = 0 := by omega
    simp [Rp.sz, hx]
  · rcases h3 with h3 | ⟨bl, off, rfl, hm, hb, hc⟩
    · exact absurd (List.eq_nil_of_length_eq_zero h3) hne
    · refine ⟨bl, off, rfl, hm, fun j u hu => ?_⟩
      rw [List.getElem?_map] at hu
      cases hq : b[j]? with
      | none => rw [hq] at hu; simp at hu
      | some x =>
        rw [hq] at hu
        simp at hu
        subst hu
        have hlt := (List.getElem?_eq_some_iff.1 hq).1
        have := (hc j hlt).2
        simp only [RdAt, Rd] at this
        obtain ⟨⟨u, e1, _, rfl⟩, _⟩ := this
        rw [Nat.mul_one] at e1
        rw [show b.getD j 0 = x by rw [List.getD_eq_getElem?_getD, hq]; rfl] at e1
        exact e1
theorem ofBytes {c : Ctx} {u : Value} {b : List UInt8} (h : SlR c.w c.M u b) : Rd (bA b) c u := by
  obtain ⟨a, k, xs, rfl, h1, h2, h3, h4⟩ := h
  simp only [bA, Rd]
  refine ⟨a, k, rfl, h1, h2, ?_⟩
  by_cases hne : b = []
  · exact .inl (by rw [hne]; rfl)
  · obtain ⟨bl, off, rfl, hm, hc⟩ := h4 hne
    have cell : ∀ i, i < b.length → c.w.cell? ⟨bl, off + i, none⟩ = some (.int .u8 (b.getD i 0).toNat) := by
      intro i hi
      obtain ⟨cs, e1, e2, e3⟩ := h3.get (List.getElem?_eq_getElem hi)
      have e2 : cs = [.int .u8 b[i].toNat] := e2
      subst e2
      have := hc (i * 1 + 0) _ ((e3 0 (by decide)).trans rfl)
      rw [show b.getD i 0 = b[i] by rw [List.getD_eq_getElem?_getD, List.getElem?_eq_getElem hi]; rfl]
      simpa using this
    have h0 := cell 0 (List.length_pos_iff.2 hne)
    refine .inr ⟨bl, off, rfl, hm, World.block_lt_of_cell? _ _ h0, fun i hi => ⟨rfl, ?_⟩⟩
    simp only [RdAt, Rd, Nat.mul_one, and_true]
    exact ⟨_, cell i hi, rfl, rfl⟩
/-- New bytes are no one's that may be written. -/
theorem ofOwn {c0 : Ctx} {w' : World} {t : TypeId} {u : Value} {b : List UInt8} (h : OwR w' noM c0.w.heap.size t u b) (hM : ∀ b, c0.M b → b < c0.w.heap.size) : Rd (bA b) { c0 with w := w' } u := by
  refine ofBytes (c := { c0 with w := w' }) ?_
  have h' : OwR w' c0.M c0.w.heap.size t u b := by
    obtain ⟨xs, h1, h2⟩ := h
    exact ⟨xs, h1, h2.mono fun cs x _ h => h⟩
  exact h'.sl fun b hb hm => by have := hM b hm; omega
end Go.Proofs.YteecmgonbdbhdaaGreatDoor.A
end

/-
The keep package: copies and comparisons.
-/
section
namespace Go.Proofs.YteecmgonbdbhdaaGreatDoor.A
open Go.RowKit

theorem take_succ_eq {α : Type} {d : α} {a b : List α} {k : Nat} (h : a.take k = b.take k) (ha : k < a.length) (hb : k < b.length) (e : a.getD k d = b.getD k d) : a.take (k + 1) = b.take (k + 1) := by
  rw [List.take_succ_eq_append_getElem ha, List.take_succ_eq_append_getElem hb, h]
  rw [List.getD_eq_getElem?_getD, List.getD_eq_getElem?_getD, List.getElem?_eq_getElem ha, List.getElem?_eq_getElem hb] at e
  simp only [Option.getD_some] at e
  rw [e]
theorem ne_of_getD {α : Type} {d : α} {a b : List α} {k : Nat} (e : a.getD k d ≠ b.getD k d) : a ≠ b := fun h => e (by rw [h])
theorem eq_of_take {α : Type} {a b : List α} {k : Nat} (h : a.take k = b.take k) (ha : a.length ≤ k) (hb : b.length ≤ k) : a = b := by
  rwa [List.take_of_length_le ha, List.take_of_length_le hb] at h
theorem u8_ne {a b : UInt8} : ((a.toNat : Int) != b.toNat) = (a != b) := by
  rw [Bool.eq_iff_iff, bne_iff_ne, bne_iff_ne, ne_eq, ne_eq, Int.natCast_inj, UInt8.toNat_inj]

theorem getD_mem {α : Type} {d : α} {l : List α} {k : Nat} (h : k < l.length) : l.getD k d ∈ l := by
  rw [List.getD_eq_getElem?_getD, List.getElem?_eq_getElem h]; exact List.getElem_mem h
theorem getD_range {α : Type} {d : α} {f : Nat → α} {n i : Nat} (h : i < n) : ((List.range n).map f).getD i d = f i := by
  rw [List.getD_eq_getElem?_getD, List.getElem?_map, List.getElem?_range h]; rfl
theorem take_map_succ {α β : Type} {d : α} {f : α → β} {l : List α} {k : Nat} (h : k < l.length) : (l.take (k + 1)).map f = (l.take k).map f ++ [f (l.getD k d)] := by
  rw [List.take_succ_eq_append_getElem h, List.map_append, List.getD_eq_getElem?_getD, List.getElem?_eq_getElem h]; rfl
theorem take_map_getD {α β : Type} {d : α} {e : β} {f : α → β} {l : List α} {k i : Nat} (h : i < l.length) (hk : i < k) : ((l.take k).map f).getD i e = f (l.getD i d) := by
  rw [List.getD_eq_getElem?_getD, List.getD_eq_getElem?_getD, List.getElem?_map, List.getElem?_take_of_lt hk, List.getElem?_eq_getElem h]; rfl
theorem Rd.congr {c : Ctx} {sz n n' : Nat} {get get' : Nat → List AV} {u : Value} (hn : n = n') (hg : ∀ i, i < n → get i = get' i) (h : Rd (.sl sz n get) c u) : Rd (.sl sz n' get') c u := by
  subst hn
  simp only [Rd] at h ⊢
  obtain ⟨a, k, rfl, h1, h2, h3⟩ := h
  refine ⟨a, k, rfl, h1, h2, h3.imp id ?_⟩
  rintro ⟨b, off, rfl, q1, q2, q3⟩
  exact ⟨b, off, rfl, q1, q2, fun i hi => by rw [← hg i hi]; exact q3 i hi⟩
theorem bytes_fn (a b : List UInt8) (ha : a.length ≤ 100000000000) : Fn Tryz.prog 23 [bA a, bA b] fun r => r = .v (.bool (decide (a = b))) := by
  refine Fn.of tys_ok Tryz.func23 rfl rfl (by show 2 ≤ 26; decide) ?_
  conv => whnf
  refine boolK_intro (fun h => ?_) (fun h => ?_) <;> conv => whnf
  · exact ⟨_, fun _ _ h => h, by simp at h; rw [decide_eq_false (fun e => h (by rw [e]))]⟩
  simp at h
  refine aLoop.rule Nat (fun k => ([(0, bA a), (1, bA b), (5, .v (.int .i64 k))], [])) (fun k => k ≤ a.length ∧ a.take k = b.take k) (fun k => a.length - k) 0 ⟨Nat.zero_le _, by simp⟩ ⟨[], trivial, ⟨rfl, rfl, rfl, trivial⟩, trivial, rfl, rfl, rfl⟩ ?_
  rintro k ⟨hk, hI⟩
  conv => whnf
  refine boolK_intro (fun h2 => ?_) (fun h2 => ?_) <;> simp at h2 <;> conv => whnf
  · refine aDraw.seq tys_ok mixed (by kernel_rfl) ?_
    conv => whnf
    refine ⟨⟨by omega, by omega⟩, ?_⟩
    conv => whnf
    refine ⟨⟨by omega, by omega⟩, ?_⟩
    conv => whnf
    refine boolK_intro (fun h3 => ?_) (fun h3 => ?_) <;> conv => whnf
    · exact ⟨_, fun _ _ h => h, by simp only [u8_ne, bne_iff_ne, Int.toNat_natCast] at h3; rw [decide_eq_false (ne_of_getD h3)]⟩
    · simp only [u8_ne, bne_eq_false_iff_eq, Int.toNat_natCast] at h3
      exact ⟨k + 1, ⟨by omega, take_succ_eq hI (by omega) (by omega) h3⟩, by omega, ⟨[], trivial, ⟨rfl, rfl, wsucc (by omega), trivial⟩, trivial, rfl, rfl, rfl⟩⟩
  · exact ⟨_, fun _ _ h => h, by rw [decide_eq_true (eq_of_take hI (by omega) (by omega))]⟩
theorem twin_fn (b : List UInt8) (hb : b.length ≤ 1000000000) : Fn Tryz.prog 20 [bA b] fun r => r = bA b := by
  refine Fn.of tys_ok Tryz.func20 rfl rfl (by show 1 ≤ 7; decide) ?_
  conv => whnf
  refine ⟨hb, ?_⟩
  conv => whnf
  refine ⟨by simp, ?_⟩
  conv => whnf
  exact ⟨bA b, fun c v h => Rd.congr rfl (fun i hi => getD_range hi) h, rfl⟩
theorem image_fn (x y : Img) (hx : x.bytes.length ≤ 100000000000) : Fn Tryz.prog 53 [.ag (imgC x), .ag (imgC y)] fun r => r = .v (.bool (decide (x = y))) := by
  obtain ⟨x1, x2, x3⟩ := x
  obtain ⟨y1, y2, y3⟩ := y
  refine Fn.of tys_ok Tryz.func53 rfl rfl (by show 2 ≤ 24; decide) ?_
  conv => whnf
  repeat' (first | (refine boolK_intro (fun h => ?_) (fun h => ?_) <;> simp at h <;> conv => whnf) | (refine Fn.closed (bytes_fn x3 y3 hx) rfl ?_; rintro _ rfl; conv => whnf))
  all_goals exact ⟨_, fun _ _ h => h, by simp [*]⟩
theorem images_fn (l m : List Img) (hl : l.length ≤ 1000000000) (hb : ∀ x ∈ l, x.bytes.length ≤ 100000000000) : Fn Tryz.prog 32 [imgsA l, imgsA m] fun r => r = .v (.bool (decide (l = m))) := by
  refine Fn.of tys_ok Tryz.func32 rfl rfl (by show 2 ≤ 27; decide) ?_
  conv => whnf
  refine boolK_intro (fun h => ?_) (fun h => ?_) <;> conv => whnf
  · exact ⟨_, fun _ _ h => h, by simp at h; rw [decide_eq_false (fun e => h (by rw [e]))]⟩
  simp at h
  refine aLoop.rule Nat (fun k => ([(0, imgsA l), (1, imgsA m), (5, .v (.int .i64 k))], [])) (fun k => k ≤ l.length ∧ l.take k = m.take k) (fun k => l.length - k) 0 ⟨Nat.zero_le _, by simp⟩ ⟨[], trivial, ⟨rfl, rfl, rfl, trivial⟩, trivial, rfl, rfl, rfl⟩ ?_
  rintro k ⟨hk, hI⟩
  conv => whnf
  refine boolK_intro (fun h2 => ?_) (fun h2 => ?_) <;> simp at h2 <;> conv => whnf
  · refine aDraw.seq tys_ok mixed (by kernel_rfl) ?_
    conv => whnf
    refine ⟨⟨by omega, by omega⟩, ?_⟩
    conv => whnf
    refine ⟨⟨by omega, by omega⟩, ?_⟩
    conv => whnf
    refine Fn.closed (image_fn (l.getD k ⟨0, 0, []⟩) (m.getD k ⟨0, 0, []⟩) (hb _ (getD_mem h2))) rfl ?_
    rintro _ rfl
    conv => whnf
    refine boolK_intro (fun h3 => ?_) (fun h3 => ?_) <;> conv => whnf
    · exact ⟨_, fun _ _ h => h, by rw [decide_eq_false (ne_of_getD (by simpa using h3))]⟩
    · exact ⟨k + 1, ⟨by omega, take_succ_eq hI (by omega) (by omega) (by simpa using h3)⟩, by omega, ⟨[], trivial, ⟨rfl, rfl, wsucc (by omega), trivial⟩, trivial, rfl, rfl, rfl⟩⟩
  · exact ⟨_, fun _ _ h => h, by rw [decide_eq_true (eq_of_take hI (by omega) (by omega))]⟩
end Go.Proofs.YteecmgonbdbhdaaGreatDoor.A
end

/-
Readings, sectors, writes, transactions, homes, anchors as abstract values.
-/
section
namespace Go.Proofs.YteecmgonbdbhdaaGreatDoor.A
open Go.RowKit

structure Gt where
  err : Int
  bytes : List UInt8
  deriving DecidableEq
structure Sec where
  addr : Int
  stamp : Int
  pay : List UInt8
  deriving DecidableEq
structure Wr where
  addr : Int
  bytes : List UInt8
  deriving DecidableEq
structure Tx where
  seq : Int
  pos : Int
  n : Int
  images : List Img
  deriving DecidableEq
structure Hm where
  places : List Int
  next : Int
  root : Int
  deriving DecidableEq
structure An where
  gen : Int
  epoch : Int
  pos : Int
  seq : Int
  last : Int
  label : ByteArray
  homes : List Hm
  deriving DecidableEq
instance : Inhabited Gt := ⟨⟨0, []⟩⟩
instance : Inhabited Wr := ⟨⟨0, []⟩⟩
instance : Inhabited Tx := ⟨⟨0, 0, 0, []⟩⟩
instance : Inhabited Hm := ⟨⟨[], 0, 0⟩⟩
def gotC (x : Gt) : List AV := [.v (.int .i64 x.err), bA x.bytes]
def gotsA (l : List Gt) : AV := .sl 2 l.length fun i => gotC (l.getD i ⟨0, []⟩)
def secC (x : Sec) : List AV := [.v (.int .i64 x.addr), .v (.int .i64 x.stamp), bA x.pay]
def wrC (x : Wr) : List AV := [.v (.int .i64 x.addr), bA x.bytes]
def wrsA (l : List Wr) : AV := .sl 2 l.length fun i => wrC (l.getD i ⟨0, []⟩)
def txC (x : Tx) : List AV := [.v (.int .i64 x.seq), .v (.int .i64 x.pos), .v (.int .i64 x.n), imgsA x.images]
def txsA (l : List Tx) : AV := .sl 4 l.length fun i => txC (l.getD i ⟨0, 0, 0, []⟩)
def hmC (x : Hm) : List AV := [iA x.places, .v (.int .i64 x.next), .v (.int .i64 x.root)]
def hmsA (l : List Hm) : AV := .sl 3 l.length fun i => hmC (l.getD i ⟨[], 0, 0⟩)
def anC (x : An) : List AV := [.v (.int .i64 x.gen), .v (.int .i64 x.epoch), .v (.int .i64 x.pos), .v (.int .i64 x.seq), .v (.int .i64 x.last), .v (.string x.label), hmsA x.homes]
end Go.Proofs.YteecmgonbdbhdaaGreatDoor.A
end

/-
The keep package: numbers, readings, writes, transactions.
-/
section
namespace Go.Proofs.YteecmgonbdbhdaaGreatDoor.A
open Go.RowKit

end Go.Proofs.YteecmgonbdbhdaaGreatDoor.A
end

/-
Package label: whether a text is a label.
-/
section
namespace Go.Proofs.YteecmgonbdbhdaaGreatDoor.A
open Go.RowKit

theorem right_fn (s : ByteArray) (hv : Fn Tryz.prog 74 [.v (.string s)] fun r => r = .v (.bool (Lib.validD s.data.toList))) : Fn Tryz.prog 60 [.v (.string s)] fun r => r = .v (.bool (okW s.data.toList && Lib.validD s.data.toList)) := by
  refine Fn.of tys_ok Tryz.func60 rfl rfl (Nat.le_of_ble_eq_true rfl) ?_
  conv => whnf
  refine aLoop.rule Nat (fun p => ([(0, .v (.string s)), (6, .bp 0 0)], [.iter s p])) (fun p => okW s.data.toList = okW (s.data.toList.drop p)) (fun p => s.size - p) 0 rfl ⟨[], trivial, ⟨rfl, rfl, trivial⟩, ⟨rfl, trivial⟩, rfl, rfl, rfl⟩ ?_
  intro p hI
  conv => whnf
  have hd := decode_drop s p
  refine boolK_intro (fun hp => ?_) (fun hp => ?_) <;> simp only [decide_eq_true_eq, decide_eq_false_iff_not] at hp <;> conv => whnf
  · have hne : ¬ s.data.toList.drop p = [] := by
      intro e
      have := congrArg List.length e
      rw [List.length_drop, str_len] at this
      simp at this
      omega
    have hstep := okW_step _ hne
    rw [← hd] at hstep
    have hw : 1 ≤ (Utf8.decode s p).2 := by rw [hd]; exact Lib.decodeL_width _
    refine boolK_intro (fun h1 => ?_) (fun h1 => ?_) <;> simp at h1 <;> conv => whnf
    · have h1' : (Utf8.decode s p).1 < 32 := by omega
      exact ⟨_, fun _ _ h => h, by rw [hI, hstep]; simp [badR, h1']⟩
    refine boolK_intro (fun h2 => ?_) (fun h2 => ?_) <;> simp at h2 <;> conv => whnf
    · exact ⟨_, fun _ _ h => h, by rw [hI, hstep]; simp [badR]; omega⟩
    · refine ⟨p + (Utf8.decode s p).2, ?_, by omega, [], trivial, ⟨rfl, rfl, trivial⟩, ⟨rfl, trivial⟩, rfl, rfl, rfl⟩
      rw [hI, hstep, List.drop_drop]
      simp [badR]
      omega
  · have hnil : s.data.toList.drop p = [] := List.drop_eq_nil_of_le (by rw [str_len]; omega)
    refine Fn.closed (hv) rfl ?_
    rintro _ rfl
    conv => whnf
    exact ⟨_, fun _ _ h => h, by rw [hI, hnil, okW_nil]; rfl⟩
theorem runes_fn (s : ByteArray) (hs : s.size ≤ 1000000) : Fn Tryz.prog 61 [.v (.string s)] fun r => r = .v (.int .i64 (runesW s.data.toList)) := by
  refine Fn.of tys_ok Tryz.func61 rfl rfl (Nat.le_of_ble_eq_true rfl) ?_
  conv => whnf
  refine aLoop.rule (Nat × Nat) (fun q => ([(3, .v (.int .i64 q.2)), (5, .bp 0 0)], [.iter s q.1])) (fun q => runesW s.data.toList = q.2 + runesW (s.data.toList.drop q.1) ∧ q.2 ≤ q.1 ∧ q.2 ≤ s.size) (fun q => s.size - q.1) (0, 0) ⟨by simp, Nat.le_refl _, Nat.zero_le _⟩ ⟨[], trivial, ⟨rfl, rfl, trivial⟩, ⟨rfl, trivial⟩, rfl, rfl, rfl⟩ ?_
  rintro ⟨p, n⟩ ⟨hI, hn, hn2⟩
  conv => whnf
  have hd := decode_drop s p
  refine boolK_intro (fun hp => ?_) (fun hp => ?_) <;> simp only [decide_eq_true_eq, decide_eq_false_iff_not] at hp <;> conv => whnf
  · have hne : ¬ s.data.toList.drop p = [] := by
      intro e
      have := congrArg List.length e
      rw [List.length_drop, str_len] at this
      simp at this
      omega
    have hstep := runesW_step _ hne
    rw [← hd] at hstep
    have hw : 1 ≤ (Utf8.decode s p).2 := by rw [hd]; exact Lib.decodeL_width _
    refine ⟨(p + (Utf8.decode s p).2, n + 1), ⟨?_, ?_, ?_⟩, ?_, [], trivial, ⟨wsucc ?_, rfl, trivial⟩, ⟨rfl, trivial⟩, rfl, rfl, rfl⟩
    · simp only at hI ⊢
      rw [hI, hstep, List.drop_drop]; omega
    · simp only at hn ⊢; omega
    · simp only at hn ⊢; omega
    · simp only; omega
    · simp only at hn2; omega
  · have hnil : s.data.toList.drop p = [] := List.drop_eq_nil_of_le (by rw [str_len]; omega)
    exact ⟨_, fun _ _ h => h, by simp only at hI; rw [hI, hnil, runesW_nil]; rfl⟩
theorem lcheck_fn (s : ByteArray) (hs : s.size ≤ 1000000) (hv : Fn Tryz.prog 74 [.v (.string s)] fun r => r = .v (.bool (Lib.validD s.data.toList))) : Fn Tryz.prog 42 [.v (.string s)] fun r => r = .v (.int .i64 (labE s.data.toList)) := by
  refine Fn.of tys_ok Tryz.func42 rfl rfl (Nat.le_of_ble_eq_true rfl) ?_
  conv => whnf
  refine Fn.closed (right_fn s hv) rfl ?_
  rintro _ rfl
  conv => whnf
  refine boolK_intro (fun h => ?_) (fun h => ?_) <;> conv => whnf
  · exact ⟨_, fun _ _ h => h, by simp only [labE, h, if_true]⟩
  refine Fn.closed (runes_fn s hs) rfl ?_
  rintro _ rfl
  conv => whnf
  refine boolK_intro (fun h2 => ?_) (fun h2 => ?_) <;> simp at h2 <;> conv => whnf
  · exact ⟨_, fun _ _ h => h, by simp only [labE, h]; rw [if_neg (by simp), if_pos (by omega)]⟩
  · exact ⟨_, fun _ _ h => h, by simp only [labE, h]; rw [if_neg (by simp), if_neg (by omega)]⟩
end Go.Proofs.YteecmgonbdbhdaaGreatDoor.A
end

/-
utf8.ValidString, by the library's law.
-/
section
namespace Go.Proofs
open Go.RowKit Go.Shelf Go.Lib

def Tryz.laysValid_ren : Go.Shelf.Ren := ⟨fun | 196 => 74 | 259 => 85 | n => n, fun | 9 => 9 | 4 => 4 | 3 => 3 | 5 => 5 | 12 => 12 | 119 => 142 | 0 => 0 | 46 => 45 | 139 => 145 | 138 => 144 | 53 => 161 | n => n, fun | 3 => 0 | 4 => 1 | n => n⟩
theorem Tryz.laysValid : Go.Proofs.Lays.n196 Tryz.prog Tryz.laysValid_ren where
  mixed := by kernel_rfl
  f196 := Tryz.func74.trans (congrArg some (by kernel_rfl))
  f259 := Tryz.func85.trans (congrArg some (by kernel_rfl))
  t0 := Tryz.underlying0
  a0 := Tryz.isAgg0
  z0 := Tryz.sizeOf0
  v0 := Tryz.zeroValue0
  t3 := Tryz.underlying3
  a3 := Tryz.isAgg3
  z3 := Tryz.sizeOf3
  v3 := Tryz.zeroValue3
  t4 := Tryz.underlying4
  a4 := Tryz.isAgg4
  z4 := Tryz.sizeOf4
  v4 := Tryz.zeroValue4
  t5 := Tryz.underlying5
  a5 := Tryz.isAgg5
  z5 := Tryz.sizeOf5
  v5 := Tryz.zeroValue5
  t9 := Tryz.underlying9
  a9 := Tryz.isAgg9
  z9 := Tryz.sizeOf9
  v9 := Tryz.zeroValue9
  t12 := Tryz.underlying12
  a12 := Tryz.isAgg12
  z12 := Tryz.sizeOf12
  v12 := Tryz.zeroValue12
  t46 := Tryz.underlying45
  a46 := Tryz.isAgg45
  z46 := Tryz.sizeOf45
  v46 := Tryz.zeroValue45
  t53 := Tryz.underlying161
  a53 := Tryz.isAgg161
  z53 := Tryz.sizeOf161
  v53 := Tryz.zeroValue161
  t119 := Tryz.underlying142
  a119 := Tryz.isAgg142
  z119 := Tryz.sizeOf142
  t138 := Tryz.underlying144
  a138 := Tryz.isAgg144
  z138 := Tryz.sizeOf144
  v138 := Tryz.zeroValue144
  t139 := Tryz.underlying145
  a139 := Tryz.isAgg145
  z139 := Tryz.sizeOf145
  v139 := Tryz.zeroValue145
  g3 := by kernel_rfl
  g4 := by kernel_rfl
end Go.Proofs
namespace Go.Proofs.YteecmgonbdbhdaaGreatDoor.A
open Go.RowKit

theorem valid_fn (s : ByteArray) (hs : s.size ≤ 1000000) : Fn Tryz.prog 74 [.v (.string s)] fun r => r = .v (.bool (Lib.validD s.data.toList)) := by
  refine ⟨⟨_, Tryz.func74, rfl, by decide⟩, fun c0 us hd hM hg hr => ?_⟩
  simp only [RdL, Rd] at hr
  obtain ⟨u, l, rfl, rfl, rfl⟩ := hr
  have hT : Lib.Utf8Tabs (Tryz.laysValid_ren.g 3) (Tryz.laysValid_ren.g 4) c0.w := hg
  refine Calls.mono (show Calls Tryz.prog 74 #[.string s] c0.w _ from Any.utf8_ValidString Tryz.laysValid s c0.w (by omega) hT) ?_
  rintro e w' ⟨rfl, hb⟩
  exact ⟨_, _, rfl, rfl, hb, by simp [Rd]⟩
theorem lcheckA_fn (s : ByteArray) (hs : s.size ≤ 1000000) : Fn Tryz.prog 42 [.v (.string s)] fun r => r = .v (.int .i64 (labE s.data.toList)) := lcheck_fn s hs (valid_fn s hs)
end Go.Proofs.YteecmgonbdbhdaaGreatDoor.A
end

/-
From rows that callers hand over to abstract values.
-/
section
namespace Go.Proofs.YteecmgonbdbhdaaGreatDoor.A
open Go.RowKit

theorem rdAt_of {c : Ctx} {b : Nat} : ∀ {cs : List AV} {xs : List Value} {off : Nat}, RdL cs c xs → (∀ j u, xs[j]? = some u → c.w.cell? ⟨b, off + j, none⟩ = some u ∧ u.oneCell' = true) → RdAt cs c b off
  | [], _, _, _, _ => by simp [RdAt]
  | x :: l, xs, off, h, hc => by
    simp only [RdL] at h
    obtain ⟨y, ys, rfl, h1, h2⟩ := h
    simp only [RdAt]
    refine ⟨⟨y, (hc 0 y rfl).1, (hc 0 y rfl).2, h1⟩, rdAt_of h2 fun j u hu => ?_⟩
    have := hc (j + 1) u hu
    rwa [show off + (j + 1) = off + 1 + j by omega] at this
theorem rdL_len {c : Ctx} : ∀ {cs : List AV} {xs : List Value}, RdL cs c xs → cs.length = xs.length
  | [], _, h => by simp only [RdL] at h; subst h; rfl
  | x :: l, xs, h => by
    simp only [RdL] at h
    obtain ⟨y, ys, rfl, _, h2⟩ := h
    simp [rdL_len h2]
theorem ofSl {α : Type} [Rp α] (f : α → List AV) (d : α) (sz : Nat) (hsz : Rp.sz α = sz) (hE : ∀ (c : Ctx) cs x, Rp.E c.w c.M cs x → RdL (f x) c cs) {c : Ctx} {u : Value} {l : List α} (h : SlR c.w c.M u l) : Rd (.sl sz l.length fun i => f (l.getD i d)) c u := by
  subst hsz
  obtain ⟨a, k, xs, rfl, h1, h2, h3, h4⟩ := h
  simp only [Rd]
  refine ⟨a, k, rfl, h1, h2, ?_⟩
  by_cases hne : l = []
  · exact .inl (by rw [hne]; rfl)
  · obtain ⟨bl, off, rfl, hm, hc⟩ := h4 hne
    have one : ∀ i, i < l.length → ∃ cs, cs.length = Rp.sz α ∧ Rp.E c.w c.M cs (l.getD i d) ∧ ∀ j u, cs[j]? = some u → c.w.cell? ⟨bl, off + i * Rp.sz α + j, none⟩ = some u ∧ u.oneCell' = true := by
      intro i hi
      obtain ⟨cs, e1, e2, e3⟩ := h3.get (List.getElem?_eq_getElem hi)
      rw [show l.getD i d = l[i] by rw [List.getD_eq_getElem?_getD, List.getElem?_eq_getElem hi]; rfl]
      refine ⟨cs, e1, e2, fun j u hu => ?_⟩
      have hj : j < Rp.sz α := by rw [← e1]; exact (List.getElem?_eq_some_iff.1 hu).1
      refine ⟨?_, Rp.one e2 u (List.mem_of_getElem? hu)⟩
      have := hc (i * Rp.sz α + j) u ((e3 j hj).trans hu)
      rwa [← Nat.add_assoc] at this
    have hlt : bl < c.w.heap.size := by
      obtain ⟨cs, q1, _, q3⟩ := one 0 (List.length_pos_iff.2 hne)
      have h0 : 0 < cs.length := by rw [q1]; exact Rp.pos
      exact World.block_lt_of_cell? _ _ (q3 0 _ (List.getElem?_eq_getElem h0)).1
    refine .inr ⟨bl, off, rfl, hm, hlt, fun i hi => ?_⟩
    obtain ⟨cs, q1, q2, q3⟩ := one i hi
    have := hE c.closed cs _ q2
    exact ⟨(rdL_len this).trans q1, rdAt_of this q3⟩
theorem ofImgs {c : Ctx} {u : Value} {l : List Img} (h : SlR c.w c.M u l) : Rd (imgsA l) c u :=
  ofSl imgC ⟨0, 0, []⟩ 3 rfl (fun c cs x ⟨r, e, hr⟩ => by
    subst e
    simp only [imgC, RdL, Rd]
    exact ⟨_, _, rfl, rfl, _, _, rfl, rfl, _, _, rfl, ofBytes hr, rfl⟩) h
theorem ofRecs {c : Ctx} {u : Value} {l : List Rc} (h : SlR c.w c.M u l) : Rd (recsA l) c u :=
  ofSl rcC ⟨0, 0, 0, 0, 0, ⟨0, 0, []⟩⟩ 8 rfl (fun c cs x ⟨r, e, hr⟩ => by
    subst e
    simp only [rcC, RdL, Rd]
    exact ⟨_, _, rfl, rfl, _, _, rfl, rfl, _, _, rfl, rfl, _, _, rfl, rfl, _, _, rfl, rfl, _, _, rfl, rfl, _, _, rfl, rfl, _, _, rfl, ofBytes hr, rfl⟩) h
theorem ofInts {c : Ctx} {u : Value} {l : List Int} (h : SlR c.w c.M u l) : Rd (iA l) c u :=
  ofSl (fun n => [.v (.int .i64 n)]) 0 1 rfl (fun c cs x e => by
    have e : cs = [.int .i64 x] := e
    subst e
    simp only [RdL, Rd]
    exact ⟨_, _, rfl, rfl, rfl⟩) h
theorem of_geo {c : Ctx} (g : Geo) : Rd (.ag (geoC g)) c (gv g) := by
  simp only [geoC, Rd, RdL]
  exact ⟨_, rfl, _, _, rfl, rfl, _, _, rfl, rfl, _, _, rfl, rfl, _, _, rfl, rfl, _, _, rfl, rfl, rfl⟩
/-- Where a call begins: nothing is one's own. -/
def ctx0 (w : World) : Ctx := { w := w, M := noM, base := w.heap.size, dom := 0, len := fun _ => 0, rho := fun _ => undef }
theorem Fn.any {P : Program} {f : FuncId} {args : List AV} {a : AV} (h : Fn P f args fun r => r = a) (w : World) (hg : globOk w) (us : List Value) (hr : RdL args (ctx0 w) us) :
    Calls P f us.toArray w fun e w' => ∃ v, e = .returned v ∧ Below w.heap.size w w' ∧ Rd a { ctx0 w with w := w' } v := by
  refine (h.calls (ctx0 w) us rfl (fun _ h => h.elim) hg hr).mono ?_
  rintro e w' ⟨v, r, rfl, rfl, h1, h2⟩
  exact ⟨v, rfl, h1, h2⟩
theorem Fn.anyV {P : Program} {f : FuncId} {args : List AV} {a : Value} (h : Fn P f args fun r => r = .v a) (w : World) (hg : globOk w) (us : List Value) (hr : RdL args (ctx0 w) us) :
    Calls P f us.toArray w fun e w' => e = .returned a ∧ Below w.heap.size w w' := by
  refine (h.any w hg us hr).mono ?_
  rintro e w' ⟨v, rfl, h1, h2⟩
  simp only [Rd] at h2
  exact ⟨by rw [h2], h1⟩
end Go.Proofs.YteecmgonbdbhdaaGreatDoor.A
end

/-
Arguments opened: what a handed value reads as, in the abstract, by its type's shape.
-/
section
namespace Go.Proofs.YteecmgonbdbhdaaGreatDoor.A
open Go.RowKit Go.ChangeShapes Go.WideShapes Go.ChangeAt Go.Deep
open Go.ChangeMaps (open_string)

section
variable {H : Type} {enc : TypeId × Value → H} {w : World}
/-- Whatever a type's cells read as is of the form G. -/
def OpenE (enc : TypeId × Value → H) (w : World) (t : TypeId) (sz : Nat) (G : List AV → Prop) : Prop :=
  Tryz.prog.cellsOf t = sz ∧ ∀ n cs x, DataW.trod enc Tryz.prog w 0 (fun _ => true) true n t cs = some x → ∃ L, G L ∧ RdL L (ctx0 w) cs ∧ (∀ u ∈ cs, u.oneCell' = true) ∧ L.length = sz
theorem OpenE.mono {t sz : Nat} {G G' : List AV → Prop} (h : OpenE enc w t sz G) (hg : ∀ L, G L → G' L) : OpenE enc w t sz G' :=
  ⟨h.1, fun n cs x hx => let ⟨L, h1, h2⟩ := h.2 n cs x hx; ⟨L, hg L h1, h2⟩⟩
def gInt (L : List AV) : Prop := ∃ k : Int, L = [.v (.int .i64 k)] ∧ -9223372036854775808 ≤ k ∧ k ≤ 9223372036854775807
def gU8 (L : List AV) : Prop := ∃ k : UInt8, L = [.v (.int .u8 k.toNat)]
def gBool (L : List AV) : Prop := ∃ k : Bool, L = [.v (.bool k)]
def gStr (L : List AV) : Prop := ∃ k : ByteArray, L = [.v (.string k)]
theorem oe_int {t : Nat} (ht : Tryz.prog.underlying t = some (.int .i64)) (hc : Tryz.prog.cellsOf t = 1) : OpenE enc w t 1 gInt := ⟨hc, fun n cs x h => by
  obtain ⟨k, rfl, -, hw⟩ := DataW.trod_int ht h
  exact ⟨_, ⟨k, rfl, int_min hw, int_max hw⟩, by simp only [RdL, Rd]; exact ⟨_, _, rfl, rfl, rfl⟩, by simp [Value.oneCell'], rfl⟩⟩
theorem oe_u8 {t : Nat} (ht : Tryz.prog.underlying t = some (.int .u8)) (hc : Tryz.prog.cellsOf t = 1) : OpenE enc w t 1 gU8 := ⟨hc, fun n cs x h => by
  obtain ⟨k, rfl, -, hw⟩ := DataW.trod_int ht h
  obtain ⟨y, rfl⟩ := u8_wf hw
  exact ⟨_, ⟨y, rfl⟩, by simp only [RdL, Rd]; exact ⟨_, _, rfl, rfl, rfl⟩, by simp [Value.oneCell'], rfl⟩⟩
theorem oe_bool {t : Nat} (ht : Tryz.prog.underlying t = some .bool) (hc : Tryz.prog.cellsOf t = 1) : OpenE enc w t 1 gBool := ⟨hc, fun n cs x h => by
  obtain ⟨k, rfl, -⟩ := DataW.trod_bool ht h
  exact ⟨_, ⟨k, rfl⟩, by simp only [RdL, Rd]; exact ⟨_, _, rfl, rfl, rfl⟩, by simp [Value.oneCell'], rfl⟩⟩
theorem oe_str {t : Nat} (ht : Tryz.prog.underlying t = some .string) (hc : Tryz.prog.cellsOf t = 1) : OpenE enc w t 1 gStr := ⟨hc, fun n cs x h => by
  obtain ⟨k, rfl, -⟩ := DataW.trod_string ht h
  exact ⟨_, ⟨k, rfl⟩, by simp only [RdL, Rd]; exact ⟨_, _, rfl, rfl, rfl⟩, by simp [Value.oneCell'], rfl⟩⟩
/-- A slice whose elements are of a form. -/
def gSl {α : Type} (sz : Nat) (f : α → List AV) (d : α) (L : List AV) : Prop := ∃ l : List α, L = [.sl sz l.length fun i => f (l.getD i d)]
theorem oe_sl {α : Type} {t e sz : Nat} {f : α → List AV} {d : α} (ht : Tryz.prog.underlying t = some (.slice e)) (hc : Tryz.prog.cellsOf t = 1) (hsz : 0 < sz) (he : OpenE enc w e sz fun L => ∃ a, L = f a) : OpenE enc w t 1 (gSl sz f d) := ⟨hc, fun n cs x h => by
  have hnil : ∀ (u : Value), Rd (.v (.slice none 0 0)) (ctx0 w) u → Rd (.sl sz ([] : List α).length fun i => f (([] : List α).getD i d)) (ctx0 w) u := fun u h => by
    simp only [Rd] at h ⊢
    exact ⟨none, 0, h, by simp, by simp [maxLen], .inl rfl⟩
  rcases open_slice ht h with ⟨rfl, -⟩ | ⟨a, len, cap, m, n', D, Pl, rfl, -, hlc, hcm, hm, -, hel'⟩
  · exact ⟨_, ⟨[], rfl⟩, by simp only [RdL]; exact ⟨_, _, rfl, hnil _ (by simp [Rd]), rfl⟩, by simp [Value.oneCell'], rfl⟩
  · simp only [if_true] at hm
    subst hm
    obtain ⟨b, off, spot⟩ := a
    by_cases h0 : len = 0
    · subst h0
      refine ⟨_, ⟨[], rfl⟩, ?_, by simp [Value.oneCell'], rfl⟩
      simp only [RdL, Rd]
      exact ⟨_, _, rfl, ⟨_, m, rfl, by simp, hcm, .inl rfl⟩, rfl⟩
    · have hsp : spot = none := by
        obtain ⟨cs', hc', htr⟩ := hel' 0 (by omega)
        obtain ⟨L, ⟨a, rfl⟩, hR, h1, hl⟩ := he.2 n' cs' _ htr
        obtain ⟨-, hl2, hcell⟩ := World.cells?_some hc'
        have hlen := hR.length
        have := hcell 0 (by rw [he.1]; omega)
        rw [List.getElem?_eq_getElem (by omega)] at this
        simp only [Addr.add, Nat.zero_mul, if_true] at this
        exact spot_none this
      subst hsp
      have key : ∀ i, i < len → ∃ cs, ∃ a : α, RdL (f a) (ctx0 w) cs ∧ (∀ u ∈ cs, u.oneCell' = true) ∧ (f a).length = sz ∧ ∀ j u, cs[j]? = some u → w.cell? ⟨b, off + (i * sz + j), none⟩ = some u := fun i hi => by
        obtain ⟨cs', hc', htr⟩ := hel' i (by omega)
        obtain ⟨L, ⟨a, rfl⟩, hR, h1, hl⟩ := he.2 n' cs' _ htr
        refine ⟨cs', a, hR, h1, hl, fun j u hu => ?_⟩
        obtain ⟨-, hl2, hcell⟩ := World.cells?_some hc'
        have hj : j < Tryz.prog.cellsOf e := by rw [← hl2]; exact (List.getElem?_eq_some_iff.1 hu).1
        have h3 := (hcell j hj).trans hu
        rw [he.1, Addr.add_lit, Addr.add_lit, Nat.add_assoc] at h3
        exact h3
      have hex : ∀ k, k ≤ len → ∃ l : List α, l.length = k ∧ ∀ i, i < k → (f (l.getD i d)).length = sz ∧ RdAt (f (l.getD i d)) (ctx0 w) b (off + i * sz) := by
        intro k
        induction k with
        | zero => exact fun _ => ⟨[], rfl, fun i hi => absurd hi (Nat.not_lt_zero i)⟩
        | succ k ih =>
          intro hk
          obtain ⟨l, hl, hr⟩ := ih (by omega)
          obtain ⟨cs', a, hR, h1, hla, h2⟩ := key k (by omega)
          refine ⟨l ++ [a], by simp [hl], fun i hi => ?_⟩
          by_cases hik : i < k
          · have e : (l ++ [a]).getD i d = l.getD i d := by rw [List.getD_eq_getElem?_getD, List.getD_eq_getElem?_getD, List.getElem?_append_left (by omega)]
            rw [e]
            exact hr i hik
          · have e2 : i = k := by omega
            subst e2
            have e : (l ++ [a]).getD i d = a := by rw [List.getD_eq_getElem?_getD, List.getElem?_append_right (by omega), hl]; simp
            rw [e]
            refine ⟨hla, RdAt.of hR h1 fun j u hu => ?_⟩
            have := h2 j u hu
            rw [Nat.add_assoc]
            exact this
      obtain ⟨l, hl, hr⟩ := hex len (Nat.le_refl _)
      refine ⟨_, ⟨l, rfl⟩, ?_, by simp [Value.oneCell'], rfl⟩
      simp only [RdL, Rd]
      refine ⟨_, _, rfl, ⟨_, m, by rw [hl], by omega, hcm, .inr ⟨b, off, rfl, fun h => h, ?_, fun i hi => hr i (by omega)⟩⟩, rfl⟩
      obtain ⟨cs', a, hR, h1, hla, h2⟩ := key 0 (by omega)
      have hlen := hR.length
      have h3 := h2 0 cs'[0] (List.getElem?_eq_getElem (by omega))
      exact World.block_lt_of_cell? _ _ h3⟩
/-- Forms one behind the other. -/
def catG : List (List AV → Prop) → List AV → Prop
  | [], L => L = []
  | G :: r, L => ∃ A B, L = A ++ B ∧ G A ∧ catG r B
/-- A structure's fields, one behind the other. -/
structure FieldE (enc : TypeId × Value → H) (w : World) where
  t : TypeId
  sz : Nat
  G : List AV → Prop
  ok : OpenE enc w t sz G
theorem oe_fields {n : Nat} {cs : List Value} : ∀ (fs : List (FieldE enc w)) (off : Nat), off + (fs.map (·.sz)).sum = cs.length →
    (∀ i f, fs[i]? = some f → ∃ x, DataW.trod enc Tryz.prog w 0 (fun _ => true) true n f.t ((cs.drop (off + ((fs.take i).map (·.sz)).sum)).take f.sz) = some x) →
    ∃ L, catG (fs.map (·.G)) L ∧ RdL L (ctx0 w) (cs.drop off) ∧ (∀ u ∈ cs.drop off, u.oneCell' = true) ∧ L.length = (fs.map (·.sz)).sum
  | [], off, hl, _ => ⟨[], rfl, by simp only [RdL]; exact List.drop_eq_nil_of_le (by simp at hl; omega), by rw [List.drop_eq_nil_of_le (by simp at hl; omega)]; simp, rfl⟩
  | f :: r, off, hl, h => by
    simp only [List.map_cons, List.sum_cons] at hl ⊢
    obtain ⟨x, hx⟩ := h 0 f rfl
    simp only [List.take_zero, List.map_nil, List.sum_nil, Nat.add_zero] at hx
    obtain ⟨A, hA, hRA, h1A, hlA⟩ := f.ok.2 _ _ _ hx
    obtain ⟨B, hB, hRB, h1B, hlB⟩ := oe_fields (cs := cs) r (off + f.sz) (by omega) (fun i g hg => by
      obtain ⟨y, hy⟩ := h (i + 1) g (by simpa using hg)
      refine ⟨y, ?_⟩
      simp only [List.take_succ_cons, List.map_cons, List.sum_cons] at hy
      rw [Nat.add_assoc]
      exact hy)
    have e : cs.drop off = (cs.drop off).take f.sz ++ cs.drop (off + f.sz) := by rw [← List.drop_drop, List.take_append_drop]
    refine ⟨A ++ B, ⟨A, B, rfl, hA, hB⟩, ?_, ?_, by simp [hlA, hlB]⟩
    · rw [e]; exact hRA.append hRB
    · intro u hu
      rw [e, List.mem_append] at hu
      exact hu.elim (h1A u) (h1B u)
theorem oe_struct {t : Nat} (fs : List (FieldE enc w)) {F : Array Field} (ht : Tryz.prog.underlying t = some (.struct F)) (hc : Tryz.prog.cellsOf t = (fs.map (·.sz)).sum)
    (hF : F.toList.map (fun f => (f.type, f.offset)) = fs.zipIdx.map fun p => (p.1.t, ((fs.take p.2).map (·.sz)).sum)) : OpenE enc w t (fs.map (·.sz)).sum (catG (fs.map (·.G))) := ⟨hc, fun n cs x h => by
  obtain ⟨xs, n', _, rfl, hl, hlen, hf⟩ := DataW.trod_struct ht h
  have hsz : F.size = fs.length := by have := congrArg List.length hF; simpa using this
  obtain ⟨L, h1, h2, h3, h4⟩ := oe_fields (n := n') (cs := cs) fs 0 (by rw [hl, hc]; omega) (fun i f hi => by
    have hi' : i < fs.length := (List.getElem?_eq_some_iff.1 hi).1
    have hFi : F[i]? = some F[i] := Array.getElem?_eq_getElem (by omega)
    have hx := hf i F[i] hFi
    have he : (F[i].type, F[i].offset) = (f.t, ((fs.take i).map (·.sz)).sum) := by
      have := congrArg (fun l => l[i]?) hF
      simp only [List.getElem?_map, List.getElem?_zipIdx, hi, Array.getElem?_toList, hFi, Option.map_some, Nat.zero_add, Option.some.injEq] at this
      exact this
    injection he with e1 e2
    rw [e1, e2, f.ok.1] at hx
    rw [List.getElem?_eq_getElem (by omega)] at hx
    rw [Nat.zero_add]
    exact ⟨_, hx⟩)
  exact ⟨L, h1, by simpa using h2, by simpa using h3, h4⟩⟩
end
end Go.Proofs.YteecmgonbdbhdaaGreatDoor.A
end

/-
Arguments opened: the program's types.
-/
section
namespace Go.Proofs.YteecmgonbdbhdaaGreatDoor.A
open Go.RowKit Go.ChangeShapes Go.WideShapes Go.ChangeAt Go.Deep

section
variable {H : Type} {enc : TypeId × Value → H} {w : World}
theorem oI : OpenE enc w 3 1 gInt := oe_int Tryz.underlying3 (by kernel_rfl)
theorem oErr : OpenE enc w 33 1 gInt := oe_int Tryz.underlying33 (by kernel_rfl)
theorem oBool : OpenE enc w 4 1 gBool := oe_bool Tryz.underlying4 (by kernel_rfl)
theorem oStr : OpenE enc w 9 1 gStr := oe_str Tryz.underlying9 (by kernel_rfl)
def gBy (L : List AV) : Prop := ∃ b : List UInt8, L = [bA b]
theorem oBy : OpenE enc w 52 1 gBy :=
  (oe_sl (α := UInt8) (sz := 1) (f := fun k => [.v (.int .u8 k.toNat)]) (d := 0) Tryz.underlying52 (by kernel_rfl) (by decide) ((oe_u8 Tryz.underlying5 (by kernel_rfl)).mono fun _ h => h)).mono fun L ⟨l, h⟩ => ⟨l, h⟩
def gIs (L : List AV) : Prop := ∃ b : List Int, L = [iA b]
theorem oIs : OpenE enc w 43 1 gIs :=
  (oe_sl (α := Int) (sz := 1) (f := fun k => [.v (.int .i64 k)]) (d := 0) Tryz.underlying43 (by kernel_rfl) (by decide) (oI.mono fun _ ⟨k, h, _⟩ => ⟨k, h⟩)).mono fun L ⟨l, h⟩ => ⟨l, h⟩
def fI : FieldE enc w := ⟨_, _, _, oI⟩
def fErr : FieldE enc w := ⟨_, _, _, oErr⟩
def fBy : FieldE enc w := ⟨_, _, _, oBy⟩
def fIs : FieldE enc w := ⟨_, _, _, oIs⟩
def fStr : FieldE enc w := ⟨_, _, _, oStr⟩
theorem oImg : OpenE enc w 74 3 fun L => ∃ x, L = imgC x :=
  (oe_struct [fI, fI, fBy] Tryz.underlying74 (by kernel_rfl) (by kernel_rfl)).mono fun L h => by
    obtain ⟨_, _, rfl, ⟨a, rfl, _⟩, _, _, rfl, ⟨b, rfl, _⟩, _, _, rfl, ⟨c, rfl⟩, rfl⟩ := h
    exact ⟨⟨a, b, c⟩, rfl⟩
def fImg : FieldE enc w := ⟨_, _, _, oImg⟩
theorem oRec : OpenE enc w 76 8 fun L => ∃ x, L = rcC x :=
  (oe_struct [fI, fI, fI, fI, fI, fImg] Tryz.underlying76 (by kernel_rfl) (by kernel_rfl)).mono fun L h => by
    obtain ⟨_, _, rfl, ⟨a, rfl, _⟩, _, _, rfl, ⟨b, rfl, _⟩, _, _, rfl, ⟨c, rfl, _⟩, _, _, rfl, ⟨d, rfl, _⟩, _, _, rfl, ⟨e, rfl, _⟩, _, _, rfl, ⟨x, rfl⟩, rfl⟩ := h
    exact ⟨⟨a, b, c, d, e, x⟩, rfl⟩
theorem oGeo : OpenE enc w 23 5 fun L => ∃ x, L = geoC x :=
  (oe_struct [fI, fI, fI, fI, fI] Tryz.underlying23 (by kernel_rfl) (by kernel_rfl)).mono fun L h => by
    obtain ⟨_, _, rfl, ⟨a, rfl, _⟩, _, _, rfl, ⟨b, rfl, _⟩, _, _, rfl, ⟨c, rfl, _⟩, _, _, rfl, ⟨d, rfl, _⟩, _, _, rfl, ⟨e, rfl, _⟩, rfl⟩ := h
    exact ⟨⟨a, b, c, d, e⟩, rfl⟩
theorem oGot : OpenE enc w 54 2 fun L => ∃ x, L = gotC x :=
  (oe_struct [fErr, fBy] Tryz.underlying54 (by kernel_rfl) (by kernel_rfl)).mono fun L h => by
    obtain ⟨_, _, rfl, ⟨a, rfl, _⟩, _, _, rfl, ⟨c, rfl⟩, rfl⟩ := h
    exact ⟨⟨a, c⟩, rfl⟩
theorem oHome : OpenE enc w 58 3 fun L => ∃ x, L = hmC x :=
  (oe_struct [fIs, fI, fI] Tryz.underlying58 (by kernel_rfl) (by kernel_rfl)).mono fun L h => by
    obtain ⟨_, _, rfl, ⟨a, rfl⟩, _, _, rfl, ⟨b, rfl, _⟩, _, _, rfl, ⟨c, rfl, _⟩, rfl⟩ := h
    exact ⟨⟨a, b, c⟩, rfl⟩
theorem oHomes : OpenE enc w 24 1 fun L => ∃ l, L = [hmsA l] :=
  (oe_sl (α := Hm) (sz := 3) (f := hmC) (d := ⟨[], 0, 0⟩) Tryz.underlying24 (by kernel_rfl) (by decide) oHome).mono fun L ⟨l, h⟩ => ⟨l, h⟩
def fHms : FieldE enc w := ⟨_, _, _, oHomes⟩
theorem oAnchor : OpenE enc w 26 7 fun L => ∃ x, L = anC x :=
  (oe_struct [fI, fI, fI, fI, fI, fStr, fHms] Tryz.underlying26 (by kernel_rfl) (by kernel_rfl)).mono fun L h => by
    obtain ⟨_, _, rfl, ⟨a, rfl, _⟩, _, _, rfl, ⟨b, rfl, _⟩, _, _, rfl, ⟨c, rfl, _⟩, _, _, rfl, ⟨d, rfl, _⟩, _, _, rfl, ⟨e, rfl, _⟩, _, _, rfl, ⟨s, rfl⟩, _, _, rfl, ⟨l, rfl⟩, rfl⟩ := h
    exact ⟨⟨a, b, c, d, e, s, l⟩, rfl⟩
theorem oGots : OpenE enc w 27 1 fun L => ∃ l, L = [gotsA l] :=
  (oe_sl (α := Gt) (sz := 2) (f := gotC) (d := ⟨0, []⟩) Tryz.underlying27 (by kernel_rfl) (by decide) oGot).mono fun L ⟨l, h⟩ => ⟨l, h⟩
theorem oImgs : OpenE enc w 49 1 fun L => ∃ l, L = [imgsA l] :=
  (oe_sl (α := Img) (sz := 3) (f := imgC) (d := ⟨0, 0, []⟩) Tryz.underlying49 (by kernel_rfl) (by decide) oImg).mono fun L ⟨l, h⟩ => ⟨l, h⟩
/-- An array of numbers. -/
def arrC (l : List Int) : List AV := l.map fun k => .v (.int .i64 k)
theorem cat_ints : ∀ (n : Nat) {L : List AV}, catG (List.replicate n gInt) L → ∃ l : List Int, l.length = n ∧ L = arrC l ∧ ∀ k ∈ l, -9223372036854775808 ≤ k ∧ k ≤ 9223372036854775807
  | 0, L, h => ⟨[], rfl, h, by simp⟩
  | n + 1, L, h => by
    obtain ⟨A, B, rfl, ⟨k, rfl, hk⟩, hB⟩ := h
    obtain ⟨l, h1, rfl, h2⟩ := cat_ints n hB
    refine ⟨k :: l, by simp [h1], rfl, fun x hx => ?_⟩
    rcases List.mem_cons.1 hx with rfl | hx
    · exact hk
    · exact h2 x hx
theorem oe_arr {t n : Nat} (ht : Tryz.prog.underlying t = some (.array n 3)) (hc : Tryz.prog.cellsOf t = n) : OpenE enc w t n fun L => ∃ l : List Int, l.length = n ∧ L = arrC l ∧ ∀ k ∈ l, -9223372036854775808 ≤ k ∧ k ≤ 9223372036854775807 := ⟨hc, fun m cs x h => by
  obtain ⟨xs, m', _, rfl, hl, hlen, hel⟩ := DataW.trod_array ht h
  have hs : ((List.replicate n (fI : FieldE enc w)).map (·.sz)).sum = n := by
    rw [List.map_replicate, List.sum_replicate_nat]
    exact Nat.mul_one n
  obtain ⟨L, h1, h2, h3, h4⟩ := oe_fields (n := m') (cs := cs) (List.replicate n (fI : FieldE enc w)) 0 (by rw [hl, hc, hs]; omega) (fun i f hi => by
    have hin : i < n := by simpa using (List.getElem?_eq_some_iff.1 hi).1
    rw [List.getElem?_replicate_of_lt hin] at hi
    have hi := (Option.some.inj hi).symm
    subst hi
    have := hel i hin
    rw [(oI (enc := enc) (w := w)).1, List.getElem?_eq_getElem (by omega)] at this
    refine ⟨_, Eq.trans ?_ this⟩
    have e : ((List.take i (List.replicate n (fI : FieldE enc w))).map (·.sz)).sum = i * 1 := by
      rw [List.take_replicate, List.map_replicate, List.sum_replicate_nat, Nat.min_eq_left (by omega)]
      rfl
    rw [e, Nat.zero_add]
    rfl)
  rw [List.map_replicate] at h1
  obtain ⟨l, q1, q2, q3⟩ := cat_ints n h1
  exact ⟨L, ⟨l, q1, q2, q3⟩, by simpa using h2, by simpa using h3, by rw [h4, hs]⟩⟩

theorem okWide_array {P : Program} {w : World} {r : Reach} {b t n e : Nat} {v : Value} (ht : P.underlying t = some (.array n e)) (h : Value.okWide P w r b t v) : ∃ cs, v = .agg cs ∧ cs.size = P.cellsOf t := by
  simp only [Value.okWide, ht] at h
  obtain ⟨cs, h1, h2, _⟩ := h
  exact ⟨cs, h1, h2⟩
/-- An argument of one cell; an argument of several. -/
theorem arg_one {t : Nat} {G : List AV → Prop} {v : Value} {d : DataW H} {ps : List MemPlace} (ho : OpenE enc w t 1 G) (hv : v.cells.toList = [v]) (h : DataW.Trod enc Tryz.prog w 0 (fun _ => true) true t v d ps) : ∃ L, G L ∧ RdL L (ctx0 w) [v] := by
  obtain ⟨n, hn⟩ := h
  obtain ⟨L, h1, h2, _⟩ := ho.2 n _ _ hn
  rw [hv] at h2
  exact ⟨L, h1, h2⟩
theorem arg_agg {t sz : Nat} {G : List AV → Prop} {cs : Array Value} {d : DataW H} {ps : List MemPlace} (ho : OpenE enc w t sz G) (h : DataW.Trod enc Tryz.prog w 0 (fun _ => true) true t (.agg cs) d ps) : ∃ L, G L ∧ Rd (.ag L) (ctx0 w) (.agg cs) := by
  obtain ⟨n, hn⟩ := h
  obtain ⟨L, h1, h2, _⟩ := ho.2 n _ _ hn
  refine ⟨L, h1, ?_⟩
  simp only [Rd]
  exact ⟨cs.toList, rfl, h2⟩
theorem rdL_one {a : AV} {c : Ctx} {v : Value} (h : RdL [a] c [v]) : Rd a c v := by
  simp only [RdL] at h
  obtain ⟨y, ys, e, h1, _⟩ := h
  injection e with e _
  subst e
  exact h1
end
end Go.Proofs.YteecmgonbdbhdaaGreatDoor.A
end

/-
A world in which utf8's two tables lie as they are laid; what a laid world tells of them.
-/
section
namespace Go.Proofs.YteecmgonbdbhdaaGreatDoor
open Go.ChangeShapes Go.WideShapes Go.ChangeAt Go.RowKit

abbrev laidL : List (String × DataW Unit) := [("unicode/utf8.acceptRanges", Rows.laid_unicode_utf8_acceptRanges), ("unicode/utf8.first", Rows.laid_unicode_utf8_first)]
noncomputable def laidWorld (os : Os) : World :=
  let w0 := World.holding Tryz.prog os ⟨#[], #[], []⟩
  let put (h : Array Obj) (g : Nat) (cs : Array Value) : Array Obj := h.modify g fun
    | .cells _ t frozen => .cells cs t frozen
    | o => o
  let h1 := put w0.heap 0 (Lib.firstTab.map fun z => Value.int .u8 z).toArray
  let h2 := put h1 1 ((List.range 16).flatMap fun i => [Value.int .u8 (Lib.accLo i), Value.int .u8 (Lib.accHi i)]).toArray
  { w0 with heap := h2 }
theorem laid_met (os : Os) (args : Array Value) : laidMetH Tryz.prog laidL ((laidWorld os).forCall (fun _ _ => 0) ⟨#[], args, []⟩).memory := by
  rw [MakeChecks.laidMetH_plain _ _ _ (by kernel_rfl)]
  exact (LaidIn.of_run (l := laidL) [1, 0] 8 (by kernel_rfl) (by kernel_rfl) (by kernel_rfl) (by kernel_rfl)).met
theorem first_data : Rows.laid_unicode_utf8_first = Lib.firstData := by kernel_rfl
theorem accept_data : (Rows.laid_unicode_utf8_acceptRanges : DataW Unit) = Lib.acceptData := by kernel_rfl
theorem laid_tabs {W : World} (h : laidMetH Tryz.prog laidL W) : A.globOk W := by
  rw [MakeChecks.laidMetH_plain _ _ _ (by kernel_rfl)] at h
  have h1 := Lib.laidMet.reads h (.head _)
  have h2 := Lib.laidMet.reads h (.tail _ (.head _))
  rw [accept_data] at h1
  rw [first_data] at h2
  exact utf8Tabs_of_readsT (U8Types.of196 Tryz.laysValid) ⟨by kernel_rfl, by kernel_rfl, by kernel_rfl, by kernel_rfl, by kernel_rfl, by kernel_rfl, by kernel_rfl⟩ h2 h1
end Go.Proofs.YteecmgonbdbhdaaGreatDoor
end

/-
Package casemateref01: one rune; whether a text is a label.
-/
section
namespace Go.Proofs.YteecmgonbdbhdaaGreatDoor.A
open Go.RowKit

def cls (a : Nat) : Nat := if 192 ≤ a ∧ a < 224 then 2 else if 224 ≤ a ∧ a < 240 then 3 else if 240 ≤ a ∧ a < 248 then 4 else 0
def rb (k a : Nat) : Int := if k = 2 then (a : Int) - 192 else if k = 3 then (a : Int) - 224 else if k = 4 then (a : Int) - 240 else 0
def lb (k : Nat) : Int := if k = 2 then 128 else if k = 3 then 2048 else if k = 4 then 65536 else 0
def rrN (a0 : Int) (l : List UInt8) : Nat → Int
  | 0 => a0
  | 1 => a0
  | n + 2 => 64 * rrN a0 l (n + 1) + (l.getD (n + 1) 0).toNat - 128
def badRune (k : Nat) (r : Int) : Prop := r < lb k ∨ r > 1114111 ∨ (55296 ≤ r ∧ r < 57344)
/-- rune1's answer -/
def sizeR (l : List UInt8) : Int := if invalidR l then 0 else (Lib.decodeL l).2
def runeR (l : List UInt8) : Int := if invalidR l then 0 else (Lib.decodeL l).1
theorem rune_ascii {l : List UInt8} (h : (l.getD 0 0).toNat < 128) : sizeR l = 1 ∧ runeR l = (l.getD 0 0).toNat := by
  have e : Lib.decodeL l = ((l.getD 0 0).toNat, 1) := by rw [Lib.decodeL_N]; unfold Lib.decodeN; rw [if_pos h]
  have hi : invalidR l = false := by simp only [invalidR, e]; rw [decide_eq_false]; omega
  simp [sizeR, runeR, hi, e]
theorem rune_none {l : List UInt8} (h : 128 ≤ (l.getD 0 0).toNat) (hk : cls (l.getD 0 0).toNat = 0 ∨ l.length < cls (l.getD 0 0).toNat) : sizeR l = 0 ∧ runeR l = 0 := by
  have e : Lib.decodeL l = (65533, 1) := by
    rw [Lib.decodeL_N]
    unfold cls at hk
    unfold Lib.decodeN
    generalize (l.getD 0 0).toNat = a at *
    repeat' split
    all_goals first | rfl | (exfalso; split at hk <;> (try split at hk) <;> (try split at hk) <;> omega)
  have hi : invalidR l = true := by simp [invalidR, e]
  simp [sizeR, runeR, hi]
theorem rune_cut {l : List UInt8} {j : Nat} (h : 128 ≤ (l.getD 0 0).toNat) (h1 : 1 ≤ j) (hj : j < cls (l.getD 0 0).toNat) (hb : (l.getD j 0).toNat < 128 ∨ 192 ≤ (l.getD j 0).toNat) : sizeR l = 0 ∧ runeR l = 0 := by
  have e : Lib.decodeL l = (65533, 1) := by
    rw [Lib.decodeL_N]
    unfold cls at hj
    unfold Lib.decodeN
    have hj' : j = 1 ∨ j = 2 ∨ j = 3 := by
      split at hj <;> (try split at hj) <;> (try split at hj) <;> omega
    generalize (l.getD 0 0).toNat = a at *
    rcases hj' with rfl | rfl | rfl
    all_goals
      repeat' split
      all_goals first | rfl | (exfalso; split at hj <;> (try split at hj) <;> (try split at hj) <;> omega)
  have hi : invalidR l = true := by simp [invalidR, e]
  simp [sizeR, runeR, hi]
theorem rune_whole {l : List UInt8} (_h : 128 ≤ (l.getD 0 0).toNat) (h0 : cls (l.getD 0 0).toNat ≠ 0) (hl : cls (l.getD 0 0).toNat ≤ l.length) (hb : ∀ j, 1 ≤ j → j < cls (l.getD 0 0).toNat → 128 ≤ (l.getD j 0).toNat ∧ (l.getD j 0).toNat < 192) :
    (badRune (cls (l.getD 0 0).toNat) (rrN (rb (cls (l.getD 0 0).toNat) (l.getD 0 0).toNat) l (cls (l.getD 0 0).toNat)) → sizeR l = 0 ∧ runeR l = 0) ∧
    (¬ badRune (cls (l.getD 0 0).toNat) (rrN (rb (cls (l.getD 0 0).toNat) (l.getD 0 0).toNat) l (cls (l.getD 0 0).toNat)) → sizeR l = cls (l.getD 0 0).toNat ∧ runeR l = rrN (rb (cls (l.getD 0 0).toNat) (l.getD 0 0).toNat) l (cls (l.getD 0 0).toNat)) := by
  have hd := Lib.decodeL_N l
  generalize (l.getD 0 0).toNat = a at *
  have hk : (192 ≤ a ∧ a < 224 ∧ cls a = 2) ∨ (224 ≤ a ∧ a < 240 ∧ cls a = 3) ∨ (240 ≤ a ∧ a < 248 ∧ cls a = 4) := by
    unfold cls at h0 ⊢
    repeat' split at h0
    all_goals first | (exfalso; omega) | skip
    all_goals (repeat' split) <;> omega
  rcases hk with ⟨q1, q2, e⟩ | ⟨q1, q2, e⟩ | ⟨q1, q2, e⟩
  · rw [e] at hb hl ⊢
    have b1 := hb 1 (by omega) (by omega)
    have er : rrN (rb 2 a) l 2 = 64 * ((a : Int) - 192) + (l.getD 1 0).toNat - 128 := rfl
    rw [er]
    generalize hv : 64 * (a - 192) + (l.getD 1 0).toNat - 128 = v at *
    have hN : Lib.decodeL l = if v ≥ 128 then (v, 2) else (65533, 1) := by
      rw [hd]; unfold Lib.decodeN
      rw [if_neg (by omega), if_pos (by omega), show a % 32 * 64 + (l.getD 1 0).toNat % 64 = v by omega]
    have ev : 64 * ((a : Int) - 192) + (l.getD 1 0).toNat - 128 = (v : Int) := by omega
    have hv2 : v ≤ 2047 := by omega
    rw [ev]
    refine ⟨fun hbad => ?_, fun hok => ?_⟩
    · rw [if_neg (by simp only [badRune, lb] at hbad; simp at hbad; omega)] at hN
      simp [sizeR, runeR, invalidR, hN]
    · rw [if_pos (by simp only [badRune, lb] at hok; simp at hok; omega)] at hN
      have hi : invalidR l = false := by simp [invalidR, hN]
      simp [sizeR, runeR, hi, hN]
  · rw [e] at hb hl ⊢
    have b1 := hb 1 (by omega) (by omega)
    have b2 := hb 2 (by omega) (by omega)
    have er : rrN (rb 3 a) l 3 = 64 * (64 * ((a : Int) - 224) + (l.getD 1 0).toNat - 128) + (l.getD 2 0).toNat - 128 := rfl
    rw [er]
    generalize hv : 64 * (64 * (a - 224) + (l.getD 1 0).toNat - 128) + (l.getD 2 0).toNat - 128 = v at *
    have hN : Lib.decodeL l = if v ≥ 2048 ∧ (v < 55296 ∨ (57344 ≤ v ∧ v ≤ 1114111)) then (v, 3) else (65533, 1) := by
      rw [hd]; unfold Lib.decodeN
      rw [if_neg (by omega), if_neg (by omega), if_pos (by omega), show a % 16 * 4096 + (l.getD 1 0).toNat % 64 * 64 + (l.getD 2 0).toNat % 64 = v by omega]
    have ev : 64 * (64 * ((a : Int) - 224) + (l.getD 1 0).toNat - 128) + (l.getD 2 0).toNat - 128 = (v : Int) := by omega
    rw [ev]
    refine ⟨fun hbad => ?_, fun hok => ?_⟩
    · rw [if_neg (by simp only [badRune, lb] at hbad; simp at hbad; omega)] at hN
      simp [sizeR, runeR, invalidR, hN]
    · rw [if_pos (by simp only [badRune, lb] at hok; simp at hok; omega)] at hN
      have hi : invalidR l = false := by simp [invalidR, hN]
      simp [sizeR, runeR, hi, hN]
  · rw [e] at hb hl ⊢
    have b1 := hb 1 (by omega) (by omega)
    have b2 := hb 2 (by omega) (by omega)
    have b3 := hb 3 (by omega) (by omega)
    have er : rrN (rb 4 a) l 4 = 64 * (64 * (64 * ((a : Int) - 240) + (l.getD 1 0).toNat - 128) + (l.getD 2 0).toNat - 128) + (l.getD 3 0).toNat - 128 := rfl
    rw [er]
    generalize hv : 64 * (64 * (64 * (a - 240) + (l.getD 1 0).toNat - 128) + (l.getD 2 0).toNat - 128) + (l.getD 3 0).toNat - 128 = v at *
    have hN : Lib.decodeL l = if v ≥ 65536 ∧ (v < 55296 ∨ (57344 ≤ v ∧ v ≤ 1114111)) then (v, 4) else (65533, 1) := by
      rw [hd]; unfold Lib.decodeN
      rw [if_neg (by omega), if_neg (by omega), if_neg (by omega), if_pos (by omega), show a % 8 * 262144 + (l.getD 1 0).toNat % 64 * 4096 + (l.getD 2 0).toNat % 64 * 64 + (l.getD 3 0).toNat % 64 = v by omega]
    have ev : 64 * (64 * (64 * ((a : Int) - 240) + (l.getD 1 0).toNat - 128) + (l.getD 2 0).toNat - 128) + (l.getD 3 0).toNat - 128 = (v : Int) := by omega
    rw [ev]
    refine ⟨fun hbad => ?_, fun hok => ?_⟩
    · rw [if_neg (by simp only [badRune, lb] at hbad; simp at hbad; omega)] at hN
      simp [sizeR, runeR, invalidR, hN]
    · rw [if_pos (by simp only [badRune, lb] at hok; simp at hok; omega)] at hN
      have hi : invalidR l = false := by simp [invalidR, hN]
      simp [sizeR, runeR, hi, hN]
end Go.Proofs.YteecmgonbdbhdaaGreatDoor.A
end

/-
Package casemateref01: the walks of rune1 and Label.
-/
section
namespace Go.Proofs.YteecmgonbdbhdaaGreatDoor.A
open Go.RowKit

theorem rune1_fn (s : ByteArray) (h0 : 0 < s.size) (hs : s.size ≤ 1000000) : Fn Tryz.prog 48 [.v (.string s)] fun r => r = .tp [.v (.int .i64 (sizeR s.data.toList)), .v (.int .i64 (runeR s.data.toList))] := by
  refine Fn.of tys_ok Tryz.func48 rfl rfl (Nat.le_of_ble_eq_true rfl) ?_
  conv => whnf
  refine ⟨⟨by omega, by omega⟩, ?_⟩
  conv => whnf
  obtain ⟨a, ha⟩ : ∃ a, a = (s.data.toList.getD 0 0).toNat := ⟨_, rfl⟩
  have hal : a < 256 := by rw [ha]; exact UInt8.toNat_lt _
  have hw : IntKind.i64.wrap (((s.data.toList.getD (Int.toNat 0) 0).toNat : Nat) : Int) = a := by rw [show Int.toNat 0 = 0 from rfl, ← ha]; exact wi (by omega)
  refine aSeq.cut Nat (fun k => ([(0, .v (.string s)), (5, .v (.int .i64 k)), (6, .v (.int .i64 (rb k a))), (7, .v (.int .i64 (lb k)))], [])) (fun k => k = cls a ∧ 128 ≤ a) ?_ ?_
  · conv => whnf
    refine boolK_intro (fun h1 => ?_) (fun h1 => ?_) <;> simp only [hw, decide_eq_true_eq, decide_eq_false_iff_not] at h1 <;> conv => whnf
    · obtain ⟨e1, e2⟩ := rune_ascii (l := s.data.toList) (by omega)
      exact ⟨_, fun _ _ h => h, by rw [e1, e2, hw, ha]⟩
    repeat' (refine boolK_intro (fun h => ?_) (fun h => ?_) <;> simp only [hw, decide_eq_true_eq, decide_eq_false_iff_not, ge_iff_le] at h <;> conv => whnf)
    all_goals first
      | (exfalso; omega)
      | exact ⟨2, ⟨by unfold cls; rw [if_pos (by omega)], by omega⟩, [], trivial, ⟨rfl, rfl, by rw [hw]; exact congrArg (fun n => AV.v (.int .i64 n)) (wi (by omega)), rfl, trivial⟩, trivial, rfl, rfl, rfl⟩
      | exact ⟨3, ⟨by unfold cls; rw [if_neg (by omega), if_pos (by omega)], by omega⟩, [], trivial, ⟨rfl, rfl, by rw [hw]; exact congrArg (fun n => AV.v (.int .i64 n)) (wi (by omega)), rfl, trivial⟩, trivial, rfl, rfl, rfl⟩
      | exact ⟨4, ⟨by unfold cls; rw [if_neg (by omega), if_neg (by omega), if_pos (by omega)], by omega⟩, [], trivial, ⟨rfl, rfl, by rw [hw]; exact congrArg (fun n => AV.v (.int .i64 n)) (wi (by omega)), rfl, trivial⟩, trivial, rfl, rfl, rfl⟩
      | exact ⟨0, ⟨by unfold cls; rw [if_neg (by omega), if_neg (by omega), if_neg (by omega)], by omega⟩, [], trivial, ⟨rfl, rfl, rfl, rfl, trivial⟩, trivial, rfl, rfl, rfl⟩
  · rintro k ⟨hk, ha2⟩
    obtain ⟨l, hl⟩ : ∃ l, l = s.data.toList := ⟨_, rfl⟩
    have hll : l.length = s.size := by rw [hl, str_len]
    rw [← hl] at ha ⊢
    have h128 : 128 ≤ (l.getD 0 0).toNat := by omega
    have hk' : k = cls (l.getD 0 0).toNat := by rw [hk, ha]
    have hk4 : k ≤ 4 := by rw [hk]; unfold cls; (repeat' split) <;> omega
    conv => whnf
    refine boolK_intro (fun h1 => ?_) (fun h1 => ?_) <;> simp at h1 <;> conv => whnf
    · obtain ⟨e1, e2⟩ := rune_none h128 (.inl (by omega))
      exact ⟨_, fun _ _ h => h, by rw [e1, e2]⟩
    refine boolK_intro (fun h2 => ?_) (fun h2 => ?_) <;> simp only [decide_eq_true_eq, decide_eq_false_iff_not] at h2 <;> conv => whnf
    · obtain ⟨e1, e2⟩ := rune_none h128 (.inr (by omega))
      exact ⟨_, fun _ _ h => h, by rw [e1, e2]⟩
    have hrb : 0 ≤ rb k a ∧ rb k a ≤ 31 := by
      rw [hk]; unfold rb cls; repeat' split
      all_goals omega
    refine aLoop.rule Nat (fun i => ([(0, .v (.string s)), (5, .v (.int .i64 k)), (6, .v (.int .i64 (rrN (rb k a) l i))), (7, .v (.int .i64 (lb k))), (8, .v (.int .i64 i))], [])) (fun i => 1 ≤ i ∧ i ≤ k ∧ 0 ≤ rrN (rb k a) l i ∧ (i = 1 → rrN (rb k a) l i ≤ 31) ∧ (i = 2 → rrN (rb k a) l i ≤ 2047) ∧ (i = 3 → rrN (rb k a) l i ≤ 131071) ∧ (i = 4 → rrN (rb k a) l i ≤ 8388607) ∧ ∀ j, 1 ≤ j → j < i → 128 ≤ (l.getD j 0).toNat ∧ (l.getD j 0).toNat < 192) (fun i => k - i) 1 ⟨Nat.le_refl _, by omega, hrb.1, fun _ => hrb.2, by omega, by omega, by omega, by omega⟩ ⟨[], trivial, ⟨rfl, rfl, rfl, rfl, rfl, trivial⟩, trivial, rfl, rfl, rfl⟩ ?_
    rintro i ⟨hi1, hik, hr0, hr1, hr2, hr3, hr4, hI⟩
    conv => whnf
    refine boolK_intro (fun h3 => ?_) (fun h3 => ?_) <;> simp only [decide_eq_true_eq, decide_eq_false_iff_not] at h3 <;> conv => whnf
    · refine ⟨⟨by omega, by omega⟩, ?_⟩
      conv => whnf
      obtain ⟨b, hb⟩ : ∃ b, b = (l.getD i 0).toNat := ⟨_, rfl⟩
      have hbl : b < 256 := by rw [hb]; exact UInt8.toNat_lt _
      have hwb : IntKind.i64.wrap (((s.data.toList.getD (Int.toNat (i : Int)) 0).toNat : Nat) : Int) = b := by rw [Int.toNat_natCast, ← hl, ← hb]; exact wi (by omega)
      refine boolK_intro (fun h4 => ?_) (fun h4 => ?_) <;> simp only [hwb, decide_eq_true_eq, decide_eq_false_iff_not] at h4 <;> conv => whnf
      · obtain ⟨e1, e2⟩ := rune_cut (j := i) h128 hi1 (by omega) (.inl (by omega))
        exact ⟨_, fun _ _ h => h, by rw [e1, e2]⟩
      refine boolK_intro (fun h5 => ?_) (fun h5 => ?_) <;> simp only [hwb, decide_eq_true_eq, decide_eq_false_iff_not] at h5 <;> conv => whnf
      · obtain ⟨e1, e2⟩ := rune_cut (j := i) h128 hi1 (by omega) (.inr (by omega))
        exact ⟨_, fun _ _ h => h, by rw [e1, e2]⟩
      have hst : rrN (rb k a) l (i + 1) = 64 * rrN (rb k a) l i + b - 128 := by
        obtain ⟨m, rfl⟩ : ∃ m, i = m + 1 := ⟨i - 1, by omega⟩
        rw [hb]; rfl
      have hR : rrN (rb k a) l i ≤ 131071 := by
        rcases (show i = 1 ∨ i = 2 ∨ i = 3 by omega) with e | e | e
        · have := hr1 e; omega
        · have := hr2 e; omega
        · exact hr3 e
      refine ⟨i + 1, ⟨by omega, by omega, by omega, by omega, fun e => ?_, fun e => ?_, fun e => ?_, fun j h1 h2 => ?_⟩, by omega, [], trivial, ⟨rfl, rfl, ?_, rfl, wsucc (by omega), trivial⟩, trivial, rfl, rfl, rfl⟩
      · have := hr1 (by omega); omega
      · have := hr2 (by omega); omega
      · have := hr3 (by omega); omega
      · rcases Nat.lt_or_ge j i with h | h
        · exact hI j h1 h
        · obtain rfl : j = i := by omega
          rw [← hb]; omega
      · rw [hwb, hst, wi (n := 64 * rrN (rb k a) l i) (by omega), wi (n := 64 * rrN (rb k a) l i + b) (by omega), wi (n := 64 * rrN (rb k a) l i + b - 128) (by omega)]; rfl
    · obtain rfl : i = k := by omega
      have hW := rune_whole h128 (by omega) (by omega) (fun j h1 h2 => hI j h1 (by omega))
      rw [← hk', ← ha] at hW
      by_cases hbad : badRune i (rrN (rb i a) l i)
      · obtain ⟨e1, e2⟩ := hW.1 hbad
        unfold badRune at hbad
        repeat' (refine boolK_intro (fun h => ?_) (fun h => ?_) <;> simp only [decide_eq_true_eq, decide_eq_false_iff_not, ge_iff_le, gt_iff_lt] at h <;> conv => whnf)
        all_goals first | (exfalso; omega) | exact ⟨_, fun _ _ h => h, by rw [e1, e2]⟩
      · obtain ⟨e1, e2⟩ := hW.2 hbad
        unfold badRune at hbad
        repeat' (refine boolK_intro (fun h => ?_) (fun h => ?_) <;> simp only [decide_eq_true_eq, decide_eq_false_iff_not, ge_iff_le, gt_iff_lt] at h <;> conv => whnf)
        all_goals first | (exfalso; omega) | exact ⟨_, fun _ _ h => h, by rw [e1, e2]⟩
theorem rlabel_fn (s : ByteArray) (hs : s.size ≤ 1000000) : Fn Tryz.prog 26 [.v (.string s)] fun r => r = .v (.int .i64 (labE s.data.toList)) := by
  refine Fn.of tys_ok Tryz.func26 rfl rfl (Nat.le_of_ble_eq_true rfl) ?_
  conv => whnf
  refine aLoop.rule (Nat × Nat) (fun q => ([(0, .v (.string s)), (3, .v (.int .i64 q.2)), (4, .v (.int .i64 q.1))], [])) (fun q => labE s.data.toList = labW (s.data.toList.drop q.1) q.2 ∧ q.1 ≤ s.size ∧ q.2 ≤ q.1) (fun q => s.size - q.1) (0, 0) ⟨by rw [← labW_labE]; rfl, Nat.zero_le _, Nat.le_refl _⟩ ⟨[], trivial, ⟨rfl, rfl, rfl, trivial⟩, trivial, rfl, rfl, rfl⟩ ?_
  rintro ⟨p, n⟩ ⟨hI, hp, hn⟩
  simp only at hI hp hn
  conv => whnf
  refine boolK_intro (fun h1 => ?_) (fun h1 => ?_) <;> simp only [decide_eq_true_eq, decide_eq_false_iff_not] at h1 <;> conv => whnf
  · refine ⟨⟨by simp only; omega, by simp only; omega, by omega⟩, ?_⟩
    conv => whnf
    have hx : (s.extract p s.size).data.toList = s.data.toList.drop p := Lib.extract_to_end s p
    have hxs : (s.extract p s.size).size = s.size - p := by rw [← str_len, hx, List.length_drop, str_len]
    have hr := rune1_fn (s.extract p s.size) (by omega) (by omega)
    rw [hx] at hr
    refine Fn.closed (hr) rfl ?_
    rintro _ rfl
    conv => whnf
    have hne : ¬ s.data.toList.drop p = [] := by
      intro e
      have := congrArg List.length e
      rw [List.length_drop, str_len] at this
      simp at this
      omega
    have hstep : labW (s.data.toList.drop p) n = if invalidR (s.data.toList.drop p) || badR (Lib.decodeL (s.data.toList.drop p)).1 then 3 else labW ((s.data.toList.drop p).drop (Lib.decodeL (s.data.toList.drop p)).2) (n + 1) := by rw [labW, dif_neg hne]
    have hw := Lib.decodeL_width (s.data.toList.drop p)
    obtain ⟨D, hD⟩ : ∃ D, D = s.data.toList.drop p := ⟨_, rfl⟩
    rw [← hD] at hstep hw hI ⊢
    have hwl : (Lib.decodeL D).2 ≤ D.length := by
      have hpos : 0 < D.length := by rw [hD, List.length_drop, str_len]; omega
      rw [Lib.decodeL_N]
      unfold Lib.decodeN
      repeat' split
      all_goals (simp only; omega)
    cases hinv : invalidR D with
    | true =>
      have e1 : sizeR D = 0 := by simp [sizeR, hinv]
      rw [hinv, Bool.true_or, if_pos rfl] at hstep
      refine boolK_intro (fun h2 => ?_) (fun h2 => ?_) <;> conv => whnf
      · exact ⟨_, fun _ _ h => h, by rw [hI, hstep]⟩
      · exfalso; rw [e1] at h2; simp at h2
    | false =>
      have e1 : sizeR D = (Lib.decodeL D).2 := by simp [sizeR, hinv]
      have e2 : runeR D = (Lib.decodeL D).1 := by simp [runeR, hinv]
      rw [hinv, Bool.false_or] at hstep
      refine boolK_intro (fun h2 => ?_) (fun h2 => ?_) <;> conv => whnf
      · exfalso; rw [e1] at h2; simp at h2; omega
      refine boolK_intro (fun h3 => ?_) (fun h3 => ?_) <;> simp only [e2, decide_eq_true_eq, decide_eq_false_iff_not] at h3 <;> conv => whnf
      · exact ⟨_, fun _ _ h => h, by rw [hI, hstep, if_pos (by simp [badR]; omega)]⟩
      refine boolK_intro (fun h4 => ?_) (fun h4 => ?_) <;> simp only [e2, beq_iff_eq, beq_eq_false_iff_ne] at h4 <;> conv => whnf
      · exact ⟨_, fun _ _ h => h, by rw [hI, hstep, if_pos (by simp [badR]; omega)]⟩
      · rw [if_neg (by simp [badR]; omega)] at hstep
        have hDl : D.length = s.size - p := by rw [hD, List.length_drop, str_len]
        refine ⟨(p + (Lib.decodeL D).2, n + 1), ⟨?_, ?_, ?_⟩, ?_, [], trivial, ⟨rfl, wsucc ?_, ?_, trivial⟩, trivial, rfl, rfl, rfl⟩
        · simp only; rw [hI, hstep, hD, List.drop_drop]
        · simp only; omega
        · simp only; omega
        · simp only; omega
        · simp only; omega
        · rw [e1]; exact congrArg (fun n => AV.v (.int .i64 n)) (wi (by simp only; omega))
  · refine boolK_intro (fun h2 => ?_) (fun h2 => ?_) <;> simp at h2 <;> conv => whnf
    · exact ⟨_, fun _ _ h => h, by rw [hI, List.drop_eq_nil_of_le (by rw [str_len]; omega), labW]; simp; omega⟩
    · exact ⟨_, fun _ _ h => h, by rw [hI, List.drop_eq_nil_of_le (by rw [str_len]; omega), labW]; simp; omega⟩
end Go.Proofs.YteecmgonbdbhdaaGreatDoor.A
end
