/-
Several texts in one.
-/
import Derived.Test.YtjcboeldmgmfcaaComP0
import Derived.Laws.OwnMore
import Derived.Laws.RangeString
import Derived.Deep.LoopGhost
import Derived.LoopN
import Derived.RangeFuncLeaves
import Derived.RangeFuncRecord
import Derived.Test.YtjcboeldmgmfcaaProg

/-
What an operation does that makes memory, writes, calls: it is so.
-/
section
namespace Go.Proofs.Ytjcboeldmgmfcaa.A
open Go.RowKit

theorem run_newVar {P : Program} {w : World} (t : TypeId) (v : Value) : (newVar t v).run P w = .ok ⟨w.heap.size, 0, none⟩ (w.alloc (.cells v.cells t)) := rfl
theorem run_storeVar {P : Program} {w w' : World} {t : TypeId} {a : Addr} {v : Value} {ty : Ty} (h : TyOk P t ty) (hs : v.cells.size = ty.sz) (hr : (storeCells a v.cells.toList).run P w = .ok () w') : (storeVar t a v).run P w = .ok () w' := by
  obtain ⟨i, d, z, hp⟩ := h.parts
  unfold storeVar
  simp only [Sem.run_bind, hp.sizeOf, Result.andThen_ok, hs, ne_eq, not_true_eq_false, if_false]
  simpa using hr
theorem zero_rd {c : Ctx} : ∀ (l : List Value), RdL (l.map .v) c l
  | [] => by simp [RdL]
  | x :: l => by simp only [List.map_cons, RdL]; exact ⟨x, l, rfl, by simp [Rd], zero_rd l⟩
theorem zrep_rd {c : Ctx} (z : List Value) : ∀ n, RdL (zrep n z) c (List.replicate n z).flatten
  | 0 => by simp [zrep, RdL]
  | n + 1 => by
    rw [List.replicate_succ, List.flatten_cons]
    exact (zero_rd z).append (zrep_rd z n)
theorem zrow {z : Array Value} (hz : 0 < z.size) (n : Nat) : ((Array.range (n * z.size)).map fun i => z[i % z.size]!).toList = (List.replicate n z.toList).flatten := by
  apply List.ext_getElem?
  intro i
  have hfl : ∀ n : Nat, (List.replicate n z.toList).flatten.length = n * z.size := by intro n; simp
  have hget : ∀ (n i : Nat), i < n * z.size → (List.replicate n z.toList).flatten[i]? = z.toList[i % z.size]? := by
    intro n
    induction n with
    | zero => intro i hi; omega
    | succ n ih =>
      intro i hi
      rw [List.replicate_succ, List.flatten_cons]
      rcases Nat.lt_or_ge i z.size with h | h
      · rw [List.getElem?_append_left (by simpa using h), Nat.mod_eq_of_lt h]
      · rw [List.getElem?_append_right (by simpa using h), ih _ (by rw [Nat.add_mul] at hi; simp; omega)]
        simp only [Array.length_toList]
        rw [Nat.mod_eq_sub_mod h]
  rcases Nat.lt_or_ge i (n * z.size) with h | h
  · rw [hget n i h]
    have hm : i % z.size < z.size := Nat.mod_lt _ hz
    simp [h, hm]
  · rw [List.getElem?_eq_none (by simpa using h), List.getElem?_eq_none (by rw [hfl]; exact h)]

theorem flat_set {sz : Nat} : ∀ (es : List (List AV)) (i off : Nat) (l : List AV), (∀ e ∈ es, e.length = sz) → i < es.length → off + l.length ≤ sz →
    (es.set i ((es.getD i []).take off ++ l ++ (es.getD i []).drop (off + l.length))).flatten = es.flatten.take (i * sz + off) ++ l ++ es.flatten.drop (i * sz + off + l.length)
  | [], _, _, _, _, h, _ => by simp at h
  | e :: es, 0, off, l, h, _, hl => by
    have he := h e (by simp)
    simp only [List.set_cons_zero, List.getD_cons_zero, List.flatten_cons, Nat.zero_mul, Nat.zero_add]
    rw [List.take_append_of_le_length (by omega), List.drop_append_of_le_length (by omega)]
    simp
  | e :: es, i + 1, off, l, h, hi, hl => by
    have he := h e (by simp)
    have ih := flat_set es i off l (fun x hx => h x (by simp [hx])) (by simpa using hi) hl
    simp only [List.set_cons_succ, List.getD_cons_succ, List.flatten_cons]
    rw [ih, Nat.add_mul, Nat.one_mul, show i * sz + sz + off = e.length + (i * sz + off) by omega, show e.length + (i * sz + off) + l.length = e.length + (i * sz + off + l.length) by omega, List.take_append, List.drop_append, List.take_of_length_le (l := e) (by omega), show List.drop (e.length + (i * sz + off + l.length)) e = [] from List.drop_eq_nil_of_le (by omega)]
    simp
theorem take_splice {A v : List Value} {p N : Nat} (h : p + v.length ≤ N) (hN : N ≤ A.length) : (A.take p ++ v ++ A.drop (p + v.length)).take N = (A.take N).take p ++ v ++ (A.take N).drop (p + v.length) := by
  have hp : (A.take p ++ v).length = p + v.length := by rw [List.length_append, List.length_take]; omega
  rw [List.take_append, List.take_of_length_le (by omega), hp, List.take_take, Nat.min_eq_left (by omega), List.drop_take]

theorem fill_more {p q : Nat → Option (Nat × Nat)} : ∀ {l : List (Nat × Value)} {cs r : Array Value}, Instr.fill p cs l = some r → (∀ i x, p i = some x → q i = some x) → Instr.fill q cs l = some r
  | [], _, _, h, _ => by simpa [Instr.fill] using h
  | (i, v) :: l, cs, r, h, hq => by
    simp only [Instr.fill] at h ⊢
    cases hp : p i with
    | none => rw [hp] at h; simp at h
    | some x =>
      rw [hp] at h
      rw [hq i x hp]
      simp only at h ⊢
      split at h
      · cases h
      · rename_i hn
        rw [if_neg hn]
        exact fill_more h hq

set_option maxHeartbeats 1000000 in
theorem eff_sound {P : Program} {T : Tys} (hT : TOk P T) {w0 : Fl} {M0 : Ms} {c : Ctx} {H : List AB} (hs : HS w0 M0 c H) {n : Nat} {fr : Fr} {a : Act} (hf : FR w0 c n fr a) {o : Oper} {k : AV → List AB → Prop} {q : Bool} (h : eff P T q o.op (ev fr) H k)
    {next : Act → World → Prop} {Q : Exit → Act → World → Prop} (hn : ∀ r H' c' v, k r H' → HS w0 M0 c' H' → Ext c c' → Rd r c' v → (q = true → Old c.w c'.w) → next (a.put o.dst v) c'.w) : o.wp P a c.w next Q := by
  unfold eff at h
  unfold Oper.wp
  split at h
  · rename_i t ho
    split at h
    · rename_i ty ht
      split at h
      · rename_i hz
        have h := snocK_iff h
        obtain ⟨i, d, z, hp⟩ := (hT.get ht).parts
        obtain ⟨c', e1, e2, e3, e4⟩ := hs.box t (cs := ty.zero.map .v) (xs := ty.zero) (zero_rd _) (fun u hu => List.all_eq_true.1 hz u hu)
        rw [Nat.zero_add] at h
        have hrun : (execOp a.eval o).run P c.w = .ok (.value (.pointer (some ⟨c.w.heap.size, 0, none⟩))) c'.w := by
          have hzc : z.cells = ty.zero.toArray := Array.ext' (by simpa using hp.zc)
          simp [execOp, ho, Instr.alloc, zeroValue, typeInfo, hp.info, hp.zero, run_newVar, e1, hzc]
        rw [hrun]
        exact hn _ _ _ _ h e2 e3 e4 fun _ => by rw [e1]; exact ((Below.refl c.w.heap.size c.w).alloc (Nat.le_refl _) _).old
      · exact h.elim
    · exact h.elim
  · rename_i t x ho
    have h := forceK_iff h
    split at h
    · rename_i hok
      have h := snocK_iff h
      rw [Nat.zero_add] at h
      obtain ⟨h1, h2⟩ := cells1_rd (hf.ev x) hok
      obtain ⟨c', e1, e2, e3, e4⟩ := hs.box t h1 h2
      have hrun : (execOp a.eval o).run P c.w = .ok (.value (.pointer (some ⟨c.w.heap.size, 0, none⟩))) c'.w := by
        simp [execOp, ho, Instr.box, run_newVar, e1]
      rw [hrun]
      exact hn _ _ _ _ h e2 e3 e4 fun _ => by rw [e1]; exact ((Below.refl c.w.heap.size c.w).alloc (Nat.le_refl _) _).old
    · exact h.elim
  · rename_i t ad x ho
    split at h
    · rename_i ty ht
      have h := forceK_iff h
      split at h
      · rename_i hok
        simp only [Bool.and_eq_true] at hok
        have hsz := Nat.eq_of_beq_eq_true hok.2
        obtain ⟨hc1, hc2⟩ := cells1_rd (hf.ev x) hok.1
        have hcl := hc1.length
        have hcs : (a.eval x).cells.size = ty.sz := by rw [← hsz, ← hcl]; simp
        have hra := hf.ev ad
        split at h
        · rename_i j off hx
          rw [hx] at hra
          split at h
          case h_1 => exact h.elim
          rw [hget_eq] at h
          split at h
          · rename_i bt cs hj
            obtain ⟨hle, h⟩ := spliceK_iff h
            have h := setK_iff h
            obtain ⟨g, xs, q1, q2, q3, q4⟩ := hs.blk j _ hj
            have hxl := q3.length
            simp only [Rd] at hra
            obtain ⟨_, g', hg', hu⟩ := hra
            rw [q1] at hg'
            cases hg'
            obtain ⟨w', r1, r2, r3, r4, r5, r6, r7⟩ := run_storeCells (P := P) (a.eval x).cells.toList (i := 0) (off := off) q2 hc2 (by omega)
            have hrun : (execOp a.eval o).run P c.w = .ok .skip w' := by
              have := run_storeVar (a := ⟨g, off, none⟩) (hT.get ht) hcs r1
              simp [execOp, ho, Instr.storeAt, hu, Instr.sureAddr, this]
            rw [hrun]
            have hE : Ext c { c with w := w' } := ⟨r5, r6, r7, by simp [r4], fun b _ hm => ⟨hm, r3 b fun e => hm (e ▸ (hs.own j _ g hj rfl (by rw [q1]; rfl)).1)⟩, Nat.le_refl _, fun _ _ => Nat.le_refl _, fun _ _ _ => rfl, fun _ _ _ h => h⟩
            have hset := hs.set_ (y := .box bt (cs.take off ++ cells1 (ev fr x) ++ cs.drop (off + (cells1 (ev fr x)).length))) hj rfl rfl (g := g) (by rw [q1]; rfl) r3 r4 r5 r6 r7 (by
              refine ⟨g, xs.take off ++ (a.eval x).cells.toList ++ xs.drop (off + (a.eval x).cells.toList.length), q1, by rw [Nat.add_zero] at r2; exact r2, ?_, ?_⟩
              · rw [← hcl]
                exact ((RdL.ext _ hE (q3.take off)).append (RdL.ext _ hE hc1)).append (RdL.ext _ hE (q3.drop _))
              · intro u hu
                rcases List.mem_append.1 hu with hu | hu
                · rcases List.mem_append.1 hu with hu | hu
                  · exact q4 u (List.mem_of_mem_take hu)
                  · exact hc2 u hu
                · exact q4 u (List.mem_of_mem_drop hu))
            exact hn _ _ _ _ h hset.1 hset.2 (by simp [Rd]) (fun e => by cases e)
          · exact h.elim
        · rename_i j m i sz off hx
          rw [hx] at hra
          split at h
          case h_1 => exact h.elim
          rw [hget_eq] at h
          split at h
          · rename_i rt sz' es mm hj
            obtain ⟨⟨rfl, hm, hi⟩, h⟩ := h
            obtain ⟨hle, h⟩ := spliceK_iff h
            have k1 := setK_iff h
            obtain ⟨h1, h2, h3, h3', xs, h4, h5, h6⟩ := hs.blk j _ hj
            simp only [Rd] at hra
            obtain ⟨p1, p2, g, oo, hu, p3⟩ := hra
            obtain ⟨pp, p4, rfl⟩ := p3 (by omega)
            rcases h4.2 with ⟨e, _⟩ | ⟨g', cap, cur, e, hbg, hh, hnc, hcm, hcsz, htk⟩
            · rw [p4] at e; cases e
            rw [p4] at e; cases e
            have hlen := getD_len h3 (show i < es.length by omega)
            have hxl : xs.length = es.length * sz' := h4.1
            have hcur : cur.toList.length = pp * sz' := by simpa using hcsz
            have hcap : es.length * sz' ≤ pp * sz' := Nat.mul_le_mul_right _ (by omega)
            have hi1 : (i + 1) * sz' ≤ es.length * sz' := Nat.mul_le_mul_right _ (by omega)
            rw [Nat.add_mul, Nat.one_mul] at hi1
            obtain ⟨w', r1, r2, r3, r4, r5, r6, r7⟩ := run_storeCells (P := P) (w := c.w) (cur := cur.toList) (a.eval x).cells.toList (i := 0) (off := i * sz' + off) (by simpa using hh) hc2 (by omega)
            have hrun : (execOp a.eval o).run P c.w = .ok .skip w' := by
              have := run_storeVar (a := ⟨g, i * sz' + off, none⟩) (hT.get ht) hcs r1
              simp [execOp, ho, Instr.storeAt, hu, Instr.sureAddr, this]
            rw [hrun]
            have hog : oB (c.rho j) = some g := by rw [p4]; rfl
            have hE : Ext c { c with w := w' } := ⟨r5, r6, r7, by simp [r4], fun b _ hm => ⟨hm, r3 b fun e => hm (e ▸ (hs.own j _ g hj rfl hog).1)⟩, Nat.le_refl _, fun _ _ => Nat.le_refl _, fun _ _ _ => rfl, fun _ _ _ h => h⟩
            have hflat : (es.set i (List.take off (es.getD i []) ++ cells1 (ev fr x) ++ List.drop (off + (cells1 (ev fr x)).length) (es.getD i []))).flatten = es.flatten.take (i * sz' + off) ++ cells1 (ev fr x) ++ es.flatten.drop (i * sz' + off + (cells1 (ev fr x)).length) := flat_set es i off (cells1 (ev fr x)) h3 (by omega) (by omega)
            have hlt2 : AV.ltL (es.set i (List.take off (es.getD i []) ++ cells1 (ev fr x) ++ List.drop (off + (cells1 (ev fr x)).length) (es.getD i []))).flatten (match AV.ltL (cells1 (ev fr x)) mm with | true => mm | false => H.length) = true := by
              rw [hflat, ltL_iff]
              intro y hy
              have hy' : y ∈ es.flatten ∨ y ∈ cells1 (ev fr x) := by
                rcases List.mem_append.1 hy with hy | hy
                · rcases List.mem_append.1 hy with hy | hy
                  · exact .inl (List.mem_of_mem_take hy)
                  · exact .inr hy
                · exact .inl (List.mem_of_mem_drop hy)
              cases hb : AV.ltL (cells1 (ev fr x)) mm with
              | true =>
                rcases hy' with hy | hy
                · exact ltL_iff.1 h3' y hy
                · exact ltL_iff.1 hb y hy
              | false =>
                have e : H.length = c.dom := hs.dom.symm
                show y.lt H.length = true
                rw [e]
                rcases hy' with hy | hy
                · exact ltL_iff.1 (RdL.lt_dom _ h5) y hy
                · exact ltL_iff.1 (RdL.lt_dom _ hc1) y hy
            have hset := hs.set_ (y := .rowo rt sz' (es.set i (List.take off (es.getD i []) ++ cells1 (ev fr x) ++ List.drop (off + (cells1 (ev fr x)).length) (es.getD i []))) (match AV.ltL (cells1 (ev fr x)) mm with | true => mm | false => H.length)) hj rfl rfl (g := g) hog r3 r4 r5 r6 r7 (by
              refine ⟨by simpa using h1, h2, fun e he => ?_, hlt2, xs.take (i * sz' + off) ++ (a.eval x).cells.toList ++ xs.drop (i * sz' + off + (a.eval x).cells.toList.length), ?_, ?_, ?_⟩
              · rcases List.mem_or_eq_of_mem_set he with he | rfl
                · exact h3 e he
                · simp only [List.length_append, List.length_take, List.length_drop]; omega
              · have hN : i * sz' + off + (a.eval x).cells.toList.length ≤ es.length * sz' := by omega
                refine ⟨?_,   .inr ⟨g, pp, (cur.toList.take (i * sz' + off) ++ (a.eval x).cells.toList ++ cur.toList.drop (i * sz' + off + (a.eval x).cells.toList.length)).toArray, by simpa using p4, hbg, by rw [Nat.add_zero] at r2; exact r2, by simpa using hnc, hcm, ?_, ?_⟩⟩
                · simp only [List.length_append, List.length_take, List.length_drop, List.length_set]; omega
                · simp only [List.size_toArray, List.length_append, List.length_take, List.length_drop]; omega
                · rw [List.length_set, ← htk]
                  exact take_splice hN (by omega)
              · rw [hflat, ← hcl]
                exact ((RdL.ext _ hE (h5.take _)).append (RdL.ext _ hE hc1)).append (RdL.ext _ hE (h5.drop _))
              · intro u hu
                rcases List.mem_append.1 hu with hu | hu
                · rcases List.mem_append.1 hu with hu | hu
                  · exact h6 u (List.mem_of_mem_take hu)
                  · exact hc2 u hu
                · exact h6 u (List.mem_of_mem_drop hu))
            exact hn _ _ _ _ k1 hset.1 hset.2 (by simp [Rd]) (fun e => by cases e)
          rw [← hget_eq] at *
          obtain ⟨l', H', c1, k1, k2, k3, k4, k5, k6, k7, k8⟩ := sealK_sound hs hc1 h
          rw [hget_eq] at k1
          split at k1
          · rename_i rt sz' es hj
            obtain ⟨⟨rfl, hm, hi⟩, k1⟩ := k1
            obtain ⟨hle, k1⟩ := spliceK_iff k1
            have k1 := setK_iff k1
            obtain ⟨h1, h2, h3, xs, h4, h5, h6⟩ := k3.blk j _ hj
            have hra1 := Rd.ext _ k4 hra
            simp only [Rd] at hra1
            obtain ⟨p1, p2, g, oo, hu, p3⟩ := hra1
            obtain ⟨pp, p4, rfl⟩ := p3 (by omega)
            rcases h4.2 with ⟨e, _⟩ | ⟨g', cap, cur, e, hbg, hh, hnc, hcm, hcsz, htk⟩
            · rw [p4] at e; cases e
            rw [p4] at e; cases e
            have hlen := getD_len h3 (show i < es.length by omega)
            have hxl : xs.length = es.length * sz' := h4.1
            have hcl' : (a.eval x).cells.toList.length = l'.length := by rw [k7, hcl]
            have hcur : cur.toList.length = pp * sz' := by simpa using hcsz
            have hcap : es.length * sz' ≤ pp * sz' := Nat.mul_le_mul_right _ (by omega)
            have hi1 : (i + 1) * sz' ≤ es.length * sz' := Nat.mul_le_mul_right _ (by omega)
            rw [Nat.add_mul, Nat.one_mul] at hi1
            have hk2 : c1.w = c.w := k2
            rw [← hk2]
            obtain ⟨w', r1, r2, r3, r4, r5, r6, r7⟩ := run_storeCells (P := P) (w := c1.w) (cur := cur.toList) (a.eval x).cells.toList (i := 0) (off := i * sz' + off) (by simpa using hh) hc2 (by omega)
            have hrun : (execOp a.eval o).run P c1.w = .ok .skip w' := by
              have := run_storeVar (a := ⟨g, i * sz' + off, none⟩) (hT.get ht) hcs r1
              simp [execOp, ho, Instr.storeAt, hu, Instr.sureAddr, this]
            rw [hrun]
            have hog : oB (c1.rho j) = some g := by rw [p4]; rfl
            have hE : Ext c1 { c1 with w := w' } := ⟨r5, r6, r7, by simp [r4], fun b _ hm => ⟨hm, r3 b fun e => hm (e ▸ (k3.own j _ g hj rfl hog).1)⟩, Nat.le_refl _, fun _ _ => Nat.le_refl _, fun _ _ _ => rfl, fun _ _ _ h => h⟩
            have hflat : (es.set i (List.take off (es.getD i []) ++ l' ++ List.drop (off + l'.length) (es.getD i []))).flatten = es.flatten.take (i * sz' + off) ++ l' ++ es.flatten.drop (i * sz' + off + l'.length) := flat_set es i off l' h3 (by omega) (by omega)
            have hset := k3.set_ (y := .row rt sz' (es.set i (List.take off (es.getD i []) ++ l' ++ List.drop (off + l'.length) (es.getD i [])))) hj rfl rfl (g := g) hog r3 r4 r5 r6 r7 (by
              refine ⟨by simpa using h1, h2, fun e he => ?_, xs.take (i * sz' + off) ++ (a.eval x).cells.toList ++ xs.drop (i * sz' + off + (a.eval x).cells.toList.length), ?_, ?_, ?_⟩
              · rcases List.mem_or_eq_of_mem_set he with he | rfl
                · exact h3 e he
                · simp only [List.length_append, List.length_take, List.length_drop]; omega
              · have hN : i * sz' + off + (a.eval x).cells.toList.length ≤ es.length * sz' := by omega
                refine ⟨?_,   .inr ⟨g, pp, (cur.toList.take (i * sz' + off) ++ (a.eval x).cells.toList ++ cur.toList.drop (i * sz' + off + (a.eval x).cells.toList.length)).toArray, by simpa using p4, hbg, by rw [Nat.add_zero] at r2; exact r2, by simpa using hnc, hcm, ?_, ?_⟩⟩
                · simp only [List.length_append, List.length_take, List.length_drop, List.length_set]; omega
                · simp only [List.size_toArray, List.length_append, List.length_take, List.length_drop]; omega
                · rw [List.length_set, ← htk]
                  exact take_splice hN (by omega)
              · rw [hflat, hcl']
                exact ((RdL.ext _ hE.closed (h5.take _)).append (RdL.ext _ hE.closed k5)).append (RdL.ext _ hE.closed (h5.drop _))
              · intro u hu
                rcases List.mem_append.1 hu with hu | hu
                · rcases List.mem_append.1 hu with hu | hu
                  · exact h6 u (List.mem_of_mem_take hu)
                  · exact hc2 u hu
                · exact h6 u (List.mem_of_mem_drop hu))
            exact hn _ _ _ _ k1 hset.1 (k4.trans hset.2) (by simp [Rd]) (fun e => by cases e)
          · exact k1.elim
        · exact h.elim
      · exact h.elim
    · exact h.elim
  · rename_i t len ps ho
    split at h
    · rename_i s1 g1 z1 et esz ht
      split at h
      · rename_i sz g2 z d2 het
        split at h
        · rename_i hb
          simp only [Bool.and_eq_true] at hb
          obtain ⟨⟨⟨⟨⟨b1, b2⟩, b3⟩, b4⟩, b5⟩, b6⟩ := hb
          have b1 := Nat.eq_of_beq_eq_true b1
          have b3 := Nat.eq_of_beq_eq_true b3
          have b2 : 0 < sz := by simpa using b2
          have b5 : len * sz ≤ 10000 := Nat.le_of_ble_eq_true b5
          subst b1
          obtain ⟨i1, d1, z1', hp1⟩ := (hT.get ht).parts
          obtain ⟨i2, d2', z2, hp2⟩ := (hT.get het).parts
          have htd := hp1.td
          obtain ⟨e', rfl⟩ : ∃ e, d1 = .slice e := by cases d1 <;> simp [tdOf] at htd; exact ⟨_, rfl⟩
          simp only [tdOf, TD.slice.injEq] at htd
          obtain ⟨rfl, _⟩ := htd
          have hzs : z2.cells.size = sz := by rw [← b3, show z = _ from hp2.zc.symm]; simp
          have hzr : RdL (zrep len z) c ((Array.range (len * sz)).map fun i => z2.cells[i % z2.cells.size]!).toList := by
            have hz2 := zrow (z := z2.cells) (by omega) len
            rw [hzs] at hz2 ⊢
            rw [hz2, hp2.zc]
            exact zrep_rd z len
          obtain ⟨cs', vs', h1, h2, h3, h4⟩ := fill_sound hf (place := fun i => if i < len then some ((0 + i) * sz, sz) else none) (fun i => (rng_get len 0 sz i).symm) hzr h
          have h4' := h4 (by
            have hz2 := zrow (z := z2.cells) (by omega) len
            rw [hzs] at hz2 ⊢
            rw [hz2, hp2.zc]
            intro u hu
            obtain ⟨l, hl, hul⟩ := List.mem_flatten.1 hu
            rw [List.eq_of_mem_replicate hl] at hul
            exact List.all_eq_true.1 b4 u hul)
          simp only at h3
          split at h3
          · have k1 := h3
            obtain ⟨es, e1, e2, e3, k1'⟩ := chunkK_iff k1
            clear k1
            have k9 := snocK_iff k1'
            clear k1'
            rw [Nat.zero_add] at k9
            subst e1
            have hlo : AV.ltL es.flatten H.length = true := by rw [← hs.dom]; exact RdL.lt_dom _ h2
            have hfl : ∀ (l : List (List AV)), (∀ e ∈ l, e.length = sz) → l.flatten.length = l.length * sz := by
              intro l
              induction l with
              | nil => simp
              | cons x l ih => intro h; rw [List.flatten_cons, List.length_append, ih fun e he => h e (by simp [he]), h x (by simp), List.length_cons, Nat.add_mul]; omega
            have hvs : vs'.toList.length = len * sz := by rw [h2.length, hfl es e3, e2]
            have hlen : len ≤ 10000 := Nat.le_trans (Nat.le_mul_of_pos_right len b2) b5
            have hrun : (execOp a.eval o).run P c.w = .ok (.value (.slice (some ⟨c.w.heap.size, 0, none⟩) len len)) (c.w.alloc (.cells vs' e')) := by
              have hsi : i2.size = sz := hp2.size
              have hz0 : ¬ len * sz > 2 ^ 24 := by
                have : (2 : Nat) ^ 24 = 16777216 := rfl
                omega
              have hfill : Instr.fill (fun i => some (i * sz, sz)) ((Array.range (len * sz)).map fun i => z2.cells[i % z2.cells.size]!) (ps.toList.map fun p => (p.1, a.eval p.2)) = some vs' := fill_more h1 fun i x hx => by
                split at hx
                · rw [Nat.zero_add] at hx; exact hx
                · cases hx
              by_cases hl0 : len * sz = 0
              · have hr0 : Array.range 0 = (#[] : Array Nat) := rfl
                rw [hl0, hr0] at hfill
                have hfill' : Instr.fill (fun i => some (i * sz, sz)) #[] (ps.toList.map fun p => (p.1, a.eval p.2)) = some vs' := by simpa using hfill
                simp [hr0, execOp, ho, Instr.buildSlice, run_underlying hp1.und, sizeOf, typeInfo, zeroValue, hp2.info, hp2.zero, hsi, newRow, hl0, hfill']
              · simp [execOp, ho, Instr.buildSlice, run_underlying hp1.und, sizeOf, typeInfo, zeroValue, hp2.info, hp2.zero, hsi, newRow, hz0, hl0, hfill]
            rw [hrun]
            have hB := (Below.refl c.w.heap.size c.w).alloc (Nat.le_refl _) (.cells vs' e')
            have hE : Ext c (c.new (c.w.alloc (.cells vs' e')) (.slice (some ⟨c.w.heap.size, 0, none⟩) len len) es.length) := Ext.new hB fun g hg => by simp [oB] at hg; omega
            have hrow := hs.newrowo hB (t := e') (es := es) (v := .slice (some ⟨c.w.heap.size, 0, none⟩) len len) (xs := vs'.toList) b2 e3 hlo
              ⟨by rw [hvs, e2], .inr ⟨c.w.heap.size, len, vs', by rw [e2], Nat.le_refl _, heap_alloc_new c.w _, by omega, by unfold maxLen; omega, by simpa using hvs, by rw [e2, ← hvs, List.take_length]⟩⟩ h4' (RdL.ext _ hE h2)
            rw [e2] at hrow
            exact hn _ _ _ _ k9 hrow.1 hrow.2.1 hrow.2.2 fun _ => hB.old
          · obtain ⟨l', H', c1, k1, k2, k3, k4, k5, k6, k7, k8⟩ := sealK_sound hs h2 h3
            obtain ⟨es, e1, e2, e3, k1'⟩ := chunkK_iff k1
            clear k1
            have k9 := snocK_iff k1'
            clear k1'
            rw [Nat.zero_add] at k9
            subst e1
            have hfl : ∀ (l : List (List AV)), (∀ e ∈ l, e.length = sz) → l.flatten.length = l.length * sz := by
              intro l
              induction l with
              | nil => simp
              | cons x l ih => intro h; rw [List.flatten_cons, List.length_append, ih fun e he => h e (by simp [he]), h x (by simp), List.length_cons, Nat.add_mul]; omega
            have hvs : vs'.toList.length = len * sz := by rw [k5.length, hfl es e3, e2]
            have hlen : len ≤ 10000 := Nat.le_trans (Nat.le_mul_of_pos_right len b2) b5
            have hrun : (execOp a.eval o).run P c1.w = .ok (.value (.slice (some ⟨c1.w.heap.size, 0, none⟩) len len)) (c1.w.alloc (.cells vs' e')) := by
              have hsi : i2.size = sz := hp2.size
              have hz0 : ¬ len * sz > 2 ^ 24 := by
                have : (2 : Nat) ^ 24 = 16777216 := rfl
                omega
              have hfill : Instr.fill (fun i => some (i * sz, sz)) ((Array.range (len * sz)).map fun i => z2.cells[i % z2.cells.size]!) (ps.toList.map fun p => (p.1, a.eval p.2)) = some vs' := fill_more h1 fun i x hx => by
                split at hx
                · rw [Nat.zero_add] at hx; exact hx
                · cases hx
              by_cases hl0 : len * sz = 0
              · have hr0 : Array.range 0 = (#[] : Array Nat) := rfl
                rw [hl0, hr0] at hfill
                have hfill' : Instr.fill (fun i => some (i * sz, sz)) #[] (ps.toList.map fun p => (p.1, a.eval p.2)) = some vs' := by simpa using hfill
                simp [hr0, execOp, ho, Instr.buildSlice, run_underlying hp1.und, sizeOf, typeInfo, zeroValue, hp2.info, hp2.zero, hsi, newRow, hl0, hfill', k2]
              · simp [execOp, ho, Instr.buildSlice, run_underlying hp1.und, sizeOf, typeInfo, zeroValue, hp2.info, hp2.zero, hsi, newRow, hz0, hl0, hfill, k2]
            rw [← k2, hrun]
            have hB := (Below.refl c1.w.heap.size c1.w).alloc (Nat.le_refl _) (.cells vs' e')
            have hE : Ext c1 (c1.new (c1.w.alloc (.cells vs' e')) (.slice (some ⟨c1.w.heap.size, 0, none⟩) len len) es.length) := Ext.new hB fun g hg => by simp [oB] at hg; omega
            have hrow := k3.newrow hB (t := e') (es := es) (v := .slice (some ⟨c1.w.heap.size, 0, none⟩) len len) (xs := vs'.toList) b2 e3
              ⟨by rw [hvs, e2], .inr ⟨c1.w.heap.size, len, vs', by rw [e2], Nat.le_refl _, heap_alloc_new c1.w _, by omega, by unfold maxLen; omega, by simpa using hvs, by rw [e2, ← hvs, List.take_length]⟩⟩ h4' (RdL.ext _ hE.closed k5)
            rw [e2] at hrow
            exact hn _ _ _ _ k9 hrow.1 (k4.trans hrow.2.1) hrow.2.2 fun _ => by rw [← k2]; exact hB.old
        · exact h.elim
      · exact h.elim
    · exact h.elim
  · rename_i args ts ho
    split at h
    case h_2 => exact h.elim
    rename_i s x hargs
    split at h
    case h_2 => exact h.elim
    rename_i t t' hts
    have e1 : args = #[s, x] := Array.ext' (by simpa using hargs)
    have e2 : ts = #[t, t'] := Array.ext' (by simpa using hts)
    subst e1 e2
    split at h
    case h_2 => exact h.elim
    rename_i s1 g1 z1 et esz ht
    split at h
    case h_2 => exact h.elim
    rename_i sz g2 z d2 het
    split at h
    case h_2 => exact h.elim
    rename_i hb
    simp only [Bool.and_eq_true] at hb
    obtain ⟨⟨⟨b0, b1⟩, b2⟩, b3⟩ := hb
    have b0 := Nat.eq_of_beq_eq_true b0
    have b1 := Nat.eq_of_beq_eq_true b1
    have b2 : 0 < sz := by simpa using b2
    have b3 := Nat.eq_of_beq_eq_true b3
    subst b0 b1
    split at h
    · have hss := srcO_sound hs (hf.ev x) h
      clear h
      obtain ⟨ess, m, mo, h, q1, q2, qo, ad, p, q3, q4⟩ := hss
      have hrunw : ∀ v' w', (Builtin.append_ #[t, t] o.type #[a.eval s, .slice ad m p]).run P c.w = .ok v' w' → (execOp a.eval o).run P c.w = .ok (.value v') w' := by
        intro v' w' hr
        simp [execOp, ho, resolve, invoke, builtin, q3, hr]
      split at h
      case h_2 => exact h.elim
      rename_i j n' hxs
      split at h
      case h_1 => exact h.elim
      rw [hget_eq] at h
      split at h
      case h_2 => exact h.elim
      rename_i rt sz' es mm hj
      split at h
      case h_2 => exact h.elim
      rename_i hb
      simp only [Bool.and_eq_true] at hb
      have c1 := Nat.eq_of_beq_eq_true hb.1
      have c2 := Nat.eq_of_beq_eq_true hb.2
      subst c1 c2
      obtain ⟨⟨hn1, hbd⟩, h⟩ := h
      have h := setK_iff h
      have hv := hf.ev s
      rw [hxs] at hv
      obtain ⟨v', c', r1, r2, r3, r4⟩ := appendO_sound (ty := o.type) hs (hT.get ht) rfl (hT.get het) rfl b2 b3 hj hn1 q1 qo q2 hbd hv q4
      rw [hrunw _ _ r1]
      exact hn _ _ _ _ h r2 r3 r4 (fun e => by cases e)
    have hss := src_sound hs (hf.ev x) h
    clear h
    obtain ⟨ess, m, h, q1, q2, ad, p, q3, q4⟩ := hss
    have hrunw : ∀ v' w', (Builtin.append_ #[t, t] o.type #[a.eval s, .slice ad m p]).run P c.w = .ok v' w' → (execOp a.eval o).run P c.w = .ok (.value v') w' := by
      intro v' w' hr
      simp [execOp, ho, resolve, invoke, builtin, q3, hr]
    split at h
    · rename_i j n' hxs
      split at h
      case h_1 => exact h.elim
      rw [hget_eq] at h
      split at h
      case h_2 => exact h.elim
      rename_i rt sz' es hj
      split at h
      case h_2 => exact h.elim
      rename_i hb
      simp only [Bool.and_eq_true] at hb
      have c1 := Nat.eq_of_beq_eq_true hb.1
      have c2 := Nat.eq_of_beq_eq_true hb.2
      subst c1 c2
      obtain ⟨⟨hn1, hbd⟩, h⟩ := h
      have h := setK_iff h
      have hv := hf.ev s
      rw [hxs] at hv
      obtain ⟨v', c', r1, r2, r3, r4⟩ := append_sound (ty := o.type) hs (hT.get ht) rfl (hT.get het) rfl b2 b3 hj hn1 q1 q2 hbd hv q4
      rw [hrunw _ _ r1]
      exact hn _ _ _ _ h r2 r3 r4 (fun e => by cases e)
    · rename_i hxs
      obtain ⟨hbd, h⟩ := h
      have h := snocK_iff h
      rw [Nat.zero_add] at h
      have hv := hf.ev s
      rw [hxs] at hv
      simp only [Rd] at hv
      rw [hv] at hrunw
      obtain ⟨i1, d1, z1', hp1⟩ := (hT.get ht).parts
      obtain ⟨i2, d2', z2, hp2⟩ := (hT.get het).parts
      have htd := hp1.td
      obtain ⟨e', rfl⟩ : ∃ e, d1 = .slice e := by cases d1 <;> simp [tdOf] at htd; exact ⟨_, rfl⟩
      simp only [tdOf, TD.slice.injEq] at htd
      obtain ⟨rfl, _⟩ := htd
      have hfl : ∀ (l : List (List AV)), (∀ e ∈ l, e.length = sz) → l.flatten.length = l.length * sz := by
        intro l
        induction l with
        | nil => simp
        | cons x l ih => intro h; rw [List.flatten_cons, List.length_append, ih fun e he => h e (by simp [he]), h x (by simp), List.length_cons, Nat.add_mul]; omega
      by_cases hm0 : m = 0
      · subst hm0
        have he0 : ess = [] := List.eq_nil_of_length_eq_zero q1
        subst he0
        have hrun : (Builtin.append_ #[t, t] o.type #[.slice none 0 0, .slice ad 0 p]).run P c.w = .ok (.slice none 0 0) c.w := by
          cases ad <;> simp [Builtin.append_, run_underlying hp1.und, sizeOf, typeInfo, hp2.info, Builtin.lenOf, Builtin.firstCells, loadCells, loadCellsFrom]
        rw [hrunw _ _ hrun]
        have hrow := hs.newrow (Below.refl _ _) (t := e') (es := []) (v := .slice none 0 0) (xs := []) b2 (by simp) (World.ownsRow_nil _ _ _ _) (by simp) (by simp [RdL])
        exact hn _ _ (c.new c.w (.slice none 0 0) 0) _ h hrow.1 hrow.2.1 hrow.2.2 (fun _ => Old.refl _)
      · obtain ⟨b, off, ys, rfl, r1, r2, r3⟩ := q4.resolve_left hm0
        have hyl : ys.length = m * sz := by rw [r1.length, hfl ess q2, q1]
        have hbytes : (0 + m) * i2.bytes ≤ 1000000000 * 1000 := Nat.mul_le_mul (by omega) hp2.bytes
        have hzs : z2.cells.size = sz := by rw [← b3, show z = _ from hp2.zc.symm]; simp
        obtain ⟨v', w', hrun, ho', hgr, _, hat⟩ := run_append_own_at (P := P) c.w c.w.heap.size t o.type e' i2 z2 sz i2.bytes hp1.und hp2.info hp2.zero hp2.size rfl hzs b2
          (.slice none 0 0) 0 [] (World.ownsRow_nil _ _ _ _) ⟨b, off, none⟩ m p ys hyl (fun i u hu => by rw [Addr.add_lit]; exact r3 i u hu) r2 (by unfold maxLen; omega) (by omega) (Nat.le_refl _)
        rw [Nat.zero_add, List.nil_append] at ho'
        rw [hrunw _ _ hrun]
        have hB : Below c.w.heap.size c.w w' := ⟨hgr.os, hgr.tape, hgr.output, hgr.size, fun k hk => hgr.block k hk (by simp [Value.ownBlock])⟩
        have hE : Ext c (c.new w' v' ess.length) := Ext.new hB fun g hg => by
          rcases ho'.2 with ⟨e, _⟩ | ⟨g', cap, cur, e, hbg, _⟩
          · rw [e] at hg; simp [oB] at hg
          · rw [e] at hg; simp [oB] at hg; omega
        subst q1
        have hrow := hs.newrow hB (t := e') (es := ess) (v := v') (xs := ys) b2 q2 ho' r2 (RdL.ext _ hE.closed r1)
        exact hn _ _ _ _ h hrow.1 hrow.2.1 hrow.2.2 (fun _ => hB.old)
    · exact h.elim
  · rename_i f args ts ho
    split at h
    · rename_i g hg
      have h := evs_iff h
      have hgv := hf.ev f
      rw [hg] at hgv
      simp only [Rd] at hgv
      obtain ⟨⟨fn, f1, f2, f3⟩, h⟩ := h
      have hargs : RdL (args.toList.map (ev fr)) c (args.toList.map a.eval) := by
        generalize args.toList = l
        induction l with
        | nil => simp [RdL]
        | cons x l ih => simp only [List.map_cons, RdL]; exact ⟨_, _, rfl, hf.ev x, ih⟩
      have hc := h w0 M0 c _ hs hargs
      have hrun : (execOp a.eval o).run P c.w = .ok (.enter g (args.toList.map a.eval).toArray) c.w := by
        have hm : args.map a.eval = (args.toList.map a.eval).toArray := Array.ext' (by simp)
        have f3' : ¬ fn.name = "runtime.NumGoroutine" := by simpa using f3
        have f2' : ¬ fn.body = none := by intro e; rw [e] at f2; simp at f2
        rw [← hm]
        simp [execOp, ho, resolve, hgv, Deferred.ofValue, invoke, callFunc, f1, f2', f3']
      rw [hrun, Oper.upon_enter]
      refine hc.mono ?_
      rintro e w' ⟨v, c', r, H', rfl, rfl, h1, h2, h3, h4, h5⟩
      exact hn _ _ _ _ h1 h2 h3 h4 h5
    · rename_i g cs hg
      have h := evs_iff h
      have hgv := hf.ev f
      rw [hg] at hgv
      simp only [Rd] at hgv
      obtain ⟨zs, hgv, hzs⟩ := hgv
      obtain ⟨⟨fn, f1, f2, f3⟩, h⟩ := h
      have hargs : RdL (args.toList.map (ev fr)) c (args.toList.map a.eval) := by
        generalize args.toList = l
        induction l with
        | nil => simp [RdL]
        | cons x l ih => simp only [List.map_cons, RdL]; exact ⟨_, _, rfl, hf.ev x, ih⟩
      have hc := h w0 M0 c _ hs (hargs.append hzs)
      have hrun : (execOp a.eval o).run P c.w = .ok (.enter g (args.toList.map a.eval ++ zs).toArray) c.w := by
        have hm : args.map a.eval ++ zs.toArray = (args.toList.map a.eval ++ zs).toArray := Array.ext' (by simp)
        have f3' : ¬ fn.name = "runtime.NumGoroutine" := by simpa using f3
        have f2' : ¬ fn.body = none := by intro e; rw [e] at f2; simp at f2
        rw [← hm]
        simp [execOp, ho, resolve, hgv, Deferred.ofValue, invoke, callFunc, f1, f2', f3']
      rw [hrun, Oper.upon_enter]
      refine hc.mono ?_
      rintro e w' ⟨v, c', r, H', rfl, rfl, h1, h2, h3, h4, h5⟩
      exact hn _ _ _ _ h1 h2 h3 h4 h5
    · exact h.elim
  · rename_i f0 cl ho
    split at h
    · rename_i g
      have h := evs_iff h
      have hargs : RdL (cl.toList.map (ev fr)) c (cl.toList.map a.eval) := by
        generalize cl.toList = l
        induction l with
        | nil => simp [RdL]
        | cons x l ih => simp only [List.map_cons, RdL]; exact ⟨_, _, rfl, hf.ev x, ih⟩
      obtain ⟨l', H2, c2, r1, r2, r3, r4, r5⟩ := capK_sound hs hargs h
      have hrun : (execOp a.eval o).run P c.w = .ok (.value (.func (.func g) #[] (cl.toList.map a.eval).toArray)) c2.w := by
        have hm : cl.map a.eval = (cl.toList.map a.eval).toArray := Array.ext' (by simp)
        rw [← hm, r2]
        simp [execOp, ho, Instr.makeFunc]
      rw [hrun]
      exact hn _ _ _ _ r1 r3 r4 (by simp only [Rd]; exact ⟨_, rfl, r5⟩) (fun _ => by rw [r2]; exact Old.refl _)
    · exact h.elim
  · rename_i t ln cp ho
    split at h
    · rename_i s1 g1 z1 et esz ht
      split at h
      · rename_i sz g2 z d2 het
        split at h
        · rename_i hb0
          simp only [Bool.and_eq_true, Nat.beq_eq, Nat.blt_eq] at hb0
          obtain ⟨⟨⟨rfl, b2⟩, b3⟩, b4⟩ := hb0
          obtain ⟨jl, n, hle, h⟩ := intK_sound (hf.ev ln) h
          obtain ⟨jc, m, hce, ⟨rfl, h0, h1⟩, h⟩ := intK_sound (hf.ev cp) h
          obtain ⟨N, rfl⟩ : ∃ N : Nat, n = N := ⟨n.toNat, by omega⟩
          rw [Int.toNat_natCast] at h
          have h := snocK_iff h
          rw [Nat.zero_add] at h
          obtain ⟨i1, d, z1', hp1⟩ := (hT.get ht).parts
          obtain ⟨i2, d2', z2, hp2⟩ := (hT.get het).parts
          have htd := hp1.td
          obtain ⟨e', rfl⟩ : ∃ e, d = .slice e := by cases d <;> simp [tdOf] at htd; exact ⟨_, rfl⟩
          simp only [tdOf, TD.slice.injEq] at htd
          obtain ⟨rfl, _⟩ := htd
          have hby : i2.bytes * N ≤ 1000 * 1000000000 := Nat.mul_le_mul hp2.bytes (by omega)
          obtain ⟨w', hrun, ho', hgr⟩ := run_make_full (P := P) c.w c.w.heap.size t e' i2 z2 sz hp1.und hp2.info hp2.zero hp2.size jl jc N (by omega) (by unfold maxLen; omega) (Nat.le_refl _)
          have hzc : z2.cells.toList = z := hp2.zc
          have hz2 : z2.cells.size = sz := by rw [← b3, ← hzc]; simp
          have hxs : (madeCells z2.cells (N * sz)).toList = (List.replicate N z).flatten := by
            have := zrow (z := z2.cells) (by omega) N
            rw [hz2] at this
            rw [← hzc]
            simp only [madeCells, hz2]
            exact this
          rw [hxs] at ho'
          have hB : Below c.w.heap.size c.w w' := ⟨hgr.os, hgr.tape, hgr.output, hgr.size, fun k hk => hgr.block k hk (by simp)⟩
          have hrl : ∀ (c : Ctx) (N : Nat), RdL (List.replicate N (z.map AV.v)).flatten c (List.replicate N z).flatten := by
            intro c N
            induction N with
            | zero => simp [RdL]
            | succ N ih => rw [List.replicate_succ, List.replicate_succ, List.flatten_cons, List.flatten_cons]; exact (zero_rd z).append ih
          have hlen : (List.replicate N (z.map AV.v)).length = N := by simp
          have hrow := hs.newrow hB (t := e') (es := List.replicate N (z.map AV.v)) (v := .slice (some ⟨c.w.heap.size, 0, none⟩) N N) (xs := (List.replicate N z).flatten) b2 (fun e he => by rw [List.eq_of_mem_replicate he]; simpa using b3) (by rw [hlen]; exact ho') (fun u hu => by
            obtain ⟨l, hl, hu⟩ := List.mem_flatten.1 hu
            rw [List.eq_of_mem_replicate hl] at hu
            exact List.all_eq_true.1 b4 u hu) (hrl _ N)
          rw [hlen] at hrow
          have hrun' : (execOp a.eval o).run P c.w = .ok (.value (.slice (some ⟨c.w.heap.size, 0, none⟩) N N)) w' := by
            simp [execOp, ho, hle, hce, hrun]
          rw [hrun']
          exact hn _ _ _ _ h hrow.1 hrow.2.1 hrow.2.2 (fun _ => hB.old)
        · exact h.elim
      · exact h.elim
    · exact h.elim
  · rename_i t x ho
    split at h
    · rename_i ht
      obtain ⟨i1, d, z, hp⟩ := (hT.get ht).parts
      have htd := hp.td
      obtain rfl : d = .string := by cases d <;> simp [tdOf] at htd; rfl
      have hr := hf.ev x
      split at h
      · rename_i s hx
        rw [hx] at hr
        simp only [Rd] at hr
        have h := snocK_iff h
        rw [Nat.zero_add] at h
        have hB : Below c.w.heap.size c.w (c.w.iter s 0) := (Below.refl c.w.heap.size c.w).alloc (Nat.le_refl _) _
        have hp2 := hs.push hB (v := .pointer (some ⟨c.w.heap.size, 0, none⟩)) (n := 0) (x := .iter s 0) (fun g hg => by
          simp only [oB, Option.some.injEq] at hg; subst hg; exact ⟨Nat.le_refl _, by simp [World.iter]⟩) ⟨c.w.heap.size, by simp [Ctx.new], World.iter_heap c.w s 0⟩
        have hrun : (execOp a.eval o).run P c.w = .ok (.value (.pointer (some ⟨c.w.heap.size, 0, none⟩))) (c.w.iter s 0) := by
          simp [execOp, ho, hr, run_range_string c.w t s hp.und]
        rw [hrun]
        refine hn _ _ _ _ h hp2.1 hp2.2 ?_ (fun _ => hB.old)
        simp only [Rd]
        rw [← hs.dom]
        exact ⟨by simp [Ctx.new], c.w.heap.size, by simp [Ctx.new], rfl⟩
      · exact h.elim
    · exact h.elim
  · rename_i x b ho
    split at h
    · split at h
      · exact h.elim
      · have hr := hf.ev x
        split at h
        · rename_i j off hx
          rw [hx] at hr
          split at h
          · rename_i hoff
            have := Nat.eq_of_beq_eq_true hoff
            subst this
            rw [hget_eq] at h
            split at h
            · rename_i s pos hj
              obtain ⟨h1, h2⟩ := boolK_iff h
              obtain ⟨g, q1, q2⟩ := hs.blk j _ hj
              simp only [Rd] at hr
              obtain ⟨_, g', q3, q4⟩ := hr
              rw [q1] at q3
              simp only [Value.pointer.injEq, Option.some.injEq, Addr.mk.injEq, and_true] at q3
              subst q3
              by_cases hps : pos < s.size
              · have h := setK_iff (h1 (by simpa using hps))
                let w' : World := { c.w with heap := c.w.heap.setIfInBounds g (.stringIter s (pos + (Utf8.decode s pos).2)) }
                have hglt : g < c.w.heap.size := hs.sub hj rfl (by rw [q1]; rfl)
                have hset := hs.set_ (y := .iter s (pos + (Utf8.decode s pos).2)) hj rfl rfl (g := g) (by rw [q1]; rfl) (w' := w') (fun b hb => by simp only [w']; rw [Array.getElem?_setIfInBounds_ne (Ne.symm hb)]) (by simp [w']) rfl rfl rfl ⟨g, q1, by simp only [w']; rw [Array.getElem?_setIfInBounds_self_of_lt hglt]⟩
                have hrun : (execOp a.eval o).run P c.w = .ok (.value (.tuple #[.bool true, .int .i64 pos, .int .i32 (Utf8.decode s pos).1])) w' := by
                  simp [execOp, ho, q4, Instr.next, getObj, setObj, Sem.run, q2, hps, goInt, w']
                rw [hrun]
                refine hn _ _ _ _ h hset.1 hset.2 ?_ (fun e => by cases e)
                simp only [Rd, RdL]
                exact ⟨_, rfl, _, _, rfl, rfl, _, _, rfl, rfl, _, _, rfl, rfl, rfl⟩
              · have h := h2 (by simpa using hps)
                have hrun : (execOp a.eval o).run P c.w = .ok (.value (.tuple #[.bool false])) c.w := by
                  simp [execOp, ho, q4, Instr.next, getObj, Sem.run, q2, hps]
                rw [hrun]
                refine hn _ _ _ _ h hs (Ext.refl _) ?_ (fun e => by cases e)
                simp only [Rd, RdL]
                exact ⟨_, rfl, _, _, rfl, rfl, rfl⟩
            · exact h.elim
          · exact h.elim
        · exact h.elim
    · exact h.elim
  · exact h.elim
end Go.Proofs.Ytjcboeldmgmfcaa.A
end

/-
Statements, loops, functions in the abstract.
-/
section
namespace Go.Proofs.Ytjcboeldmgmfcaa.A
open Go.RowKit

inductive EX where
  | normal
  | exit (id : Nat)
  | ret
abbrev QA := EX → Fr → List AB → Prop

def isEff : Op → Bool
  | .alloc _ | .box _ _ | .store _ _ _ | .buildSlice _ _ _ | .makeSlice _ _ _ | .range _ _ | .next _ _ => true
  | .makeFunc _ _ ⟨_ :: _⟩ => true
  | .call ⟨.builtin .append, _, _⟩ => true
  | .call ⟨.value _, _, _⟩ => true
  | _ => false
def putK (n : Nat) (d : Option Nat) (r : AV) (fr : Fr) (K : Fr → Prop) : Prop :=
  match d with
  | none => K fr
  | some d => match Nat.blt d n with | true => K ((d, r) :: fr) | false => False
def stepK (P : Program) (T : Tys) (n : Nat) (q : Bool) (o : Oper) (fr : Fr) (H : List AB) (K : Fr → List AB → Prop) : Prop :=
  match isEff o.op with
  | false => det T o.op (ev fr) H fun r => putK n o.dst r fr fun fr => K fr H
  | true => eff P T q o.op (ev fr) H fun r H => putK n o.dst r fr fun fr => K fr H
def guardK (ops : List Oper) (o : Oper) (fr : Fr) (run skip : Fr → Prop) : Prop :=
  match o.guard with
  | none => run fr
  | some (j, want) => match lget ops j with
    | some oj => match oj.dst with
      | some d => match fget fr d with
        | .v (.bool t) => match want with
          | true => boolK t (run ((d, .v (.bool true)) :: fr)) (skip ((d, .v (.bool false)) :: fr))
          | false => boolK t (skip ((d, .v (.bool true)) :: fr)) (run ((d, .v (.bool false)) :: fr))
        | .v (.tuple _) => skip fr
        | _ => False
      | none => False
    | none => False
def opsK (P : Program) (T : Tys) (n : Nat) (ops : List Oper) : List Oper → Fr → List AB → (Fr → List AB → Prop) → Prop
  | [], fr, H, K => K fr H
  | o :: r, fr, H, K => guardK ops o fr (fun fr => stepK P T n false o fr H fun fr H => opsK P T n ops r fr H K) fun fr => putK n o.dst (.v undef) fr fun fr => opsK P T n ops r fr H K
/-- A frame of which less is known, blocks that are given up. -/
def wkF : Fr → Fr → Prop
  | [], _ => True
  | (i, x) :: r, fr => fget fr i = x ∧ wkF r fr
def wkH : List AB → List AB → Prop
  | [], _ => True
  | .dead :: r, _ :: s => wkH r s
  | x :: r, y :: s => x = y ∧ wkH r s
  | _ :: _, [] => False
def okF (n : Nat) : Fr → Bool
  | [] => true
  | (_, x) :: r => x.lt n && okF n r
def okH (n : Nat) : List AB → Bool
  | [] => true
  | .box _ cs :: r => AV.ltL cs n && okH n r
  | .rowo _ _ _ m :: r => Nat.ble m n && okH n r
  | _ :: r => okH n r
/-- A block's cell, and a block with a cell anew. -/
def cellAt : List AB → Nat → Nat → Option AV
  | .box _ cs :: _, 0, j => lget cs j
  | _ :: r, k + 1, j => cellAt r k j
  | _, _, _ => none
def lset : List AV → Nat → AV → List AV
  | _ :: r, 0, y => y :: r
  | x :: r, j + 1, y => x :: lset r j y
  | [], _, _ => []
def setCellK : List AB → Nat → Nat → AV → List AB
  | .box t cs :: r, 0, j, x => .box t (lset cs j x) :: r
  | y :: r, 0, _, _ => y :: r
  | y :: r, k + 1, j, x => y :: setCellK r k j x
  | [], _, _, _ => []
/-- Slices that are nil yet are taken for own rows that are empty (a slot; or, from 1000000 on, a cell: 1000 times the block's number and the cell's). -/
def gF : List (Nat × Nat × Nat) → Fr → Nat → Fr
  | [], fr, _ => fr
  | (s, _, _) :: r, fr, n => gF r (match Nat.blt s 1000000 with | true => (s, .ow n 0) :: fr | false => fr) (n + 1)
def gH : List (Nat × Nat × Nat) → List AB → List AB
  | [], H => H
  | (s, t, sz) :: r, H => gH r ((match Nat.blt s 1000000 with | true => H | false => setCellK H ((s - 1000000) / 1000) ((s - 1000000) % 1000) (.ow H.length 0)) ++ [.row t sz []])
def gOk : List (Nat × Nat × Nat) → Fr → List AB → Prop
  | [], _, _ => True
  | (s, t, sz) :: r, fr, H => (match Nat.blt s 1000000 with | true => fget fr s = .v (.slice none 0 0) | false => cellAt H ((s - 1000000) / 1000) ((s - 1000000) % 1000) = some (.v (.slice none 0 0))) ∧ Nat.blt 0 sz = true ∧
    gOk r (match Nat.blt s 1000000 with | true => (s, .ow H.length 0) :: fr | false => fr) ((match Nat.blt s 1000000 with | true => H | false => setCellK H ((s - 1000000) / 1000) ((s - 1000000) % 1000) (.ow H.length 0)) ++ [.row t sz []])
structure WkG (gs : List (Nat × Nat × Nat)) (d0 : Nat) (fr : Fr) (H : List AB) (fr2 : Fr) (H2 : List AB) : Prop where
  g : gOk gs fr H
  f : wkF fr2 (gF gs fr H.length)
  h : wkH H2 (gH gs H)
  nf : okF H2.length fr2 = true
  nh : okH H2.length H2 = true
  d : Nat.ble d0 H2.length = true
def Wk (d0 : Nat) (fr : Fr) (H : List AB) (fr2 : Fr) (H2 : List AB) : Prop := ∃ gs, WkG gs d0 fr H fr2 H2
theorem Wk.plain {d0 : Nat} {fr : Fr} {H : List AB} {fr2 : Fr} {H2 : List AB} (h1 : wkF fr2 fr) (h2 : wkH H2 H) (h3 : okF H2.length fr2 = true) (h4 : okH H2.length H2 = true) (h5 : Nat.ble d0 H2.length = true) : Wk d0 fr H fr2 H2 := ⟨[], trivial, h1, h2, h3, h4, h5⟩
/-- Another saying of the same memory. -/
def ConvH (H H' : List AB) : Prop := ∀ (w0 : Fl) (M0 : Ms) (c : Ctx), HS w0 M0 c H → ∃ c', c'.w = c.w ∧ HS w0 M0 c' H' ∧ Ext c c'
theorem ConvH.refl (H : List AB) : ConvH H H := fun _ _ c h => ⟨c, rfl, h, Ext.refl c⟩
theorem ConvH.trans {H H1 H2 : List AB} (h : ConvH H H1) (k : ConvH H1 H2) : ConvH H H2 := fun w0 M0 c hs => by
  obtain ⟨c1, e1, s1, x1⟩ := h w0 M0 c hs
  obtain ⟨c2, e2, s2, x2⟩ := k w0 M0 c1 s1
  exact ⟨c2, e2.trans e1, s2, x1.trans x2⟩
/-- As wkH; an own row may be taken for one that may hold own rows. -/
def wkO : List AB → List AB → Prop
  | [], _ => True
  | .dead :: r, _ :: s => wkO r s
  | .rowo t sz es m :: r, y :: s => match y with
    | .row t' sz' es' => ((t = t' ∧ sz = sz') ∧ es = es') ∧ wkO r s
    | y => .rowo t sz es m = y ∧ wkO r s
  | x :: r, y :: s => x = y ∧ wkO r s
  | _ :: _, [] => False
theorem wkH_o : ∀ {H2 H : List AB}, wkH H2 H → wkO H2 H
  | [], _, _ => trivial
  | x :: r, [], h => by cases x <;> simp [wkH] at h
  | x :: r, y :: s, h => by
    cases x with
    | dead => simp only [wkH] at h; exact (wkH_o (H2 := r) (H := s) h : wkO r s)
    | rowo t sz es m => simp only [wkH] at h; obtain ⟨rfl, h⟩ := h; exact ⟨rfl, wkH_o h⟩
    | box t cs => simp only [wkH] at h; exact ⟨h.1, wkH_o h.2⟩
    | row t sz es => simp only [wkH] at h; exact ⟨h.1, wkH_o h.2⟩
    | iter a b => simp only [wkH] at h; exact ⟨h.1, wkH_o h.2⟩
structure WkGC (gs : List (Nat × Nat × Nat)) (d0 : Nat) (fr : Fr) (H : List AB) (fr2 : Fr) (H2 : List AB) : Prop where
  g : gOk gs fr H
  f : wkF fr2 (gF gs fr H.length)
  h : wkO H2 (gH gs H)
  nf : okF H2.length fr2 = true
  nh : okH H2.length H2 = true
  d : Nat.ble d0 H2.length = true
def WkC (d0 : Nat) (fr : Fr) (H : List AB) (fr2 : Fr) (H2 : List AB) : Prop := ∃ Hc, ConvH H Hc ∧ ∃ gs, WkGC gs d0 fr Hc fr2 H2
theorem Wk.conv {d0 : Nat} {fr : Fr} {H : List AB} {fr2 : Fr} {H2 : List AB} (h : Wk d0 fr H fr2 H2) : WkC d0 fr H fr2 H2 := by
  obtain ⟨gs, h1, h2, h3, h4, h5, h6⟩ := h
  exact ⟨H, ConvH.refl H, gs, h1, h2, wkH_o h3, h4, h5, h6⟩
theorem wkO_conv : ∀ {H2 H P : List AB}, wkO H2 H → ∃ H1, ConvH (P ++ H) (P ++ H1) ∧ wkH H2 H1 ∧ H1.length = H.length
  | [], H, P, _ => ⟨H, ConvH.refl _, trivial, rfl⟩
  | x :: r, [], P, h => by cases x <;> simp [wkO] at h
  | x :: r, y :: s, P, h => by
    have step : ∀ y', wkO r s → ConvH (P ++ y :: s) (P ++ y' :: s) → (∀ H1, wkH r H1 → wkH (x :: r) (y' :: H1)) → ∃ H1, ConvH (P ++ y :: s) (P ++ H1) ∧ wkH (x :: r) H1 ∧ H1.length = (y :: s).length := by
      intro y' h1 h2 h3
      obtain ⟨H1, q1, q2, q3⟩ := wkO_conv (P := P ++ [y']) h1
      simp only [List.append_assoc, List.cons_append, List.nil_append] at q1
      exact ⟨y' :: H1, h2.trans q1, h3 H1 q2, by simp [q3]⟩
    cases x with
    | dead => simp only [wkO] at h; exact step y h (ConvH.refl _) fun H1 q => q
    | box t cs => simp only [wkO] at h; exact step y h.2 (ConvH.refl _) fun H1 q => ⟨h.1, q⟩
    | row t sz es => simp only [wkO] at h; exact step y h.2 (ConvH.refl _) fun H1 q => ⟨h.1, q⟩
    | iter a b => simp only [wkO] at h; exact step y h.2 (ConvH.refl _) fun H1 q => ⟨h.1, q⟩
    | rowo t sz es m =>
      cases y with
      | row t' sz' es' =>
        simp only [wkO] at h
        obtain ⟨⟨⟨rfl, rfl⟩, rfl⟩, h⟩ := h
        refine step (.rowo t sz es m) h (fun w0 M0 c hs => ?_) fun H1 q => ⟨rfl, q⟩
        have hk : (P ++ .row t sz es :: s)[P.length]? = some (.row t sz es) := by simp
        have := hs.recell (y := .rowo t sz es m) hk rfl fun ⟨h1, h2, h3, xs, h4, h5, h6⟩ => ⟨h1, h2, h3, ltL_iff.2 fun z hz => AV.lt_mono z (Nat.zero_le _) (ltL_iff.1 (RdL.lt_dom _ h5) z hz), xs, h4, RdL.ext _ (Ext.ofClosed c) h5, h6⟩
        rw [show (P ++ .row t sz es :: s).set P.length (.rowo t sz es m) = P ++ .rowo t sz es m :: s by simp] at this
        exact ⟨c, rfl, this, Ext.refl c⟩
      | dead => simp only [wkO] at h; exact step _ h.2 (ConvH.refl _) fun H1 q => ⟨h.1, q⟩
      | box a b => simp only [wkO] at h; exact step _ h.2 (ConvH.refl _) fun H1 q => ⟨h.1, q⟩
      | iter a b => simp only [wkO] at h; exact step _ h.2 (ConvH.refl _) fun H1 q => ⟨h.1, q⟩
      | rowo a b c d => simp only [wkO] at h; exact step _ h.2 (ConvH.refl _) fun H1 q => ⟨h.1, q⟩
def EX.then (next : Fr → List AB → Prop) (Q : QA) : QA := fun ex fr H => match ex with | .normal => next fr H | e => Q e fr H
/-- A loop gone through round by round, at most so many. -/
def rndK (body : QA → Fr → List AB → Prop) (Q : QA) : Nat → Fr → List AB → Prop
  | 0, _, _ => False
  | n + 1, fr, H => body (EX.then (fun fr H => rndK body Q n fr H) Q) fr H
structure aLoop (d0 : Nat) (body : QA → Fr → List AB → Prop) (Q : QA) (fr : Fr) (H : List AB) : Prop where
  ex : (∃ n, rndK body Q n fr H) ∨ (∃ (ι : Type) (st : ι → Fr × List AB) (I : ι → Prop) (μ : ι → Nat), (∃ x, I x ∧ Wk d0 fr H (st x).1 (st x).2) ∧
    ∀ x, I x → body (fun ex fr' H' => match ex with | .normal => ∃ x', I x' ∧ μ x' < μ x ∧ Wk d0 fr' H' (st x').1 (st x').2 | e => Q e fr' H') (st x).1 (st x).2)
  ∨ ∃ (ι : Type) (st : ι → Fr × List AB) (I : ι → Prop) (μ : ι → Nat), (∃ x, I x ∧ WkC d0 fr H (st x).1 (st x).2) ∧
    ∀ x, I x → body (fun ex fr' H' => match ex with | .normal => ∃ x', I x' ∧ μ x' < μ x ∧ WkC d0 fr' H' (st x').1 (st x').2 | e => Q e fr' H') (st x).1 (st x).2
theorem aLoop.rounds {d0 : Nat} {body : QA → Fr → List AB → Prop} {Q : QA} {fr : Fr} {H : List AB} (n : Nat) (h : rndK body Q n fr H) : aLoop d0 body Q fr H := ⟨.inl ⟨n, h⟩⟩
def EX.inBlock (id : Nat) (Q : QA) : QA := fun ex fr H => match ex with
  | .exit i => match Nat.beq i id with | true => Q .normal fr H | false => Q (.exit i) fr H
  | e => Q e fr H
/-- A region whose order is open, in the abstract (it is dealt with by a law of its own). -/
structure aDraw (P : Program) (T : Tys) (n d0 : Nat) (id : Nat) (ops : Array Oper) (K : Fr → List AB → Prop) (fr : Fr) (H : List AB) : Prop where
  wp : ∀ (w0 : Fl) (M0 : Ms) (ce c : Ctx) (a : Act), HS w0 M0 c H → FR w0 c n fr a → Ext ce c → ce.dom = d0 →
    ∀ Q : Exit → Act → World → Prop, (∀ c' fr' H' a', K fr' H' → HS w0 M0 c' H' → FR w0 c' n fr' a' → Ext ce c' → Q .normal a' c'.w) → (Code.region id ops true).wp P Q a c.w
def EX.up : EX → Exit
  | .normal => .normal
  | .exit id => .exit id
  | .ret => .ret
/-- A loop over a function, in the abstract (it is dealt with by a law of its own). -/
structure aRF (P : Program) (T : Tys) (n d0 : Nat) (g : Operand) (ps : Array Tmp) (asg body : Code) (Q : QA) (fr : Fr) (H : List AB) : Prop where
  wp : ∀ (w0 : Fl) (M0 : Ms) (ce c : Ctx) (a : Act), HS w0 M0 c H → FR w0 c n fr a → Ext ce c → ce.dom = d0 →
    ∀ Q' : Exit → Act → World → Prop, (∀ ex c' fr' H' a', Q ex fr' H' → HS w0 M0 c' H' → FR w0 c' n fr' a' → Ext ce c' → Q' ex.up a' c'.w) → (Code.rangeFunc g ps asg body).wp P Q' a c.w
/-- May a statement end by coming to its end? Do ways meet behind it? -/
def falls : Code → Bool
  | .exit _ | .ret => false
  | .seq a b => falls a && falls b
  | .cond _ a b => falls a || falls b
  | _ => true
def meets : Code → Bool
  | .cond _ a b => (falls a && falls b) || meets a || meets b
  | .seq a b => meets a || meets b
  | .block _ c => meets c
  | _ => false
/-- A statement behind which ways meet: it is gone through as it stands, or what it leaves is said once. -/
structure aSeq (d0 : Nat) (body : QA → Prop) (next : Fr → List AB → Prop) (Q : QA) : Prop where
  ex : body (EX.then next Q) ∨ (∃ (ι : Type) (st : ι → Fr × List AB) (I : ι → Prop), body (EX.then (fun fr' H' => ∃ x, I x ∧ Wk d0 fr' H' (st x).1 (st x).2) Q) ∧ ∀ x, I x → next (st x).1 (st x).2)
    ∨ ∃ (ι : Type) (st : ι → Fr × List AB) (I : ι → Prop), body (EX.then (fun fr' H' => ∃ x, I x ∧ WkC d0 fr' H' (st x).1 (st x).2) Q) ∧ ∀ x, I x → next (st x).1 (st x).2
theorem aSeq.go {d0 : Nat} {body : QA → Prop} {next : Fr → List AB → Prop} {Q : QA} (h : body (EX.then next Q)) : aSeq d0 body next Q := ⟨.inl h⟩
theorem aSeq.cut {d0 : Nat} {body : QA → Prop} {next : Fr → List AB → Prop} {Q : QA} (ι : Type) (st : ι → Fr × List AB) (I : ι → Prop) (h : body (EX.then (fun fr' H' => ∃ x, I x ∧ Wk d0 fr' H' (st x).1 (st x).2) Q)) (k : ∀ x, I x → next (st x).1 (st x).2) : aSeq d0 body next Q := ⟨.inr (.inl ⟨ι, st, I, h, k⟩)⟩
theorem aSeq.cutC {d0 : Nat} {body : QA → Prop} {next : Fr → List AB → Prop} {Q : QA} (ι : Type) (st : ι → Fr × List AB) (I : ι → Prop) (h : body (EX.then (fun fr' H' => ∃ x, I x ∧ WkC d0 fr' H' (st x).1 (st x).2) Q)) (k : ∀ x, I x → next (st x).1 (st x).2) : aSeq d0 body next Q := ⟨.inr (.inr ⟨ι, st, I, h, k⟩)⟩
def aCode (P : Program) (T : Tys) (n d0 : Nat) : Code → QA → Fr → List AB → Prop
  | .skip, Q, fr, H => Q .normal fr H
  | .region id ops draw, Q, fr, H => match draw with
    | false => opsK P T n ops.toList ops.toList fr H (Q .normal)
    | true => aDraw P T n d0 id ops (Q .normal) fr H
  | .seq a b, Q, fr, H => match meets a with
    | true => aSeq d0 (fun Q => aCode P T n d0 a Q fr H) (fun fr H => aCode P T n d0 b Q fr H) Q
    | false => aCode P T n d0 a (EX.then (fun fr H => aCode P T n d0 b Q fr H) Q) fr H
  | .cond c a b, Q, fr, H => match ev fr c with
    | .v (.bool t) => boolK t (aCode P T n d0 a Q fr H) (aCode P T n d0 b Q fr H)
    | _ => False
  | .block id c, Q, fr, H => aCode P T n d0 c (EX.inBlock id Q) fr H
  | .loop c, Q, fr, H => aLoop d0 (fun Q fr H => aCode P T n d0 c Q fr H) Q fr H
  | .exit id, Q, fr, H => Q (.exit id) fr H
  | .ret, Q, fr, H => Q .ret fr H
  | .rangeFunc g ps asg body, Q, fr, H => aRF P T n d0 g ps asg body Q fr H
  | _, _, _, _ => False

section
variable {P : Program} {T : Tys} {w0 : Fl} {M0 : Ms} {n d0 : Nat} {ce : Ctx}
/-- What is known behind a statement. -/
def Lift (w0 : Fl) (M0 : Ms) (ce : Ctx) (n : Nat) (K : Fr → List AB → Prop) (a : Act) (w : World) : Prop :=
  ∃ c fr H, c.w = w ∧ K fr H ∧ HS w0 M0 c H ∧ FR w0 c n fr a ∧ Ext ce c
def LiftQ (w0 : Fl) (M0 : Ms) (ce : Ctx) (n : Nat) (Q : QA) : Exit → Act → World → Prop
  | .normal, a, w => Lift w0 M0 ce n (Q .normal) a w
  | .exit id, a, w => Lift w0 M0 ce n (Q (.exit id)) a w
  | .ret, a, w => Lift w0 M0 ce n (Q .ret) a w
  | _, _, _ => False

theorem putK_sound {c : Ctx} {fr : Fr} {a : Act} (hf : FR w0 c n fr a) {d : Option Nat} {r : AV} {v : Value} (hr : Rd r c v) {K : Fr → Prop} (h : putK n d r fr K) : ∃ fr', K fr' ∧ FR w0 c n fr' (a.put d v) := by
  unfold putK at h
  split at h
  · exact ⟨fr, h, hf.none⟩
  · split at h
    · rename_i hb
      exact ⟨_, h, hf.put (by simpa using hb) hr⟩
    · exact h.elim
theorem stepK_sound (hT : TOk P T) {c : Ctx} {H : List AB} (hs : HS w0 M0 c H) {fr : Fr} {a : Act} (hf : FR w0 c n fr a) (he : Ext ce c) {q : Bool} {o : Oper} {K : Fr → List AB → Prop} (h : stepK P T n q o fr H K)
    {next : Act → World → Prop} {Q : Exit → Act → World → Prop} (hn : ∀ a w, Lift w0 M0 ce n K a w → (q = true → Old c.w w) → next a w) : o.wp P a c.w next Q := by
  unfold stepK at h
  split at h
  · obtain ⟨r, v, h1, h2, h3⟩ := (det_sound hT hs hf h).y
    obtain ⟨fr', h4, h5⟩ := putK_sound hf h3 h1
    unfold Oper.wp
    rw [h2 c.w (Old.refl _), Oper.upon_value]
    exact hn _ _ ⟨c, fr', H, rfl, h4, hs, h5, he⟩ fun _ => Old.refl _
  · refine eff_sound hT hs hf h fun r H' c' v h1 h2 h3 h4 hold => ?_
    obtain ⟨fr', h5, h6⟩ := putK_sound (hf.ext h3) h4 h1
    exact hn _ _ ⟨c', fr', H', rfl, h5, h2, h6, he.trans h3⟩ hold
theorem FR.lit {c : Ctx} {fr : Fr} {a : Act} (hf : FR w0 c n fr a) {d : Nat} {t : Bool} (h : fget fr d = .v (.bool t)) : FR w0 c n ((d, .v (.bool t)) :: fr) a := by
  refine ⟨hf.size, hf.defers, fun i => ?_⟩
  unfold fget
  cases hb : Nat.beq d i with
  | true => have := Nat.eq_of_beq_eq_true hb; subst this; have := hf.get d; rw [h] at this; exact this
  | false => exact hf.get i
theorem opsK_sound (hT : TOk P T) {ops : Array Oper} {K : Fr → List AB → Prop} {Q : Exit → Act → World → Prop} (hq : ∀ a w, Lift w0 M0 ce n K a w → Q .normal a w) :
    ∀ (l : List Oper) (c : Ctx) (fr : Fr) (H : List AB) (a : Act), HS w0 M0 c H → FR w0 c n fr a → Ext ce c → opsK P T n ops.toList l fr H K → wpList P ops Q l a c.w
  | [], c, fr, H, a, hs, hf, he, h => hq _ _ ⟨c, fr, H, rfl, h, hs, hf, he⟩
  | o :: l, c, fr, H, a, hs, hf, he, h => by
    simp only [opsK] at h
    have run : ∀ fr, FR w0 c n fr a → Region.wanted o (yielded ops a.tmps) = true → stepK P T n false o fr H (fun fr H => opsK P T n ops.toList l fr H K) → wpList P ops Q (o :: l) a c.w := by
      intro fr hf hw h
      unfold wpList
      rw [if_pos hw]
      refine .inl (stepK_sound hT hs hf he h ?_)
      rintro a' w' ⟨c', fr', H', rfl, h1, h2, h3, h4⟩ -
      exact opsK_sound hT hq l c' fr' H' a' h2 h3 h4 h1
    have skip : ∀ fr, FR w0 c n fr a → Region.wanted o (yielded ops a.tmps) = false → putK n o.dst (.v undef) fr (fun fr => opsK P T n ops.toList l fr H K) → wpList P ops Q (o :: l) a c.w := by
      intro fr hf hw h
      unfold wpList
      rw [if_neg (by rw [hw]; simp)]
      obtain ⟨fr', h1, h2⟩ := putK_sound (v := undef) hf (by simp [Rd]) h
      exact opsK_sound hT hq l c fr' H _ hs h2 he h1
    unfold guardK at h
    split at h
    · rename_i hg
      exact run fr hf (by simp [Region.wanted, hg]) h
    · rename_i j want hg
      rw [lget_eq] at h
      split at h
      · rename_i oj hj
        have hj' : ops[j]? = some oj := by simpa using hj
        split at h
        · rename_i d hd
          have hgd := hf.get d
          split at h
          · rename_i t ht
            rw [ht] at hgd
            simp only [Rd] at hgd
            have hy : yielded ops a.tmps j = some t := by
              unfold yielded
              simp only [hj', Option.bind_some, hd]
              have : a.tmps[d]? = some (.bool t) := by
                rw [Array.getD_eq_getD_getElem?] at hgd
                cases hq : a.tmps[d]? with
                | none => rw [hq] at hgd; simp [undef] at hgd
                | some x => rw [hq] at hgd; simp at hgd; rw [hgd]
              rw [this]
            have hl := hf.lit ht
            split at h
            · obtain ⟨h1, h2⟩ := boolK_iff h
              cases t with
              | true => exact run _ hl (by simp [Region.wanted, hg, hy]) (h1 rfl)
              | false => exact skip _ hl (by simp [Region.wanted, hg, hy]) (h2 rfl)
            · obtain ⟨h1, h2⟩ := boolK_iff h
              cases t with
              | true => exact skip _ hl (by simp [Region.wanted, hg, hy]) (h1 rfl)
              | false => exact run _ hl (by simp [Region.wanted, hg, hy]) (h2 rfl)
          · rename_i vs ht
            rw [ht] at hgd
            simp only [Rd] at hgd
            refine skip fr hf ?_ h
            have hy : yielded ops a.tmps j = none := by
              unfold yielded
              simp only [hj', Option.bind_some, hd]
              rw [Array.getD_eq_getD_getElem?] at hgd
              cases hq : a.tmps[d]? with
              | none => rfl
              | some x => rw [hq] at hgd; simp at hgd; rw [hgd]
            simp [Region.wanted, hg, hy]
          · exact h.elim
        · exact h.elim
      · exact h.elim
theorem wkF_get {fr : Fr} : ∀ {fr2 : Fr}, wkF fr2 fr → ∀ i, fget fr2 i = .top ∨ fget fr2 i = fget fr i
  | [], _, i => .inl rfl
  | (j, x) :: r, h, i => by
    have e : fget ((j, x) :: r) i = bif Nat.beq j i then x else fget r i := rfl
    rw [e]
    cases hb : Nat.beq j i with
    | true => have := Nat.eq_of_beq_eq_true hb; subst this; exact .inr h.1.symm
    | false => exact wkF_get h.2 i
theorem wkH_get : ∀ {H2 H : List AB}, wkH H2 H → ∀ (k : Nat) (x : AB), H2[k]? = some x → x.live = true → H[k]? = some x
  | [], _, _, k, x, h, _ => by simp at h
  | y :: r, [], h, _, _, _, _ => by cases y <;> simp [wkH] at h
  | y :: r, z :: s, h, k, x, hk, hl => by
    have hh : (y.live = true → y = z) ∧ wkH r s := by cases y <;> simp only [wkH] at h; exact ⟨fun _ => h.1, h.2⟩; exact ⟨fun _ => h.1, h.2⟩; exact ⟨fun _ => h.1, h.2⟩; exact ⟨fun e => by simp [AB.live] at e, h⟩; exact ⟨fun _ => h.1, h.2⟩
    cases k with
    | zero => simp at hk; subst hk; simp; exact (hh.1 hl).symm
    | succ k => simp at hk ⊢; exact wkH_get hh.2 k x hk hl
theorem wkH_len : ∀ {H2 H : List AB}, wkH H2 H → H2.length ≤ H.length
  | [], _, _ => Nat.zero_le _
  | y :: r, [], h => by cases y <;> simp [wkH] at h
  | y :: r, z :: s, h => by
    have hh : wkH r s := by cases y <;> simp only [wkH] at h; exact h.2; exact h.2; exact h.2; exact h; exact h.2
    have := wkH_len hh
    simp; omega
theorem okF_get {m : Nat} : ∀ {fr : Fr}, okF m fr = true → ∀ i, (fget fr i).lt m = true
  | [], _, i => by simp [fget, AV.lt]
  | (j, x) :: r, h, i => by
    simp only [okF, Bool.and_eq_true] at h
    unfold fget
    cases hb : Nat.beq j i with
    | true => exact h.1
    | false => exact okF_get h.2 i
theorem okH_get {m : Nat} : ∀ {H : List AB}, okH m H = true → ∀ (k : Nat) (t : TypeId) (cs : List AV), H[k]? = some (.box t cs) → AV.ltL cs m = true
  | [], _, k, _, _, h => by simp at h
  | x :: r, h, k, t, cs, hk => by
    cases k with
    | zero => simp at hk; subst hk; simp only [okH, Bool.and_eq_true] at h; exact h.1
    | succ k =>
      simp at hk
      refine okH_get (H := r) ?_ k t cs hk
      cases x <;> simp only [okH, Bool.and_eq_true] at h
      exact h.2
      exact h
      exact h
      exact h
      exact h.2
theorem okH_rowo {m : Nat} : ∀ {H : List AB}, okH m H = true → ∀ {k : Nat} {t : TypeId} {sz : Nat} {es : List (List AV)} {m' : Nat}, H[k]? = some (.rowo t sz es m') → AV.ltL es.flatten m' = true → AV.ltL es.flatten m = true
  | [], _, k, _, _, _, _, h, _ => by simp at h
  | x :: r, h, k, t, sz, es, m', hk, hl => by
    cases k with
    | zero =>
      simp at hk
      subst hk
      simp only [okH, Bool.and_eq_true] at h
      have := Nat.le_of_ble_eq_true h.1
      refine ltL_iff.2 fun x hx => AV.lt_mono x this (ltL_iff.1 hl x hx)
    | succ k =>
      simp at hk
      refine okH_rowo (H := r) ?_ hk hl
      cases x <;> simp only [okH, Bool.and_eq_true] at h
      exact h.2
      exact h
      exact h
      exact h
      exact h.2
theorem lset_eq : ∀ (l : List AV) (j : Nat) (y : AV), lset l j y = l.set j y
  | [], _, _ => by simp [lset]
  | _ :: _, 0, _ => rfl
  | x :: r, j + 1, y => by simp only [lset, List.set_cons_succ, lset_eq r j y]
theorem cellAt_box : ∀ {H : List AB} {k j : Nat} {x : AV}, cellAt H k j = some x → ∃ t cs, H[k]? = some (.box t cs) ∧ cs[j]? = some x
  | [], _, _, _, h => by simp [cellAt] at h
  | .box t cs :: r, 0, j, x, h => ⟨t, cs, rfl, by simpa [cellAt, lget_eq] using h⟩
  | .row _ _ _ :: r, 0, j, x, h => by simp [cellAt] at h
  | .iter _ _ :: r, 0, j, x, h => by simp [cellAt] at h
  | .dead :: r, 0, j, x, h => by simp [cellAt] at h
  | .rowo _ _ _ _ :: r, 0, j, x, h => by simp [cellAt] at h
  | y :: r, k + 1, j, x, h => by
    have h' : cellAt r k j = some x := by cases y <;> simpa [cellAt] using h
    obtain ⟨t, cs, h1, h2⟩ := cellAt_box h'
    exact ⟨t, cs, by simpa using h1, h2⟩
theorem setCellK_get : ∀ {H : List AB} {k j : Nat} {x : AV} {t : TypeId} {cs : List AV}, H[k]? = some (.box t cs) → setCellK H k j x = H.set k (.box t (cs.set j x))
  | [], _, _, _, _, _, h => by simp at h
  | y :: r, 0, j, x, t, cs, h => by simp at h; subst h; simp [setCellK, lset_eq]
  | y :: r, k + 1, j, x, t, cs, h => by
    simp at h
    have := setCellK_get (j := j) (x := x) h
    cases y <;> simp [setCellK, this]
/-- What is known of a box, said in another way. -/
theorem HS.rebox {c : Ctx} {H : List AB} (h : HS w0 M0 c H) {k : Nat} {t : TypeId} {cs cs' : List AV} (hk : H[k]? = some (.box t cs)) (hc : ∀ xs, RdL cs c xs → RdL cs' c xs) : HS w0 M0 c (H.set k (.box t cs')) := by
  have hget : ∀ (j : Nat) (y : AB), (H.set k (.box t cs'))[j]? = some y → (j = k ∧ y = .box t cs') ∨ (j ≠ k ∧ H[j]? = some y) := by
    intro j y hj
    by_cases hjk : j = k
    · subst hjk
      rw [List.getElem?_set_self (List.getElem?_eq_some_iff.1 hk).1] at hj
      exact .inl ⟨rfl, (Option.some.inj hj).symm⟩
    · rw [List.getElem?_set_ne (Ne.symm hjk)] at hj
      exact .inr ⟨hjk, hj⟩
  have hlive : ∀ (j : Nat) (y : AB), (H.set k (.box t cs'))[j]? = some y → y.live = true → ∃ z : AB, H[j]? = some z ∧ z.live = true := by
    intro j y hj hy
    rcases hget j y hj with ⟨rfl, rfl⟩ | ⟨_, h2⟩
    · exact ⟨_, hk, rfl⟩
    · exact ⟨_, h2, hy⟩
  refine ⟨h.low, h.base, by simp [h.dom], h.foreign, h.lt, fun j y hj => ?_, fun j y g hj hl ho => ?_, fun i j y z g hi hj hy hz hoi hoj => ?_⟩
  · rcases hget j y hj with ⟨rfl, rfl⟩ | ⟨_, h2⟩
    · obtain ⟨g, xs, q1, q2, q3, q4⟩ := h.blk _ _ hk
      exact ⟨g, xs, q1, q2, hc xs q3, q4⟩
    · exact h.blk j y h2
  · obtain ⟨z, h1, h2⟩ := hlive j y hj hl
    exact h.own j z g h1 h2 ho
  · obtain ⟨y', h1, h2⟩ := hlive i y hi hy
    obtain ⟨z', h3, h4⟩ := hlive j z hj hz
    exact h.dis i j y' z' g h1 h3 h2 h4 hoi hoj
theorem ghost : ∀ (gs : List (Nat × Nat × Nat)) {fr : Fr} {H : List AB} {c : Ctx} {a : Act}, gOk gs fr H → HS w0 M0 c H → FR w0 c n fr a → Ext ce c →
    ∃ c', c'.w = c.w ∧ HS w0 M0 c' (gH gs H) ∧ FR w0 c' n (gF gs fr H.length) a ∧ Ext ce c'
  | [], fr, H, c, a, _, hs, hf, he => ⟨c, rfl, hs, hf, he⟩
  | (s, t, sz) :: r, fr, H, c, a, hg, hs, hf, he => by
    simp only [gOk] at hg
    obtain ⟨h1, h2, h3⟩ := hg
    simp only [gF, gH]
    have hsz : 0 < sz := by simpa using h2
    have hrow := hs.newrow (Below.refl _ _) (t := t) (es := []) (v := .slice none 0 0) (xs := []) hsz (by simp) (World.ownsRow_nil _ _ _ _) (by simp) (by simp [RdL])
    obtain ⟨q1, q2, q3⟩ := hrow
    cases hb : Nat.blt s 1000000 with
    | true =>
      rw [hb] at h1 h3
      simp only at h1 h3 ⊢
      have hf' : FR w0 (c.new c.w (.slice none 0 0) ([] : List (List AV)).length) n ((s, .ow H.length 0) :: fr) a := by
        refine ⟨hf.size, hf.defers.ext q2, fun i => ?_⟩
        have e : fget ((s, .ow H.length 0) :: fr) i = bif Nat.beq s i then .ow H.length 0 else fget fr i := rfl
        rw [e]
        cases hb : Nat.beq s i with
        | true =>
          have := Nat.eq_of_beq_eq_true hb
          subst this
          have hr := hf.get s
          rw [h1] at hr
          simp only [Rd] at hr
          rw [hr]
          exact q3
        | false => exact Rd.ext _ q2 (hf.get i)
      have hl : (H ++ [AB.row t sz []]).length = H.length + 1 := by simp
      obtain ⟨c', e1, e2, e3, e4⟩ := ghost r h3 q1 hf' (he.trans q2)
      rw [hl] at e3
      exact ⟨c', e1, e2, e3, e4⟩
    | false =>
      rw [hb] at h1 h3
      simp only at h1 h3 ⊢
      obtain ⟨bt, cs, hk, hj⟩ := cellAt_box h1
      have hset := setCellK_get (j := (s - 1000000) % 1000) (x := .ow H.length 0) hk
      rw [hset] at h3 ⊢
      have hkl := (List.getElem?_eq_some_iff.1 hk).1
      have hk' : (H ++ [AB.row t sz []])[(s - 1000000) / 1000]? = some (.box bt cs) := by rw [List.getElem?_append_left hkl]; exact hk
      have q1' := q1.rebox hk' (cs' := cs.set ((s - 1000000) % 1000) (.ow H.length 0)) (fun xs hx => by
        obtain ⟨v, h5, h6⟩ := hx.get hj
        simp only [Rd] at h6
        subst h6
        have h7 := hx.set (i := (s - 1000000) % 1000) q3
        have e : xs.set ((s - 1000000) % 1000) (.slice none 0 0) = xs := by
          obtain ⟨hlt, h8⟩ := List.getElem?_eq_some_iff.1 h5
          have := @List.set_getElem_self _ xs _ hlt
          rw [h8] at this
          exact this
        rw [e] at h7
        exact h7)
      have e : (H ++ [AB.row t sz []]).set ((s - 1000000) / 1000) (.box bt (cs.set ((s - 1000000) % 1000) (.ow H.length 0))) = H.set ((s - 1000000) / 1000) (.box bt (cs.set ((s - 1000000) % 1000) (.ow H.length 0))) ++ [AB.row t sz []] := by
        rw [List.set_append_left _ _ hkl]
      rw [e] at q1'
      obtain ⟨c', e1, e2, e3, e4⟩ := ghost r h3 q1' (hf.ext q2) (he.trans q2)
      have hl : (H.set ((s - 1000000) / 1000) (.box bt (cs.set ((s - 1000000) % 1000) (.ow H.length 0))) ++ [AB.row t sz []]).length = H.length + 1 := by simp
      rw [hl] at e3
      exact ⟨c', e1, e2, e3, e4⟩
theorem dfOk_dom {c : Ctx} {m : Nat} : ∀ {l : List Deferred}, DfOk w0 c l → DfOk w0 { c with dom := m } l
  | [], _ => trivial
  | _ :: _, h => ⟨h.1, dfOk_dom h.2⟩
theorem wk_end {fr fr2 : Fr} {H H2 : List AB} (hwf : wkF fr2 fr) (hwh : wkH H2 H) (hnf : okF H2.length fr2 = true) (hnh : okH H2.length H2 = true) (hwd : Nat.ble d0 H2.length = true) (hd : ce.dom = d0) {c : Ctx} {a : Act} (hs : HS w0 M0 c H) (hf : FR w0 c n fr a) (he : Ext ce c) :
    ∃ c', c'.w = c.w ∧ HS w0 M0 c' H2 ∧ FR w0 c' n fr2 a ∧ Ext ce c' := by
  have hlen := wkH_len hwh
  have hcut : Cut c { c with dom := H2.length } := ⟨⟨rfl, rfl, rfl, Nat.le_refl _, fun _ _ h => ⟨h, rfl⟩, Nat.le_refl _, fun k hk => absurd hk (Nat.not_lt_zero k), fun k hk => absurd hk (Nat.not_lt_zero k), fun k _ hk => absurd hk (Nat.not_lt_zero k)⟩, fun _ _ => ⟨rfl, rfl⟩⟩
  have hdl : d0 ≤ H2.length := Nat.le_of_ble_eq_true hwd
  refine ⟨{ c with dom := H2.length }, rfl, ⟨hs.low, hs.base, rfl, hs.foreign, hs.lt, fun k x hk => ?_, fun k x g hk hl ho => hs.own k x g (wkH_get hwh k x hk hl) hl ho, fun j k x y g hj hk hx hy ho ho' => hs.dis j k x y g (wkH_get hwh j x hj hx) (wkH_get hwh k y hk hy) hx hy ho ho'⟩,
    ⟨hf.size, dfOk_dom hf.defers, fun i => ?_⟩, ⟨he.os, he.tape, he.output, he.size, he.keep, by simpa [hd] using hdl, he.len, he.rho, he.box⟩⟩
  · cases x with
    | dead => trivial
    | box t cs =>
      obtain ⟨g, xs, h1, h2, h3, h4⟩ := hs.blk k _ (wkH_get hwh k _ hk rfl)
      exact ⟨g, xs, h1, h2, RdL.cut cs hcut (okH_get hnh k t cs hk) h3, h4⟩
    | iter s pos =>
      obtain ⟨g, h1, h2⟩ := hs.blk k _ (wkH_get hwh k _ hk rfl)
      exact ⟨g, h1, h2⟩
    | row t sz es =>
      obtain ⟨h1, h2, h3, xs, h4, h5, h6⟩ := hs.blk k _ (wkH_get hwh k _ hk rfl)
      exact ⟨h1, h2, h3, xs, h4, h5, h6⟩
    | rowo t sz es m =>
      obtain ⟨h1, h2, h3, h3', xs, h4, h5, h6⟩ := hs.blk k _ (wkH_get hwh k _ hk rfl)
      exact ⟨h1, h2, h3, h3', xs, h4, RdL.cut _ hcut (okH_rowo hnh hk h3') h5, h6⟩
  · rcases wkF_get hwf i with h | h
    · rw [h]; simp [Rd]
    · refine Rd.cut _ hcut (okF_get hnf i) ?_
      rw [h]
      exact hf.get i

theorem Wk.sound {fr fr2 : Fr} {H H2 : List AB} (hwk : Wk d0 fr H fr2 H2) (hd : ce.dom = d0) {c : Ctx} {a : Act} (hs : HS w0 M0 c H) (hf : FR w0 c n fr a) (he : Ext ce c) :
    ∃ c', c'.w = c.w ∧ HS w0 M0 c' H2 ∧ FR w0 c' n fr2 a ∧ Ext ce c' := by
  obtain ⟨gs, hw⟩ := hwk
  obtain ⟨c1, ec, hs1, hf1, he1⟩ := ghost gs hw.g hs hf he
  obtain ⟨c2, e2, q⟩ := wk_end hw.f hw.h hw.nf hw.nh hw.d hd hs1 hf1 he1
  exact ⟨c2, e2.trans ec, q⟩
theorem WkC.sound {c : Ctx} {fr fr2 : Fr} {H H2 : List AB} {a : Act} (hw : WkC d0 fr H fr2 H2) (hd : ce.dom = d0) (hs : HS w0 M0 c H) (hf : FR w0 c n fr a) (he : Ext ce c) :
    ∃ c', c'.w = c.w ∧ HS w0 M0 c' H2 ∧ FR w0 c' n fr2 a ∧ Ext ce c' := by
  obtain ⟨Hc, h1, gs, h2⟩ := hw
  obtain ⟨c1, e1, s1, x1⟩ := h1 w0 M0 c hs
  obtain ⟨c2, e2, s2, f2, x2⟩ := ghost gs h2.g s1 (hf.ext x1) (he.trans x1)
  obtain ⟨H1, q1, q2, _⟩ := wkO_conv (P := []) h2.h
  obtain ⟨c3, e3, s3, x3⟩ := q1 w0 M0 c2 s2
  obtain ⟨c4, e4, s4, f4, x4⟩ := wk_end h2.f q2 h2.nf h2.nh h2.d hd s3 (f2.ext x3) (x2.trans x3)
  exact ⟨c4, e4.trans (e3.trans (e2.trans e1)), s4, f4, x4⟩
theorem LiftQ.mono_then {next : Fr → List AB → Prop} {Q : QA} {K : Act → World → Prop} {Q' : Exit → Act → World → Prop} (h1 : ∀ a w, Lift w0 M0 ce n next a w → K a w) (h2 : ∀ e a w, LiftQ w0 M0 ce n Q e a w → Q' e a w) :
    ∀ e a w, LiftQ w0 M0 ce n (EX.then next Q) e a w → Exit.then K Q' e a w := by
  intro e a w h
  cases e with
  | normal => exact h1 a w h
  | exit id => exact h2 (.exit id) a w h
  | ret => exact h2 .ret a w h
  | _ => exact h.elim
theorem aCode_sound (hT : TOk P T) (hd : ce.dom = d0) : ∀ (cd : Code) (Q : QA) (Q' : Exit → Act → World → Prop) (c : Ctx) (fr : Fr) (H : List AB) (a : Act), (∀ e a w, LiftQ w0 M0 ce n Q e a w → Q' e a w) → HS w0 M0 c H → FR w0 c n fr a → Ext ce c →
    aCode P T n d0 cd Q fr H → cd.wp P Q' a c.w
  | .skip, Q, Q', c, fr, H, a, hq, hs, hf, he, h => wp_skip (hq .normal _ _ ⟨c, fr, H, rfl, h, hs, hf, he⟩)
  | .region id ops draw, Q, Q', c, fr, H, a, hq, hs, hf, he, h => by
    simp only [aCode] at h
    split at h
    · exact wp_region_list (opsK_sound hT (fun a w hl => hq .normal a w hl) ops.toList c fr H a hs hf he h)
    · exact h.wp w0 M0 ce c a hs hf he hd Q' fun c' fr' H' a' h1 h2 h3 h4 => hq .normal _ _ ⟨c', fr', H', rfl, h1, h2, h3, h4⟩
  | .seq x y, Q, Q', c, fr, H, a, hq, hs, hf, he, h => by
    simp only [aCode] at h
    have plain : aCode P T n d0 x (EX.then (fun fr H => aCode P T n d0 y Q fr H) Q) fr H → (Code.seq x y).wp P Q' a c.w := by
      intro h
      refine wp_seq_k fun K hK => aCode_sound hT hd x _ _ c fr H a (LiftQ.mono_then ?_ hq) hs hf he h
      rintro a' w' ⟨c', fr', H', rfl, h1, h2, h3, h4⟩
      exact hK _ _ (aCode_sound hT hd y Q Q' c' fr' H' a' hq h2 h3 h4 h1)
    split at h
    · rcases h.ex with h | ⟨ι, st, I, h, hk⟩ | ⟨ι, st, I, h, hk⟩
      · exact plain h
      · refine wp_seq_k fun K hK => aCode_sound hT hd x _ _ c fr H a (LiftQ.mono_then ?_ hq) hs hf he h
        rintro a' w' ⟨c', fr', H', rfl, ⟨z, hI, hw⟩, h2, h3, h4⟩
        obtain ⟨c4, e4, hs4, hf4, he4⟩ := hw.sound hd h2 h3 h4
        rw [← e4]
        exact hK _ _ (aCode_sound hT hd y Q Q' c4 _ _ a' hq hs4 hf4 he4 (hk z hI))
      · refine wp_seq_k fun K hK => aCode_sound hT hd x _ _ c fr H a (LiftQ.mono_then ?_ hq) hs hf he h
        rintro a' w' ⟨c', fr', H', rfl, ⟨z, hI, hw⟩, h2, h3, h4⟩
        obtain ⟨c4, e4, hs4, hf4, he4⟩ := hw.sound hd h2 h3 h4
        rw [← e4]
        exact hK _ _ (aCode_sound hT hd y Q Q' c4 _ _ a' hq hs4 hf4 he4 (hk z hI))
    · exact plain h
  | .cond x y z, Q, Q', c, fr, H, a, hq, hs, hf, he, h => by
    simp only [aCode] at h
    split at h
    · rename_i t ht
      have hr := hf.ev x
      rw [ht] at hr
      simp only [Rd] at hr
      obtain ⟨h1, h2⟩ := boolK_iff h
      refine wp_cond_split hr (fun e => ?_) fun e => ?_
      · exact aCode_sound hT hd y Q Q' c fr H a hq hs hf he (h1 e)
      · exact aCode_sound hT hd z Q Q' c fr H a hq hs hf he (h2 e)
    · exact h.elim
  | .block id x, Q, Q', c, fr, H, a, hq, hs, hf, he, h => by
    simp only [aCode] at h
    refine wp_block (aCode_sound hT hd x _ _ c fr H a ?_ hs hf he h)
    intro e a' w' hl
    cases e with
    | normal => exact hq .normal _ _ hl
    | exit i =>
      simp only [Exit.inBlock]
      have hl : Lift w0 M0 ce n (match Nat.beq i id with | true => Q .normal | false => Q (.exit i)) a' w' := by
        have e : (EX.inBlock id Q (EX.exit i)) = (match Nat.beq i id with | true => Q .normal | false => Q (.exit i)) := by
          funext fr H
          simp only [EX.inBlock]
          cases Nat.beq i id <;> rfl
        rw [← e]
        exact hl
      by_cases hi : i = id
      · subst hi
        rw [if_pos rfl]
        rw [Nat.beq_refl] at hl
        exact hq .normal _ _ hl
      · rw [if_neg hi]
        have hb : Nat.beq i id = false := by
          cases hq : Nat.beq i id with
          | true => exact absurd (Nat.eq_of_beq_eq_true hq) hi
          | false => rfl
        rw [hb] at hl
        exact hq (.exit i) _ _ hl
    | ret => exact hq .ret _ _ hl
    | _ => exact hl.elim
  | .loop x, Q, Q', c, fr, H, a, hq, hs, hf, he, h => by
    simp only [aCode] at h
    rcases h.ex with ⟨m, hm⟩ | ⟨ι, st, I, μ, ⟨x0, hI, hw⟩, hround⟩ | ⟨ι, st, I, μ, ⟨x0, hI, hw⟩, hround⟩
    · refine wp_loop_rounds m ?_
      clear h
      induction m generalizing c fr H a with
      | zero => exact hm.elim
      | succ m ih =>
        rw [rounds_succ]
        refine aCode_sound hT hd x _ _ c fr H a (LiftQ.mono_then ?_ hq) hs hf he hm
        rintro a' w' ⟨c', fr', H', rfl, h1, h2, h3, h4⟩
        exact ih _ _ _ _ h2 h3 h4 h1
    · obtain ⟨c2, e1, hs2, hf2, he2⟩ := hw.sound hd hs hf he
      rw [← e1]
      refine wp_loop_ghost (fun m a w => ∃ c x, c.w = w ∧ μ x = m ∧ I x ∧ HS w0 M0 c (st x).2 ∧ FR w0 c n (st x).1 a ∧ Ext ce c) (μ x0) ⟨c2, x0, rfl, rfl, hI, hs2, hf2, he2⟩ ?_
      rintro m a' w' ⟨c', y, rfl, rfl, hI', hs', hf', he'⟩
      refine aCode_sound hT hd x _ _ c' _ _ a' ?_ hs' hf' he' (hround y hI')
      intro e a3 w3 hl
      cases e with
      | normal =>
        obtain ⟨c3, fr3, H3, rfl, ⟨z, hI4, hlt, hw4⟩, hs3, hf3, he3⟩ := hl
        obtain ⟨c4, e4, hs4, hf4, he4⟩ := hw4.sound hd hs3 hf3 he3
        exact ⟨μ z, hlt, c4, z, e4, rfl, hI4, hs4, hf4, he4⟩
      | exit id => exact hq (.exit id) _ _ hl
      | ret => exact hq .ret _ _ hl
      | _ => exact hl.elim
    · obtain ⟨c2, e1, hs2, hf2, he2⟩ := hw.sound hd hs hf he
      rw [← e1]
      refine wp_loop_ghost (fun m a w => ∃ c x, c.w = w ∧ μ x = m ∧ I x ∧ HS w0 M0 c (st x).2 ∧ FR w0 c n (st x).1 a ∧ Ext ce c) (μ x0) ⟨c2, x0, rfl, rfl, hI, hs2, hf2, he2⟩ ?_
      rintro m a' w' ⟨c', y, rfl, rfl, hI', hs', hf', he'⟩
      refine aCode_sound hT hd x _ _ c' _ _ a' ?_ hs' hf' he' (hround y hI')
      intro e a3 w3 hl
      cases e with
      | normal =>
        obtain ⟨c3, fr3, H3, rfl, ⟨z, hI4, hlt, hw4⟩, hs3, hf3, he3⟩ := hl
        obtain ⟨c4, e4, hs4, hf4, he4⟩ := hw4.sound hd hs3 hf3 he3
        exact ⟨μ z, hlt, c4, z, e4, rfl, hI4, hs4, hf4, he4⟩
      | exit id => exact hq (.exit id) _ _ hl
      | ret => exact hq .ret _ _ hl
      | _ => exact hl.elim
  | .exit id, Q, Q', c, fr, H, a, hq, hs, hf, he, h => wp_exit (hq (.exit id) _ _ ⟨c, fr, H, rfl, h, hs, hf, he⟩)
  | .ret, Q, Q', c, fr, H, a, hq, hs, hf, he, h => wp_ret (hq .ret _ _ ⟨c, fr, H, rfl, h, hs, hf, he⟩)
  | .rangeFunc g ps asg body, Q, Q', c, fr, H, a, hq, hs, hf, he, h => by
    simp only [aCode] at h
    refine h.wp w0 M0 ce c a hs hf he hd Q' fun ex c' fr' H' a' h1 h2 h3 h4 => ?_
    cases ex with
    | normal => exact hq .normal _ _ ⟨c', fr', H', rfl, h1, h2, h3, h4⟩
    | exit id => exact hq (.exit id) _ _ ⟨c', fr', H', rfl, h1, h2, h3, h4⟩
    | ret => exact hq .ret _ _ ⟨c', fr', H', rfl, h1, h2, h3, h4⟩
  | .label _, _, _, _, _, _, _, _, _, _, _, h => by simp [aCode] at h
  | .goto _, _, _, _, _, _, _, _, _, _, _, h => by simp [aCode] at h
  | .scope _, _, _, _, _, _, _, _, _, _, _, h => by simp [aCode] at h
  | .refuse _, _, _, _, _, _, _, _, _, _, _, h => by simp [aCode] at h
end
end Go.Proofs.Ytjcboeldmgmfcaa.A
end

/-
Functions in the abstract: results, what is given up at the end, contracts of functions that write nothing of their caller's.
-/
section
namespace Go.Proofs.Ytjcboeldmgmfcaa.A
open Go.RowKit

def retOne (T : Tys) (fr : Fr) (H : List AB) (r : ResultVar) (k : AV → Prop) : Prop :=
  match r with
  | .tmp t => forceK (fget fr t) k
  | .cell a t => match tget T t with
    | some ty => ptK H (fget fr a) fun cs => ldK ty cs k
    | none => False
def retL (T : Tys) (fr : Fr) (H : List AB) : List ResultVar → (List AV → Prop) → Prop
  | [], k => k []
  | r :: l, k => retOne T fr H r fun x => retL T fr H l fun xs => k (x :: xs)
def retK (T : Tys) (rs : List ResultVar) (fr : Fr) (H : List AB) (k : AV → Prop) : Prop :=
  retL T fr H rs fun l => match l with | [x] => k x | l => k (.tp l)
/-- A value, its own rows given up for reading. -/
def seal1 (x : AV) (H : List AB) (k : AV → List AB → Prop) : Prop :=
  match x with
  | .ag cs => sealK cs H fun l H => k (.ag l) H
  | .v u => k (.v u) H
  | .sl sz n get => k (.sl sz n get) H
  | .ow j n => match hget H j with
      | some (.row _ sz es) => n = es.length ∧ setK j .dead H fun H => k (.sl sz n (fun i => es.getD i [])) H
      | _ => False
  | _ => False
def sealA : List AV → List AB → (List AV → List AB → Prop) → Prop
  | [], H, k => k [] H
  | x :: l, H, k => seal1 x H fun x H => sealA l H fun l H => k (x :: l) H
def sealR (x : AV) (H : List AB) (k : AV → Prop) : Prop :=
  match x with
  | .tp l => sealA l H fun l _ => k (.tp l)
  | x => seal1 x H fun x _ => k x

theorem seal1_sound {w0 : Fl} {M0 : Ms} {c : Ctx} {H : List AB} {x : AV} {u : Value} {k : AV → List AB → Prop} (hs : HS w0 M0 c H) (hr : Rd x c u) (h : seal1 x H k) :
    ∃ r H' c', k r H' ∧ c'.w = c.w ∧ HS w0 M0 c' H' ∧ Ext c c' ∧ Rd r c'.closed u ∧ H'.length = H.length := by
  unfold seal1 at h
  split at h
  · rename_i cs
    simp only [Rd] at hr
    obtain ⟨xs, rfl, hx⟩ := hr
    obtain ⟨l', H', c', q1, q2, q3, q4, q5, q6, q7, q8⟩ := sealK_sound hs hx h
    exact ⟨_, H', c', q1, q2, q3, q4, by simp only [Rd]; exact ⟨xs, rfl, q5⟩, q6⟩
  · exact ⟨_, H, c, h, rfl, hs, Ext.refl c, by simpa [Rd] using hr, rfl⟩
  · exact ⟨_, H, c, h, rfl, hs, Ext.refl c, by simp only [Rd] at hr ⊢; exact hr, rfl⟩
  · rename_i j n
    rw [hget_eq] at h
    split at h
    · rename_i t sz es hj
      obtain ⟨rfl, h⟩ := h
      have h := setK_iff h
      obtain ⟨c1, e1, e2, e3, e4⟩ := hs.freeze hj
      refine ⟨_, _, c1, h, e1, e2, e3, ?_, by simp⟩
      have := e4 u hr
      simp only [Rd] at this ⊢
      exact this
    · exact h.elim
  · exact h.elim
theorem sealA_sound : ∀ {l : List AV} {w0 : Fl} {M0 : Ms} {c : Ctx} {H : List AB} {xs : List Value} {k : List AV → List AB → Prop}, HS w0 M0 c H → RdL l c xs → sealA l H k →
    ∃ l' H' c', k l' H' ∧ c'.w = c.w ∧ HS w0 M0 c' H' ∧ Ext c c' ∧ RdL l' c'.closed xs ∧ H'.length = H.length
  | [], _, _, c, H, xs, k, hs, hr, h => ⟨[], H, c, h, rfl, hs, Ext.refl c, by simp only [RdL] at hr ⊢; exact hr, rfl⟩
  | x :: l, w0, M0, c, H, xs, k, hs, hr, h => by
    simp only [RdL] at hr
    obtain ⟨u, us, rfl, h1, h2⟩ := hr
    simp only [sealA] at h
    obtain ⟨r, H1, c1, q1, q2, q3, q4, q5, q6⟩ := seal1_sound hs h1 h
    obtain ⟨l', H2, c2, p1, p2, p3, p4, p5, p6⟩ := sealA_sound q3 (RdL.ext _ q4 h2) q1
    refine ⟨_, H2, c2, p1, p2.trans q2, p3, q4.trans p4, ?_, by omega⟩
    simp only [RdL]
    exact ⟨u, us, rfl, Rd.ext _ p4.closed q5, p5⟩
theorem sealR_sound {w0 : Fl} {M0 : Ms} {c : Ctx} {H : List AB} {x : AV} {u : Value} {k : AV → Prop} (hs : HS w0 M0 c H) (hr : Rd x c u) (h : sealR x H k) :
    ∃ r H' c', k r ∧ c'.w = c.w ∧ HS w0 M0 c' H' ∧ Ext c c' ∧ Rd r c'.closed u := by
  unfold sealR at h
  split at h
  · simp only [Rd] at hr
    obtain ⟨xs, rfl, hx⟩ := hr
    obtain ⟨l', H', c', q1, q2, q3, q4, q5, q6⟩ := sealA_sound hs hx h
    exact ⟨_, H', c', q1, q2, q3, q4, by simp only [Rd]; exact ⟨xs, rfl, q5⟩⟩
  · obtain ⟨r, H', c', q1, q2, q3, q4, q5, _⟩ := seal1_sound hs hr h
    exact ⟨r, H', c', q1, q2, q3, q4, q5⟩

def resOne (tmps : Array Value) (r : ResultVar) : Sem Value :=
  match r with
  | .tmp t => pure (tmps.getD t undef)
  | .cell a t => do loadVar t (← asAddr (tmps.getD a undef))
theorem results_eq (fn : Func) (tmps : Array Value) : results fn tmps = (do let vs ← fn.results.mapM (resOne tmps); pure (if h : vs.size = 1 then vs[0] else .tuple vs)) := by
  unfold results
  congr 1
theorem retOne_sound {P : Program} {T : Tys} (hT : TOk P T) {w0 : Fl} {M0 : Ms} {c : Ctx} {H : List AB} (hs : HS w0 M0 c H) {n : Nat} {fr : Fr} {a : Act} (hf : FR w0 c n fr a) {r : ResultVar} {k : AV → Prop} (h : retOne T fr H r k) :
    ∃ x v, k x ∧ Rd x c v ∧ (resOne a.tmps r).run P c.w = .ok v c.w := by
  cases r with
  | tmp t => exact ⟨_, _, forceK_iff h, hf.get _, rfl⟩
  | cell ad t =>
    simp only [retOne] at h
    split at h
    · rename_i ty ht
      obtain ⟨b, off, cs, hu, hc, hk⟩ := pt_sound hs (hf.get ad) h
      obtain ⟨x, v, h1, h2, h3⟩ := ld_sound (P := P) (hT.get ht) hc hk
      exact ⟨x, v, h1, h3, by simp only [resOne, hu, asAddr, Sem.run_bind, Sem.run_pure, Result.andThen_ok]; exact h2 c.w (Old.refl _)⟩
    · exact h.elim
theorem retL_sound {P : Program} {T : Tys} (hT : TOk P T) {w0 : Fl} {M0 : Ms} {c : Ctx} {H : List AB} (hs : HS w0 M0 c H) {n : Nat} {fr : Fr} {a : Act} (hf : FR w0 c n fr a) : ∀ {l : List ResultVar} {k : List AV → Prop}, retL T fr H l k →
    ∃ xs vs, k xs ∧ RdL xs c vs ∧ (l.mapM (resOne a.tmps)).run P c.w = .ok vs c.w
  | [], k, h => ⟨[], [], h, by simp [RdL], by simp⟩
  | r :: l, k, h => by
    simp only [retL] at h
    obtain ⟨x, v, h1, h2, h3⟩ := retOne_sound hT hs hf h
    obtain ⟨xs, vs, h4, h5, h6⟩ := retL_sound hT hs hf h1
    refine ⟨x :: xs, v :: vs, h4, by simp only [RdL]; exact ⟨v, vs, rfl, h2, h5⟩, ?_⟩
    rw [List.mapM_cons, Sem.run_bind, h3, Result.andThen_ok, Sem.run_bind, h6]
    rfl
theorem retK_sound {P : Program} {T : Tys} (hT : TOk P T) {w0 : Fl} {M0 : Ms} {c : Ctx} {H : List AB} (hs : HS w0 M0 c H) {n : Nat} {fr : Fr} {a : Act} (hf : FR w0 c n fr a) {fn : Func} {k : AV → Prop} (h : retK T fn.results.toList fr H k) :
    ∃ x v, k x ∧ Rd x c v ∧ (results fn a.tmps).run P c.w = .ok v c.w := by
  unfold retK at h
  obtain ⟨xs, vs, h1, h2, h3⟩ := retL_sound hT hs hf h
  have hrun : ∀ v, (if h : vs.toArray.size = 1 then vs.toArray[0] else .tuple vs.toArray) = v → (results fn a.tmps).run P c.w = .ok v c.w := by
    intro v hv
    rw [results_eq, Sem.run_bind, Array.mapM_eq_mapM_toList, Sem.run_map, h3]
    simp only [Result.andThen_ok, Sem.run_pure]
    rw [← hv]
  have hl := h2.length
  cases xs with
  | nil =>
    simp only [RdL] at h2
    subst h2
    exact ⟨.tp [], .tuple #[], h1, by simp only [Rd]; exact ⟨[], rfl, by simp [RdL]⟩, hrun _ (by simp)⟩
  | cons x xs =>
    have h2' := h2
    simp only [RdL] at h2
    obtain ⟨v, us, rfl, h4, h5⟩ := h2
    cases xs with
    | nil =>
      simp only [RdL] at h5
      subst h5
      exact ⟨x, v, h1, h4, hrun v (by simp)⟩
    | cons y xs =>
      refine ⟨.tp (x :: y :: xs), .tuple (v :: us).toArray, h1, by simp only [Rd]; exact ⟨_, rfl, h2'⟩, hrun _ ?_⟩
      rw [dif_neg]
      have := h5.length
      simp at this ⊢
      intro e; subst e; simp at this

def IsGo (P : Program) (f : FuncId) : Prop := ∃ fn, P.funcs[f]? = some fn ∧ fn.body.isNone = false ∧ (fn.name == "runtime.NumGoroutine") = false
/-- A function that writes nothing of its caller's: what it answers to such arguments. -/
structure Fn (P : Program) (f : FuncId) (args : List AV) (K : AV → Prop) : Prop where
  go : IsGo P f
  calls : ∀ (c0 : Ctx) (us : List Value), c0.dom = 0 → (∀ b, c0.M b → b < c0.w.heap.size) → globOk c0.w → RdL args c0 us →
    Calls P f us.toArray c0.w fun e w' => ∃ v r, e = .returned v ∧ K r ∧ Below c0.w.heap.size c0.w w' ∧ Rd r { c0 with w := w' } v
theorem Fn.mono {P : Program} {f : FuncId} {args : List AV} {K K' : AV → Prop} (h : Fn P f args K) (hk : ∀ r, K r → K' r) : Fn P f args K' :=
  ⟨h.1, fun c0 us h1 h2 h3 h4 => (h.2 c0 us h1 h2 h3 h4).mono fun _ _ ⟨v, r, h4, h5, h6⟩ => ⟨v, r, h4, hk _ h5, h6⟩⟩
theorem Fn.closed {P : Program} {f : FuncId} {args : List AV} {H : List AB} {K : AV → Prop} {q : Bool} {k : AV → List AB → Prop} (h : Fn P f args K) (hc : AV.ltL args 0 = true) (hk : ∀ r, K r → k r H) : ACalls P q f args H k := by
  refine ⟨h.go, fun w0 M0 c us hs0 hr => ?_⟩
  have hcut : Cut c c.closed := ⟨Ext.refl _, fun k hk => absurd hk (Nat.not_lt_zero k)⟩
  refine (h.calls c.closed us rfl hs0.lt hs0.glob (RdL.cut args hcut hc hr)).mono ?_
  rintro e w' ⟨v, r, rfl, q1, q2, q3⟩
  obtain ⟨p1, p2⟩ := hs0.grow (w' := w') q2
  exact ⟨v, _, r, H, rfl, rfl, hk r q1, p1, p2, Rd.ext r (Ext.ofClosed { c with w := w' }) q3, fun _ => q2.old⟩
theorem ACalls.shut {P : Program} {q : Bool} {f : FuncId} {args : List AV} {H : List AB} {k : AV → List AB → Prop} (h : IsGo P f) (hs : sealA args H fun a H => ACalls P q f a H k) : ACalls P q f args H k := by
  refine ⟨h, fun w0 M0 c us hs0 hr => ?_⟩
  obtain ⟨l', H', c', h1, h2, h3, h4, h5, _⟩ := sealA_sound hs0 hr hs
  have := h1.calls w0 M0 c' us h3 (RdL.ext _ (Ext.ofClosed c') h5)
  rw [h2] at this
  refine this.mono ?_
  rintro e w' ⟨v, c2, r, H2, rfl, rfl, q1, q2, q3, q4, q5⟩
  exact ⟨v, c2, r, H2, rfl, rfl, q1, q2, h4.trans q3, q4, q5⟩
theorem Fn.shut {P : Program} {f : FuncId} {args args' : List AV} {H : List AB} {K : AV → Prop} {q : Bool} {k : AV → List AB → Prop} (h : Fn P f args' K) (hs : sealA args H fun a H => a = args' ∧ ∀ r, K r → k r H) : ACalls P q f args H k := by
  refine ⟨h.1, fun w0 M0 c us hs0 hr => ?_⟩
  obtain ⟨l', H', c', ⟨rfl, h1⟩, h2, h3, h4, h5, _⟩ := sealA_sound hs0 hr hs
  have := h.2 c'.closed us rfl h3.lt h3.glob h5
  rw [show c'.closed.w = c.w from h2] at this
  refine this.mono ?_
  rintro e w' ⟨v, r, rfl, q1, q2, q3⟩
  have hB : Below c'.w.heap.size c'.w w' := by rw [h2]; exact q2
  obtain ⟨p1, p2⟩ := h3.grow hB
  exact ⟨v, _, r, H', rfl, rfl, h1 r q1, p1, h4.trans p2, Rd.ext r (Ext.ofClosed { c' with w := w' }) q3, fun _ => q2.old⟩

def frOf : Nat → List AV → Fr
  | _, [] => []
  | i, x :: l => (i, x) :: frOf (i + 1) l
theorem frOf_rd {c : Ctx} {us : List Value} {m : Nat} : ∀ {l : List AV} {i : Nat} {pre : List Value}, pre.length = i → RdL l c us → ∀ j, Rd (fget (frOf i l) j) c ((pre ++ us ++ List.replicate m undef)[j]?.getD undef) := by
  intro l
  induction l generalizing us with
  | nil => intro i pre _ _ j; simp [frOf, fget, Rd]
  | cons x l ih =>
    intro i pre hp hr j
    simp only [RdL] at hr
    obtain ⟨y, ys, rfl, h1, h2⟩ := hr
    simp only [frOf, fget]
    cases hb : Nat.beq i j with
    | true =>
      have := Nat.eq_of_beq_eq_true hb
      subst this
      simp only [cond_true]
      rw [List.append_assoc, List.getElem?_append_right (by omega), hp]
      simpa using h1
    | false =>
      have := ih (us := ys) (i := i + 1) (pre := pre ++ [y]) (by simp [hp]) h2 j
      simpa using this
/-- A mark's block is shut: nothing that is known changes. -/
theorem HS.shut {w0 : Fl} {M0 : Ms} {c : Ctx} {H : List AB} (h : HS w0 M0 c H) {b : Nat} (hb : w0.w.heap.size ≤ b) (hd : c.w.heap[b]? = some (.deferred (some []))) :
    HS w0 M0 { c with w := c.w.putObj b (.deferred none) } H ∧ Like c { c with w := c.w.putObj b (.deferred none) } := by
  have hcell : ∀ a u, c.w.cell? a = some u → (c.w.putObj b (.deferred none)).cell? a = some u := by
    intro a u hu
    refine (World.cell?_of_block (World.putObj_heap_other ?_)).trans hu
    intro e
    unfold World.cell? at hu
    rw [e, hd] at hu
    cases hu
  have hl : Like c { c with w := c.w.putObj b (.deferred none) } := ⟨rfl, by simp, hcell, rfl, rfl, rfl⟩
  have hoth : ∀ g : Nat, (∃ o : Obj, c.w.heap[g]? = some o ∧ o ≠ .deferred (some [])) → (c.w.putObj b (.deferred none)).heap[g]? = c.w.heap[g]? := by
    rintro g ⟨o, ho, hne⟩
    refine World.putObj_heap_other ?_
    rintro rfl
    rw [hd] at ho
    exact hne (Option.some.inj ho).symm
  refine ⟨⟨⟨h.low.os, h.low.tape, h.low.output, by simpa using h.low.size, fun b' hb' => ?_⟩, h.base, h.dom, h.foreign, fun b' hm => by simpa using h.lt b' hm, fun k x hk => ?_, h.own, h.dis⟩, hl⟩
  · rw [← h.low.block b' hb']
    exact World.putObj_heap_other (by have := w0.lt b' hb'; omega)
  · have hx := h.blk k x hk
    cases x with
    | dead => trivial
    | box t cs =>
      obtain ⟨g, xs, h1, h2, h3, h4⟩ := hx
      exact ⟨g, xs, h1, (hoth g ⟨_, h2, by simp⟩).trans h2, RdL.like cs hl h3, h4⟩
    | iter s pos =>
      obtain ⟨g, h1, h2⟩ := hx
      exact ⟨g, h1, (hoth g ⟨_, h2, by simp⟩).trans h2⟩
    | row t sz es =>
      obtain ⟨h1, h2, h3, xs, h4, h5, h6⟩ := hx
      refine ⟨h1, h2, h3, xs, ?_, RdL.like _ hl.closed h5, h6⟩
      refine ⟨h4.1, h4.2.imp id ?_⟩
      rintro ⟨g, cap, cur, q1, q2, q3, q4⟩
      exact ⟨g, cap, cur, q1, q2, (hoth g ⟨_, q3, by simp⟩).trans q3, q4⟩
    | rowo t sz es m =>
      obtain ⟨h1, h2, h3, h3', xs, h4, h5, h6⟩ := hx
      refine ⟨h1, h2, h3, h3', xs, ?_, RdL.like _ hl h5, h6⟩
      refine ⟨h4.1, h4.2.imp id ?_⟩
      rintro ⟨g, cap, cur, q1, q2, q3, q4⟩
      exact ⟨g, cap, cur, q1, q2, (hoth g ⟨_, q3, by simp⟩).trans q3, q4⟩
theorem leaves_marks {P : Program} {w0 : Fl} {M0 : Ms} {ce : Ctx} {n : Nat} {fn : Func} {R : Ending → World → Prop} {K : Fr → List AB → Prop} (hck : w0.chk) (hce : ce.w.heap.size ≤ w0.w.heap.size)
    (fin : ∀ a w, Lift w0 M0 ce n K a w → ∃ v, (results fn a.tmps).run P w = .ok v w ∧ R (.returned v) w) {tmps : Array Value} {fr : Fr} {H : List AB} (hK : K fr H) (hsz : tmps.size = n) :
    ∀ (ds : List Deferred) (c : Ctx), HS w0 M0 c H → (∀ i, Rd (fget fr i) c (tmps.getD i undef)) → Ext ce c → DfOk w0 c ds → LeavesInM Fence.wide 0 P fn tmps R ds .returning c.w
  | [], c, hs, hf, he, _ => fin { tmps := tmps, defers := [] } c.w ⟨c, fr, H, rfl, hK, hs, ⟨hsz, trivial, hf⟩, he⟩
  | d :: ds, c, hs, hf, he, hd => by
    obtain ⟨b, rfl, h2, h3, h4, h5⟩ := hd.1 hck
    have h6 := hd.2
    clear hd
    obtain ⟨hs', hl⟩ := hs.shut h2 h4
    refine ⟨by simp, .inl ⟨b, _, rfl, run_takeDeferred h4, leaves_marks hck hce fin hK hsz ds { c with w := c.w.putObj b (.deferred none) } hs' (fun i => Rd.like _ hl (hf i)) ?_ ?_⟩⟩
    · refine ⟨he.os, he.tape, he.output, by simpa using he.size, fun b' hb' hm => ⟨(he.keep b' hb' hm).1, ?_⟩, he.dom, he.len, he.rho, he.box⟩
      rw [← (he.keep b' hb' hm).2]
      exact World.putObj_heap_other (by omega)
    · clear h4 hs' hl
      induction ds with
      | nil => trivial
      | cons e r ih =>
        obtain ⟨b2, rfl, q2, q3, q4, q5⟩ := h6.1 hck
        have q6 := h6.2
        have hne : b2 ≠ b := fun e => h5 { target := .collected b2, args := #[] } (by simp) (by rw [e])
        exact ⟨fun _ => ⟨b2, rfl, q2, q3, (World.putObj_heap_other hne).trans q4, q5⟩, ih (fun e he => h5 e (by simp [he])) q6⟩
/-- A function's contract where its body may have left marks. -/
theorem calls_marks {P : Program} {w0 : Fl} {M0 : Ms} {ce : Ctx} {f : FuncId} {fn : Func} {body : Code} {args : Array Value} {w : World} {R : Ending → World → Prop} {K : Fr → List AB → Prop} (hf : P.funcs[f]? = some fn) (hb : fn.body = some body) (hck : w0.chk) (hce : ce.w.heap.size ≤ w0.w.heap.size)
    (fin : ∀ a w, Lift w0 M0 ce fn.ntmps K a w → ∃ v, (results fn a.tmps).run P w = .ok v w ∧ R (.returned v) w)
    (h : body.wp P (fun e a w => (e = .normal ∨ e = .ret) ∧ Lift w0 M0 ce fn.ntmps K a w) { tmps := args ++ Array.replicate (fn.ntmps - args.size) undef, defers := [] } w) : Calls P f args w R := by
  refine callsIn_wide.1 (callsIn_of_wp_marks (F := Fence.wide) (n := 0) hf hb trivial (wpIn_mono (wpIn_wide.2 h) ?_))
  rintro e a w' ⟨he, c, fr, H, rfl, hK, hs, hfr, hx⟩
  have := leaves_marks hck hce fin hK hfr.size a.defers c hs hfr.get hx hfr.defers
  rcases he with rfl | rfl <;> exact this
theorem lift_ends {w0 : Fl} {M0 : Ms} {ce : Ctx} {n : Nat} {Q : QA} {K : Fr → List AB → Prop} (h1 : Q .normal = K) (h2 : Q .ret = K) (h3 : ∀ id fr H, ¬ Q (.exit id) fr H) : ∀ e a w, LiftQ w0 M0 ce n Q e a w → (e = .normal ∨ e = .ret) ∧ Lift w0 M0 ce n K a w := by
  intro e a w hl
  cases e with
  | normal => exact ⟨.inl rfl, h1 ▸ hl⟩
  | ret => exact ⟨.inr rfl, h2 ▸ hl⟩
  | exit id => obtain ⟨c, fr, H, _, q, _⟩ := hl; exact (h3 _ _ _ q).elim
  | _ => exact hl.elim
/-- The memory of now in place of an earlier one. -/
def Fl.at (w0 : Fl) (w : World) (h : LowF w0 w) : Fl := ⟨w, w0.old, fun b hb => Nat.lt_of_lt_of_le (w0.lt b hb) h.size, fun w' hs hb => w0.gl w' (Nat.le_trans h.size hs) fun b h' => (hb b h').trans (h.block b h'), True⟩
theorem LowF.ofAt {w0 : Fl} {w w' : World} {h : LowF w0 w} (k : LowF (w0.at w h) w') : LowF w0 w' := ⟨k.os.trans h.os, k.tape.trans h.tape, k.output.trans h.output, Nat.le_trans h.size k.size, fun b hb => (k.block b hb).trans (h.block b hb)⟩
theorem HS.toAt {w0 : Fl} {M0 : Ms} {c : Ctx} {H : List AB} (h : HS w0 M0 c H) : HS (w0.at c.w h.low) M0 c H := ⟨⟨rfl, rfl, rfl, Nat.le_refl _, fun _ _ => rfl⟩, h.base, h.dom, h.foreign, h.lt, h.blk, h.own, h.dis⟩
/-- What stands at a function's end. -/
def finQ (T : Tys) (rs : List ResultVar) (K : AV → Prop) : QA := fun ex fr H => match ex with
  | .exit _ => False
  | _ => retK T rs fr H fun x => sealR x H fun r => ∃ r', (∀ c v, Rd r c v → Rd r' c v) ∧ K r'
theorem Fn.of {P : Program} {T : Tys} (hT : TOk P T) {f : FuncId} {fn : Func} {body : Code} {args : List AV} {K : AV → Prop} (hf : P.funcs[f]? = some fn) (hb : fn.body = some body) (hname : (fn.name == "runtime.NumGoroutine") = false) (hn : args.length ≤ fn.ntmps)
    (h : aCode P T fn.ntmps 0 body (finQ T fn.results.toList K) (frOf 0 args) []) : Fn P f args K := by
  refine ⟨⟨fn, hf, by rw [hb]; rfl, hname⟩, fun c0 us hd hM hg hr => ?_⟩
  let ce : Ctx := { c0 with base := 0 }
  have hce : Ext c0 ce := ⟨rfl, rfl, rfl, Nat.le_refl _, fun _ _ h => ⟨h, rfl⟩, Nat.le_refl _, fun _ _ => Nat.le_refl _, fun _ _ _ => rfl, fun _ _ _ h => h⟩
  have hHS : HS (Fl.all c0.w hg) c0.M ce [] := ⟨LowF.refl _ hg, rfl, hd, fun _ _ => Iff.rfl, hM, by simp, by simp, by simp⟩
  have hlen := hr.length
  have hFR : FR (Fl.all c0.w hg) ce fn.ntmps (frOf 0 args) { tmps := us.toArray ++ Array.replicate (fn.ntmps - us.toArray.size) undef, defers := [] } := by
    refine ⟨by simp; omega, trivial, fun i => ?_⟩
    have := frOf_rd (c := ce) (m := fn.ntmps - us.length) (l := args) (i := 0) (pre := []) rfl (RdL.ext _ hce hr) i
    rw [Array.getD_eq_getD_getElem?]
    have e : (us.toArray ++ Array.replicate (fn.ntmps - us.toArray.size) undef)[i]? = ([] ++ us ++ List.replicate (fn.ntmps - us.length) undef)[i]? := by
      have : (us.toArray ++ Array.replicate (fn.ntmps - us.toArray.size) undef) = ([] ++ us ++ List.replicate (fn.ntmps - us.length) undef).toArray := Array.ext' (by simp)
      rw [this]; simp only [List.getElem?_toArray]
    rw [e]
    exact this
  have fin : ∀ a w, Lift (Fl.all c0.w hg) c0.M ce fn.ntmps (fun fr H => retK T fn.results.toList fr H fun x => sealR x H fun r => ∃ r', (∀ c v, Rd r c v → Rd r' c v) ∧ K r') a w → ∃ v, (results fn a.tmps).run P w = .ok v w ∧ ∃ v' r, Ending.returned v = .returned v' ∧ K r ∧ Below c0.w.heap.size c0.w w ∧ Rd r { c0 with w := w } v' := by
    rintro a w ⟨c, fr, H, rfl, h1, h2, h3, h4⟩
    obtain ⟨x, v, q1, q2, q3⟩ := retK_sound hT h2 h3 h1
    obtain ⟨r, H', c', p1, p2, p3, p4, p5⟩ := sealR_sound h2 q2 q1
    obtain ⟨r', o1, o2⟩ := p1
    refine ⟨v, q3, v, r', rfl, o2, h2.low.below, ?_⟩
    refine o1 _ _ ?_
    have hE : Ext c'.closed { c0 with w := c.w } := by
      refine ⟨by simp [Ctx.closed, p2], by simp [Ctx.closed, p2], by simp [Ctx.closed, p2], by simp [Ctx.closed, p2], fun b hb hm => ⟨fun h => hm ?_, by simp [Ctx.closed, p2]⟩, Nat.zero_le _, fun k hk => absurd hk (Nat.not_lt_zero k), fun k hk => absurd hk (Nat.not_lt_zero k), fun k _ hk => absurd hk (Nat.not_lt_zero k)⟩
      exact (p3.foreign b (hM b h)).2 h
    exact Rd.ext _ hE p5
  refine calls_marks hf hb trivial (Nat.le_refl _) fin ?_
  refine aCode_sound (w0 := Fl.all c0.w hg) (M0 := c0.M) (ce := ce) hT hd body _ _ ce _ [] _ (lift_ends rfl rfl fun _ _ _ h => h) hHS hFR (Ext.refl _) h
end Go.Proofs.Ytjcboeldmgmfcaa.A
end

/-
Plain laws on a statement whose order Go leaves open: an operation that only computes or loads is taken first, as long as what it loads stands while it may still wait; whatever is done behind it need keep only what somebody may still be waiting to load.
-/
section
namespace Go.Proofs.Ytjcboeldmgmfcaa

section
variable {P : Program} {ops : Array Oper} {Q : Exit → Act → World → Prop} {D : List Nat} {S : World → Prop}

/-- May one of D still be waiting when operation j has been done? -/
def mayWait (ops : Array Oper) (D : List Nat) (j : Nat) : Bool :=
  D.any fun i => i != j && !((ops[j]?).map fun o => o.after.any fun e => Region.binds .any e && e.on == i).getD false

def Held (P : Program) (ops : Array Oper) (Q : Exit → Act → World → Prop) (D : List Nat) (S : World → Prop) : Nat → Array Bool → Act → World → Prop
  | 0, l, a, w => Region.ready .any ops l = [] ∧ Q .normal a w
  | n + 1, l, a, w => (Region.ready .any ops l = [] → Q .normal a w) ∧
      ∀ i ∈ Region.ready .any ops l, wpOp P ops Q i (fun a' w' => (mayWait ops D i = true → S w') ∧ Held P ops Q D S n (l.setIfInBounds i true) a' w') a w

theorem Held.any : ∀ (n : Nat) (l : Array Bool) (a : Act) (w : World), Held P ops Q D S n l a w → wpAny P .any ops Q n l a w
  | 0, _, _, _, h => h
  | n + 1, _, _, _, h => ⟨h.1, fun i hi => wpOp_mono (fun a' w' h' => Held.any n _ a' w' h'.2) (h.2 i hi)⟩

theorem mayWait_of {i j : Nat} {oj : Oper} (hD : i ∈ D) (hj : ops[j]? = some oj) (hne : j ≠ i) (hno : ∀ e ∈ oj.after, Region.binds .any e = true → e.on ≠ i) : mayWait ops D j = true := by
  refine List.any_eq_true.2 ⟨i, hD, ?_⟩
  have hany : oj.after.any (fun e => Region.binds .any e && e.on == i) = false := by
    rw [← Bool.not_eq_true]
    intro h
    obtain ⟨e, he, hb⟩ := Array.any_eq_true'.1 h
    simp only [Bool.and_eq_true, beq_iff_eq] at hb
    exact hno e he hb.1 hb.2
  simp only [hj, Option.map_some, Option.getD_some, hany, Bool.not_false, Bool.and_true, bne_iff_ne, ne_eq]
  exact fun h => hne h.symm

theorem Held.first {S' : World → Prop} {i : Nat} {oi : Oper} {v : Value} (hi : ops[i]? = some oi)
    (hD : ∀ (j : Nat) (oj : Oper) (w : World), ops[j]? = some oj → j ≠ i → (∀ e ∈ oj.after, Region.binds .any e = true → e.on ≠ i) → (mayWait ops D j = true → S w) → S' w)
    (hD' : ∀ w, S' w → mayWait ops D i = true → S w) (hsel : ∀ (j : Nat) (o : Oper) cs b, ops[j]? = some o → o.op ≠ .select cs b)
    (hQ : ∀ c a w, Q (.panic c) (a.put oi.dst v) w → Q (.panic c) a w) : ∀ (n : Nat) (l : Array Bool) (a : Act) (w : World),
      (∀ j oj, ops[j]? = some oj → j ≠ i → l.getD j true = false → (∀ e ∈ oj.after, Region.binds .any e = true → e.on ≠ i) → oi.apart ops oj = true) →
      i ∈ Region.ready .any ops l → YieldsIf P ops S' oi v a → S' w → (mayWait ops D i = true → S w) → Held P ops Q D S n (l.setIfInBounds i true) (a.put oi.dst v) w → Held P ops Q D S (n + 1) l a w := by
  intro n
  induction n with
  | zero =>
    intro l a w _ hr hy hS hSS H
    refine ⟨fun h => (by rw [h] at hr; cases hr), fun j hj => ?_⟩
    by_cases hji : j = i
    · subst hji; exact hy.wpOp hi hS ⟨hSS, H⟩
    · have h1 := ready_mono hj hji
      rw [H.1] at h1
      cases h1
  | succ n ih =>
    intro l a w hfree hr hy hS hSS H
    refine ⟨fun h => (by rw [h] at hr; cases hr), fun j hj => ?_⟩
    by_cases hji : j = i
    · subst hji; exact hy.wpOp hi hS ⟨hSS, H⟩
    have h1 := H.2 j (ready_mono hj hji)
    obtain ⟨hjun, oj, hoj, hall⟩ := mem_ready.1 hj
    have hnot : ∀ e ∈ oj.after, Region.binds .any e = true → e.on ≠ i := fun e he hb heq => by
      have h2 := hall e he hb
      have h3 := (mem_ready.1 hr).1
      rw [heq] at h2
      rcases Nat.lt_or_ge i l.size with h' | h'
      · simp [h'] at h2 h3; rw [h3] at h2; cases h2
      · simp [Array.getElem?_eq_none h'] at h2
    have h2 := wpOp_putIf hoj (hfree j oj hoj hji hjun hnot) (fun cs b => hsel i oi cs b hi) (fun cs b => hsel j oj cs b hoj) hQ hy h1
    refine wpOp_mono (fun a' w' h3 => ⟨h3.2.1, ih (l.setIfInBounds j true) a' w' (fun k ok hk hki hun hno => ?_) (ready_mono hr (Ne.symm hji)) h3.1 (hD j oj w' hoj hji hnot h3.2.1) (fun hm => hD' _ (hD j oj w' hoj hji hnot h3.2.1) hm) ?_⟩) h2
    · refine hfree k ok hk hki ?_ hno
      by_cases hjk : j = k
      · subst hjk; exact hjun
      · rw [getD_set_ne true hjk] at hun; exact hun
    · rw [Array.setIfInBounds_comm _ _ hji]
      exact h3.2.2

/-- The beginning. -/
theorem rg_enter (D : List Nat) (S : World → Prop) {id : Nat} {a : Act} {w : World} (hm : P.follows .mixedOrders = true)
    (h : Held P ops Q D S ops.size (Array.replicate ops.size false) a w.drew) : (Code.region id ops true).wp P Q a w :=
  wp_region_any hm (Held.any _ _ _ _ h)
theorem Held.take {i : Nat} {oi : Oper} {v : Value} {n : Nat} {l : Array Bool} {a : Act} {w : World} (hi : ops[i]? = some oi)
    (hs : (Region.noSelect ops && Region.free .any ops l i && (Region.ready .any ops l).contains i && D.contains i) = true)
    (hQ : ∀ c a w, Q (.panic c) (a.put oi.dst v) w → Q (.panic c) a w) (hS : S w) (hy : YieldsIf P ops S oi v a)
    (h : Held P ops Q D S n (l.setIfInBounds i true) (a.put oi.dst v) w) : Held P ops Q D S (n + 1) l a w := by
  simp only [Bool.and_eq_true] at hs
  exact Held.first hi (fun j oj w' hj hne hno hm => hm (mayWait_of (by simpa using hs.2) hj hne hno)) (fun _ h _ => h) (Region.noSelect_spec hs.1.1.1) hQ n l a w (Region.free_spec hi hs.1.1.2) (by simpa using hs.1.2) hy hS (fun _ => hS) h
/-- Number i is taken first. -/
theorem rg_take (i : Nat) {oi : Oper} {v : Value} {n : Nat} {l : Array Bool} {a : Act} {w : World} (hi : ops[i]? = some oi)
    (hs : (Region.noSelect ops && Region.free .any ops l i && (Region.ready .any ops l).contains i && D.contains i) = true)
    (hQ : ∀ c a w, Q (.panic c) (a.put oi.dst v) w → Q (.panic c) a w) (hS : S w) (hw : Region.wanted oi (yielded ops a.tmps) = true)
    (hy : ∀ w, S w → (execOp a.eval oi).run P w = .ok (.value v) w) {a' : Act} (ha : a.put oi.dst v = a')
    (h : Held P ops Q D S n (l.setIfInBounds i true) a' w) : Held P ops Q D S (n + 1) l a w := by
  subst ha
  exact Held.take hi hs hQ hS (.inl ⟨hw, hy⟩) h
/-- Number i, whose guard says no, is taken first. -/
theorem rg_skip (i : Nat) {oi : Oper} {n : Nat} {l : Array Bool} {a : Act} {w : World} (hi : ops[i]? = some oi)
    (hs : (Region.noSelect ops && Region.free .any ops l i && (Region.ready .any ops l).contains i && D.contains i) = true)
    (hQ : ∀ c a w, Q (.panic c) (a.put oi.dst undef) w → Q (.panic c) a w) (hS : S w) (hw : Region.wanted oi (yielded ops a.tmps) = false) {a' : Act} (ha : a.put oi.dst undef = a')
    (h : Held P ops Q D S n (l.setIfInBounds i true) a' w) : Held P ops Q D S (n + 1) l a w := by
  subst ha
  exact Held.take hi hs hQ hS (.inr ⟨hw, rfl⟩) h
/-- Number i, for which nobody waits, is taken first; it looks at no memory. -/
theorem rg_pure (i : Nat) {oi : Oper} {v : Value} {n : Nat} {l : Array Bool} {a : Act} {w : World} (hi : ops[i]? = some oi)
    (hs : (Region.noSelect ops && Region.free .any ops l i && (Region.ready .any ops l).contains i && !mayWait ops D i) = true)
    (hQ : ∀ c a w, Q (.panic c) (a.put oi.dst v) w → Q (.panic c) a w) (hw : Region.wanted oi (yielded ops a.tmps) = true)
    (hy : ∀ w, (execOp a.eval oi).run P w = .ok (.value v) w) {a' : Act} (ha : a.put oi.dst v = a')
    (h : Held P ops Q D S n (l.setIfInBounds i true) a' w) : Held P ops Q D S (n + 1) l a w := by
  subst ha
  simp only [Bool.and_eq_true, Bool.not_eq_true'] at hs
  exact Held.first (S' := fun _ => True) hi (fun _ _ _ _ _ _ _ => trivial) (fun _ _ hm => by rw [hs.2] at hm; cases hm) (Region.noSelect_spec hs.1.1.1) hQ n l a w (Region.free_spec hi hs.1.1.2) (by simpa using hs.1.2)
    (.inl ⟨hw, fun w _ => hy w⟩) trivial (fun hm => by rw [hs.2] at hm; cases hm) h
/-- The next of D that may be taken first. -/
def nextOf (ops : Array Oper) (D : List Nat) (l : Array Bool) : Nat := (D.find? fun i => (Region.ready .any ops l).contains i && Region.free .any ops l i).getD ops.size
theorem nextOf_spec {l : Array Bool} {oi : Oper} (h : ops[nextOf ops D l]? = some oi) : Region.free .any ops l (nextOf ops D l) = true ∧ (Region.ready .any ops l).contains (nextOf ops D l) = true ∧ nextOf ops D l ∈ D := by
  unfold nextOf at *
  cases hf : D.find? fun i => (Region.ready .any ops l).contains i && Region.free .any ops l i with
  | none => rw [hf] at h; simp at h
  | some i =>
    have h1 := List.find?_some hf
    simp only [Bool.and_eq_true] at h1
    exact ⟨h1.2, h1.1, List.mem_of_find?_eq_some hf⟩
theorem rg_next {oi : Oper} {v : Value} {n : Nat} {l : Array Bool} {a : Act} {w : World} (hS : S w) (hi : ops[nextOf ops D l]? = some oi) (hs : Region.noSelect ops = true)
    (hQ : ∀ c a w, Q (.panic c) (a.put oi.dst v) w → Q (.panic c) a w) (hw : Region.wanted oi (yielded ops a.tmps) = true)
    (hy : ∀ w, S w → (execOp a.eval oi).run P w = .ok (.value v) w) {a' : Act} (ha : a.put oi.dst v = a') {l' : Array Bool} (hl : l.setIfInBounds (nextOf ops D l) true = l')
    (h : Held P ops Q D S n l' a' w) : Held P ops Q D S (n + 1) l a w := by
  subst ha; subst hl
  obtain ⟨h1, h2, h3⟩ := nextOf_spec hi
  exact Held.take hi (by simp only [Bool.and_eq_true]; exact ⟨⟨⟨hs, h1⟩, h2⟩, by simpa using h3⟩) hQ hS (.inl ⟨hw, hy⟩) h
theorem rg_nskip {oi : Oper} {n : Nat} {l : Array Bool} {a : Act} {w : World} (hS : S w) (hi : ops[nextOf ops D l]? = some oi) (hs : Region.noSelect ops = true)
    (hQ : ∀ c a w, Q (.panic c) (a.put oi.dst undef) w → Q (.panic c) a w) (hw : Region.wanted oi (yielded ops a.tmps) = false) {a' : Act} (ha : a.put oi.dst undef = a') {l' : Array Bool} (hl : l.setIfInBounds (nextOf ops D l) true = l')
    (h : Held P ops Q D S n l' a' w) : Held P ops Q D S (n + 1) l a w := by
  subst ha; subst hl
  obtain ⟨h1, h2, h3⟩ := nextOf_spec hi
  exact Held.take hi (by simp only [Bool.and_eq_true]; exact ⟨⟨⟨hs, h1⟩, h2⟩, by simpa using h3⟩) hQ hS (.inr ⟨hw, rfl⟩) h
/-- Number i is the only one that may come up. -/
theorem rg_only (i : Nat) {o : Oper} {n : Nat} {l : Array Bool} {a : Act} {w : World} (hr : Region.ready .any ops l = [i]) (ho : ops[i]? = some o)
    (h : ∀ K : Act → World → Prop, (∀ a w, (mayWait ops D i = true → S w) ∧ Held P ops Q D S n (l.setIfInBounds i true) a w → K a w) →
      if Region.wanted o (yielded ops a.tmps) = true then Oper.wp P o a w K Q else K (a.put o.dst undef) w) : Held P ops Q D S (n + 1) l a w :=
  ⟨fun h0 => (by rw [h0] at hr; cases hr), fun j hj => by
    rw [hr, List.mem_singleton] at hj
    subst hj
    exact wpOp_step ho fun K hK => h K hK⟩
/-- .. and nobody waits any more. -/
theorem rg_free (i : Nat) {o : Oper} {n : Nat} {l : Array Bool} {a : Act} {w : World} (hr : Region.ready .any ops l = [i]) (hm : mayWait ops D i = false) (ho : ops[i]? = some o)
    (h : ∀ K : Act → World → Prop, (∀ a w, Held P ops Q D S n (l.setIfInBounds i true) a w → K a w) →
      if Region.wanted o (yielded ops a.tmps) = true then Oper.wp P o a w K Q else K (a.put o.dst undef) w) : Held P ops Q D S (n + 1) l a w :=
  rg_only i hr ho fun K hK => h K fun a w hh => hK a w ⟨fun h0 => (by rw [hm] at h0; cases h0), hh⟩
/-- The end. -/
theorem rg_done {l : Array Bool} {a : Act} {w : World} {n : Nat} (hr : Region.ready .any ops l = []) (h : Q .normal a w) : Held P ops Q D S n l a w := by
  cases n with
  | zero => exact ⟨hr, h⟩
  | succ n => exact ⟨fun _ => h, by rw [hr]; simp⟩
end
end Go.Proofs.Ytjcboeldmgmfcaa
end

/-
Plain law on a statement whose order Go leaves open: two operations may come up.
-/
section
namespace Go.Proofs.Ytjcboeldmgmfcaa

theorem rg_two {P : Program} {ops : Array Oper} {Q : Exit → Act → World → Prop} {D : List Nat} {S : World → Prop} (i j : Nat) {oi oj : Oper} {n : Nat} {l : Array Bool} {a : Act} {w : World} (hr : Region.ready .any ops l = [i, j]) (hi : ops[i]? = some oi) (hj : ops[j]? = some oj)
    (h1 : ∀ K : Act → World → Prop, (∀ a w, (mayWait ops D i = true → S w) ∧ Held P ops Q D S n (l.setIfInBounds i true) a w → K a w) →
      if Region.wanted oi (yielded ops a.tmps) = true then Oper.wp P oi a w K Q else K (a.put oi.dst undef) w)
    (h2 : ∀ K : Act → World → Prop, (∀ a w, (mayWait ops D j = true → S w) ∧ Held P ops Q D S n (l.setIfInBounds j true) a w → K a w) →
      if Region.wanted oj (yielded ops a.tmps) = true then Oper.wp P oj a w K Q else K (a.put oj.dst undef) w) : Held P ops Q D S (n + 1) l a w :=
  ⟨fun h0 => (by rw [h0] at hr; cases hr), fun k hk => by
    rw [hr] at hk
    simp only [List.mem_cons, List.not_mem_nil, or_false] at hk
    rcases hk with rfl | rfl
    · exact wpOp_step hi fun K hK => h1 K hK
    · exact wpOp_step hj fun K hK => h2 K hK⟩
end Go.Proofs.Ytjcboeldmgmfcaa
end

/-
Plain laws on a statement whose order Go leaves open, the second form: what may still be waiting must be kept only as far as it stood; what only computes asks nothing.
-/
section
namespace Go.Proofs.Ytjcboeldmgmfcaa

section
variable {P : Program} {ops : Array Oper} {Q : Exit → Act → World → Prop} {D : List Nat} {S : World → Prop}

def HeldP (P : Program) (ops : Array Oper) (Q : Exit → Act → World → Prop) (D : List Nat) (S : World → Prop) : Nat → Array Bool → Act → World → Prop
  | 0, l, a, w => Region.ready .any ops l = [] ∧ Q .normal a w
  | n + 1, l, a, w => (Region.ready .any ops l = [] → Q .normal a w) ∧
      ∀ i ∈ Region.ready .any ops l, wpOp P ops Q i (fun a' w' => (mayWait ops D i = true → S w → S w') ∧ HeldP P ops Q D S n (l.setIfInBounds i true) a' w') a w

theorem HeldP.any : ∀ (n : Nat) (l : Array Bool) (a : Act) (w : World), HeldP P ops Q D S n l a w → wpAny P .any ops Q n l a w
  | 0, _, _, _, h => h
  | n + 1, _, _, _, h => ⟨h.1, fun i hi => wpOp_mono (fun a' w' h' => HeldP.any n _ a' w' h'.2) (h.2 i hi)⟩

theorem HeldP.first {S' : World → Prop} {i : Nat} {oi : Oper} {v : Value} (hi : ops[i]? = some oi)
    (hD : ∀ (j : Nat) (oj : Oper) (w w' : World), ops[j]? = some oj → j ≠ i → (∀ e ∈ oj.after, Region.binds .any e = true → e.on ≠ i) → (mayWait ops D j = true → S w → S w') → S' w → S' w')
    (hsel : ∀ (j : Nat) (o : Oper) cs b, ops[j]? = some o → o.op ≠ .select cs b)
    (hQ : ∀ c a w, Q (.panic c) (a.put oi.dst v) w → Q (.panic c) a w) : ∀ (n : Nat) (l : Array Bool) (a : Act) (w : World),
      (∀ j oj, ops[j]? = some oj → j ≠ i → l.getD j true = false → (∀ e ∈ oj.after, Region.binds .any e = true → e.on ≠ i) → oi.apart ops oj = true) →
      i ∈ Region.ready .any ops l → YieldsIf P ops S' oi v a → S' w → HeldP P ops Q D S n (l.setIfInBounds i true) (a.put oi.dst v) w → HeldP P ops Q D S (n + 1) l a w := by
  intro n
  induction n with
  | zero =>
    intro l a w _ hr hy hS H
    refine ⟨fun h => (by rw [h] at hr; cases hr), fun j hj => ?_⟩
    by_cases hji : j = i
    · subst hji; exact hy.wpOp hi hS ⟨fun _ h => h, H⟩
    · have h1 := ready_mono hj hji
      rw [H.1] at h1
      cases h1
  | succ n ih =>
    intro l a w hfree hr hy hS H
    refine ⟨fun h => (by rw [h] at hr; cases hr), fun j hj => ?_⟩
    by_cases hji : j = i
    · subst hji; exact hy.wpOp hi hS ⟨fun _ h => h, H⟩
    have h1 := H.2 j (ready_mono hj hji)
    obtain ⟨hjun, oj, hoj, hall⟩ := mem_ready.1 hj
    have hnot : ∀ e ∈ oj.after, Region.binds .any e = true → e.on ≠ i := fun e he hb heq => by
      have h2 := hall e he hb
      have h3 := (mem_ready.1 hr).1
      rw [heq] at h2
      rcases Nat.lt_or_ge i l.size with h' | h'
      · simp [h'] at h2 h3; rw [h3] at h2; cases h2
      · simp [Array.getElem?_eq_none h'] at h2
    have h2 := wpOp_putIf hoj (hfree j oj hoj hji hjun hnot) (fun cs b => hsel i oi cs b hi) (fun cs b => hsel j oj cs b hoj) hQ hy h1
    refine wpOp_mono (fun a' w' h3 => ⟨h3.2.1, ih (l.setIfInBounds j true) a' w' (fun k ok hk hki hun hno => ?_) (ready_mono hr (Ne.symm hji)) h3.1 (hD j oj w w' hoj hji hnot h3.2.1 hS) ?_⟩) h2
    · refine hfree k ok hk hki ?_ hno
      by_cases hjk : j = k
      · subst hjk; exact hjun
      · rw [getD_set_ne true hjk] at hun; exact hun
    · rw [Array.setIfInBounds_comm _ _ hji]
      exact h3.2.2

theorem rp_enter (D : List Nat) (S : World → Prop) {id : Nat} {a : Act} {w : World} (hm : P.follows .mixedOrders = true)
    (h : HeldP P ops Q D S ops.size (Array.replicate ops.size false) a w.drew) : (Code.region id ops true).wp P Q a w :=
  wp_region_any hm (HeldP.any _ _ _ _ h)
theorem rp_take (i : Nat) {oi : Oper} {v : Value} {n : Nat} {l : Array Bool} {a : Act} {w : World} (hi : ops[i]? = some oi)
    (hs : (Region.noSelect ops && Region.free .any ops l i && (Region.ready .any ops l).contains i && D.contains i) = true)
    (hQ : ∀ c a w, Q (.panic c) (a.put oi.dst v) w → Q (.panic c) a w) (hS : S w) (hw : Region.wanted oi (yielded ops a.tmps) = true)
    (hy : ∀ w, S w → (execOp a.eval oi).run P w = .ok (.value v) w) {a' : Act} (ha : a.put oi.dst v = a')
    (h : HeldP P ops Q D S n (l.setIfInBounds i true) a' w) : HeldP P ops Q D S (n + 1) l a w := by
  subst ha
  simp only [Bool.and_eq_true] at hs
  exact HeldP.first (S' := S) hi (fun j oj w w' hj hne hno hm hS => hm (mayWait_of (by simpa using hs.2) hj hne hno) hS) (Region.noSelect_spec hs.1.1.1) hQ n l a w (Region.free_spec hi hs.1.1.2) (by simpa using hs.1.2) (.inl ⟨hw, hy⟩) hS h
theorem rp_skip (i : Nat) {oi : Oper} {n : Nat} {l : Array Bool} {a : Act} {w : World} (hi : ops[i]? = some oi)
    (hs : (Region.noSelect ops && Region.free .any ops l i && (Region.ready .any ops l).contains i) = true)
    (hQ : ∀ c a w, Q (.panic c) (a.put oi.dst undef) w → Q (.panic c) a w) (hw : Region.wanted oi (yielded ops a.tmps) = false) {a' : Act} (ha : a.put oi.dst undef = a')
    (h : HeldP P ops Q D S n (l.setIfInBounds i true) a' w) : HeldP P ops Q D S (n + 1) l a w := by
  subst ha
  simp only [Bool.and_eq_true] at hs
  exact HeldP.first (S' := fun _ => True) hi (fun _ _ _ _ _ _ _ _ _ => trivial) (Region.noSelect_spec hs.1.1) hQ n l a w (Region.free_spec hi hs.1.2) (by simpa using hs.2) (.inr ⟨hw, rfl⟩) trivial h
theorem rp_pure (i : Nat) {oi : Oper} {v : Value} {n : Nat} {l : Array Bool} {a : Act} {w : World} (hi : ops[i]? = some oi)
    (hs : (Region.noSelect ops && Region.free .any ops l i && (Region.ready .any ops l).contains i) = true)
    (hQ : ∀ c a w, Q (.panic c) (a.put oi.dst v) w → Q (.panic c) a w) (hw : Region.wanted oi (yielded ops a.tmps) = true)
    (hy : ∀ w, (execOp a.eval oi).run P w = .ok (.value v) w) {a' : Act} (ha : a.put oi.dst v = a')
    (h : HeldP P ops Q D S n (l.setIfInBounds i true) a' w) : HeldP P ops Q D S (n + 1) l a w := by
  subst ha
  simp only [Bool.and_eq_true] at hs
  exact HeldP.first (S' := fun _ => True) hi (fun _ _ _ _ _ _ _ _ _ => trivial) (Region.noSelect_spec hs.1.1) hQ n l a w (Region.free_spec hi hs.1.2) (by simpa using hs.2) (.inl ⟨hw, fun w _ => hy w⟩) trivial h
theorem rp_only (i : Nat) {o : Oper} {n : Nat} {l : Array Bool} {a : Act} {w : World} (hr : Region.ready .any ops l = [i]) (ho : ops[i]? = some o)
    (h : ∀ K : Act → World → Prop, (∀ a w', (mayWait ops D i = true → S w → S w') ∧ HeldP P ops Q D S n (l.setIfInBounds i true) a w' → K a w') →
      if Region.wanted o (yielded ops a.tmps) = true then Oper.wp P o a w K Q else K (a.put o.dst undef) w) : HeldP P ops Q D S (n + 1) l a w :=
  ⟨fun h0 => (by rw [h0] at hr; cases hr), fun j hj => by
    rw [hr, List.mem_singleton] at hj
    subst hj
    exact wpOp_step ho fun K hK => h K hK⟩
theorem rp_free (i : Nat) {o : Oper} {n : Nat} {l : Array Bool} {a : Act} {w : World} (hr : Region.ready .any ops l = [i]) (hm : mayWait ops D i = false) (ho : ops[i]? = some o)
    (h : ∀ K : Act → World → Prop, (∀ a w', HeldP P ops Q D S n (l.setIfInBounds i true) a w' → K a w') →
      if Region.wanted o (yielded ops a.tmps) = true then Oper.wp P o a w K Q else K (a.put o.dst undef) w) : HeldP P ops Q D S (n + 1) l a w :=
  rp_only i hr ho fun K hK => h K fun a w hh => hK a w ⟨fun h0 => (by rw [hm] at h0; cases h0), hh⟩
theorem rp_two (i j : Nat) {oi oj : Oper} {n : Nat} {l : Array Bool} {a : Act} {w : World} (hr : Region.ready .any ops l = [i, j]) (hi : ops[i]? = some oi) (hj : ops[j]? = some oj)
    (h1 : ∀ K : Act → World → Prop, (∀ a w', (mayWait ops D i = true → S w → S w') ∧ HeldP P ops Q D S n (l.setIfInBounds i true) a w' → K a w') →
      if Region.wanted oi (yielded ops a.tmps) = true then Oper.wp P oi a w K Q else K (a.put oi.dst undef) w)
    (h2 : ∀ K : Act → World → Prop, (∀ a w', (mayWait ops D j = true → S w → S w') ∧ HeldP P ops Q D S n (l.setIfInBounds j true) a w' → K a w') →
      if Region.wanted oj (yielded ops a.tmps) = true then Oper.wp P oj a w K Q else K (a.put oj.dst undef) w) : HeldP P ops Q D S (n + 1) l a w :=
  ⟨fun h0 => (by rw [h0] at hr; cases hr), fun k hk => by
    rw [hr] at hk
    simp only [List.mem_cons, List.not_mem_nil, or_false] at hk
    rcases hk with rfl | rfl
    · exact wpOp_step hi fun K hK => h1 K hK
    · exact wpOp_step hj fun K hK => h2 K hK⟩
theorem rp_done {l : Array Bool} {a : Act} {w : World} {n : Nat} (hr : Region.ready .any ops l = []) (h : Q .normal a w) : HeldP P ops Q D S n l a w := by
  cases n with
  | zero => exact ⟨hr, h⟩
  | succ n => exact ⟨fun _ => h, by rw [hr]; simp⟩
end
end Go.Proofs.Ytjcboeldmgmfcaa
end

/-
A statement whose order Go leaves open, in the abstract: one order that stands for all.
-/
section
namespace Go.Proofs.Ytjcboeldmgmfcaa.A
open Go.RowKit

/-- Which operations stand ahead of which, by whatever way: as numbers whose bits are asked. -/
def orL (B : List Nat) (l : List Edge) : Nat := l.foldl (fun s e => s ||| (match Region.binds .any e with | true => 2 ^ e.on ||| B.getD e.on 0 | false => 0)) 0
def befC (ops : Array Oper) : List Nat := ops.toList.foldl (fun B o => B ++ [orL B o.after.toList]) []
def befOk (ops : Array Oper) (B : List Nat) : Bool :=
  (List.range ops.size).all fun j => match ops[j]? with
    | none => true
    | some o => o.after.toList.all (fun e => !Region.binds .any e || Nat.blt e.on j) && Nat.beq (B.getD j 0) (orL B o.after.toList)
/-- What only hands on: whatever the memory. -/
def pureOp : Op → Bool
  | .move _ | .assign _ | .extract _ _ => true
  | _ => false
theorem pureRun {P : Program} {ρ : Operand → Value} {o : Oper} {v : Value} {w : World} (hp : pureOp o.op = true) (h : (execOp ρ o).run P w = .ok (.value v) w) (w' : World) : (execOp ρ o).run P w' = .ok (.value v) w' := by
  cases ho : o.op <;> rw [ho] at hp <;> simp only [pureOp] at hp <;> try cases hp
  · simp only [execOp, ho] at h ⊢; simpa using h
  · simp only [execOp, ho] at h ⊢; simpa using h
  · rename_i x i
    simp only [execOp, ho] at h ⊢
    revert h
    unfold Instr.extract
    generalize ρ x = u
    cases u with
    | tuple vs =>
      simp only
      generalize vs[i]? = q
      cases q <;> simp
    | _ => simp
def mayT (ops : Array Oper) (B : List Nat) (j : Nat) : Bool :=
  (List.range ops.size).any fun i => !(((ops[i]?).map fun o => isEff o.op || pureOp o.op).getD true) && i != j && !(B.getD j 0).testBit i && !(B.getD i 0).testBit j
theorem orL_bit {B : List Nat} {i : Nat} : ∀ (l : List Edge) (s : Nat), (l.foldl (fun s e => s ||| (match Region.binds .any e with | true => 2 ^ e.on ||| B.getD e.on 0 | false => 0)) s).testBit i = true →
    s.testBit i = true ∨ ∃ e ∈ l, Region.binds .any e = true ∧ (e.on = i ∨ (B.getD e.on 0).testBit i = true)
  | [], s, h => .inl h
  | e :: l, s, h => by
    rw [List.foldl_cons] at h
    rcases orL_bit l _ h with h | ⟨x, hx, h1, h2⟩
    · rw [Nat.testBit_or, Bool.or_eq_true] at h
      rcases h with h | h
      · exact .inl h
      · cases hb : Region.binds .any e with
        | false => rw [hb] at h; simp at h
        | true =>
          rw [hb] at h
          simp only [Nat.testBit_or, Bool.or_eq_true, Nat.testBit_two_pow, decide_eq_true_eq] at h
          exact .inr ⟨e, by simp, hb, h⟩
    · exact .inr ⟨x, by simp [hx], h1, h2⟩

section
variable {P : Program} {ops : Array Oper} {B : List Nat} {Q : Exit → Act → World → Prop}
/-- What has come up is closed under 'ahead'. -/
def Cl (ops : Array Oper) (l : Array Bool) : Prop := ∀ j o, ops[j]? = some o → l.getD j false = true → ∀ e ∈ o.after, Region.binds .any e = true → l.getD e.on false = true
theorem anc (hB : befOk ops B = true) {l : Array Bool} (hl : Cl ops l) : ∀ (j : Nat) (o : Oper), ops[j]? = some o → (∀ e ∈ o.after, Region.binds .any e = true → l.getD e.on false = true) → ∀ i, (B.getD j 0).testBit i = true → l.getD i false = true := by
  intro j
  induction j using Nat.strongRecOn with
  | _ j ih =>
    intro o ho hall i hi
    have h1 := List.all_eq_true.1 hB j (List.mem_range.2 (Array.getElem?_eq_some_iff.1 ho).1)
    rw [ho] at h1
    simp only [Bool.and_eq_true] at h1
    obtain ⟨h2, h3⟩ := h1
    rw [Nat.eq_of_beq_eq_true h3] at hi
    rcases orL_bit _ _ hi with h | ⟨e, he, hb, h⟩
    · simp at h
    · have he' : e ∈ o.after := by simpa using he
      have hl1 := hall e he' hb
      rcases h with rfl | h
      · exact hl1
      · have hlt := List.all_eq_true.1 h2 e he
        simp only [hb, Bool.not_true, Bool.false_or] at hlt
        have hlt : e.on < j := by simpa using hlt
        have hsz : e.on < ops.size := Nat.lt_trans hlt (Array.getElem?_eq_some_iff.1 ho).1
        exact ih e.on hlt ops[e.on] (Array.getElem?_eq_getElem hsz) (fun e' he2 hb2 => hl e.on _ (Array.getElem?_eq_getElem hsz) hl1 e' he2 hb2) i h
theorem Cl.set {l : Array Bool} (hl : Cl ops l) {j : Nat} (hj : j ∈ Region.ready .any ops l) : Cl ops (l.setIfInBounds j true) := by
  obtain ⟨hjun, oj, hoj, hall⟩ := mem_ready.1 hj
  intro k o hk hlk e he hb
  refine getD_set_true ?_
  by_cases hkj : k = j
  · subst hkj
    rw [hoj] at hk
    cases hk
    exact hall e he hb
  · rw [getD_set_ne false (Ne.symm hkj)] at hlk
    exact hl k o hk hlk e he hb
def HeldR (P : Program) (ops : Array Oper) (B : List Nat) (Q : Exit → Act → World → Prop) : Nat → Array Bool → Act → World → Prop
  | 0, l, a, w => Region.ready .any ops l = [] ∧ Q .normal a w
  | n + 1, l, a, w => (Region.ready .any ops l = [] → Q .normal a w) ∧
      ∀ i ∈ Region.ready .any ops l, wpOp P ops Q i (fun a' w' => (mayT ops B i = true → Old w w') ∧ HeldR P ops B Q n (l.setIfInBounds i true) a' w') a w
theorem HeldR.any : ∀ (n : Nat) (l : Array Bool) (a : Act) (w : World), HeldR P ops B Q n l a w → wpAny P .any ops Q n l a w
  | 0, _, _, _, h => h
  | n + 1, _, _, _, h => ⟨h.1, fun i hi => wpOp_mono (fun a' w' h' => HeldR.any n _ a' w' h'.2) (h.2 i hi)⟩
theorem HeldR.first (hB : befOk ops B = true) {i : Nat} {oi : Oper} {v : Value} (hi : ops[i]? = some oi) (hdet : isEff oi.op = false)
    (hsel : ∀ (j : Nat) (o : Oper) cs b, ops[j]? = some o → o.op ≠ .select cs b)
    (hQ : ∀ c a w, Q (.panic c) (a.put oi.dst v) w → Q (.panic c) a w) {S : World → Prop} (hk : ∀ w w', S w → (pureOp oi.op = false → Old w w') → S w') : ∀ (n : Nat) (l : Array Bool) (a : Act) (w : World), Cl ops l →
      (∀ j oj, ops[j]? = some oj → j ≠ i → l.getD j true = false → (∀ e ∈ oj.after, Region.binds .any e = true → e.on ≠ i) → oi.apart ops oj = true) →
      i ∈ Region.ready .any ops l → YieldsIf P ops S oi v a → S w → HeldR P ops B Q n (l.setIfInBounds i true) (a.put oi.dst v) w → HeldR P ops B Q (n + 1) l a w := by
  intro n
  induction n with
  | zero =>
    intro l a w _ _ hr hy hS H
    refine ⟨fun h => (by rw [h] at hr; cases hr), fun j hj => ?_⟩
    by_cases hji : j = i
    · subst hji; exact hy.wpOp hi hS ⟨fun _ => Old.refl _, H⟩
    · have h1 := ready_mono hj hji
      rw [H.1] at h1
      cases h1
  | succ n ih =>
    intro l a w hcl hfree hr hy hS H
    refine ⟨fun h => (by rw [h] at hr; cases hr), fun j hj => ?_⟩
    by_cases hji : j = i
    · subst hji; exact hy.wpOp hi hS ⟨fun _ => Old.refl _, H⟩
    have h1 := H.2 j (ready_mono hj hji)
    obtain ⟨hjun, oj, hoj, hall⟩ := mem_ready.1 hj
    obtain ⟨hiun, oi', hoi', halli⟩ := mem_ready.1 hr
    rw [hi] at hoi'
    cases hoi'
    have unl : ∀ k, l.getD k true = false → l.getD k false = true → False := by
      intro k h1 h2
      rcases Nat.lt_or_ge k l.size with h' | h'
      · simp [h'] at h1 h2; rw [h1] at h2; cases h2
      · simp [Array.getElem?_eq_none h'] at h2
    have hnot : ∀ e ∈ oj.after, Region.binds .any e = true → e.on ≠ i := fun e he hb heq => unl i hiun (heq ▸ hall e he hb)
    have hmay : pureOp oi.op = false → mayT ops B j = true := by
      intro hpu
      refine List.any_eq_true.2 ⟨i, List.mem_range.2 (Array.getElem?_eq_some_iff.1 hi).1, ?_⟩
      have hne : (i != j) = true := by rw [bne_iff_ne]; exact fun h => hji h.symm
      have b1 : (B.getD j 0).testBit i = false := by
        rw [← Bool.not_eq_true]; exact fun h => unl i hiun (anc hB hcl j oj hoj hall i h)
      have b2 : (B.getD i 0).testBit j = false := by
        rw [← Bool.not_eq_true]; exact fun h => unl j hjun (anc hB hcl i oi hi halli j h)
      simp only [hi, Option.map_some, Option.getD_some, hdet, hpu, hne, b1, b2, Bool.or_false, Bool.not_false, Bool.and_true]
    have h2 := wpOp_putIf hoj (hfree j oj hoj hji hjun hnot) (fun cs b => hsel i oi cs b hi) (fun cs b => hsel j oj cs b hoj) hQ hy h1
    refine wpOp_mono (fun a' w' h3 => ⟨h3.2.1, ih (l.setIfInBounds j true) a' w' (hcl.set hj) (fun k ok hk hki hun hno => ?_) (ready_mono hr (Ne.symm hji)) h3.1 (hk _ _ hS fun hp => h3.2.1 (hmay hp)) ?_⟩) h2
    · refine hfree k ok hk hki ?_ hno
      by_cases hjk : j = k
      · subst hjk; exact hjun
      · rw [getD_set_ne true hjk] at hun; exact hun
    · rw [Array.setIfInBounds_comm _ _ hji]
      exact h3.2.2

theorem HeldR.first1 (hB : befOk ops B = true) {i : Nat} {oi : Oper} {v : Value} (hi : ops[i]? = some oi) (hdet : isEff oi.op = false)
    (hsel : ∀ (j : Nat) (o : Oper) cs b, ops[j]? = some o → o.op ≠ .select cs b)
    (hQ : ∀ c a w, Q (.panic c) (a.put oi.dst v) w → Q (.panic c) a w) (n : Nat) (l : Array Bool) (a : Act) (w : World) (hcl : Cl ops l)
    (hfree : ∀ j oj, ops[j]? = some oj → j ≠ i → l.getD j true = false → (∀ e ∈ oj.after, Region.binds .any e = true → e.on ≠ i) → oi.apart ops oj = true)
    (hr : i ∈ Region.ready .any ops l) (hy : YieldsIf P ops (Old w) oi v a) (H : HeldR P ops B Q n (l.setIfInBounds i true) (a.put oi.dst v) w) : HeldR P ops B Q (n + 1) l a w := by
  cases hp : pureOp oi.op with
  | true =>
    refine HeldR.first hB hi hdet hsel hQ (S := fun _ => True) (fun _ _ _ _ => trivial) n l a w hcl hfree hr ?_ trivial H
    rcases hy with ⟨h1, h2⟩ | h
    · exact .inl ⟨h1, fun w' _ => pureRun hp (h2 w (Old.refl w)) w'⟩
    · exact .inr h
  | false =>
    exact HeldR.first hB hi hdet hsel hQ (S := Old w) (fun _ _ h1 h2 => h1.trans (h2 hp)) n l a w hcl hfree hr hy (Old.refl w) H

def qOf : Op → Bool
  | .store _ _ _ => false
  | .call ⟨.builtin .append, _, _⟩ => false
  | _ => true
/-- Is such an order one that stands for all? -/
def drawOk (ops : Array Oper) (B : List Nat) : List Nat → Array Bool → Bool
  | [], l => (Region.ready .any ops l).isEmpty
  | i :: r, l => (match ops[i]? with
      | none => false
      | some o => match isEff o.op with
        | true => (match Region.ready .any ops l with | [j] => Nat.beq i j | _ => false) && (qOf o.op || !mayT ops B i)
        | false => Region.free .any ops l i && (Region.ready .any ops l).contains i) && drawOk ops B r (l.setIfInBounds i true)
def opsD (P : Program) (T : Tys) (n : Nat) (ops : Array Oper) : List Nat → Fr → List AB → (Fr → List AB → Prop) → Prop
  | [], fr, H, K => K fr H
  | i :: r, fr, H, K => match lget ops.toList i with
    | none => False
    | some o => guardK ops.toList o fr (fun fr => stepK P T n (qOf o.op) o fr H fun fr H => opsD P T n ops r fr H K) fun fr => putK n o.dst (.v undef) fr fun fr => opsD P T n ops r fr H K
variable {T : Tys} {w0 : Fl} {M0 : Ms} {n d0 : Nat} {ce : Ctx}
theorem guardK_sound {c : Ctx} {fr : Fr} {a : Act} (hf : FR w0 c n fr a) {o : Oper} {run skip : Fr → Prop} (h : guardK ops.toList o fr run skip) :
    (Region.wanted o (yielded ops a.tmps) = true ∧ ∃ fr', FR w0 c n fr' a ∧ run fr') ∨ (Region.wanted o (yielded ops a.tmps) = false ∧ ∃ fr', FR w0 c n fr' a ∧ skip fr') := by
  unfold guardK at h
  split at h
  · rename_i hg
    exact .inl ⟨by simp [Region.wanted, hg], fr, hf, h⟩
  · rename_i j want hg
    rw [lget_eq] at h
    split at h
    · rename_i oj hj
      have hj' : ops[j]? = some oj := by simpa using hj
      split at h
      · rename_i d hd
        have hgd := hf.get d
        split at h
        · rename_i t ht
          rw [ht] at hgd
          simp only [Rd] at hgd
          have hy : yielded ops a.tmps j = some t := by
            unfold yielded
            simp only [hj', Option.bind_some, hd]
            have : a.tmps[d]? = some (.bool t) := by
              rw [Array.getD_eq_getD_getElem?] at hgd
              cases hq : a.tmps[d]? with
              | none => rw [hq] at hgd; simp [undef] at hgd
              | some x => rw [hq] at hgd; simp at hgd; rw [hgd]
            rw [this]
          have hl := hf.lit ht
          split at h
          · obtain ⟨h1, h2⟩ := boolK_iff h
            cases t with
            | true => exact .inl ⟨by simp [Region.wanted, hg, hy], _, hl, h1 rfl⟩
            | false => exact .inr ⟨by simp [Region.wanted, hg, hy], _, hl, h2 rfl⟩
          · obtain ⟨h1, h2⟩ := boolK_iff h
            cases t with
            | true => exact .inr ⟨by simp [Region.wanted, hg, hy], _, hl, h1 rfl⟩
            | false => exact .inl ⟨by simp [Region.wanted, hg, hy], _, hl, h2 rfl⟩
        · rename_i vs ht
          rw [ht] at hgd
          simp only [Rd] at hgd
          have hy : yielded ops a.tmps j = none := by
            unfold yielded
            simp only [hj', Option.bind_some, hd]
            rw [Array.getD_eq_getD_getElem?] at hgd
            cases hq : a.tmps[d]? with
            | none => rfl
            | some x => rw [hq] at hgd; simp at hgd; rw [hgd]
          exact .inr ⟨by simp [Region.wanted, hg, hy], fr, hf, h⟩
        · exact h.elim
      · exact h.elim
    · exact h.elim
theorem opsD_sound (hT : TOk P T) (hB : befOk ops B = true) (hns : Region.noSelect ops = true) {K : Fr → List AB → Prop} (hq : ∀ a w, Lift w0 M0 ce n K a w → Q .normal a w) (hpan : ∀ c a w, ¬ Q (.panic c) a w) :
    ∀ (r : List Nat) (m : Nat) (l : Array Bool) (c : Ctx) (fr : Fr) (H : List AB) (a : Act), r.length ≤ m → Cl ops l → drawOk ops B r l = true → HS w0 M0 c H → FR w0 c n fr a → Ext ce c → opsD P T n ops r fr H K → HeldR P ops B Q m l a c.w
  | [], m, l, c, fr, H, a, hm, hcl, hd, hs, hf, he, h => by
    simp only [drawOk, List.isEmpty_iff] at hd
    cases m with
    | zero => exact ⟨hd, hq _ _ ⟨c, fr, H, rfl, h, hs, hf, he⟩⟩
    | succ m => exact ⟨fun _ => hq _ _ ⟨c, fr, H, rfl, h, hs, hf, he⟩, by rw [hd]; simp⟩
  | i :: r, m, l, c, fr, H, a, hm, hcl, hd, hs, hf, he, h => by
    cases m with
    | zero => simp at hm
    | succ m =>
      simp only [List.length_cons, Nat.add_le_add_iff_right] at hm
      simp only [drawOk, Bool.and_eq_true] at hd
      obtain ⟨hd1, hd2⟩ := hd
      simp only [opsD, lget_eq] at h
      cases ho : ops[i]? with
      | none => rw [ho] at hd1; simp at hd1
      | some o =>
        rw [ho] at hd1
        simp only at hd1
        rw [show ops.toList[i]? = some o by simpa using ho] at h
        simp only at h
        cases hE : isEff o.op with
        | true =>
          rw [hE] at hd1
          simp only [Bool.and_eq_true] at hd1
          obtain ⟨hr, hmq⟩ := hd1
          have hr' : Region.ready .any ops l = [i] := by
            split at hr
            · rename_i j hj; rw [hj, Nat.eq_of_beq_eq_true hr]
            · cases hr
          have hri : i ∈ Region.ready .any ops l := by rw [hr']; simp
          refine ⟨fun h0 => (by rw [hr'] at h0; cases h0), fun j hj => ?_⟩
          rw [hr', List.mem_singleton] at hj
          subst hj
          refine wpOp_step ho fun KK hK => ?_
          rcases guardK_sound hf h with ⟨hw, fr', hf', h⟩ | ⟨hw, fr', hf', h⟩
          · rw [if_pos hw]
            refine stepK_sound hT hs hf' he h ?_
            rintro a' w' ⟨c', fr2, H', rfl, h1, h2, h3, h4⟩ hold
            refine hK _ _ ⟨fun hmay => hold ?_, opsD_sound hT hB hns hq hpan r m _ c' fr2 H' a' hm (hcl.set hri) hd2 h2 h3 h4 h1⟩
            rw [hmay] at hmq
            simpa using hmq
          · rw [if_neg (by rw [hw]; simp)]
            obtain ⟨fr2, h1, h2⟩ := putK_sound (v := undef) hf' (by simp [Rd]) h
            exact hK _ _ ⟨fun _ => Old.refl _, opsD_sound hT hB hns hq hpan r m _ c fr2 H _ hm (hcl.set hri) hd2 hs h2 he h1⟩
        | false =>
          rw [hE] at hd1
          simp only [Bool.and_eq_true] at hd1
          obtain ⟨hfree, hr⟩ := hd1
          have hri : i ∈ Region.ready .any ops l := by simpa using hr
          have step : ∀ v fr2, YieldsIf P ops (Old c.w) o v a → FR w0 c n fr2 (a.put o.dst v) → opsD P T n ops r fr2 H K → HeldR P ops B Q (m + 1) l a c.w := by
            intro v fr2 hy hf2 h2
            exact HeldR.first1 hB ho hE (Region.noSelect_spec hns) (fun c a w h => (hpan _ _ _ h).elim) m l a c.w hcl (Region.free_spec ho hfree) hri hy
              (opsD_sound hT hB hns hq hpan r m _ c fr2 H _ hm (hcl.set hri) hd2 hs hf2 he h2)
          rcases guardK_sound hf h with ⟨hw, fr', hf', h⟩ | ⟨hw, fr', hf', h⟩
          · unfold stepK at h
            rw [hE] at h
            obtain ⟨rr, v, h1, h2, h3⟩ := (det_sound hT hs hf' h).y
            obtain ⟨fr2, h4, h5⟩ := putK_sound hf' h3 h1
            exact step v fr2 (.inl ⟨hw, h2⟩) h5 h4
          · obtain ⟨fr2, h4, h5⟩ := putK_sound (v := undef) hf' (by simp [Rd]) h
            exact step undef fr2 (.inr ⟨hw, rfl⟩) h5 h4
def drawAll (ops : Array Oper) (ord : List Nat) : Bool := befOk ops (befC ops) && Region.noSelect ops && Nat.ble ord.length ops.size && drawOk ops (befC ops) ord (Array.replicate ops.size false)
theorem aDraw.of (hT : TOk P T) (hm : P.follows .mixedOrders = true) {id : Nat} {K : Fr → List AB → Prop} {fr : Fr} {H : List AB} (ord : List Nat) (hok : drawAll ops ord = true) (h : opsD P T n ops ord fr H K) : aDraw P T n d0 id ops K fr H := by
  simp only [drawAll, Bool.and_eq_true] at hok
  obtain ⟨⟨⟨hB, hns⟩, hlen⟩, hok⟩ := hok
  refine ⟨fun w0 M0 ce c a hs hf he hd Q hQ => ?_⟩
  refine wp_mono (Q := fun e a w => e = .normal ∧ Lift w0 M0 ce n K a w) ?_ ?_
  · refine wp_region_any hm (HeldR.any (B := befC ops) _ _ _ _ ?_)
    have hb := (Below.refl c.w.heap.size c.w).drew
    obtain ⟨h1, h2⟩ := hs.grow hb
    refine opsD_sound (w0 := w0) (M0 := M0) (ce := ce) hT hB hns (fun a w hl => ⟨rfl, hl⟩) (fun c a w h => by cases h.1) ord _ _ { c with w := c.w.drew } fr H a (Nat.le_of_ble_eq_true hlen) ?_ hok h1 (hf.ext h2) (he.trans h2) h
    intro j o hj hlj
    rcases Nat.lt_or_ge j ops.size with h' | h'
    · simp [h'] at hlj
    · simp [Array.getElem?_eq_none h'] at hj
  · rintro e a w ⟨rfl, c', fr', H', rfl, h1, h2, h3, h4⟩
    exact hQ c' fr' H' a h1 h2 h3 h4
end
end Go.Proofs.Ytjcboeldmgmfcaa.A
namespace Go.Proofs.Ytjcboeldmgmfcaa.A
open Go.RowKit
/-- A loop by a state that hangs on a ghost. -/
theorem aLoop.rule {d0 : Nat} {body : QA → Fr → List AB → Prop} {Q : QA} {fr : Fr} {H : List AB} (ι : Type) (st : ι → Fr × List AB) (I : ι → Prop) (μ : ι → Nat) (x0 : ι) (h0 : I x0) (hw : Wk d0 fr H (st x0).1 (st x0).2)
    (round : ∀ x, I x → body (fun ex fr' H' => match ex with | .normal => ∃ x', I x' ∧ μ x' < μ x ∧ Wk d0 fr' H' (st x').1 (st x').2 | e => Q e fr' H') (st x).1 (st x).2) : aLoop d0 body Q fr H :=
  ⟨.inr (.inl ⟨ι, st, I, μ, ⟨x0, h0, hw⟩, round⟩)⟩
theorem aDraw.seq {P : Program} {T : Tys} {n d0 : Nat} (hT : TOk P T) (hm : P.follows .mixedOrders = true) {id : Nat} {ops : Array Oper} {K : Fr → List AB → Prop} {fr : Fr} {H : List AB} (hok : drawAll ops (List.range ops.size) = true) (h : opsD P T n ops (List.range ops.size) fr H K) : aDraw P T n d0 id ops K fr H :=
  aDraw.of hT hm _ hok h
end Go.Proofs.Ytjcboeldmgmfcaa.A
end

/-
A statement whose order Go leaves open where ways part: a tree of orders; all ways lead to one state.
-/
section
namespace Go.Proofs.Ytjcboeldmgmfcaa.A
open Go.RowKit

/-- What a test says where it is true, and where it is false. -/
class Say (b : Bool) (p q : outParam Prop) : Prop where
  yes : b = true → p
  no : b = false → q
theorem boolI {t : Bool} {p q A B : Prop} [h : Say t p q] (h1 : p → A) (h2 : q → B) : boolK t A B := boolK_intro (fun e => h1 (h.yes e)) fun e => h2 (h.no e)
instance (priority := 10) sayAny (b : Bool) : Say b (b = true) (b = false) := ⟨id, id⟩
instance (priority := 100) sayDec (p : Prop) [Decidable p] : Say (decide p) p (¬ p) := ⟨of_decide_eq_true, of_decide_eq_false⟩
instance sayLt (a b : Int) : Say (decide (a < b)) (a < b) (b ≤ a) := ⟨of_decide_eq_true, fun h => Int.not_lt.1 (of_decide_eq_false h)⟩
instance sayLe (a b : Int) : Say (decide (a ≤ b)) (a ≤ b) (b < a) := ⟨of_decide_eq_true, fun h => Int.not_le.1 (of_decide_eq_false h)⟩
instance sayGt (a b : Int) : Say (decide (a > b)) (b < a) (a ≤ b) := ⟨of_decide_eq_true, fun h => Int.not_lt.1 (of_decide_eq_false h)⟩
instance sayGe (a b : Int) : Say (decide (a ≥ b)) (b ≤ a) (a < b) := ⟨of_decide_eq_true, fun h => Int.not_le.1 (of_decide_eq_false h)⟩
instance (priority := 2000) sayLtN (a b : Nat) : Say (decide ((a : Int) < (b : Int))) (a < b) (b ≤ a) := ⟨fun h => Int.ofNat_lt.1 (of_decide_eq_true h), fun h => Int.ofNat_le.1 (Int.not_lt.1 (of_decide_eq_false h))⟩
instance (priority := 2000) sayLeN (a b : Nat) : Say (decide ((a : Int) ≤ (b : Int))) (a ≤ b) (b < a) := ⟨fun h => Int.ofNat_le.1 (of_decide_eq_true h), fun h => Int.ofNat_lt.1 (Int.not_le.1 (of_decide_eq_false h))⟩
instance (priority := 2000) sayGtN (a b : Nat) : Say (decide ((a : Int) > (b : Int))) (b < a) (a ≤ b) := ⟨fun h => Int.ofNat_lt.1 (of_decide_eq_true h), fun h => Int.ofNat_le.1 (Int.not_lt.1 (of_decide_eq_false h))⟩
instance (priority := 2000) sayGeN (a b : Nat) : Say (decide ((a : Int) ≥ (b : Int))) (b ≤ a) (a < b) := ⟨fun h => Int.ofNat_le.1 (of_decide_eq_true h), fun h => Int.ofNat_lt.1 (Int.not_le.1 (of_decide_eq_false h))⟩
instance (priority := 2000) sayEqN (a b : Nat) : Say ((a : Int) == (b : Int)) (a = b) (a ≠ b) := ⟨fun h => Int.ofNat.inj (eq_of_beq h), fun h e => ne_of_beq_false h (by rw [e])⟩
instance (priority := 2000) sayNeN (a b : Nat) : Say ((a : Int) != (b : Int)) (a ≠ b) (a = b) := ⟨fun h e => bne_iff_ne.1 h (by rw [e]), fun h => Int.ofNat.inj (by simpa using h)⟩
instance sayEq {α : Type} [BEq α] [LawfulBEq α] (a b : α) : Say (a == b) (a = b) (a ≠ b) := ⟨eq_of_beq, fun h => ne_of_beq_false h⟩
instance sayNe {α : Type} [BEq α] [LawfulBEq α] (a b : α) : Say (a != b) (a ≠ b) (a = b) := ⟨fun h => bne_iff_ne.1 h, fun h => by simpa using h⟩
instance sayNot (b : Bool) (p q : Prop) [h : Say b p q] : Say (!b) q p := ⟨fun e => h.no (by simpa using e), fun e => h.yes (by simpa using e)⟩

inductive Tr where
  | fin
  | one (i : Nat) (r : Tr)
  | two (i : Nat) (a : Tr) (j : Nat) (b : Tr)
def Tr.depth : Tr → Nat
  | .fin => 0
  | .one _ r => r.depth + 1
  | .two _ a _ b => max a.depth b.depth + 1
section
variable {P : Program} {ops : Array Oper} {B : List Nat} {Q : Exit → Act → World → Prop}
def effq (ops : Array Oper) (B : List Nat) (i : Nat) : Bool := match ops[i]? with | some o => isEff o.op && (qOf o.op || !mayT ops B i) | none => false
def treeOk (ops : Array Oper) (B : List Nat) : Tr → Array Bool → Bool
  | .fin, l => (Region.ready .any ops l).isEmpty
  | .one i r, l => (match ops[i]? with
      | none => false
      | some o => match isEff o.op with
        | true => (match Region.ready .any ops l with | [j] => Nat.beq i j | _ => false) && (qOf o.op || !mayT ops B i)
        | false => Region.free .any ops l i && (Region.ready .any ops l).contains i) && treeOk ops B r (l.setIfInBounds i true)
  | .two i a j b, l => (match Region.ready .any ops l with | [x, y] => Nat.beq x i && Nat.beq y j | _ => false) && effq ops B i && effq ops B j && treeOk ops B a (l.setIfInBounds i true) && treeOk ops B b (l.setIfInBounds j true)
def stepT (P : Program) (T : Tys) (n : Nat) (ops : Array Oper) (i : Nat) (fr : Fr) (H : List AB) (K : Fr → List AB → Prop) : Prop :=
  match lget ops.toList i with
  | none => False
  | some o => guardK ops.toList o fr (fun fr => stepK P T n (qOf o.op) o fr H K) fun fr => putK n o.dst (.v undef) fr fun fr => K fr H
def opsT (P : Program) (T : Tys) (n : Nat) (ops : Array Oper) : Tr → Fr → List AB → (Fr → List AB → Prop) → Prop
  | .fin, fr, H, K => K fr H
  | .one i r, fr, H, K => stepT P T n ops i fr H fun fr H => opsT P T n ops r fr H K
  | .two i a j b, fr, H, K => (stepT P T n ops i fr H fun fr H => opsT P T n ops a fr H K) ∧ (stepT P T n ops j fr H fun fr H => opsT P T n ops b fr H K)
variable {T : Tys} {w0 : Fl} {M0 : Ms} {n d0 : Nat} {ce : Ctx}
theorem effT_sound (hT : TOk P T) {i : Nat} {o : Oper} (ho : ops[i]? = some o) {m : Nat} {l : Array Bool} (hmq : (qOf o.op || !mayT ops B i) = true) {c : Ctx} {fr : Fr} {H : List AB} {a : Act} (hs : HS w0 M0 c H) (hf : FR w0 c n fr a) (he : Ext ce c) {K : Fr → List AB → Prop}
    (hk : ∀ (c' : Ctx) (fr' : Fr) (H' : List AB) (a' : Act), HS w0 M0 c' H' → FR w0 c' n fr' a' → Ext ce c' → K fr' H' → HeldR P ops B Q m (l.setIfInBounds i true) a' c'.w)
    (h : stepT P T n ops i fr H K) : wpOp P ops Q i (fun a' w' => (mayT ops B i = true → Old c.w w') ∧ HeldR P ops B Q m (l.setIfInBounds i true) a' w') a c.w := by
  simp only [stepT, lget_eq] at h
  rw [show ops.toList[i]? = some o by simpa using ho] at h
  simp only at h
  refine wpOp_step ho fun KK hK => ?_
  rcases guardK_sound hf h with ⟨hw, fr', hf', h⟩ | ⟨hw, fr', hf', h⟩
  · rw [if_pos hw]
    refine stepK_sound hT hs hf' he h ?_
    rintro a' w' ⟨c', fr2, H', rfl, h1, h2, h3, h4⟩ hold
    refine hK _ _ ⟨fun hmay => hold ?_, hk c' fr2 H' a' h2 h3 h4 h1⟩
    rw [hmay] at hmq
    simpa using hmq
  · rw [if_neg (by rw [hw]; simp)]
    obtain ⟨fr2, h1, h2⟩ := putK_sound (v := undef) hf' (by simp [Rd]) h
    exact hK _ _ ⟨fun _ => Old.refl _, hk c fr2 H _ hs h2 he h1⟩
theorem opsT_sound (hT : TOk P T) (hB : befOk ops B = true) (hns : Region.noSelect ops = true) {K : Fr → List AB → Prop} (hq : ∀ a w, Lift w0 M0 ce n K a w → Q .normal a w) (hpan : ∀ c a w, ¬ Q (.panic c) a w) :
    ∀ (r : Tr) (m : Nat) (l : Array Bool) (c : Ctx) (fr : Fr) (H : List AB) (a : Act), r.depth ≤ m → Cl ops l → treeOk ops B r l = true → HS w0 M0 c H → FR w0 c n fr a → Ext ce c → opsT P T n ops r fr H K → HeldR P ops B Q m l a c.w
  | .fin, m, l, c, fr, H, a, hm, hcl, hd, hs, hf, he, h => by
    simp only [treeOk, List.isEmpty_iff] at hd
    cases m with
    | zero => exact ⟨hd, hq _ _ ⟨c, fr, H, rfl, h, hs, hf, he⟩⟩
    | succ m => exact ⟨fun _ => hq _ _ ⟨c, fr, H, rfl, h, hs, hf, he⟩, by rw [hd]; simp⟩
  | .two i x j y, m, l, c, fr, H, a, hm, hcl, hd, hs, hf, he, h => by
    cases m with
    | zero => simp [Tr.depth] at hm
    | succ m =>
      simp only [Tr.depth] at hm
      simp only [treeOk, Bool.and_eq_true] at hd
      obtain ⟨⟨⟨⟨hr, hi⟩, hj⟩, hx⟩, hy⟩ := hd
      have hr' : Region.ready .any ops l = [i, j] := by
        split at hr
        · rename_i p q hpq
          simp only [Bool.and_eq_true] at hr
          rw [hpq, Nat.eq_of_beq_eq_true hr.1, Nat.eq_of_beq_eq_true hr.2]
        · cases hr
      obtain ⟨h1, h2⟩ := h
      have go : ∀ k r, effq ops B k = true → r.depth ≤ m → k ∈ Region.ready .any ops l → treeOk ops B r (l.setIfInBounds k true) = true → (stepT P T n ops k fr H fun fr H => opsT P T n ops r fr H K) → (∀ (c : Ctx) (fr : Fr) (H : List AB) (a : Act), HS w0 M0 c H → FR w0 c n fr a → Ext ce c → opsT P T n ops r fr H K → HeldR P ops B Q m (l.setIfInBounds k true) a c.w) →
          wpOp P ops Q k (fun a' w' => (mayT ops B k = true → Old c.w w') ∧ HeldR P ops B Q m (l.setIfInBounds k true) a' w') a c.w := by
        intro k r hk _ _ _ hst hrec
        unfold effq at hk
        split at hk
        · rename_i o ho
          simp only [Bool.and_eq_true] at hk
          exact effT_sound hT ho hk.2 hs hf he hrec hst
        · cases hk
      refine ⟨fun h0 => (by rw [hr'] at h0; cases h0), fun k hk => ?_⟩
      have hi' : i ∈ Region.ready .any ops l := by rw [hr']; simp
      have hj' : j ∈ Region.ready .any ops l := by rw [hr']; simp
      rw [hr', List.mem_cons, List.mem_singleton] at hk
      rcases hk with rfl | rfl
      · exact go k x hi (by omega) hi' hx h1 fun c' fr' H' a' q1 q2 q3 q4 => opsT_sound hT hB hns hq hpan x m _ c' fr' H' a' (by omega) (hcl.set hi') hx q1 q2 q3 q4
      · exact go k y hj (by omega) hj' hy h2 fun c' fr' H' a' q1 q2 q3 q4 => opsT_sound hT hB hns hq hpan y m _ c' fr' H' a' (by omega) (hcl.set hj') hy q1 q2 q3 q4
  | .one i r, m, l, c, fr, H, a, hm, hcl, hd, hs, hf, he, h => by
    cases m with
    | zero => simp [Tr.depth] at hm
    | succ m =>
      simp only [Tr.depth, Nat.add_le_add_iff_right] at hm
      simp only [treeOk, Bool.and_eq_true] at hd
      obtain ⟨hd1, hd2⟩ := hd
      simp only [opsT] at h
      cases ho : ops[i]? with
      | none => rw [ho] at hd1; simp at hd1
      | some o =>
        rw [ho] at hd1
        simp only at hd1
        cases hE : isEff o.op with
        | true =>
          rw [hE] at hd1
          simp only [Bool.and_eq_true] at hd1
          obtain ⟨hr, hmq⟩ := hd1
          have hr' : Region.ready .any ops l = [i] := by
            split at hr
            · rename_i j hj; rw [hj, Nat.eq_of_beq_eq_true hr]
            · cases hr
          have hri : i ∈ Region.ready .any ops l := by rw [hr']; simp
          refine ⟨fun h0 => (by rw [hr'] at h0; cases h0), fun j hj => ?_⟩
          rw [hr', List.mem_singleton] at hj
          subst hj
          exact effT_sound hT ho hmq hs hf he (fun c' fr' H' a' q1 q2 q3 q4 => opsT_sound hT hB hns hq hpan r m _ c' fr' H' a' hm (hcl.set hri) hd2 q1 q2 q3 q4) h
        | false =>
          rw [hE] at hd1
          simp only [Bool.and_eq_true] at hd1
          obtain ⟨hfree, hr⟩ := hd1
          have hri : i ∈ Region.ready .any ops l := by simpa using hr
          simp only [stepT, lget_eq] at h
          rw [show ops.toList[i]? = some o by simpa using ho] at h
          simp only at h
          have step : ∀ v fr2, YieldsIf P ops (Old c.w) o v a → FR w0 c n fr2 (a.put o.dst v) → opsT P T n ops r fr2 H K → HeldR P ops B Q (m + 1) l a c.w := by
            intro v fr2 hy hf2 h2
            exact HeldR.first1 hB ho hE (Region.noSelect_spec hns) (fun c a w h => (hpan _ _ _ h).elim) m l a c.w hcl (Region.free_spec ho hfree) hri hy
              (opsT_sound hT hB hns hq hpan r m _ c fr2 H _ hm (hcl.set hri) hd2 hs hf2 he h2)
          rcases guardK_sound hf h with ⟨hw, fr', hf', h⟩ | ⟨hw, fr', hf', h⟩
          · unfold stepK at h
            rw [hE] at h
            obtain ⟨rr, v, h1, h2, h3⟩ := (det_sound hT hs hf' h).y
            obtain ⟨fr2, h4, h5⟩ := putK_sound hf' h3 h1
            exact step v fr2 (.inl ⟨hw, h2⟩) h5 h4
          · obtain ⟨fr2, h4, h5⟩ := putK_sound (v := undef) hf' (by simp [Rd]) h
            exact step undef fr2 (.inr ⟨hw, rfl⟩) h5 h4
/-- A frame, its slots in a given order. -/
def canonK : List Nat → Fr → (Fr → Prop) → Prop
  | [], _, k => k []
  | d :: r, fr, k => forceK (fget fr d) fun x => canonK r fr fun l => k ((d, x) :: l)
theorem canonK_iff : ∀ {ds : List Nat} {fr : Fr} {k : Fr → Prop}, canonK ds fr k → k (ds.map fun d => (d, fget fr d))
  | [], _, _, h => h
  | d :: r, fr, k, h => by simp only [canonK] at h; exact canonK_iff (ds := r) (k := fun l => k ((d, fget fr d) :: l)) (forceK_iff h)
theorem canon_get (fr : Fr) : ∀ (ds : List Nat) (i : Nat), fget (ds.map fun d => (d, fget fr d)) i = .top ∨ fget (ds.map fun d => (d, fget fr d)) i = fget fr i
  | [], _ => .inl rfl
  | d :: r, i => by
    simp only [List.map_cons, fget]
    cases hb : Nat.beq d i with
    | true => have := Nat.eq_of_beq_eq_true hb; subst this; exact .inr rfl
    | false => exact canon_get fr r i
theorem FR.canon {c : Ctx} {fr : Fr} {a : Act} (h : FR w0 c n fr a) (ds : List Nat) : FR w0 c n (ds.map fun d => (d, fget fr d)) a := by
  refine ⟨h.size, h.defers, fun i => ?_⟩
  rcases canon_get fr ds i with e | e <;> rw [e]
  · simp [Rd]
  · exact h.get i
def slots : Fr → List Nat
  | [] => []
  | (i, _) :: r => i :: slots r
def treeAll (ops : Array Oper) (tr : Tr) : Bool := befOk ops (befC ops) && Region.noSelect ops && Nat.ble tr.depth ops.size && treeOk ops (befC ops) tr (Array.replicate ops.size false)
theorem aDraw.tree (hT : TOk P T) (hm : P.follows .mixedOrders = true) {id : Nat} {K : Fr → List AB → Prop} {fr : Fr} {H : List AB} (tr : Tr) (ds : List Nat) {F : Fr} {H2 : List AB} (hok : treeAll ops tr = true)
    (h : opsT P T n ops tr fr H fun fr' H' => canonK (ds ++ slots fr) fr' fun l => l = F ∧ H' = H2) (hk : K F H2) : aDraw P T n d0 id ops K fr H := by
  simp only [treeAll, Bool.and_eq_true] at hok
  obtain ⟨⟨⟨hB, hns⟩, hlen⟩, hok⟩ := hok
  refine ⟨fun w0 M0 ce c a hs hf he hd Q hQ => ?_⟩
  refine wp_mono (Q := fun e a w => e = .normal ∧ Lift w0 M0 ce n (fun fr' H' => canonK (ds ++ slots fr) fr' fun l => l = F ∧ H' = H2) a w) ?_ ?_
  · refine wp_region_any hm (HeldR.any (B := befC ops) _ _ _ _ ?_)
    have hb := (Below.refl c.w.heap.size c.w).drew
    obtain ⟨h1, h2⟩ := hs.grow hb
    refine opsT_sound (w0 := w0) (M0 := M0) (ce := ce) hT hB hns (fun a w hl => ⟨rfl, hl⟩) (fun c a w h => by cases h.1) tr _ _ { c with w := c.w.drew } fr H a (Nat.le_of_ble_eq_true hlen) ?_ hok h1 (hf.ext h2) (he.trans h2) h
    intro j o hj hlj
    rcases Nat.lt_or_ge j ops.size with h' | h'
    · simp [h'] at hlj
    · simp [Array.getElem?_eq_none h'] at hj
  · rintro e a w ⟨rfl, c', fr', H', rfl, h1, h2, h3, h4⟩
    obtain ⟨e1, rfl⟩ := canonK_iff h1
    exact hQ c' F H' a hk h2 (e1 ▸ h3.canon _) h4
end
end Go.Proofs.Ytjcboeldmgmfcaa.A
end

/-
The program's types, as a table, and that it is right.
-/
section
namespace Go.Proofs.Ytjcboeldmgmfcaa.A
open Go.RowKit

def tys : Tys := [
  (2, ⟨1, false, [.int .i64 0], .int .i64⟩),
  (3, ⟨1, false, [.int .i64 0], .int .i64⟩),
  (4, ⟨1, false, [.bool false], .bool⟩),
  (5, ⟨1, false, [.int .u8 0], .int .u8⟩),
  (6, ⟨1, false, [.int .u8 0], .int .u8⟩),
  (7, ⟨4, true, [.int .i64 0, .int .i64 0, .bool false, .int .u8 0], .struct [(0, 1), (1, 1), (2, 1), (3, 1)]⟩),
  (8, ⟨4, true, [.int .i64 0, .int .i64 0, .bool false, .int .u8 0], .struct [(0, 1), (1, 1), (2, 1), (3, 1)]⟩),
  (9, ⟨1, false, [.string ⟨#[]⟩], .str⟩),
  (10, ⟨1, false, [.string ⟨#[]⟩], .str⟩),
  (11, ⟨1, false, [.string ⟨#[]⟩], .str⟩),
  (12, ⟨1, false, [.int .u64 0], .int .u64⟩),
  (13, ⟨2, true, [.string ⟨#[]⟩, .int .u64 0], .struct [(0, 1), (1, 1)]⟩),
  (14, ⟨2, true, [.string ⟨#[]⟩, .int .u64 0], .struct [(0, 1), (1, 1)]⟩),
  (15, ⟨1, false, [.pointer none], .other⟩),
  (16, ⟨1, false, [.pointer none], .other⟩),
  (17, ⟨1, false, [.pointer none], .other⟩),
  (18, ⟨1, true, [.pointer none], .struct [(0, 1)]⟩),
  (19, ⟨1, true, [.pointer none], .struct [(0, 1)]⟩),
  (20, ⟨1, false, [.nilIface], .other⟩),
  (21, ⟨1, false, [.int .i32 0], .int .i32⟩),
  (22, ⟨1, false, [.slice none 0 0], .slice 36 3⟩),
  (23, ⟨1, false, [.slice none 0 0], .slice 5 1⟩),
  (26, ⟨1, false, [.int .i64 0], .int .i64⟩),
  (33, ⟨1, false, [.slice none 0 0], .slice 3 1⟩),
  (34, ⟨1, false, [.slice none 0 0], .slice 23 1⟩),
  (35, ⟨3, true, [.int .i64 0, .slice none 0 0, .slice none 0 0], .struct [(0, 1), (1, 1), (2, 1)]⟩),
  (36, ⟨3, true, [.int .i64 0, .slice none 0 0, .slice none 0 0], .struct [(0, 1), (1, 1), (2, 1)]⟩),
  (50, ⟨1, false, [.slice none 0 0], .slice 53 3⟩),
  (51, ⟨1, false, [.slice none 0 0], .slice 33 1⟩),
  (52, ⟨1, false, [.int .u64 0], .int .u64⟩),
  (53, ⟨3, true, [.int .i64 0, .int .i64 0, .int .i64 0], .arr 3 3 1⟩),
  (55, ⟨1, false, [.slice none 0 0], .slice 4 1⟩),
  (63, ⟨1, false, [.pointer none], .other⟩),
  (90, ⟨4, true, [.pointer none, .pointer none, .pointer none, .string ⟨#[]⟩], .struct [(0, 1), (1, 1), (2, 1), (3, 1)]⟩),
  (91, ⟨4, true, [.pointer none, .pointer none, .pointer none, .string ⟨#[]⟩], .struct [(0, 1), (1, 1), (2, 1), (3, 1)]⟩),
  (96, ⟨1, false, [.int .u32 0], .int .u32⟩),
  (97, ⟨1, false, [.int .u8 0], .int .u8⟩),
  (98, ⟨1, false, [.int .u8 0], .int .u8⟩),
  (100, ⟨1, false, [.pointer none], .other⟩),
  (101, ⟨1, false, [.int .i32 0], .int .i32⟩),
  (102, ⟨1, false, [.int .i32 0], .int .i32⟩),
  (105, ⟨1, false, [.pointer none], .other⟩)]
theorem tys_ok : TOk Try.prog tys := by
  refine ⟨?_, ?_, ?_, ?_, ?_, ?_, ?_, ?_, ?_, ?_, ?_, ?_, ?_, ?_, ?_, ?_, ?_, ?_, ?_, ?_, ?_, ?_, ?_, ?_, ?_, ?_, ?_, ?_, ?_, ?_, ?_, ?_, ?_, ?_, ?_, ?_, ?_, ?_, ?_, ?_, ?_, ?_, trivial⟩ <;> (unfold TyOk; kernel_rfl)
theorem mixed : Try.prog.follows .mixedOrders = true := by kernel_rfl
end Go.Proofs.Ytjcboeldmgmfcaa.A
end

/-
Results that are the caller's own: rows that nobody else has.
-/
section
namespace Go.Proofs.Ytjcboeldmgmfcaa.A
open Go.RowKit

def open0 (x : AV) (H R : List AB) (k : AV → List AB → List AB → Prop) : Prop :=
  match x with
  | .v u => k (.v u) H R
  | .sl sz n get => k (.sl sz n get) H R
  | .ow j n => match hget H j with
    | some (.row t sz es) => setK j .dead H fun H => snocK R (.row t sz es) 0 fun i R => k (.ow i n) H R
    | _ => False
  | _ => False
def openC : List AV → List AB → List AB → (List AV → List AB → List AB → Prop) → Prop
  | [], H, R, k => k [] H R
  | x :: l, H, R, k => open0 x H R fun x H R => openC l H R fun l H R => k (x :: l) H R
def open1 (x : AV) (H R : List AB) (k : AV → List AB → List AB → Prop) : Prop :=
  match x with
  | .ag cs => openC cs H R fun cs H R => k (.ag cs) H R
  | x => open0 x H R k
def openL : List AV → List AB → List AB → (List AV → List AB → List AB → Prop) → Prop
  | [], H, R, k => k [] H R
  | x :: l, H, R, k => open1 x H R fun x H R => openL l H R fun l H R => k (x :: l) H R
def openR (x : AV) (H : List AB) (k : AV → List AB → Prop) : Prop :=
  match x with
  | .tp l => openL l H [] fun l _ R => k (.tp l) R
  | x => open1 x H [] fun x _ R => k x R

section
variable {w0 : Fl} {M0 : Ms} {c cr : Ctx} {H R : List AB}
theorem HS.kill (h : HS w0 M0 c H) (k : Nat) : HS w0 M0 c (H.set k .dead) := by
  have hget : ∀ j y, (H.set k .dead)[j]? = some y → y.live = true → j ≠ k ∧ H[j]? = some y := by
    intro j y hj hl
    by_cases hjk : j = k
    · subst hjk
      by_cases hlt : j < H.length
      · rw [List.getElem?_set_self hlt] at hj
        cases hj; cases hl
      · rw [List.getElem?_eq_none (by simp; omega)] at hj; cases hj
    · rw [List.getElem?_set_ne (Ne.symm hjk)] at hj
      exact ⟨hjk, hj⟩
  refine ⟨h.low, h.base, by simp [h.dom], h.foreign, h.lt, fun j y hj => ?_, fun j y g hj hl ho => ?_, fun i j y z g hi hj hly hlz hoi hoj => ?_⟩
  · cases hy : y.live with
    | false => cases y <;> simp [AB.live] at hy; trivial
    | true => exact h.blk j y (hget j y hj hy).2
  · exact h.own j y g (hget j y hj hl).2 hl ho
  · exact h.dis i j y z g (hget i y hi hly).2 (hget j z hj hlz).2 hly hlz hoi hoj

/-- How far the handing over has come. -/
structure OpenSt (w0 : Fl) (M0 : Ms) (c : Ctx) (H : List AB) (cr : Ctx) (R : List AB) : Prop where
  hs : HS w0 M0 c H
  hr : HS w0 M0 cr R
  w : cr.w = c.w
  M : cr.M = c.M
  dis : ∀ i k x y g, R[i]? = some x → H[k]? = some y → x.live = true → y.live = true → oB (cr.rho i) = some g → oB (c.rho k) = some g → False
  rows : ∀ x ∈ R, ∃ t sz es, x = .row t sz es
theorem OpenSt.ext (h : OpenSt w0 M0 c H cr R) : Ext c.closed cr :=
  ⟨by simp [Ctx.closed, h.w], by simp [Ctx.closed, h.w], by simp [Ctx.closed, h.w], by simp [Ctx.closed, h.w], fun b _ hm => ⟨by rw [h.M]; exact hm, by simp [Ctx.closed, h.w]⟩, Nat.zero_le _, fun k hk => absurd hk (Nat.not_lt_zero k), fun k hk => absurd hk (Nat.not_lt_zero k), fun k _ hk => absurd hk (Nat.not_lt_zero k)⟩
theorem OpenSt.take (h : OpenSt w0 M0 c H cr R) {j : Nat} {t : TypeId} {sz : Nat} {es : List (List AV)} (hj : H[j]? = some (.row t sz es)) :
    ∃ cr', OpenSt w0 M0 c (H.set j .dead) cr' (R ++ [.row t sz es]) ∧ Ext cr cr' ∧ ∀ n u, Rd (.ow j n) c u → Rd (.ow R.length n) cr' u := by
  let cr' : Ctx := { cr with dom := cr.dom + 1, rho := fun k => if k = cr.dom then c.rho j else cr.rho k, len := fun k => if k = cr.dom then c.len j else cr.len k }
  have hrho : ∀ k, k < cr.dom → cr'.rho k = cr.rho k := fun k hk => by simp only [cr']; rw [if_neg (by omega)]
  have hlen : ∀ k, k < cr.dom → cr'.len k = cr.len k := fun k hk => by simp only [cr']; rw [if_neg (by omega)]
  have hrd : cr'.rho cr.dom = c.rho j := by simp [cr']
  have hrl : cr'.len cr.dom = c.len j := by simp [cr']
  have e : Ext cr cr' := ⟨rfl, rfl, rfl, Nat.le_refl _, fun _ _ hm => ⟨hm, rfl⟩, Nat.le_succ _, fun k hk => by rw [hlen k hk]; exact Nat.le_refl _, fun k hk _ => hrho k hk, fun k g hk hg => by rw [hrho k hk]; exact hg⟩
  have hget : ∀ k y, (R ++ [AB.row t sz es])[k]? = some y → (k < cr.dom ∧ R[k]? = some y) ∨ (k = cr.dom ∧ y = .row t sz es) := by
    intro k y hk
    rw [h.hr.dom]
    rcases Nat.lt_trichotomy k R.length with hlt | rfl | hgt
    · rw [List.getElem?_append_left hlt] at hk; exact .inl ⟨hlt, hk⟩
    · simp at hk; exact .inr ⟨rfl, hk.symm⟩
    · rw [List.getElem?_eq_none (by simp; omega)] at hk; cases hk
  have hset : ∀ k y, (H.set j .dead)[k]? = some y → y.live = true → k ≠ j ∧ H[k]? = some y := by
    intro k y hk hl
    by_cases hjk : k = j
    · subst hjk
      rw [List.getElem?_set_self (List.getElem?_eq_some_iff.1 hj).1] at hk
      cases hk; cases hl
    · rw [List.getElem?_set_ne (Ne.symm hjk)] at hk
      exact ⟨hjk, hk⟩
  have hcl : Ext c.closed cr'.closed := ⟨by simp [Ctx.closed, cr', h.w], by simp [Ctx.closed, cr', h.w], by simp [Ctx.closed, cr', h.w], by simp [Ctx.closed, cr', h.w], fun b _ hm => ⟨by simp only [Ctx.closed, cr']; rw [h.M]; exact hm, by simp [Ctx.closed, cr', h.w]⟩, Nat.zero_le _, fun k hk => absurd hk (Nat.not_lt_zero k), fun k hk => absurd hk (Nat.not_lt_zero k), fun k _ hk => absurd hk (Nat.not_lt_zero k)⟩
  refine ⟨cr', ⟨h.hs.kill j, ⟨h.hr.low, h.hr.base, by simp [cr', h.hr.dom], h.hr.foreign, h.hr.lt, fun k y hk => ?_, fun k y g hk hl ho => ?_, fun i k y z g hi hk hly hlz hoi hok => ?_⟩, h.w, h.M, fun i k x y g hi hk hlx hly hoi hok => ?_, fun x hx => ?_⟩, e, fun n u hu => ?_⟩
  · rcases hget k y hk with ⟨hlt, hk'⟩ | ⟨rfl, rfl⟩
    · exact BlkOk.ext e rfl hlt (hlen k hlt) (fun _ _ _ => rfl) (h.hr.blk k y hk')
    · obtain ⟨h1, h2, h3, xs, h4, h5, h6⟩ := h.hs.blk j _ hj
      refine ⟨by rw [hrl]; exact h1, h2, h3, xs, ?_, RdL.ext _ hcl h5, h6⟩
      rw [hrd, show cr'.w = c.w from h.w, show cr'.base = c.base from h.hr.base.trans h.hs.base.symm]
      exact h4
  · rcases hget k y hk with ⟨hlt, hk'⟩ | ⟨rfl, rfl⟩
    · rw [hrho k hlt] at ho
      exact h.hr.own k y g hk' hl ho
    · rw [hrd] at ho
      have := h.hs.own j _ g hj rfl ho
      exact ⟨by show cr.M g; rw [h.M]; exact this.1, this.2⟩
  · rcases hget i y hi with ⟨hlt, hi'⟩ | ⟨rfl, rfl⟩ <;> rcases hget k z hk with ⟨hlt2, hk'⟩ | ⟨rfl, rfl⟩
    · rw [hrho i hlt] at hoi
      rw [hrho k hlt2] at hok
      exact h.hr.dis i k y z g hi' hk' hly hlz hoi hok
    · rw [hrho i hlt] at hoi
      rw [hrd] at hok
      exact (h.dis i j y _ g hi' hj hly rfl hoi hok).elim
    · rw [hrd] at hoi
      rw [hrho k hlt2] at hok
      exact (h.dis k j z _ g hk' hj hlz rfl hok hoi).elim
    · rfl
  · obtain ⟨hkj, hk'⟩ := hset k y hk hly
    rcases hget i x hi with ⟨hlt, hi'⟩ | ⟨rfl, rfl⟩
    · rw [hrho i hlt] at hoi
      exact h.dis i k x y g hi' hk' hlx hly hoi hok
    · rw [hrd] at hoi
      exact hkj (h.hs.dis k j y _ g hk' hj hly rfl hok hoi)
  · rcases List.mem_append.1 hx with hx | hx
    · exact h.rows x hx
    · exact ⟨t, sz, es, by simpa using hx⟩
  · simp only [Rd] at hu ⊢
    obtain ⟨_, q2, q3, q4⟩ := hu
    rw [← h.hr.dom]
    exact ⟨Nat.lt_succ_self _, by rw [hrl]; exact q2, q3, by rw [hrl, hrd]; exact q4⟩
theorem open0_sound (h : OpenSt w0 M0 c H cr R) {x : AV} {u : Value} (hr : Rd x c u) {k : AV → List AB → List AB → Prop} (hk : open0 x H R k) :
    ∃ x' H' cr' R', k x' H' R' ∧ OpenSt w0 M0 c H' cr' R' ∧ Ext cr cr' ∧ Rd x' cr' u := by
  unfold open0 at hk
  split at hk
  · exact ⟨_, H, cr, R, hk, h, Ext.refl _, by simpa [Rd] using hr⟩
  · refine ⟨_, H, cr, R, hk, h, Ext.refl _, Rd.ext _ h.ext ?_⟩
    simp only [Rd] at hr ⊢
    exact hr
  · rename_i j n
    rw [hget_eq] at hk
    split at hk
    · rename_i t sz es hj
      have hk := snocK_iff (setK_iff hk)
      rw [Nat.zero_add] at hk
      obtain ⟨cr', q1, q2, q3⟩ := h.take hj
      exact ⟨_, _, cr', _, hk, q1, q2, q3 n u hr⟩
    · exact hk.elim
  · exact hk.elim
theorem openC_sound : ∀ {l : List AV} {H R : List AB} {cr : Ctx} (_ : OpenSt w0 M0 c H cr R) {us : List Value} (_ : RdL l c us) {k : List AV → List AB → List AB → Prop} (_ : openC l H R k),
    ∃ l' H' cr' R', k l' H' R' ∧ OpenSt w0 M0 c H' cr' R' ∧ Ext cr cr' ∧ RdL l' cr' us
  | [], H, R, cr, h, us, hr, k, hk => ⟨[], H, cr, R, hk, h, Ext.refl _, by simp only [RdL] at hr ⊢; exact hr⟩
  | x :: l, H, R, cr, h, us, hr, k, hk => by
    simp only [RdL] at hr
    obtain ⟨u, us, rfl, h1, h2⟩ := hr
    simp only [openC] at hk
    obtain ⟨x', H1, c1, R1, q1, q2, q3, q4⟩ := open0_sound h h1 hk
    obtain ⟨l', H2, c2, R2, p1, p2, p3, p4⟩ := openC_sound q2 h2 q1
    exact ⟨_, H2, c2, R2, p1, p2, q3.trans p3, by simp only [RdL]; exact ⟨u, us, rfl, Rd.ext _ p3 q4, p4⟩⟩
theorem open1_sound (h : OpenSt w0 M0 c H cr R) {x : AV} {u : Value} (hr : Rd x c u) {k : AV → List AB → List AB → Prop} (hk : open1 x H R k) :
    ∃ x' H' cr' R', k x' H' R' ∧ OpenSt w0 M0 c H' cr' R' ∧ Ext cr cr' ∧ Rd x' cr' u := by
  unfold open1 at hk
  split at hk
  · simp only [Rd] at hr
    obtain ⟨xs, rfl, hx⟩ := hr
    obtain ⟨l', H2, c2, R2, p1, p2, p3, p4⟩ := openC_sound h hx hk
    exact ⟨_, H2, c2, R2, p1, p2, p3, by simp only [Rd]; exact ⟨xs, rfl, p4⟩⟩
  · exact open0_sound h hr hk
theorem openL_sound : ∀ {l : List AV} {H R : List AB} {cr : Ctx} (_ : OpenSt w0 M0 c H cr R) {us : List Value} (_ : RdL l c us) {k : List AV → List AB → List AB → Prop} (_ : openL l H R k),
    ∃ l' H' cr' R', k l' H' R' ∧ OpenSt w0 M0 c H' cr' R' ∧ Ext cr cr' ∧ RdL l' cr' us
  | [], H, R, cr, h, us, hr, k, hk => ⟨[], H, cr, R, hk, h, Ext.refl _, by simp only [RdL] at hr ⊢; exact hr⟩
  | x :: l, H, R, cr, h, us, hr, k, hk => by
    simp only [RdL] at hr
    obtain ⟨u, us, rfl, h1, h2⟩ := hr
    simp only [openL] at hk
    obtain ⟨x', H1, c1, R1, q1, q2, q3, q4⟩ := open1_sound h h1 hk
    obtain ⟨l', H2, c2, R2, p1, p2, p3, p4⟩ := openL_sound q2 h2 q1
    exact ⟨_, H2, c2, R2, p1, p2, q3.trans p3, by simp only [RdL]; exact ⟨u, us, rfl, Rd.ext _ p3 q4, p4⟩⟩
/-- Nothing is handed over yet. -/
def ctxR (c : Ctx) : Ctx := { c with dom := 0 }
theorem OpenSt.begin (h : HS w0 M0 c H) : OpenSt w0 M0 c H (ctxR c) [] :=
  ⟨h, ⟨h.low, h.base, rfl, h.foreign, h.lt, by simp, by simp, by simp⟩, rfl, rfl, by simp, by simp⟩
theorem openR_sound (h : HS w0 M0 c H) {x : AV} {u : Value} (hr : Rd x c u) {k : AV → List AB → Prop} (hk : openR x H k) :
    ∃ x' cr R, k x' R ∧ cr.w = c.w ∧ HS w0 M0 cr R ∧ Rd x' cr u ∧ ∀ y ∈ R, ∃ t sz es, y = .row t sz es := by
  unfold openR at hk
  split at hk
  · simp only [Rd] at hr
    obtain ⟨xs, rfl, hx⟩ := hr
    obtain ⟨l', H2, c2, R2, p1, p2, p3, p4⟩ := openL_sound (OpenSt.begin h) hx hk
    exact ⟨_, c2, R2, p1, p2.w, p2.hr, by simp only [Rd]; exact ⟨xs, rfl, p4⟩, p2.rows⟩
  · obtain ⟨x', H2, c2, R2, p1, p2, p3, p4⟩ := open1_sound (OpenSt.begin h) hr hk
    exact ⟨_, c2, R2, p1, p2.w, p2.hr, p4, p2.rows⟩
end

/-- A function that writes nothing of its caller's and hands over rows. -/
structure FnO (P : Program) (f : FuncId) (args : List AV) (K : AV → List AB → Prop) : Prop where
  go : IsGo P f
  calls : ∀ (c0 : Ctx) (us : List Value) (hg : globOk c0.w), c0.dom = 0 → (∀ b, c0.M b → b < c0.w.heap.size) → RdL args c0 us →
    Calls P f us.toArray c0.w fun e w' => ∃ v r c' R, e = .returned v ∧ K r R ∧ c'.w = w' ∧ HS (Fl.all c0.w hg) c0.M c' R ∧ Rd r c' v ∧ ∀ y ∈ R, ∃ t sz es, y = .row t sz es
theorem FnO.mono {P : Program} {f : FuncId} {args : List AV} {K K' : AV → List AB → Prop} (h : FnO P f args K) (hk : ∀ r R, K r R → K' r R) : FnO P f args K' :=
  ⟨h.1, fun c0 us hg h1 h2 h3 => (h.2 c0 us hg h1 h2 h3).mono fun _ _ ⟨v, r, c', R, h4, h5, h6⟩ => ⟨v, r, c', R, h4, hk _ _ h5, h6⟩⟩
def finO (T : Tys) (rs : List ResultVar) (K : AV → List AB → Prop) : QA := fun ex fr H => match ex with
  | .exit _ => False
  | _ => retK T rs fr H fun x => openR x H K
theorem FnO.of {P : Program} {T : Tys} (hT : TOk P T) {f : FuncId} {fn : Func} {body : Code} {args : List AV} {K : AV → List AB → Prop} (hf : P.funcs[f]? = some fn) (hb : fn.body = some body) (hname : (fn.name == "runtime.NumGoroutine") = false) (hn : args.length ≤ fn.ntmps)
    (h : aCode P T fn.ntmps 0 body (finO T fn.results.toList K) (frOf 0 args) []) : FnO P f args K := by
  refine ⟨⟨fn, hf, by rw [hb]; rfl, hname⟩, fun c0 us hg hd hM hr => ?_⟩
  let ce : Ctx := { c0 with base := 0 }
  have hce : Ext c0 ce := ⟨rfl, rfl, rfl, Nat.le_refl _, fun _ _ h => ⟨h, rfl⟩, Nat.le_refl _, fun _ _ => Nat.le_refl _, fun _ _ _ => rfl, fun _ _ _ h => h⟩
  have hHS : HS (Fl.all c0.w hg) c0.M ce [] := ⟨LowF.refl _ hg, rfl, hd, fun _ _ => Iff.rfl, hM, by simp, by simp, by simp⟩
  have hlen := hr.length
  have hFR : FR (Fl.all c0.w hg) ce fn.ntmps (frOf 0 args) { tmps := us.toArray ++ Array.replicate (fn.ntmps - us.toArray.size) undef, defers := [] } := by
    refine ⟨by simp; omega, trivial, fun i => ?_⟩
    have := frOf_rd (c := ce) (m := fn.ntmps - us.length) (l := args) (i := 0) (pre := []) rfl (RdL.ext _ hce hr) i
    rw [Array.getD_eq_getD_getElem?]
    have e : (us.toArray ++ Array.replicate (fn.ntmps - us.toArray.size) undef)[i]? = ([] ++ us ++ List.replicate (fn.ntmps - us.length) undef)[i]? := by
      have : (us.toArray ++ Array.replicate (fn.ntmps - us.toArray.size) undef) = ([] ++ us ++ List.replicate (fn.ntmps - us.length) undef).toArray := Array.ext' (by simp)
      rw [this]; simp only [List.getElem?_toArray]
    rw [e]
    exact this
  have fin : ∀ a w, Lift (Fl.all c0.w hg) c0.M ce fn.ntmps (fun fr H => retK T fn.results.toList fr H fun x => openR x H K) a w → ∃ v, (results fn a.tmps).run P w = .ok v w ∧ ∃ v' r c' R, Ending.returned v = .returned v' ∧ K r R ∧ c'.w = w ∧ HS (Fl.all c0.w hg) c0.M c' R ∧ Rd r c' v' ∧ ∀ y ∈ R, ∃ t sz es, y = .row t sz es := by
    rintro a w ⟨c, fr, H, rfl, h1, h2, h3, h4⟩
    obtain ⟨x, v, q1, q2, q3⟩ := retK_sound hT h2 h3 h1
    obtain ⟨r, cr, R, p1, p2, p3, p4, p5⟩ := openR_sound h2 q2 q1
    exact ⟨v, q3, v, r, cr, R, rfl, p1, p2, p3, p4, p5⟩
  refine calls_marks hf hb trivial (Nat.le_refl _) fin ?_
  refine aCode_sound (w0 := Fl.all c0.w hg) (M0 := c0.M) (ce := ce) hT hd body _ _ ce _ [] _ (lift_ends rfl rfl fun _ _ _ h => h) hHS hFR (Ext.refl _) h

mutual
def AV.shift (d : Nat) : AV → AV
  | .ow k n => .ow (k + d) n
  | .bp k o => .bp (k + d) o
  | .ep k n i sz off => .ep (k + d) n i sz off
  | .ag l => .ag (AV.shiftL d l)
  | .tp l => .tp (AV.shiftL d l)
  | .fn f l => .fn f (AV.shiftL d l)
  | .top => .top
  | .v x => .v x
  | .sl sz n get => .sl sz n get
  | .rp cs => .rp cs
def AV.shiftL (d : Nat) : List AV → List AV
  | [] => []
  | x :: l => x.shift d :: AV.shiftL d l
end
/-- Two contexts beside each other. -/
def Ctx.beside (c c' : Ctx) : Ctx := { w := c'.w, base := c.base, M := c'.M, dom := c.dom + c'.dom, rho := fun k => if k < c.dom then c.rho k else c'.rho (k - c.dom), len := fun k => if k < c.dom then c.len k else c'.len (k - c.dom) }
theorem Ext.closedBeside (c c' : Ctx) : Ext c'.closed (c.beside c').closed := ⟨rfl, rfl, rfl, Nat.le_refl _, fun _ _ h => ⟨h, rfl⟩, Nat.zero_le _, fun k hk => absurd hk (Nat.not_lt_zero k), fun k hk => absurd hk (Nat.not_lt_zero k), fun k _ hk => absurd hk (Nat.not_lt_zero k)⟩
mutual
theorem Rd.shift : ∀ (x : AV) {c c' : Ctx} {u : Value}, Rd x c' u → Rd (x.shift c.dom) (c.beside c') u
  | .top, _, _, _, _ => by simp [AV.shift, Rd]
  | .v _, _, _, _, h => by simpa [AV.shift, Rd] using h
  | .sl sz n get, c, c', u, h => by
    simp only [AV.shift, Rd] at h ⊢
    obtain ⟨a, k, rfl, h1, h2, h3⟩ := h
    refine ⟨a, k, rfl, h1, h2, h3.imp id ?_⟩
    rintro ⟨b, off, rfl, hm, hb, hc⟩
    exact ⟨b, off, rfl, hm, hb, fun i hi => ⟨(hc i hi).1, RdAt.ext (get i) (Ext.closedBeside c c') hb hm (hc i hi).2⟩⟩
  | .rp cs, c, c', u, h => by
    simp only [AV.shift, Rd] at h ⊢
    obtain ⟨b, off, rfl, hm, hb, hc⟩ := h
    exact ⟨b, off, rfl, hm, hb, RdAt.ext cs (Ext.closedBeside c c') hb hm hc⟩
  | .bp k off, c, c', u, h => by
    simp only [AV.shift, Rd] at h ⊢
    obtain ⟨h1, g, h2, h3⟩ := h
    refine ⟨by simp only [Ctx.beside]; omega, g, ?_, h3⟩
    simp only [Ctx.beside]
    rw [if_neg (by omega), Nat.add_sub_cancel]
    exact h2
  | .ow k n, c, c', u, h => by
    simp only [AV.shift, Rd] at h ⊢
    obtain ⟨h1, h2, h3, h4⟩ := h
    have e1 : (c.beside c').len (k + c.dom) = c'.len k := by simp only [Ctx.beside]; rw [if_neg (by omega), Nat.add_sub_cancel]
    have e2 : (c.beside c').rho (k + c.dom) = c'.rho k := by simp only [Ctx.beside]; rw [if_neg (by omega), Nat.add_sub_cancel]
    rw [e1, e2]
    exact ⟨by simp only [Ctx.beside]; omega, h2, h3, h4⟩
  | .ep k n i sz off, c, c', u, h => by
    simp only [AV.shift, Rd] at h ⊢
    obtain ⟨h1, h2, h3⟩ := h
    have e1 : (c.beside c').len (k + c.dom) = c'.len k := by simp only [Ctx.beside]; rw [if_neg (by omega), Nat.add_sub_cancel]
    have e2 : (c.beside c').rho (k + c.dom) = c'.rho k := by simp only [Ctx.beside]; rw [if_neg (by omega), Nat.add_sub_cancel]
    rw [e1, e2]
    exact ⟨by simp only [Ctx.beside]; omega, h2, h3⟩
  | .ag l, c, c', u, h => by
    simp only [AV.shift, Rd] at h ⊢
    obtain ⟨xs, rfl, h1⟩ := h
    exact ⟨xs, rfl, RdL.shift l h1⟩
  | .tp l, c, c', u, h => by
    simp only [AV.shift, Rd] at h ⊢
    obtain ⟨xs, rfl, h1⟩ := h
    exact ⟨xs, rfl, RdL.shift l h1⟩
  | .fn f l, c, c', u, h => by
    simp only [AV.shift, Rd] at h ⊢
    obtain ⟨xs, rfl, h1⟩ := h
    exact ⟨xs, rfl, RdL.shift l h1⟩
theorem RdL.shift : ∀ (l : List AV) {c c' : Ctx} {us : List Value}, RdL l c' us → RdL (AV.shiftL c.dom l) (c.beside c') us
  | [], _, _, _, h => by simp only [AV.shiftL, RdL] at h ⊢; exact h
  | x :: l, c, c', us, h => by
    simp only [AV.shiftL, RdL] at h ⊢
    obtain ⟨u, us, rfl, h1, h2⟩ := h
    exact ⟨u, us, rfl, Rd.shift x h1, RdL.shift l h2⟩
end
theorem HS.beside {w0 : Fl} {M0 : Ms} {c c' : Ctx} {H R : List AB} (h : HS w0 M0 c H) {hg : globOk c.w} (k : HS (Fl.all c.w hg) c.M c' R) (hR : ∀ y ∈ R, ∃ t sz es, y = .row t sz es) :
    HS w0 M0 (c.beside c') (H ++ R) ∧ Ext c (c.beside c') := by
  have hsz := h.low.size
  have e : Ext c (c.beside c') := by
    refine ⟨k.low.os, k.low.tape, k.low.output, k.low.size, fun b hb hm => ⟨fun hm' => hm ((k.foreign b hb).1 hm'), k.low.block b hb⟩, Nat.le_add_right _ _, fun i hi => ?_, fun i hi _ => ?_, fun i g hi hg => ?_⟩
    · simp only [Ctx.beside]; rw [if_pos hi]; exact Nat.le_refl _
    · simp only [Ctx.beside]; rw [if_pos hi]
    · simp only [Ctx.beside]; rw [if_pos hi]; exact hg
  have hrho : ∀ i, i < c.dom → (c.beside c').rho i = c.rho i := fun i hi => by simp only [Ctx.beside]; rw [if_pos hi]
  have hrho2 : ∀ i, ¬ i < c.dom → (c.beside c').rho i = c'.rho (i - c.dom) := fun i hi => by simp only [Ctx.beside]; rw [if_neg hi]
  have hget : ∀ i y, (H ++ R)[i]? = some y → (i < c.dom ∧ H[i]? = some y) ∨ (¬ i < c.dom ∧ R[i - c.dom]? = some y) := by
    intro i y hi
    rw [h.dom]
    by_cases hlt : i < H.length
    · rw [List.getElem?_append_left hlt] at hi; exact .inl ⟨hlt, hi⟩
    · rw [List.getElem?_append_right (by omega)] at hi; exact .inr ⟨hlt, hi⟩
  refine ⟨⟨h.low.trans k.low.below, h.base, by simp [Ctx.beside, h.dom, k.dom], fun b hb => ?_, k.lt, fun i y hi => ?_, fun i y g hi hl ho => ?_, fun i j y z g hi hj hly hlz hoi hoj => ?_⟩, e⟩
  · exact (k.foreign b (Nat.lt_of_lt_of_le (w0.lt b hb) hsz)).trans (h.foreign b hb)
  · rcases hget i y hi with ⟨hlt, hi'⟩ | ⟨hge, hi'⟩
    · exact BlkOk.ext e rfl hlt (by simp only [Ctx.beside]; rw [if_pos hlt]) (fun g hl ho => k.low.block g (h.sub hi' hl ho)) (h.blk i y hi')
    · obtain ⟨t, sz, es, rfl⟩ := hR y (List.mem_of_getElem? hi')
      obtain ⟨h1, h2, h3, xs, h4, h5, h6⟩ := k.blk _ _ hi'
      refine ⟨by simp only [Ctx.beside]; rw [if_neg hge]; exact h1, h2, h3, xs, ?_, RdL.ext _ (Ext.closedBeside c c') h5, h6⟩
      rw [hrho2 i hge]
      refine ⟨h4.1, h4.2.imp id ?_⟩
      rintro ⟨g, cap, cur, q1, q2, q3⟩
      refine ⟨g, cap, cur, q1, ?_, q3⟩
      show c.base ≤ g
      rw [h.base]; exact Nat.zero_le _
  · rcases hget i y hi with ⟨hlt, hi'⟩ | ⟨hge, hi'⟩
    · rw [hrho i hlt] at ho
      have := h.own i y g hi' hl ho
      exact ⟨(k.foreign g (h.lt g this.1)).2 this.1, this.2⟩
    · rw [hrho2 i hge] at ho
      have := k.own _ y g hi' hl ho
      exact ⟨this.1, fun ho => this.2 (Nat.lt_of_lt_of_le (w0.lt g ho) hsz)⟩
  · rcases hget i y hi with ⟨hlt, hi'⟩ | ⟨hge, hi'⟩ <;> rcases hget j z hj with ⟨hlt2, hj'⟩ | ⟨hge2, hj'⟩
    · rw [hrho i hlt] at hoi
      rw [hrho j hlt2] at hoj
      exact h.dis i j y z g hi' hj' hly hlz hoi hoj
    · rw [hrho i hlt] at hoi
      rw [hrho2 j hge2] at hoj
      have h1 := h.sub hi' hly hoi
      exact ((k.own _ z g hj' hlz hoj).2 h1).elim
    · rw [hrho2 i hge] at hoi
      rw [hrho j hlt2] at hoj
      have h1 := h.sub hj' hlz hoj
      exact ((k.own _ y g hi' hly hoi).2 h1).elim
    · rw [hrho2 i hge] at hoi
      rw [hrho2 j hge2] at hoj
      have := k.dis _ _ y z g hi' hj' hly hlz hoi hoj
      omega
def appK : List AB → List AB → Nat → (Nat → List AB → Prop) → Prop
  | [], R, n, k => k n R
  | y :: r, R, n, k => appK r R (n + 1) fun m l => k m (y :: l)
theorem appK_iff : ∀ {H R : List AB} {n : Nat} {k : Nat → List AB → Prop}, appK H R n k → k (n + H.length) (H ++ R)
  | [], _, _, _, h => h
  | y :: r, R, n, k, h => by
    simp only [appK] at h
    have := appK_iff h
    rw [List.length_cons, show n + (r.length + 1) = n + 1 + r.length by omega]
    exact this
theorem FnO.call {P : Program} {f : FuncId} {args : List AV} {H : List AB} {K : AV → List AB → Prop} {q : Bool} {k : AV → List AB → Prop} (h : FnO P f args K) (hc : AV.ltL args 0 = true) (hk : ∀ r R, K r R → appK H R 0 fun d H => forceK (r.shift d) fun r => k r H) : ACalls P q f args H k := by
  refine ⟨h.go, fun w0 M0 c us hs0 hr => ?_⟩
  have hcut : Cut c c.closed := ⟨Ext.refl _, fun k hk => absurd hk (Nat.not_lt_zero k)⟩
  refine (h.calls c.closed us hs0.glob rfl hs0.lt (RdL.cut args hcut hc hr)).mono ?_
  rintro e w' ⟨v, r, c', R, rfl, q1, rfl, q2, q3, q4⟩
  obtain ⟨p1, p2⟩ := hs0.beside (c' := c') q2 q4
  have h1 := forceK_iff (appK_iff (hk r R q1))
  rw [Nat.zero_add, ← hs0.dom] at h1
  exact ⟨v, c.beside c', _, _, rfl, rfl, h1, p1, p2, Rd.shift r q3, fun _ => q2.low.below.old⟩
/-- What is handed over may be taken for reading only. -/
theorem FnO.fn1 {P : Program} {f : FuncId} {args : List AV} {t : TypeId} {sz n : Nat} {es : List (List AV)} (h : FnO P f args fun r R => r = .ow 0 n ∧ R = [.row t sz es] ∧ n = es.length) : Fn P f args fun r => r = .sl sz n fun i => es.getD i [] := by
  refine ⟨h.go, fun c0 us hd hM hg hr => (h.calls c0 us hg hd hM hr).mono ?_⟩
  rintro e w' ⟨v, r, c', R, rfl, ⟨rfl, rfl, rfl⟩, rfl, q2, q3, q4⟩
  obtain ⟨c2, e1, e2, e3, e4⟩ := q2.freeze (k := 0) rfl
  refine ⟨v, _, rfl, rfl, q2.low.below, ?_⟩
  have hE : Ext c2.closed { c0 with w := c'.w } := by
    refine ⟨by simp [Ctx.closed, e1], by simp [Ctx.closed, e1], by simp [Ctx.closed, e1], by simp [Ctx.closed, e1], fun b hb hm => ⟨fun h => hm ?_, by simp [Ctx.closed, e1]⟩, Nat.zero_le _, fun k hk => absurd hk (Nat.not_lt_zero k), fun k hk => absurd hk (Nat.not_lt_zero k), fun k _ hk => absurd hk (Nat.not_lt_zero k)⟩
    exact (e2.foreign b (hM b h)).2 h
  refine Rd.ext _ hE ?_
  have := e4 v q3
  simp only [Rd] at this ⊢
  exact this
end Go.Proofs.Ytjcboeldmgmfcaa.A
end
