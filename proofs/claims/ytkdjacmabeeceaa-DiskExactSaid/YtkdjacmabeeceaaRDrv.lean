/-
A reference's disk in memory of its own.
-/
import Derived.Test.YtkdjacmabeeceaaTop2
namespace Go.Proofs.Ytkdjacmabeeceaa
open Go.RowKit

structure RfR (w : World) (M : Ms) (base bd : Nat) (vc vk : Value) (d : Dis) : Prop where
  ge : base ≤ bd
  blk : Blk w bd 64 #[vc, vk, .int .i64 d.reqs, .int .i64 d.left]
  cells : OwR w (DM M bd vk) base 47 vc d.cells
  cache : OwR w (DM M bd vc) base 78 vk d.cache

/-- From a drive to what it has become. -/
structure RStep (w : World) (M : Ms) (base bd : Nat) (vc vk : Value) (w' : World) (vc' vk' : Value) (d' : Dis) : Prop where
  drv : RfR w' M base bd vc' vk' d'
  below : Below base w w'
  keep : Keep w (DA M bd vc vk) w' (DA M bd vc' vk')

theorem RfR.same {w : World} {M : Ms} {base bd : Nat} {vc vk : Value} {d : Dis} (h : RfR w M base bd vc vk d) : RStep w M base bd vc vk w vc vk d := ⟨h, Below.refl _ _, Keep.refl _ _⟩
theorem RStep.trans {w w1 w2 : World} {M : Ms} {base bd : Nat} {vc vk vc1 vk1 vc2 vk2 : Value} {d1 d2 : Dis} (h : RStep w M base bd vc vk w1 vc1 vk1 d1) (k : RStep w1 M base bd vc1 vk1 w2 vc2 vk2 d2) : RStep w M base bd vc vk w2 vc2 vk2 d2 :=
  ⟨k.drv, h.below.trans k.below, h.keep.trans k.keep⟩
/-- What does nothing to old memory. -/
theorem RfR.belowd {w w' : World} {M : Ms} {base bd : Nat} {vc vk : Value} {d : Dis} (h : RfR w M base bd vc vk d) (hb : Below w.heap.size w w') (hbase : base ≤ w.heap.size) : RStep w M base bd vc vk w' vc vk d :=
  ⟨⟨h.ge, h.blk.below hb, h.cells.below hb, h.cache.below hb⟩, hb.mono hbase, fun b hb' hm => ⟨hm, hb.block b hb'⟩⟩
/-- The drive's own block turned, nothing else. -/
theorem RfR.head {w w' : World} {M : Ms} {base bd : Nat} {vc vk : Value} {d : Dis} (h : RfR w M base bd vc vk d) {q l : Int} (hg : w.grownBy w' (some bd)) (hblk : Blk w' bd 64 #[vc, vk, .int .i64 q, .int .i64 l]) (hbase : base ≤ w.heap.size) :
    RStep w M base bd vc vk w' vc vk { d with reqs := q, left := l } :=
  ⟨⟨h.ge, hblk, h.cells.kept hg (.inr (h.cells.ne_ h.blk (by decide))) (fun b e => .inr (.inl (by cases e; rfl))), h.cache.kept hg (.inr (h.cache.ne_ h.blk (by decide))) (fun b e => .inr (.inl (by cases e; rfl)))⟩,
   (Below.refl _ _).grown hg hbase (fun k e => by cases e; exact h.ge), fun b hb hm => ⟨hm, hg.block b hb (fun e => hm (.inr (.inl (by cases e; rfl))))⟩⟩
theorem RfR.set23 {w : World} {M : Ms} {base bd : Nat} {vc vk : Value} {d : Dis} (h : RfR w M base bd vc vk d) (hbase : base ≤ w.heap.size) (q l : Int) :
    RStep w M base bd vc vk ((w.setCell ⟨bd, 2, none⟩ (.int .i64 q)).setCell ⟨bd, 3, none⟩ (.int .i64 l)) vc vk { d with reqs := q, left := l } :=
  h.head (grownBy_trans (grownBy_set _ _ _ _) (grownBy_set _ _ _ _)) ((h.blk.set_ 2 (.int .i64 q)).set_ 3 (.int .i64 l)) hbase
theorem RfR.set2 {w : World} {M : Ms} {base bd : Nat} {vc vk : Value} {d : Dis} (h : RfR w M base bd vc vk d) (hbase : base ≤ w.heap.size) (q : Int) :
    RStep w M base bd vc vk (w.setCell ⟨bd, 2, none⟩ (.int .i64 q)) vc vk { d with reqs := q, left := d.left } :=
  h.head (grownBy_set _ _ _ _) (h.blk.set_ 2 (.int .i64 q)) hbase
theorem RfR.mok {w : World} {M : Ms} {base bd : Nat} {vc vk : Value} {d : Dis} (h : RfR w M base bd vc vk d) (hM : MOk w M) : MOk w (DA M bd vc vk) := by
  rintro b (h' | rfl | h' | h')
  · exact hM b h'
  · exact h.blk.lt
  · exact h.cells.own_lt h'
  · exact h.cache.own_lt h'
/-- The cache is another row, and the drive's block says so. -/
theorem RfR.newCache {w w1 : World} {M : Ms} {base bd : Nat} {vc vk vk1 : Value} {d : Dis} {l : List Wri} (h : RfR w M base bd vc vk d) (hbase : base ≤ w.heap.size) (hg : w.grownBy w1 vk.ownBlock) (hat : vk1.ownBlock = vk.ownBlock ∨ vk1.ownBlock = some w.heap.size)
    (ho : OwR w1 (DM M bd vc) base 78 vk1 l) : RStep w M base bd vc vk (w1.setCell ⟨bd, 1, none⟩ vk1) vc vk1 { d with cache := l } := by
  have hne : some bd ≠ vk.ownBlock := fun e => h.cache.ne_ h.blk (by decide) e.symm
  have hblk := h.blk.grown hg hne
  have hcc : vc.ownBlock = none ∨ vc.ownBlock ≠ vk.ownBlock := by
    cases hc : vc.ownBlock with
    | none => exact .inl rfl
    | some g =>
      right
      intro e
      obtain ⟨xs, ho', _⟩ := h.cells
      obtain ⟨ys, ho'', _⟩ := h.cache
      rcases ho'.2 with ⟨rfl, _⟩ | ⟨g1, cap, cur, rfl, _, hh, _⟩
      · simp [Value.ownBlock] at hc
      · rcases ho''.2 with ⟨rfl, _⟩ | ⟨g2, cap2, cur2, rfl, _, hh2, _⟩
        · simp [Value.ownBlock] at e
        · simp [Value.ownBlock] at hc e
          subst hc; subst e
          rw [hh] at hh2
          injection hh2 with hh2
          injection hh2 with _ ht
          exact absurd ht (by decide)
  have hk : Keep w (DA M bd vc vk) (w1.setCell ⟨bd, 1, none⟩ vk1) (DA M bd vc vk1) := fun b hb hm => by
    have h1 : ¬ DA M bd vc vk1 b := by
      rintro (h' | h' | h' | h')
      · exact hm (.inl h')
      · exact hm (.inr (.inl h'))
      · exact hm (.inr (.inr (.inl h')))
      · rcases hat with h5 | h5
        · exact hm (.inr (.inr (.inr (h5 ▸ h'))))
        · rw [h5] at h'; injection h' with h'; omega
    exact ⟨h1, (Below.heap_setCell _ _ _ _ (fun e => hm (.inr (.inl e)))).trans (hg.block b hb (fun e => hm (.inr (.inr (.inr e.symm)))))⟩
  refine ⟨⟨h.ge, hblk.set_ 1 vk1, ?_, ?_⟩, ?_, hk⟩
  · have h1 : OwR w1 (DM M bd vk) base 47 vc d.cells := h.cells.kept hg hcc (fun b e => .inr (.inr e))
    have h2 := h1.setCell (p := ⟨bd, 1, none⟩) (h1.ne_ hblk (by decide)) (.inr (.inl rfl)) vk1
    obtain ⟨xs, ho', he⟩ := h2
    obtain ⟨xs0, ho0, he0⟩ := h.cells
    have hx : xs = xs0 ∨ True := .inr trivial
    refine ⟨xs0, ?_, he0.mono fun cs x _ => Rp.mono fun b hb hm => ?_⟩
    · exact (ho0.kept hg hcc).kept (grownBy_set _ _ _ _) (.inr (by
        intro e
        exact h.cells.ne_ h.blk (by decide) e))
    · have hm' : ¬ DA M bd vc vk b := by
        rintro (h' | h' | h' | h')
        · exact hm (.inl (.inl h'))
        · exact hm (.inl (.inr (.inl h')))
        · exact hm (.inr h')
        · exact hm (.inl (.inr (.inr h')))
      obtain ⟨k1, k2⟩ := hk b hb hm'
      refine ⟨?_, k2⟩
      rintro ((h' | h' | h') | h')
      · exact k1 (.inl h')
      · exact k1 (.inr (.inl h'))
      · exact k1 (.inr (.inr (.inr h')))
      · exact k1 (.inr (.inr (.inl h')))
  · exact ho.setCell (p := ⟨bd, 1, none⟩) (ho.ne_ hblk (by decide)) (.inr (.inl rfl)) vk1
  · exact ((Below.refl _ _).grown hg hbase (fun k e => h.cache.own_ge e)).setCell h.ge vk1

/-- The cells' row after a store of a whole cell. -/
theorem RfR.storeCell {w : World} {M : Ms} {base bd g c : Nat} {vk : Value} {d : Dis} {j : Nat} (h : RfR w M base bd (.slice (some ⟨g, 0, none⟩) d.cells.length c) vk d) (hj : j < d.cells.length) (hbase : base ≤ w.heap.size) (n : Int) (u1 u2 : Value) (b1 b2 : List UInt8)
    (h1 : SlR w (DA M bd (.slice (some ⟨g, 0, none⟩) d.cells.length c) vk) u1 b1) (h2 : SlR w (DA M bd (.slice (some ⟨g, 0, none⟩) d.cells.length c) vk) u2 b2) :
    RStep w M base bd (.slice (some ⟨g, 0, none⟩) d.cells.length c) vk (((w.setCell ⟨g, j * 3, none⟩ (.int .i64 n)).setCell ⟨g, j * 3 + 1, none⟩ u1).setCell ⟨g, j * 3 + 2, none⟩ u2) (.slice (some ⟨g, 0, none⟩) d.cells.length c) vk { d with cells := d.cells.set j ⟨n, b1, b2⟩ } := by
  have hgr := grownBy_trans (grownBy_trans (grownBy_set w g (j * 3) (.int .i64 n)) (grownBy_set _ g (j * 3 + 1) u1)) (grownBy_set _ g (j * 3 + 2) u2)
  generalize hw' : ((w.setCell ⟨g, j * 3, none⟩ (.int .i64 n)).setCell ⟨g, j * 3 + 1, none⟩ u1).setCell ⟨g, j * 3 + 2, none⟩ u2 = w' at *
  have hgbd : g ≠ bd := fun e => h.cells.ne_ h.blk (by decide) (by simp [Value.ownBlock, e])
  have hk : Keep w (DA M bd (.slice (some ⟨g, 0, none⟩) d.cells.length c) vk) w' (DA M bd (.slice (some ⟨g, 0, none⟩) d.cells.length c) vk) := fun b hb hm => ⟨hm, hgr.block b hb (fun e => hm (.inr (.inr (.inl (by simpa [Value.ownBlock] using e.symm)))))⟩
  have hvk : vk.ownBlock ≠ some g := by
    intro e
    obtain ⟨xs, ho', _⟩ := h.cells
    obtain ⟨ys, ho'', _⟩ := h.cache
    rcases ho'.2 with ⟨h0, _⟩ | ⟨g1, cap, cur, h0, _, hh, _⟩
    · cases h0
    · cases h0
      rcases ho''.2 with ⟨rfl, _⟩ | ⟨g2, cap2, cur2, rfl, _, hh2, _⟩
      · simp [Value.ownBlock] at e
      · simp [Value.ownBlock] at e
        subst e
        rw [hh] at hh2
        injection hh2 with hh2
        injection hh2 with _ ht
        exact absurd ht (by decide)
  refine ⟨⟨h.ge, h.blk.grown hgr (fun e => hgbd (by injection e with e; exact e.symm)), ?_, ?_⟩, (Below.refl _ _).grown hgr hbase (fun k e => by cases e; exact h.cells.own_ge rfl), hk⟩
  · obtain ⟨xs, ho, he⟩ := h.cells
    have hlen := he.length
    have hlt : j * 3 + 2 < xs.length := by
      have : (j + 1) * 3 ≤ d.cells.length * 3 := Nat.mul_le_mul_right _ hj
      simp only [Rp.sz] at hlen
      rw [hlen]; omega
    have s1 := ho.stored (j * 3) (.int .i64 n)
    have s2 := s1.1.stored (j * 3 + 1) u1
    have s3 := s2.1.stored (j * 3 + 2) u2
    have s3 := s3.1
    rw [hw'] at s3
    refine ⟨_, by rw [List.length_set]; exact s3, ?_⟩
    have hel : ∀ cs x, Rp.E w (fun b => DM M bd vk b ∨ (Value.slice (some ⟨g, 0, none⟩) d.cells.length c).ownBlock = some b) cs x → Rp.E w' (fun b => DM M bd vk b ∨ (Value.slice (some ⟨g, 0, none⟩) (d.cells.set j ⟨n, b1, b2⟩).length c).ownBlock = some b) cs x := fun cs (x : Cel) => Rp.mono (fun b hb hm => ⟨fun h' => hm (by simpa [Value.ownBlock] using h'), hgr.block b hb (fun e => hm (.inr (by simpa [Value.ownBlock] using e.symm)))⟩)
    refine Elems.put (cs := [.int .i64 n, u1, u2]) (he.mono fun cs x _ => hel cs x) hj (by simp) (fun i hi => ?_) rfl ⟨u1, u2, rfl, h1.mono ?_, h2.mono ?_⟩ (fun i hi => ?_)
    · simp only [Rp.sz] at hi
      rw [List.getElem?_set_ne (by omega), List.getElem?_set_ne (by omega), List.getElem?_set_ne (by omega)]
    · exact fun b hb hm => ⟨fun h' => hm (by rcases h' with (h' | h' | h') | h'; exact .inl h'; exact .inr (.inl h'); exact .inr (.inr (.inr h')); exact .inr (.inr (.inl (by simpa [Value.ownBlock] using h')))), (hk b hb hm).2⟩
    · exact fun b hb hm => ⟨fun h' => hm (by rcases h' with (h' | h' | h') | h'; exact .inl h'; exact .inr (.inl h'); exact .inr (.inr (.inr h')); exact .inr (.inr (.inl (by simpa [Value.ownBlock] using h')))), (hk b hb hm).2⟩
    · simp only [Rp.sz] at hi ⊢
      rcases (show i = 0 ∨ i = 1 ∨ i = 2 by omega) with rfl | rfl | rfl
      · rw [List.getElem?_set_ne (by omega), List.getElem?_set_ne (by omega), Nat.add_zero, List.getElem?_set_self (by omega)]; rfl
      · rw [List.getElem?_set_ne (by omega), List.getElem?_set_self (by rw [List.length_set]; omega)]; rfl
      · rw [List.getElem?_set_self (by rw [List.length_set, List.length_set]; omega)]; rfl
  · exact h.cache.kept hgr (.inr hvk) (fun b e => .inr (.inr (by simpa [Value.ownBlock] using e)))

/-- The cache let go. -/
theorem RfR.noCache {w : World} {M : Ms} {base bd : Nat} {vc vk : Value} {d : Dis} (h : RfR w M base bd vc vk d) :
    RStep w M base bd vc vk (w.setCell ⟨bd, 1, none⟩ (.slice none 0 0)) vc (.slice none 0 0) { d with cache := [] } := by
  have hg := grownBy_set w bd 1 (.slice none 0 0)
  refine ⟨⟨h.ge, h.blk.set_ 1 _, (h.cells.kept hg (.inr (h.cells.ne_ h.blk (by decide))) (fun b e => .inr (.inl (by cases e; rfl)))).less ?_, OwR.nil _ _ _ _⟩, (Below.refl _ _).setCell h.ge _, fun b hb hm => ⟨?_, hg.block b hb (fun e => hm (.inr (.inl (by cases e; rfl))))⟩⟩
  · rintro b (h' | h' | h')
    · exact .inl h'
    · exact .inr (.inl h')
    · cases h'
  · rintro (h' | h' | h' | h')
    · exact hm (.inl h')
    · exact hm (.inr (.inl h'))
    · exact hm (.inr (.inr (.inl h')))
    · cases h'

theorem RfR.away {w1 w2 : World} {M : Ms} {bd : Nat} {vc vk : Value} {d : Dis} (h : RfR w2 M w1.heap.size bd vc vk d) (hB : Below w1.heap.size w1 w2) : Keep w1 M w2 (DA M bd vc vk) := fun b hb hm => ⟨by
  rintro (h' | h' | h' | h')
  · exact hm h'
  · have := h.ge; omega
  · have := h.cells.own_ge h'; omega
  · have := h.cache.own_ge h'; omega, hB.block b hb⟩
theorem RfR.rv {w : World} {M : Ms} {base bd : Nat} {vc vk : Value} {d : Dis} (h : RfR w M base bd vc vk d) (hM : ∀ b, base ≤ b → ¬ M b) : Rv w M (.agg #[vc, vk, .int .i64 d.reqs, .int .i64 d.left]) d :=
  rv_dis.2 ⟨_, _, rfl, (h.cells.less (fun _ h => .inl h)).sl hM, (h.cache.less (fun _ h => .inl h)).sl hM⟩
end Go.Proofs.Ytkdjacmabeeceaa
