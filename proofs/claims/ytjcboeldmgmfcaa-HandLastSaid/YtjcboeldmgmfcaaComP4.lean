/-
Several texts in one.
-/
import Derived.Test.YtjcboeldmgmfcaaComP3
import Derived.Test.YtjcboeldmgmfcaaComP2
import Derived.ProofKit
import Derived.Deep.Slices
import Derived.OpenShut
import Derived.Test.YtjcboeldmgmfcaaRows
import Derived.Below
import Derived.ChangeSame
import Derived.Carry

/-
The reference's handles: put.
-/
section
namespace Go.Proofs.Ytjcboeldmgmfcaa.A
open Go.RowKit

theorem hd_done' {H : List AB} {l : List Hd} {p : Nat} {h' : Hd} {m : Nat} (hp : p < l.length) (h0 : H[0]? = some (.rowo 36 3 ((l.map hdC).set p (owC h' 1 2)) m))
    (ha : H[1]? = some (.rowo 3 1 (h'.lbas.map icC) 0)) (hb : H[2]? = some (.rowo 23 1 (h'.blocks.map bcC) 0)) : ∃ H', ConvH H H' ∧ H'[0]? = some (.row 36 3 ((l.set p h').map hdC)) := by
  have l1 := (List.getElem?_eq_some_iff.1 ha).1
  have l2 := (List.getElem?_eq_some_iff.1 hb).1
  obtain ⟨H', c, e⟩ := hd_done (H := (H.set 1 (.row 3 1 (h'.lbas.map icC))).set 2 (.row 23 1 (h'.blocks.map bcC))) (a := 1) (b := 2) hp (by decide) (by decide)
    (by rw [List.getElem?_set_ne (by decide), List.getElem?_set_ne (by decide)]; exact h0) (by rw [List.getElem?_set_ne (by decide), List.getElem?_set_self l1]) (by rw [List.getElem?_set_self (by simpa using l2)])
  exact ⟨H', (ConvH.row ha (ic_lt _)).trans ((ConvH.row (by rw [List.getElem?_set_ne (by decide)]; exact hb) (bc_lt _)).trans c), e⟩
set_option maxRecDepth 100000 in
theorem rput_own (l : List Hd) (p : Nat) (lba : Int) (b : List UInt8) (hok : hdsOk l = true) (hs : ∀ h ∈ l, HdB h) (hp : p < l.length) (h8 : b.length = 8) : ACalls Try.prog false 21 [hdsA l, .v (.int .i64 p), .v (.int .i64 lba), bA b] [] fun r H =>
    (fullH (l.getD p ⟨0, [], []⟩) lba = true ∧ r = .tp [.v (.slice none 0 0), .v (.int .i64 20)] ∧ H = []) ∨
    (fullH (l.getD p ⟨0, [], []⟩) lba = false ∧ r = .tp [.ow 0 l.length, .v (.int .i64 0)] ∧ H = [.row 36 3 ((l.set p (wrH (l.getD p ⟨0, [], []⟩) lba b)).map hdC)]) := by
  have hl : l.length ≤ 3 := by
    have := hok
    rw [hdsOk_eq, Bool.and_eq_true, decide_eq_true_eq] at this
    exact this.1
  obtain ⟨ho1, ho2, ho3, ho4⟩ := hdOk_iff.1 (hdOk_of hok hp)
  have hT : tkB l p l.length = [.rowo 36 3 ((l.map hdC).set p (owC (l.getD p ⟨0, [], []⟩) 1 2)) 3, .rowo 3 1 ((l.getD p ⟨0, [], []⟩).lbas.map icC) 0, .rowo 23 1 ((l.getD p ⟨0, [], []⟩).blocks.map bcC) 0] := by rw [tkB, List.take_length]
  have htw := twinhandlesI_own l p hp (by omega) hs
  rw [hT] at htw
  obtain ⟨h, hh⟩ : ∃ h, h = l.getD p ⟨0, [], []⟩ := ⟨_, rfl⟩
  rw [← hh] at ho1 ho2 ho3 ho4 htw ⊢
  have hE : ((l.map hdC).set p (owC h 1 2)).getD p [] = owC h 1 2 := set_getD_eq (by simpa using hp)
  have hL : l.length = ((l.map hdC).set p (owC h 1 2)).length := by simp
  refine ACalls.ofC tys_ok Try.func21 rfl rfl (Nat.le_of_ble_eq_true rfl) ?_
  conv => whnf
  refine ACalls.mono htw ?_
  rintro _ _ ⟨rfl, rfl⟩
  conv => whnf
  refine And.intro ⟨by omega, by omega⟩ ?_
  conv => whnf
  refine aLoop.rule Nat (fun k => ([(2, .v (.int .i64 lba)), (3, bA b), (10, .ow 0 l.length), (11, .ep 0 l.length p 3 0), (12, .v (.int .i64 k))], [.rowo 36 3 ((l.map hdC).set p (owC h 1 2)) 3, .rowo 3 1 (h.lbas.map icC) 0, .rowo 23 1 (h.blocks.map bcC) 0])) (fun k => k ≤ h.lbas.length ∧ ∀ j, j < k → h.lbas.getD j 0 ≠ lba) (fun k => h.lbas.length - k) 0 ⟨Nat.zero_le _, fun j hj => absurd hj (Nat.not_lt_zero _)⟩ ⟨[], trivial, ⟨rfl, rfl, rfl, rfl, rfl, trivial⟩, ⟨rfl, rfl, rfl, trivial⟩, rfl, rfl, rfl⟩ ?_
  rintro k ⟨hk, hI⟩
  conv => whnf
  refine And.intro ⟨rfl, hL, hp⟩ ?_
  conv => whnf
  rw [hE]
  conv => whnf
  refine boolK_intro (fun h2 => ?_) (fun h2 => ?_) <;> simp only [decide_eq_true_eq, decide_eq_false_iff_not] at h2 <;> conv => whnf
  · have hkl : k < h.lbas.length := by omega
    have hEl : (h.lbas.map icC).getD k [] = icC (h.lbas.getD k 0) := map_getD hkl
    refine And.intro ⟨rfl, hL, hp⟩ ?_
    conv => whnf
    rw [hE]
    conv => whnf
    refine And.intro ⟨by omega, by omega⟩ ?_
    conv => whnf
    refine And.intro ⟨rfl, by simp, by rw [Int.toNat_natCast]; exact hkl⟩ ?_
    conv => whnf
    rw [Int.toNat_natCast, hEl]
    conv => whnf
    refine boolK_intro (fun h4 => ?_) (fun h4 => ?_) <;> conv => whnf
    · have e : lb h.lbas lba = k := lb_hit ho3 hkl (by simpa using h4)
      have hql : k < h.blocks.length := by omega
      have hB : (h.blocks.map bcC).getD k [] = bcC (h.blocks.getD k []) := map_getD hql
      apply aDraw.treeM (0) tys_ok mixed (.one 0 (.one 1 (.one 2 (.one 3 (.one 4 (.one 5 (.one 6 (.one 7 (.one 8 .fin))))))))) [37, 38, 39, 40, 41, 42, 43, 44] (by kernel_rfl)
      · conv => whnf
        try (refine And.intro ⟨rfl, hL, hp⟩ ?_; conv => whnf; rw [hE]; conv => whnf)
        refine Fn.closed (twin_fn b (by omega)) rfl ?_
        rintro _ rfl
        conv => whnf
        try (refine And.intro (by first | omega | (simp; done)) ?_; conv => whnf)
        try (refine And.intro ⟨rfl, by first | rfl | (simp; done) | (simp; omega), by first | omega | (simp; omega)⟩ ?_; conv => whnf)
        (rw [Int.toNat_natCast, hB])
        conv => whnf
        exact ⟨rfl, rfl⟩
      conv => whnf
      have hw : wrH h lba b = ⟨h.id, h.lbas, h.blocks.set k b⟩ := by rw [wrH, e, h4, decide_eq_true hkl]; rfl
      have hfu : fullH h lba = false := by
        rw [fullH, List.any_eq_true.2 ⟨h.lbas.getD k 0, getD_mem hkl, by rw [beq_iff_eq]; exact (by simpa using h4 : h.lbas.getD k 0 = lba).symm⟩]; simp
      refine ⟨_, .tp [.ow 0 l.length, .v (.int .i64 0)], _, fun _ _ h => h, wk_done (hd_done' (h' := ⟨h.id, h.lbas, h.blocks.set k b⟩) (m := 3) hp ?_ rfl ?_) rfl, .inr ⟨hfu, rfl, by rw [hw]⟩⟩
      · show some (AB.rowo _ _ _ _) = _
        rw [show owC h 1 2 = owC ⟨h.id, h.lbas, h.blocks.set k b⟩ 1 2 by simp [owC]]
      · show some (AB.rowo _ _ _ _) = _
        rw [List.map_set]; rfl
    · refine ⟨k + 1, ⟨by omega, fun j hj => ?_⟩, by omega, [], trivial, ⟨rfl, rfl, rfl, rfl, wsucc (by omega), trivial⟩, ⟨rfl, rfl, rfl, trivial⟩, rfl, rfl, rfl⟩
      by_cases e : j = k
      · subst e; simpa using h4
      · exact hI j (by omega)
  · have hno : ∀ j, j < h.lbas.length → h.lbas.getD j 0 ≠ lba := fun j hj => hI j (by omega)
    refine And.intro ⟨rfl, hL, hp⟩ ?_
    conv => whnf
    rw [hE]
    conv => whnf
    have hany : (h.lbas.any fun y => lba == y) = false := by
      rw [List.any_eq_false]
      intro x hx
      obtain ⟨j, hj, rfl⟩ := List.mem_iff_getElem.1 hx
      have := hno j hj
      rw [List.getD_eq_getElem?_getD, List.getElem?_eq_getElem hj] at this
      simp only [Option.getD_some] at this
      simp only [beq_iff_eq]; exact fun e => this e.symm
    refine boolK_intro (fun h5 => ?_) (fun h5 => ?_) <;> simp only [decide_eq_true_eq, decide_eq_false_iff_not] at h5 <;> conv => whnf
    · exact ⟨_, .tp [.v (.slice none 0 0), .v (.int .i64 20)], [], fun _ _ h => h, Wk.conv ⟨[], trivial, ⟨rfl, trivial⟩, trivial, rfl, rfl, rfl⟩, .inl ⟨by rw [fullH, hany, decide_eq_true (show 4 ≤ h.lbas.length by omega)]; rfl, rfl, rfl⟩⟩
    have hfu : fullH h lba = false := by rw [fullH, decide_eq_false (show ¬ 4 ≤ h.lbas.length by omega)]; rfl
    have hw : wrH h lba b = ⟨h.id, insL h.lbas lba (lb h.lbas lba), insL h.blocks b (lb h.lbas lba)⟩ := by rw [wrH, lb_no hno]; rfl
    apply aDraw.treeM (7168) tys_ok mixed (.one 0 (.one 1 (.one 2 (.one 3 (.one 4 (.one 5 (.one 6 (.one 9 (.one 13 (.two 7 (.two 8 (.two 10 (.two 11 (.two 12 (.one 14 (.one 15 (.one 16 (.one 17 (.one 18 (.one 19 (.one 20 (.one 21 (.one 22 .fin))))))))) 14 (.two 12 (.one 15 (.one 16 (.one 17 (.one 18 (.one 19 (.one 20 (.one 21 (.one 22 .fin)))))))) 15 (.one 12 (.one 16 (.one 17 (.one 18 (.one 19 (.one 20 (.one 21 (.one 22 .fin)))))))))) 14 (.two 11 (.two 12 (.one 15 (.one 16 (.one 17 (.one 18 (.one 19 (.one 20 (.one 21 (.one 22 .fin)))))))) 15 (.one 12 (.one 16 (.one 17 (.one 18 (.one 19 (.one 20 (.one 21 (.one 22 .fin))))))))) 15 (.one 11 (.one 12 (.one 16 (.one 17 (.one 18 (.one 19 (.one 20 (.one 21 (.one 22 .fin))))))))))) 14 (.two 10 (.two 11 (.two 12 (.one 15 (.one 16 (.one 17 (.one 18 (.one 19 (.one 20 (.one 21 (.one 22 .fin)))))))) 15 (.one 12 (.one 16 (.one 17 (.one 18 (.one 19 (.one 20 (.one 21 (.one 22 .fin))))))))) 15 (.one 11 (.one 12 (.one 16 (.one 17 (.one 18 (.one 19 (.one 20 (.one 21 (.one 22 .fin)))))))))) 15 (.one 10 (.one 11 (.one 12 (.one 16 (.one 17 (.one 18 (.one 19 (.one 20 (.one 21 (.one 22 .fin)))))))))))) 10 (.two 8 (.two 11 (.two 12 (.one 14 (.one 15 (.one 16 (.one 17 (.one 18 (.one 19 (.one 20 (.one 21 (.one 22 .fin))))))))) 14 (.two 12 (.one 15 (.one 16 (.one 17 (.one 18 (.one 19 (.one 20 (.one 21 (.one 22 .fin)))))))) 15 (.one 12 (.one 16 (.one 17 (.one 18 (.one 19 (.one 20 (.one 21 (.one 22 .fin)))))))))) 14 (.two 11 (.two 12 (.one 15 (.one 16 (.one 17 (.one 18 (.one 19 (.one 20 (.one 21 (.one 22 .fin)))))))) 15 (.one 12 (.one 16 (.one 17 (.one 18 (.one 19 (.one 20 (.one 21 (.one 22 .fin))))))))) 15 (.one 11 (.one 12 (.one 16 (.one 17 (.one 18 (.one 19 (.one 20 (.one 21 (.one 22 .fin))))))))))) 11 (.two 8 (.two 12 (.one 14 (.one 15 (.one 16 (.one 17 (.one 18 (.one 19 (.one 20 (.one 21 (.one 22 .fin))))))))) 14 (.two 12 (.one 15 (.one 16 (.one 17 (.one 18 (.one 19 (.one 20 (.one 21 (.one 22 .fin)))))))) 15 (.one 12 (.one 16 (.one 17 (.one 18 (.one 19 (.one 20 (.one 21 (.one 22 .fin)))))))))) 12 (.one 8 (.one 14 (.one 15 (.one 16 (.one 17 (.one 18 (.one 19 (.one 20 (.one 21 (.one 22 .fin))))))))))))) 10 (.two 7 (.two 8 (.two 11 (.two 12 (.one 14 (.one 15 (.one 16 (.one 17 (.one 18 (.one 19 (.one 20 (.one 21 (.one 22 .fin))))))))) 14 (.two 12 (.one 15 (.one 16 (.one 17 (.one 18 (.one 19 (.one 20 (.one 21 (.one 22 .fin)))))))) 15 (.one 12 (.one 16 (.one 17 (.one 18 (.one 19 (.one 20 (.one 21 (.one 22 .fin)))))))))) 14 (.two 11 (.two 12 (.one 15 (.one 16 (.one 17 (.one 18 (.one 19 (.one 20 (.one 21 (.one 22 .fin)))))))) 15 (.one 12 (.one 16 (.one 17 (.one 18 (.one 19 (.one 20 (.one 21 (.one 22 .fin))))))))) 15 (.one 11 (.one 12 (.one 16 (.one 17 (.one 18 (.one 19 (.one 20 (.one 21 (.one 22 .fin))))))))))) 11 (.two 8 (.two 12 (.one 14 (.one 15 (.one 16 (.one 17 (.one 18 (.one 19 (.one 20 (.one 21 (.one 22 .fin))))))))) 14 (.two 12 (.one 15 (.one 16 (.one 17 (.one 18 (.one 19 (.one 20 (.one 21 (.one 22 .fin)))))))) 15 (.one 12 (.one 16 (.one 17 (.one 18 (.one 19 (.one 20 (.one 21 (.one 22 .fin)))))))))) 12 (.one 8 (.one 14 (.one 15 (.one 16 (.one 17 (.one 18 (.one 19 (.one 20 (.one 21 (.one 22 .fin)))))))))))) 11 (.two 7 (.two 8 (.two 12 (.one 14 (.one 15 (.one 16 (.one 17 (.one 18 (.one 19 (.one 20 (.one 21 (.one 22 .fin))))))))) 14 (.two 12 (.one 15 (.one 16 (.one 17 (.one 18 (.one 19 (.one 20 (.one 21 (.one 22 .fin)))))))) 15 (.one 12 (.one 16 (.one 17 (.one 18 (.one 19 (.one 20 (.one 21 (.one 22 .fin)))))))))) 12 (.one 8 (.one 14 (.one 15 (.one 16 (.one 17 (.one 18 (.one 19 (.one 20 (.one 21 (.one 22 .fin))))))))))) 12 (.one 7 (.one 8 (.one 14 (.one 15 (.one 16 (.one 17 (.one 18 (.one 19 (.one 20 (.one 21 (.one 22 .fin))))))))))))))))))))))) [52, 53, 54, 55, 56, 57, 58, 59, 60, 61, 62, 63, 64, 65, 66, 67, 68, 69, 70, 71, 72] (by kernel_rfl)
    · conv => whnf
      try (refine And.intro ⟨rfl, hL, hp⟩ ?_; conv => whnf; rw [hE]; conv => whnf)
      refine And.intro ?_ ?_
      · conv => whnf
        refine And.intro ?_ ?_
        · conv => whnf
          try (refine And.intro (by first | rfl | omega) ?_; conv => whnf)
          try (refine And.intro (by first | omega | exact ⟨by first | rfl | (simp; done) | (simp; omega), by omega⟩) ?_; conv => whnf)
          refine And.intro ?_ ?_
          · conv => whnf
            refine And.intro ?_ ?_
            · conv => whnf
              refine And.intro ?_ ?_
              · conv => whnf
                try (refine And.intro ⟨rfl, hL, hp⟩ ?_; conv => whnf; rw [hE]; conv => whnf)
                refine Fn.closed (twin_fn b (by omega)) rfl ?_
                rintro _ rfl
                conv => whnf
                try (refine And.intro (by first | rfl | omega) ?_; conv => whnf)
                try (refine And.intro (by first | omega | exact ⟨by first | rfl | (simp; done) | (simp; omega), by omega⟩) ?_; conv => whnf)
                try (refine And.intro ⟨rfl, by first | rfl | (simp; done) | (simp; omega), by first | omega | (simp; omega)⟩ ?_; conv => whnf)
                (first | rw [hE] | rw [set_getD_eq (by simpa using hp)])
                conv => whnf
                try (refine And.intro ⟨rfl, by first | rfl | (simp; done) | (simp; omega), by first | omega | (simp; omega)⟩ ?_; conv => whnf)
                (first | rw [hE] | rw [set_getD_eq (by simpa using hp)])
                conv => whnf
                exact ⟨rfl, rfl⟩
              · conv => whnf
                refine Fn.closed (twin_fn b (by omega)) rfl ?_
                rintro _ rfl
                conv => whnf
                refine And.intro ?_ ?_
                · conv => whnf
                  try (refine And.intro ⟨rfl, hL, hp⟩ ?_; conv => whnf; rw [hE]; conv => whnf)
                  try (refine And.intro (by first | rfl | omega) ?_; conv => whnf)
                  try (refine And.intro (by first | omega | exact ⟨by first | rfl | (simp; done) | (simp; omega), by omega⟩) ?_; conv => whnf)
                  try (refine And.intro ⟨rfl, by first | rfl | (simp; done) | (simp; omega), by first | omega | (simp; omega)⟩ ?_; conv => whnf)
                  (first | rw [hE] | rw [set_getD_eq (by simpa using hp)])
                  conv => whnf
                  try (refine And.intro ⟨rfl, by first | rfl | (simp; done) | (simp; omega), by first | omega | (simp; omega)⟩ ?_; conv => whnf)
                  (first | rw [hE] | rw [set_getD_eq (by simpa using hp)])
                  conv => whnf
                  exact ⟨rfl, rfl⟩
                · conv => whnf
                  try (refine And.intro ⟨rfl, hL, hp⟩ ?_; conv => whnf; rw [hE]; conv => whnf)
                  try (refine And.intro (by first | rfl | omega) ?_; conv => whnf)
                  try (refine And.intro (by first | omega | exact ⟨by first | rfl | (simp; done) | (simp; omega), by omega⟩) ?_; conv => whnf)
                  try (refine And.intro ⟨rfl, by first | rfl | (simp; done) | (simp; omega), by first | omega | (simp; omega)⟩ ?_; conv => whnf)
                  (first | rw [hE] | rw [set_getD_eq (by simpa using hp)])
                  conv => whnf
                  try (refine And.intro ⟨rfl, by first | rfl | (simp; done) | (simp; omega), by first | omega | (simp; omega)⟩ ?_; conv => whnf)
                  (first | rw [hE] | rw [set_getD_eq (by simpa using hp)])
                  conv => whnf
                  exact ⟨rfl, rfl⟩
            · conv => whnf
              refine Fn.closed (twin_fn b (by omega)) rfl ?_
              rintro _ rfl
              conv => whnf
              refine And.intro ?_ ?_
              · conv => whnf
                refine And.intro ?_ ?_
                · conv => whnf
                  try (refine And.intro ⟨rfl, hL, hp⟩ ?_; conv => whnf; rw [hE]; conv => whnf)
                  try (refine And.intro (by first | rfl | omega) ?_; conv => whnf)
                  try (refine And.intro (by first | omega | exact ⟨by first | rfl | (simp; done) | (simp; omega), by omega⟩) ?_; conv => whnf)
                  try (refine And.intro ⟨rfl, by first | rfl | (simp; done) | (simp; omega), by first | omega | (simp; omega)⟩ ?_; conv => whnf)
                  (first | rw [hE] | rw [set_getD_eq (by simpa using hp)])
                  conv => whnf
                  try (refine And.intro ⟨rfl, by first | rfl | (simp; done) | (simp; omega), by first | omega | (simp; omega)⟩ ?_; conv => whnf)
                  (first | rw [hE] | rw [set_getD_eq (by simpa using hp)])
                  conv => whnf
                  exact ⟨rfl, rfl⟩
                · conv => whnf
                  try (refine And.intro ⟨rfl, hL, hp⟩ ?_; conv => whnf; rw [hE]; conv => whnf)
                  try (refine And.intro (by first | rfl | omega) ?_; conv => whnf)
                  try (refine And.intro (by first | omega | exact ⟨by first | rfl | (simp; done) | (simp; omega), by omega⟩) ?_; conv => whnf)
                  try (refine And.intro ⟨rfl, by first | rfl | (simp; done) | (simp; omega), by first | omega | (simp; omega)⟩ ?_; conv => whnf)
                  (first | rw [hE] | rw [set_getD_eq (by simpa using hp)])
                  conv => whnf
                  try (refine And.intro ⟨rfl, by first | rfl | (simp; done) | (simp; omega), by first | omega | (simp; omega)⟩ ?_; conv => whnf)
                  (first | rw [hE] | rw [set_getD_eq (by simpa using hp)])
                  conv => whnf
                  exact ⟨rfl, rfl⟩
              · conv => whnf
                try (refine And.intro ⟨rfl, hL, hp⟩ ?_; conv => whnf; rw [hE]; conv => whnf)
                try (refine And.intro (by first | rfl | omega) ?_; conv => whnf)
                try (refine And.intro (by first | omega | exact ⟨by first | rfl | (simp; done) | (simp; omega), by omega⟩) ?_; conv => whnf)
                try (refine And.intro ⟨rfl, by first | rfl | (simp; done) | (simp; omega), by first | omega | (simp; omega)⟩ ?_; conv => whnf)
                (first | rw [hE] | rw [set_getD_eq (by simpa using hp)])
                conv => whnf
                try (refine And.intro ⟨rfl, by first | rfl | (simp; done) | (simp; omega), by first | omega | (simp; omega)⟩ ?_; conv => whnf)
                (first | rw [hE] | rw [set_getD_eq (by simpa using hp)])
                conv => whnf
                exact ⟨rfl, rfl⟩
          · conv => whnf
            refine Fn.closed (twin_fn b (by omega)) rfl ?_
            rintro _ rfl
            conv => whnf
            refine And.intro ?_ ?_
            · conv => whnf
              refine And.intro ?_ ?_
              · conv => whnf
                refine And.intro ?_ ?_
                · conv => whnf
                  try (refine And.intro ⟨rfl, hL, hp⟩ ?_; conv => whnf; rw [hE]; conv => whnf)
                  try (refine And.intro (by first | rfl | omega) ?_; conv => whnf)
                  try (refine And.intro (by first | omega | exact ⟨by first | rfl | (simp; done) | (simp; omega), by omega⟩) ?_; conv => whnf)
                  try (refine And.intro ⟨rfl, by first | rfl | (simp; done) | (simp; omega), by first | omega | (simp; omega)⟩ ?_; conv => whnf)
                  (first | rw [hE] | rw [set_getD_eq (by simpa using hp)])
                  conv => whnf
                  try (refine And.intro ⟨rfl, by first | rfl | (simp; done) | (simp; omega), by first | omega | (simp; omega)⟩ ?_; conv => whnf)
                  (first | rw [hE] | rw [set_getD_eq (by simpa using hp)])
                  conv => whnf
                  exact ⟨rfl, rfl⟩
                · conv => whnf
                  try (refine And.intro ⟨rfl, hL, hp⟩ ?_; conv => whnf; rw [hE]; conv => whnf)
                  try (refine And.intro (by first | rfl | omega) ?_; conv => whnf)
                  try (refine And.intro (by first | omega | exact ⟨by first | rfl | (simp; done) | (simp; omega), by omega⟩) ?_; conv => whnf)
                  try (refine And.intro ⟨rfl, by first | rfl | (simp; done) | (simp; omega), by first | omega | (simp; omega)⟩ ?_; conv => whnf)
                  (first | rw [hE] | rw [set_getD_eq (by simpa using hp)])
                  conv => whnf
                  try (refine And.intro ⟨rfl, by first | rfl | (simp; done) | (simp; omega), by first | omega | (simp; omega)⟩ ?_; conv => whnf)
                  (first | rw [hE] | rw [set_getD_eq (by simpa using hp)])
                  conv => whnf
                  exact ⟨rfl, rfl⟩
              · conv => whnf
                try (refine And.intro ⟨rfl, hL, hp⟩ ?_; conv => whnf; rw [hE]; conv => whnf)
                try (refine And.intro (by first | rfl | omega) ?_; conv => whnf)
                try (refine And.intro (by first | omega | exact ⟨by first | rfl | (simp; done) | (simp; omega), by omega⟩) ?_; conv => whnf)
                try (refine And.intro ⟨rfl, by first | rfl | (simp; done) | (simp; omega), by first | omega | (simp; omega)⟩ ?_; conv => whnf)
                (first | rw [hE] | rw [set_getD_eq (by simpa using hp)])
                conv => whnf
                try (refine And.intro ⟨rfl, by first | rfl | (simp; done) | (simp; omega), by first | omega | (simp; omega)⟩ ?_; conv => whnf)
                (first | rw [hE] | rw [set_getD_eq (by simpa using hp)])
                conv => whnf
                exact ⟨rfl, rfl⟩
            · conv => whnf
              try (refine And.intro ⟨rfl, hL, hp⟩ ?_; conv => whnf; rw [hE]; conv => whnf)
              try (refine And.intro (by first | rfl | omega) ?_; conv => whnf)
              try (refine And.intro (by first | omega | exact ⟨by first | rfl | (simp; done) | (simp; omega), by omega⟩) ?_; conv => whnf)
              try (refine And.intro ⟨rfl, by first | rfl | (simp; done) | (simp; omega), by first | omega | (simp; omega)⟩ ?_; conv => whnf)
              (first | rw [hE] | rw [set_getD_eq (by simpa using hp)])
              conv => whnf
              try (refine And.intro ⟨rfl, by first | rfl | (simp; done) | (simp; omega), by first | omega | (simp; omega)⟩ ?_; conv => whnf)
              (first | rw [hE] | rw [set_getD_eq (by simpa using hp)])
              conv => whnf
              exact ⟨rfl, rfl⟩
        · conv => whnf
          refine And.intro ?_ ?_
          · conv => whnf
            try (refine And.intro (by first | rfl | omega) ?_; conv => whnf)
            try (refine And.intro (by first | omega | exact ⟨by first | rfl | (simp; done) | (simp; omega), by omega⟩) ?_; conv => whnf)
            refine And.intro ?_ ?_
            · conv => whnf
              refine And.intro ?_ ?_
              · conv => whnf
                try (refine And.intro ⟨rfl, hL, hp⟩ ?_; conv => whnf; rw [hE]; conv => whnf)
                refine Fn.closed (twin_fn b (by omega)) rfl ?_
                rintro _ rfl
                conv => whnf
                try (refine And.intro (by first | rfl | omega) ?_; conv => whnf)
                try (refine And.intro (by first | omega | exact ⟨by first | rfl | (simp; done) | (simp; omega), by omega⟩) ?_; conv => whnf)
                try (refine And.intro ⟨rfl, by first | rfl | (simp; done) | (simp; omega), by first | omega | (simp; omega)⟩ ?_; conv => whnf)
                (first | rw [hE] | rw [set_getD_eq (by simpa using hp)])
                conv => whnf
                try (refine And.intro ⟨rfl, by first | rfl | (simp; done) | (simp; omega), by first | omega | (simp; omega)⟩ ?_; conv => whnf)
                (first | rw [hE] | rw [set_getD_eq (by simpa using hp)])
                conv => whnf
                exact ⟨rfl, rfl⟩
              · conv => whnf
                refine Fn.closed (twin_fn b (by omega)) rfl ?_
                rintro _ rfl
                conv => whnf
                refine And.intro ?_ ?_
                · conv => whnf
                  try (refine And.intro ⟨rfl, hL, hp⟩ ?_; conv => whnf; rw [hE]; conv => whnf)
                  try (refine And.intro (by first | rfl | omega) ?_; conv => whnf)
                  try (refine And.intro (by first | omega | exact ⟨by first | rfl | (simp; done) | (simp; omega), by omega⟩) ?_; conv => whnf)
                  try (refine And.intro ⟨rfl, by first | rfl | (simp; done) | (simp; omega), by first | omega | (simp; omega)⟩ ?_; conv => whnf)
                  (first | rw [hE] | rw [set_getD_eq (by simpa using hp)])
                  conv => whnf
                  try (refine And.intro ⟨rfl, by first | rfl | (simp; done) | (simp; omega), by first | omega | (simp; omega)⟩ ?_; conv => whnf)
                  (first | rw [hE] | rw [set_getD_eq (by simpa using hp)])
                  conv => whnf
                  exact ⟨rfl, rfl⟩
                · conv => whnf
                  try (refine And.intro ⟨rfl, hL, hp⟩ ?_; conv => whnf; rw [hE]; conv => whnf)
                  try (refine And.intro (by first | rfl | omega) ?_; conv => whnf)
                  try (refine And.intro (by first | omega | exact ⟨by first | rfl | (simp; done) | (simp; omega), by omega⟩) ?_; conv => whnf)
                  try (refine And.intro ⟨rfl, by first | rfl | (simp; done) | (simp; omega), by first | omega | (simp; omega)⟩ ?_; conv => whnf)
                  (first | rw [hE] | rw [set_getD_eq (by simpa using hp)])
                  conv => whnf
                  try (refine And.intro ⟨rfl, by first | rfl | (simp; done) | (simp; omega), by first | omega | (simp; omega)⟩ ?_; conv => whnf)
                  (first | rw [hE] | rw [set_getD_eq (by simpa using hp)])
                  conv => whnf
                  exact ⟨rfl, rfl⟩
            · conv => whnf
              refine Fn.closed (twin_fn b (by omega)) rfl ?_
              rintro _ rfl
              conv => whnf
              refine And.intro ?_ ?_
              · conv => whnf
                refine And.intro ?_ ?_
                · conv => whnf
                  try (refine And.intro ⟨rfl, hL, hp⟩ ?_; conv => whnf; rw [hE]; conv => whnf)
                  try (refine And.intro (by first | rfl | omega) ?_; conv => whnf)
                  try (refine And.intro (by first | omega | exact ⟨by first | rfl | (simp; done) | (simp; omega), by omega⟩) ?_; conv => whnf)
                  try (refine And.intro ⟨rfl, by first | rfl | (simp; done) | (simp; omega), by first | omega | (simp; omega)⟩ ?_; conv => whnf)
                  (first | rw [hE] | rw [set_getD_eq (by simpa using hp)])
                  conv => whnf
                  try (refine And.intro ⟨rfl, by first | rfl | (simp; done) | (simp; omega), by first | omega | (simp; omega)⟩ ?_; conv => whnf)
                  (first | rw [hE] | rw [set_getD_eq (by simpa using hp)])
                  conv => whnf
                  exact ⟨rfl, rfl⟩
                · conv => whnf
                  try (refine And.intro ⟨rfl, hL, hp⟩ ?_; conv => whnf; rw [hE]; conv => whnf)
                  try (refine And.intro (by first | rfl | omega) ?_; conv => whnf)
                  try (refine And.intro (by first | omega | exact ⟨by first | rfl | (simp; done) | (simp; omega), by omega⟩) ?_; conv => whnf)
                  try (refine And.intro ⟨rfl, by first | rfl | (simp; done) | (simp; omega), by first | omega | (simp; omega)⟩ ?_; conv => whnf)
                  (first | rw [hE] | rw [set_getD_eq (by simpa using hp)])
                  conv => whnf
                  try (refine And.intro ⟨rfl, by first | rfl | (simp; done) | (simp; omega), by first | omega | (simp; omega)⟩ ?_; conv => whnf)
                  (first | rw [hE] | rw [set_getD_eq (by simpa using hp)])
                  conv => whnf
                  exact ⟨rfl, rfl⟩
              · conv => whnf
                try (refine And.intro ⟨rfl, hL, hp⟩ ?_; conv => whnf; rw [hE]; conv => whnf)
                try (refine And.intro (by first | rfl | omega) ?_; conv => whnf)
                try (refine And.intro (by first | omega | exact ⟨by first | rfl | (simp; done) | (simp; omega), by omega⟩) ?_; conv => whnf)
                try (refine And.intro ⟨rfl, by first | rfl | (simp; done) | (simp; omega), by first | omega | (simp; omega)⟩ ?_; conv => whnf)
                (first | rw [hE] | rw [set_getD_eq (by simpa using hp)])
                conv => whnf
                try (refine And.intro ⟨rfl, by first | rfl | (simp; done) | (simp; omega), by first | omega | (simp; omega)⟩ ?_; conv => whnf)
                (first | rw [hE] | rw [set_getD_eq (by simpa using hp)])
                conv => whnf
                exact ⟨rfl, rfl⟩
          · conv => whnf
            refine And.intro ?_ ?_
            · conv => whnf
              try (refine And.intro (by first | rfl | omega) ?_; conv => whnf)
              try (refine And.intro (by first | omega | exact ⟨by first | rfl | (simp; done) | (simp; omega), by omega⟩) ?_; conv => whnf)
              refine And.intro ?_ ?_
              · conv => whnf
                try (refine And.intro ⟨rfl, hL, hp⟩ ?_; conv => whnf; rw [hE]; conv => whnf)
                refine Fn.closed (twin_fn b (by omega)) rfl ?_
                rintro _ rfl
                conv => whnf
                try (refine And.intro (by first | rfl | omega) ?_; conv => whnf)
                try (refine And.intro (by first | omega | exact ⟨by first | rfl | (simp; done) | (simp; omega), by omega⟩) ?_; conv => whnf)
                try (refine And.intro ⟨rfl, by first | rfl | (simp; done) | (simp; omega), by first | omega | (simp; omega)⟩ ?_; conv => whnf)
                (first | rw [hE] | rw [set_getD_eq (by simpa using hp)])
                conv => whnf
                try (refine And.intro ⟨rfl, by first | rfl | (simp; done) | (simp; omega), by first | omega | (simp; omega)⟩ ?_; conv => whnf)
                (first | rw [hE] | rw [set_getD_eq (by simpa using hp)])
                conv => whnf
                exact ⟨rfl, rfl⟩
              · conv => whnf
                refine Fn.closed (twin_fn b (by omega)) rfl ?_
                rintro _ rfl
                conv => whnf
                refine And.intro ?_ ?_
                · conv => whnf
                  try (refine And.intro ⟨rfl, hL, hp⟩ ?_; conv => whnf; rw [hE]; conv => whnf)
                  try (refine And.intro (by first | rfl | omega) ?_; conv => whnf)
                  try (refine And.intro (by first | omega | exact ⟨by first | rfl | (simp; done) | (simp; omega), by omega⟩) ?_; conv => whnf)
                  try (refine And.intro ⟨rfl, by first | rfl | (simp; done) | (simp; omega), by first | omega | (simp; omega)⟩ ?_; conv => whnf)
                  (first | rw [hE] | rw [set_getD_eq (by simpa using hp)])
                  conv => whnf
                  try (refine And.intro ⟨rfl, by first | rfl | (simp; done) | (simp; omega), by first | omega | (simp; omega)⟩ ?_; conv => whnf)
                  (first | rw [hE] | rw [set_getD_eq (by simpa using hp)])
                  conv => whnf
                  exact ⟨rfl, rfl⟩
                · conv => whnf
                  try (refine And.intro ⟨rfl, hL, hp⟩ ?_; conv => whnf; rw [hE]; conv => whnf)
                  try (refine And.intro (by first | rfl | omega) ?_; conv => whnf)
                  try (refine And.intro (by first | omega | exact ⟨by first | rfl | (simp; done) | (simp; omega), by omega⟩) ?_; conv => whnf)
                  try (refine And.intro ⟨rfl, by first | rfl | (simp; done) | (simp; omega), by first | omega | (simp; omega)⟩ ?_; conv => whnf)
                  (first | rw [hE] | rw [set_getD_eq (by simpa using hp)])
                  conv => whnf
                  try (refine And.intro ⟨rfl, by first | rfl | (simp; done) | (simp; omega), by first | omega | (simp; omega)⟩ ?_; conv => whnf)
                  (first | rw [hE] | rw [set_getD_eq (by simpa using hp)])
                  conv => whnf
                  exact ⟨rfl, rfl⟩
            · conv => whnf
              try (refine And.intro ⟨rfl, hL, hp⟩ ?_; conv => whnf; rw [hE]; conv => whnf)
              try (refine And.intro (by first | rfl | omega) ?_; conv => whnf)
              try (refine And.intro (by first | omega | exact ⟨by first | rfl | (simp; done) | (simp; omega), by omega⟩) ?_; conv => whnf)
              refine Fn.closed (twin_fn b (by omega)) rfl ?_
              rintro _ rfl
              conv => whnf
              try (refine And.intro (by first | rfl | omega) ?_; conv => whnf)
              try (refine And.intro (by first | omega | exact ⟨by first | rfl | (simp; done) | (simp; omega), by omega⟩) ?_; conv => whnf)
              try (refine And.intro ⟨rfl, by first | rfl | (simp; done) | (simp; omega), by first | omega | (simp; omega)⟩ ?_; conv => whnf)
              (first | rw [hE] | rw [set_getD_eq (by simpa using hp)])
              conv => whnf
              try (refine And.intro ⟨rfl, by first | rfl | (simp; done) | (simp; omega), by first | omega | (simp; omega)⟩ ?_; conv => whnf)
              (first | rw [hE] | rw [set_getD_eq (by simpa using hp)])
              conv => whnf
              exact ⟨rfl, rfl⟩
      · conv => whnf
        refine And.intro ?_ ?_
        · conv => whnf
          refine And.intro ?_ ?_
          · conv => whnf
            try (refine And.intro (by first | rfl | omega) ?_; conv => whnf)
            try (refine And.intro (by first | omega | exact ⟨by first | rfl | (simp; done) | (simp; omega), by omega⟩) ?_; conv => whnf)
            refine And.intro ?_ ?_
            · conv => whnf
              refine And.intro ?_ ?_
              · conv => whnf
                try (refine And.intro ⟨rfl, hL, hp⟩ ?_; conv => whnf; rw [hE]; conv => whnf)
                refine Fn.closed (twin_fn b (by omega)) rfl ?_
                rintro _ rfl
                conv => whnf
                try (refine And.intro (by first | rfl | omega) ?_; conv => whnf)
                try (refine And.intro (by first | omega | exact ⟨by first | rfl | (simp; done) | (simp; omega), by omega⟩) ?_; conv => whnf)
                try (refine And.intro ⟨rfl, by first | rfl | (simp; done) | (simp; omega), by first | omega | (simp; omega)⟩ ?_; conv => whnf)
                (first | rw [hE] | rw [set_getD_eq (by simpa using hp)])
                conv => whnf
                try (refine And.intro ⟨rfl, by first | rfl | (simp; done) | (simp; omega), by first | omega | (simp; omega)⟩ ?_; conv => whnf)
                (first | rw [hE] | rw [set_getD_eq (by simpa using hp)])
                conv => whnf
                exact ⟨rfl, rfl⟩
              · conv => whnf
                refine Fn.closed (twin_fn b (by omega)) rfl ?_
                rintro _ rfl
                conv => whnf
                refine And.intro ?_ ?_
                · conv => whnf
                  try (refine And.intro ⟨rfl, hL, hp⟩ ?_; conv => whnf; rw [hE]; conv => whnf)
                  try (refine And.intro (by first | rfl | omega) ?_; conv => whnf)
                  try (refine And.intro (by first | omega | exact ⟨by first | rfl | (simp; done) | (simp; omega), by omega⟩) ?_; conv => whnf)
                  try (refine And.intro ⟨rfl, by first | rfl | (simp; done) | (simp; omega), by first | omega | (simp; omega)⟩ ?_; conv => whnf)
                  (first | rw [hE] | rw [set_getD_eq (by simpa using hp)])
                  conv => whnf
                  try (refine And.intro ⟨rfl, by first | rfl | (simp; done) | (simp; omega), by first | omega | (simp; omega)⟩ ?_; conv => whnf)
                  (first | rw [hE] | rw [set_getD_eq (by simpa using hp)])
                  conv => whnf
                  exact ⟨rfl, rfl⟩
                · conv => whnf
                  try (refine And.intro ⟨rfl, hL, hp⟩ ?_; conv => whnf; rw [hE]; conv => whnf)
                  try (refine And.intro (by first | rfl | omega) ?_; conv => whnf)
                  try (refine And.intro (by first | omega | exact ⟨by first | rfl | (simp; done) | (simp; omega), by omega⟩) ?_; conv => whnf)
                  try (refine And.intro ⟨rfl, by first | rfl | (simp; done) | (simp; omega), by first | omega | (simp; omega)⟩ ?_; conv => whnf)
                  (first | rw [hE] | rw [set_getD_eq (by simpa using hp)])
                  conv => whnf
                  try (refine And.intro ⟨rfl, by first | rfl | (simp; done) | (simp; omega), by first | omega | (simp; omega)⟩ ?_; conv => whnf)
                  (first | rw [hE] | rw [set_getD_eq (by simpa using hp)])
                  conv => whnf
                  exact ⟨rfl, rfl⟩
            · conv => whnf
              refine Fn.closed (twin_fn b (by omega)) rfl ?_
              rintro _ rfl
              conv => whnf
              refine And.intro ?_ ?_
              · conv => whnf
                refine And.intro ?_ ?_
                · conv => whnf
                  try (refine And.intro ⟨rfl, hL, hp⟩ ?_; conv => whnf; rw [hE]; conv => whnf)
                  try (refine And.intro (by first | rfl | omega) ?_; conv => whnf)
                  try (refine And.intro (by first | omega | exact ⟨by first | rfl | (simp; done) | (simp; omega), by omega⟩) ?_; conv => whnf)
                  try (refine And.intro ⟨rfl, by first | rfl | (simp; done) | (simp; omega), by first | omega | (simp; omega)⟩ ?_; conv => whnf)
                  (first | rw [hE] | rw [set_getD_eq (by simpa using hp)])
                  conv => whnf
                  try (refine And.intro ⟨rfl, by first | rfl | (simp; done) | (simp; omega), by first | omega | (simp; omega)⟩ ?_; conv => whnf)
                  (first | rw [hE] | rw [set_getD_eq (by simpa using hp)])
                  conv => whnf
                  exact ⟨rfl, rfl⟩
                · conv => whnf
                  try (refine And.intro ⟨rfl, hL, hp⟩ ?_; conv => whnf; rw [hE]; conv => whnf)
                  try (refine And.intro (by first | rfl | omega) ?_; conv => whnf)
                  try (refine And.intro (by first | omega | exact ⟨by first | rfl | (simp; done) | (simp; omega), by omega⟩) ?_; conv => whnf)
                  try (refine And.intro ⟨rfl, by first | rfl | (simp; done) | (simp; omega), by first | omega | (simp; omega)⟩ ?_; conv => whnf)
                  (first | rw [hE] | rw [set_getD_eq (by simpa using hp)])
                  conv => whnf
                  try (refine And.intro ⟨rfl, by first | rfl | (simp; done) | (simp; omega), by first | omega | (simp; omega)⟩ ?_; conv => whnf)
                  (first | rw [hE] | rw [set_getD_eq (by simpa using hp)])
                  conv => whnf
                  exact ⟨rfl, rfl⟩
              · conv => whnf
                try (refine And.intro ⟨rfl, hL, hp⟩ ?_; conv => whnf; rw [hE]; conv => whnf)
                try (refine And.intro (by first | rfl | omega) ?_; conv => whnf)
                try (refine And.intro (by first | omega | exact ⟨by first | rfl | (simp; done) | (simp; omega), by omega⟩) ?_; conv => whnf)
                try (refine And.intro ⟨rfl, by first | rfl | (simp; done) | (simp; omega), by first | omega | (simp; omega)⟩ ?_; conv => whnf)
                (first | rw [hE] | rw [set_getD_eq (by simpa using hp)])
                conv => whnf
                try (refine And.intro ⟨rfl, by first | rfl | (simp; done) | (simp; omega), by first | omega | (simp; omega)⟩ ?_; conv => whnf)
                (first | rw [hE] | rw [set_getD_eq (by simpa using hp)])
                conv => whnf
                exact ⟨rfl, rfl⟩
          · conv => whnf
            refine And.intro ?_ ?_
            · conv => whnf
              try (refine And.intro (by first | rfl | omega) ?_; conv => whnf)
              try (refine And.intro (by first | omega | exact ⟨by first | rfl | (simp; done) | (simp; omega), by omega⟩) ?_; conv => whnf)
              refine And.intro ?_ ?_
              · conv => whnf
                try (refine And.intro ⟨rfl, hL, hp⟩ ?_; conv => whnf; rw [hE]; conv => whnf)
                refine Fn.closed (twin_fn b (by omega)) rfl ?_
                rintro _ rfl
                conv => whnf
                try (refine And.intro (by first | rfl | omega) ?_; conv => whnf)
                try (refine And.intro (by first | omega | exact ⟨by first | rfl | (simp; done) | (simp; omega), by omega⟩) ?_; conv => whnf)
                try (refine And.intro ⟨rfl, by first | rfl | (simp; done) | (simp; omega), by first | omega | (simp; omega)⟩ ?_; conv => whnf)
                (first | rw [hE] | rw [set_getD_eq (by simpa using hp)])
                conv => whnf
                try (refine And.intro ⟨rfl, by first | rfl | (simp; done) | (simp; omega), by first | omega | (simp; omega)⟩ ?_; conv => whnf)
                (first | rw [hE] | rw [set_getD_eq (by simpa using hp)])
                conv => whnf
                exact ⟨rfl, rfl⟩
              · conv => whnf
                refine Fn.closed (twin_fn b (by omega)) rfl ?_
                rintro _ rfl
                conv => whnf
                refine And.intro ?_ ?_
                · conv => whnf
                  try (refine And.intro ⟨rfl, hL, hp⟩ ?_; conv => whnf; rw [hE]; conv => whnf)
                  try (refine And.intro (by first | rfl | omega) ?_; conv => whnf)
                  try (refine And.intro (by first | omega | exact ⟨by first | rfl | (simp; done) | (simp; omega), by omega⟩) ?_; conv => whnf)
                  try (refine And.intro ⟨rfl, by first | rfl | (simp; done) | (simp; omega), by first | omega | (simp; omega)⟩ ?_; conv => whnf)
                  (first | rw [hE] | rw [set_getD_eq (by simpa using hp)])
                  conv => whnf
                  try (refine And.intro ⟨rfl, by first | rfl | (simp; done) | (simp; omega), by first | omega | (simp; omega)⟩ ?_; conv => whnf)
                  (first | rw [hE] | rw [set_getD_eq (by simpa using hp)])
                  conv => whnf
                  exact ⟨rfl, rfl⟩
                · conv => whnf
                  try (refine And.intro ⟨rfl, hL, hp⟩ ?_; conv => whnf; rw [hE]; conv => whnf)
                  try (refine And.intro (by first | rfl | omega) ?_; conv => whnf)
                  try (refine And.intro (by first | omega | exact ⟨by first | rfl | (simp; done) | (simp; omega), by omega⟩) ?_; conv => whnf)
                  try (refine And.intro ⟨rfl, by first | rfl | (simp; done) | (simp; omega), by first | omega | (simp; omega)⟩ ?_; conv => whnf)
                  (first | rw [hE] | rw [set_getD_eq (by simpa using hp)])
                  conv => whnf
                  try (refine And.intro ⟨rfl, by first | rfl | (simp; done) | (simp; omega), by first | omega | (simp; omega)⟩ ?_; conv => whnf)
                  (first | rw [hE] | rw [set_getD_eq (by simpa using hp)])
                  conv => whnf
                  exact ⟨rfl, rfl⟩
            · conv => whnf
              try (refine And.intro ⟨rfl, hL, hp⟩ ?_; conv => whnf; rw [hE]; conv => whnf)
              try (refine And.intro (by first | rfl | omega) ?_; conv => whnf)
              try (refine And.intro (by first | omega | exact ⟨by first | rfl | (simp; done) | (simp; omega), by omega⟩) ?_; conv => whnf)
              refine Fn.closed (twin_fn b (by omega)) rfl ?_
              rintro _ rfl
              conv => whnf
              try (refine And.intro (by first | rfl | omega) ?_; conv => whnf)
              try (refine And.intro (by first | omega | exact ⟨by first | rfl | (simp; done) | (simp; omega), by omega⟩) ?_; conv => whnf)
              try (refine And.intro ⟨rfl, by first | rfl | (simp; done) | (simp; omega), by first | omega | (simp; omega)⟩ ?_; conv => whnf)
              (first | rw [hE] | rw [set_getD_eq (by simpa using hp)])
              conv => whnf
              try (refine And.intro ⟨rfl, by first | rfl | (simp; done) | (simp; omega), by first | omega | (simp; omega)⟩ ?_; conv => whnf)
              (first | rw [hE] | rw [set_getD_eq (by simpa using hp)])
              conv => whnf
              exact ⟨rfl, rfl⟩
        · conv => whnf
          refine And.intro ?_ ?_
          · conv => whnf
            refine And.intro ?_ ?_
            · conv => whnf
              try (refine And.intro (by first | rfl | omega) ?_; conv => whnf)
              try (refine And.intro (by first | omega | exact ⟨by first | rfl | (simp; done) | (simp; omega), by omega⟩) ?_; conv => whnf)
              refine And.intro ?_ ?_
              · conv => whnf
                try (refine And.intro ⟨rfl, hL, hp⟩ ?_; conv => whnf; rw [hE]; conv => whnf)
                refine Fn.closed (twin_fn b (by omega)) rfl ?_
                rintro _ rfl
                conv => whnf
                try (refine And.intro (by first | rfl | omega) ?_; conv => whnf)
                try (refine And.intro (by first | omega | exact ⟨by first | rfl | (simp; done) | (simp; omega), by omega⟩) ?_; conv => whnf)
                try (refine And.intro ⟨rfl, by first | rfl | (simp; done) | (simp; omega), by first | omega | (simp; omega)⟩ ?_; conv => whnf)
                (first | rw [hE] | rw [set_getD_eq (by simpa using hp)])
                conv => whnf
                try (refine And.intro ⟨rfl, by first | rfl | (simp; done) | (simp; omega), by first | omega | (simp; omega)⟩ ?_; conv => whnf)
                (first | rw [hE] | rw [set_getD_eq (by simpa using hp)])
                conv => whnf
                exact ⟨rfl, rfl⟩
              · conv => whnf
                refine Fn.closed (twin_fn b (by omega)) rfl ?_
                rintro _ rfl
                conv => whnf
                refine And.intro ?_ ?_
                · conv => whnf
                  try (refine And.intro ⟨rfl, hL, hp⟩ ?_; conv => whnf; rw [hE]; conv => whnf)
                  try (refine And.intro (by first | rfl | omega) ?_; conv => whnf)
                  try (refine And.intro (by first | omega | exact ⟨by first | rfl | (simp; done) | (simp; omega), by omega⟩) ?_; conv => whnf)
                  try (refine And.intro ⟨rfl, by first | rfl | (simp; done) | (simp; omega), by first | omega | (simp; omega)⟩ ?_; conv => whnf)
                  (first | rw [hE] | rw [set_getD_eq (by simpa using hp)])
                  conv => whnf
                  try (refine And.intro ⟨rfl, by first | rfl | (simp; done) | (simp; omega), by first | omega | (simp; omega)⟩ ?_; conv => whnf)
                  (first | rw [hE] | rw [set_getD_eq (by simpa using hp)])
                  conv => whnf
                  exact ⟨rfl, rfl⟩
                · conv => whnf
                  try (refine And.intro ⟨rfl, hL, hp⟩ ?_; conv => whnf; rw [hE]; conv => whnf)
                  try (refine And.intro (by first | rfl | omega) ?_; conv => whnf)
                  try (refine And.intro (by first | omega | exact ⟨by first | rfl | (simp; done) | (simp; omega), by omega⟩) ?_; conv => whnf)
                  try (refine And.intro ⟨rfl, by first | rfl | (simp; done) | (simp; omega), by first | omega | (simp; omega)⟩ ?_; conv => whnf)
                  (first | rw [hE] | rw [set_getD_eq (by simpa using hp)])
                  conv => whnf
                  try (refine And.intro ⟨rfl, by first | rfl | (simp; done) | (simp; omega), by first | omega | (simp; omega)⟩ ?_; conv => whnf)
                  (first | rw [hE] | rw [set_getD_eq (by simpa using hp)])
                  conv => whnf
                  exact ⟨rfl, rfl⟩
            · conv => whnf
              try (refine And.intro ⟨rfl, hL, hp⟩ ?_; conv => whnf; rw [hE]; conv => whnf)
              try (refine And.intro (by first | rfl | omega) ?_; conv => whnf)
              try (refine And.intro (by first | omega | exact ⟨by first | rfl | (simp; done) | (simp; omega), by omega⟩) ?_; conv => whnf)
              refine Fn.closed (twin_fn b (by omega)) rfl ?_
              rintro _ rfl
              conv => whnf
              try (refine And.intro (by first | rfl | omega) ?_; conv => whnf)
              try (refine And.intro (by first | omega | exact ⟨by first | rfl | (simp; done) | (simp; omega), by omega⟩) ?_; conv => whnf)
              try (refine And.intro ⟨rfl, by first | rfl | (simp; done) | (simp; omega), by first | omega | (simp; omega)⟩ ?_; conv => whnf)
              (first | rw [hE] | rw [set_getD_eq (by simpa using hp)])
              conv => whnf
              try (refine And.intro ⟨rfl, by first | rfl | (simp; done) | (simp; omega), by first | omega | (simp; omega)⟩ ?_; conv => whnf)
              (first | rw [hE] | rw [set_getD_eq (by simpa using hp)])
              conv => whnf
              exact ⟨rfl, rfl⟩
          · conv => whnf
            try (refine And.intro ⟨rfl, hL, hp⟩ ?_; conv => whnf; rw [hE]; conv => whnf)
            try (refine And.intro (by first | rfl | omega) ?_; conv => whnf)
            try (refine And.intro (by first | omega | exact ⟨by first | rfl | (simp; done) | (simp; omega), by omega⟩) ?_; conv => whnf)
            refine Fn.closed (twin_fn b (by omega)) rfl ?_
            rintro _ rfl
            conv => whnf
            try (refine And.intro (by first | rfl | omega) ?_; conv => whnf)
            try (refine And.intro (by first | omega | exact ⟨by first | rfl | (simp; done) | (simp; omega), by omega⟩) ?_; conv => whnf)
            try (refine And.intro ⟨rfl, by first | rfl | (simp; done) | (simp; omega), by first | omega | (simp; omega)⟩ ?_; conv => whnf)
            (first | rw [hE] | rw [set_getD_eq (by simpa using hp)])
            conv => whnf
            try (refine And.intro ⟨rfl, by first | rfl | (simp; done) | (simp; omega), by first | omega | (simp; omega)⟩ ?_; conv => whnf)
            (first | rw [hE] | rw [set_getD_eq (by simpa using hp)])
            conv => whnf
            exact ⟨rfl, rfl⟩
    conv => whnf
    rw [List.set_set, List.set_set]
    obtain ⟨XX, hXX⟩ : ∃ XX, XX = [AV.v (.int .i64 h.id), .ow 1 (h.lbas.length + 1), .ow 2 (h.blocks.length + 1)] := ⟨_, rfl⟩
    have hE2 : ((l.map hdC).set p [AV.v (.int .i64 h.id), .ow 1 (h.lbas.length + 1), .ow 2 (h.blocks.length + 1)]).getD p [] = [AV.v (.int .i64 h.id), .ow 1 (h.lbas.length + 1), .ow 2 (h.blocks.length + 1)] := set_getD_eq (by simpa using hp)
    have hL2 : l.length = ((l.map hdC).set p [AV.v (.int .i64 h.id), .ow 1 (h.lbas.length + 1), .ow 2 (h.blocks.length + 1)]).length := by simp
    refine And.intro ⟨rfl, hL2, hp⟩ ?_
    conv => whnf
    rw [hE2]
    conv => whnf
    have w1 : IntKind.i64.wrap (((h.lbas.length + 1 : Nat) : Int) - 1) = ((h.lbas.length : Nat) : Int) := by rw [wi (by omega)]; omega
    rw [w1]
    refine aLoop.rule Nat (fun k => ([(10, .ow 0 l.length), (11, .ep 0 l.length p 3 0), (13, .v (.int .i64 k))], [.rowo 36 3 ((l.map hdC).set p [AV.v (.int .i64 h.id), .ow 1 (h.lbas.length + 1), .ow 2 (h.blocks.length + 1)]) 3, .rowo 3 1 ((insL h.lbas lba k).map icC) 0, .rowo 23 1 ((insL h.blocks b k).map bcC) 0])) (fun k => k ≤ h.lbas.length ∧ ∀ j, k ≤ j → j < h.lbas.length → lba < h.lbas.getD j 0) (fun k => k) h.lbas.length ⟨Nat.le_refl _, fun j h1 h2 => by omega⟩ ⟨[], trivial, ⟨rfl, rfl, rfl, trivial⟩, ⟨rfl, ?_, ?_, trivial⟩, rfl, rfl, rfl⟩ ?_
    · refine congrArg (fun e => AB.rowo _ _ e _) ?_
      simp [insL]; rfl
    · refine congrArg (fun e => AB.rowo _ _ e _) ?_
      rw [ho1]; simp [insL]; rfl
    rintro k ⟨hk, hK⟩
    have hn1 : (insL h.lbas lba k).length = h.lbas.length + 1 := insL_len hk
    have hn2 : (insL h.blocks b k).length = h.blocks.length + 1 := insL_len (by omega)
    conv => whnf
    refine aDraw.of tys_ok mixed [0, 1, 2, 3, 4, 5, 6, 7, 8, 9, 10, 11, 12, 13, 14, 15, 16, 17, 18, 19] (by kernel_rfl) ?_
    conv => whnf
    have hA : ((insL h.lbas lba k).map icC).getD k [] = icC lba := by rw [map_getD (d := 0) (by omega), insL_at hk]
    have hB : ((insL h.blocks b k).map bcC).getD k [] = bcC b := by rw [map_getD (d := []) (by omega), insL_at (by omega)]
    refine boolK_intro (fun h6 => ?_) (fun h6 => ?_) <;> simp only [decide_eq_true_eq, decide_eq_false_iff_not] at h6 <;> conv => whnf
    · have w2 : IntKind.i64.wrap ((k : Int) - 1) = ((k - 1 : Nat) : Int) := by rw [wi (by omega)]; omega
      have hA' : ((insL h.lbas lba k).map icC).getD (k - 1) [] = icC (h.lbas.getD (k - 1) 0) := by rw [map_getD (d := 0) (by omega), insL_below hk (by omega)]
      have hB' : ((insL h.blocks b k).map bcC).getD (k - 1) [] = bcC (h.blocks.getD (k - 1) []) := by rw [map_getD (d := []) (by omega), insL_below (by omega) (by omega)]
      repeat' (first | (refine And.intro ⟨rfl, hL2, hp⟩ ?_; conv => whnf; rw [hE2]; conv => whnf) | (refine And.intro (by omega) ?_; conv => whnf) | (refine And.intro ⟨rfl, by rw [List.length_map, hn1], by omega⟩ ?_; conv => whnf; (first | rw [Int.toNat_natCast, hA] | rw [w2, Int.toNat_natCast, hA']); conv => whnf) | fail)
      refine boolK_intro (fun h7 => ?_) (fun h7 => ?_) <;> simp only [decide_eq_true_eq, decide_eq_false_iff_not] at h7 <;> conv => whnf
      · apply aDraw.treeM (1024) tys_ok mixed (.one 0 (.one 1 (.one 2 (.one 3 (.one 4 (.one 5 (.one 6 (.one 7 (.one 8 (.one 9 (.one 11 (.one 12 (.one 13 (.one 14 (.one 15 (.one 16 (.one 17 (.one 18 (.one 19 (.one 20 (.one 21 (.one 22 (.one 23 (.one 24 (.one 25 (.one 26 (.two 10 (.one 27 (.one 28 (.one 29 .fin))) 27 (.one 10 (.one 28 (.one 29 .fin)))))))))))))))))))))))))))))) [101, 102, 103, 104, 105, 106, 107, 108, 109, 110, 111, 112, 113, 114, 115, 116, 117, 118, 119, 120, 121, 122, 123, 124, 125, 126, 127, 128] (by kernel_rfl)
        · conv => whnf
          try (first | (refine And.intro ⟨rfl, hL2, hp⟩ ?_; conv => whnf; rw [hE2]) | (refine And.intro ⟨rfl, by rw [List.length_map, hn1], by omega⟩ ?_; conv => whnf; (first | rw [Int.toNat_natCast, hA] | rw [w2, Int.toNat_natCast, hA'])); conv => whnf)
          try (first | (refine And.intro ⟨rfl, hL2, hp⟩ ?_; conv => whnf; rw [hE2]) | (refine And.intro ⟨rfl, by rw [List.length_map, hn1], by omega⟩ ?_; conv => whnf; (first | rw [Int.toNat_natCast, hA] | rw [w2, Int.toNat_natCast, hA'])); conv => whnf)
          try (first | (refine And.intro ⟨rfl, hL2, hp⟩ ?_; conv => whnf; rw [hE2]) | (refine And.intro ⟨rfl, by rw [List.length_map, hn1], by omega⟩ ?_; conv => whnf; (first | rw [Int.toNat_natCast, hA] | rw [w2, Int.toNat_natCast, hA'])); conv => whnf)
          try (refine And.intro (by first | omega | (simp; done)) ?_; conv => whnf)
          try (first | (refine And.intro ⟨rfl, hL2, hp⟩ ?_; conv => whnf; rw [hE2]) | (refine And.intro ⟨rfl, by rw [List.length_map, hn1], by omega⟩ ?_; conv => whnf; (first | rw [Int.toNat_natCast, hA] | rw [w2, Int.toNat_natCast, hA'])); conv => whnf)
          try (first | (refine And.intro ⟨rfl, hL2, hp⟩ ?_; conv => whnf; rw [hE2]) | (refine And.intro ⟨rfl, by rw [List.length_map, hn1], by omega⟩ ?_; conv => whnf; (first | rw [Int.toNat_natCast, hA] | rw [w2, Int.toNat_natCast, hA'])); conv => whnf)
          try (refine And.intro (by first | omega | (simp; done)) ?_; conv => whnf)
          try (first | (refine And.intro ⟨rfl, hL2, hp⟩ ?_; conv => whnf; rw [hE2]) | (refine And.intro ⟨rfl, by rw [List.length_map, hn1], by omega⟩ ?_; conv => whnf; (first | rw [Int.toNat_natCast, hA] | rw [w2, Int.toNat_natCast, hA'])); conv => whnf)
          try (refine And.intro (by first | omega | (simp; done)) ?_; conv => whnf)
          refine And.intro ?_ ?_
          · conv => whnf
            try (refine And.intro ⟨rfl, by first | rfl | (simp; done) | (simp; omega), by first | omega | (simp; omega)⟩ ?_; conv => whnf)
            (first | rw [Int.toNat_natCast, hA] | rw [w2, Int.toNat_natCast, set_getD_ne (by omega), hA'])
            conv => whnf
            try (refine And.intro (by first | omega | (simp; done)) ?_; conv => whnf)
            try (refine And.intro ⟨rfl, by first | rfl | (simp; done) | (simp; omega), by first | omega | (simp; omega)⟩ ?_; conv => whnf)
            (first | rw [Int.toNat_natCast, hA] | rw [w2, Int.toNat_natCast, set_getD_ne (by omega), hA'])
            conv => whnf
            exact ⟨rfl, rfl⟩
          · conv => whnf
            try (refine And.intro ⟨rfl, by first | rfl | (simp; done) | (simp; omega), by first | omega | (simp; omega)⟩ ?_; conv => whnf)
            (first | rw [Int.toNat_natCast, hA] | rw [w2, Int.toNat_natCast, set_getD_ne (by omega), hA'])
            conv => whnf
            try (refine And.intro (by first | omega | (simp; done)) ?_; conv => whnf)
            try (refine And.intro ⟨rfl, by first | rfl | (simp; done) | (simp; omega), by first | omega | (simp; omega)⟩ ?_; conv => whnf)
            (first | rw [Int.toNat_natCast, hA] | rw [w2, Int.toNat_natCast, set_getD_ne (by omega), hA'])
            conv => whnf
            exact ⟨rfl, rfl⟩
        conv => whnf
        apply aDraw.treeM (1024) tys_ok mixed (.one 0 (.one 1 (.one 2 (.one 3 (.one 4 (.one 5 (.one 6 (.one 7 (.one 8 (.one 9 (.one 11 (.one 12 (.one 13 (.one 14 (.one 15 (.one 16 (.one 17 (.one 18 (.one 19 (.one 20 (.one 21 (.one 22 (.one 23 (.one 24 (.one 25 (.one 26 (.two 10 (.one 27 (.one 28 (.one 29 .fin))) 27 (.one 10 (.one 28 (.one 29 .fin)))))))))))))))))))))))))))))) [129, 130, 131, 132, 133, 134, 135, 136, 137, 138, 139, 140, 141, 142, 143, 144, 145, 146, 147, 148, 149, 150, 151, 152, 153, 154, 155, 156] (by kernel_rfl)
        · conv => whnf
          try (first | (refine And.intro ⟨rfl, hL2, hp⟩ ?_; conv => whnf; rw [hE2]) | (refine And.intro ⟨rfl, by rw [List.length_map, hn2], by omega⟩ ?_; conv => whnf; (first | rw [Int.toNat_natCast, hB] | rw [w2, Int.toNat_natCast, hB'])); conv => whnf)
          try (first | (refine And.intro ⟨rfl, hL2, hp⟩ ?_; conv => whnf; rw [hE2]) | (refine And.intro ⟨rfl, by rw [List.length_map, hn2], by omega⟩ ?_; conv => whnf; (first | rw [Int.toNat_natCast, hB] | rw [w2, Int.toNat_natCast, hB'])); conv => whnf)
          try (first | (refine And.intro ⟨rfl, hL2, hp⟩ ?_; conv => whnf; rw [hE2]) | (refine And.intro ⟨rfl, by rw [List.length_map, hn2], by omega⟩ ?_; conv => whnf; (first | rw [Int.toNat_natCast, hB] | rw [w2, Int.toNat_natCast, hB'])); conv => whnf)
          try (refine And.intro (by first | omega | (simp; done)) ?_; conv => whnf)
          try (first | (refine And.intro ⟨rfl, hL2, hp⟩ ?_; conv => whnf; rw [hE2]) | (refine And.intro ⟨rfl, by rw [List.length_map, hn2], by omega⟩ ?_; conv => whnf; (first | rw [Int.toNat_natCast, hB] | rw [w2, Int.toNat_natCast, hB'])); conv => whnf)
          try (first | (refine And.intro ⟨rfl, hL2, hp⟩ ?_; conv => whnf; rw [hE2]) | (refine And.intro ⟨rfl, by rw [List.length_map, hn2], by omega⟩ ?_; conv => whnf; (first | rw [Int.toNat_natCast, hB] | rw [w2, Int.toNat_natCast, hB'])); conv => whnf)
          try (refine And.intro (by first | omega | (simp; done)) ?_; conv => whnf)
          try (first | (refine And.intro ⟨rfl, hL2, hp⟩ ?_; conv => whnf; rw [hE2]) | (refine And.intro ⟨rfl, by rw [List.length_map, hn2], by omega⟩ ?_; conv => whnf; (first | rw [Int.toNat_natCast, hB] | rw [w2, Int.toNat_natCast, hB'])); conv => whnf)
          try (refine And.intro (by first | omega | (simp; done)) ?_; conv => whnf)
          refine And.intro ?_ ?_
          · conv => whnf
            try (refine And.intro ⟨rfl, by first | rfl | (simp; done) | (simp; omega), by first | omega | (simp; omega)⟩ ?_; conv => whnf)
            (first | rw [Int.toNat_natCast, hB] | rw [w2, Int.toNat_natCast, set_getD_ne (by omega), hB'])
            conv => whnf
            try (refine And.intro (by first | omega | (simp; done)) ?_; conv => whnf)
            try (refine And.intro ⟨rfl, by first | rfl | (simp; done) | (simp; omega), by first | omega | (simp; omega)⟩ ?_; conv => whnf)
            (first | rw [Int.toNat_natCast, hB] | rw [w2, Int.toNat_natCast, set_getD_ne (by omega), hB'])
            conv => whnf
            exact ⟨rfl, rfl⟩
          · conv => whnf
            try (refine And.intro ⟨rfl, by first | rfl | (simp; done) | (simp; omega), by first | omega | (simp; omega)⟩ ?_; conv => whnf)
            (first | rw [Int.toNat_natCast, hB] | rw [w2, Int.toNat_natCast, set_getD_ne (by omega), hB'])
            conv => whnf
            try (refine And.intro (by first | omega | (simp; done)) ?_; conv => whnf)
            try (refine And.intro ⟨rfl, by first | rfl | (simp; done) | (simp; omega), by first | omega | (simp; omega)⟩ ?_; conv => whnf)
            (first | rw [Int.toNat_natCast, hB] | rw [w2, Int.toNat_natCast, set_getD_ne (by omega), hB'])
            conv => whnf
            exact ⟨rfl, rfl⟩
        conv => whnf
        refine ⟨k - 1, ⟨by omega, fun j h8 h9 => ?_⟩, by omega, [], trivial, ⟨rfl, rfl, ?_, trivial⟩, ⟨rfl, ?_, ?_, trivial⟩, rfl, rfl, rfl⟩
        · by_cases e : j = k - 1
          · subst e; exact h7
          · exact hK j (by omega) h9
        · show AV.v (.int .i64 (IntKind.i64.wrap ((k : Int) - 1))) = _
          rw [w2]
        · refine congrArg (fun e => AB.rowo _ _ e _) ?_
          rw [← insL_swap (d := 0) hk (by omega), List.map_set, List.map_set]; rfl
        · refine congrArg (fun e => AB.rowo _ _ e _) ?_
          rw [← insL_swap (d := []) (by omega) (by omega), List.map_set, List.map_set]; rfl
      · have e : lb h.lbas lba = k := lb_back ho3 hk hno hK (.inr (by have := hno (k - 1) (by omega); omega))
        rw [e] at hw
        refine ⟨_, .tp [.ow 0 l.length, .v (.int .i64 0)], _, fun _ _ h => h, wk_done (hd_done' (h' := ⟨h.id, insL h.lbas lba k, insL h.blocks b k⟩) (m := 3) hp ?_ rfl rfl) rfl, .inr ⟨hfu, rfl, by rw [hw]⟩⟩
        show some (AB.rowo _ _ _ _) = _
        rw [show owC ⟨h.id, insL h.lbas lba k, insL h.blocks b k⟩ 1 2 = [AV.v (.int .i64 h.id), .ow 1 (h.lbas.length + 1), .ow 2 (h.blocks.length + 1)] by simp only [owC, hn1, hn2]]
    · have e : lb h.lbas lba = k := lb_back ho3 hk hno hK (.inl (by omega))
      rw [e] at hw
      refine ⟨_, .tp [.ow 0 l.length, .v (.int .i64 0)], _, fun _ _ h => h, wk_done (hd_done' (h' := ⟨h.id, insL h.lbas lba k, insL h.blocks b k⟩) (m := 3) hp ?_ rfl rfl) rfl, .inr ⟨hfu, rfl, by rw [hw]⟩⟩
      show some (AB.rowo _ _ _ _) = _
      rw [show owC ⟨h.id, insL h.lbas lba k, insL h.blocks b k⟩ 1 2 = [AV.v (.int .i64 h.id), .ow 1 (h.lbas.length + 1), .ow 2 (h.blocks.length + 1)] by simp only [owC, hn1, hn2]]
end Go.Proofs.Ytjcboeldmgmfcaa.A
end

/-
The law's own functions: Heavy; a put for the reference.
-/
section
namespace Go.Proofs.Ytjcboeldmgmfcaa.A
open Go.RowKit

def rP (l : List Hd) (p : Nat) (lba : Int) (b : List UInt8) : List Hd × Int := if fullH (l.getD p ⟨0, [], []⟩) lba then ([], 20) else (l.set p (wrH (l.getD p ⟨0, [], []⟩) lba b), 0)
theorem rput_fn (l : List Hd) (p : Nat) (lba : Int) (b : List UInt8) (hok : hdsOk l = true) (hs : ∀ h ∈ l, HdB h) (hp : p < l.length) (h8 : b.length = 8) : Fn Try.prog 21 [hdsA l, .v (.int .i64 p), .v (.int .i64 lba), bA b] fun r => r = .tp [hdsA (rP l p lba b).1, .v (.int .i64 (rP l p lba b).2)] := by
  refine (rput_own l p lba b hok hs hp h8).fn ?_
  rintro r H (⟨h1, rfl, rfl⟩ | ⟨h1, rfl, rfl⟩)
  · refine ⟨_, ConvH.refl _, ?_⟩
    conv => whnf
    exact ⟨.tp [hdsA [], .v (.int .i64 20)], tp_sub ⟨nil_hds, fun _ _ h => h, trivial⟩, by rw [rP, h1]; rfl⟩
  · refine ⟨_, ConvH.refl _, ?_⟩
    conv => whnf
    refine And.intro (by simp) ?_
    conv => whnf
    refine ⟨.tp [hdsA (l.set p (wrH (l.getD p ⟨0, [], []⟩) lba b)), .v (.int .i64 0)], tp_sub ⟨fun c u h => ?_, fun _ _ h => h, trivial⟩, by rw [rP, h1]; rfl⟩
    exact sub_map (f := hdC) (d := ⟨0, [], []⟩) (by simp) c u h
def hvB (h : Hd) : Bool := decide (20 < h.lbas.length) || (decide (20 < h.blocks.length) || h.blocks.any fun b => decide (100 < b.length))
def heavyB (l : List Hd) : Bool := decide (20 < l.length) || l.any hvB
theorem heavy_fn (l : List Hd) : Fn Try.prog 6 [hdsA l] fun r => r = .v (.bool (heavyB l)) := by
  refine Fn.of tys_ok Try.func6 rfl rfl (Nat.le_of_ble_eq_true rfl) ?_
  conv => whnf
  refine boolK_intro (fun h1 => ?_) (fun h1 => ?_) <;> simp only [decide_eq_true_eq, decide_eq_false_iff_not] at h1 <;> conv => whnf
  · exact ⟨_, fun _ _ h => h, by rw [heavyB, decide_eq_true (show 20 < l.length by omega)]; rfl⟩
  have d1 : decide (20 < l.length) = false := decide_eq_false (by omega)
  refine aLoop.rule Nat (fun k => ([(0, hdsA l), (3, .v (.int .i64 k))], [])) (fun k => k ≤ l.length ∧ (l.take k).any hvB = false) (fun k => l.length - k) 0 ⟨Nat.zero_le _, by simp⟩ ⟨[], trivial, ⟨rfl, rfl, trivial⟩, trivial, rfl, rfl, rfl⟩ ?_
  rintro k ⟨hk, hI⟩
  conv => whnf
  refine boolK_intro (fun h2 => ?_) (fun h2 => ?_) <;> simp at h2 <;> conv => whnf
  · obtain ⟨h, hh⟩ : ∃ h, h = l.getD k ⟨0, [], []⟩ := ⟨_, rfl⟩
    have yes : hvB h = true → heavyB l = true := fun e => by
      rw [heavyB, List.any_eq_true.2 ⟨h, by rw [hh]; exact getD_mem h2, e⟩, Bool.or_true]
    have no : hvB h = false → (l.take (k + 1)).any hvB = false := fun e => any_take_succ (d := ⟨0, [], []⟩) h2 hI (by rw [← hh]; exact e)
    refine ⟨by first | omega | (refine ⟨rfl, ?_, ?_⟩ <;> first | omega | (simp only [List.length_map]; done) | (simp only [List.length_map]; omega)) | (simp only [List.length_map]; omega), ?_⟩
    conv => whnf
    rw [Int.toNat_natCast, ← hh]
    conv => whnf
    refine boolK_intro (fun h3 => ?_) (fun h3 => ?_) <;> simp only [decide_eq_true_eq, decide_eq_false_iff_not] at h3 <;> conv => whnf
    · exact ⟨_, fun _ _ h => h, by rw [yes (by rw [hvB, decide_eq_true (show 20 < h.lbas.length by omega)]; rfl)]⟩
    have d3 : decide (20 < h.lbas.length) = false := decide_eq_false (by omega)
    refine ⟨by first | omega | (refine ⟨rfl, ?_, ?_⟩ <;> first | omega | (simp only [List.length_map]; done) | (simp only [List.length_map]; omega)) | (simp only [List.length_map]; omega), ?_⟩
    conv => whnf
    rw [Int.toNat_natCast, ← hh]
    conv => whnf
    refine boolK_intro (fun h4 => ?_) (fun h4 => ?_) <;> simp only [decide_eq_true_eq, decide_eq_false_iff_not] at h4 <;> conv => whnf
    · exact ⟨_, fun _ _ h => h, by rw [yes (by rw [hvB, decide_eq_true (show 20 < h.blocks.length by omega)]; simp)]⟩
    have d4 : decide (20 < h.blocks.length) = false := decide_eq_false (by omega)
    refine aLoop.rule Nat (fun j => ([(0, hdsA l), (3, .v (.int .i64 k)), (4, .v (.int .i64 j))], [])) (fun j => j ≤ h.blocks.length ∧ (h.blocks.take j).any (fun b => decide (100 < b.length)) = false) (fun j => h.blocks.length - j) 0 ⟨Nat.zero_le _, by simp⟩ ⟨[], trivial, ⟨rfl, rfl, rfl, trivial⟩, trivial, rfl, rfl, rfl⟩ ?_
    rintro j ⟨hj, hJ⟩
    conv => whnf
    refine ⟨by first | omega | (refine ⟨rfl, ?_, ?_⟩ <;> first | omega | (simp only [List.length_map]; done) | (simp only [List.length_map]; omega)) | (simp only [List.length_map]; omega), ?_⟩
    conv => whnf
    rw [Int.toNat_natCast, ← hh]
    conv => whnf
    refine boolK_intro (fun h5 => ?_) (fun h5 => ?_) <;> simp only [decide_eq_true_eq, decide_eq_false_iff_not] at h5 <;> conv => whnf
    · have hj' : j < h.blocks.length := by omega
      refine ⟨by first | omega | (refine ⟨rfl, ?_, ?_⟩ <;> first | omega | (simp only [List.length_map]; done) | (simp only [List.length_map]; omega)) | (simp only [List.length_map]; omega), ?_⟩
      conv => whnf
      rw [Int.toNat_natCast, ← hh]
      conv => whnf
      refine ⟨by first | omega | (refine ⟨rfl, ?_, ?_⟩ <;> first | omega | (simp only [List.length_map]; done) | (simp only [List.length_map]; omega)) | (simp only [List.length_map]; omega), ?_⟩
      conv => whnf
      rw [Int.toNat_natCast]
      conv => whnf
      refine boolK_intro (fun h6 => ?_) (fun h6 => ?_) <;> simp only [decide_eq_true_eq, decide_eq_false_iff_not] at h6 <;> conv => whnf
      · exact ⟨_, fun _ _ h => h, by rw [yes (by rw [hvB, List.any_eq_true.2 ⟨h.blocks.getD j [], getD_mem hj', decide_eq_true (by omega)⟩]; simp)]⟩
      · exact ⟨j + 1, ⟨hj', any_take_succ (d := []) hj' hJ (decide_eq_false (by omega))⟩, by omega, [], trivial, ⟨rfl, rfl, wsucc (by omega), trivial⟩, trivial, rfl, rfl, rfl⟩
    · have e : j = h.blocks.length := by omega
      rw [e, List.take_length] at hJ
      exact ⟨k + 1, ⟨h2, no (by rw [hvB, d3, d4, hJ]; rfl)⟩, by omega, [], trivial, ⟨rfl, wsucc (by omega), trivial⟩, trivial, rfl, rfl, rfl⟩
  · exact ⟨_, fun _ _ h => h, by rw [List.take_of_length_le h2] at hI; rw [heavyB, d1, hI]; rfl⟩
theorem light_of {l : List Hd} (h : heavyB l = false) : l.length ≤ 20 ∧ ∀ h ∈ l, HdB h := by
  simp only [heavyB, Bool.or_eq_false_iff, decide_eq_false_iff_not] at h
  refine ⟨by omega, fun x hx => ?_⟩
  have := List.any_eq_false.1 h.2 x hx
  simp only [hvB, Bool.not_eq_true, Bool.or_eq_false_iff, decide_eq_false_iff_not] at this
  refine ⟨by omega, by omega, fun b hb => ?_⟩
  have := List.any_eq_false.1 this.2.2 b hb
  simp only [decide_eq_true_eq] at this
  omega
end Go.Proofs.Ytjcboeldmgmfcaa.A
end

/-
The law's wake-up.
-/
section
namespace Go.Proofs.Ytjcboeldmgmfcaa.A
open Go.RowKit

def b8 : List UInt8 := [1, 2, 3, 4, 5, 6, 7, 8]
theorem w_open : openH [] = ([⟨0, [], []⟩], 0, 0) := by kernel_rfl
theorem w_put : putHd [⟨0, [], []⟩] 0 3 b8 = ([⟨0, [3], [b8]⟩], 0) := by kernel_rfl
theorem w_get : getH [⟨0, [3], [b8]⟩] 0 3 = (b8, true, 0) := by kernel_rfl
theorem w_close : closeH [⟨0, [3], [b8]⟩] 0 = ([], ⟨0, [3], [b8]⟩, 0) := by kernel_rfl
theorem w_check : hdsOk [⟨-1, [], []⟩] = false := by kernel_rfl
set_option maxRecDepth 100000 in
theorem wakes_fn : Fn Try.prog 15 [] fun r => r = .v (.bool true) := by
  have h1 : ∀ h ∈ ([⟨0, [3], [b8]⟩] : List Hd), HdB h := fun h hh => by
    simp only [List.mem_cons, List.not_mem_nil, or_false] at hh
    subst hh
    exact ⟨by decide, by decide, fun b hb => by simp only [List.mem_cons, List.not_mem_nil, or_false] at hb; subst hb; decide⟩
  have h0 : ∀ i, ∀ h ∈ ([⟨i, [], []⟩] : List Hd), HdB h := fun i h hh => by
    simp only [List.mem_cons, List.not_mem_nil, or_false] at hh
    subst hh
    exact ⟨by show 0 ≤ 1000; decide, by show 0 ≤ 1000; decide, fun b hb => by cases hb⟩
  have c1 := hopen_fn [] (by decide) (fun _ h => by cases h)
  rw [w_open] at c1
  have c2 := hput_fn [⟨0, [], []⟩] 0 3 b8 (by decide) (h0 0)
  rw [w_put] at c2
  have c3 := hget_own [⟨0, [3], [b8]⟩] 0 3 (by decide) h1 (by rw [w_get])
  rw [w_get] at c3
  have c4 := hclose_fn [⟨0, [3], [b8]⟩] 0 (by decide) h1
  rw [w_close] at c4
  have c5 := hcheck_fn [⟨-1, [], []⟩] (by decide) (fun h hh => ⟨(h0 (-1) h hh).1, (h0 (-1) h hh).2.1⟩)
  rw [w_check] at c5
  refine Fn.of tys_ok Try.func15 rfl rfl (Nat.le_of_ble_eq_true rfl) ?_
  conv => whnf
  refine ACalls.sub [hdsA []] ⟨nil_hds, trivial⟩ ?_
  refine Fn.closed (c1) rfl ?_
  rintro _ rfl
  conv => whnf
  refine ACalls.shut c2.go ?_
  conv => whnf
  refine And.intro rfl ?_
  conv => whnf
  refine ACalls.sub [hdsA [⟨0, [], []⟩], .v (.int .i64 0), .v (.int .i64 3), bA b8] ⟨fun _ _ h => h, fun _ _ h => h, fun _ _ h => h, fun c u h => sub_map (f := by1) (l := b8) (d := 0) rfl c u h, trivial⟩ ?_
  refine Fn.closed (c2) rfl ?_
  rintro _ rfl
  conv => whnf
  refine ACalls.beside (c3) rfl ?_
  rintro _ _ ⟨rfl, rfl⟩
  conv => whnf
  refine Fn.closed (c4) rfl ?_
  rintro _ rfl
  conv => whnf
  refine ACalls.shut c5.go ?_
  conv => whnf
  refine And.intro rfl ?_
  conv => whnf
  refine ACalls.sub [hdsA [⟨-1, [], []⟩]] ⟨fun c u h => Rd.sub rfl (fun i hi => ?_) h, trivial⟩ ?_
  · have : i = 0 := by simp at hi; omega
    subst this
    exact ⟨fun _ _ h => h, fun c u h => nil_sl 1 _ c u h, fun c u h => nil_sl 1 _ c u h, trivial⟩
  refine Fn.closed (c5) rfl ?_
  rintro _ rfl
  conv => whnf
  exact ⟨_, fun _ _ h => h, rfl⟩
end Go.Proofs.Ytjcboeldmgmfcaa.A
end

/-
Arguments opened: what a handed value reads as, in the abstract, by its type's shape.
-/
section
namespace Go.Proofs.Ytjcboeldmgmfcaa.A
open Go.RowKit Go.ChangeShapes Go.WideShapes Go.ChangeAt Go.Deep

theorem spot_none {w : World} {a : Addr} {u : Value} (h : w.cell? a = some u) : a.spot = none := by
  unfold World.cell? at h
  split at h
  · split at h
    · cases h
    · rename_i hn
      cases hs : a.spot with
      | none => rfl
      | some x => rw [hs] at hn; exact absurd rfl hn
  · cases h

theorem int_max {k : Int} (h : (Lit.int .i64 k).wf = true) : k ≤ 9223372036854775807 := by
  have h2 : IntKind.i64.min ≤ k ∧ k ≤ IntKind.i64.max := by
    simp only [Lit.wf, Bool.and_eq_true, decide_eq_true_eq] at h
    exact h
  have e2 : IntKind.i64.max = 9223372036854775807 := by decide
  omega
theorem int_min {k : Int} (h : (Lit.int .i64 k).wf = true) : -9223372036854775808 ≤ k := by
  have h2 : IntKind.i64.min ≤ k ∧ k ≤ IntKind.i64.max := by
    simp only [Lit.wf, Bool.and_eq_true, decide_eq_true_eq] at h
    exact h
  have e2 : IntKind.i64.min = -9223372036854775808 := by decide
  omega
theorem u8_wf {k : Int} (h : (Lit.int .u8 k).wf = true) : ∃ x : UInt8, k = x.toNat := by
  have h2 : 0 ≤ k ∧ k < 256 := by
    simp only [Lit.wf, Bool.and_eq_true, decide_eq_true_eq] at h
    have e1 : IntKind.u8.min = 0 := by decide
    have e2 : IntKind.u8.max = 255 := by decide
    omega
  obtain ⟨j, rfl⟩ := Int.eq_ofNat_of_zero_le h2.1
  exact ⟨UInt8.ofNat j, by rw [UInt8.toNat_ofNat_of_lt' (show j < 256 by omega)]⟩
/-- Where a call begins: nothing is one's own. -/
def ctx0 (w : World) : Ctx := { w := w, M := noM, base := w.heap.size, dom := 0, len := fun _ => 0, rho := fun _ => undef }
theorem Fn.any {P : Program} {f : FuncId} {args : List AV} {a : AV} (h : Fn P f args fun r => r = a) (w : World) (hg : globOk w) (us : List Value) (hr : RdL args (ctx0 w) us) :
    Calls P f us.toArray w fun e w' => ∃ v, e = .returned v ∧ Below w.heap.size w w' ∧ Rd a { ctx0 w with w := w' } v := by
  refine (h.calls (ctx0 w) us rfl (fun _ h => h.elim) hg hr).mono ?_
  rintro e w' ⟨v, r, rfl, rfl, h1, h2⟩
  exact ⟨v, rfl, h1, h2⟩
theorem Fn.anyV {P : Program} {f : FuncId} {args : List AV} {a : Value} (h : Fn P f args fun r => r = .v a) (w : World) (hg : globOk w) (us : List Value) (hr : RdL args (ctx0 w) us) :
    Calls P f us.toArray w fun e w' => e = .returned a ∧ Below w.heap.size w w' := by
  refine (h.any w hg us hr).mono ?_
  rintro e w' ⟨v, rfl, h1, h2⟩
  simp only [Rd] at h2
  exact ⟨by rw [h2], h1⟩
section
variable {H : Type} {enc : TypeId × Value → H} {w : World}
/-- Whatever a type's cells read as is of the form G. -/
def OpenE (enc : TypeId × Value → H) (w : World) (t : TypeId) (sz : Nat) (G : List AV → Prop) : Prop :=
  Try.prog.cellsOf t = sz ∧ ∀ n cs x, DataW.trod enc Try.prog w 0 (fun _ => true) true n t cs = some x → ∃ L, G L ∧ RdL L (ctx0 w) cs ∧ (∀ u ∈ cs, u.oneCell' = true) ∧ L.length = sz
theorem OpenE.mono {t sz : Nat} {G G' : List AV → Prop} (h : OpenE enc w t sz G) (hg : ∀ L, G L → G' L) : OpenE enc w t sz G' :=
  ⟨h.1, fun n cs x hx => let ⟨L, h1, h2⟩ := h.2 n cs x hx; ⟨L, hg L h1, h2⟩⟩
def gInt (L : List AV) : Prop := ∃ k : Int, L = [.v (.int .i64 k)] ∧ -9223372036854775808 ≤ k ∧ k ≤ 9223372036854775807
def gU8 (L : List AV) : Prop := ∃ k : UInt8, L = [.v (.int .u8 k.toNat)]
def gBool (L : List AV) : Prop := ∃ k : Bool, L = [.v (.bool k)]
def gStr (L : List AV) : Prop := ∃ k : ByteArray, L = [.v (.string k)]
theorem oe_int {t : Nat} (ht : Try.prog.underlying t = some (.int .i64)) (hc : Try.prog.cellsOf t = 1) : OpenE enc w t 1 gInt := ⟨hc, fun n cs x h => by
  obtain ⟨k, rfl, -, hw⟩ := DataW.trod_int ht h
  exact ⟨_, ⟨k, rfl, int_min hw, int_max hw⟩, by simp only [RdL, Rd]; exact ⟨_, _, rfl, rfl, rfl⟩, by simp [Value.oneCell'], rfl⟩⟩
theorem oe_u8 {t : Nat} (ht : Try.prog.underlying t = some (.int .u8)) (hc : Try.prog.cellsOf t = 1) : OpenE enc w t 1 gU8 := ⟨hc, fun n cs x h => by
  obtain ⟨k, rfl, -, hw⟩ := DataW.trod_int ht h
  obtain ⟨y, rfl⟩ := u8_wf hw
  exact ⟨_, ⟨y, rfl⟩, by simp only [RdL, Rd]; exact ⟨_, _, rfl, rfl, rfl⟩, by simp [Value.oneCell'], rfl⟩⟩
theorem oe_bool {t : Nat} (ht : Try.prog.underlying t = some .bool) (hc : Try.prog.cellsOf t = 1) : OpenE enc w t 1 gBool := ⟨hc, fun n cs x h => by
  obtain ⟨k, rfl, -⟩ := DataW.trod_bool ht h
  exact ⟨_, ⟨k, rfl⟩, by simp only [RdL, Rd]; exact ⟨_, _, rfl, rfl, rfl⟩, by simp [Value.oneCell'], rfl⟩⟩
theorem oe_str {t : Nat} (ht : Try.prog.underlying t = some .string) (hc : Try.prog.cellsOf t = 1) : OpenE enc w t 1 gStr := ⟨hc, fun n cs x h => by
  obtain ⟨k, rfl, -⟩ := DataW.trod_string ht h
  exact ⟨_, ⟨k, rfl⟩, by simp only [RdL, Rd]; exact ⟨_, _, rfl, rfl, rfl⟩, by simp [Value.oneCell'], rfl⟩⟩
/-- A slice whose elements are of a form. -/
def gSl {α : Type} (sz : Nat) (f : α → List AV) (d : α) (L : List AV) : Prop := ∃ l : List α, L = [.sl sz l.length fun i => f (l.getD i d)]
theorem oe_sl {α : Type} {t e sz : Nat} {f : α → List AV} {d : α} (ht : Try.prog.underlying t = some (.slice e)) (hc : Try.prog.cellsOf t = 1) (hsz : 0 < sz) (he : OpenE enc w e sz fun L => ∃ a, L = f a) : OpenE enc w t 1 (gSl sz f d) := ⟨hc, fun n cs x h => by
  have hnil : ∀ (u : Value), Rd (.v (.slice none 0 0)) (ctx0 w) u → Rd (.sl sz ([] : List α).length fun i => f (([] : List α).getD i d)) (ctx0 w) u := fun u h => by
    simp only [Rd] at h ⊢
    exact ⟨none, 0, h, by simp, by simp [maxLen], .inl rfl⟩
  rcases open_slice ht h with ⟨rfl, -⟩ | ⟨a, len, cap, m, n', D, Pl, rfl, -, hlc, hcm, hm, -, hel'⟩
  · exact ⟨_, ⟨[], rfl⟩, by simp only [RdL]; exact ⟨_, _, rfl, hnil _ (by simp [Rd]), rfl⟩, by simp [Value.oneCell'], rfl⟩
  · simp only [if_true] at hm
    subst hm
    obtain ⟨b, off, spot⟩ := a
    by_cases h0 : len = 0
    · subst h0
      refine ⟨_, ⟨[], rfl⟩, ?_, by simp [Value.oneCell'], rfl⟩
      simp only [RdL, Rd]
      exact ⟨_, _, rfl, ⟨_, m, rfl, by simp, hcm, .inl rfl⟩, rfl⟩
    · have hsp : spot = none := by
        obtain ⟨cs', hc', htr⟩ := hel' 0 (by omega)
        obtain ⟨L, ⟨a, rfl⟩, hR, h1, hl⟩ := he.2 n' cs' _ htr
        obtain ⟨-, hl2, hcell⟩ := World.cells?_some hc'
        have hlen := hR.length
        have := hcell 0 (by rw [he.1]; omega)
        rw [List.getElem?_eq_getElem (by omega)] at this
        simp only [Addr.add, Nat.zero_mul, if_true] at this
        exact spot_none this
      subst hsp
      have key : ∀ i, i < len → ∃ cs, ∃ a : α, RdL (f a) (ctx0 w) cs ∧ (∀ u ∈ cs, u.oneCell' = true) ∧ (f a).length = sz ∧ ∀ j u, cs[j]? = some u → w.cell? ⟨b, off + (i * sz + j), none⟩ = some u := fun i hi => by
        obtain ⟨cs', hc', htr⟩ := hel' i (by omega)
        obtain ⟨L, ⟨a, rfl⟩, hR, h1, hl⟩ := he.2 n' cs' _ htr
        refine ⟨cs', a, hR, h1, hl, fun j u hu => ?_⟩
        obtain ⟨-, hl2, hcell⟩ := World.cells?_some hc'
        have hj : j < Try.prog.cellsOf e := by rw [← hl2]; exact (List.getElem?_eq_some_iff.1 hu).1
        have h3 := (hcell j hj).trans hu
        rw [he.1, Addr.add_lit, Addr.add_lit, Nat.add_assoc] at h3
        exact h3
      have hex : ∀ k, k ≤ len → ∃ l : List α, l.length = k ∧ ∀ i, i < k → (f (l.getD i d)).length = sz ∧ RdAt (f (l.getD i d)) (ctx0 w) b (off + i * sz) := by
        intro k
        induction k with
        | zero => exact fun _ => ⟨[], rfl, fun i hi => absurd hi (Nat.not_lt_zero i)⟩
        | succ k ih =>
          intro hk
          obtain ⟨l, hl, hr⟩ := ih (by omega)
          obtain ⟨cs', a, hR, h1, hla, h2⟩ := key k (by omega)
          refine ⟨l ++ [a], by simp [hl], fun i hi => ?_⟩
          by_cases hik : i < k
          · have e : (l ++ [a]).getD i d = l.getD i d := by rw [List.getD_eq_getElem?_getD, List.getD_eq_getElem?_getD, List.getElem?_append_left (by omega)]
            rw [e]
            exact hr i hik
          · have e2 : i = k := by omega
            subst e2
            have e : (l ++ [a]).getD i d = a := by rw [List.getD_eq_getElem?_getD, List.getElem?_append_right (by omega), hl]; simp
            rw [e]
            refine ⟨hla, RdAt.of hR h1 fun j u hu => ?_⟩
            have := h2 j u hu
            rw [Nat.add_assoc]
            exact this
      obtain ⟨l, hl, hr⟩ := hex len (Nat.le_refl _)
      refine ⟨_, ⟨l, rfl⟩, ?_, by simp [Value.oneCell'], rfl⟩
      simp only [RdL, Rd]
      refine ⟨_, _, rfl, ⟨_, m, by rw [hl], by omega, hcm, .inr ⟨b, off, rfl, fun h => h, ?_, fun i hi => hr i (by omega)⟩⟩, rfl⟩
      obtain ⟨cs', a, hR, h1, hla, h2⟩ := key 0 (by omega)
      have hlen := hR.length
      have h3 := h2 0 cs'[0] (List.getElem?_eq_getElem (by omega))
      exact World.block_lt_of_cell? _ _ h3⟩
/-- Forms one behind the other. -/
def catG : List (List AV → Prop) → List AV → Prop
  | [], L => L = []
  | G :: r, L => ∃ A B, L = A ++ B ∧ G A ∧ catG r B
/-- A structure's fields, one behind the other. -/
structure FieldE (enc : TypeId × Value → H) (w : World) where
  t : TypeId
  sz : Nat
  G : List AV → Prop
  ok : OpenE enc w t sz G
theorem oe_fields {n : Nat} {cs : List Value} : ∀ (fs : List (FieldE enc w)) (off : Nat), off + (fs.map (·.sz)).sum = cs.length →
    (∀ i f, fs[i]? = some f → ∃ x, DataW.trod enc Try.prog w 0 (fun _ => true) true n f.t ((cs.drop (off + ((fs.take i).map (·.sz)).sum)).take f.sz) = some x) →
    ∃ L, catG (fs.map (·.G)) L ∧ RdL L (ctx0 w) (cs.drop off) ∧ (∀ u ∈ cs.drop off, u.oneCell' = true) ∧ L.length = (fs.map (·.sz)).sum
  | [], off, hl, _ => ⟨[], rfl, by simp only [RdL]; exact List.drop_eq_nil_of_le (by simp at hl; omega), by rw [List.drop_eq_nil_of_le (by simp at hl; omega)]; simp, rfl⟩
  | f :: r, off, hl, h => by
    simp only [List.map_cons, List.sum_cons] at hl ⊢
    obtain ⟨x, hx⟩ := h 0 f rfl
    simp only [List.take_zero, List.map_nil, List.sum_nil, Nat.add_zero] at hx
    obtain ⟨A, hA, hRA, h1A, hlA⟩ := f.ok.2 _ _ _ hx
    obtain ⟨B, hB, hRB, h1B, hlB⟩ := oe_fields (cs := cs) r (off + f.sz) (by omega) (fun i g hg => by
      obtain ⟨y, hy⟩ := h (i + 1) g (by simpa using hg)
      refine ⟨y, ?_⟩
      simp only [List.take_succ_cons, List.map_cons, List.sum_cons] at hy
      rw [Nat.add_assoc]
      exact hy)
    have e : cs.drop off = (cs.drop off).take f.sz ++ cs.drop (off + f.sz) := by rw [← List.drop_drop, List.take_append_drop]
    refine ⟨A ++ B, ⟨A, B, rfl, hA, hB⟩, ?_, ?_, by simp [hlA, hlB]⟩
    · rw [e]; exact hRA.append hRB
    · intro u hu
      rw [e, List.mem_append] at hu
      exact hu.elim (h1A u) (h1B u)
theorem oe_struct {t : Nat} (fs : List (FieldE enc w)) {F : Array Field} (ht : Try.prog.underlying t = some (.struct F)) (hc : Try.prog.cellsOf t = (fs.map (·.sz)).sum)
    (hF : F.toList.map (fun f => (f.type, f.offset)) = fs.zipIdx.map fun p => (p.1.t, ((fs.take p.2).map (·.sz)).sum)) : OpenE enc w t (fs.map (·.sz)).sum (catG (fs.map (·.G))) := ⟨hc, fun n cs x h => by
  obtain ⟨xs, n', _, rfl, hl, hlen, hf⟩ := DataW.trod_struct ht h
  have hsz : F.size = fs.length := by have := congrArg List.length hF; simpa using this
  obtain ⟨L, h1, h2, h3, h4⟩ := oe_fields (n := n') (cs := cs) fs 0 (by rw [hl, hc]; omega) (fun i f hi => by
    have hi' : i < fs.length := (List.getElem?_eq_some_iff.1 hi).1
    have hFi : F[i]? = some F[i] := Array.getElem?_eq_getElem (by omega)
    have hx := hf i F[i] hFi
    have he : (F[i].type, F[i].offset) = (f.t, ((fs.take i).map (·.sz)).sum) := by
      have := congrArg (fun l => l[i]?) hF
      simp only [List.getElem?_map, List.getElem?_zipIdx, hi, Array.getElem?_toList, hFi, Option.map_some, Nat.zero_add, Option.some.injEq] at this
      exact this
    injection he with e1 e2
    rw [e1, e2, f.ok.1] at hx
    rw [List.getElem?_eq_getElem (by omega)] at hx
    rw [Nat.zero_add]
    exact ⟨_, hx⟩)
  exact ⟨L, h1, by simpa using h2, by simpa using h3, h4⟩⟩
end
section
variable {H : Type} {enc : TypeId × Value → H} {w : World}
theorem oI : OpenE enc w 3 1 gInt := oe_int Try.underlying3 (by kernel_rfl)
theorem oBool : OpenE enc w 4 1 gBool := oe_bool Try.underlying4 (by kernel_rfl)
def gBy (L : List AV) : Prop := ∃ b : List UInt8, L = [bA b]
theorem oBy : OpenE enc w 23 1 gBy :=
  (oe_sl (α := UInt8) (sz := 1) (f := fun k => [.v (.int .u8 k.toNat)]) (d := 0) Try.underlying23 (by kernel_rfl) (by decide) ((oe_u8 Try.underlying5 (by kernel_rfl)).mono fun _ h => h)).mono fun L ⟨l, h⟩ => ⟨l, h⟩
def gIs (L : List AV) : Prop := ∃ b : List Int, L = [iA b]
theorem oIs : OpenE enc w 33 1 gIs :=
  (oe_sl (α := Int) (sz := 1) (f := fun k => [.v (.int .i64 k)]) (d := 0) Try.underlying33 (by kernel_rfl) (by decide) (oI.mono fun _ ⟨k, h, _⟩ => ⟨k, h⟩)).mono fun L ⟨l, h⟩ => ⟨l, h⟩
def fI : FieldE enc w := ⟨_, _, _, oI⟩
def fBy : FieldE enc w := ⟨_, _, _, oBy⟩
def fIs : FieldE enc w := ⟨_, _, _, oIs⟩
def gRows (L : List AV) : Prop := ∃ b : List (List UInt8), L = [rowsA b]
theorem oRows : OpenE enc w 34 1 gRows :=
  (oe_sl (α := List UInt8) (sz := 1) (f := fun k => [bA k]) (d := []) Try.underlying34 (by kernel_rfl) (by decide) oBy).mono fun L ⟨l, h⟩ => ⟨l, h⟩
def fRows : FieldE enc w := ⟨_, _, _, oRows⟩
theorem oHd : OpenE enc w 36 3 fun L => ∃ x, L = hdC x :=
  (oe_struct [fI, fIs, fRows] Try.underlying36 (by kernel_rfl) (by kernel_rfl)).mono fun L h => by
    obtain ⟨_, _, rfl, ⟨a, rfl, _⟩, _, _, rfl, ⟨b, rfl⟩, _, _, rfl, ⟨c, rfl⟩, rfl⟩ := h
    exact ⟨⟨a, b, c⟩, rfl⟩
theorem oHds : OpenE enc w 22 1 fun L => ∃ l, L = [hdsA l] :=
  (oe_sl (α := Hd) (sz := 3) (f := hdC) (d := ⟨0, [], []⟩) Try.underlying22 (by kernel_rfl) (by decide) oHd).mono fun L ⟨l, h⟩ => ⟨l, h⟩
/-- An array of numbers. -/
def arrC (l : List Int) : List AV := l.map fun k => .v (.int .i64 k)
theorem cat_ints : ∀ (n : Nat) {L : List AV}, catG (List.replicate n gInt) L → ∃ l : List Int, l.length = n ∧ L = arrC l ∧ ∀ k ∈ l, -9223372036854775808 ≤ k ∧ k ≤ 9223372036854775807
  | 0, L, h => ⟨[], rfl, h, by simp⟩
  | n + 1, L, h => by
    obtain ⟨A, B, rfl, ⟨k, rfl, hk⟩, hB⟩ := h
    obtain ⟨l, h1, rfl, h2⟩ := cat_ints n hB
    refine ⟨k :: l, by simp [h1], rfl, fun x hx => ?_⟩
    rcases List.mem_cons.1 hx with rfl | hx
    · exact hk
    · exact h2 x hx
theorem oe_arr {t n : Nat} (ht : Try.prog.underlying t = some (.array n 3)) (hc : Try.prog.cellsOf t = n) : OpenE enc w t n fun L => ∃ l : List Int, l.length = n ∧ L = arrC l ∧ ∀ k ∈ l, -9223372036854775808 ≤ k ∧ k ≤ 9223372036854775807 := ⟨hc, fun m cs x h => by
  obtain ⟨xs, m', _, rfl, hl, hlen, hel⟩ := DataW.trod_array ht h
  have hs : ((List.replicate n (fI : FieldE enc w)).map (·.sz)).sum = n := by
    rw [List.map_replicate, List.sum_replicate_nat]
    exact Nat.mul_one n
  obtain ⟨L, h1, h2, h3, h4⟩ := oe_fields (n := m') (cs := cs) (List.replicate n (fI : FieldE enc w)) 0 (by rw [hl, hc, hs]; omega) (fun i f hi => by
    have hin : i < n := by simpa using (List.getElem?_eq_some_iff.1 hi).1
    rw [List.getElem?_replicate_of_lt hin] at hi
    have hi := (Option.some.inj hi).symm
    subst hi
    have := hel i hin
    rw [(oI (enc := enc) (w := w)).1, List.getElem?_eq_getElem (by omega)] at this
    refine ⟨_, Eq.trans ?_ this⟩
    have e : ((List.take i (List.replicate n (fI : FieldE enc w))).map (·.sz)).sum = i * 1 := by
      rw [List.take_replicate, List.map_replicate, List.sum_replicate_nat, Nat.min_eq_left (by omega)]
      rfl
    rw [e, Nat.zero_add]
    rfl)
  rw [List.map_replicate] at h1
  obtain ⟨l, q1, q2, q3⟩ := cat_ints n h1
  exact ⟨L, ⟨l, q1, q2, q3⟩, by simpa using h2, by simpa using h3, by rw [h4, hs]⟩⟩

theorem okWide_array {P : Program} {w : World} {r : Reach} {b t n e : Nat} {v : Value} (ht : P.underlying t = some (.array n e)) (h : Value.okWide P w r b t v) : ∃ cs, v = .agg cs ∧ cs.size = P.cellsOf t := by
  simp only [Value.okWide, ht] at h
  obtain ⟨cs, h1, h2, _⟩ := h
  exact ⟨cs, h1, h2⟩
/-- An argument of one cell; an argument of several. -/
theorem arg_one {t : Nat} {G : List AV → Prop} {v : Value} {d : DataW H} {ps : List MemPlace} (ho : OpenE enc w t 1 G) (hv : v.cells.toList = [v]) (h : DataW.Trod enc Try.prog w 0 (fun _ => true) true t v d ps) : ∃ L, G L ∧ RdL L (ctx0 w) [v] := by
  obtain ⟨n, hn⟩ := h
  obtain ⟨L, h1, h2, _⟩ := ho.2 n _ _ hn
  rw [hv] at h2
  exact ⟨L, h1, h2⟩
theorem arg_agg {t sz : Nat} {G : List AV → Prop} {cs : Array Value} {d : DataW H} {ps : List MemPlace} (ho : OpenE enc w t sz G) (h : DataW.Trod enc Try.prog w 0 (fun _ => true) true t (.agg cs) d ps) : ∃ L, G L ∧ Rd (.ag L) (ctx0 w) (.agg cs) := by
  obtain ⟨n, hn⟩ := h
  obtain ⟨L, h1, h2, _⟩ := ho.2 n _ _ hn
  refine ⟨L, h1, ?_⟩
  simp only [Rd]
  exact ⟨cs.toList, rfl, h2⟩
theorem rdL_one {a : AV} {c : Ctx} {v : Value} (h : RdL [a] c [v]) : Rd a c v := by
  simp only [RdL] at h
  obtain ⟨y, ys, e, h1, _⟩ := h
  injection e with e _
  subst e
  exact h1
end
theorem rd_v {c : Ctx} (x : Value) : Rd (.v x) c x := by simp [Rd]
end Go.Proofs.Ytjcboeldmgmfcaa.A
end

/-
A law's last step: true is returned, nothing that was there has changed.
-/
section
namespace Go.Proofs.Ytjcboeldmgmfcaa
open Go.ChangeShapes Go.WideShapes Go.ChangeAt Go.RowKit

theorem own_none : ownKnob Try.prog.godebug = none := by kernel_rfl
theorem laidOut : laidOutB Try.prog = true := by kernel_rfl

section
variable {H : Type} {enc : TypeId × Value → H}
theorem law_post {f : Func} {s : ChangeSpec} {apart fresh handsOn again : Bool} {W W' : World} {args : Array Value} {ds : List (DataW H)} {before : List MemPlace}
    (hW : DataW.Whole enc Try.prog f.params.toList s.vars apart W args.toList ds [] before) (hv : s.vars = []) (hvs : (s.fn H (ds ++ [])).vars = [])
    (hr : f.resultTypes = #[4]) (hfr : (s.fn H (ds ++ [])).results = [.lit (.bool true)]) (hfa : (s.fn H (ds ++ [])).args = ds)
    (hrow : ∀ t ∈ f.params.toList, Try.prog.readableRec t = true ∧ t < Try.prog.types.size) (hb : Below W.heap.size W W') :
    s.post enc Try.prog f apart fresh handsOn again W args (.bool true) W' := by
  have hlt : ∀ p ∈ before, p.block < W.heap.size := fun p hp => hW.lt p hp
  obtain ⟨p, q, hA, hV, hpq, hz, hn⟩ := id hW
  rw [hv] at hV
  obtain ⟨-, rfl⟩ := trodVars_none hV
  rw [List.append_nil] at hpq
  subst hpq
  have stay : ∀ sp : Nat → Bool, (∀ x ∈ before, sp x.block = true) → DataW.TrodAll enc Try.prog W' 0 sp true f.params.toList args.toList ds before := by
    intro sp hsp
    have go : ∀ (ts : List TypeId) (vs : List Value) (es : List (DataW H)) (ps : List MemPlace), (∀ t ∈ ts, Try.prog.readableRec t = true ∧ t < Try.prog.types.size) → (∀ x ∈ ps, x ∈ before) →
        DataW.TrodAll enc Try.prog W 0 (fun _ => true) true ts vs es ps → DataW.TrodAll enc Try.prog W' 0 sp true ts vs es ps := by
      intro ts
      induction ts with
      | nil =>
        intro vs es ps _ _ h
        cases vs <;> cases es <;> exact h
      | cons t ts ih =>
        intro vs es ps ht hin h
        cases vs with
        | nil => cases es <;> exact h.elim
        | cons v vs =>
          cases es with
          | nil => exact h.elim
          | cons e es =>
            obtain ⟨p1, p2, h1, h2, rfl⟩ := h
            exact ⟨p1, p2, WideElems.Trod_stays laidOut (ht t (by simp)).1 (ht t (by simp)).2 h1 (fun x hx => hb.same (hlt x (hin x (by simp [hx])))) (fun x hx => hsp x (hin x (by simp [hx]))),
              ih vs es p2 (fun t' ht' => ht t' (by simp [ht'])) (fun x hx => hin x (by simp [hx])) h2, rfl⟩
    exact go _ _ _ _ hrow (fun x hx => hx) hA
  have hres : ∀ (b : Nat) (sp : Nat → Bool) (hd : Bool), DataW.TrodAll enc Try.prog W' b sp hd f.resultTypes.toList ((Value.bool true).resultList f.resultTypes.size) (s.fn H (ds ++ [])).results [] := by
    intro b sp hd
    rw [hr, hfr]
    exact trodAll_mk1 ⟨1, by simp [DataW.trod, Value.cells, Try.underlying4]⟩
  have hold : ∀ p ∈ before, (fun b => decide (b < W.heap.size)) p.block = true := fun p hp => by simpa using hlt p hp
  have hvars : ∀ sp : Nat → Bool, DataW.TrodVars enc Try.prog W' sp s.vars (s.fn H (ds ++ [])).vars [] := by
    intro sp; rw [hv, hvs]; exact rfl
  refine ⟨ds, [], before, [], before, [], hW, hres _ _ _, by rw [hfa]; exact stay _ hold, hvars _, World.keptBut_mono (fun p hp => ⟨hp, ?_⟩) (hb.frame (· ∈ before)), fun _ => ?_⟩
  · exact Or.inr (by simpa using hp)
  · refine ⟨ok_one hr rfl (by simp [Value.okWide, Try.underlying4, Cell.okWide, Cell.ok]), _, _, ([] ++ before) ++ [], ⟨[] ++ before, [], trodAll_append (stay _ (fun _ _ => rfl)) (hres _ _ _), hvars _, rfl, ?_, ?_⟩, ?_⟩
    · intro b off hp
      have hin : MemPlace.cell b off ∈ before := by simpa using hp
      rw [hb.frozen (hlt _ hin)]
      exact hz b off hin
    · intro ha
      have := hn ha
      simpa using this
    · intro p hp _
      simpa using hp
end
end Go.Proofs.Ytjcboeldmgmfcaa
end
