/-
Several texts in one.
-/
import Derived.Test.YtldngmdpiifamaaGreatDoorPPB2P4
import Derived.Test.YtldngmdpiifamaaGreatDoorPPB2P2
import Derived.Test.YtldngmdpiifamaaGreatDoorPPB2P1
import Derived.Test.YtldngmdpiifamaaGreatDoorRows
import Derived.Below
import Derived.ChangeSame
import Derived.Carry
import Derived.Lib.LaidIn
import Derived.Lib.LaidU8T
import Derived.LaidHandle
import Derived.MakeChecks
import Derived.Handed
section
namespace Go.Proofs.YtldngmdpiifamaaGreatDoor.A
open Go.RowKit
def volF (g : Geo) (s : ByteArray) (L : List Tx) (b : An) (a : Int) : List UInt8 := if a < g.an then anCell b a else logF g s L 0 a
section
variable {g : Geo} {s : ByteArray} {a b : An} {fill : UInt8} {sizes : List Int} {d : Dk}
theorem holds_gots {F : Int → List UInt8} {n : Int} (h : Holds d n F) (l : List Int) (hl : ∀ x ∈ l, 0 ≤ x ∧ x < n) : gotsD d l = l.map fun x => ⟨0, F x⟩ := by
 unfold gotsD
 refine List.map_congr_left fun x hx => ?_
 exact h.got (hl x hx).1 (hl x hx).2
theorem logAts_in (hg : okG g = true) {c : Int} (hc : c = 0 ∨ c = 1) : ∀ x ∈ logAts g c, 0 ≤ x ∧ x < cellsN g := fun x hx => by
 obtain ⟨g1, g2, g3, g4, g5⟩ := okG_iff.1 hg
 have hcg := cells_ge hg
 simp only [logAts, List.mem_map, List.mem_range] at hx
 obtain ⟨i, hi, rfl⟩ := hx
 have := logAt_bd (g := g) hc (s := (i : Nat)) (by omega)
 omega
theorem vol_log (hg : okG g = true) (L : List Tx) {c : Int} (hc : c = 0 ∨ c = 1) (h : Holds d (cellsN g) (volF g s L b)) : gotsD d (logAts g c) = writtenM g L 0 c g.sl.toNat := by
 rw [holds_gots h _ (logAts_in hg hc)]
 unfold logAts writtenM
 rw [List.map_map]
 refine List.map_congr_left fun i hi => ?_
 have hi := List.mem_range.1 hi
 have hb := logAt_bd (g := g) hc (s := (i : Nat)) (by omega)
 show (⟨0, volF g s L b (logAt g c i)⟩ : Gt) = _
 unfold volF
 rw [if_neg (by omega), logF_at hc (by omega)]
theorem vol_an (hg : okG g = true) {L : List Tx} (hb : anOk g b = true) (h : Holds d (cellsN g) (volF g s L b)) : pickN g (gotsD d (anAts g)) = some (b, (pkN (pickN g (gotsD d (anAts g))))) := by
 obtain ⟨g1, g2, g3, g4, g5⟩ := okG_iff.1 hg
 have hcg := cells_ge hg
 have hsp := pickK_spec g (gotsD d (anAts g)) (gotsD d (anAts g)).length
 rw [gotsD_len, anAts_len] at hsp
 have hsay : ∀ i, i < g.an.toNat → saysN g ((gotsD d (anAts g)).getD i ⟨0, []⟩) (i : Nat) = some b := fun i hi => by
  rw [anAts_gots hi, h.got (by omega) (by omega)]
  unfold volF
  rw [if_pos (by omega)]
  exact saysN_cell hg hb (by omega)
 have hpk : pickN g (gotsD d (anAts g)) = pickK g (gotsD d (anAts g)) g.an.toNat := by rw [pickN, gotsD_len, anAts_len]
 rw [hpk]
 cases hP : pickK g (gotsD d (anAts g)) g.an.toNat with
 | none =>
  have := hsp.1 hP 0 (by omega)
  rw [hsay 0 (by omega)] at this
  cases this
 | some q =>
  obtain ⟨a0, j⟩ := q
  obtain ⟨q1, q2, q3⟩ := hsp.2 a0 j hP
  rw [hsay j q1] at q2
  cases q2
  rfl
theorem holds_fin {F : Int → List UInt8} (hg : okG g = true) {c : An} (h : Holds d (cellsN g) F) {r : Int} {l : Int} : Holds ⟨finL d.cells (anCells g c), [], r, l⟩ (cellsN g) (fun x => if x < g.an then anCell c x else F x) := by
 obtain ⟨g1, g2, g3, g4, g5⟩ := okG_iff.1 hg
 have hcg := cells_ge hg
 refine ⟨by rw [← h.len]; show ((finL d.cells _).length : Int) = _; rw [finL_len], rfl, fun x h0 h1 => ?_⟩
 obtain ⟨e1, e2⟩ := h.cell x h0 h1
 have hlt : x.toNat < d.cells.length := by have := h.len; omega
 show ((finL d.cells _).getD x.toNat cz).state = 0 ∧ ((finL d.cells _).getD x.toNat cz).bytes = _
 have hmem : ∀ w ∈ anCells g c, ∃ i : Nat, i < g.an.toNat ∧ w = ⟨(i : Nat), anCell c (i : Nat)⟩ := fun w hw => by
  simp only [anCells, List.mem_map, List.mem_range] at hw
  obtain ⟨i, hi, rfl⟩ := hw
  exact ⟨i, hi, rfl⟩
 by_cases hx : x < g.an
 ·rw [if_pos hx]
  refine finL_hit _ _ _ hlt (by rw [e1]; decide) (fun w hw hwa => ?_) (.inl ⟨⟨x, anCell c x⟩, ?_, rfl⟩)
  ·obtain ⟨i, hi, rfl⟩ := hmem w hw
   have : ((i : Nat) : Int).toNat = x.toNat := hwa
   show anCell c (i : Nat) = _
   congr 1; omega
  ·simp only [anCells, List.mem_map, List.mem_range]
   exact ⟨x.toNat, by omega, by rw [Int.toNat_of_nonneg h0]⟩
 ·rw [if_neg hx, finL_miss _ _ _ hlt (fun w hw e => ?_)]
  ·exact ⟨e1, e2⟩
  ·obtain ⟨i, hi, rfl⟩ := hmem w hw
   have : ((i : Nat) : Int).toNat = x.toNat := e
   omega
theorem free_all {n : Int} {F : Int → List UInt8} (h : Holds d n F) (l : List Wr) (hl : ∀ w ∈ l, 0 ≤ w.addr ∧ w.addr < n) : l.filter (free d.cells) = l := by
 rw [List.filter_eq_self]
 intro w hw
 unfold free
 rw [(h.cell w.addr (hl w hw).1 (hl w hw).2).1]
 rfl
theorem vol_mount (hg : okG g = true) (hs : labE s.data.toList = 0) (hl : sizes.length ≤ 40) (hd : DkOk d) (hb : anOk g b = true) (h : Holds d (cellsN g) (volF g s (logM g (firstA g s) fill sizes 0 (firstA g s).pos 0) b)) (hlf : d.left < 0) (hbs : b.seq = 1) (hbp : b.pos = 0) (hbe : 0 ≤ b.epoch) (hlast : b.last ≤ (logM g (firstA g s) fill sizes 0 (firstA g s).pos 0).length) (he : b.epoch = 0 ∨ b.last = (logM g (firstA g s) fill sizes 0 (firstA g s).pos 0).length) (h1 : b.gen ≠ 4294967295) (h2 : b.epoch ≠ 4294967295) :
  ∃ D, mountM g d = (D, 0, stOf (nextA b (logM g (firstA g s) fill sizes 0 (firstA g s).pos 0).length) (logM g (firstA g s) fill sizes 0 (firstA g s).pos 0)) ∧ Holds D (cellsN g) (volF g s (logM g (firstA g s) fill sizes 0 (firstA g s).pos 0) (nextA b (logM g (firstA g s) fill sizes 0 (firstA g s).pos 0).length)) ∧ D.left = d.left ∧ D.reqs = (d.tick (mtick g [])).reqs := by
 obtain ⟨g1, g2, g3, g4, g5⟩ := okG_iff.1 hg
 have hcg := cells_ge hg
 have hao := firstA_ok hg hs
 have hok := logM_ok (g := g) (a := firstA g s) (fill := fill) (sizes := sizes) (epoch := 0) hg hao (by show (1 : Int) ≤ 1000000; decide) (by decide)
 have hsc := scan_whole (g := g) (a := firstA g s) (b := b) (fill := fill) (sizes := sizes) (ep := 0) (bad0 := fun _ => false) (bad1 := fun _ => false) hg hao (by show (1 : Int) ≤ 1000000; decide) hl hbs hbp (fun _ => rfl) (fun j hj => by
  rcases he with he | he
  ·exact .inl he.symm
  ·exact .inr ⟨by show (1 : Int) + j ≤ _; omega, hbe⟩)
 rw [txWr_none _ _ _ (b0 := fun _ => !false) (b1 := fun _ => !false) (fun _ => rfl) (fun _ => rfl), finM_neg (by show ¬ (1 : Int) + _ - 1 < b.last; omega)] at hsc
 have hv0 := vol_log (c := 0) hg _ (.inl rfl) h
 have hv1 := vol_log (c := 1) hg _ (.inr rfl) h
 have hs2 : scanM g b (gotsD d (logAts g 0)) (gotsD d (logAts g 1)) = (logM g (firstA g s) fill sizes 0 (firstA g s).pos 0, [], 0) := by
  rw [scanM_P, hv0, hv1, saysF_W hg hok (.inl rfl), saysF_W hg hok (.inr rfl)]
  exact hsc
 have hm := mountM_live hg hd h.len h.cache hlf (vol_an hg hb h) hs2 h1 h2
 have hna := anCells_len g (nextA b (logM g (firstA g s) fill sizes 0 (firstA g s).pos 0).length)
 rw [free_all h _ (fun w hw => by
  simp only [anCells, List.mem_map, List.mem_range] at hw
  obtain ⟨i, hi, rfl⟩ := hw
  exact ⟨by show (0 : Int) ≤ (i : Nat); omega, by show ((i : Nat) : Int) < _; omega⟩), if_neg (by omega), if_neg (by omega)] at hm
 refine ⟨_, hm, ?_, rfl, rfl⟩
 have hf := holds_fin (r := (d.tick (mtick g [])).reqs) (l := d.left) hg (c := nextA b (logM g (firstA g s) fill sizes 0 (firstA g s).pos 0).length) h
 refine ⟨hf.len, hf.cache, fun x h0 h1 => ?_⟩
 obtain ⟨q1, q2⟩ := hf.cell x h0 h1
 refine ⟨q1, q2.trans ?_⟩
 unfold volF
 by_cases hx : x < g.an
 ·simp only [if_pos hx]
 ·simp only [if_neg hx]
theorem vol_first (hg : okG g = true) (hs : labE s.data.toList = 0) : Holds (logD g s (logM g (firstA g s) fill sizes 0 (firstA g s).pos 0)) (cellsN g) (volF g s (logM g (firstA g s) fill sizes 0 (firstA g s).pos 0) (firstA g s)) := by
 obtain ⟨g1, g2, g3, g4, g5⟩ := okG_iff.1 hg
 have h := logd_holds (s := s) (fill := fill) (sizes := sizes) hg (firstA_ok hg hs)
 refine ⟨h.len, h.cache, fun x h0 h1 => ?_⟩
 obtain ⟨q1, q2⟩ := h.cell x h0 h1
 refine ⟨q1, q2.trans ?_⟩
 unfold volF
 by_cases hx : x < g.an
 ·rw [if_pos hx, logF_out (.inl hx) (by omega), fmtF_an hx]
 ·rw [if_neg hx]
theorem cellF_short (hg : okG g = true) (hs : labE s.data.toList = 0) {F : Int → List UInt8} (hF : F = logF g s (logM g (firstA g s) fill sizes 0 (firstA g s).pos 0) 0) {x : Int} (h0 : 0 ≤ x) (h1 : x < cellsN g) : (F x).length ≤ 200 := by
 obtain ⟨g1, g2, g3, g4, g5⟩ := okG_iff.1 hg
 have hao := firstA_ok hg hs
 have hok := logM_ok (g := g) (a := firstA g s) (fill := fill) (sizes := sizes) (epoch := 0) hg hao (by show (1 : Int) ≤ 1000000; decide) (by decide)
 subst hF
 by_cases hx : g.an ≤ x ∧ x < g.an + 2 * g.sl
 ·obtain ⟨c, i, hc, hi, rfl⟩ := log_cases hx.1 hx.2
  rw [logF_at hc hi]
  exact cellB_short2 (hok.ok i hi) c i
 ·rw [logF_out (by omega) (by omega)]
  unfold fmtF
  split
  ·exact anCell_short hg hao x
  ·rw [if_neg (by omega), if_neg (by omega)]
   split
   ·rw [sealB_len]
    have := (tab0_fit (g := g) (a := x) hg (by omega)).2.2.2.2
    omega
   ·rw [sealB_len]; decide
theorem logd_ok (hg : okG g = true) (hs : labE s.data.toList = 0) : DkOk (logD g s (logM g (firstA g s) fill sizes 0 (firstA g s).pos 0)) := by
 obtain ⟨g1, g2, g3, g4, g5⟩ := okG_iff.1 hg
 have hao := firstA_ok hg hs
 have hcg := cells_ge hg
 have hp := per_bd hg
 have h := logd_holds (s := s) (fill := fill) (sizes := sizes) hg hao
 have hlen := h.len
 have hN : g.z * perG g ≤ 4 * 7 := Int.mul_le_mul (by omega) (by omega) (by omega) (by omega)
 refine ⟨?_, by rw [h.cache]; simp, by show (0 : Int) ≤ 0 ∧ (0 : Int) ≤ _; decide, by show (-1 : Int) ≤ -1 ∧ (-1 : Int) ≤ _; decide, fun c hc => ?_, fun w hw => by rw [h.cache] at hw; cases hw⟩
 ·unfold cellsN at hcg hlen; omega
 ·obtain ⟨i, hi, rfl⟩ := List.getElem_of_mem hc
  have hci := logd_cell (s := s) (fill := fill) (sizes := sizes) hg hao (x := (i : Nat)) (by omega) (by omega)
  have e : (logD g s (logM g (firstA g s) fill sizes 0 (firstA g s).pos 0)).cells.getD ((i : Nat) : Int).toNat cz = (logD g s (logM g (firstA g s) fill sizes 0 (firstA g s).pos 0)).cells[i] := by
   rw [Int.toNat_natCast, List.getD_eq_getElem?_getD, List.getElem?_eq_getElem hi]; rfl
  rw [e] at hci
  rw [hci]
  exact ⟨⟨Int.le_refl _, by show (0 : Int) ≤ 2; decide⟩, cellF_short hg hs rfl (by omega) (by omega), by simp⟩
end
theorem ConvF.cap {fr : Fr} {H H' : List AB} (i k : Nat) {y : AV} (hx : fget fr i = .bp k 0) (h : capK [.bp k 0] H fun l H2 => l = [y] ∧ H2 = H') : ConvF fr H ((i, y) :: fr) H' := fun _ _ c _ a hs hf => by
 have hr : RdL [.bp k 0] c [a.tmps.getD i undef] := by
  simp only [RdL]
  exact ⟨_, _, rfl, hx ▸ hf.get i, rfl⟩
 obtain ⟨l', H1, c1, ⟨rfl, rfl⟩, e1, s1, x1, r⟩ := capK_sound hs hr h
 simp only [RdL] at r
 obtain ⟨u, us, e, r1, rfl⟩ := r
 injection e with e _
 subst e
 exact ⟨c1, e1, s1, (hf.ext x1).cons i _ r1, x1⟩
def ringOk (g : Geo) : List Tx → Int → Int → Int → Bool
 | [], _, _, _ => true
 | t :: r, seq, pos, left => (decide (t.seq = seq) && (decide (t.seq ≤ 4294967295) && (decide (t.pos = pos) && (decide (2 ≤ t.n) && (decide (t.n ≤ left) && (decide (t.n = t.images.length + 1) && t.images.all (imgOk g))))))) && ringOk g r (seq + 1) ((pos + t.n).tmod g.sl) (left - t.n)
theorem ring1_fn (g : Geo) (x : Img) (hx : x.bytes.length ≤ 100000) : Fn Tryz.prog 124 [.ag (imgC x), .rp (geoC g)] fun r => r = .v (.bool (!imgOk g x)) := by
 have h := imageN_fn g x hx
 refine Fn.of tys_ok Tryz.func124 rfl rfl (Nat.le_of_ble_eq_true rfl) ?_
 conv => whnf
 refine Fn.closed (h) rfl ?_
 rintro _ rfl
 conv => whnf
 cases imgOk g x with
 | true => exact ⟨_, fun _ _ h => h, rfl⟩
 | false => exact ⟨_, fun _ _ h => h, rfl⟩
theorem rgi_ix (l : List Img) (g : Geo) (hb : ∀ x ∈ l, x.bytes.length ≤ 100000) (hl : l.length ≤ 1000000) : Fn Tryz.prog 178 [imgsA l, .fn 124 [.rp (geoC g)]] fun r => r = .v (.int .i64 (ixI (fun x => !imgOk g x) l)) := by
 refine Fn.of tys_ok Tryz.func178 rfl rfl (Nat.le_of_ble_eq_true rfl) ?_
 conv => whnf
 refine aLoop.rule Nat (fun k => ([(0, imgsA l), (1, .fn 124 [.rp (geoC g)]), (7, .v (.int .i64 l.length)), (8, .v (.int .i64 k))], [])) (fun k => k ≤ l.length ∧ (l.take k).any (fun x => !imgOk g x) = false) (fun k => l.length - k) 0 ⟨Nat.zero_le _, by simp⟩ ⟨[], trivial, ⟨rfl, rfl, rfl, rfl, trivial⟩, trivial, rfl, rfl, rfl⟩ ?_
 rintro k ⟨hk, hI⟩
 conv => whnf
 refine boolK_intro (fun h2 => ?_) (fun h2 => ?_) <;> simp at h2 <;> conv => whnf
 ·refine ⟨by first | omega | (refine ⟨rfl, ?_, ?_⟩ <;> first | omega | (simp only [List.length_map]; done) | (simp only [List.length_map]; omega)) | (simp only [List.length_map]; omega), ?_⟩
  conv => whnf
  refine Fn.closed (ring1_fn g (l.getD k ⟨0, 0, []⟩) (hb _ (getD_mem h2))) rfl ?_
  rintro _ rfl
  conv => whnf
  refine boolK_intro (fun h3 => ?_) (fun h3 => ?_) <;> conv => whnf
  ·exact ⟨_, fun _ _ h => h, by rw [ixI_hit (d := ⟨0, 0, []⟩) h2 hI (by first | exact h3 | (rw [Int.toNat_natCast] at h3; exact h3) | simpa using h3)]⟩
  ·refine ⟨k + 1, ⟨by omega, any_take_succ (d := ⟨0, 0, []⟩) h2 hI (by first | exact h3 | (rw [Int.toNat_natCast] at h3; exact h3) | simpa using h3)⟩, by omega, [], trivial, ⟨rfl, rfl, rfl, wsucc (by omega), trivial⟩, trivial, rfl, rfl, rfl⟩
 ·exact ⟨_, fun _ _ h => h, by rw [List.take_of_length_le h2] at hI; rw [ixI_none hI]⟩
theorem rgi_cf (l : List Img) (g : Geo) (hb : ∀ x ∈ l, x.bytes.length ≤ 100000) (hl : l.length ≤ 1000000) : Fn Tryz.prog 126 [imgsA l, .fn 124 [.rp (geoC g)]] fun r => r = .v (.bool (l.any (fun x => !imgOk g x))) := by
 refine Fn.of tys_ok Tryz.func126 rfl rfl (Nat.le_of_ble_eq_true rfl) ?_
 conv => whnf
 refine Fn.closed (rgi_ix l g hb hl) rfl ?_
 rintro _ rfl
 conv => whnf
 exact ⟨_, fun _ _ h => h, by rw [ixI_ge]⟩

set_option maxRecDepth 100000 in
theorem ringcheck_fn (g : Geo) (a : An) (l : List Tx) (hl : a.label.size ≤ 1000000) (hh : a.homes.length ≤ 1000000) (hn : l.length ≤ 1000000) (hi : ∀ t ∈ l, t.images.length ≤ 1000000 ∧ ∀ x ∈ t.images, x.bytes.length ≤ 100000) : Fn Tryz.prog 58 [.ag (geoC g), .ag (anC a), txsA l] fun r => r = .v (errV ((okG g && anOk g a) && ringOk g l a.seq a.pos g.sl)) := by
 have hA := acheck_fn g a hl hh
 cases hga : okG g && anOk g a with
 | false =>
  rw [hga] at hA
  rw [Bool.false_and]
  refine Fn.of tys_ok Tryz.func58 rfl rfl (Nat.le_of_ble_eq_true rfl) ?_
  conv => whnf
  refine Fn.closed (hA) rfl ?_
  rintro _ rfl
  conv => whnf
  exact ⟨_, fun _ _ h => h, rfl⟩
 | true =>
  rw [hga] at hA
  rw [Bool.true_and]
  obtain ⟨hg, ha⟩ := Bool.and_eq_true_iff.1 hga
  obtain ⟨g1, g2, g3, g4, g5⟩ := okG_iff.1 hg
  have hp := anOk_parts ha
  refine Fn.of tys_ok Tryz.func58 rfl rfl (Nat.le_of_ble_eq_true rfl) ?_
  conv => whnf
  refine Fn.closed (hA) rfl ?_
  rintro _ rfl
  conv => whnf
  refine aDraw.seq tys_ok mixed (by kernel_rfl) ?_
  conv => whnf
  refine aLoop.ruleRR (Nat × Int × Int × Int) (fun x => ([(2, txsA l), (3, .rp (geoC g)), (8, .v (.int .i64 x.2.1)), (9, .v (.int .i64 x.2.2.1)), (10, .v (.int .i64 x.2.2.2)), (26, txsA l), (27, .v (.int .i64 l.length)), (28, .v (.int .i64 x.1))], []))
   (fun x => x.1 ≤ l.length ∧ (0 ≤ x.2.1 ∧ x.2.1 < g.sl) ∧ (0 ≤ x.2.2.1 ∧ x.2.2.1 ≤ 4294967296) ∧ (0 ≤ x.2.2.2 ∧ x.2.2.2 ≤ 30) ∧ ringOk g l a.seq a.pos g.sl = ringOk g (l.drop x.1) x.2.2.1 x.2.1 x.2.2.2) (fun x => l.length - x.1) (0, a.pos, a.seq, g.sl) ⟨Nat.zero_le _, by show 0 ≤ a.pos ∧ a.pos < g.sl; omega, by show 0 ≤ a.seq ∧ a.seq ≤ 4294967296; omega, by show 0 ≤ g.sl ∧ g.sl ≤ 30; omega, rfl⟩
   ?_ ?_
  ·exact WkN.rc (ConvF.cap 3 0 (y := .rp (geoC g)) rfl (by (conv => whnf); exact ⟨rfl, rfl⟩)) (s := []) ⟨⟨rfl, rfl, rfl, rfl, rfl, rfl, rfl, rfl, trivial⟩, trivial, rfl, rfl, rfl, rfl, rfl⟩
  rintro ⟨k, pos, seq, left⟩ ⟨hk, b1, b2, b3, hI⟩
  simp only at hk b1 b2 b3 hI ⊢
  conv => whnf
  refine boolI (fun h6 => ?_) (fun h6 => ?_) <;> (repeat rw [Int.toNat_natCast] at h6) <;> conv => whnf
  ·have hk' : k < l.length := by omega
   have hm := hi _ (getD_mem (d := (⟨0, 0, 0, []⟩ : Tx)) hk')
   have hdr : l.drop k = l.getD k ⟨0, 0, 0, []⟩ :: l.drop (k + 1) := by
    rw [List.getD_eq_getElem?_getD, List.getElem?_eq_getElem hk']; exact List.drop_eq_getElem_cons hk'
   rw [hdr, ringOk] at hI
   repeat' (first | (refine aSeq.go ?_; conv => whnf) | fail)
   refine And.intro ⟨by omega, by omega⟩ ?_
   conv => whnf
   rw [Int.toNat_natCast]
   generalize l.getD k ⟨0, 0, 0, []⟩ = t at hm hI ⊢
   have hcf := rgi_cf t.images g hm.2 hm.1
   rw [show (t.images.any fun x => !imgOk g x) = !t.images.all (imgOk g) by rw [List.all_eq_not_any_not, Bool.not_not]] at hcf
   have wn : IntKind.i64.wrap ((t.images.length : Int) + 1) = t.images.length + 1 := wi (by omega)
   generalize hAll : t.images.all (imgOk g) = Q at hcf hI
   generalize hC : (decide (t.seq = seq) && (decide (t.seq ≤ 4294967295) && (decide (t.pos = pos) && (decide (2 ≤ t.n) && (decide (t.n ≤ left) && (decide (t.n = t.images.length + 1) && Q)))))) = C at hI
   clear hAll hm hi hdr hA
   conv => whnf
   repeat' (first | (refine aSeq.go ?_; conv => whnf) | fail)
   repeat' (first | (refine boolK_intro (fun h => ?_) (fun h => ?_) <;> (try simp at h) <;> conv => whnf) | (refine aSeq.go ?_; conv => whnf) | (refine Fn.closed hcf rfl ?_; rintro _ rfl; conv => whnf))
   all_goals try (exact ⟨_, fun _ _ h => h, by rw [hI, show C = false by (rw [← hC, ← Bool.not_eq_true]; clear hI hC hcf; simp [*] <;> omega)]; rfl⟩)
   have hC1 : C = true := by rw [← hC]; clear hI hC hcf; simp [*] <;> omega
   rw [hC1, Bool.true_and] at hI
   have wn' : t.n = t.images.length + 1 := by omega
   have w1 : IntKind.i64.wrap (pos + t.n) = pos + t.n := wi (by omega)
   have w2 : IntKind.i64.wrap (seq + 1) = seq + 1 := wi (by omega)
   have w3 : IntKind.i64.wrap (left - t.n) = left - t.n := wi (by omega)
   apply aDraw.treeK (0) tys_ok mixed (.one 0 (.one 1 (.one 2 (.one 3 (.one 4 (.one 5 (.one 6 (.one 7 (.one 8 (.one 9 (.one 10 (.one 11 (.one 12 (.one 13 (.one 14 (.one 15 .fin)))))))))))))))) (by kernel_rfl)
   conv => whnf
   try (refine And.intro (by first | omega | (simp; done)) ?_; conv => whnf)
   rw [w1, w2, w3]
   have hq1 := Int.tmod_nonneg g.sl (show 0 ≤ pos + t.n by omega)
   have hq2 := Int.tmod_lt_of_pos (pos + t.n) (show 0 < g.sl by omega)
   exact ⟨(k + 1, (pos + t.n).tmod g.sl, seq + 1, left - t.n), ⟨hk', ⟨hq1, hq2⟩, (show 0 ≤ seq + 1 ∧ seq + 1 ≤ 4294967296 by omega), (show 0 ≤ left - t.n ∧ left - t.n ≤ 30 by omega), hI⟩, (show l.length - (k + 1) < l.length - k by omega), WkN.r (s := []) ⟨⟨rfl, rfl, rfl, rfl, rfl, rfl, rfl, wsucc (by omega), trivial⟩, trivial, rfl, rfl, rfl, rfl, rfl⟩⟩
  ·have ek : k = l.length := by omega
   subst ek
   exact ⟨_, fun _ _ h => h, by rw [hI, List.drop_length]; rfl⟩
def unitsN (g : Geo) : Int := 1 + g.sl + g.z * (2 + g.d)
theorem units_bd {g : Geo} (hg : okG g = true) : 18 ≤ unitsN g ∧ unitsN g ≤ 55 ∧ (3 ≤ g.z * (2 + g.d) ∧ g.z * (2 + g.d) ≤ 24) := by
 obtain ⟨g1, g2, g3, g4, g5⟩ := okG_iff.1 hg
 have h1 : g.z * (2 + g.d) ≤ 4 * 6 := Int.mul_le_mul (by omega) (by omega) (by omega) (by omega)
 have h2 : 1 * 3 ≤ g.z * (2 + g.d) := Int.mul_le_mul (by omega) (by omega) (by omega) (by omega)
 unfold unitsN
 omega
theorem units_fn (g : Geo) (hg : okG g = true) : Fn Tryz.prog 59 [.ag (geoC g)] fun r => r = .v (.int .i64 (unitsN g)) := by
 obtain ⟨g1, g2, g3, g4, g5⟩ := okG_iff.1 hg
 have hu := units_bd hg
 have w : IntKind.i64.wrap (IntKind.i64.wrap (1 + g.sl) + IntKind.i64.wrap (g.z * IntKind.i64.wrap (2 + g.d))) = unitsN g := by
  rw [wi (n := 2 + g.d) (by omega), wi (n := g.z * (2 + g.d)) (by omega), wi (n := 1 + g.sl) (by omega)]
  exact wi (by unfold unitsN at hu; omega)
 refine Fn.of tys_ok Tryz.func59 rfl rfl (Nat.le_of_ble_eq_true rfl) ?_
 conv => whnf
 exact ⟨_, fun _ _ h => h, by rw [w]⟩
def lostP (n : Int) (l : List Int) (i : Nat) : Bool := decide (0 ≤ l.getD i 0) && (decide (l.getD i 0 < n) && (decide (i = 0) || decide (l.getD (i - 1) 0 < l.getD i 0)))
def lostOk (n : Int) (l : List Int) : Bool := (List.range l.length).all (lostP n l)
theorem lost_succ {n : Int} {l : List Int} {k : Nat} (h : (List.range k).all (lostP n l) = true) (e : lostP n l k = true) : (List.range (k + 1)).all (lostP n l) = true := by
 rw [List.range_succ, List.all_append, h, Bool.true_and, List.all_cons, e]; rfl
theorem lost_no {n : Int} {l : List Int} {k : Nat} (hk : k < l.length) (e : lostP n l k = false) : lostOk n l = false := by
 rw [lostOk, ← Bool.not_eq_true, List.all_eq_true]
 intro h
 rw [h k (List.mem_range.2 hk)] at e
 cases e
def healthOk (g : Geo) (s : Stt) : Bool := lostOk (g.z * g.d) s.lost && (decide (0 ≤ s.found) && (decide (0 ≤ s.fixed) && decide (0 ≤ s.moved)))
def hlC (s : Stt) : List AV := [.v (.int .i64 s.found), .v (.int .i64 s.fixed), .v (.int .i64 s.moved), iA s.lost]
set_option maxRecDepth 100000 in
theorem bhealth_fn (g : Geo) (s : Stt) (hg : okG g = true) (hl : s.lost.length ≤ 1000000) : Fn Tryz.prog 60 [.ag (geoC g), .ag (hlC s)] fun r => r = .v (.bool (healthOk g s)) := by
 obtain ⟨g1, g2, g3, g4, g5⟩ := okG_iff.1 hg
 have hm1 : g.z * g.d ≤ 4 * 4 := Int.mul_le_mul (by omega) (by omega) (by omega) (by omega)
 have hm0 : 0 ≤ g.z * g.d := Int.mul_nonneg (by omega) (by omega)
 have wm : IntKind.i64.wrap (g.z * g.d) = g.z * g.d := wi (by omega)
 refine Fn.of tys_ok Tryz.func60 rfl rfl (Nat.le_of_ble_eq_true rfl) ?_
 conv => whnf
 refine aLoop.ruleRR Nat (fun k => ([(2, .bp 0 0), (3, .bp 1 0), (8, iA s.lost), (9, .v (.int .i64 s.lost.length)), (10, .v (.int .i64 k))], [.box 23 (geoC g), .box 42 (hlC s)])) (fun k => k ≤ s.lost.length ∧ (List.range k).all (lostP (g.z * g.d) s.lost) = true) (fun k => s.lost.length - k) 0 ⟨Nat.zero_le _, rfl⟩
  (WkN.r (s := [0, 1]) ⟨⟨rfl, rfl, rfl, rfl, rfl, trivial⟩, ⟨rfl, rfl, trivial⟩, rfl, rfl, rfl, rfl, rfl⟩) ?_
 rintro k ⟨hk, hI⟩
 conv => whnf
 refine boolI (fun h6 => ?_) (fun h6 => ?_) <;> (repeat rw [Int.toNat_natCast] at h6) <;> conv => whnf
 ·have hk' : k < s.lost.length := by omega
  have hno := lost_no (n := g.z * g.d) hk'
  have hyes := lost_succ hI (n := g.z * g.d) (l := s.lost)
  unfold lostP at hno hyes
  repeat' (first | (refine aSeq.go ?_; conv => whnf) | fail)
  refine And.intro ⟨by omega, by omega⟩ ?_
  conv => whnf
  repeat' (first | (refine aSeq.go ?_; conv => whnf) | fail)
  rw [Int.toNat_natCast]
  refine boolI (fun q1 => ?_) (fun q1 => ?_)
  ·conv => whnf
   exact ⟨_, fun _ _ h => h, by rw [healthOk, hno (by rw [← Bool.not_eq_true]; simp only [Bool.and_eq_true, Bool.or_eq_true, decide_eq_true_eq]; omega), Bool.false_and]⟩
  ·conv => whnf
   rw [wm]
   refine boolI (fun q2 => ?_) (fun q2 => ?_)
   ·conv => whnf
    exact ⟨_, fun _ _ h => h, by rw [healthOk, hno (by rw [← Bool.not_eq_true]; simp only [Bool.and_eq_true, Bool.or_eq_true, decide_eq_true_eq]; omega), Bool.false_and]⟩
   ·conv => whnf
    have wk : IntKind.i64.wrap ((k : Int) - 1) = (k : Int) - 1 := wi (by omega)
    refine boolI (fun q3 => ?_) (fun q3 => ?_)
    ·conv => whnf
     rw [wk]
     refine And.intro ⟨by omega, by omega⟩ ?_
     conv => whnf
     rw [show ((k : Int) - 1).toNat = k - 1 by omega]
     refine boolI (fun q4 => ?_) (fun q4 => ?_)
     ·conv => whnf
      exact ⟨_, fun _ _ h => h, by rw [healthOk, hno (by rw [← Bool.not_eq_true]; simp only [Bool.and_eq_true, Bool.or_eq_true, decide_eq_true_eq]; omega), Bool.false_and]⟩
     ·conv => whnf
      exact ⟨k + 1, ⟨hk', hyes (by simp only [Bool.and_eq_true, Bool.or_eq_true, decide_eq_true_eq]; omega)⟩, by omega, WkN.r (s := [0, 1]) ⟨⟨rfl, rfl, rfl, rfl, wsucc (by omega), trivial⟩, ⟨rfl, rfl, trivial⟩, rfl, rfl, rfl, rfl, rfl⟩⟩
    ·conv => whnf
     exact ⟨k + 1, ⟨hk', hyes (by simp only [Bool.and_eq_true, Bool.or_eq_true, decide_eq_true_eq]; omega)⟩, by omega, WkN.r (s := [0, 1]) ⟨⟨rfl, rfl, rfl, rfl, wsucc (by omega), trivial⟩, ⟨rfl, rfl, trivial⟩, rfl, rfl, rfl, rfl, rfl⟩⟩
 ·have ek : k = s.lost.length := by omega
  have hlo : lostOk (g.z * g.d) s.lost = true := by rw [lostOk, ← ek]; exact hI
  refine ⟨_, fun _ _ h => h, ?_⟩
  rw [healthOk, hlo, Bool.true_and]
  refine congrArg (fun b => AV.v (.bool b)) ?_
  rw [Bool.eq_iff_iff]
  simp only [Bool.and_eq_true, decide_eq_true_eq]
  repeat' split
  all_goals omega
def stOk (g : Geo) (d : Dk) (s : Stt) : Bool := okG g && ((okDk d && decide ((d.cells.length : Int) = cellsN g)) && (((okG g && anOk g s.a) && ringOk g s.txns s.a.seq s.a.pos g.sl) && (decide (0 ≤ s.cursor) && (decide (s.cursor < unitsN g) && healthOk g s))))
structure StBig (s : Stt) : Prop where
 l : s.a.label.size ≤ 1000000
 h : s.a.homes.length ≤ 1000000
 t : s.txns.length ≤ 1000000 ∧ ∀ t ∈ s.txns, t.images.length ≤ 1000000 ∧ ∀ x ∈ t.images, x.bytes.length ≤ 100000
 o : s.lost.length ≤ 1000000
set_option maxRecDepth 100000 in
theorem bcheck_fn (g : Geo) (d : Dk) (s : Stt) (h1 : d.cells.length ≤ 1000000) (h2 : d.cache.length ≤ 1000000) (hs : StBig s) : Fn Tryz.prog 19 [.ag (geoC g), .ag (dkC d), .ag (stC s)] fun r => r = .v (errV (stOk g d s)) := by
 have hG : Fn Tryz.prog 46 [.ag (geoC g)] fun r => r = .v (errV (okG g)) := gcheck_fn g.z g.d g.sp g.sl g.an
 unfold stOk
 cases hg : okG g with
 | false =>
  rw [hg] at hG
  refine Fn.of tys_ok Tryz.func19 rfl rfl (Nat.le_of_ble_eq_true rfl) ?_
  conv => whnf
  refine Fn.closed (hG) rfl ?_
  rintro _ rfl
  conv => whnf
  exact ⟨_, fun _ _ h => h, rfl⟩
 | true =>
  rw [hg] at hG
  have hz := sized_fn g d hg h1 h2
  have hr := ringcheck_fn g s.a s.txns hs.l hs.h hs.t.1 hs.t.2
  rw [hg] at hr
  have hu := units_fn g hg
  have hh := bhealth_fn g s hg hs.o
  generalize (okDk d && decide ((d.cells.length : Int) = cellsN g)) = Z at hz ⊢
  generalize ((true && anOk g s.a) && ringOk g s.txns s.a.seq s.a.pos g.sl) = R at hr ⊢
  generalize healthOk g s = Q at hh ⊢
  generalize unitsN g = U at hu ⊢
  cases Z with
  | false =>
   refine Fn.of tys_ok Tryz.func19 rfl rfl (Nat.le_of_ble_eq_true rfl) ?_
   conv => whnf
   refine Fn.closed (hG) rfl ?_
   rintro _ rfl
   conv => whnf
   refine Fn.closed (hz) rfl ?_
   rintro _ rfl
   conv => whnf
   exact ⟨_, fun _ _ h => h, rfl⟩
  | true =>
   cases R with
   | false =>
    refine Fn.of tys_ok Tryz.func19 rfl rfl (Nat.le_of_ble_eq_true rfl) ?_
    conv => whnf
    refine Fn.closed (hG) rfl ?_
    rintro _ rfl
    conv => whnf
    refine Fn.closed (hz) rfl ?_
    rintro _ rfl
    conv => whnf
    refine Fn.closed (hr) rfl ?_
    rintro _ rfl
    conv => whnf
    exact ⟨_, fun _ _ h => h, rfl⟩
   | true =>
    refine Fn.of tys_ok Tryz.func19 rfl rfl (Nat.le_of_ble_eq_true rfl) ?_
    conv => whnf
    refine Fn.closed (hG) rfl ?_
    rintro _ rfl
    conv => whnf
    refine Fn.closed (hz) rfl ?_
    rintro _ rfl
    conv => whnf
    refine Fn.closed (hr) rfl ?_
    rintro _ rfl
    conv => whnf
    refine aDraw.seq tys_ok mixed (by kernel_rfl) ?_
    conv => whnf
    refine boolI (fun q1 => ?_) (fun q1 => ?_)
    ·conv => whnf
     exact ⟨_, fun _ _ h => h, by rw [decide_eq_false (by omega)]; rfl⟩
    ·conv => whnf
     refine Fn.closed (hu) rfl ?_
     rintro _ rfl
     conv => whnf
     refine boolI (fun q2 => ?_) (fun q2 => ?_)
     ·conv => whnf
      exact ⟨_, fun _ _ h => h, by rw [decide_eq_true (p := 0 ≤ s.cursor) (by omega), decide_eq_false (p := s.cursor < U) (by omega)]; rfl⟩
     ·conv => whnf
      refine Fn.closed (hh) rfl ?_
      rintro _ rfl
      conv => whnf
      rw [decide_eq_true (p := 0 ≤ s.cursor) (by omega), decide_eq_true (p := s.cursor < U) (by omega)]
      cases Q with
      | false => exact ⟨_, fun _ _ h => h, rfl⟩
      | true => exact ⟨_, fun _ _ h => h, rfl⟩

section
variable {g : Geo} {a : An} {x y : List Gt} {pos seq left : Int}
end





set_option maxRecDepth 100000 in
theorem rformat_own (g : Geo) (s : ByteArray) (hg : okG g = true) (hs : labE s.data.toList = 0) : ACalls Tryz.prog false 26 [.ag (geoC g), .v (.string s)] [] fun r H => r = .ag [.ow 0 (cellsN g).toNat, nilV, ze 0, ze (-1)] ∧ H = [.row 87 3 ((fmtD g s).cells.map celC)] := by
 obtain ⟨g1, g2, g3, g4, g5⟩ := okG_iff.1 hg
 have hcg := cells_ge hg
 have hp := per_bd hg
 have hN : 1 ≤ (cellsN g).toNat ∧ (cellsN g).toNat ≤ 300 := by
  have : g.z * perG g ≤ 4 * 7 := Int.mul_le_mul (by omega) (by omega) (by omega) (by omega)
  unfold cellsN at hcg ⊢
  omega
 have hcN : cellsN g = ((cellsN g).toNat : Int) := by omega
 have hao := firstA_ok hg hs
 have hA := first_fn g s hg
 have hC := rcellsN_fn g hg
 rw [hcN] at hC
 have hD := rnew_own (cellsN g).toNat hN
 refine ACalls.ofR tys_ok Tryz.func26 rfl rfl (Nat.le_of_ble_eq_true rfl) ?_
 conv => whnf
 refine Fn.closed (hC) rfl ?_
 rintro _ rfl
 conv => whnf
 refine ACalls.beside hD rfl ?_
 rintro _ _ ⟨rfl, rfl⟩
 conv => whnf
 refine Fn.closed (hA) rfl ?_
 rintro _ rfl
 conv => whnf
 refine aLoop.ruleRR Nat (fun k => ([(2, .bp 0 0), (4, .bp 1 0), (5, .bp 2 0), (6, .bp 3 0), (7, ze k)], [.box 23 (geoC g), .box 32 [nilV, nilV, ze 0, ze 0], .box 32 [.ow 4 (cellsN g).toNat, nilV, ze 0, ze (-1)], .box 40 (anC (firstA g s)), .row 87 3 ((fmtL (fmt0 g) ((anCells g (firstA g s)).take k)).map celC)])) (fun k => k ≤ g.an.toNat) (fun k => g.an.toNat - k) 0 (Nat.zero_le _)
  ?_ ?_
 ·refine WkN.rc (ConvF.ofH (ConvH.subRow (k := 2) rfl (es' := (fmt0 g).map celC) (by simp [fmt0]) fun i => ?_)) (s := [0, 1, 3, 4, 2]) ⟨⟨rfl, rfl, rfl, rfl, rfl, trivial⟩, ⟨rfl, rfl, rfl, rfl, rfl, trivial⟩, rfl, rfl, rfl, rfl, rfl⟩
  rw [fmt0, List.map_replicate]
  by_cases hi : i < (cellsN g).toNat
  ·rw [getD_rep hi, getD_rep hi]; exact ⟨fun _ _ h => h, nil_sl 1 _, nil_sl 1 _, trivial⟩
  ·rw [List.getD_eq_getElem?_getD, List.getD_eq_getElem?_getD, List.getElem?_eq_none (by simpa using hi), List.getElem?_eq_none (by simpa using hi)]; exact SubL.refl _
 ·intro k hk
  conv => whnf
  refine boolI (fun h6 => ?_) (fun h6 => ?_) <;> (repeat rw [Int.toNat_natCast] at h6) <;> conv => whnf
  ·have hk' : k < (anCells g (firstA g s)).length := by rw [anCells_len]; omega
   have hsx := fmtL_succ (fmt0 g) hk'
   rw [anCells_get (by omega)] at hsx
   have hlx : (fmtL (fmt0 g) ((anCells g (firstA g s)).take k)).length = (cellsN g).toNat := by rw [fmtL_len, fmt0_len]
   generalize fmtL (fmt0 g) ((anCells g (firstA g s)).take k) = cs at hsx hlx ⊢
   have hnc := rancell_fn g (firstA g s) k hg hao (by omega)
   have hE : (cs.map celC).getD (k : Int).toNat [] = celC (cs.getD (k : Int).toNat cz) := row_cel hlx (by omega)
   repeat' (first | (refine aSeq.go ?_; conv => whnf) | fail)
   apply aDraw.treeK (0) tys_ok mixed (.one 0 (.one 1 (.one 2 (.one 3 (.one 4 (.one 5 (.one 6 (.one 7 (.one 8 .fin))))))))) (by kernel_rfl)
   conv => whnf
   refine Fn.closed (hnc) rfl ?_
   rintro _ rfl
   conv => whnf
   try (refine And.intro (by first | omega | (simp; done)) ?_; conv => whnf)
   try (refine And.intro ⟨rfl, by first | rfl | (simp; done) | (simp; omega), by first | omega | (simp; omega)⟩ ?_; conv => whnf)
   (first | rw [hE] | skip)
   conv => whnf
   all_goals exact ⟨k + 1, by omega, by omega, WkN.r (s := [0, 1, 2, 3, 4]) ⟨⟨rfl, rfl, rfl, rfl, wsucc (by omega), trivial⟩, ⟨rfl, rfl, rfl, rfl, congrArg (fun l => some (AB.row _ _ l)) (by rw [hsx, fmtS_map]; rfl), trivial⟩, rfl, rfl, rfl, rfl, rfl⟩⟩
  ·have ek : k = (anCells g (firstA g s)).length := by rw [anCells_len]; omega
   rw [ek, List.take_length]
   repeat' (first | (refine aSeq.go ?_; conv => whnf) | fail)
   refine aLoop.ruleRR Nat (fun c => ([(2, .bp 0 0), (4, .bp 1 0), (5, .bp 2 0), (6, .bp 3 0), (8, ze c)], [.box 23 (geoC g), .box 32 [nilV, nilV, ze 0, ze 0], .box 32 [.ow 4 (cellsN g).toNat, nilV, ze 0, ze (-1)], .box 40 (anC (firstA g s)), .row 87 3 ((fmt2 g s c).map celC)])) (fun c => c ≤ 2) (fun c => 2 - c) 0 (Nat.zero_le _)
    (WkN.r (s := [0, 1, 2, 3, 4]) ⟨⟨rfl, rfl, rfl, rfl, rfl, trivial⟩, ⟨rfl, rfl, rfl, rfl, rfl, trivial⟩, rfl, rfl, rfl, rfl, rfl⟩) ?_
   intro c hc
   conv => whnf
   refine boolI (fun h7 => ?_) (fun h7 => ?_) <;> (repeat rw [Int.toNat_natCast] at h7) <;> conv => whnf
   ·have hc01 : (c : Int) = 0 ∨ (c : Int) = 1 := by omega
    repeat' (first | (refine aSeq.go ?_; conv => whnf) | fail)
    refine aLoop.ruleRR Nat (fun i => ([(2, .bp 0 0), (4, .bp 1 0), (5, .bp 2 0), (6, .bp 3 0), (8, ze c), (9, ze i)], [.box 23 (geoC g), .box 32 [nilV, nilV, ze 0, ze 0], .box 32 [.ow 4 (cellsN g).toNat, nilV, ze 0, ze (-1)], .box 40 (anC (firstA g s)), .row 87 3 ((fmtL (fmt2 g s c) ((logW g c).take i)).map celC)])) (fun i => i ≤ g.sl.toNat) (fun i => g.sl.toNat - i) 0 (Nat.zero_le _)
     (WkN.r (s := [0, 1, 2, 3, 4]) ⟨⟨rfl, rfl, rfl, rfl, rfl, rfl, trivial⟩, ⟨rfl, rfl, rfl, rfl, rfl, trivial⟩, rfl, rfl, rfl, rfl, rfl⟩) ?_
    intro i hi
    conv => whnf
    refine boolI (fun h8 => ?_) (fun h8 => ?_) <;> (repeat rw [Int.toNat_natCast] at h8) <;> conv => whnf
    ·have hlw : (logW g c).length = g.sl.toNat := by simp [logW]
     have hi' : i < (logW g c).length := by omega
     have hsx := fmtL_succ (fmt2 g s c) hi'
     rw [show (logW g c).getD i ⟨0, []⟩ = ⟨logAt g c (i : Nat), cellB g zeroC c (i : Nat)⟩ from range_get (by omega)] at hsx
     have hlx : (fmtL (fmt2 g s c) ((logW g c).take i)).length = (cellsN g).toNat := by rw [fmtL_len, fmt2_len]
     generalize fmtL (fmt2 g s c) ((logW g c).take i) = cs at hsx hlx ⊢
     have hokl : okL g c i = true := by simp only [okL, Bool.and_eq_true, inB_iff]; omega
     have hla := rlogAt_fn g c i hg hokl
     have hin := logAt_in (n := (cellsN g).toNat) hg hcN.symm hc01 (s := i) (by omega)
     have hrc := rrecCell_br g zeroC c i (okR_zeroC hg) hokl
     have hE : (cs.map celC).getD (logAt g c i).toNat [] = celC (cs.getD (logAt g c i).toNat cz) := row_cel hlx (by omega)
     repeat' (first | (refine aSeq.go ?_; conv => whnf) | fail)
     apply aDraw.treeK (0) tys_ok mixed (.one 0 (.one 1 (.one 2 (.one 3 (.one 4 (.one 6 (.one 7 (.one 8 (.one 9 (.one 5 (.one 10 (.one 11 (.one 12 (.one 13 .fin)))))))))))))) (by kernel_rfl)
     conv => whnf
     refine Fn.closed (hla) rfl ?_
     rintro _ rfl
     conv => whnf
     (refine ACalls.sub [.ag (geoC g), .ag (rcC zeroC), ze c, ze i] (by repeat' (first | exact trivial | exact fun _ _ h => h | exact nil_sl _ _ | refine And.intro ?_ ?_ | refine ag_sub ?_)) ?_; refine Fn.closed hrc rfl ?_; rintro _ rfl)
     conv => whnf
     try (refine And.intro (by first | omega | (simp; done)) ?_; conv => whnf)
     try (refine And.intro ⟨rfl, by first | rfl | (simp; done) | (simp; omega), by first | omega | (simp; omega)⟩ ?_; conv => whnf)
     (first | rw [hE] | skip)
     conv => whnf
     all_goals exact ⟨i + 1, by omega, by omega, WkN.r (s := [0, 1, 2, 3, 4]) ⟨⟨rfl, rfl, rfl, rfl, rfl, wsucc (by omega), trivial⟩, ⟨rfl, rfl, rfl, rfl, congrArg (fun l => some (AB.row _ _ l)) (by rw [hsx, fmtS_map]; rfl), trivial⟩, rfl, rfl, rfl, rfl, rfl⟩⟩
    ·have ei : i = (logW g c).length := by simp [logW]; omega
     repeat' (first | (refine aSeq.go ?_; conv => whnf) | fail)
     exact ⟨c + 1, by omega, by omega, WkN.r (s := [0, 1, 2, 3, 4]) ⟨⟨rfl, rfl, rfl, rfl, wsucc (by omega), trivial⟩, ⟨rfl, rfl, rfl, rfl, by rw [ei, List.take_length]; rfl, trivial⟩, rfl, rfl, rfl, rfl, rfl⟩⟩
   ·have ec : c = 2 := by omega
    subst ec
    have hT := tab0_fn g hg
    have hz8 := sumC_le zero8
    have hB := tabB_fn (tab0 g) (by rw [tab0, List.length_replicate]; omega) (fun e he => by rw [List.eq_of_mem_replicate he]; simp only [ent0]; omega)
    repeat' (first | (refine aSeq.go ?_; conv => whnf) | fail)
    refine Fn.closed (hT) rfl ?_
    rintro _ rfl
    conv => whnf
    refine Fn.closed (hB) rfl ?_
    rintro _ rfl
    conv => whnf
    repeat' (first | (refine aSeq.go ?_; conv => whnf) | fail)
    refine aLoop.ruleRR Nat (fun z => ([(2, .bp 0 0), (4, .bp 1 0), (5, .bp 2 0), (10, bA (tblB (tab0 g))), (11, ze z)], [.box 23 (geoC g), .box 32 [nilV, nilV, ze 0, ze 0], .box 32 [.ow 4 (cellsN g).toNat, nilV, ze 0, ze (-1)], .box 40 (anC (firstA g s)), .row 87 3 ((fmt3 g s z).map celC)])) (fun z => z ≤ g.z.toNat) (fun z => g.z.toNat - z) 0 (Nat.zero_le _)
     (WkN.r (s := [0, 1, 2, 3, 4]) ⟨⟨rfl, rfl, rfl, rfl, rfl, trivial⟩, ⟨rfl, rfl, rfl, rfl, rfl, trivial⟩, rfl, rfl, rfl, rfl, rfl⟩) ?_
    intro z hz
    conv => whnf
    refine boolI (fun h9 => ?_) (fun h9 => ?_) <;> (repeat rw [Int.toNat_natCast] at h9) <;> conv => whnf
    ·have htb : ∀ k : Nat, k < 2 → 0 ≤ tabAt g z k ∧ tabAt g z k < ((cellsN g).toNat : Int) := fun k hk => by unfold tabAt; omega
     have hmul : (z : Int) * perG g ≤ (g.z - 1) * perG g := Int.mul_le_mul_of_nonneg_right (by omega) (by omega)
     have hz0 : 0 ≤ (z : Int) * perG g := Int.mul_nonneg (by omega) (by omega)
     have hsb : ∀ k : Nat, (k : Int) < perG g → 0 ≤ slotAt g z k ∧ slotAt g z k < ((cellsN g).toNat : Int) := fun k hk => by
      rw [← hcN]; unfold slotAt cellsN; rw [Int.sub_mul, Int.one_mul] at hmul; omega
     repeat' (first | (refine aSeq.go ?_; conv => whnf) | fail)
     refine aLoop.ruleRR Nat (fun k => ([(2, .bp 0 0), (4, .bp 1 0), (5, .bp 2 0), (10, bA (tblB (tab0 g))), (11, ze z), (12, ze k)], [.box 23 (geoC g), .box 32 [nilV, nilV, ze 0, ze 0], .box 32 [.ow 4 (cellsN g).toNat, nilV, ze 0, ze (-1)], .box 40 (anC (firstA g s)), .row 87 3 ((fmtL (fmt3 g s z) ((tabW g z).take k)).map celC)])) (fun k => k ≤ 2) (fun k => 2 - k) 0 (Nat.zero_le _)
      (WkN.r (s := [0, 1, 2, 3, 4]) ⟨⟨rfl, rfl, rfl, rfl, rfl, rfl, trivial⟩, ⟨rfl, rfl, rfl, rfl, rfl, trivial⟩, rfl, rfl, rfl, rfl, rfl⟩) ?_
     intro k hk
     conv => whnf
     refine boolI (fun h10 => ?_) (fun h10 => ?_) <;> (repeat rw [Int.toNat_natCast] at h10) <;> conv => whnf
     ·have hlw : (tabW g z).length = 2 := by simp [tabW]
      have hk' : k < (tabW g z).length := by omega
      have hsx := fmtL_succ (fmt3 g s z) hk'
      rw [show (tabW g z).getD k ⟨0, []⟩ = ⟨tabAt g z (k : Nat), sealB (tabAt g z (k : Nat)) 0 (tblB (tab0 g))⟩ from range_get (by omega)] at hsx
      have hlx : (fmtL (fmt3 g s z) ((tabW g z).take k)).length = (cellsN g).toNat := by rw [fmtL_len, fmt3_len]
      generalize fmtL (fmt3 g s z) ((tabW g z).take k) = cs at hsx hlx ⊢
      have hgt := rtable_fn g z k hg (by omega) (by omega)
      have hin := htb k (by omega)
      have hmk := rcellB_fn (tabAt g z k) 0 (tblB (tab0 g)) (tab0_fit hg (by omega))
      have hE : (cs.map celC).getD (tabAt g z k).toNat [] = celC (cs.getD (tabAt g z k).toNat cz) := row_cel hlx (by omega)
      repeat' (first | (refine aSeq.go ?_; conv => whnf) | fail)
      refine Fn.closed (hgt) rfl ?_
      rintro _ rfl
      conv => whnf
      apply aDraw.treeK (0) tys_ok mixed (.one 0 (.one 1 (.one 2 (.one 3 (.one 4 (.one 5 (.one 6 (.one 7 (.one 8 .fin))))))))) (by kernel_rfl)
      conv => whnf
      refine Fn.closed (hmk) rfl ?_
      rintro _ rfl
      conv => whnf
      try (refine And.intro (by first | omega | (simp; done)) ?_; conv => whnf)
      try (refine And.intro ⟨rfl, by first | rfl | (simp; done) | (simp; omega), by first | omega | (simp; omega)⟩ ?_; conv => whnf)
      (first | rw [hE] | skip)
      conv => whnf
      all_goals exact ⟨k + 1, by omega, by omega, WkN.r (s := [0, 1, 2, 3, 4]) ⟨⟨rfl, rfl, rfl, rfl, rfl, wsucc (by omega), trivial⟩, ⟨rfl, rfl, rfl, rfl, congrArg (fun l => some (AB.row _ _ l)) (by rw [hsx, fmtS_map]; rfl), trivial⟩, rfl, rfl, rfl, rfl, rfl⟩⟩
     ·have ek : k = (tabW g z).length := by simp [tabW]; omega
      rw [ek, List.take_length]
      have hpr := rper_fn g hg
      repeat' (first | (refine aSeq.go ?_; conv => whnf) | fail)
      refine aLoop.ruleRR Nat (fun i => ([(2, .bp 0 0), (4, .bp 1 0), (5, .bp 2 0), (10, bA (tblB (tab0 g))), (11, ze z), (14, ze i)], [.box 23 (geoC g), .box 32 [nilV, nilV, ze 0, ze 0], .box 32 [.ow 4 (cellsN g).toNat, nilV, ze 0, ze (-1)], .box 40 (anC (firstA g s)), .row 87 3 ((fmtL (fmtL (fmt3 g s z) (tabW g z)) ((slotW g z).take i)).map celC)])) (fun i => i ≤ (perG g).toNat) (fun i => (perG g).toNat - i) 0 (Nat.zero_le _)
       (WkN.r (s := [0, 1, 2, 3, 4]) ⟨⟨rfl, rfl, rfl, rfl, rfl, rfl, trivial⟩, ⟨rfl, rfl, rfl, rfl, rfl, trivial⟩, rfl, rfl, rfl, rfl, rfl⟩) ?_
      intro i hi
      conv => whnf
      refine Fn.closed (hpr) rfl ?_
      rintro _ rfl
      conv => whnf
      refine boolI (fun h11 => ?_) (fun h11 => ?_) <;> (repeat rw [Int.toNat_natCast] at h11) <;> conv => whnf
      ·have hlw : (slotW g z).length = (perG g).toNat := by simp [slotW]
       have hi' : i < (slotW g z).length := by omega
       have hsx := fmtL_succ (fmtL (fmt3 g s z) (tabW g z)) hi'
       rw [show (slotW g z).getD i ⟨0, []⟩ = ⟨slotAt g z (i : Nat), sealB (slotAt g z (i : Nat)) 0 zero8⟩ from range_get (by omega)] at hsx
       have hlx : (fmtL (fmtL (fmt3 g s z) (tabW g z)) ((slotW g z).take i)).length = (cellsN g).toNat := by rw [fmtL_len, fmtL_len, fmt3_len]
       generalize fmtL (fmtL (fmt3 g s z) (tabW g z)) ((slotW g z).take i) = cs at hsx hlx ⊢
       have hgt := rslot_fn g z i hg (by omega) (by omega)
       have hin := hsb i (by omega)
       have hmk := rcellB_fn (slotAt g z i) 0 zero8 ⟨hin.1, by omega, Int.le_refl _, by decide, by decide⟩
       have hE : (cs.map celC).getD (slotAt g z i).toNat [] = celC (cs.getD (slotAt g z i).toNat cz) := row_cel hlx (by omega)
       repeat' (first | (refine aSeq.go ?_; conv => whnf) | fail)
       refine Fn.closed (hgt) rfl ?_
       rintro _ rfl
       conv => whnf
       apply aDraw.treeK (0) tys_ok mixed (.one 0 (.one 1 (.one 2 (.one 3 (.one 4 (.one 5 (.one 6 (.one 7 (.one 8 .fin))))))))) (by kernel_rfl)
       conv => whnf
       (try (refine And.intro ⟨rfl, by decide, by decide⟩ ?_; conv => whnf); refine ACalls.shut hmk.go ?_; (conv => whnf); refine And.intro rfl ?_; (conv => whnf); refine ACalls.sub [ze (slotAt g z i), ze 0, bA zero8] ⟨fun _ _ h => h, fun _ _ h => h, fun c v h => Rd.congr rfl (fun i hi => by have hi' : i < 8 := hi; rw [getD_rep (by exact hi'), zero8_get hi']; rfl) h, trivial⟩ ?_; refine Fn.closed hmk rfl ?_; rintro _ rfl)
       conv => whnf
       try (refine And.intro (by first | omega | (simp; done)) ?_; conv => whnf)
       try (refine And.intro ⟨rfl, by first | rfl | (simp; done) | (simp; omega), by first | omega | (simp; omega)⟩ ?_; conv => whnf)
       (first | rw [hE] | skip)
       conv => whnf
       all_goals exact ⟨i + 1, by omega, by omega, WkN.r (s := [0, 1, 2, 3, 4]) ⟨⟨rfl, rfl, rfl, rfl, rfl, wsucc (by omega), trivial⟩, ⟨rfl, rfl, rfl, rfl, congrArg (fun l => some (AB.row _ _ l)) (by rw [hsx, fmtS_map]; rfl), trivial⟩, rfl, rfl, rfl, rfl, rfl⟩⟩
      ·have ei : i = (slotW g z).length := by simp [slotW]; omega
       repeat' (first | (refine aSeq.go ?_; conv => whnf) | fail)
       exact ⟨z + 1, by omega, by omega, WkN.r (s := [0, 1, 2, 3, 4]) ⟨⟨rfl, rfl, rfl, rfl, wsucc (by omega), trivial⟩, ⟨rfl, rfl, rfl, rfl, by rw [ei, List.take_length]; rfl, trivial⟩, rfl, rfl, rfl, rfl, rfl⟩⟩
    ·have ez : z = g.z.toNat := by omega
     subst ez
     exact ⟨_, .ag [.ow 0 (cellsN g).toNat, nilV, ze 0, ze (-1)], [.row 87 3 ((fmt3 g s g.z.toNat).map celC)], fun _ _ h => h, WkN.r (s := [4]) ⟨⟨rfl, trivial⟩, ⟨rfl, trivial⟩, rfl, rfl, rfl, rfl, rfl⟩, rfl, rfl⟩
theorem lgR_succ {g : Geo} {t : Tx} {k c : Nat} (cs : List Cel) (h : c < 2) : fmtL cs ((lgR g t k).take (c + 1)) = fmtS (fmtL cs ((lgR g t k).take c)) ⟨logAt g c (slotM g t.pos k), cellB g ((recsOf t.seq 0 t.images).getD k rc0) c (slotM g t.pos k)⟩ := by
 rw [fmtL_succ cs (by simp [lgR]; omega)]
 congr 1
 rw [lgR, range_get h]
@[reducible] def lgH (g : Geo) (a : An) (cs : List Cel) : List AB := [.box 23 (geoC g), .box 32 [nilV, nilV, ze 0, ze 0], .box 32 [.ow 4 (cellsN g).toNat, nilV, ze 0, ze (-1)], .box 40 (anC a), .row 87 3 (cs.map celC)]
set_option maxRecDepth 100000 in
theorem logged_own (g : Geo) (s : ByteArray) (sizes : List Int) (fill : UInt8) (hg : okG g = true) (hs : labE s.data.toList = 0) (hl : sizes.length ≤ 40) : ACalls Tryz.prog false 11 [.ag (geoC g), .v (.string s), iA sizes, .v (.int .u8 fill.toNat)] [] fun r H => r = .tp [.ag [.ow 0 (cellsN g).toNat, nilV, ze 0, ze (-1)], txsA (logM g (firstA g s) fill sizes 0 (firstA g s).pos 0)] ∧ H = [.row 87 3 ((logD g s (logM g (firstA g s) fill sizes 0 (firstA g s).pos 0)).cells.map celC)] := by
 obtain ⟨g1, g2, g3, g4, g5⟩ := okG_iff.1 hg
 have hao := firstA_ok hg hs
 have hA := first_fn g s hg
 have hF := rformat_own g s hg hs
 have hL := log_fn16 g (firstA g s) sizes fill hg hao (by show (1 : Int) ≤ 1000000; decide) hl
 have hok := logM_ok (g := g) (a := firstA g s) (fill := fill) (sizes := sizes) (epoch := 0) hg hao (by show (1 : Int) ≤ 1000000; decide) (by decide)
 have hat := fun j k hj hk => recW_at (g := g) (a := firstA g s) (fill := fill) (sizes := sizes) (ep := 0) hg hao (j := j) (k := k) hj hk
 have hfl : (fmtD g s).cells.length = (cellsN g).toNat := fmt3_len g s _
 refine ACalls.ofR tys_ok Tryz.func11 rfl rfl (Nat.le_of_ble_eq_true rfl) ?_
 conv => whnf
 refine ACalls.beside hF rfl ?_
 rintro _ _ ⟨rfl, rfl⟩
 conv => whnf
 refine Fn.closed (hA) rfl ?_
 rintro _ rfl
 conv => whnf
 refine Fn.closed (hL) rfl ?_
 rintro _ rfl
 conv => whnf
 generalize logM g (firstA g s) fill sizes 0 (firstA g s).pos 0 = L at hok hat ⊢
 have hLl := hok.len
 refine aLoop.ruleRR Nat (fun i => ([(4, .bp 0 0), (8, .bp 1 0), (10, .bp 2 0), (12, txsA L), (13, ze i)], lgH g (firstA g s) (fmtL (fmtD g s).cells (lgL g L i)))) (fun i => i ≤ L.length) (fun i => L.length - i) 0 (Nat.zero_le _)
  (WkN.r (s := [0, 1, 3, 4, 2]) ⟨⟨rfl, rfl, rfl, rfl, rfl, trivial⟩, ⟨rfl, rfl, rfl, rfl, rfl, trivial⟩, rfl, rfl, rfl, rfl, rfl⟩) ?_
 intro i hi
 conv => whnf
 refine boolI (fun h6 => ?_) (fun h6 => ?_) <;> (repeat rw [Int.toNat_natCast] at h6) <;> conv => whnf
 ·have hT : L.getD i tz ∈ L := getD_mem (d := tz) h6
  have him := hok.img _ hT
  obtain ⟨T, eT⟩ : ∃ T, T = L.getD i tz := ⟨_, rfl⟩
  rw [← eT] at him
  have eT' : L.getD ((i : Nat) : Int).toNat ⟨0, 0, 0, []⟩ = T := by rw [Int.toNat_natCast, eT]; rfl
  have hR := records_fn T.seq 0 T.images (by omega) (fun x hx => by have := him.2 x hx; omega)
  have hat' : ∀ k, k < T.images.length + 1 → _ := fun k hk => hat i k h6 (by rw [← eT]; exact hk)
  rw [← eT] at hat'
  apply aDraw.treeK (0) tys_ok mixed (.one 0 (.one 1 (.one 2 (.one 3 (.one 4 (.one 5 (.one 6 (.one 7 (.one 8 (.one 9 (.one 10 (.one 11 .fin)))))))))))) (by kernel_rfl)
  conv => whnf
  try (refine And.intro (by first | omega | (simp; done)) ?_; conv => whnf)
  try (refine And.intro (by first | omega | (simp; done)) ?_; conv => whnf)
  (rw [eT']; (refine Fn.closed hR rfl ?_); rintro _ rfl)
  conv => whnf
  have hRl : (recsOf T.seq 0 T.images).length = T.images.length + 1 := recsOf_length _ _ _
  refine aLoop.ruleRR Nat (fun k => ([(4, .bp 0 0), (8, .bp 1 0), (10, .bp 2 0), (12, txsA L), (13, ze i), (14, recsA (recsOf T.seq 0 T.images)), (15, ze k)], lgH g (firstA g s) (fmtL (fmtL (fmtD g s).cells (lgL g L i)) (lgT g T k)))) (fun k => k ≤ T.images.length + 1) (fun k => T.images.length + 1 - k) 0 (Nat.zero_le _)
   (WkN.r (s := [0, 1, 2, 3, 4]) ⟨⟨rfl, rfl, rfl, rfl, rfl, rfl, rfl, trivial⟩, ⟨rfl, rfl, rfl, rfl, rfl, trivial⟩, rfl, rfl, rfl, rfl, rfl⟩) ?_
  intro k hk
  conv => whnf
  rw [hRl]
  refine boolI (fun h7 => ?_) (fun h7 => ?_) <;> (repeat rw [Int.toNat_natCast] at h7) <;> conv => whnf
  ·have hk' : k < T.images.length + 1 := by omega
   obtain ⟨r1, r2⟩ := hat' k hk'
   have hokR := hok.ok _ r1
   rw [r2] at hokR
   apply aDraw.treeK (0) tys_ok mixed (.one 0 (.one 1 (.one 2 (.one 3 (.one 4 (.one 5 (.one 6 (.one 7 (.one 8 (.one 9 (.one 10 .fin))))))))))) (by kernel_rfl)
   conv => whnf
   try (refine And.intro (by first | omega | (simp; done)) ?_; conv => whnf)
   try (refine And.intro (by first | omega | (simp; done)) ?_; conv => whnf)
   rw [eT']
   obtain ⟨S, hS⟩ : ∃ S, S = slotM g T.pos k := ⟨_, rfl⟩
   rw [show (IntKind.i64.wrap (T.pos + (k : Int))).tmod g.sl = S from hS.symm]
   rw [← hS] at r1
   obtain ⟨X, hX⟩ : ∃ X, X = fmtL (fmtL (fmtD g s).cells (lgL g L i)) (lgT g T k) := ⟨_, rfl⟩
   have hXl : X.length = (cellsN g).toNat := by rw [hX, fmtL_len, fmtL_len, hfl]
   rw [← hX]
   obtain ⟨r, hr⟩ : ∃ r, r = (recsOf T.seq 0 T.images).getD k rc0 := ⟨_, rfl⟩
   rw [← hr] at hokR
   have er : (recsOf T.seq 0 T.images).getD ((k : Nat) : Int).toNat ⟨0, 0, 0, 0, 0, ⟨0, 0, []⟩⟩ = r := by rw [Int.toNat_natCast, hr]; rfl
   refine aLoop.ruleRR Nat (fun c => ([(4, .bp 0 0), (8, .bp 1 0), (10, .bp 2 0), (12, txsA L), (13, ze i), (14, recsA (recsOf T.seq 0 T.images)), (15, ze k), (16, ze S), (17, ze c)], lgH g (firstA g s) (fmtL X ((lgR g T k).take c)))) (fun c => c ≤ 2) (fun c => 2 - c) 0 (Nat.zero_le _)
    (WkN.r (s := [0, 1, 2, 3, 4]) ⟨⟨rfl, rfl, rfl, rfl, rfl, rfl, rfl, rfl, rfl, trivial⟩, ⟨rfl, rfl, rfl, rfl, rfl, trivial⟩, rfl, rfl, rfl, rfl, rfl⟩) ?_
   intro c hc
   conv => whnf
   refine boolI (fun h8 => ?_) (fun h8 => ?_) <;> (repeat rw [Int.toNat_natCast] at h8) <;> conv => whnf
   ·have hsx := lgR_succ (g := g) (t := T) (k := k) X (show c < 2 by omega)
    rw [← hS, ← hr] at hsx
    have hlx : (fmtL X ((lgR g T k).take c)).length = (cellsN g).toNat := by rw [fmtL_len, hXl]
    generalize fmtL X ((lgR g T k).take c) = cs at hsx hlx ⊢
    have hc01 : (c : Int) = 0 ∨ (c : Int) = 1 := by omega
    have hoL : okL g (c : Nat) S = true := okL_of hc01 r1
    have hbd := logAt_bd (g := g) hc01 r1
    have hcg := cells_ge hg
    have hla := rlogAt_fn g c S hg hoL
    have hrc := rrecCell_br g r c S hokR hoL
    have hE : (cs.map celC).getD (logAt g c S).toNat [] = celC (cs.getD (logAt g c S).toNat cz) := row_cel hlx (by omega)
    apply aDraw.treeK (0) tys_ok mixed (.one 0 (.one 1 (.one 2 (.one 3 (.one 4 (.one 6 (.one 7 (.one 8 (.one 9 (.one 10 (.one 11 (.one 12 (.one 5 (.one 13 (.one 14 (.one 15 (.one 16 .fin))))))))))))))))) (by kernel_rfl)
    conv => whnf
    try (refine And.intro (by first | omega | (simp; done)) ?_; conv => whnf)
    refine Fn.closed (hla) rfl ?_
    rintro _ rfl
    conv => whnf
    ((try rw [er]); (refine Fn.closed hrc rfl ?_); rintro _ rfl)
    conv => whnf
    try (refine And.intro (by first | omega | (simp; done)) ?_; conv => whnf)
    try (refine And.intro ⟨rfl, by first | rfl | (simp; done) | (simp; omega), by first | omega | (simp; omega)⟩ ?_; conv => whnf)
    (first | rw [hE] | skip)
    conv => whnf
    all_goals
     refine ⟨c + 1, by omega, by omega, ?_⟩
     rw [hsx]
     exact WkN.r (s := [0, 1, 2, 3, 4]) ⟨⟨rfl, rfl, rfl, rfl, rfl, rfl, rfl, rfl, wsucc (by omega), trivial⟩, ⟨rfl, rfl, rfl, rfl, congrArg (fun l => some (AB.row _ _ l)) (by rw [fmtS_map]; rfl), trivial⟩, rfl, rfl, rfl, rfl, rfl⟩
   ·have ec : c = (lgR g T k).length := by simp [lgR]; omega
    rw [ec, List.take_length]
    repeat' (first | (refine aSeq.go ?_; conv => whnf) | fail)
    refine ⟨k + 1, by omega, by omega, ?_⟩
    rw [lgT, fmtL_app, ← hX]
    exact WkN.r (s := [0, 1, 2, 3, 4]) ⟨⟨rfl, rfl, rfl, rfl, rfl, rfl, wsucc (by omega), trivial⟩, ⟨rfl, rfl, rfl, rfl, rfl, trivial⟩, rfl, rfl, rfl, rfl, rfl⟩
  ·have ek : k = T.images.length + 1 := by omega
   repeat' (first | (refine aSeq.go ?_; conv => whnf) | fail)
   refine ⟨i + 1, by omega, by omega, ?_⟩
   rw [lgL, ← eT, fmtL_app, ← ek]
   exact WkN.r (s := [0, 1, 2, 3, 4]) ⟨⟨rfl, rfl, rfl, rfl, wsucc (by omega), trivial⟩, ⟨rfl, rfl, rfl, rfl, rfl, trivial⟩, rfl, rfl, rfl, rfl, rfl⟩
 ·have ei : i = L.length := by omega
  subst ei
  exact ⟨_, .tp [.ag [.ow 0 (cellsN g).toNat, nilV, ze 0, ze (-1)], txsA L], [.row 87 3 ((logD g s L).cells.map celC)], fun _ _ h => h, WkN.r (s := [4]) ⟨⟨rfl, trivial⟩, ⟨rfl, trivial⟩, rfl, rfl, rfl, rfl, rfl⟩, rfl, rfl⟩

theorem log_ringOk {g : Geo} {a : An} {fill : UInt8} (hg : okG g = true) (hsq : a.seq ≤ 1000000) : ∀ (sizes : List Int) (i : Nat) (pos used : Int), 0 ≤ used ∧ used ≤ g.sl → i + sizes.length ≤ 1000 → ringOk g (logM g a fill sizes i pos used) (a.seq + i) pos (g.sl - used) = true
 | [], _, _, _, _, _ => rfl
 | s :: r, i, pos, used, hu, hi => by
  have hn := nImg_in s
  simp only [List.length_cons] at hi
  unfold logM
  by_cases hc : g.sl < used + (nImg s : Nat) + 1
  ·rw [if_pos hc]; rfl
  ·rw [if_neg hc]
   have ih := log_ringOk (fill := fill) hg hsq r (i + 1) ((pos + (nImg s : Nat) + 1).tmod g.sl) (used + (nImg s : Nat) + 1) (by omega) (by omega)
   have e1 : (logTx g a fill i pos (nImg s)).seq = a.seq + i := rfl
   have e2 : (logTx g a fill i pos (nImg s)).pos = pos := rfl
   have e3 : (logTx g a fill i pos (nImg s)).n = (nImg s : Nat) + 1 := rfl
   have e4 : (logTx g a fill i pos (nImg s)).images = (List.range (nImg s)).map fun k => logImg g fill i k := rfl
   unfold ringOk
   rw [e1, e2, e3, e4, decide_eq_true rfl, decide_eq_true (by omega), decide_eq_true rfl, decide_eq_true (by omega), decide_eq_true (by omega), decide_eq_true (by simp)]
   rw [show a.seq + (i : Int) + 1 = a.seq + ((i + 1 : Nat) : Int) by omega, show pos + (((nImg s : Nat) : Int) + 1) = pos + (nImg s : Nat) + 1 by omega, show g.sl - used - (((nImg s : Nat) : Int) + 1) = g.sl - (used + (nImg s : Nat) + 1) by omega, ih]
   simp only [Bool.true_and, Bool.and_true, List.all_map, List.all_eq_true]
   intro k _
   exact logImg_ok hg fill i k
section
variable {g : Geo} {s : ByteArray} {b : An} {fill : UInt8} {sizes : List Int} {D : Dk}
theorem fin_stOk (hg : okG g = true) (hl : sizes.length ≤ 40) (hD : DkOk D) (hn : (D.cells.length : Int) = cellsN g) (hb : anOk g b = true) (hbs : b.seq = 1) (hbp : b.pos = 0) : stOk g D (stOf b (logM g (firstA g s) fill sizes 0 (firstA g s).pos 0)) = true := by
 obtain ⟨g1, g2, g3, g4, g5⟩ := okG_iff.1 hg
 have hu := units_bd hg
 have hr := log_ringOk (a := firstA g s) (fill := fill) hg (by show (1 : Int) ≤ 1000000; decide) sizes 0 (firstA g s).pos 0 ⟨Int.le_refl _, by omega⟩ (by omega)
 have e1 : (firstA g s).seq + ((0 : Nat) : Int) = b.seq := by rw [hbs]; rfl
 have e2 : (firstA g s).pos = b.pos := by rw [hbp]; rfl
 unfold stOk
 rw [hg, okDk_iff.2 hD, decide_eq_true hn]
 show (true && ((true && true) && (((true && anOk g b) && ringOk g (logM g (firstA g s) fill sizes 0 (firstA g s).pos 0) b.seq b.pos g.sl) && (decide ((0 : Int) ≤ 0) && (decide ((0 : Int) < unitsN g) && healthOk g (stOf b _)))))) = true
 rw [e1, e2, Int.sub_zero] at hr
 rw [e2, hb, hr, decide_eq_true (show (0 : Int) < unitsN g by omega)]
 rfl
end
theorem StSm.big {S : Stt} (h : StSm S) : StBig S :=
 ⟨by have := h.l; omega, by have := h.h.1; omega, ⟨by have := h.t.1; omega, fun t ht => ⟨by have := (h.t.2 t ht).1; omega, fun x hx => by have := (h.t.2 t ht).2 x hx; omega⟩⟩, by have := h.o; omega⟩
def lx : ByteArray := ⟨#[120]⟩
theorem lab_x : labE lx.data.toList = 0 := by decide +kernel
theorem logD_nil (g : Geo) (s : ByteArray) : logD g s [] = fmtD g s := by
 unfold logD
 rw [show lgL g [] ([] : List Tx).length = [] from rfl, show fmtL (fmtD g s).cells [] = (fmtD g s).cells from rfl]
theorem logM_nil (g : Geo) (a : An) (fill : UInt8) (p : Int) : logM g a fill [] 0 p 0 = [] := rfl
set_option maxRecDepth 100000 in
theorem wakes22_fn : Fn Tryz.prog 17 [] fun r => r = .v (.bool true) := by
 have h1 := some_fn 0 0 0 0 1
 have hg := someG_ok 0 0 0 0 1
 have hc : cellsN (someG 0 0 0 0 1) = 34 := by decide
 have ht : mtick (someG 0 0 0 0 1) [] = 33 := by decide
 generalize someG 0 0 0 0 1 = g at h1 hg hc ht
 have hs : labE lx.data.toList = 0 := lab_x
 have h2 := format_ok g lx hg hs (by show (1 : Nat) ≤ _; decide)
 have hf := vol_first (s := lx) (fill := 0) (sizes := []) hg hs
 have hdk := logd_ok (s := lx) (fill := 0) (sizes := []) hg hs
 rw [logM_nil, logD_nil] at hf hdk
 have hvm := vol_mount (s := lx) (fill := 0) (sizes := []) (b := firstA g lx) (d := fmtD g lx) hg hs (by simp) hdk (firstA_ok hg hs) (by rw [logM_nil]; exact hf) (by show (-1 : Int) < 0; decide) rfl rfl (Int.le_refl _) (by show (0 : Int) ≤ ((logM g (firstA g lx) 0 [] 0 (firstA g lx).pos 0).length : Nat); omega) (.inl rfl) (by show (1 : Int) ≠ _; decide) (by show (0 : Int) ≠ _; decide)
 rw [logM_nil, List.length_nil] at hvm
 obtain ⟨D, m1, m2, m3, m4⟩ := hvm
 have hD := mountM_ok hg hdk hf.len
 have hsm := mountM_sm (g := g) (d := fmtD g lx) hg
 have h3 := mountX_ok g _ hg hdk hf.len
 rw [m1] at hD hsm h3
 simp only at hD hsm h3
 have hna := nextA_ok (n := 0) (firstA_ok (g := g) (s := lx) hg hs) (by show (1 : Int) ≠ _; decide) (by show (0 : Int) ≠ _; decide) (by show (1 : Int) + 0 - 1 ≤ _; decide)
 have hok := fin_stOk (s := lx) (fill := 0) (sizes := []) hg (by simp) hD.1 (by rw [hD.2]; exact hf.len) hna rfl rfl
 rw [logM_nil] at hok
 have hN := hD.1.n
 have hM := hD.1.m
 have h4 := bcheck_fn g D _ (by omega) (by omega) hsm.big
 have e4 : stOk g D (stOf (nextA (firstA g lx) 0) []) = true := hok
 rw [e4] at h4
 have hr : D.reqs = 33 := by
  rw [m4, ht]
  show min ((0 : Int) + (33 : Nat)) 1048576 = 33
  decide
 have hcl : (fmtD g lx).cells.length = 34 := by have := hf.len; omega
 obtain ⟨S, hS⟩ : ∃ S, S = stOf (nextA (firstA g lx) 0) [] := ⟨_, rfl⟩
 have q1 : S.a.gen = 2 := by rw [hS]; rfl
 have q2 : S.a.epoch = 1 := by rw [hS]; rfl
 have q3 : S.a.last = 0 := by rw [hS]; rfl
 have q4 : S.txns.length = 0 := by rw [hS]; rfl
 rw [← hS] at h3 h4
 generalize fmtD g lx = d at h2 h3 hcl
 refine Fn.of tys_ok Tryz.func17 rfl rfl (Nat.le_of_ble_eq_true rfl) ?_
 conv => whnf
 refine Fn.closed (h1) rfl ?_
 rintro _ rfl
 conv => whnf
 refine Fn.closed (h2) rfl ?_
 rintro _ rfl
 conv => whnf
 refine Fn.closed (h3) rfl ?_
 rintro _ rfl
 conv => whnf
 rw [show ((d.cells.length : Int) == 34) = true by rw [hcl]; rfl]
 conv => whnf
 rw [show (S.a.gen == 2) = true by rw [q1]; rfl]
 conv => whnf
 rw [show (S.a.epoch == 1) = true by rw [q2]; rfl]
 conv => whnf
 rw [show (S.a.last == 0) = true by rw [q3]; rfl]
 conv => whnf
 rw [show ((S.txns.length : Int) == 0) = true by rw [q4]; rfl]
 conv => whnf
 rw [show (D.reqs == 33) = true by rw [hr]; rfl]
 conv => whnf
 refine Fn.closed (h4) rfl ?_
 rintro _ rfl
 conv => whnf
 exact ⟨_, fun _ _ h => h, rfl⟩
theorem dk_own_sub {n : Nat} {d : Dk} {es : List (List AV)} (hn : d.cells.length = n) (he : es = d.cells.map celC) (hc : d.cache = []) (hr : d.reqs = 0) (hl : d.left = -1) : SubL [.sl 3 n fun i => es.getD i [], nilV, ze 0, ze (-1)] (dkC d) := by
 subst he hn
 unfold dkC
 rw [hc, hr, hl]
 exact ⟨row_sub (f := celC) d.cells rfl rfl, nil_sl 2 _, fun _ _ h => h, fun _ _ h => h, trivial⟩
set_option maxRecDepth 100000 in
theorem finds22_fn (g : Geo) (s : ByteArray) (sizes : List Int) (fill : UInt8) (hsz : s.size ≤ 9223372036854775807) : Fn Tryz.prog 4 [.ag (geoC g), .v (.string s), iA sizes, .v (.int .u8 fill.toNat)] fun r => r = .v (.bool true) := by
 have h1 := rgeom_br g
 have h2 := rlabel_fn s hsz
 cases hg : okG g with
 | false =>
  rw [hg] at h1
  refine Fn.of tys_ok Tryz.func4 rfl rfl (Nat.le_of_ble_eq_true rfl) ?_
  conv => whnf
  refine Fn.closed (h1) rfl ?_
  rintro _ rfl
  conv => whnf
  exact ⟨_, fun _ _ h => h, rfl⟩
 | true =>
  rw [hg] at h1
  by_cases hs : labE s.data.toList = 0
  ·rw [hs] at h2
   by_cases hl : sizes.length ≤ 40
   ·have hw := wakes22_fn
    have hlg := logged_own g s sizes fill hg hs hl
    have hao := firstA_ok hg hs
    have hf := vol_first (s := s) (fill := fill) (sizes := sizes) hg hs
    have hdk := logd_ok (s := s) (fill := fill) (sizes := sizes) hg hs
    have hok := logM_ok (g := g) (a := firstA g s) (fill := fill) (sizes := sizes) (epoch := 0) hg hao (by show (1 : Int) ≤ 1000000; decide) (by decide)
    have hll := hok.len
    obtain ⟨D, m1, m2, m3, m4⟩ := vol_mount (s := s) (fill := fill) (sizes := sizes) (b := firstA g s) hg hs hl hdk hao hf (by show (-1 : Int) < 0; decide) rfl rfl (Int.le_refl _) (by show (0 : Int) ≤ _; omega) (.inl rfl) (by show (1 : Int) ≠ _; decide) (by show (0 : Int) ≠ _; decide)
    have hD := mountM_ok hg hdk hf.len
    have hsm := mountM_sm (g := g) (d := logD g s (logM g (firstA g s) fill sizes 0 (firstA g s).pos 0)) hg
    have h3 := mountX_ok g _ hg hdk hf.len
    rw [m1] at hD hsm h3
    simp only at hD hsm h3
    have hn1 := nextA_ok (n := (logM g (firstA g s) fill sizes 0 (firstA g s).pos 0).length) hao (by show (1 : Int) ≠ _; decide) (by show (0 : Int) ≠ _; decide) (by show (1 : Int) + _ - 1 ≤ _; omega)
    have hlD : D.left < 0 := by rw [m3]; show (-1 : Int) < 0; decide
    obtain ⟨E, k1, k2, k3, k4⟩ := vol_mount (s := s) (fill := fill) (sizes := sizes) hg hs hl hD.1 hn1 m2 hlD rfl rfl (by show (0 : Int) ≤ 0 + 1; decide) (by show (1 : Int) + _ - 1 ≤ _; omega) (.inr (by show (1 : Int) + _ - 1 = _; omega)) (by show (1 : Int) + 1 ≠ _; decide) (by show (0 : Int) + 1 ≠ _; decide)
    have hE := mountM_ok hg hD.1 m2.len
    have hsm2 := mountM_sm (g := g) (d := D) hg
    have h4 := mountX_ok g _ hg hD.1 m2.len
    rw [k1] at hE hsm2 h4
    simp only at hE hsm2 h4
    have hn2 := nextA_ok (n := (logM g (firstA g s) fill sizes 0 (firstA g s).pos 0).length) hn1 (by show (1 : Int) + 1 ≠ _; decide) (by show (0 : Int) + 1 ≠ _; decide) (by show (1 : Int) + _ - 1 ≤ _; omega)
    have hso := fin_stOk (s := s) (fill := fill) (sizes := sizes) hg hl hE.1 (by rw [hE.2]; exact m2.len) hn2 rfl rfl
    have hN := hE.1.n
    have hM := hE.1.m
    have h5 := bcheck_fn g E _ (by omega) (by omega) hsm2.big
    rw [hso] at h5
    have hD1 : D.cache.length = 0 := by rw [m2.cache]; rfl
    have hE1 : E.cache.length = 0 := by rw [k2.cache]; rfl
    have hds := dk_own_sub (n := (cellsN g).toNat) (d := logD g s (logM g (firstA g s) fill sizes 0 (firstA g s).pos 0)) (by have := hf.len; omega) rfl rfl rfl rfl
    have hcl : (logD g s (logM g (firstA g s) fill sizes 0 (firstA g s).pos 0)).cells.length = (cellsN g).toNat := by have := hf.len; omega
    generalize logD g s (logM g (firstA g s) fill sizes 0 (firstA g s).pos 0) = d at hlg h3 hds hcl
    generalize logM g (firstA g s) fill sizes 0 (firstA g s).pos 0 = L at hlg h3 h4 h5 hll hsm hsm2 hok
    have h6 := txns_fn L L (by omega) (fun t ht => by have := hok.img t ht; exact ⟨by omega, fun x hx => by have := this.2 x hx; omega⟩)
    rw [decide_eq_true rfl] at h6
    obtain ⟨S, hS⟩ : ∃ S, S = stOf (nextA (firstA g s) L.length) L := ⟨_, rfl⟩
    obtain ⟨U, hU⟩ : ∃ U, U = stOf (nextA (nextA (firstA g s) L.length) L.length) L := ⟨_, rfl⟩
    have q1 : S.txns = L := by rw [hS]; rfl
    have q2 : U.txns = L := by rw [hU]; rfl
    have q3 : S.a.label = s := by rw [hS]; rfl
    have q4 : S.a.last = L.length := by rw [hS]; show (1 : Int) + L.length - 1 = _; omega
    have q5 : U.a.last = L.length := by rw [hU]; show (1 : Int) + L.length - 1 = _; omega
    have q6 : S.a.epoch = 1 := by rw [hS]; rfl
    have q7 : U.a.epoch = 2 := by rw [hU]; rfl
    have q8 : U.a.gen = 3 := by rw [hU]; rfl
    have q9 : S.only = false := by rw [hS]; rfl
    have h6s : Fn Tryz.prog 18 [txsA S.txns, txsA L] fun r => r = .v (.bool true) := by rw [q1]; exact h6
    have h6u : Fn Tryz.prog 18 [txsA U.txns, txsA L] fun r => r = .v (.bool true) := by rw [q2]; exact h6
    rw [← hS] at h3
    rw [← hU] at h4 h5
    clear hS hU m1 k1 hD hE hsm hsm2 hn1 hn2 hso m2 k2 m3 m4 k3 k4 hf hdk hok
    refine Fn.of tys_ok Tryz.func4 rfl rfl (Nat.le_of_ble_eq_true rfl) ?_
    conv => whnf
    refine Fn.closed (h1) rfl ?_
    rintro _ rfl
    conv => whnf
    refine Fn.closed (h2) rfl ?_
    rintro _ rfl
    conv => whnf
    rw [show decide ((sizes.length : Int) > 40) = false from decide_eq_false (by omega)]
    conv => whnf
    refine ACalls.beside hlg rfl ?_
    rintro _ _ ⟨rfl, rfl⟩
    conv => whnf
    refine ACalls.shut h3.go ?_
    conv => whnf
    refine And.intro (by rw [List.length_map, hcl]) ?_
    conv => whnf
    refine ACalls.sub [.ag (geoC g), .ag (dkC d)] ⟨fun _ _ h => h, ag_sub hds, trivial⟩ ?_
    refine Fn.closed (h3) rfl ?_
    rintro _ rfl
    conv => whnf
    refine Fn.closed (h4) rfl ?_
    rintro _ rfl
    conv => whnf
    refine Fn.closed (h6s) rfl ?_
    rintro _ rfl
    conv => whnf
    refine Fn.closed (h6u) rfl ?_
    rintro _ rfl
    conv => whnf
    rw [show (!S.a.label.toList == s.toList) = false by rw [q3]; simp]
    conv => whnf
    rw [show (S.a.last != (L.length : Int)) = false by rw [q4]; simp]
    conv => whnf
    rw [show (U.a.last != (L.length : Int)) = false by rw [q5]; simp]
    conv => whnf
    rw [show (S.a.epoch != 1) = false by rw [q6]; rfl]
    conv => whnf
    rw [show (U.a.epoch != 2) = false by rw [q7]; rfl]
    conv => whnf
    rw [show (U.a.gen != 3) = false by rw [q8]; rfl]
    conv => whnf
    rw [show ((D.cache.length : Int) == 0) = true by rw [hD1]; rfl]
    conv => whnf
    rw [show ((E.cache.length : Int) == 0) = true by rw [hE1]; rfl]
    conv => whnf
    refine Fn.closed (h5) rfl ?_
    rintro _ rfl
    conv => whnf
    rw [show (S.only == false) = true by rw [q9]; rfl]
    conv => whnf
    refine Fn.closed (hw) rfl ?_
    rintro _ rfl
    conv => whnf
    exact ⟨_, fun _ _ h => h, rfl⟩
   ·refine Fn.of tys_ok Tryz.func4 rfl rfl (Nat.le_of_ble_eq_true rfl) ?_
    conv => whnf
    refine Fn.closed (h1) rfl ?_
    rintro _ rfl
    conv => whnf
    refine Fn.closed (h2) rfl ?_
    rintro _ rfl
    conv => whnf
    rw [show decide ((sizes.length : Int) > 40) = true from decide_eq_true (by omega)]
    conv => whnf
    exact ⟨_, fun _ _ h => h, rfl⟩
  ·refine Fn.of tys_ok Tryz.func4 rfl rfl (Nat.le_of_ble_eq_true rfl) ?_
   conv => whnf
   refine Fn.closed (h1) rfl ?_
   rintro _ rfl
   conv => whnf
   refine Fn.closed (h2) rfl ?_
   rintro _ rfl
   conv => whnf
   rw [show (labE s.data.toList != 0) = true from bne_iff_ne.2 hs]
   conv => whnf
   exact ⟨_, fun _ _ h => h, rfl⟩
end Go.Proofs.YtldngmdpiifamaaGreatDoor.A
end
section
namespace Go.Proofs.YtldngmdpiifamaaGreatDoor
open Go.ChangeShapes Go.WideShapes Go.ChangeAt Go.RowKit
theorem own_none : ownKnob Tryz.prog.godebug = none := by kernel_rfl
theorem laidOut : laidOutB Tryz.prog = true := by kernel_rfl

section
variable {H : Type} {enc : TypeId × Value → H}
set_option maxRecDepth 100000 in
theorem law_post {f : Func} {s : ChangeSpec} {apart fresh handsOn again : Bool} {W W' : World} {args : Array Value} {ds : List (DataW H)} {before : List MemPlace}
  (hW : DataW.Whole enc Tryz.prog f.params.toList s.vars apart W args.toList ds [] before) (hv : s.vars = []) (hvs : (s.fn H (ds ++ [])).vars = [])
  (hr : f.resultTypes = #[4]) (hfr : (s.fn H (ds ++ [])).results = [.lit (.bool true)]) (hfa : (s.fn H (ds ++ [])).args = ds)
  (hrow : ∀ t ∈ f.params.toList, Tryz.prog.readableRec t = true ∧ t < Tryz.prog.types.size) (hb : Below W.heap.size W W') :
  s.post enc Tryz.prog f apart fresh handsOn again W args (.bool true) W' := by
 have hlt : ∀ p ∈ before, p.block < W.heap.size := fun p hp => hW.lt p hp
 obtain ⟨p, q, hA, hV, hpq, hz, hn⟩ := id hW
 rw [hv] at hV
 obtain ⟨-, rfl⟩ := trodVars_none hV
 rw [List.append_nil] at hpq
 subst hpq
 have stay : ∀ sp : Nat → Bool, (∀ x ∈ before, sp x.block = true) → DataW.TrodAll enc Tryz.prog W' 0 sp true f.params.toList args.toList ds before := by
  intro sp hsp
  have go : ∀ (ts : List TypeId) (vs : List Value) (es : List (DataW H)) (ps : List MemPlace), (∀ t ∈ ts, Tryz.prog.readableRec t = true ∧ t < Tryz.prog.types.size) → (∀ x ∈ ps, x ∈ before) →
    DataW.TrodAll enc Tryz.prog W 0 (fun _ => true) true ts vs es ps → DataW.TrodAll enc Tryz.prog W' 0 sp true ts vs es ps := by
   intro ts
   induction ts with
   | nil =>
    intro vs es ps _ _ h
    cases vs <;> cases es <;> exact h
   | cons t ts ih =>
    intro vs es ps ht hin h
    cases vs with
    | nil => cases es <;> exact h.elim
    | cons v vs =>
     cases es with
     | nil => exact h.elim
     | cons e es =>
      obtain ⟨p1, p2, h1, h2, rfl⟩ := h
      exact ⟨p1, p2, WideElems.Trod_stays laidOut (ht t (by simp)).1 (ht t (by simp)).2 h1 (fun x hx => hb.same (hlt x (hin x (by simp [hx])))) (fun x hx => hsp x (hin x (by simp [hx]))),
       ih vs es p2 (fun t' ht' => ht t' (by simp [ht'])) (fun x hx => hin x (by simp [hx])) h2, rfl⟩
  exact go _ _ _ _ hrow (fun x hx => hx) hA
 have hres : ∀ (b : Nat) (sp : Nat → Bool) (hd : Bool), DataW.TrodAll enc Tryz.prog W' b sp hd f.resultTypes.toList ((Value.bool true).resultList f.resultTypes.size) (s.fn H (ds ++ [])).results [] := by
  intro b sp hd
  rw [hr, hfr]
  exact trodAll_mk1 ⟨1, by simp [DataW.trod, Value.cells, Tryz.underlying4]⟩
 have hold : ∀ p ∈ before, (fun b => decide (b < W.heap.size)) p.block = true := fun p hp => by simpa using hlt p hp
 have hvars : ∀ sp : Nat → Bool, DataW.TrodVars enc Tryz.prog W' sp s.vars (s.fn H (ds ++ [])).vars [] := by
  intro sp; rw [hv, hvs]; exact rfl
 refine ⟨ds, [], before, [], before, [], hW, hres _ _ _, by rw [hfa]; exact stay _ hold, hvars _, World.keptBut_mono (fun p hp => ⟨hp, ?_⟩) (hb.frame (· ∈ before)), fun _ => ?_⟩
 ·exact Or.inr (by simpa using hp)
 ·refine ⟨ok_one hr rfl (by simp [Value.okWide, Tryz.underlying4, Cell.okWide, Cell.ok]), _, _, ([] ++ before) ++ [], ⟨[] ++ before, [], trodAll_append (stay _ (fun _ _ => rfl)) (hres _ _ _), hvars _, rfl, ?_, ?_⟩, ?_⟩
  ·intro b off hp
   have hin : MemPlace.cell b off ∈ before := by simpa using hp
   rw [hb.frozen (hlt _ hin)]
   exact hz b off hin
  ·intro ha
   have := hn ha
   simpa using this
  ·intro p hp _
   simpa using hp
end
abbrev laidL : List (String × DataW Unit) := [("unicode/utf8.acceptRanges", Rows.laid_unicode_utf8_acceptRanges), ("unicode/utf8.first", Rows.laid_unicode_utf8_first)]
noncomputable def laidWorld (os : Os) : World :=
 let w0 := World.holding Tryz.prog os ⟨#[], #[], []⟩
 let put (h : Array Obj) (g : Nat) (cs : Array Value) : Array Obj := h.modify g fun
  | .cells _ t frozen => .cells cs t frozen
  | o => o
 let h1 := put w0.heap 0 (Lib.firstTab.map fun z => Value.int .u8 z).toArray
 let h2 := put h1 1 ((List.range 16).flatMap fun i => [Value.int .u8 (Lib.accLo i), Value.int .u8 (Lib.accHi i)]).toArray
 { w0 with heap := h2 }
theorem laid_met (os : Os) (args : Array Value) : laidMetH Tryz.prog laidL ((laidWorld os).forCall (fun _ _ => 0) ⟨#[], args, []⟩).memory := by
 rw [MakeChecks.laidMetH_plain _ _ _ (by kernel_rfl)]
 exact (LaidIn.of_run (l := laidL) [1, 0] 8 (by kernel_rfl) (by kernel_rfl) (by kernel_rfl) (by kernel_rfl)).met
theorem first_data : Rows.laid_unicode_utf8_first = Lib.firstData := by kernel_rfl
theorem accept_data : (Rows.laid_unicode_utf8_acceptRanges : DataW Unit) = Lib.acceptData := by kernel_rfl
theorem laid_tabs {W : World} (h : laidMetH Tryz.prog laidL W) : A.globOk W := by
 rw [MakeChecks.laidMetH_plain _ _ _ (by kernel_rfl)] at h
 have h1 := Lib.laidMet.reads h (.head _)
 have h2 := Lib.laidMet.reads h (.tail _ (.head _))
 rw [accept_data] at h1
 rw [first_data] at h2
 exact utf8Tabs_of_readsT (U8Types.of196 Tryz.laysValid) ⟨by kernel_rfl, by kernel_rfl, by kernel_rfl, by kernel_rfl, by kernel_rfl, by kernel_rfl, by kernel_rfl⟩ h2 h1
end Go.Proofs.YtldngmdpiifamaaGreatDoor
end
