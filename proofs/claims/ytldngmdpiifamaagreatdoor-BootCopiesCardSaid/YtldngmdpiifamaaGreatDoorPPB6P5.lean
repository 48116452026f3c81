/-
Several texts in one.
-/
import Derived.Test.YtldngmdpiifamaaGreatDoorPPB6P4
import Derived.Test.YtldngmdpiifamaaGreatDoorPPB6P3
import Derived.Test.YtldngmdpiifamaaGreatDoorRows
import Derived.Below
import Derived.ChangeSame
import Derived.Carry
import Derived.Test.YtldngmdpiifamaaGreatDoorPPB6P1
import Derived.Lib.LaidIn
import Derived.Lib.LaidU8T
import Derived.LaidHandle
import Derived.MakeChecks
import Derived.Handed
section
namespace Go.Proofs.YtldngmdpiifamaaGreatDoor.A
open Go.RowKit
def l0:ByteArray:=⟨#[]⟩
theorem lab_0:labE l0.data.toList=0:=by decide +kernel
def Whole (g:Geo) (L:List Tx) (E:Dk) (c s:Int):Prop:=(E.cells.getD (logAt g c s).toNat cz).state=0∧(E.cells.getD (logAt g c s).toNat cz).bytes=cellB g (recW g L 0 s) c s
structure CpE (g:Geo) (wh:List Int) (L:List Tx) (E:Dk):Prop where
 an:∀ i:Nat,i<g.an.toNat→(E.cells.getD i cz).state=0∧(E.cells.getD i cz).bytes=anCell (nextA (firstA g l0) L.length) i
 used:∀ (j k:Nat) (c:Int),j<L.length→k<(L.getD j tz).images.length+1→c=0∨c=1→Whole g L E c (slotM g (L.getD j tz).pos k)
 other:∀ c s:Int,c=0∨c=1→0≤s∧s<g.sl→Whole g L E c s∨cpB wh c s=true∧SpoiltC (E.cells.getD (logAt g c s).toNat cz) (cellB g (recW g L 0 s) c s)
theorem cp_mount {g:Geo} {wh sizes:List Int} {n:Nat} (hg:okG g=true) (hl:sizes.length≤40) (hn:(n:Int)≤g.sl) (hfin:∀ s:Int,0≤s→s<g.sl→cpJ wh s.toNat≠0→s<n) {d D:Dk} {L:List Tx} (hL:L=logM g (firstA g l0) 9 sizes 0 (firstA g l0).pos 0) (hd:d=logD g l0 L) (hD:D=cpD g d wh n) :
  ∃ E,mountM g D=(E,0,stOf (nextA (firstA g l0) L.length) L)∧E.cache=[]∧E.left = -1∧CpE g wh L E:=by
 obtain⟨g1,g2,g3,g4,g5⟩:=okG_iff.1 hg
 have hcg:=cells_ge hg
 have hao:=firstA_ok hg lab_0
 have hok:=logM_ok (g:=g) (a:=firstA g l0) (fill:=9) (sizes:=sizes) (epoch:=0) hg hao (by show (1:Int)≤1000000;decide) (by decide)
 have hf:=vol_first (s:=l0) (fill:=9) (sizes:=sizes) hg lab_0
 have hdk:=logd_ok (s:=l0) (fill:=9) (sizes:=sizes) hg lab_0
 subst hL
 have hat:=fun(j k:Nat) hj hk=>recW_at (g:=g) (a:=firstA g l0) (fill:=9) (sizes:=sizes) (ep:=0) hg hao (j:=j) (k:=k) hj hk
 rw [←hd] at hf hdk
 have hdn:=hf.len
 obtain⟨i1,i2,i3,i4,i5,i6⟩:=cp_inv (wh:=wh) hg hdk hdn hf.cache n hn
 rw [←hD] at i1 i2 i3 i4 i5 i6
 have horig:∀ x:Int,0≤x→x<cellsN g→(d.cells.getD x.toNat cz).state=0∧(d.cells.getD x.toNat cz).bytes=volF g l0 (logM g (firstA g l0) 9 sizes 0 (firstA g l0).pos 0) (firstA g l0) x:=hf.cell
 have hanc:∀ i:Nat,i<g.an.toNat→(D.cells.getD i cz).state=0∧(D.cells.getD i cz).bytes=anCell (firstA g l0) i:=fun i hi=>by
  obtain⟨e1,e2⟩:=horig (i:Nat) (by omega) (by omega)
  rw [Int.toNat_natCast] at e1 e2
  rw [i6 i (by omega)]
  refine⟨e1,e2.trans ?_⟩
  unfold volF
  rw [if_pos (by omega)]
 have hlog:∀ c s:Int,c=0∨c=1→0≤s∧s<g.sl→(d.cells.getD (logAt g c s).toNat cz).state=0∧(d.cells.getD (logAt g c s).toNat cz).bytes=cellB g (recW g (logM g (firstA g l0) 9 sizes 0 (firstA g l0).pos 0) 0 s) c s:=fun c s hc hs=>by
  have hb:=logAt_bd (g:=g) hc hs
  obtain⟨q1,q2⟩:=horig (logAt g c s) (by omega) (by omega)
  refine⟨q1,q2.trans ?_⟩
  unfold volF
  rw [if_neg (by omega),logF_at hc hs]
 have hbad:∀ c s:Int,c=0∨c=1→0≤s∧s<g.sl→(cpB wh c s=true→SpoiltC (D.cells.getD (logAt g c s).toNat cz) (cellB g (recW g (logM g (firstA g l0) 9 sizes 0 (firstA g l0).pos 0) 0 s) c s)∧(D.cells.getD (logAt g c s).toNat cz).state≠2)∧(cpB wh c s=false→(D.cells.getD (logAt g c s).toNat cz).state=0∧(D.cells.getD (logAt g c s).toNat cz).bytes=cellB g (recW g (logM g (firstA g l0) 9 sizes 0 (firstA g l0).pos 0) 0 s) c s):=fun c s hc hs=>by
  obtain⟨q1,q2⟩:=hlog c s hc hs
  refine⟨fun h=>?_,fun h=>?_⟩
  ·have hj:cpJ wh s.toNat≠0:=by
    unfold cpB at h
    simp only [Bool.and_eq_true,decide_eq_true_eq] at h
    exact h.1
   rw [i5 c s hc hs,if_pos ⟨hfin s hs.1 hs.2 hj,h⟩,←q2]
   exact⟨spoilC_spoilt q1 cpN_k,cpN_two q1⟩
  ·rw [i5 c s hc hs,if_neg (by rw [h];simp)]
   exact⟨q1,q2⟩
 have hsay:∀ c:Int,c=0∨c=1→saysF g (gotsD D (logAts g c)) c=saysW g (logM g (firstA g l0) 9 sizes 0 (firstA g l0).pos 0) 0 (cpB wh c):=fun c hc=>
  disk_says hg hok hc i3 fun s h0 h1=>⟨fun h=>((hbad c s hc ⟨h0,h1⟩).1 h).1,(hbad c s hc ⟨h0,h1⟩).2⟩
 obtain⟨E,m1,m2,m3,m4⟩:=ank_mount (s:=l0) (fill:=9) (sizes:=sizes) (b:=firstA g l0) (bad0:=cpB wh 0) (bad1:=cpB wh 1) hg lab_0 hl i1 (by rw [i2];exact hdn) i3 (by rw [i4,hd];show (-1:Int)<0;decide) hao rfl rfl (Int.le_refl _) (by show (0:Int)≤_;omega) (.inl rfl) (by show (1:Int)≠_;decide) (by show (0:Int)≠_;decide) (fun i hi=> .inl (hanc i hi)) ⟨0,by omega,hanc 0 (by omega)⟩ (hsay 0 (.inl rfl)) (hsay 1 (.inr rfl)) (cpB_one wh)
 obtain⟨W,hW⟩:∃ W,W=(logM g (firstA g l0) 9 sizes 0 (firstA g l0).pos 0).flatMap (txWr g 0 (fun s=>!cpB wh 0 s) fun s=>!cpB wh 1 s):=⟨_,rfl⟩
 rw [←hW] at m2
 have hmem:=fun w=>txWr_mem (g:=g) (ep:=0) (L:=logM g (firstA g l0) 9 sizes 0 (firstA g l0).pos 0) (cpB_one wh) (w:=w)
 rw [←hW] at hmem
 have hlen:(finL D.cells W).length=D.cells.length:=finL_len _ _
 obtain⟨f1, -,f3⟩:=fin_anchors (g:=g) (c:=nextA (firstA g l0) (logM g (firstA g l0) 9 sizes 0 (firstA g l0).pos 0).length) (cs:=finL D.cells W) (by omega)
 rw [←m2] at f1 f3
 have hbyt:∀ c s:Int,c=0∨c=1→0≤s∧s<g.sl→∀ w∈W,w.addr.toNat=(logAt g c s).toNat→w.bytes=cellB g (recW g (logM g (firstA g l0) 9 sizes 0 (firstA g l0).pos 0) 0 s) c s:=fun c s hc hs w hw e=>by
  obtain⟨j,k,hj,hk,c',hc',rfl⟩:=(hmem w).1 hw
  obtain⟨r1,r2⟩:=hat j k hj hk
  have hc2:c'=0∨c'=1:=hc'.imp (fun h=>h.1) fun h=>h.1
  have hb:=logAt_bd (g:=g) hc hs
  have hb2:=logAt_bd (g:=g) hc2 r1
  obtain⟨e1,e2⟩:=logAt_inj hc2 hc r1 hs (by simp only at e;omega)
  simp only
  rw [←r2,e1,e2]
 refine⟨E,m1,m3,by rw [m4,i4,hd];rfl,⟨fun i hi=>?_,fun j k c hj hk hc=>?_,fun c s hc hs=>?_⟩⟩
 ·refine f1 i hi fun h=>?_
  rw [finL_two] at h
  rw [(hanc i hi).1] at h
  cases h
 ·obtain⟨r1,r2⟩:=hat j k hj hk
  have hb:=logAt_bd (g:=g) hc r1
  have hbb:=hbad c _ hc r1
  unfold Whole
  rw [f3 _ hb.1 (by omega) (by omega)]
  refine finL_hit W D.cells _ (by omega) ?_ (hbyt c _ hc r1) ?_
  ·cases hB:cpB wh c (slotM g ((logM g (firstA g l0) 9 sizes 0 (firstA g l0).pos 0).getD j tz).pos (k:Nat)) with
   | true=>exact(hbb.1 hB).2
   | false=>rw [(hbb.2 hB).1];decide
  ·cases hB:cpB wh c (slotM g ((logM g (firstA g l0) 9 sizes 0 (firstA g l0).pos 0).getD j tz).pos (k:Nat)) with
   | true=>exact .inl ⟨_,(hmem _).2 ⟨j,k,hj,hk,c,hc.imp (fun h=>⟨h,by subst h;exact hB⟩) fun h=>⟨h,by subst h;exact hB⟩,rfl⟩,rfl⟩
   | false=>exact .inr (hbb.2 hB)
 ·have hb:=logAt_bd (g:=g) hc hs
  have hbb:=hbad c s hc hs
  unfold Whole
  rw [f3 _ hb.1 (by omega) (by omega)]
  rcases finL_any W D.cells (logAt g c s).toNat (by omega) with h | ⟨-,h1,w,hw,h2,h3⟩
  ·rw [h]
   cases hB:cpB wh c s with
   | true=>exact .inr ⟨rfl,(hbb.1 hB).1⟩
   | false=>exact .inl (hbb.2 hB)
  ·exact .inl ⟨h1,h3.trans (hbyt c s hc hs w hw h2)⟩
def cpE1 (g:Geo) (E:Dk) (p:Int):Dk:=(E.fault 11 (logAt g 0 p) 0 0 0).1
def cpE2 (g:Geo) (E:Dk) (p:Int):Dk:=((cpE1 g E p).fault 13 (logAt g 1 p) 0 9 9).1
theorem cp_hole {g:Geo} {wh sizes:List Int} (hg:okG g=true) (hl:sizes.length≤40) {E:Dk} {L:List Tx} (hL:L=logM g (firstA g l0) 9 sizes 0 (firstA g l0).pos 0) (hE:DkOk E) (hn:(E.cells.length:Int)=cellsN g) (hc:E.cache=[]) (hlf:E.left = -1) (h:CpE g wh L E) {i:Nat} (hi:i<L.length) :
  (0≤(L.getD i tz).pos∧(L.getD i tz).pos<g.sl)∧(DkOk (cpE1 g E (L.getD i tz).pos)∧((cpE1 g E (L.getD i tz).pos).cells.length:Int)=cellsN g∧(E.fault 11 (logAt g 0 (L.getD i tz).pos) 0 0 0)=(cpE1 g E (L.getD i tz).pos,0))∧(DkOk (cpE2 g E (L.getD i tz).pos)∧((cpE2 g E (L.getD i tz).pos).cells.length:Int)=cellsN g∧((cpE1 g E (L.getD i tz).pos).fault 13 (logAt g 1 (L.getD i tz).pos) 0 9 9)=(cpE2 g E (L.getD i tz).pos,0))∧(mountM g (cpE2 g E (L.getD i tz).pos)).2.1=12:=by
 obtain⟨g1,g2,g3,g4,g5⟩:=okG_iff.1 hg
 have hcg:=cells_ge hg
 have hao:=firstA_ok hg lab_0
 have hok:=logM_ok (g:=g) (a:=firstA g l0) (fill:=9) (sizes:=sizes) (epoch:=0) hg hao (by show (1:Int)≤1000000;decide) (by decide)
 subst hL
 have hU0:=log_take_nn (fill:=9) (sizes:=sizes) hg hao i
 have hroom:=log_room hg (a:=firstA g l0) (fill:=9) (sizes:=sizes) hi
 have hat:=(recW_at (g:=g) (a:=firstA g l0) (fill:=9) (sizes:=sizes) (ep:=0) hg hao (j:=i) (k:=0) hi (by omega)).1
 have hgi:=log_get (fill:=9) (sizes:=sizes) hg hao hi
 have hpp:slotM g ((logM g (firstA g l0) 9 sizes 0 (firstA g l0).pos 0).getD i tz).pos ((0:Nat):Int)=((logM g (firstA g l0) 9 sizes 0 (firstA g l0).pos 0).getD i tz).pos:=by
  rw [log_pos hg hao hi]
  have:=anOk_seq hao
  exact slotM_0 hg (by omega)
 rw [hpp] at hat
 obtain⟨p,hp⟩:∃ p,p=((logM g (firstA g l0) 9 sizes 0 (firstA g l0).pos 0).getD i tz).pos:=⟨_,rfl⟩
 rw [←hp] at hat ⊢
 have hb0:=logAt_bd (g:=g) (c:=0) (.inl rfl) hat
 have hb1:=logAt_bd (g:=g) (c:=1) (.inr rfl) hat
 have hne:logAt g 1 p≠logAt g 0 p:=fun e=>by have:=(logAt_inj (.inr rfl) (.inl rfl) hat hat e).1;omega
 obtain⟨k1,k2,k3,k4, -⟩:=hE.fault 11 (logAt g 0 p) 0 0 0
 have hf1:=fault_eq (d:=E) (a:=logAt g 0 p) (bit:=0) (bits:=0) (k:=11) 0 hc (by omega) (.inl rfl) (by decide)
 change DkOk (cpE1 g E p) at k1
 change (cpE1 g E p).cells.length=_ at k2
 change (cpE1 g E p).cache=_ at k3
 change (cpE1 g E p).left=_ at k4
 rw [hc] at k3
 obtain⟨j1,j2,j3,j4, -⟩:=k1.fault 13 (logAt g 1 p) 0 9 9
 have hf2:=fault_eq (d:=cpE1 g E p) (a:=logAt g 1 p) (bit:=9) (bits:=9) (k:=13) 0 k3 (by omega) (.inr (.inr rfl)) (by decide)
 change DkOk (cpE2 g E p) at j1
 change (cpE2 g E p).cells.length=_ at j2
 change (cpE2 g E p).cache=_ at j3
 change (cpE2 g E p).left=_ at j4
 rw [k3] at j3
 have e1:cpE1 g E p=cSet E (logAt g 0 p) (spoilC 11 0 0 (E.cells.getD (logAt g 0 p).toNat cz)):=by unfold cpE1;rw [hf1]
 have e2:cpE2 g E p=cSet (cpE1 g E p) (logAt g 1 p) (spoilC 13 9 9 ((cpE1 g E p).cells.getD (logAt g 1 p).toNat cz)):=by unfold cpE2;rw [hf2]
 refine⟨hat,⟨k1,by rw [k2];exact hn,by unfold cpE1;rw [hf1]⟩,⟨j1,by rw [j2,k2];exact hn,by unfold cpE2;rw [hf2]⟩,?_⟩
 have hget:∀ x:Int,0≤x→x<cellsN g→(cpE2 g E p).cells.getD x.toNat cz=if x=logAt g 1 p then spoilC 13 9 9 (E.cells.getD (logAt g 1 p).toNat cz) else if x=logAt g 0 p then spoilC 11 0 0 (E.cells.getD (logAt g 0 p).toNat cz) else E.cells.getD x.toNat cz:=fun x x0 x1=>by
  rw [e2,cSet_get (by omega) (by omega),e1,cSet_get (by omega) (by omega),cSet_get (by omega) (by omega),if_neg hne]
 have hanc:∀ i:Nat,i<g.an.toNat→((cpE2 g E p).cells.getD i cz).state=0∧((cpE2 g E p).cells.getD i cz).bytes=anCell (nextA (firstA g l0) (logM g (firstA g l0) 9 sizes 0 (firstA g l0).pos 0).length) i:=fun i hi=>by
  have:=hget (i:Nat) (by omega) (by omega)
  rw [if_neg (by omega),if_neg (by omega),Int.toNat_natCast] at this
  rw [this]
  exact h.an i hi
 have hnx:=nextA_ok (n:=(logM g (firstA g l0) 9 sizes 0 (firstA g l0).pos 0).length) hao (by show (1:Int)≠_;decide) (by show (0:Int)≠_;decide) (by have:=hok.len;show (1:Int)+_ - 1≤_;omega)
 obtain⟨j,hpk⟩:=(ank_pick hg hnx j3 fun i hi=> .inl (hanc i hi)).1 ⟨0,by omega,hanc 0 (by omega)⟩
 obtain⟨bad,hbad⟩:∃ bad:Int→Int→Bool,bad=fun c s=>decide (s=p) || decide (0≤s∧s<g.sl)&&decide (¬((E.cells.getD (logAt g c s).toNat cz).state=0∧(E.cells.getD (logAt g c s).toNat cz).bytes=cellB g (recW g (logM g (firstA g l0) 9 sizes 0 (firstA g l0).pos 0) 0 s) c s)):=⟨_,rfl⟩
 have hw:∀ c:Int,c=0∨c=1→Whole g (logM g (firstA g l0) 9 sizes 0 (firstA g l0).pos 0) E c p:=fun c hc=>by
  have:=h.used i 0 c hi (by omega) hc
  rw [hpp,←hp] at this
  exact this
 have hsay:∀ c:Int,c=0∨c=1→saysF g (gotsD (cpE2 g E p) (logAts g c)) c=saysW g (logM g (firstA g l0) 9 sizes 0 (firstA g l0).pos 0) 0 (bad c):=fun c hcc=>
  disk_says hg hok hcc j3 fun s h0 h1=>by
   have hb:=logAt_bd (g:=g) hcc ⟨h0,h1⟩
   have hgs:=hget (logAt g c s) (by omega) (by omega)
   by_cases e:s=p
   ·subst e
    refine⟨fun _=>?_,fun q=>?_⟩
    ·obtain⟨w1,w2⟩:=hw c hcc
     rw [hgs]
     rcases hcc with rfl | rfl
     ·rw [if_neg (fun q=>hne q.symm),if_pos rfl,←w2]
      exact spoilC_spoilt w1 (.inl rfl)
     ·rw [if_pos rfl,←w2]
      exact spoilC_spoilt w1 (.inr (.inr rfl))
    ·rw [hbad] at q
     simp at q
   ·rw [if_neg fun q=>e (logAt_inj hcc (.inr rfl) ⟨h0,h1⟩ hat q).2,if_neg fun q=>e (logAt_inj hcc (.inl rfl) ⟨h0,h1⟩ hat q).2] at hgs
    rw [hgs]
    refine⟨fun q=>?_,fun q=>?_⟩
    ·rw [hbad] at q
     simp only [decide_eq_false e,Bool.false_or,Bool.and_eq_true,decide_eq_true_eq] at q
     exact(h.other c s hcc ⟨h0,h1⟩).elim (fun w=>absurd w q.2) fun w=>w.2
    ·rw [hbad] at q
     simp only [decide_eq_false e,decide_eq_true (p:=0≤s∧s<g.sl) ⟨h0,h1⟩,Bool.false_or,Bool.true_and,decide_eq_false_iff_not,Decidable.not_not] at q
     exact q
 have hsc:=hole_scan (g:=g) (a:=firstA g l0) (b:=nextA (firstA g l0) (logM g (firstA g l0) 9 sizes 0 (firstA g l0).pos 0).length) (fill:=9) (sizes:=sizes) (ep:=0) (bad0:=bad 0) (bad1:=bad 1) (i:=i) (s0:=p) hg hao (by show (1:Int)≤1000000;decide) hl rfl rfl hi (by rw [hpp,hp]) (fun s hs=>by
  cases q0:bad 0 s with
  | false=>rfl
  | true=>
   cases q1:bad 1 s with
   | false=>rfl
   | true=>
    rw [hbad] at q0 q1
    simp only [decide_eq_false hs,Bool.false_or,Bool.and_eq_true,decide_eq_true_eq] at q0 q1
    have w0:=(h.other 0 s (.inl rfl) q0.1).resolve_left q0.2
    have w1:=(h.other 1 s (.inr rfl) q1.1).resolve_left q1.2
    have:=cpB_one wh s
    rw [w0.1,w1.1] at this
    exact this) (by rw [hbad];simp) (by rw [hbad];simp) (fun j hj=> .inr ⟨by show (1:Int)+j≤1+_ - 1;omega,by show (0:Int)≤0+1;decide⟩)
 rw [←hsay 0 (.inl rfl),←hsay 1 (.inr rfl),←scanM_P] at hsc
 have hlv:∀ (D:Dk) (k:Nat),D.left = -1→D.live k:=fun D k h=> .inl (by rw [h];decide)
 have hl2:(cpE2 g E p).left = -1:=by rw [j4,k4,hlf]
 unfold mountM
 rw [if_pos (hlv _ _ hl2),hpk]
 simp only
 unfold mount2
 rw [adv_tick _ (lv_of j1 (by omega) _),if_pos (hlv _ _ (by show (if _ then _ else _)=_;rw [if_pos (by omega)];exact hl2)),tick_got,tick_got,hsc]
 unfold mount3
 rw [if_pos (by decide)]
theorem cpJ_in (wh:List Int) (i:Nat):0≤cpJ wh i∧cpJ wh i<3:=by
 unfold cpJ
 split
 ·exact modU_in (x:=(IntKind.u64.wrap (wh.getD i 0)).tdiv 2) (by decide) (by decide)
 ·decide
set_option maxRecDepth 100000 in
theorem copies22_fn (zones:Int) (sizes which:List Int) (both:Int):Fn Tryz.prog 8 [.v (.int .i64 zones),iA sizes,iA which, .v (.int .i64 both)] fun r=>r = .v (.bool true):=by
 have h1:=some_fn zones 2 1 16 1
 have hg:=someG_ok zones 2 1 16 1
 generalize someG zones 2 1 16 1=g at h1 hg
 obtain⟨g1,g2,g3,g4,g5⟩:=okG_iff.1 hg
 by_cases hl:sizes.length≤20
 ·by_cases hq:which.length≤60
  ·have hw:=wakes22_fn
   have hlg:=logged_own g l0 sizes 9 hg lab_0 (by omega)
   have hao:=firstA_ok hg lab_0
   have hf:=vol_first (s:=l0) (fill:=9) (sizes:=sizes) hg lab_0
   have hdk:=logd_ok (s:=l0) (fill:=9) (sizes:=sizes) hg lab_0
   have hok:=logM_ok (g:=g) (a:=firstA g l0) (fill:=9) (sizes:=sizes) (epoch:=0) hg hao (by show (1:Int)≤1000000;decide) (by decide)
   have hcm:=fun(n:Nat) (d D:Dk) (L:List Tx) h0 h1 h2 h3 h4=>cp_mount (wh:=which) (sizes:=sizes) (n:=n) (d:=d) (D:=D) (L:=L) hg (by omega) h0 h1 h2 h3 h4
   have hch:=fun(E:Dk) (L:List Tx) h0=>cp_hole (wh:=which) (sizes:=sizes) (E:=E) (L:=L) hg (by omega) h0
   have hcg:=cells_ge hg
   obtain⟨L,eL⟩:∃ L,L=logM g (firstA g l0) 9 sizes 0 (firstA g l0).pos 0:=⟨_,rfl⟩
   have hat:=fun(j k:Nat) hj hk=>recW_at (g:=g) (a:=firstA g l0) (fill:=9) (sizes:=sizes) (ep:=0) hg hao (j:=j) (k:=k) hj hk
   have hge:=fun(j:Nat) hj=>log_get (g:=g) (a:=firstA g l0) (fill:=9) (sizes:=sizes) (j:=j) hg hao hj
   obtain⟨d,ed⟩:∃ d,d=logD g l0 L:=⟨_,rfl⟩
   rw [←eL] at hlg hf hdk hok hat hge
   rw [←ed] at hlg hf hdk
   have hdn:=hf.len
   have hinv:=fun n hn=>cp_inv (wh:=which) hg hdk hdn hf.cache n hn
   have hds:=dk_own_sub (n:=(cellsN g).toNat) (d:=d) (by omega) rfl hf.cache (by rw [ed];rfl) (by rw [ed];rfl)
   have h6:=txns_fn L L (by have:=hok.len;omega) (fun t ht=>by have:=hok.img t ht;exact⟨by omega,fun x hx=>by have:=this.2 x hx;omega⟩)
   rw [decide_eq_true rfl] at h6
   refine Fn.of tys_ok Tryz.func8 rfl rfl (Nat.le_of_ble_eq_true rfl) ?_
   conv=>whnf
   refine Fn.closed (h1) rfl ?_
   rintro _ rfl
   conv=>whnf
   rw [show decide ((sizes.length:Int) > 20)=false from decide_eq_false (by omega)]
   conv=>whnf
   rw [show decide ((which.length:Int) > 60)=false from decide_eq_false (by omega)]
   conv=>whnf
   refine ACalls.beside hlg rfl ?_
   rintro _ _ ⟨rfl,rfl⟩
   conv=>whnf
   refine aLoop.ruleRR Nat (fun i=>([(2,iA which),(3, .v (.int .i64 both)),(9, .bp 0 0),(10, .bp 1 0),(11,txsA L),(12,ze i)], [.box 23 (geoC g), .box 32 (dkC (cpD g d which i))])) (fun i=>i≤g.sl.toNat∧i≤which.length) (fun i=>g.sl.toNat - i) 0 ⟨Nat.zero_le _,Nat.zero_le _⟩
    (WkN.rc (ConvF.trans (ConvF.ofH (sealDisk 2 1 (by rw [List.length_map];omega) rfl rfl)) (ConvF.ofH (ConvH.subBox 2 rfl hds))) (s:= [0,2]) ⟨⟨rfl,rfl,rfl,rfl,rfl,rfl,trivial⟩,⟨rfl,rfl,trivial⟩,rfl,rfl,rfl,rfl,rfl⟩) ?_
   intro i ⟨hi,hi2⟩
   obtain⟨i1,i2,i3,i4,i5,i6⟩:=hinv i (by omega)
   have hsx:cpD g d which (i+1)=_:=rfl
   conv at hsx=>rhs;unfold cpD
   conv=>whnf
   refine boolI (fun h7=>?_) (fun h7=>?_) <;> (repeat rw [Int.toNat_natCast] at h7) <;> conv=>whnf
   by_cases h8:i<which.length
   ·rw [show decide ((i:Int)<(which.length:Nat))=true from decide_eq_true (by omega)]
    conv=>whnf
    repeat' (first | (refine aSeq.go ?_;conv=>whnf) | fail)
    have ek:cpJ which i=IntKind.i64.wrap ((IntKind.u64.wrap ((IntKind.u64.wrap (which.getD i 0)).tdiv 2)).tmod 3):=if_pos h8
    refine And.intro ⟨by omega,by omega⟩ ?_
    conv=>whnf
    refine And.intro (by decide) ?_
    conv=>whnf
    refine And.intro (by decide) ?_
    conv=>whnf
    have hkk:=cpJ_in which i
    have hL:okL g (cpC which i) (i:Nat)=true:=okL_of (cpC_in which i) ⟨by omega,by omega⟩
    have hla:Fn Tryz.prog 32 [.ag (geoC g), .v (.int .i64 (IntKind.i64.wrap ((IntKind.u64.wrap (which.getD i 0)).tmod 2))), .v (.int .i64 (i:Nat))] fun r=>r = .v (.int .i64 (logAt g (cpC which i) (i:Nat))):=rlogAt_fn g (cpC which i) (i:Nat) hg hL
    have hlb:=logAt_bd (g:=g) (cpC_in which i) (s:=(i:Nat)) (by omega)
    have hft:∀ k:Int,cpJ which i≠0→cpN (cpJ which i)=k→Fn Tryz.prog 36 [.ag (dkC (cpD g d which i)), .v (.int .i64 k), .v (.int .i64 (logAt g (cpC which i) (i:Nat))), .v (.int .i64 0), .v (.int .i64 (i:Nat)), .v (.int .i64 3)] fun r=>r = .tp [.ag (dkC (cpD g d which (i+1))), .v (.int .i64 0)]:=fun k h0 hk=>by
     subst hk
     have hx:=dfault_fn (fun b bit bs hb=>dflip_fn b bit bs hb) (cpD g d which i) (cpN (cpJ which i)) (logAt g (cpC which i) (i:Nat)) 0 (i:Nat) 3 i1
     have he:=fault_eq (d:=cpD g d which i) (a:=logAt g (cpC which i) (i:Nat)) (bit:=(i:Nat)) (bits:=3) 0 i3 (by omega) (cpN_k (k:=cpJ which i)) (by omega)
     rw [if_neg h0] at hsx
     rw [Dk.faultX,he,if_pos rfl] at hx
     rw [hsx,he]
     exact hx
    rw [Int.toNat_natCast,←ek]
    rcases(show cpJ which i=0∨cpJ which i=1∨cpJ which i=2 by omega) with h | h | h
    ·rw [h]
     refine And.intro (by decide) ?_
     conv=>whnf
     refine And.intro ⟨rfl,rfl,by decide⟩ ?_
     conv=>whnf
     repeat' (first | (refine aSeq.go ?_;conv=>whnf) | fail)
     have f2:cpD g d which (i+1)=cpD g d which i:=by rw [hsx,if_pos h]
     refine⟨i+1,⟨by omega,by omega⟩,by omega,?_⟩
     rw [f2]
     exact WkN.r (s:= [0,1]) ⟨⟨rfl,rfl,rfl,rfl,rfl,wsucc (by omega),trivial⟩,⟨rfl,rfl,trivial⟩,rfl,rfl,rfl,rfl,rfl⟩
    ·have hft1:=hft 11 (by omega) (by rw [h];rfl)
     rw [h]
     refine And.intro (by decide) ?_
     conv=>whnf
     refine And.intro ⟨rfl,rfl,by decide⟩ ?_
     conv=>whnf
     repeat' (first | (refine aSeq.go ?_;conv=>whnf) | fail)
     apply aDraw.treeM (0) tys_ok mixed (.one 0 (.one 1 (.one 2 (.one 3 (.one 4 (.one 5 (.one 6 (.one 7 (.one 8 (.one 9 (.one 10 (.one 12 (.two 11 (.two 13 (.one 14 (.one 15 (.one 16 (.one 17 (.one 18 (.one 19 .fin)))))) 17 (.one 13 (.one 14 (.one 15 (.one 16 (.one 18 (.one 19 .fin))))))) 17 (.one 11 (.one 13 (.one 14 (.one 15 (.one 16 (.one 18 (.one 19 .fin)))))))))))))))))))) [14,15,74,75,76,77,78,79,80,81,82,83,84,85,86,87,88,89,90] (by kernel_rfl)
     ·conv=>whnf
      try (refine And.intro (by first | omega | (simp;done)) ?_;conv=>whnf)
      try (refine And.intro (by first | omega | (simp;done)) ?_;conv=>whnf)
      refine And.intro ?_ ?_
      ·conv=>whnf
       (rw [Int.toNat_natCast];refine Fn.closed hla rfl ?_;rintro _ rfl)
       conv=>whnf
       refine And.intro ?_ ?_
       ·conv=>whnf
        refine Fn.closed (hft1) rfl ?_
        rintro _ rfl
        conv=>whnf
        try (refine And.intro ⟨rfl,by first | rfl | (simp;done) | (simp;omega),by first | omega | (simp;omega)⟩ ?_;conv=>whnf)
        exact⟨rfl,rfl⟩
       ·conv=>whnf
        refine Fn.closed (hft1) rfl ?_
        rintro _ rfl
        conv=>whnf
        try (refine And.intro ⟨rfl,by first | rfl | (simp;done) | (simp;omega),by first | omega | (simp;omega)⟩ ?_;conv=>whnf)
        exact⟨rfl,rfl⟩
      ·conv=>whnf
       (rw [Int.toNat_natCast];refine Fn.closed hla rfl ?_;rintro _ rfl)
       conv=>whnf
       refine Fn.closed (hft1) rfl ?_
       rintro _ rfl
       conv=>whnf
       try (refine And.intro ⟨rfl,by first | rfl | (simp;done) | (simp;omega),by first | omega | (simp;omega)⟩ ?_;conv=>whnf)
       exact⟨rfl,rfl⟩
     conv=>whnf
     repeat' (first | (refine aSeq.go ?_;conv=>whnf) | fail)
     refine⟨i+1,⟨by omega,by omega⟩,by omega,?_⟩
     exact WkN.r (s:= [0,1]) ⟨⟨rfl,rfl,rfl,rfl,rfl,wsucc (by omega),trivial⟩,⟨rfl,rfl,trivial⟩,rfl,rfl,rfl,rfl,rfl⟩
    ·have hft1:=hft 13 (by omega) (by rw [h];rfl)
     rw [h]
     refine And.intro (by decide) ?_
     conv=>whnf
     refine And.intro ⟨rfl,rfl,by decide⟩ ?_
     conv=>whnf
     repeat' (first | (refine aSeq.go ?_;conv=>whnf) | fail)
     apply aDraw.treeM (0) tys_ok mixed (.one 0 (.one 1 (.one 2 (.one 3 (.one 4 (.one 5 (.one 6 (.one 7 (.one 8 (.one 9 (.one 10 (.one 12 (.two 11 (.two 13 (.one 14 (.one 15 (.one 16 (.one 17 (.one 18 (.one 19 .fin)))))) 17 (.one 13 (.one 14 (.one 15 (.one 16 (.one 18 (.one 19 .fin))))))) 17 (.one 11 (.one 13 (.one 14 (.one 15 (.one 16 (.one 18 (.one 19 .fin)))))))))))))))))))) [14,15,74,75,76,77,78,79,80,81,82,83,84,85,86,87,88,89,90] (by kernel_rfl)
     ·conv=>whnf
      try (refine And.intro (by first | omega | (simp;done)) ?_;conv=>whnf)
      try (refine And.intro (by first | omega | (simp;done)) ?_;conv=>whnf)
      refine And.intro ?_ ?_
      ·conv=>whnf
       (rw [Int.toNat_natCast];refine Fn.closed hla rfl ?_;rintro _ rfl)
       conv=>whnf
       refine And.intro ?_ ?_
       ·conv=>whnf
        refine Fn.closed (hft1) rfl ?_
        rintro _ rfl
        conv=>whnf
        try (refine And.intro ⟨rfl,by first | rfl | (simp;done) | (simp;omega),by first | omega | (simp;omega)⟩ ?_;conv=>whnf)
        exact⟨rfl,rfl⟩
       ·conv=>whnf
        refine Fn.closed (hft1) rfl ?_
        rintro _ rfl
        conv=>whnf
        try (refine And.intro ⟨rfl,by first | rfl | (simp;done) | (simp;omega),by first | omega | (simp;omega)⟩ ?_;conv=>whnf)
        exact⟨rfl,rfl⟩
      ·conv=>whnf
       (rw [Int.toNat_natCast];refine Fn.closed hla rfl ?_;rintro _ rfl)
       conv=>whnf
       refine Fn.closed (hft1) rfl ?_
       rintro _ rfl
       conv=>whnf
       try (refine And.intro ⟨rfl,by first | rfl | (simp;done) | (simp;omega),by first | omega | (simp;omega)⟩ ?_;conv=>whnf)
       exact⟨rfl,rfl⟩
     conv=>whnf
     repeat' (first | (refine aSeq.go ?_;conv=>whnf) | fail)
     refine⟨i+1,⟨by omega,by omega⟩,by omega,?_⟩
     exact WkN.r (s:= [0,1]) ⟨⟨rfl,rfl,rfl,rfl,rfl,wsucc (by omega),trivial⟩,⟨rfl,rfl,trivial⟩,rfl,rfl,rfl,rfl,rfl⟩
   rw [show decide ((i:Int)<(which.length:Nat))=false from decide_eq_false (by omega)]
   conv=>whnf
   all_goals
    have hfin:∀ s:Int,0≤s→s<g.sl→cpJ which s.toNat≠0→s<i:=fun s h0 h1 h2=>by
     by_cases hb:s.toNat<which.length
     ·omega
     ·exact absurd (if_neg hb) h2
    obtain⟨D,eD⟩:∃ D,D=cpD g d which i:=⟨_,rfl⟩
    rw [←eD] at i1 i2 i3 i4 i5 i6 ⊢
    obtain⟨E,m1,m2,m3,m4⟩:=hcm i d D L (by omega) hfin eL ed eD
    have hDn:(D.cells.length:Int)=cellsN g:=by rw [i2];exact hdn
    have h3:=mountX_ok g D hg i1 hDn
    have hmo:=mountM_ok hg i1 hDn
    rw [m1] at h3 hmo
    simp only at h3 hmo
    obtain⟨o1,o2⟩:=hmo
    obtain⟨S,eS⟩:∃ S,S=stOf (nextA (firstA g l0) L.length) L:=⟨_,rfl⟩
    have q1:S.txns=L:=by rw [eS];rfl
    have h6s:Fn Tryz.prog 18 [txsA S.txns,txsA L] fun r=>r = .v (.bool true):=by rw [q1];exact h6
    rw [←eS] at h3
    refine Fn.closed (h3) rfl ?_
    rintro _ rfl
    conv=>whnf
    refine Fn.closed (h6s) rfl ?_
    rintro _ rfl
    conv=>whnf
    by_cases hz:L.length=0
    ·rw [show (((L.length:Nat):Int) == 0)=true by simpa using hz]
     conv=>whnf
     rw [show (((L.length:Nat):Int) == 0)=true by simpa using hz]
     conv=>whnf
     refine Fn.closed (hw) rfl ?_
     rintro _ rfl
     conv=>whnf
     exact⟨_,fun _ _ h=>h,rfl⟩
    ·rw [show (((L.length:Nat):Int) == 0)=false by simpa using hz]
     conv=>whnf
     have hLn:=hok.len
     have hm:=modU_in (x:=both) (n:=(L.length:Nat)) (by omega) (by omega)
     obtain⟨J,eJ⟩:=Int.eq_ofNat_of_zero_le hm.1
     have hu:IntKind.u64.wrap ((L.length:Nat):Int)=(L.length:Nat):=by rw [IntKind.wrap_u64];omega
     rw [hu]
     refine And.intro (by omega) ?_
     conv=>whnf
     rw [show IntKind.i64.wrap ((IntKind.u64.wrap both).tmod (L.length:Nat))=(J:Nat) from eJ]
     refine And.intro ⟨by omega,by omega⟩ ?_
     conv=>whnf
     have hgJ:=hge J (by omega)
     refine aLoop.ruleRR Nat (fun k=>([(9, .bp 0 0),(17, .bp 1 0),(19, .bp 2 0),(20,ze k)], [.box 23 (geoC g), .box 32 (dkC E), .box 78 (txC (L.getD J tz))])) (fun k=>k≤(L.getD J tz).images.length+1) (fun k=>(L.getD J tz).images.length+1 - k) 0 (Nat.zero_le _)
      (WkN.r (s:= [0,3,4]) ⟨⟨rfl,rfl,rfl,rfl,trivial⟩,⟨rfl,rfl,rfl,trivial⟩,rfl,rfl,rfl,rfl,rfl⟩) ?_
     intro k hk
     conv=>whnf
     refine boolI (fun h8=>?_) (fun h8=>?_) <;> (repeat rw [Int.toNat_natCast] at h8) <;> conv=>whnf
     ·repeat' (first | (refine aSeq.go ?_;conv=>whnf) | fail)
      obtain⟨r1,r2⟩:=hat J k (by omega) (by omega)
      refine aLoop.ruleRR Nat (fun c=>([(9, .bp 0 0),(17, .bp 1 0),(19, .bp 2 0),(20,ze k),(21,ze c)], [.box 23 (geoC g), .box 32 (dkC E), .box 78 (txC (L.getD J tz))])) (fun c=>c≤2) (fun c=>2 - c) 0 (Nat.zero_le _)
       (WkN.r (s:= [0,1,2]) ⟨⟨rfl,rfl,rfl,rfl,rfl,trivial⟩,⟨rfl,rfl,rfl,trivial⟩,rfl,rfl,rfl,rfl,rfl⟩) ?_
      intro c hc
      conv=>whnf
      refine boolI (fun h9=>?_) (fun h9=>?_) <;> (repeat rw [Int.toNat_natCast] at h9) <;> conv=>whnf
      ·repeat' (first | (refine aSeq.go ?_;conv=>whnf) | fail)
       have hc2:((c:Nat):Int)=0∨((c:Nat):Int)=1:=by omega
       have hla:Fn Tryz.prog 32 [.ag (geoC g), .v (.int .i64 (c:Nat)), .v (.int .i64 (slotM g (L.getD J tz).pos (k:Nat)))] fun r=>r = .v (.int .i64 (logAt g (c:Nat) (slotM g (L.getD J tz).pos (k:Nat)))):=rlogAt_fn g (c:Nat) _ hg (okL_of hc2 r1)
       have hb:=logAt_bd (g:=g) hc2 r1
       have hrd:=dreadX_fn E (logAt g (c:Nat) (slotM g (L.getD J tz).pos (k:Nat))) o1 (by omega)
       obtain⟨e1,e2⟩:=m4.used J k (c:Nat) (by omega) (by omega) hc2
       have hR:=hok.ok _ r1
       have hRs:=(recs_facts (L.getD J tz).seq 0 (L.getD J tz).images k (by omega)).2.1
       rw [←r2] at hRs
       have hgt:E.read (logAt g (c:Nat) (slotM g (L.getD J tz).pos (k:Nat)))=(E.req,E.got (logAt g (c:Nat) (slotM g (L.getD J tz).pos (k:Nat)))):=by unfold Dk.read;rw [if_neg (by omega)]
       have hgp:E.got (logAt g (c:Nat) (slotM g (L.getD J tz).pos (k:Nat)))=(cellB g (recW g L 0 (slotM g (L.getD J tz).pos (k:Nat))) (c:Nat) (slotM g (L.getD J tz).pos (k:Nat)),0):=by
        unfold Dk.got
        rw [m2]
        show (if (E.cells.getD _ cz).state=0 then _ else _)=_
        rw [if_pos e1]
        exact congrArg (·,(0:Int)) e2
       rw [hgt] at hrd
       simp only at hrd
       rw [hgp] at hrd
       obtain⟨A,eA⟩:∃ A,A=logAt g (c:Nat) (slotM g (L.getD J tz).pos (k:Nat)):=⟨_,rfl⟩
       have hlen:=cellB_short2 hR (c:Nat) (slotM g (L.getD J tz).pos (k:Nat))
       have hop:=ropen_fn (cellB g (recW g L 0 (slotM g (L.getD J tz).pos (k:Nat))) (c:Nat) (slotM g (L.getD J tz).pos (k:Nat))) (by omega)
       have hAb:=logAt_bounds hg (okL_of hc2 r1)
       have hs:=okR_seq hR
       have hn:=recB_short hR
       obtain⟨p1,p2,p3,p4⟩:=seal_open (a:=logAt g (c:Nat) (slotM g (L.getD J tz).pos (k:Nat))) (s:=(recW g L 0 (slotM g (L.getD J tz).pos (k:Nat))).seq) (p:=recB (recW g L 0 (slotM g (L.getD J tz).pos (k:Nat)))) ⟨hAb.1,by omega,hs.1,hs.2,by omega⟩
       rw [if_pos (show openE (cellB g _ _ _)=0 from p1),show openE (cellB g _ _ _)=0 from p1,show secStamp (cellB g _ _ _)=_ from p3,hRs] at hop
       apply aDraw.treeM (0) tys_ok mixed (.one 0 (.one 1 (.one 2 (.one 3 (.one 4 (.one 5 (.one 6 (.one 7 (.one 8 (.one 9 (.two 10 (.two 11 (.one 12 (.one 13 (.one 14 (.one 15 (.one 16 (.one 17 (.one 18 (.one 19 .fin)))))))) 16 (.one 11 (.one 12 (.one 13 (.one 14 (.one 15 (.one 17 (.one 18 (.one 19 .fin))))))))) 16 (.one 10 (.one 11 (.one 12 (.one 13 (.one 14 (.one 15 (.one 17 (.one 18 (.one 19 .fin)))))))))))))))))))) [22,23,24,145,146,147,148,149,150,151,152,153,154,155,156,157,158,159,160] (by kernel_rfl)
       ·conv=>whnf
        try (refine And.intro (by first | omega | (simp;done)) ?_;conv=>whnf)
        refine And.intro ?_ ?_
        ·conv=>whnf
         refine Fn.closed (hla) rfl ?_
         rintro _ rfl
         conv=>whnf
         refine And.intro ?_ ?_
         ·conv=>whnf
          refine Fn.closed (hrd) rfl ?_
          rintro _ rfl
          conv=>whnf
          try (refine And.intro ⟨rfl,by first | rfl | (simp;done) | (simp;omega),by first | omega | (simp;omega)⟩ ?_;conv=>whnf)
          exact⟨rfl,rfl⟩
         ·conv=>whnf
          refine Fn.closed (hrd) rfl ?_
          rintro _ rfl
          conv=>whnf
          try (refine And.intro ⟨rfl,by first | rfl | (simp;done) | (simp;omega),by first | omega | (simp;omega)⟩ ?_;conv=>whnf)
          exact⟨rfl,rfl⟩
        ·conv=>whnf
         refine Fn.closed (hla) rfl ?_
         rintro _ rfl
         conv=>whnf
         refine Fn.closed (hrd) rfl ?_
         rintro _ rfl
         conv=>whnf
         try (refine And.intro ⟨rfl,by first | rfl | (simp;done) | (simp;omega),by first | omega | (simp;omega)⟩ ?_;conv=>whnf)
         exact⟨rfl,rfl⟩
       conv=>whnf
       refine Fn.closed (hop) rfl ?_
       rintro _ rfl
       conv=>whnf
       rw [show ((L.getD J tz).seq != (L.getD J tz).seq)=false by simp]
       conv=>whnf
       repeat' (first | (refine aSeq.go ?_;conv=>whnf) | fail)
       exact⟨c+1,by omega,by omega,WkN.r (s:= [0,1,2]) ⟨⟨rfl,rfl,rfl,rfl,wsucc (by omega),trivial⟩,⟨rfl,rfl,rfl,trivial⟩,rfl,rfl,rfl,rfl,rfl⟩⟩
      ·repeat' (first | (refine aSeq.go ?_;conv=>whnf) | fail)
       exact⟨k+1,by omega,by omega,WkN.r (s:= [0,1,2]) ⟨⟨rfl,rfl,rfl,wsucc (by omega),trivial⟩,⟨rfl,rfl,rfl,trivial⟩,rfl,rfl,rfl,rfl,rfl⟩⟩
     ·obtain⟨c0,⟨c1,c2,c3⟩,⟨c4,c5,c6⟩,c7⟩:=hch E L eL o1 (by rw [o2];exact hDn) m2 m3 m4 (show J<L.length by omega)
      have hla:Fn Tryz.prog 32 [.ag (geoC g), .v (.int .i64 0), .v (.int .i64 (L.getD J tz).pos)] fun r=>r = .v (.int .i64 (logAt g 0 (L.getD J tz).pos)):=rlogAt_fn g 0 _ hg (okL_of (.inl rfl) c0)
      have hlb:Fn Tryz.prog 32 [.ag (geoC g), .v (.int .i64 1), .v (.int .i64 (L.getD J tz).pos)] fun r=>r = .v (.int .i64 (logAt g 1 (L.getD J tz).pos)):=rlogAt_fn g 1 _ hg (okL_of (.inr rfl) c0)
      have hfa:=dfault_fn (fun b bit bs hb=>dflip_fn b bit bs hb) E 11 (logAt g 0 (L.getD J tz).pos) 0 0 0 o1
      rw [Dk.faultX,c3,if_pos rfl] at hfa
      have hfb:=dfault_fn (fun b bit bs hb=>dflip_fn b bit bs hb) (cpE1 g E (L.getD J tz).pos) 13 (logAt g 1 (L.getD J tz).pos) 0 9 9 c1
      rw [Dk.faultX,c6,if_pos rfl] at hfb
      have hmm:=mountX_ok g (cpE2 g E (L.getD J tz).pos) hg c4 c5
      rw [c7] at hmm
      simp only at hfa hfb
      apply aDraw.treeM (0) tys_ok mixed (.one 0 (.one 1 (.one 2 (.one 3 (.two 4 (.two 5 (.one 6 (.one 7 (.one 8 (.one 9 (.one 10 (.one 11 .fin)))))) 9 (.one 5 (.one 6 (.one 7 (.one 8 (.one 10 (.one 11 .fin))))))) 9 (.one 4 (.one 5 (.one 6 (.one 7 (.one 8 (.one 10 (.one 11 .fin)))))))))))) [18,27,179,180,181,182,183,184,185,186,187] (by kernel_rfl)
      ·conv=>whnf
       refine And.intro ?_ ?_
       ·conv=>whnf
        refine Fn.closed (hla) rfl ?_
        rintro _ rfl
        conv=>whnf
        refine And.intro ?_ ?_
        ·conv=>whnf
         refine Fn.closed (hfa) rfl ?_
         rintro _ rfl
         conv=>whnf
         try (refine And.intro ⟨rfl,by first | rfl | (simp;done) | (simp;omega),by first | omega | (simp;omega)⟩ ?_;conv=>whnf)
         exact⟨rfl,rfl⟩
        ·conv=>whnf
         refine Fn.closed (hfa) rfl ?_
         rintro _ rfl
         conv=>whnf
         try (refine And.intro ⟨rfl,by first | rfl | (simp;done) | (simp;omega),by first | omega | (simp;omega)⟩ ?_;conv=>whnf)
         exact⟨rfl,rfl⟩
       ·conv=>whnf
        refine Fn.closed (hla) rfl ?_
        rintro _ rfl
        conv=>whnf
        refine Fn.closed (hfa) rfl ?_
        rintro _ rfl
        conv=>whnf
        try (refine And.intro ⟨rfl,by first | rfl | (simp;done) | (simp;omega),by first | omega | (simp;omega)⟩ ?_;conv=>whnf)
        exact⟨rfl,rfl⟩
      conv=>whnf
      repeat' (first | (refine aSeq.go ?_;conv=>whnf) | fail)
      apply aDraw.treeM (0) tys_ok mixed (.one 0 (.one 1 (.one 2 (.one 3 (.two 4 (.two 5 (.one 6 (.one 7 (.one 8 (.one 9 (.one 10 (.one 11 .fin)))))) 9 (.one 5 (.one 6 (.one 7 (.one 8 (.one 10 (.one 11 .fin))))))) 9 (.one 4 (.one 5 (.one 6 (.one 7 (.one 8 (.one 10 (.one 11 .fin)))))))))))) [28,29,188,189,190,191,192,193,194,195,196] (by kernel_rfl)
      ·conv=>whnf
       refine And.intro ?_ ?_
       ·conv=>whnf
        refine Fn.closed (hlb) rfl ?_
        rintro _ rfl
        conv=>whnf
        refine And.intro ?_ ?_
        ·conv=>whnf
         refine Fn.closed (hfb) rfl ?_
         rintro _ rfl
         conv=>whnf
         try (refine And.intro ⟨rfl,by first | rfl | (simp;done) | (simp;omega),by first | omega | (simp;omega)⟩ ?_;conv=>whnf)
         exact⟨rfl,rfl⟩
        ·conv=>whnf
         refine Fn.closed (hfb) rfl ?_
         rintro _ rfl
         conv=>whnf
         try (refine And.intro ⟨rfl,by first | rfl | (simp;done) | (simp;omega),by first | omega | (simp;omega)⟩ ?_;conv=>whnf)
         exact⟨rfl,rfl⟩
       ·conv=>whnf
        refine Fn.closed (hlb) rfl ?_
        rintro _ rfl
        conv=>whnf
        refine Fn.closed (hfb) rfl ?_
        rintro _ rfl
        conv=>whnf
        try (refine And.intro ⟨rfl,by first | rfl | (simp;done) | (simp;omega),by first | omega | (simp;omega)⟩ ?_;conv=>whnf)
        exact⟨rfl,rfl⟩
      conv=>whnf
      repeat' (first | (refine aSeq.go ?_;conv=>whnf) | fail)
      refine Fn.closed (hmm) rfl ?_
      rintro _ rfl
      conv=>whnf
      refine Fn.closed (hw) rfl ?_
      rintro _ rfl
      conv=>whnf
      exact⟨_,fun _ _ h=>h,rfl⟩
  ·refine Fn.of tys_ok Tryz.func8 rfl rfl (Nat.le_of_ble_eq_true rfl) ?_
   conv=>whnf
   refine Fn.closed (h1) rfl ?_
   rintro _ rfl
   conv=>whnf
   rw [show decide ((sizes.length:Int) > 20)=false from decide_eq_false (by omega)]
   conv=>whnf
   rw [show decide ((which.length:Int) > 60)=true from decide_eq_true (by omega)]
   conv=>whnf
   exact⟨_,fun _ _ h=>h,rfl⟩
 ·refine Fn.of tys_ok Tryz.func8 rfl rfl (Nat.le_of_ble_eq_true rfl) ?_
  conv=>whnf
  refine Fn.closed (h1) rfl ?_
  rintro _ rfl
  conv=>whnf
  rw [show decide ((sizes.length:Int) > 20)=true from decide_eq_true (by omega)]
  conv=>whnf
  exact⟨_,fun _ _ h=>h,rfl⟩
end Go.Proofs.YtldngmdpiifamaaGreatDoor.A
end
section
namespace Go.Proofs.YtldngmdpiifamaaGreatDoor
open Go.ChangeShapes Go.WideShapes Go.ChangeAt Go.RowKit
theorem own_none:ownKnob Tryz.prog.godebug=none:=by kernel_rfl
theorem laidOut:laidOutB Tryz.prog=true:=by kernel_rfl

section
variable {H:Type} {enc:TypeId × Value→H}
set_option maxRecDepth 100000 in
theorem law_post {f:Func} {s:ChangeSpec} {apart fresh handsOn again:Bool} {W W':World} {args:Array Value} {ds:List (DataW H)} {before:List MemPlace}
  (hW:DataW.Whole enc Tryz.prog f.params.toList s.vars apart W args.toList ds [] before) (hv:s.vars=[]) (hvs:(s.fn H (ds ++ [])).vars=[])
  (hr:f.resultTypes = #[4]) (hfr:(s.fn H (ds ++ [])).results=[.lit (.bool true)]) (hfa:(s.fn H (ds ++ [])).args=ds)
  (hrow:∀ t∈f.params.toList,Tryz.prog.readableRec t=true∧t<Tryz.prog.types.size) (hb:Below W.heap.size W W') :
  s.post enc Tryz.prog f apart fresh handsOn again W args (.bool true) W':=by
 have hlt:∀ p∈before,p.block<W.heap.size:=fun p hp=>hW.lt p hp
 obtain⟨p,q,hA,hV,hpq,hz,hn⟩:=id hW
 rw [hv] at hV
 obtain⟨-,rfl⟩:=trodVars_none hV
 rw [List.append_nil] at hpq
 subst hpq
 have stay:∀ sp:Nat→Bool,(∀ x∈before,sp x.block=true)→DataW.TrodAll enc Tryz.prog W' 0 sp true f.params.toList args.toList ds before:=by
  intro sp hsp
  have go:∀ (ts:List TypeId) (vs:List Value) (es:List (DataW H)) (ps:List MemPlace),(∀ t∈ts,Tryz.prog.readableRec t=true∧t<Tryz.prog.types.size)→(∀ x∈ps,x∈before)→
    DataW.TrodAll enc Tryz.prog W 0 (fun _=>true) true ts vs es ps→DataW.TrodAll enc Tryz.prog W' 0 sp true ts vs es ps:=by
   intro ts
   induction ts with
   | nil=>
    intro vs es ps _ _ h
    cases vs <;> cases es <;> exact h
   | cons t ts ih=>
    intro vs es ps ht hin h
    cases vs with
    | nil=>cases es <;> exact h.elim
    | cons v vs=>
     cases es with
     | nil=>exact h.elim
     | cons e es=>
      obtain⟨p1,p2,h1,h2,rfl⟩:=h
      exact⟨p1,p2,WideElems.Trod_stays laidOut (ht t (by simp)).1 (ht t (by simp)).2 h1 (fun x hx=>hb.same (hlt x (hin x (by simp [hx])))) (fun x hx=>hsp x (hin x (by simp [hx]))),
       ih vs es p2 (fun t' ht'=>ht t' (by simp [ht'])) (fun x hx=>hin x (by simp [hx])) h2,rfl⟩
  exact go _ _ _ _ hrow (fun x hx=>hx) hA
 have hres:∀ (b:Nat) (sp:Nat→Bool) (hd:Bool),DataW.TrodAll enc Tryz.prog W' b sp hd f.resultTypes.toList ((Value.bool true).resultList f.resultTypes.size) (s.fn H (ds ++ [])).results []:=by
  intro b sp hd
  rw [hr,hfr]
  exact trodAll_mk1 ⟨1,by simp [DataW.trod,Value.cells,Tryz.underlying4]⟩
 have hold:∀ p∈before,(fun b=>decide (b<W.heap.size)) p.block=true:=fun p hp=>by simpa using hlt p hp
 have hvars:∀ sp:Nat→Bool,DataW.TrodVars enc Tryz.prog W' sp s.vars (s.fn H (ds ++ [])).vars []:=by
  intro sp;rw [hv,hvs];exact rfl
 refine⟨ds, [],before, [],before, [],hW,hres _ _ _,by rw [hfa];exact stay _ hold,hvars _,World.keptBut_mono (fun p hp=>⟨hp,?_⟩) (hb.frame (·∈before)),fun _=>?_⟩
 ·exact Or.inr (by simpa using hp)
 ·refine⟨ok_one hr rfl (by simp [Value.okWide,Tryz.underlying4,Cell.okWide,Cell.ok]),_,_,([] ++ before) ++ [],⟨[] ++ before, [],trodAll_append (stay _ (fun _ _=>rfl)) (hres _ _ _),hvars _,rfl,?_,?_⟩,?_⟩
  ·intro b off hp
   have hin:MemPlace.cell b off∈before:=by simpa using hp
   rw [hb.frozen (hlt _ hin)]
   exact hz b off hin
  ·intro ha
   have:=hn ha
   simpa using this
  ·intro p hp _
   simpa using hp
end
abbrev laidL : List (String × DataW Unit) := [("unicode/utf8.acceptRanges", Rows.laid_unicode_utf8_acceptRanges), ("unicode/utf8.first", Rows.laid_unicode_utf8_first)]
noncomputable def laidWorld (os:Os):World:=
 let w0:=World.holding Tryz.prog os ⟨#[], #[], []⟩
 let put (h:Array Obj) (g:Nat) (cs:Array Value):Array Obj:=h.modify g fun
  | .cells _ t frozen=> .cells cs t frozen
  | o=>o
 let h1:=put w0.heap 0 (Lib.firstTab.map fun z=>Value.int .u8 z).toArray
 let h2:=put h1 1 ((List.range 16).flatMap fun i=> [Value.int .u8 (Lib.accLo i),Value.int .u8 (Lib.accHi i)]).toArray
 { w0 with heap:=h2 }
theorem laid_met (os:Os) (args:Array Value):laidMetH Tryz.prog laidL ((laidWorld os).forCall (fun _ _=>0) ⟨#[],args, []⟩).memory:=by
 rw [MakeChecks.laidMetH_plain _ _ _ (by kernel_rfl)]
 exact(LaidIn.of_run (l:=laidL) [1,0] 8 (by kernel_rfl) (by kernel_rfl) (by kernel_rfl) (by kernel_rfl)).met
theorem first_data:Rows.laid_unicode_utf8_first=Lib.firstData:=by kernel_rfl
theorem accept_data:(Rows.laid_unicode_utf8_acceptRanges:DataW Unit)=Lib.acceptData:=by kernel_rfl
theorem laid_tabs {W:World} (h:laidMetH Tryz.prog laidL W):A.globOk W:=by
 rw [MakeChecks.laidMetH_plain _ _ _ (by kernel_rfl)] at h
 have h1:=Lib.laidMet.reads h (.head _)
 have h2:=Lib.laidMet.reads h (.tail _ (.head _))
 rw [accept_data] at h1
 rw [first_data] at h2
 exact utf8Tabs_of_readsT (U8Types.of196 Tryz.laysValid) ⟨by kernel_rfl,by kernel_rfl,by kernel_rfl,by kernel_rfl,by kernel_rfl,by kernel_rfl,by kernel_rfl⟩ h2 h1
end Go.Proofs.YtldngmdpiifamaaGreatDoor
end
