/-
Several texts in one.
-/
import Derived.Test.YtldngmdpiifamaaGreatDoorPPB5P4
import Derived.Test.YtldngmdpiifamaaGreatDoorPPB5P3
import Derived.Test.YtldngmdpiifamaaGreatDoorPPB5P2
import Derived.Test.YtldngmdpiifamaaGreatDoorRows
import Derived.Below
import Derived.ChangeSame
import Derived.Carry
import Derived.Test.YtldngmdpiifamaaGreatDoorPPB5P1
import Derived.Lib.LaidIn
import Derived.Lib.LaidU8T
import Derived.LaidHandle
import Derived.MakeChecks
import Derived.Handed
section
namespace Go.Proofs.YtldngmdpiifamaaGreatDoor.A
open Go.RowKit
def akK (bad:List Int) (i:Nat):Int:=if i<bad.length then modU (bad.getD i 0) 4 else 0
def akN (k:Int):Int:=if k=1 then 11 else if k=2 then 12 else 13
def akD (d:Dk) (bad:List Int):Nat→Dk
 | 0=>d
 | i+1=>if akK bad i=0 then akD d bad i else ((akD d bad i).fault (akN (akK bad i)) (i:Nat) 0 77 5).1
def akL (bad:List Int):Nat→Nat
 | 0=>0
 | i+1=>if akK bad i=0 then akL bad i+1 else akL bad i
theorem akK_in (bad:List Int) (i:Nat):0≤akK bad i∧akK bad i<4:=by
 unfold akK
 split
 ·exact modU_in (by decide) (by decide)
 ·decide
theorem akN_k {k:Int}:akN k=11∨akN k=12∨akN k=13:=by
 unfold akN
 split
 ·exact .inl rfl
 ·split
  ·exact .inr (.inl rfl)
  ·exact .inr (.inr rfl)
theorem akL_le (bad:List Int):∀ n,akL bad n≤n
 | 0=>Nat.le_refl _
 | n+1=>by have:=akL_le bad n;unfold akL;split <;> omega
theorem akL_zero {bad:List Int}:∀ {n:Nat},akL bad n=0↔∀ i,i<n→akK bad i≠0
 | 0=>⟨fun _ i hi=>by omega,fun _=>rfl⟩
 | n+1=>by
  have ih:=akL_zero (bad:=bad) (n:=n)
  unfold akL
  split
  ·rename_i h
   exact⟨fun q=>by omega,fun q=>absurd h (q n (by omega))⟩
  ·rename_i h
   rw [ih]
   refine⟨fun q i hi=>?_,fun q i hi=>q i (by omega)⟩
   by_cases e:i=n
   ·rw [e];exact h
   ·exact q i (by omega)
theorem ak_inv {d:Dk} {bad:List Int} (hd:DkOk d) (hc:d.cache=[]):∀ n:Nat,n≤d.cells.length→DkOk (akD d bad n)∧(akD d bad n).cells.length=d.cells.length∧(akD d bad n).cache=[]∧(akD d bad n).left=d.left∧(∀ i:Nat,i<n→akK bad i≠0→(akD d bad n).cells.getD i cz=spoilC (akN (akK bad i)) 77 5 (d.cells.getD i cz))∧∀ x:Nat,x<d.cells.length→(n≤x∨akK bad x=0)→(akD d bad n).cells.getD x cz=d.cells.getD x cz
 | 0,_=>⟨hd,rfl,hc,rfl,fun i hi=>by omega,fun x _ _=>rfl⟩
 | n+1,hn=>by
  obtain⟨h1,h2,h3,h4,h5,h6⟩:=ak_inv (bad:=bad) hd hc n (by omega)
  unfold akD
  by_cases hk:akK bad n=0
  ·rw [if_pos hk]
   refine⟨h1,h2,h3,h4,fun i hi hki=>?_,fun x hx hq=>h6 x hx ?_⟩
   ·by_cases e:i=n
    ·rw [e] at hki;exact absurd hk hki
    ·exact h5 i (by omega) hki
   ·by_cases e:x=n
    ·rw [e];exact .inr hk
    ·exact hq.imp (fun q=>by omega) id
  ·rw [if_neg hk]
   obtain⟨k1,k2,k3,k4, -⟩:=h1.fault (akN (akK bad n)) (n:Nat) 0 77 5
   have hf:=fault_eq (d:=akD d bad n) (a:=(n:Nat)) (bit:=77) (bits:=5) 0 h3 (by omega) (akN_k (k:=akK bad n)) (by decide)
   have hg:∀ x:Nat,x<d.cells.length→((akD d bad n).fault (akN (akK bad n)) (n:Nat) 0 77 5).1.cells.getD x cz=if x=n then spoilC (akN (akK bad n)) 77 5 ((akD d bad n).cells.getD n cz) else (akD d bad n).cells.getD x cz:=fun x hx=>by
    rw [hf]
    have:=cSet_get (d:=akD d bad n) (a:=(n:Nat)) (x:=(x:Nat)) (c:=spoilC (akN (akK bad n)) 77 5 ((akD d bad n).cells.getD n cz)) (by omega) (by omega)
    rw [Int.toNat_natCast] at this
    show (cSet (akD d bad n) (n:Nat) (spoilC (akN (akK bad n)) 77 5 ((akD d bad n).cells.getD ((n:Nat):Int).toNat cz))).cells.getD x cz=_
    rw [Int.toNat_natCast,this]
    by_cases e:x=n
    ·rw [if_pos e,if_pos (by omega)]
    ·rw [if_neg e,if_neg (by omega)]
   refine⟨k1,k2.trans h2,k3.trans h3,k4.trans h4,fun i hi hki=>?_,fun x hx hq=>?_⟩
   ·rw [hg i (by omega)]
    by_cases e:i=n
    ·rw [if_pos e,e,h6 n (by omega) (.inl (Nat.le_refl _))]
    ·rw [if_neg e];exact h5 i (by omega) hki
   ·rw [hg x hx,if_neg (by rintro rfl;exact hq.elim (fun q=>by omega) hk)]
    exact h6 x hx (hq.imp (fun q=>by omega) id)
def ln:ByteArray:=⟨#[110]⟩
theorem lab_n:labE ln.data.toList=0:=by decide +kernel
theorem ak_mount {g:Geo} {bad sizes:List Int} (hg:okG g=true) (hl:sizes.length≤40) {d D:Dk} {L:List Tx} (hL:L=logM g (firstA g ln) 3 sizes 0 (firstA g ln).pos 0) (hd:d=logD g ln L) (hD:D=akD d bad g.an.toNat) :
  (akL bad g.an.toNat=0→mountM g D=(D.adv g.an.toNat,11,st0))∧(akL bad g.an.toNat≠0→∃ E,mountM g D=(E,0,stOf (nextA (firstA g ln) L.length) L)∧E.cache=[]∧E.left = -1∧∀ i:Nat,i<g.an.toNat→(E.cells.getD i cz).state=2∨((E.cells.getD i cz).state=0∧(E.cells.getD i cz).bytes=anCell (nextA (firstA g ln) L.length) i)):=by
 obtain⟨g1,g2,g3,g4,g5⟩:=okG_iff.1 hg
 have hcg:=cells_ge hg
 have hao:=firstA_ok hg lab_n
 have hok:=logM_ok (g:=g) (a:=firstA g ln) (fill:=3) (sizes:=sizes) (epoch:=0) hg hao (by show (1:Int)≤1000000;decide) (by decide)
 have hf:=vol_first (s:=ln) (fill:=3) (sizes:=sizes) hg lab_n
 have hdk:=logd_ok (s:=ln) (fill:=3) (sizes:=sizes) hg lab_n
 subst hL
 rw [←hd] at hf hdk
 have hdn:=hf.len
 obtain⟨i1,i2,i3,i4,i5,i6⟩:=ak_inv (bad:=bad) hdk hf.cache g.an.toNat (by omega)
 rw [←hD] at i1 i2 i3 i4 i5 i6
 have horig:∀ x:Int,0≤x→x<cellsN g→(d.cells.getD x.toNat cz).state=0∧(d.cells.getD x.toNat cz).bytes=volF g ln (logM g (firstA g ln) 3 sizes 0 (firstA g ln).pos 0) (firstA g ln) x:=hf.cell
 have hanc:∀ i:Nat,i<g.an.toNat→(d.cells.getD i cz).state=0∧(d.cells.getD i cz).bytes=anCell (firstA g ln) i:=fun i hi=>by
  obtain⟨e1,e2⟩:=horig (i:Nat) (by omega) (by omega)
  rw [Int.toNat_natCast] at e1 e2
  refine⟨e1,e2.trans ?_⟩
  unfold volF
  rw [if_pos (by omega)]
 have hcell:∀ i:Nat,i<g.an.toNat→((D.cells.getD i cz).state=0∧(D.cells.getD i cz).bytes=anCell (firstA g ln) i)∨SpoiltC (D.cells.getD i cz) (anCell (firstA g ln) i):=fun i hi=>by
  obtain⟨e1,e2⟩:=hanc i hi
  by_cases hk:akK bad i=0
  ·left;rw [i6 i (by omega) (.inr hk)];exact⟨e1,e2⟩
  ·right;rw [i5 i hi hk,←e2];exact spoilC_spoilt e1 akN_k
 have hpk:=ank_pick hg hao i3 hcell
 refine⟨fun h0=>?_,fun h0=>?_⟩
 ·have hz:=akL_zero.1 h0
  have hp:=hpk.2 fun i hi=>by
   obtain⟨e1,e2⟩:=hanc i hi
   rw [i5 i hi (hz i hi),←e2]
   exact spoilC_spoilt e1 akN_k
  unfold mountM
  rw [if_pos (.inl (by rw [i4,hd];show (-1:Int)<0;decide)),hp]
 ·obtain⟨i0,j1,j2⟩:∃ i,i<g.an.toNat∧akK bad i=0:=by
   refine Classical.byContradiction fun hn=>h0 (akL_zero.2 fun i hi hk=>hn ⟨i,hi,hk⟩)
  obtain⟨e1,e2⟩:=hanc i0 j1
  have hlogc:∀ c:Int,c=0∨c=1→saysF g (gotsD D (logAts g c)) c=saysW g (logM g (firstA g ln) 3 sizes 0 (firstA g ln).pos 0) 0 fun _=>false:=fun c hc=>by
   refine disk_says hg hok hc i3 fun x h0 h1=>⟨fun h=>(by cases h),fun _=>?_⟩
   have hb:=logAt_bd (g:=g) hc ⟨h0,h1⟩
   rw [i6 _ (by omega) (.inl (by omega))]
   obtain⟨q1,q2⟩:=horig (logAt g c x) (by omega) (by omega)
   refine⟨q1,q2.trans ?_⟩
   unfold volF
   rw [if_neg (by omega),logF_at hc ⟨h0,h1⟩]
  obtain⟨E,m1,m2,m3,m4⟩:=ank_mount (s:=ln) (fill:=3) (sizes:=sizes) (b:=firstA g ln) (bad0:=fun _=>false) (bad1:=fun _=>false) hg lab_n hl i1 (by rw [i2];exact hdn) i3 (by rw [i4,hd];show (-1:Int)<0;decide) hao rfl rfl (Int.le_refl _) (by show (0:Int)≤_;omega) (.inl rfl) (by show (1:Int)≠_;decide) (by show (0:Int)≠_;decide) hcell ⟨i0,j1,by rw [i6 i0 (by omega) (.inr j2)];exact⟨e1,e2⟩⟩ (hlogc 0 (.inl rfl)) (hlogc 1 (.inr rfl)) (fun _=>rfl)
  rw [txWr_none _ _ _ (b0:=fun _=>!false) (b1:=fun _=>!false) (fun _=>rfl) (fun _=>rfl)] at m2
  refine⟨E,m1,m3,by rw [m4,i4,hd];rfl,fun i hi=>?_⟩
  obtain⟨f1,f2, -⟩:=fin_anchors (g:=g) (c:=nextA (firstA g ln) (logM g (firstA g ln) 3 sizes 0 (firstA g ln).pos 0).length) (cs:=D.cells) (by omega)
  rw [m2]
  show ((finL D.cells _).getD i cz).state=2∨_
  by_cases h2:(D.cells.getD i cz).state=2
  ·left;rw [f2 i hi h2];exact h2
  ·exact .inr (f1 i hi h2)
theorem sealDisk {H:List AB} (j k:Nat) {N:Nat} {es:List (List AV)} (hN:N=es.length) (hj:H[j]? = some (.box 32 [.ow k N,nilV,ze 0,ze (-1)])) (hk:H[k]? = some (.row 87 3 es)):ConvH H ((H.set k .dead).set j (.box 32 [.sl 3 N fun i=>es.getD i [],nilV,ze 0,ze (-1)])):=
 ConvH.sealBox j k hj hk (by subst hN;simp [AV.slIn,nilV,ze])
set_option maxRecDepth 100000 in
theorem anchors22_fn (zones anchors:Int) (sizes bad:List Int):Fn Tryz.prog 7 [.v (.int .i64 zones), .v (.int .i64 anchors),iA sizes,iA bad] fun r=>r = .v (.bool true):=by
 have h1:=some_fn zones 1 1 16 anchors
 have hg:=someG_ok zones 1 1 16 anchors
 generalize someG zones 1 1 16 anchors=g at h1 hg
 obtain⟨g1,g2,g3,g4,g5⟩:=okG_iff.1 hg
 by_cases hl:sizes.length≤20
 ·by_cases hq:bad.length≤10
  ·have hw:=wakes22_fn
   have hlg:=logged_own g ln sizes 3 hg lab_n (by omega)
   have hao:=firstA_ok hg lab_n
   have hf:=vol_first (s:=ln) (fill:=3) (sizes:=sizes) hg lab_n
   have hdk:=logd_ok (s:=ln) (fill:=3) (sizes:=sizes) hg lab_n
   have hok:=logM_ok (g:=g) (a:=firstA g ln) (fill:=3) (sizes:=sizes) (epoch:=0) hg hao (by show (1:Int)≤1000000;decide) (by decide)
   have hak:=fun(d D:Dk) (L:List Tx) h1 h2 h3=>ak_mount (bad:=bad) (sizes:=sizes) (d:=d) (D:=D) (L:=L) hg (by omega) h1 h2 h3
   have hcg:=cells_ge hg
   obtain⟨L,eL⟩:∃ L,L=logM g (firstA g ln) 3 sizes 0 (firstA g ln).pos 0:=⟨_,rfl⟩
   obtain⟨d,ed⟩:∃ d,d=logD g ln L:=⟨_,rfl⟩
   rw [←eL] at hlg hf hdk hok
   rw [←ed] at hlg hf hdk
   have hdn:=hf.len
   have hinv:=fun n hn=>ak_inv (bad:=bad) hdk hf.cache n hn
   have hds:=dk_own_sub (n:=(cellsN g).toNat) (d:=d) (by omega) rfl hf.cache (by rw [ed];rfl) (by rw [ed];rfl)
   have h6:=txns_fn L L (by have:=hok.len;omega) (fun t ht=>by have:=hok.img t ht;exact⟨by omega,fun x hx=>by have:=this.2 x hx;omega⟩)
   rw [decide_eq_true rfl] at h6
   refine Fn.of tys_ok Tryz.func7 rfl rfl (Nat.le_of_ble_eq_true rfl) ?_
   conv=>whnf
   refine Fn.closed (h1) rfl ?_
   rintro _ rfl
   conv=>whnf
   rw [show decide ((sizes.length:Int) > 20)=false from decide_eq_false (by omega)]
   conv=>whnf
   rw [show decide ((bad.length:Int) > 10)=false from decide_eq_false (by omega)]
   conv=>whnf
   refine ACalls.beside hlg rfl ?_
   rintro _ _ ⟨rfl,rfl⟩
   conv=>whnf
   refine aLoop.ruleRR Nat (fun i=>([(3,iA bad),(9, .bp 0 0),(10, .bp 1 0),(11,txsA L),(12,ze (akL bad i:Nat)),(13,ze i)], [.box 23 (geoC g), .box 32 (dkC (akD d bad i))])) (fun i=>i≤g.an.toNat) (fun i=>g.an.toNat - i) 0 (Nat.zero_le _)
    (WkN.rc (ConvF.trans (ConvF.ofH (sealDisk 2 1 (by rw [List.length_map];omega) rfl rfl)) (ConvF.ofH (ConvH.subBox 2 rfl hds))) (s:= [0,2]) ⟨⟨rfl,rfl,rfl,rfl,rfl,rfl,trivial⟩,⟨rfl,rfl,trivial⟩,rfl,rfl,rfl,rfl,rfl⟩) ?_
   intro i hi
   obtain⟨i1,i2,i3,i4,i5,i6⟩:=hinv i (by omega)
   have hsx:akD d bad (i+1)=_:=rfl
   conv at hsx=>rhs;unfold akD
   have hsl:akL bad (i+1)=_:=rfl
   conv at hsl=>rhs;unfold akL
   have hkk:=akK_in bad i
   conv=>whnf
   refine boolI (fun h7=>?_) (fun h7=>?_) <;> (repeat rw [Int.toNat_natCast] at h7) <;> conv=>whnf
   ·repeat' (first | (refine aSeq.go ?_;conv=>whnf) | fail)
    have hfin:akK bad i=0→akL bad (i+1)=akL bad i+1∧akD d bad (i+1)=akD d bad i:=fun h=>by
     rw [if_pos h] at hsx hsl;exact⟨hsl,hsx⟩
    have hlv:=akL_le bad i
    have hft:∀ k:Int,akK bad i≠0→akN (akK bad i)=k→Fn Tryz.prog 36 [.ag (dkC (akD d bad i)), .v (.int .i64 k), .v (.int .i64 (i:Nat)), .v (.int .i64 0), .v (.int .i64 77), .v (.int .i64 5)] fun r=>r = .tp [.ag (dkC (akD d bad (i+1))), .v (.int .i64 0)]:=fun k h0 hk=>by
     subst hk
     have hx:=dfault_fn (fun b bit bs hb=>dflip_fn b bit bs hb) (akD d bad i) (akN (akK bad i)) (i:Nat) 0 77 5 i1
     have he:=fault_eq (d:=akD d bad i) (a:=(i:Nat)) (bit:=77) (bits:=5) 0 i3 (by omega) (akN_k (k:=akK bad i)) (by decide)
     rw [if_neg h0] at hsx
     rw [Dk.faultX,he,if_pos rfl] at hx
     rw [hsx,he]
     exact hx
    by_cases hb:i<bad.length
    ·have ek:akK bad i=modU (bad.getD i 0) 4:=if_pos hb
     rw [show decide ((i:Int)<(bad.length:Nat))=true from decide_eq_true (by omega)]
     conv=>whnf
     refine And.intro ⟨by omega,by omega⟩ ?_
     conv=>whnf
     refine And.intro (by decide) ?_
     conv=>whnf
     rw [Int.toNat_natCast,show IntKind.i64.wrap ((IntKind.u64.wrap (bad.getD i 0)).tmod 4)=akK bad i from ek.symm]
     rcases(show akK bad i=0∨akK bad i=1∨akK bad i=2∨akK bad i=3 by omega) with h | h | h | h
     ·rw [h]
      conv=>whnf
      repeat' (first | (refine aSeq.go ?_;conv=>whnf) | fail)
      obtain⟨f1,f2⟩:=hfin h
      refine⟨i+1,by omega,by omega,?_⟩
      rw [f1,f2]
      exact WkN.r (s:= [0,1]) ⟨⟨rfl,rfl,rfl,rfl,wsucc (by omega),wsucc (by omega),trivial⟩,⟨rfl,rfl,trivial⟩,rfl,rfl,rfl,rfl,rfl⟩
     ·have hft1:=hft 11 (by omega) (by rw [h];rfl)
      have hsl2:akL bad (i+1)=akL bad i:=by rw [hsl,if_neg (by omega)]
      rw [h]
      conv=>whnf
      repeat' (first | (refine aSeq.go ?_;conv=>whnf) | fail)
      apply aDraw.treeK (0) tys_ok mixed (.one 0 (.one 2 (.one 5 (.two 1 (.one 3 (.one 4 (.two 6 (.one 7 (.one 8 (.one 9 (.one 10 (.one 11 (.one 12 .fin)))))) 10 (.one 6 (.one 7 (.one 8 (.one 9 (.one 11 (.one 12 .fin))))))))) 10 (.one 1 (.one 3 (.one 4 (.one 6 (.one 7 (.one 8 (.one 9 (.one 11 (.one 12 .fin))))))))))))) (by kernel_rfl)
      conv=>whnf
      try (refine And.intro ⟨rfl,rfl,by decide⟩ ?_;conv=>whnf)
      refine And.intro ?_ ?_
      conv=>whnf
      try (refine And.intro (by first | omega | (simp;done)) ?_;conv=>whnf)
      try (refine And.intro ⟨rfl,rfl,by decide⟩ ?_;conv=>whnf)
      refine And.intro ?_ ?_
      conv=>whnf
      refine Fn.closed (hft1) rfl ?_
      rintro _ rfl
      conv=>whnf
      try (refine And.intro ⟨rfl,by first | rfl | (simp;done) | (simp;omega),by first | omega | (simp;omega)⟩ ?_;conv=>whnf)
      rotate_left 1
      conv=>whnf
      refine Fn.closed (hft1) rfl ?_
      rintro _ rfl
      conv=>whnf
      try (refine And.intro ⟨rfl,by first | rfl | (simp;done) | (simp;omega),by first | omega | (simp;omega)⟩ ?_;conv=>whnf)
      rotate_left 1
      conv=>whnf
      try (refine And.intro (by first | omega | (simp;done)) ?_;conv=>whnf)
      try (refine And.intro ⟨rfl,rfl,by decide⟩ ?_;conv=>whnf)
      refine Fn.closed (hft1) rfl ?_
      rintro _ rfl
      conv=>whnf
      try (refine And.intro ⟨rfl,by first | rfl | (simp;done) | (simp;omega),by first | omega | (simp;omega)⟩ ?_;conv=>whnf)
      rotate_left 1
      all_goals
       repeat' (first | (refine aSeq.go ?_;conv=>whnf) | fail)
       refine⟨i+1,by omega,by omega,?_⟩
       rw [hsl2]
       exact WkN.r (s:= [0,1]) ⟨⟨rfl,rfl,rfl,rfl,rfl,wsucc (by omega),trivial⟩,⟨rfl,rfl,trivial⟩,rfl,rfl,rfl,rfl,rfl⟩
     ·have hft1:=hft 12 (by omega) (by rw [h];rfl)
      have hsl2:akL bad (i+1)=akL bad i:=by rw [hsl,if_neg (by omega)]
      rw [h]
      conv=>whnf
      repeat' (first | (refine aSeq.go ?_;conv=>whnf) | fail)
      apply aDraw.treeK (0) tys_ok mixed (.one 0 (.one 2 (.one 5 (.two 1 (.one 3 (.one 4 (.two 6 (.one 7 (.one 8 (.one 9 (.one 10 (.one 11 (.one 12 .fin)))))) 10 (.one 6 (.one 7 (.one 8 (.one 9 (.one 11 (.one 12 .fin))))))))) 10 (.one 1 (.one 3 (.one 4 (.one 6 (.one 7 (.one 8 (.one 9 (.one 11 (.one 12 .fin))))))))))))) (by kernel_rfl)
      conv=>whnf
      try (refine And.intro ⟨rfl,rfl,by decide⟩ ?_;conv=>whnf)
      refine And.intro ?_ ?_
      conv=>whnf
      try (refine And.intro (by first | omega | (simp;done)) ?_;conv=>whnf)
      try (refine And.intro ⟨rfl,rfl,by decide⟩ ?_;conv=>whnf)
      refine And.intro ?_ ?_
      conv=>whnf
      refine Fn.closed (hft1) rfl ?_
      rintro _ rfl
      conv=>whnf
      try (refine And.intro ⟨rfl,by first | rfl | (simp;done) | (simp;omega),by first | omega | (simp;omega)⟩ ?_;conv=>whnf)
      rotate_left 1
      conv=>whnf
      refine Fn.closed (hft1) rfl ?_
      rintro _ rfl
      conv=>whnf
      try (refine And.intro ⟨rfl,by first | rfl | (simp;done) | (simp;omega),by first | omega | (simp;omega)⟩ ?_;conv=>whnf)
      rotate_left 1
      conv=>whnf
      try (refine And.intro (by first | omega | (simp;done)) ?_;conv=>whnf)
      try (refine And.intro ⟨rfl,rfl,by decide⟩ ?_;conv=>whnf)
      refine Fn.closed (hft1) rfl ?_
      rintro _ rfl
      conv=>whnf
      try (refine And.intro ⟨rfl,by first | rfl | (simp;done) | (simp;omega),by first | omega | (simp;omega)⟩ ?_;conv=>whnf)
      rotate_left 1
      all_goals
       repeat' (first | (refine aSeq.go ?_;conv=>whnf) | fail)
       refine⟨i+1,by omega,by omega,?_⟩
       rw [hsl2]
       exact WkN.r (s:= [0,1]) ⟨⟨rfl,rfl,rfl,rfl,rfl,wsucc (by omega),trivial⟩,⟨rfl,rfl,trivial⟩,rfl,rfl,rfl,rfl,rfl⟩
     ·have hft1:=hft 13 (by omega) (by rw [h];rfl)
      have hsl2:akL bad (i+1)=akL bad i:=by rw [hsl,if_neg (by omega)]
      rw [h]
      conv=>whnf
      repeat' (first | (refine aSeq.go ?_;conv=>whnf) | fail)
      apply aDraw.treeK (0) tys_ok mixed (.one 0 (.one 2 (.one 5 (.two 1 (.one 3 (.one 4 (.two 6 (.one 7 (.one 8 (.one 9 (.one 10 (.one 11 (.one 12 .fin)))))) 10 (.one 6 (.one 7 (.one 8 (.one 9 (.one 11 (.one 12 .fin))))))))) 10 (.one 1 (.one 3 (.one 4 (.one 6 (.one 7 (.one 8 (.one 9 (.one 11 (.one 12 .fin))))))))))))) (by kernel_rfl)
      conv=>whnf
      try (refine And.intro ⟨rfl,rfl,by decide⟩ ?_;conv=>whnf)
      refine And.intro ?_ ?_
      conv=>whnf
      try (refine And.intro (by first | omega | (simp;done)) ?_;conv=>whnf)
      try (refine And.intro ⟨rfl,rfl,by decide⟩ ?_;conv=>whnf)
      refine And.intro ?_ ?_
      conv=>whnf
      refine Fn.closed (hft1) rfl ?_
      rintro _ rfl
      conv=>whnf
      try (refine And.intro ⟨rfl,by first | rfl | (simp;done) | (simp;omega),by first | omega | (simp;omega)⟩ ?_;conv=>whnf)
      rotate_left 1
      conv=>whnf
      refine Fn.closed (hft1) rfl ?_
      rintro _ rfl
      conv=>whnf
      try (refine And.intro ⟨rfl,by first | rfl | (simp;done) | (simp;omega),by first | omega | (simp;omega)⟩ ?_;conv=>whnf)
      rotate_left 1
      conv=>whnf
      try (refine And.intro (by first | omega | (simp;done)) ?_;conv=>whnf)
      try (refine And.intro ⟨rfl,rfl,by decide⟩ ?_;conv=>whnf)
      refine Fn.closed (hft1) rfl ?_
      rintro _ rfl
      conv=>whnf
      try (refine And.intro ⟨rfl,by first | rfl | (simp;done) | (simp;omega),by first | omega | (simp;omega)⟩ ?_;conv=>whnf)
      rotate_left 1
      all_goals
       repeat' (first | (refine aSeq.go ?_;conv=>whnf) | fail)
       refine⟨i+1,by omega,by omega,?_⟩
       rw [hsl2]
       exact WkN.r (s:= [0,1]) ⟨⟨rfl,rfl,rfl,rfl,rfl,wsucc (by omega),trivial⟩,⟨rfl,rfl,trivial⟩,rfl,rfl,rfl,rfl,rfl⟩
    ·have ek:akK bad i=0:=if_neg hb
     rw [show decide ((i:Int)<(bad.length:Nat))=false from decide_eq_false (by omega)]
     conv=>whnf
     repeat' (first | (refine aSeq.go ?_;conv=>whnf) | fail)
     obtain⟨f1,f2⟩:=hfin ek
     refine⟨i+1,by omega,by omega,?_⟩
     rw [f1,f2]
     exact WkN.r (s:= [0,1]) ⟨⟨rfl,rfl,rfl,rfl,wsucc (by omega),wsucc (by omega),trivial⟩,⟨rfl,rfl,trivial⟩,rfl,rfl,rfl,rfl,rfl⟩
   ·have ei:i=g.an.toNat:=by omega
    subst ei
    have hlv:=akL_le bad g.an.toNat
    obtain⟨D,eD⟩:∃ D,D=akD d bad g.an.toNat:=⟨_,rfl⟩
    rw [←eD] at i1 i2 i3 i4 i5 i6 ⊢
    have hD:=hak d D L eL ed eD
    have hDn:(D.cells.length:Int)=cellsN g:=by rw [i2];exact hdn
    have h3:=mountX_ok g D hg i1 hDn
    have hmo:=mountM_ok hg i1 hDn
    by_cases hz:akL bad g.an.toNat=0
    ·rw [hD.1 hz] at h3
     refine Fn.closed (h3) rfl ?_
     rintro _ rfl
     conv=>whnf
     rw [hz]
     conv=>whnf
     refine Fn.closed (hw) rfl ?_
     rintro _ rfl
     conv=>whnf
     exact⟨_,fun _ _ h=>h,rfl⟩
    ·obtain⟨E,m1,m2,m3,m4⟩:=hD.2 hz
     rw [m1] at h3 hmo
     simp only at h3 hmo
     obtain⟨o1,o2⟩:=hmo
     have hnx:=nextA_ok (n:=L.length) hao (by show (1:Int)≠_;decide) (by show (0:Int)≠_;decide) (by have:=hok.len;show (1:Int)+_ - 1≤_;omega)
     obtain⟨S,eS⟩:∃ S,S=stOf (nextA (firstA g ln) L.length) L:=⟨_,rfl⟩
     have q1:S.txns=L:=by rw [eS];rfl
     have q2:S.a.gen=(nextA (firstA g ln) L.length).gen:=by rw [eS];rfl
     have h6s:Fn Tryz.prog 18 [txsA S.txns,txsA L] fun r=>r = .v (.bool true):=by rw [q1];exact h6
     rw [←eS] at h3
     generalize nextA (firstA g ln) L.length=nx at m4 hnx q2
     refine Fn.closed (h3) rfl ?_
     rintro _ rfl
     conv=>whnf
     rw [show (((akL bad g.an.toNat:Nat):Int) == 0)=false by simpa using hz]
     conv=>whnf
     refine Fn.closed (h6s) rfl ?_
     rintro _ rfl
     conv=>whnf
     rw [show decide ((E.cells.length:Int)<g.an)=false from decide_eq_false (by omega)]
     conv=>whnf
     refine aLoop.ruleRR Nat (fun i=>([(9, .bp 0 0),(17, .bp 1 0),(18, .bp 2 0),(20,ze i)], [.box 23 (geoC g), .box 44 (stC S), .box 32 (dkC E)])) (fun i=>i≤g.an.toNat) (fun i=>g.an.toNat - i) 0 (Nat.zero_le _)
      (WkN.r (s:= [0,2,3]) ⟨⟨rfl,rfl,rfl,rfl,trivial⟩,⟨rfl,rfl,rfl,trivial⟩,rfl,rfl,rfl,rfl,rfl⟩) ?_
     intro k hk
     conv=>whnf
     refine boolI (fun h8=>?_) (fun h8=>?_) <;> (repeat rw [Int.toNat_natCast] at h8) <;> conv=>whnf
     ·have hrd:=dreadX_fn E (k:Nat) o1 (by omega)
      have hgt:E.read (k:Nat)=(E.req,E.got (k:Nat)):=by unfold Dk.read;rw [if_neg (by omega)]
      have hgp:E.got (k:Nat)=if (E.cells.getD k cz).state=0 then ((E.cells.getD k cz).bytes,0) else ([],6):=by
       unfold Dk.got
       rw [m2,Int.toNat_natCast]
       rfl
      rw [hgt] at hrd
      simp only at hrd
      repeat' (first | (refine aSeq.go ?_;conv=>whnf) | fail)
      rcases m4 k (by omega) with h2 | ⟨e1,e2⟩
      ·rw [if_neg (by omega)] at hgp
       rw [hgp] at hrd
       refine Fn.closed (hrd) rfl ?_
       rintro _ rfl
       conv=>whnf
       refine And.intro ⟨by omega,by omega⟩ ?_
       conv=>whnf
       rw [Int.toNat_natCast,show ((E.cells.getD k ⟨0, [], []⟩).state == 2)=true by rw [show (E.cells.getD k ⟨0, [], []⟩).state=2 from h2];rfl]
       conv=>whnf
       repeat' (first | (refine aSeq.go ?_;conv=>whnf) | fail)
       exact⟨k+1,by omega,by omega,WkN.r (s:= [0,1,2]) ⟨⟨rfl,rfl,rfl,wsucc (by omega),trivial⟩,⟨rfl,rfl,rfl,trivial⟩,rfl,rfl,rfl,rfl,rfl⟩⟩
      ·rw [if_pos e1,e2] at hgp
       rw [hgp] at hrd
       have hop:=ropen_fn (anCell nx k) (by have:=anCell_short hg hnx (k:Nat);omega)
       obtain⟨p1,p2,p3,p4⟩:=seal_open (anCell_ok hg hnx (i:=(k:Nat)) ⟨by omega,by omega⟩)
       rw [if_pos (show openE (anCell nx k)=0 from p1),show openE (anCell nx k)=0 from p1,show secStamp (anCell nx k)=nx.gen from p3] at hop
       refine Fn.closed (hrd) rfl ?_
       rintro _ rfl
       conv=>whnf
       refine And.intro ⟨by omega,by omega⟩ ?_
       conv=>whnf
       rw [Int.toNat_natCast,show ((E.cells.getD k ⟨0, [], []⟩).state == 2)=false by rw [show (E.cells.getD k ⟨0, [], []⟩).state=0 from e1];rfl]
       conv=>whnf
       refine Fn.closed (hop) rfl ?_
       rintro _ rfl
       conv=>whnf
       rw [show (nx.gen != S.a.gen)=false by rw [q2];simp]
       conv=>whnf
       repeat' (first | (refine aSeq.go ?_;conv=>whnf) | fail)
       exact⟨k+1,by omega,by omega,WkN.r (s:= [0,1,2]) ⟨⟨rfl,rfl,rfl,wsucc (by omega),trivial⟩,⟨rfl,rfl,rfl,trivial⟩,rfl,rfl,rfl,rfl,rfl⟩⟩
     ·refine Fn.closed (hw) rfl ?_
      rintro _ rfl
      conv=>whnf
      exact⟨_,fun _ _ h=>h,rfl⟩
  ·refine Fn.of tys_ok Tryz.func7 rfl rfl (Nat.le_of_ble_eq_true rfl) ?_
   conv=>whnf
   refine Fn.closed (h1) rfl ?_
   rintro _ rfl
   conv=>whnf
   rw [show decide ((sizes.length:Int) > 20)=false from decide_eq_false (by omega)]
   conv=>whnf
   rw [show decide ((bad.length:Int) > 10)=true from decide_eq_true (by omega)]
   conv=>whnf
   exact⟨_,fun _ _ h=>h,rfl⟩
 ·refine Fn.of tys_ok Tryz.func7 rfl rfl (Nat.le_of_ble_eq_true rfl) ?_
  conv=>whnf
  refine Fn.closed (h1) rfl ?_
  rintro _ rfl
  conv=>whnf
  rw [show decide ((sizes.length:Int) > 20)=true from decide_eq_true (by omega)]
  conv=>whnf
  exact⟨_,fun _ _ h=>h,rfl⟩
end Go.Proofs.YtldngmdpiifamaaGreatDoor.A
end
section
namespace Go.Proofs.YtldngmdpiifamaaGreatDoor
open Go.ChangeShapes Go.WideShapes Go.ChangeAt Go.RowKit
theorem own_none:ownKnob Tryz.prog.godebug=none:=by kernel_rfl
theorem laidOut:laidOutB Tryz.prog=true:=by kernel_rfl

section
variable {H:Type} {enc:TypeId × Value→H}
set_option maxRecDepth 100000 in
theorem law_post {f:Func} {s:ChangeSpec} {apart fresh handsOn again:Bool} {W W':World} {args:Array Value} {ds:List (DataW H)} {before:List MemPlace}
  (hW:DataW.Whole enc Tryz.prog f.params.toList s.vars apart W args.toList ds [] before) (hv:s.vars=[]) (hvs:(s.fn H (ds ++ [])).vars=[])
  (hr:f.resultTypes = #[4]) (hfr:(s.fn H (ds ++ [])).results=[.lit (.bool true)]) (hfa:(s.fn H (ds ++ [])).args=ds)
  (hrow:∀ t∈f.params.toList,Tryz.prog.readableRec t=true∧t<Tryz.prog.types.size) (hb:Below W.heap.size W W') :
  s.post enc Tryz.prog f apart fresh handsOn again W args (.bool true) W':=by
 have hlt:∀ p∈before,p.block<W.heap.size:=fun p hp=>hW.lt p hp
 obtain⟨p,q,hA,hV,hpq,hz,hn⟩:=id hW
 rw [hv] at hV
 obtain⟨-,rfl⟩:=trodVars_none hV
 rw [List.append_nil] at hpq
 subst hpq
 have stay:∀ sp:Nat→Bool,(∀ x∈before,sp x.block=true)→DataW.TrodAll enc Tryz.prog W' 0 sp true f.params.toList args.toList ds before:=by
  intro sp hsp
  have go:∀ (ts:List TypeId) (vs:List Value) (es:List (DataW H)) (ps:List MemPlace),(∀ t∈ts,Tryz.prog.readableRec t=true∧t<Tryz.prog.types.size)→(∀ x∈ps,x∈before)→
    DataW.TrodAll enc Tryz.prog W 0 (fun _=>true) true ts vs es ps→DataW.TrodAll enc Tryz.prog W' 0 sp true ts vs es ps:=by
   intro ts
   induction ts with
   | nil=>
    intro vs es ps _ _ h
    cases vs <;> cases es <;> exact h
   | cons t ts ih=>
    intro vs es ps ht hin h
    cases vs with
    | nil=>cases es <;> exact h.elim
    | cons v vs=>
     cases es with
     | nil=>exact h.elim
     | cons e es=>
      obtain⟨p1,p2,h1,h2,rfl⟩:=h
      exact⟨p1,p2,WideElems.Trod_stays laidOut (ht t (by simp)).1 (ht t (by simp)).2 h1 (fun x hx=>hb.same (hlt x (hin x (by simp [hx])))) (fun x hx=>hsp x (hin x (by simp [hx]))),
       ih vs es p2 (fun t' ht'=>ht t' (by simp [ht'])) (fun x hx=>hin x (by simp [hx])) h2,rfl⟩
  exact go _ _ _ _ hrow (fun x hx=>hx) hA
 have hres:∀ (b:Nat) (sp:Nat→Bool) (hd:Bool),DataW.TrodAll enc Tryz.prog W' b sp hd f.resultTypes.toList ((Value.bool true).resultList f.resultTypes.size) (s.fn H (ds ++ [])).results []:=by
  intro b sp hd
  rw [hr,hfr]
  exact trodAll_mk1 ⟨1,by simp [DataW.trod,Value.cells,Tryz.underlying4]⟩
 have hold:∀ p∈before,(fun b=>decide (b<W.heap.size)) p.block=true:=fun p hp=>by simpa using hlt p hp
 have hvars:∀ sp:Nat→Bool,DataW.TrodVars enc Tryz.prog W' sp s.vars (s.fn H (ds ++ [])).vars []:=by
  intro sp;rw [hv,hvs];exact rfl
 refine⟨ds, [],before, [],before, [],hW,hres _ _ _,by rw [hfa];exact stay _ hold,hvars _,World.keptBut_mono (fun p hp=>⟨hp,?_⟩) (hb.frame (·∈before)),fun _=>?_⟩
 ·exact Or.inr (by simpa using hp)
 ·refine⟨ok_one hr rfl (by simp [Value.okWide,Tryz.underlying4,Cell.okWide,Cell.ok]),_,_,([] ++ before) ++ [],⟨[] ++ before, [],trodAll_append (stay _ (fun _ _=>rfl)) (hres _ _ _),hvars _,rfl,?_,?_⟩,?_⟩
  ·intro b off hp
   have hin:MemPlace.cell b off∈before:=by simpa using hp
   rw [hb.frozen (hlt _ hin)]
   exact hz b off hin
  ·intro ha
   have:=hn ha
   simpa using this
  ·intro p hp _
   simpa using hp
end
abbrev laidL : List (String × DataW Unit) := [("unicode/utf8.acceptRanges", Rows.laid_unicode_utf8_acceptRanges), ("unicode/utf8.first", Rows.laid_unicode_utf8_first)]
noncomputable def laidWorld (os:Os):World:=
 let w0:=World.holding Tryz.prog os ⟨#[], #[], []⟩
 let put (h:Array Obj) (g:Nat) (cs:Array Value):Array Obj:=h.modify g fun
  | .cells _ t frozen=> .cells cs t frozen
  | o=>o
 let h1:=put w0.heap 0 (Lib.firstTab.map fun z=>Value.int .u8 z).toArray
 let h2:=put h1 1 ((List.range 16).flatMap fun i=> [Value.int .u8 (Lib.accLo i),Value.int .u8 (Lib.accHi i)]).toArray
 { w0 with heap:=h2 }
theorem laid_met (os:Os) (args:Array Value):laidMetH Tryz.prog laidL ((laidWorld os).forCall (fun _ _=>0) ⟨#[],args, []⟩).memory:=by
 rw [MakeChecks.laidMetH_plain _ _ _ (by kernel_rfl)]
 exact(LaidIn.of_run (l:=laidL) [1,0] 8 (by kernel_rfl) (by kernel_rfl) (by kernel_rfl) (by kernel_rfl)).met
theorem first_data:Rows.laid_unicode_utf8_first=Lib.firstData:=by kernel_rfl
theorem accept_data:(Rows.laid_unicode_utf8_acceptRanges:DataW Unit)=Lib.acceptData:=by kernel_rfl
theorem laid_tabs {W:World} (h:laidMetH Tryz.prog laidL W):A.globOk W:=by
 rw [MakeChecks.laidMetH_plain _ _ _ (by kernel_rfl)] at h
 have h1:=Lib.laidMet.reads h (.head _)
 have h2:=Lib.laidMet.reads h (.tail _ (.head _))
 rw [accept_data] at h1
 rw [first_data] at h2
 exact utf8Tabs_of_readsT (U8Types.of196 Tryz.laysValid) ⟨by kernel_rfl,by kernel_rfl,by kernel_rfl,by kernel_rfl,by kernel_rfl,by kernel_rfl,by kernel_rfl⟩ h2 h1
end Go.Proofs.YtldngmdpiifamaaGreatDoor
end
