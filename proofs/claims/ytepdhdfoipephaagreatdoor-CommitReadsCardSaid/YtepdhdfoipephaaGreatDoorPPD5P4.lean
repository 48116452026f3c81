/-
Several texts in one.
-/
import Derived.Test.YtepdhdfoipephaaGreatDoorPPD5P3
import Derived.Test.YtepdhdfoipephaaGreatDoorPPD5P2
import Derived.Test.YtepdhdfoipephaaGreatDoorPPD5P1
set_option maxRecDepth 100000
set_option maxHeartbeats 8000000
set_option linter.unusedSimpArgs false
set_option linter.unusedVariables false
set_option linter.deprecated false
namespace Go.Proofs.YtepdhdfoipephaaGreatDoor.A
section
open Go.RowKit
theorem Y7 {d:Dk} {l:List Wr} (h:l≠ []):(if UD (d.writes l).2.2=0 then if (d.writes l).1.left=0 then 8 else 0 else UD (d.writes l).2.2:Int)=UD (d.mend l).2/\(if UD (d.writes l).2.2=0 then if (d.writes l).1.left=0 then (d.writes l).1 else (d.writes l).1.flush else (d.writes l).1)=(d.mend l).1:=by
 rw [Dk.mend,if_neg h];cases hd:(d.writes l).2.2 with
 | true=>rw [FZ hd];exact tA
 | false=>
  rw [Fq hd];by_cases h0:(d.writes l).1.left=0
  ·rw [if_pos h0,if_pos h0,if_pos h0];exact tA
  ·rw [if_neg h0,if_neg h0,if_neg h0];exact tA
def aF (g:Geo) (d:Dk):Prop:=∀ (d1:Dk) (a:An) (j:Nat),DkOk d1->d1.cells=d.cells->d1.cache=d.cache->HT g (BB d (Ek g))=some (a,j)->(Fn Tryz.prog 201 [.ag (AU g), .ag (Ft a),Iv (BB d1 (BS g 0)),Iv (BB d1 (BS g 1))] fun r=>r = .tp [DH (Gj g a (BB d1 (BS g 0)) (BB d1 (BS g 1))).1,LA (Gj g a (BB d1 (BS g 0)) (BB d1 (BS g 1))).2.1, .v (.int .i64 (Gj g a (BB d1 (BS g 0)) (BB d1 (BS g 1))).2.2)])/\((Gj g a (BB d1 (BS g 0)) (BB d1 (BS g 1))).2.2=0->(∀ w∈(Gj g a (BB d1 (BS g 0)) (BB d1 (BS g 1))).2.1,QI d1.cells.length w)/\(Gj g a (BB d1 (BS g 0)) (BB d1 (BS g 1))).2.1.length<=900)
theorem Rj (g:Geo) (s:Stt) (d:Dk) (hg:Bm g=true) (h:DkOk d) (hn:(d.cells.length:Int)=Aq g) (hin0:aF g d) :
  ACalls Tryz.prog false 127 [.bp 0 0] (JC g s 0 d) fun r H=>(∃ S,r = .ag (Fe S)/\((D_ g d).2.1=0->S=(D_ g d).2.2))/\H=Nw g s (D_ g d).2.1 (D_ g d).1:=by
 obtain⟨g1,g2,g3,g4,g5⟩:=Ar.1 hg;have hcg:=Ey hg;have hl:=h.l;have e0:eK d 0=0:=by unfold eK;rw [if_pos];unfold Dk.live;omega
 refine zT tys_ok Tryz.func127 rfl rfl (Ag rfl) ?_;conv=>whnf
 refine zU Nat (fun k=>([(0, .bp 0 0),(2, .bp 4 0),(3, .ow 5 k),(4,nilV),(5,nilV),(6,ze k)],br g s (eK d k) (d.adv k) [.box 39 [ze 0,ze 0,ze 0,ze 0,ze 0, .v (.string ⟨#[]⟩),nilV,nilV, .v (.bool false),ze 0,ze 0,ze 0,ze 0,nilV], .row 151 2 ((Wb d (Ek g) k).map D7)])) (fun k=>k<=g.an.toNat) (fun k=>g.an.toNat - k) 0 (Aj _)
  ⟨_,_,zF _ _, [(3,151,2)],tA, [0,1,2,3,4,5],⟨tA,⟨by rw [e0];try rfl,rfl,rfl,rfl,rfl,rfl,tv⟩,rfl,rfl,rfl,rfl,rfl⟩⟩ ?_
 intro k hk;conv=>whnf
 refine A7 (fun h6=>?_) (fun h6=>?_) <;> (repeat rw [Ab] at h6) <;> conv=>whnf
 ·have hk':k<g.an.toNat:=by omega
  have hr:=OD g s d k k h (by omega);repeat' (refine z_ ?_;conv=>whnf)
  refine ze9 [0,1,2,3] hr ?_;rintro _ _ ⟨rfl,rfl⟩;refine⟨rfl,?_⟩;refine⟨⟨by rw [Ac,Yq],by omega⟩,?_⟩;conv=>whnf
  exact⟨k+1,hk',by omega,zS (s:= [0,1,2,3,4,5]) ⟨⟨rfl,rfl,rfl,rfl,rfl,AI (by omega),tv⟩,⟨rfl,rfl,rfl,rfl,rfl,congrArg (fun l=>some (AB.row _ _ l)) (by rw [Wa,Oh hk'];try rfl),tv⟩,rfl,rfl,rfl,rfl,rfl⟩⟩
 ·have ek:k=g.an.toNat:=by omega
  subst ek;by_cases hlv:d.live g.an.toNat
  ·have eA:eK d g.an.toNat=0:=by unfold eK;rw [if_pos hlv]
   rw [eA];have hrl:Wb d (Ek g) g.an.toNat=BB d (Ek g):=by have:=Yr (d:=d) (ats:=Ek g) (by rw [FN];exact hlv);rwa [FN] at this
   rw [hrl];have hM:D_ g d=match HT g (BB d (Ek g)) with | none=>(d.adv g.an.toNat,11,st0) | some (a,_)=>Kq g a (d.adv g.an.toNat):=by unfold D_;rw [if_pos hlv];try rfl
   have hnw:=Ri g (BB d (Ek g)) hg (by rw [FJ,FN];omega) (Qk h _);have hpo:=fun {a j}=>Lz (g:=g) (l:=BB d (Ek g)) hg (BB d (Ek g)).length (a:=a) (j:=j)
   have hpo:∀ {a j},HT g (BB d (Ek g))=some (a,j)->Bn g a=true:=hpo;have hgl:(BB d (Ek g)).length=g.an.toNat:=by rw [FJ,FN]
   have hd1:=h.adv g.an.toNat;have hs1:=(Hu g.an.toNat d).1;have hin1:=fun a j=>hin0 (d.adv g.an.toNat) a j hd1 hs1 (Hu g.an.toNat d).2
   clear hin0;generalize BB d (Ek g)=L at hnw hpo hgl hM hin1 |-
   generalize d.adv g.an.toNat=d1 at hd1 hs1 hM hin1 |-
   conv=>whnf
   refine zN hnw.go ?_;refine⟨(by rw [Ac,hgl]),?_⟩;conv=>whnf
   refine zX [.ag (AU g),Iv L] ⟨ri,Bc (f:=D7) L hgl.symm rfl,tv⟩ ?_;refine zZ hnw ?_;conv=>whnf
   cases hP:HT g L with
   | none=>
    rw [hP] at hM;replace hM:D_ g d=(d1,11,st0):=hM;rw [hM];exact⟨.ag (Fe st0), .ag (Fe st0),Nw g s 11 d1,Bk st0_sub,zG (zJ (zt 1 3 (by decide) rfl rfl)) (s:= [0,1,2,3,7]) tA,⟨st0,rfl,fun _=>rfl⟩,rfl⟩
   | some q=>
    obtain⟨a,j⟩:=q;have hao:=hpo hP;rw [hP] at hM;replace hM:D_ g d=Kq g a d1:=hM;rw [hM];clear hM hnw;have hl1:=hd1.l;have e10:eK d1 0=0:=by unfold eK;rw [if_pos];unfold Dk.live;omega
    conv=>whnf
    refine zU Nat (fun k=>([(0, .bp 0 0),(2, .bp 4 0),(4, .ow 6 k),(5, .ow 7 k),(7, .bp 5 0),(9,ze k)],br g s (eK d1 (2*k)) (d1.adv (2*k)) [.box 39 [ze 0,ze 0,ze 0,ze 0,ze 0, .v (.string ⟨#[]⟩),nilV,nilV, .v (.bool false),ze 0,ze 0,ze 0,ze 0,nilV], .box 33 (Ft a), .row 151 2 ((Ys d1 g 0 k).map D7), .row 151 2 ((Ys d1 g 1 k).map D7)])) (fun k=>k<=g.sl.toNat) (fun k=>g.sl.toNat - k) 0 (Aj _)
     ⟨_,_,zF _ _, [(4,151,2),(5,151,2)],tA, [0,1,2,3,4,6,7,8],⟨tA,⟨by show _=some (AB.box _ (ZG _ _ _ (eK d1 0)));rw [e10];try rfl,rfl,rfl,rfl,rfl,rfl,rfl,rfl,tv⟩,rfl,rfl,rfl,rfl,rfl⟩⟩ ?_
    intro k hk;conv=>whnf
    refine A7 (fun h7=>?_) (fun h7=>?_) <;> (repeat rw [Ab] at h7) <;> conv=>whnf
    ·have hk':k<g.sl.toNat:=by omega
     have hla:=Fp g 0 k hg (by simp only [IU,Ad,AF];omega);have hlb:=Fp g 1 k hg (by simp only [IU,Ad,AF];omega);have hra:=OD g s d1 (2*k) (Bh g 0 k) hd1 (F0 hg (by rw [hs1];exact hn) (.inl rfl) (by omega));have hrb:=OD g s d1 (2*k+1) (Bh g 1 k) hd1 (F0 hg (by rw [hs1];exact hn) (.inr rfl) (by omega));repeat' (refine z_ ?_;conv=>whnf)
     refine zZ hla ?_;conv=>whnf
     refine ze9 [0,1,2,3] hra ?_;rintro _ _ ⟨rfl,rfl⟩;refine⟨rfl,?_⟩;refine⟨⟨by rw [Ac,S6],by omega⟩,?_⟩;conv=>whnf
     repeat' (refine z_ ?_;conv=>whnf)
     refine zZ hlb ?_;conv=>whnf
     refine ze9 [0,1,2,3] hrb ?_;rintro _ _ ⟨rfl,rfl⟩;refine⟨rfl,?_⟩;refine⟨⟨by rw [Ac,S6],by omega⟩,?_⟩;conv=>whnf
     repeat' (refine z_ ?_;conv=>whnf)
     exact⟨k+1,hk',by omega,zS (s:= [0,1,2,3,4,5,6,7]) ⟨⟨rfl,rfl,rfl,rfl,rfl,AI (by omega),tv⟩,⟨rfl,rfl,rfl,rfl,rfl,rfl,congrArg (fun l=>some (AB.row _ _ l)) (by rw [PE];try rfl),congrArg (fun l=>some (AB.row _ _ l)) (by rw [PE];try rfl),tv⟩,rfl,rfl,rfl,rfl,rfl⟩⟩
    ·have ek:k=g.sl.toNat:=by omega
     subst ek;unfold Kq;by_cases hl2:d1.live (2*g.sl.toNat)
     ·have eB:eK d1 (2*g.sl.toNat)=0:=by unfold eK;rw [if_pos hl2]
      rw [eB,if_pos hl2,S7 (by decide) hl2,S7 (by decide) hl2];have hx1:(BB d1 (BS g 0)).length=g.sl.toNat:=by rw [FJ,Jk]
      have hx2:(BB d1 (BS g 1)).length=g.sl.toNat:=by rw [FJ,Jk]
      have hlast:=Rb (x:=BB d1 (BS g 0)) (y:=BB d1 (BS g 1)) hg hao;obtain⟨hsc,hin⟩:=hin1 a j hP;clear hin1;have c0:BB d1 (BS g ((0:Nat):Int))=BB d1 (BS g 0):=rfl;have c1:BB d1 (BS g ((1:Nat):Int))=BB d1 (BS g 1):=rfl;rw [c0,c1];clear c0 c1;generalize Gj g a (BB d1 (BS g 0)) (BB d1 (BS g 1))=S at hsc hlast hin |-
      obtain⟨T,W,e⟩:=S;simp only at hsc hlast hin;generalize BB d1 (BS g 0)=X1 at hx1 hsc |-
      generalize BB d1 (BS g 1)=X2 at hx2 hsc |-
      have hd2:=hd1.adv (2*g.sl.toNat);have hs2:=(Hu (2*g.sl.toNat) d1).1;generalize d1.adv (2*g.sl.toNat)=d2 at hd2 hs2 |-
      conv=>whnf
      apply zW (0) tys_ok mixed (.o [0,1,2,3,4,5,6,7,8,9,10,11,12,13,14] .fin) (by kernel_rfl);conv=>whnf
      (refine zN hsc.go ?_;(conv=>whnf);refine Ae (by rw [Ac,hx1]) ?_;(conv=>whnf);refine Ae (by rw [Ac,hx2]) ?_;(conv=>whnf);refine zX [.ag (AU g), .ag (Ft a),Iv X1,Iv X2] ⟨ri,ri,Bc (f:=D7) X1 hx1.symm rfl,Bc (f:=D7) X2 hx2.symm rfl,tv⟩ ?_;refine zZ hsc ?_)
      conv=>whnf
      unfold OT;by_cases he:e=0
      ·subst he;rw [if_neg (by simp)];have hin:=hin rfl;have hlast:=hlast rfl;simp only;conv=>whnf
       have hWin:∀ w∈W,QI d2.cells.length w:=by rw [hs2];exact hin.1
       refine zU Nat (fun k=>([(0, .bp 0 0),(2, .bp 4 0),(7, .bp 5 0),(10,DH T),(11,LA W),(13,ze k)],br g s (UD (d2.writes (W.take k)).2.2) (d2.writes (W.take k)).1 [.box 39 [ze 0,ze 0,ze 0,ze 0,ze 0, .v (.string ⟨#[]⟩),nilV,nilV, .v (.bool false),ze 0,ze 0,ze 0,ze 0,nilV], .box 33 (Ft a)])) (fun k=>k<=W.length) (fun k=>W.length - k) 0 (Aj _)
        (zS (s:= [0,1,2,3,4,5]) tA) ?_
       intro k hk;conv=>whnf
       refine A7 (fun h8=>?_) (fun h8=>?_) <;> (repeat rw [Ab] at h8) <;> conv=>whnf
       ·have hk':k<W.length:=by omega
        have hw:=XW g s d2 W k hd2 hWin hk';repeat' (refine z_ ?_;conv=>whnf)
        apply zW (2 ^ 139) tys_ok mixed (.o [0,1,2,3,4,5,6,7,8,9,10,11] .fin) (by kernel_rfl);conv=>whnf
        try (refine tI ?_;conv=>whnf)
        try (refine tI ?_;conv=>whnf)
        (rw [Ab];refine ze9 [0,1,2,3] hw ?_;rintro _ _ ⟨⟨b,rfl⟩,rfl⟩)
        exact⟨k+1,hk',by omega,zS (s:= [0,1,2,3,4,5]) ⟨⟨rfl,rfl,rfl,rfl,rfl,AI (by omega),tv⟩,tA,rfl,rfl,rfl,rfl,rfl⟩⟩
       ·have ek:k=W.length:=by omega
        subst ek;rw [Aw];have hdw:=I1 hd2 hWin W.length;rw [Aw] at hdw;refine zi Unit (fun _=>([(0, .bp 0 0),(2, .bp 5 0),(7, .bp 6 0),(10,DH T)],Nw g s (UD (d2.mend W).2) (d2.mend W).1 ++ [AB.box 39 [ze 0,ze 0,ze 0,ze 0,ze 0, .v (.string ⟨#[]⟩),nilV,nilV, .v (.bool false),ze 0,ze 0,ze 0,ze 0,nilV],AB.box 33 (Ft a)])) (fun _=>True) ?_ ?_
        ·by_cases hW:W=[]
         ·subst hW;exact⟨(),tv,zG (zJ (zt 1 3 (by decide) rfl rfl)) (s:= [0,1,2,3,6,4,5]) tA⟩
         ·have hWl:0<W.length:=Ee.2 hW;obtain⟨m1,m2⟩:=Y7 (d:=d2) hW;have hf:=Wi g s (UD (d2.writes W).2.2) (d2.writes W).1 hdw.1;rw [m1,m2] at hf;conv=>whnf
          refine A7 (fun _=>?_) (fun hq=>absurd hq (by omega));conv=>whnf
          refine ze9 [0,1,2,3] hf ?_;rintro _ _ ⟨rfl,rfl⟩;exact⟨(),tv,zS (s:= [0,1,2,3,6,4,5]) tA⟩
        ·rintro _ _;have hdm:DkOk (d2.mend W).1/\(d2.mend W).1.cells.length=d2.cells.length:=by
          unfold Dk.mend;split
          ·exact⟨hd2,rfl⟩
          ·exact T_ hd2 hWin
         generalize d2.mend W=M at hdm |-
         obtain⟨d3,dead⟩:=M;simp only at hdm |-
         cases dead with
         | true=>
          rw [if_pos rfl];conv=>whnf
          repeat' (refine z_ ?_;conv=>whnf)
          exact⟨.ag (Fe st0), .ag (Fe st0),Nw g s 8 d3,Bk st0_sub,zS (s:= [0,1,2,3,4]) tA,⟨st0,rfl,fun _=>rfl⟩,rfl⟩
         | false=>
          rw [if_neg (by decide)];have hpa:=GB hao;unfold OS;by_cases hmx:a.gen=4294967295\/a.epoch=4294967295
          ·rw [if_pos hmx];conv=>whnf
           repeat' (refine z_ ?_;conv=>whnf)
           refine A7 (fun _=>?_) (fun q1=>?_)
           ·conv=>whnf
            repeat' (refine z_ ?_;conv=>whnf)
            exact⟨.ag (Fe st0), .ag (Fe st0),Nw g s 14 d3,Bk st0_sub,zS (s:= [0,1,2,3,4]) tA,⟨st0,rfl,fun _=>rfl⟩,rfl⟩
           ·conv=>whnf
            refine A7 (fun _=>?_) (fun q2=>absurd hmx (by omega));conv=>whnf
            repeat' (refine z_ ?_;conv=>whnf)
            exact⟨.ag (Fe st0), .ag (Fe st0),Nw g s 14 d3,Bk st0_sub,zS (s:= [0,1,2,3,4]) tA,⟨st0,rfl,fun _=>rfl⟩,rfl⟩
          ·rw [if_neg hmx];have hna:=PY (n:=T.length) hao (fun e=>hmx (.inl e)) (fun e=>hmx (.inr e)) hlast.2;have hban:=KP g s d3 (De a T.length) hg hna hdm.1 (MU hg hna (by rw [hdm.2,hs2,hs1];exact hn));have w1:IntKind.i64.wrap (a.gen+1)=a.gen+1:=wi (by omega);have w2:IntKind.i64.wrap (a.epoch+1)=a.epoch+1:=wi (by omega);have w3:IntKind.i64.wrap (IntKind.i64.wrap (a.seq+T.length) - 1)=a.seq+T.length - 1:=by
            rw [wi (n:=a.seq+T.length) (by omega)];exact wi (by omega)
           conv=>whnf
           repeat' (refine z_ ?_;conv=>whnf)
           refine A7 (fun q=>absurd q (by omega)) (fun q1=>?_);conv=>whnf
           refine A7 (fun q=>absurd q (by omega)) (fun q2=>?_);conv=>whnf
           repeat' (refine z_ ?_;conv=>whnf)
           rw [w1,w2,w3];refine zY [0,1,2,4] hban rfl rfl rfl rfl (by decide) (ZZ rfl rfl) tA ?_;rintro _ _ ⟨rfl,rfl⟩;have hpn:(d3.putAll (Ba g (De a T.length))).2.1=(d3.writes (Ba g (De a T.length))).2.1:=by
            cases hdd:(d3.writes (Ba g (De a T.length))).2.2 with
            | true=>rw [FZ hdd]
            | false=>rw [Fq hdd];split <;> rfl
           rw [<-hpn];generalize d3.putAll (Ba g (De a T.length))=Q;obtain⟨d4,n,dead⟩:=Q;simp only;cases dead with
           | true=>
            rw [if_pos rfl];conv=>whnf
            repeat' (refine z_ ?_;conv=>whnf)
            exact⟨.ag (Fe (AJ (De a T.length) T)), .ag (Fe (AJ (De a T.length) T)),Nw g s 8 d4,Bk ⟨ri,ri,ri,ri,ri,ri,ri,ri,ri,ri,ri,ri,ri,Bo 1 _,tv⟩,zS (s:= [0,1,2,3,7]) tA,⟨_,rfl,fun h=>absurd h (show ¬(8:Int)=0 by decide)⟩,rfl⟩
           | false=>
            rw [if_neg (by decide)];by_cases hn0:n=0
            ·subst hn0;rw [if_pos rfl];conv=>whnf
             repeat' (refine z_ ?_;conv=>whnf)
             exact⟨.ag (Fe (AJ (De a T.length) T)), .ag (Fe (AJ (De a T.length) T)),Nw g s 14 d4,Bk ⟨ri,ri,ri,ri,ri,ri,ri,ri,ri,ri,ri,ri,ri,Bo 1 _,tv⟩,zS (s:= [0,1,2,3,7]) tA,⟨_,rfl,fun h=>absurd h (show ¬(14:Int)=0 by decide)⟩,rfl⟩
            ·rw [if_neg hn0];have hnb:((n:Int) == 0)=false:=beq_eq_false_iff_ne.2 (by omega);conv=>whnf
             repeat' (refine z_ ?_;conv=>whnf)
             rw [hnb];conv=>whnf
             repeat' (refine z_ ?_;conv=>whnf)
             exact⟨.ag (Fe (AJ (De a T.length) T)), .ag (Fe (AJ (De a T.length) T)),Nw g s 0 d4,Bk ⟨ri,ri,ri,ri,ri,ri,ri,ri,ri,ri,ri,ri,ri,Bo 1 _,tv⟩,zS (s:= [0,1,2,3,7]) tA,⟨_,rfl,fun _=>rfl⟩,rfl⟩
      ·rw [if_pos (by simpa using he)];have hb:(e != 0)=true:=bne_iff_ne.2 he;rw [hb];exact⟨.ag (Fe st0), .ag (Fe st0),Nw g s e d2,Bk st0_sub,zG (zJ (zt 1 3 (by decide) rfl rfl)) (s:= [0,1,2,3,8]) tA,⟨st0,rfl,fun h=>absurd h he⟩,rfl⟩
     ·have eB:eK d1 (2*g.sl.toNat)=8:=by unfold eK;rw [if_neg hl2]
      rw [eB,if_neg hl2];exact⟨.ag (Fe st0), .ag (Fe st0),Nw g s 8 (d1.adv (2*g.sl.toNat)),Bk st0_sub,zG (zJ (zt 1 3 (by decide) rfl rfl)) (s:= [0,1,2,3,8]) tA,⟨st0,rfl,fun _=>rfl⟩,rfl⟩
  ·have eA:eK d g.an.toNat=8:=by unfold eK;rw [if_neg hlv]
   have hM:D_ g d=(d.adv g.an.toNat,8,st0):=by unfold D_;rw [if_neg hlv]
   rw [eA,hM];exact⟨.ag (Fe st0), .ag (Fe st0),Nw g s 8 (d.adv g.an.toNat),Bk st0_sub,zG (zJ (zt 1 3 (by decide) rfl rfl)) (s:= [0,1,2,3,6]) tA,⟨st0,rfl,fun _=>rfl⟩,rfl⟩
theorem Px (l:List Tx) (hl:l.length<=1000000) (hi:∀ t∈l,t.images.length<=1000000/\∀ x∈t.images,x.bytes.length<=1000000000):Fn Tryz.prog 64 [DH l] fun r=>r=DH l:=by
 refine zR Tryz.func64 rfl ?_;conv=>whnf
 refine zU Nat (fun k=>([(0,DH l),(3, .ow 0 k),(4,ze k)], [.row 112 4 ((l.take k).map CV)])) (fun k=>k<=l.length) (fun k=>l.length - k) 0 (Aj _)
  ⟨_,_,zF _ _, [(3,112,4)],tA, [0],tA⟩ ?_
 intro k hk;conv=>whnf
 refine A7 (fun h6=>?_) (fun h6=>?_) <;> (repeat rw [Ab] at h6) <;> conv=>whnf
 ·have hk':k<l.length:=by omega
  have hm:=hi _ (A5 (d:=(⟨0,0,0, []⟩:Tx)) hk');have b1:=IS (l.getD k ⟨0,0,0, []⟩).images hm.1 hm.2;have hl:k=((l.take k).map CV).length:=by simp;omega
  apply zW (0) tys_ok mixed (.o [0,1,2,3,4,5,6,7,8,9,10,11,12,13,14,15,16,17,18,19,20,21,22,23,24,25] .fin) (by kernel_rfl);conv=>whnf
  try (refine tI ?_;conv=>whnf)
  try (refine tI ?_;conv=>whnf)
  try (refine tI ?_;conv=>whnf)
  try (refine tI ?_;conv=>whnf)
  refine zZ b1 ?_;conv=>whnf
  try (refine tJ ?_;conv=>whnf)
  try (refine tK ?_;conv=>whnf)
  all_goals exact⟨k+1,hk',by omega,zS (s:= [0]) ⟨⟨rfl,rfl,AI (by omega),tv⟩,⟨congrArg (fun l=>some (AB.row _ _ l)) (FO (f:=CV) (d:=(⟨0,0,0, []⟩:Tx)) hk').symm,tv⟩,rfl,rfl,rfl,rfl,rfl⟩⟩
 ·have ek:k=l.length:=by omega
  subst ek;rw [Aw];refine Ae (Ac _).symm ?_;exact⟨DH l,Bc (f:=CV) l rfl rfl,rfl⟩
theorem Ot (s:Stt) (h:StSm s):Fn Tryz.prog 24 [.ag (Fe s)] fun r=>r = .ag (Fe s):=by
 have c1:=MX s.a (by have:=h.h.1;omega) h.h.2;have c2:=Px s.txns (by have:=h.t.1;omega) (fun t ht=>⟨by have:=(h.t.2 t ht).1;omega,fun x hx=>by have:=(h.t.2 t ht).2 x hx;omega⟩);have c3:=GG s.lost h.o;refine zR Tryz.func24 rfl ?_;conv=>whnf
 apply zW (0) tys_ok mixed (.o [0,1,3,4,6,7,8,2,10,5,9,11,12,13,14,15,16] .fin) (by kernel_rfl);conv=>whnf
 refine zZ c1 ?_;conv=>whnf
 refine zZ c2 ?_;conv=>whnf
 refine zZ c3 ?_;conv=>whnf
 try (refine tS ?_;conv=>whnf)
 try (refine tS ?_;conv=>whnf)
 try (refine tS ?_;conv=>whnf)
 all_goals exact⟨_,ri,rfl⟩
theorem DkOk.big {d:Dk} (h:DkOk d):d.cells.length<=1000000/\d.cache.length<=1000000/\(∀ c∈d.cells,c.bytes.length<=1000000000/\c.old.length<=1000000000)/\(∀ w∈d.cache,w.bytes.length<=1000000000):=
 ⟨by have:=h.n;omega,by have:=h.m;omega,fun c hc=>by have:=(h.c c hc).2;omega,fun w hw=>by have:=(h.w w hw).2;omega⟩
theorem TW (g:Geo) (d:Dk) (s:Stt) (h:DkOk d) (hs:StSm s):ACalls Tryz.prog false 29 [.ag (AU g), .ag (EP d), .ag (Fe s)] [] fun r H=>r = .bp 0 0/\H=JC g s 0 d:=by
 obtain⟨q1,q2,q3,q4⟩:=h.big;have c1:=O9 d q1 q2 q3 q4;have c2:=Ot s hs;refine zT tys_ok Tryz.func29 rfl rfl (Ag rfl) ?_;conv=>whnf
 apply zW (0) tys_ok mixed (.o [0,1,3,2,4,5,6,7] .fin) (by kernel_rfl);conv=>whnf
 (refine zV c1 rfl ?_;rintro _ _ ⟨rfl,rfl⟩)
 conv=>whnf
 refine zZ c2 ?_;exact⟨_, .bp 0 0,JC g s 0 d,fun _ _ h=>h,zS (s:= [6,3,4,5]) tA,rfl,rfl⟩
@[reducible] def Te (a:An) (x:AV):List AV:= [iv a.gen,iv a.epoch,iv a.pos,iv a.seq,iv a.last, .v (.string a.label),x]
@[reducible] def stX (s:Stt) (x y:AV):List AV:= [iv s.a.gen,iv s.a.epoch,iv s.a.pos,iv s.a.seq,iv s.a.last, .v (.string s.a.label),x,y, .v (.bool s.only),iv s.cursor,iv s.found,iv s.fixed,iv s.moved,iA s.lost]
theorem Oq (l:List Tx) (hl:l.length<=1000000) (hi:∀ t∈l,t.images.length<=1000000/\∀ x∈t.images,x.bytes.length<=1000000000):ACalls Tryz.prog false 64 [DH l] [] fun r H=>r = .ow 0 l.length/\H=[.row 112 4 (l.map CV)]:=by
 refine zT tys_ok Tryz.func64 rfl rfl (Ag rfl) ?_;conv=>whnf
 refine zU Nat (fun k=>([(0,DH l),(3, .ow 0 k),(4,ze k)], [.row 112 4 ((l.take k).map CV)])) (fun k=>k<=l.length) (fun k=>l.length - k) 0 (Aj _)
  ⟨_,_,zF _ _, [(3,112,4)],tA, [0],tA⟩ ?_
 intro k hk;conv=>whnf
 refine A7 (fun h6=>?_) (fun h6=>?_) <;> (repeat rw [Ab] at h6) <;> conv=>whnf
 ·have hk':k<l.length:=by omega
  have hm:=hi _ (A5 (d:=(⟨0,0,0, []⟩:Tx)) hk');have b1:=IS (l.getD k ⟨0,0,0, []⟩).images hm.1 hm.2;have hl:k=((l.take k).map CV).length:=by simp;omega
  apply zW (0) tys_ok mixed (.o [0,1,2,3,4,5,6,7,8,9,10,11,12,13,14,15,16,17,18,19,20,21,22,23,24,25] .fin) (by kernel_rfl);conv=>whnf
  try (refine tI ?_;conv=>whnf)
  try (refine tI ?_;conv=>whnf)
  try (refine tI ?_;conv=>whnf)
  try (refine tI ?_;conv=>whnf)
  refine zZ b1 ?_;conv=>whnf
  try (refine tJ ?_;conv=>whnf)
  try (refine tK ?_;conv=>whnf)
  all_goals exact⟨k+1,hk',by omega,zS (s:= [0]) ⟨⟨rfl,rfl,AI (by omega),tv⟩,⟨congrArg (fun l=>some (AB.row _ _ l)) (FO (f:=CV) (d:=(⟨0,0,0, []⟩:Tx)) hk').symm,tv⟩,rfl,rfl,rfl,rfl,rfl⟩⟩
 ·have ek:k=l.length:=by omega
  subst ek;rw [Aw];exact⟨.ow 0 l.length, .ow 0 l.length, [.row 112 4 (l.map CV)],fun _ _ h=>h,zS (s:= [0]) tA,rfl,rfl⟩
theorem LF (a:An) (hh:a.homes.length<=1000) (hp:∀ h∈a.homes,h.places.length<=1000000):ACalls Tryz.prog false 63 [.ag (Ft a)] [] fun r H=>r = .ag (Te a (.ow 0 a.homes.length))/\H=[.row 177 3 (a.homes.map ES)]:=by
 refine zT tys_ok Tryz.func63 rfl rfl (Ag rfl) ?_;conv=>whnf
 refine zM Nat (fun k=>([(1, .bp 0 0),(2, .bp 1 0),(3,Jr a.homes),(4,iv k)], [.box 33 [iv a.gen,iv a.epoch,iv a.pos,iv a.seq,iv a.last, .v (.string a.label), .ow 2 k], .box 33 [iv 0,iv 0,iv 0,iv 0,iv 0, .v (.string ⟨#[]⟩), .v (.slice none 0 0)], .row 177 3 ((a.homes.take k).map ES)])) (fun k=>k<=a.homes.length) (fun k=>a.homes.length - k) 0 (Aj _) ⟨[(1000006,177,3)],tA,tA,tA,rfl,rfl,rfl⟩ ?_;intro k hk;conv=>whnf
 refine A7 (fun c1=>?_) (fun c1=>?_) <;> (repeat rw [Ab] at c1) <;> conv=>whnf
 ·have ti:=GG (a.homes.getD k ⟨[],0,0⟩).places (hp _ (A5 c1));refine zC tys_ok mixed [0,1,2,3,4,5,6,8,9,10,11,12,13,14,15,16,17,7,18,19,20,21,22] (by kernel_rfl) ?_;conv=>whnf
  repeat' (first | (refine z_ ?_;conv=>whnf) | (refine A7 (fun _=>?_) (fun _=>?_) <;> conv=>whnf) | (refine zZ ti ?_;conv=>whnf) | (refine Ae (by first | omega | exact of_decide_eq_true rfl) ?_;conv=>whnf) | fail)
  refine Ae ⟨by rw [Ac,Au];omega,by omega⟩ ?_;exact⟨k+1,by omega,by omega, [],tv,⟨rfl,rfl,rfl,AI (by omega),tv⟩,⟨rfl,rfl,congrArg (AB.row _ _) (GT c1),tv⟩,rfl,rfl,rfl⟩
 ·have ek:k=a.homes.length:=by omega
  subst ek;rw [Aw];exact⟨.ag (Te a (.ow 2 a.homes.length)), .ag (Te a (.ow 0 a.homes.length)), [.row 177 3 (a.homes.map ES)],fun _ _ h=>h,zS (s:= [2]) tA,rfl,rfl⟩
theorem IR (s:Stt) (h:StSm s):ACalls Tryz.prog false 24 [.ag (Fe s)] [] fun r H=>r = .ag (stX s (.ow 0 s.a.homes.length) (.ow 1 s.txns.length))/\H=[.row 177 3 (s.a.homes.map ES), .row 112 4 (s.txns.map CV)]:=by
 have c1:=LF s.a (by have:=h.h.1;omega) h.h.2;have c2:=Oq s.txns (by have:=h.t.1;omega) (fun t ht=>⟨by have:=(h.t.2 t ht).1;omega,fun x hx=>by have:=(h.t.2 t ht).2 x hx;omega⟩);have c3:=GG s.lost h.o;refine zT tys_ok Tryz.func24 rfl rfl (Ag rfl) ?_;conv=>whnf
 apply zW (0) tys_ok mixed (.o [0,1,3,4,6,7,8,2,10,5,9,11,12,13,14,15,16] .fin) (by kernel_rfl);conv=>whnf
 (refine zV c1 rfl ?_;rintro _ _ ⟨rfl,rfl⟩)
 conv=>whnf
 (refine zV c2 rfl ?_;rintro _ _ ⟨rfl,rfl⟩)
 conv=>whnf
 refine zZ c3 ?_;conv=>whnf
 try (refine tS ?_;conv=>whnf)
 try (refine tS ?_;conv=>whnf)
 try (refine tS ?_;conv=>whnf)
 all_goals exact⟨.ag (stX s (.ow 2 s.a.homes.length) (.ow 3 s.txns.length)), .ag (stX s (.ow 0 s.a.homes.length) (.ow 1 s.txns.length)), [.row 177 3 (s.a.homes.map ES), .row 112 4 (s.txns.map CV)],fun _ _ h=>h,zS (s:= [2,3]) tA,rfl,rfl⟩
@[reducible] def ZC (g:Geo) (x hm tx:AV) (s:Stt) (e:Int):List AV:= [iv g.z,iv g.d,iv g.sp,iv g.sl,iv g.an,x,iv s.a.gen,iv s.a.epoch,iv s.a.pos,iv s.a.seq,iv s.a.last, .v (.string s.a.label),hm,tx, .v (.bool s.only),iv s.cursor,iv s.found,iv s.fixed,iv s.moved,iA s.lost,iv e]
@[reducible] def FB (g:Geo) (s:Stt) (e:Int) (d:Dk):List AB:= [.box 83 (ZC g (.bp 1 0) (.ow 4 s.a.homes.length) (.ow 5 s.txns.length) s e), .box 85 (GX (.ow 2 d.cells.length) (.ow 3 d.cache.length) d.reqs d.left), .row 128 3 (d.cells.map B7), .row 134 2 (d.cache.map EE), .row 177 3 (s.a.homes.map ES), .row 112 4 (s.txns.map CV)]
@[reducible] def rwP (g:Geo) (s:Stt) (e:Int) (d:Dk):List AB:= [.box 83 (ZC g (.bp 1 0) (.ow 4 s.a.homes.length) (.ow 5 s.txns.length) s e), .box 85 (GX (.ow 2 d.cells.length) (.ow 6 d.cache.length) d.reqs d.left), .row 128 3 (d.cells.map B7), .dead, .row 177 3 (s.a.homes.map ES), .row 112 4 (s.txns.map CV), .row 134 2 (d.cache.map EE)]
theorem ZE (g:Geo) (s:Stt) (e:Int) (d:Dk):ConvH (FB g s e d) (rwP g s e d):=zt (H:=FB g s e d) 1 3 (by decide) rfl rfl
theorem L_ (g:Geo) (d:Dk) (s:Stt) (h:DkOk d) (hs:StSm s):ACalls Tryz.prog false 29 [.ag (AU g), .ag (EP d), .ag (Fe s)] [] fun r H=>r = .bp 0 0/\H=FB g s 0 d:=by
 obtain⟨q1,q2,q3,q4⟩:=h.big;have c1:=O9 d q1 q2 q3 q4;have c2:=IR s hs;refine zT tys_ok Tryz.func29 rfl rfl (Ag rfl) ?_;conv=>whnf
 apply zW (0) tys_ok mixed (.o [0,1,3,2,4,5,6,7] .fin) (by kernel_rfl);conv=>whnf
 (refine zV c1 rfl ?_;rintro _ _ ⟨rfl,rfl⟩)
 conv=>whnf
 (refine zV c2 rfl ?_;rintro _ _ ⟨rfl,rfl⟩)
 exact⟨_, .bp 0 0,FB g s 0 d,fun _ _ h=>h,zS (s:= [8,3,4,5,6,7]) tA,rfl,rfl⟩
theorem Yn (g:Geo) (s:Stt) (d:Dk) (a:Int) (h:DkOk d) (ha:0<=a/\a<d.cells.length) :
  ACalls Tryz.prog false 79 [.bp 0 0,iv a] (FB g s 0 d) fun r H=>r = .ag (D7 ⟨(d.read a).2.2,(d.read a).2.1⟩)/\H=FB g s (if d.left=0 then 8 else 0) (d.read a).1:=by
 have hr:=PC d a h.l ha h.m (fun c hc=>by have:=(h.c c hc).2.1;omega) (fun w hw=>by have:=(h.w w hw).2;omega);have he:(d.left=0/\(d.read a).2.2=8)\/(¬d.left=0/\(d.read a).2.2≠8):=by
  unfold Dk.read;by_cases h0:d.left=0
  ·rw [if_pos h0];exact .inl ⟨h0,rfl⟩
  ·rw [if_neg h0];exact .inr ⟨h0,show (d.got a).2≠8 by have:=SP d a;omega⟩
 generalize d.read a=q at hr he |-
 obtain⟨D,b,e⟩:=q;simp only at hr he |-
 refine zT tys_ok Tryz.func79 rfl rfl (Ag rfl) ?_;conv=>whnf
 refine ze9 [1,2,3] hr ?_;rintro _ _ ⟨rfl,rfl⟩;rcases he with ⟨h0,rfl⟩ | ⟨h0,he⟩
 ·rw [if_pos h0];conv=>whnf
  repeat' (refine z_ ?_;conv=>whnf)
  exact⟨_, .ag (D7 ⟨8,b⟩),FB g s 8 D,fun _ _ h=>h,zS (s:= [0,1,2,3,4,5]) tA,rfl,rfl⟩
 ·rw [if_neg h0];conv=>whnf
  repeat' (refine z_ ?_;conv=>whnf)
  refine Ao (fun h8=>absurd (by simpa using h8) he) (fun _=>?_);conv=>whnf
  repeat' (refine z_ ?_;conv=>whnf)
  exact⟨_, .ag (D7 ⟨e,b⟩),FB g s 0 D,fun _ _ h=>h,zS (s:= [0,1,2,3,4,5]) tA,rfl,rfl⟩
theorem Yl (g:Geo) (s:Stt) (d:Dk) (a:Int) (b:List UInt8) (h:DkOk d) (ha:0<=a/\a<d.cells.length) (hb:b.length<=200) :
  ACalls Tryz.prog false 88 [.bp 0 0,iv a,bA b] (FB g s 0 d) fun r H=>r = .v (.bool (decide ((d.write a b).2=0)))/\H=FB g s (if (d.write a b).2=8 then 8 else 0) (d.write a b).1:=by
 have hr:=Nv d a b h.l ha h.m (by omega);have he:=Kf d a b;generalize d.write a b=q at hr he |-
 obtain⟨D,e⟩:=q;simp only at hr he |-
 refine zT tys_ok Tryz.func88 rfl rfl (Ag rfl) ?_;conv=>whnf
 refine ze9 [1,2,3] hr ?_;rintro _ _ ⟨rfl,rfl⟩;rcases he with rfl | rfl | rfl
 all_goals
  conv=>whnf
  repeat' (refine z_ ?_;conv=>whnf)
 ·exact⟨_, .v (.bool false),FB g s 8 D,fun _ _ h=>h,zS (s:= [0,1,2,3,4,5]) tA,rfl,rfl⟩
 ·exact⟨_, .v (.bool false),FB g s 0 D,fun _ _ h=>h,zS (s:= [0,1,2,3,4,5]) tA,rfl,rfl⟩
 ·exact⟨_, .v (.bool true),FB g s 0 D,fun _ _ h=>h,zS (s:= [0,1,2,3,4,5]) tA,rfl,rfl⟩
theorem Yt (g:Geo) (s:Stt) (e:Int) (d:Dk) (h:DkOk d) :
  ACalls Tryz.prog false 90 [.bp 0 0] (FB g s e d) fun r H=>r = .tp []/\H=rwP g s (if e=0 then if d.left=0 then 8 else 0 else e) (if e=0 then if d.left=0 then d else d.flush else d):=by
 have hf:=N2 d h.l h.m (fun w hw=>(h.w w hw).1) (fun w hw=>by have:=(h.w w hw).2;omega);by_cases he:e=0
 ·subst he;rw [if_pos rfl,if_pos rfl];refine zT tys_ok Tryz.func90 rfl rfl (Ag rfl) ?_;conv=>whnf
  refine ze9 [1,2,3] hf ?_;rintro _ _ ⟨rfl,rfl⟩;by_cases h0:d.left=0;all_goals
   simp only [h0,if_true,if_false];exact⟨_, .tp [],rwP g s _ _,fun _ _ h=>h,zS (s:= [0,1,2,3,4,5,6]) tA,rfl,rfl⟩
 ·rw [if_neg he,if_neg he];have hb:(e == 0)=false:=beq_eq_false_iff_ne.2 he;refine zT tys_ok Tryz.func90 rfl rfl (Ag rfl) ?_;conv=>whnf
  rw [hb];exact⟨_, .tp [],rwP g s e d,fun _ _ h=>h,zG (zJ (ZE g s e d)) (s:= [0,1,2,3,4,5,6]) tA,rfl,rfl⟩

theorem Mz {α:Type} {n i:Nat} {a d:α} (h:i<n):(List.replicate n a).getD i d=a:=by rw [Aa,C7 h];try rfl
theorem Th {i:Nat} (h:i<8):zero8.getD i 0=0:=by
 have:i=0\/i=1\/i=2\/i=3\/i=4\/i=5\/i=6\/i=7:=by omega
 rcases this with rfl | rfl | rfl | rfl | rfl | rfl | rfl | rfl <;> rfl
def Ll (cs:List Cel) (w:Wr):List Cel:=cs.set w.addr.toNat { cs.getD w.addr.toNat cz with bytes:=w.bytes }
def EJ (cs:List Cel) (l:List Wr):List Cel:=l.foldl Ll cs
theorem Ql (cs:List Cel) (w:Wr):(Ll cs w).length=cs.length:=by simp [Ll]
theorem F4 (l:List Wr):∀ cs:List Cel,(EJ cs l).length=cs.length:=by
 induction l with
 | nil=>intro cs;rfl
 | cons w l ih=>intro cs;show (EJ (Ll cs w) l).length=_;rw [ih,Ql]
theorem IE (cs:List Cel) {l:List Wr} {k:Nat} (h:k<l.length):EJ cs (l.take (k+1))=Ll (EJ cs (l.take k)) (l.getD k ⟨0, []⟩):=by
 unfold EJ;rw [AZ,BJ,Af h];simp [Aa,Af h]
theorem JR (cs:List Cel) (w:Wr):(Ll cs w).map B7=(cs.map B7).set w.addr.toNat (B7 { cs.getD w.addr.toNat cz with bytes:=w.bytes }):=by rw [Ll,BM]
def Ju (g:Geo):List Cel:=List.replicate (Aq g).toNat cz
def HE (g:Geo) (c:Int):List Wr:=(List.range g.sl.toNat).map fun i=>⟨Bh g c (i:Nat),BG g zeroC c (i:Nat)⟩
def IK (g:Geo) (z:Int):List Wr:=(List.range 2).map fun k=>⟨A6 g z (k:Nat),Ce (A6 g z (k:Nat)) 0 (Da (Fd g))⟩
def HP (g:Geo) (z:Int):List Wr:=(List.range (CK g).toNat).map fun i=>⟨Co g z (i:Nat),Ce (Co g z (i:Nat)) 0 zero8⟩
def Xb (g:Geo) (s:ByteArray):List Cel:=EJ (Ju g) (Ba g (BO g s))
def O_ (g:Geo) (s:ByteArray):Nat->List Cel
 | 0=>Xb g s
 | c+1=>EJ (O_ g s c) (HE g (c:Nat))
def HH (g:Geo) (s:ByteArray):Nat->List Cel
 | 0=>O_ g s 2
 | z+1=>EJ (EJ (HH g s z) (IK g (z:Nat))) (HP g (z:Nat))
def G9 (g:Geo) (s:ByteArray):Dk:=⟨HH g s g.z.toNat, [],0, -1⟩
theorem M8 (g:Geo):(Ju g).length=(Aq g).toNat:=by simp [Ju]
theorem Xa (g:Geo) (s:ByteArray):(Xb g s).length=(Aq g).toNat:=by rw [Xb,F4,M8]
theorem M7 (g:Geo) (s:ByteArray):∀ c,(O_ g s c).length=(Aq g).toNat
 | 0=>Xa g s
 | c+1=>by rw [O_,F4,M7 g s c]
theorem Hk (g:Geo) (s:ByteArray):∀ z,(HH g s z).length=(Aq g).toNat
 | 0=>M7 g s 2
 | z+1=>by rw [HH,F4,F4,Hk g s z]
theorem Kn {α:Type} {f:Nat->α} {n k:Nat} {d:α} (h:k<n):((List.range n).map f).getD k d=f k:=by
 rw [Bd (d:=0) (by simpa using h),Aa,Bl h];try rfl
theorem EG {g:Geo} (hg:Bm g=true):Fz g zeroC=true:=by
 simp [Fz,hg,Gf,zeroC,IW]
theorem JS (cs:List Cel) (l m:List Wr):EJ cs (l ++ m)=EJ (EJ cs l) m:=by unfold EJ;rw [BJ]
theorem Gq (cs:List Cel) (i a:Nat) (x:Cel) (ha:a<cs.length):(cs.set i x).getD a cz=if i=a then x else cs.getD a cz:=by
 rw [Aa,DX];by_cases h:i=a
 ·subst h;rw [if_pos rfl,if_pos rfl,if_pos ha];try rfl
 ·rw [if_neg h,if_neg h,<-Aa]
theorem WZ (cs:List Cel) (w:Wr) (a:Nat) (ha:a<cs.length):(Ll cs w).getD a cz=if w.addr.toNat=a then { cs.getD a cz with bytes:=w.bytes } else cs.getD a cz:=by
 unfold Ll;rw [Gq _ _ _ _ ha];split
 ·rename_i h;rw [h]
 ·rfl
theorem NS {F:List UInt8}:∀ (l:List Wr) (cs:List Cel) (a:Nat),a<cs.length->(∀ w∈l,w.addr.toNat=a->w.bytes=F)->((∃ w∈l,w.addr.toNat=a)\/(cs.getD a cz).bytes=F)->(EJ cs l).getD a cz={ cs.getD a cz with bytes:=F }
 | [],cs,a,_,_,h=>by
  rcases h with ⟨w,hw,_⟩ | h
  ·cases hw
  ·show cs.getD a cz=_;rw [<-h]
 | w::l,cs,a,ha,hF,h=>by
  have hs:=WZ cs w a ha;have ha':a<(Ll cs w).length:=by rw [Ql];exact ha
  have ih:=NS (F:=F) l (Ll cs w) a ha' (fun x hx=>hF x (AM _ hx));show (EJ (Ll cs w) l).getD a cz=_;by_cases e:w.addr.toNat=a
  ·rw [if_pos e,hF w (by simp) e] at hs;rw [ih (.inr (by rw [hs])),hs]
  ·rw [if_neg e] at hs;rw [ih ?_,hs];rcases h with ⟨x,hx,hxa⟩ | h
   ·rcases AK.1 hx with rfl | hx
    ·exact absurd hxa e
    ·exact .inl ⟨x,hx,hxa⟩
   ·exact .inr (by rw [hs];exact h)
def K8 (g:Geo):Nat->List Wr
 | 0=> []
 | z+1=>K8 g z ++ (IK g (z:Nat) ++ HP g (z:Nat))
def OZ (g:Geo) (s:ByteArray):List Wr:=Ba g (BO g s) ++ (HE g 0 ++ (HE g 1 ++ K8 g g.z.toNat))
theorem W_ (g:Geo) (s:ByteArray):∀ z,HH g s z=EJ (Ju g) (Ba g (BO g s) ++ (HE g 0 ++ (HE g 1 ++ K8 g z)))
 | 0=>by
  show EJ (EJ (Xb g s) (HE g 0)) (HE g 1)=_;rw [Xb,<-JS,<-JS,K8,AT]
 | z+1=>by
  rw [HH,W_ g s z,<-JS,<-JS,K8];simp only [AE]
def Ga (g:Geo) (s:ByteArray) (a:Int):List UInt8:=
 if a<g.an then Dq (BO g s) a else if a<g.an+g.sl then BG g zeroC 0 (a - g.an) else if a<g.an+2*g.sl then BG g zeroC 1 (a - g.an - g.sl)
 else if a<g.an+2*g.sl+2*g.z then Ce a 0 (Da (Fd g)) else Ce a 0 zero8
theorem I0 {g:Geo} (hg:Bm g=true):∀ (n:Nat) (w:Wr),(n:Int)<=g.z->(w∈K8 g n↔(∃ z k:Nat,z<n/\k<2/\w=⟨A6 g z k,Ce (A6 g z k) 0 (Da (Fd g))⟩)\/∃ z i:Nat,z<n/\i<(CK g).toNat/\w=⟨Co g z i,Ce (Co g z i) 0 zero8⟩)
 | 0,w,_=>by simp [K8]
 | n+1,w,h=>by
  rw [K8,A2,A2,I0 hg n w (by omega)];simp only [IK,HP,AQ,AR];constructor
  ·rintro((⟨z,k,h1,h2,h3⟩ | ⟨z,i,h1,h2,h3⟩) | ⟨k,h1,h2⟩ | ⟨i,h1,h2⟩)
   ·exact .inl ⟨z,k,by omega,h2,h3⟩
   ·exact .inr ⟨z,i,by omega,h2,h3⟩
   ·exact .inl ⟨n,k,by omega,h1,h2.symm⟩
   ·exact .inr ⟨n,i,by omega,h1,h2.symm⟩
  ·rintro(⟨z,k,h1,h2,h3⟩ | ⟨z,i,h1,h2,h3⟩)
   ·by_cases e:z=n
    ·subst e;exact .inr (.inl ⟨k,h2,h3.symm⟩)
    ·exact .inl (.inl ⟨z,k,by omega,h2,h3⟩)
   ·by_cases e:z=n
    ·subst e;exact .inr (.inr ⟨i,h2,h3.symm⟩)
    ·exact .inl (.inr ⟨z,i,by omega,h2,h3⟩)
theorem SU {g:Geo} {s:ByteArray} {a:Int} (h:a<g.an):Ga g s a=Dq (BO g s) a:=if_pos h
theorem JT {g:Geo} {s:ByteArray} {c:Int} {i:Nat} (hc:c=0\/c=1) (hi:(i:Int)<g.sl):Ga g s (Bh g c i)=BG g zeroC c i:=by
 unfold Ga Bh;rcases hc with rfl | rfl
 ·rw [if_neg (by omega),if_pos (by omega)];congr 1;omega
 ·rw [if_neg (by omega),if_neg (by omega),if_pos (by omega)];congr 1;omega
theorem Qm {g:Geo} {s:ByteArray} {z k:Nat} (h0:0<=g.sl) (hz:(z:Int)<g.z) (hk:k<2):Ga g s (A6 g z k)=Ce (A6 g z k) 0 (Da (Fd g)):=by
 unfold Ga;have:A6 g z k=g.an+2*g.sl+2*z+k:=rfl;rw [if_neg (by omega),if_neg (by omega),if_neg (by omega),if_pos (by omega)]
theorem NT {g:Geo} {s:ByteArray} {z i:Nat} (h0:0<=g.sl) (h1:0<=g.z) (h2:0<=CK g):Ga g s (Co g z i)=Ce (Co g z i) 0 zero8:=by
 unfold Ga;have:Co g z i=g.an+2*g.sl+2*g.z+z*CK g+i:=rfl;have:0<=(z:Int)*CK g:=Df (by omega) h2;rw [if_neg (by omega),if_neg (by omega),if_neg (by omega),if_neg (by omega)]
theorem PQ {g:Geo} (hg:Bm g=true):0<CK g:=by
 obtain⟨g1,g2,g3,g4,g5⟩:=Ar.1 hg;unfold CK;omega
theorem WY {g:Geo} {s:ByteArray} (hg:Bm g=true):∀ w∈OZ g s,0<=w.addr/\w.bytes=Ga g s w.addr:=by
 obtain⟨g1,g2,g3,g4,g5⟩:=Ar.1 hg;have hp:=PQ hg;intro w hw;simp only [OZ,A2,I0 hg g.z.toNat w (by omega)] at hw;rcases hw with hw | hw | hw | ⟨z,k,h1,h2,rfl⟩ | ⟨z,i,h1,h2,rfl⟩
 ·simp only [Ba,AQ,AR] at hw;obtain⟨i,hi,rfl⟩:=hw;exact⟨by show (0:Int)<=(i:Nat);omega,(SU (by show ((i:Nat):Int)<g.an;omega)).symm⟩
 ·simp only [HE,AQ,AR] at hw;obtain⟨i,hi,rfl⟩:=hw;exact⟨by show 0<=Bh g 0 i;unfold Bh;omega,(JT (.inl rfl) (by omega)).symm⟩
 ·simp only [HE,AQ,AR] at hw;obtain⟨i,hi,rfl⟩:=hw;exact⟨by show 0<=Bh g 1 i;unfold Bh;omega,(JT (.inr rfl) (by omega)).symm⟩
 ·exact⟨by show 0<=A6 g z k;unfold A6;omega,(Qm (by omega) (by omega) h2).symm⟩
 ·have:0<=(z:Int)*CK g:=Df (by omega) (by omega);exact⟨by show 0<=Co g z i;unfold Co;omega,(NT (by omega) (by omega) (by omega)).symm⟩
theorem WX {g:Geo} {s:ByteArray} (hg:Bm g=true) {a:Int} (h0:0<=a) (h:a<Aq g):∃ w∈OZ g s,w.addr=a:=by
 obtain⟨g1,g2,g3,g4,g5⟩:=Ar.1 hg;have hp:=PQ hg;by_cases h1:a<g.an
 ·refine⟨⟨a,Dq (BO g s) a⟩,?_,rfl⟩;simp only [OZ,A2,Ba,AQ,AR];exact .inl ⟨a.toNat,by omega,by rw [C5 h0]⟩
 ·have hlog:∀ (c:Int) (i:Nat),(c=0\/c=1)->(i:Int)<g.sl->∃ w∈OZ g s,w.addr=Bh g c i:=fun c i hc hi=>by
   refine⟨⟨Bh g c i,BG g zeroC c i⟩,?_,rfl⟩;simp only [OZ,A2,HE,AQ,AR];rcases hc with rfl | rfl
   ·exact .inr (.inl ⟨i,by omega,rfl⟩)
   ·exact .inr (.inr (.inl ⟨i,by omega,rfl⟩))
  by_cases h2:a<g.an+g.sl
  ·obtain⟨w,hw,e⟩:=hlog 0 (a - g.an).toNat (.inl rfl) (by omega);exact⟨w,hw,by rw [e];unfold Bh;omega⟩
  ·by_cases h3:a<g.an+2*g.sl
   ·obtain⟨w,hw,e⟩:=hlog 1 (a - g.an - g.sl).toNat (.inr rfl) (by omega);exact⟨w,hw,by rw [e];unfold Bh;omega⟩
   ·by_cases h4:a<g.an+2*g.sl+2*g.z
    ·refine⟨⟨A6 g (((a - (g.an+2*g.sl)).toNat / 2:Nat)) ((a - (g.an+2*g.sl)).toNat % 2:Nat),Ce (A6 g (((a - (g.an+2*g.sl)).toNat / 2:Nat)) ((a - (g.an+2*g.sl)).toNat % 2:Nat)) 0 (Da (Fd g))⟩,?_,by show A6 g _ _=a;unfold A6;omega⟩;simp only [OZ,A2,I0 hg g.z.toNat _ (by omega)];exact .inr (.inr (.inr (.inl ⟨_,_,by omega,by omega,rfl⟩)))
    ·have hq:a - (g.an+2*g.sl+2*g.z)=((a - (g.an+2*g.sl+2*g.z)).toNat:Int):=by omega
     generalize hX:(a - (g.an+2*g.sl+2*g.z)).toNat=X at hq;have hP:CK g=((CK g).toNat:Int):=by omega
     have hX2:X<g.z.toNat*(CK g).toNat:=by
      have:(X:Int)<g.z*CK g:=by unfold Aq at h;omega
      rw [hP,show g.z=(g.z.toNat:Int) by omega] at this
      exact_mod_cast this
     generalize hPn:(CK g).toNat=p at hP hX2;have hp0:0<p:=by omega
     have hdm:(X / p)*p+X % p=X:=Nat.div_add_mod' X p;refine⟨⟨Co g ((X / p:Nat)) ((X % p:Nat)),Ce (Co g ((X / p:Nat)) ((X % p:Nat))) 0 zero8⟩,?_,?_⟩
     ·simp only [OZ,A2,I0 hg g.z.toNat _ (by omega)];exact .inr (.inr (.inr (.inr ⟨X / p,X % p,Nat.div_lt_of_lt_mul (by rw [Nat.mul_comm];exact hX2),by rw [hPn];exact Nat.mod_lt _ hp0,rfl⟩)))
     ·show Co g _ _=a;unfold Co;rw [hP];have:((X / p:Nat):Int)*(p:Int)+((X % p:Nat):Int)=(X:Int):=by exact_mod_cast hdm
      omega
theorem M6 {g:Geo} {s:ByteArray} (hg:Bm g=true) {a:Int} (h0:0<=a) (h:a<Aq g):(G9 g s).cells.getD a.toNat cz=⟨0,Ga g s a, []⟩:=by
 have hl:a.toNat<(Ju g).length:=by rw [M8];omega
 obtain⟨w,hw,e⟩:=WX (s:=s) hg h0 h;have hall:=WY (s:=s) hg;show (HH g s g.z.toNat).getD a.toNat cz=_;rw [W_];refine(NS (F:=Ga g s a) (OZ g s) (Ju g) a.toNat hl (fun x hx hxa=>?_) (.inl ⟨w,hw,by rw [e]⟩)).trans ?_
 ·have:=hall x hx;rw [this.2];congr 1;omega
 ·have:(Ju g).getD a.toNat cz=cz:=by
   unfold Ju;rw [Aa,CO];split <;> rfl
  rw [this];try rfl
structure Holds (d:Dk) (n:Int) (F:Int->List UInt8):Prop where
 len:(d.cells.length:Int)=n
 cache:d.cache=[]
 cell:∀ a:Int,0<=a->a<n->(d.cells.getD a.toNat cz).state=0/\(d.cells.getD a.toNat cz).bytes=F a
theorem Holds.got {d:Dk} {n:Int} {F:Int->List UInt8} (h:Holds d n F) {a:Int} (h0:0<=a) (h1:a<n):OW d a=⟨0,F a⟩:=by
 obtain⟨e1,e2⟩:=h.cell a h0 h1;have hg:d.got a=((d.cells.getD a.toNat cz).bytes,0):=by
  unfold Dk.got;rw [h.cache];simp only [NE];rw [show (d.cells.getD a.toNat ⟨0, [], []⟩)=d.cells.getD a.toNat cz from rfl,if_pos e1]
 rw [OW,hg,e2]
theorem ID {g:Geo} {s:ByteArray} (hg:Bm g=true):Holds (G9 g s) (Aq g) (Ga g s):=by
 have hc:=Ey hg;obtain⟨g1,g2,g3,g4,g5⟩:=Ar.1 hg;refine⟨?_,rfl,fun a h0 h1=>by rw [M6 hg h0 h1];exact tA⟩;show ((HH g s g.z.toNat).length:Int)=_;rw [Hk];omega
def Dk.tick (k:Nat) (d:Dk):Dk:=⟨d.cells,d.cache,min (d.reqs+k) 1048576,if d.left<0 then d.left else d.left - k⟩
structure Lv (d:Dk) (k:Nat):Prop where
 r:0<=d.reqs/\d.reqs<=1048576
 l:d.left<0\/(k:Int)<=d.left
theorem Lv.le {d:Dk} {k j:Nat} (h:Lv d k) (hj:j<=k):Lv d j:=⟨h.r,by have:=h.l;omega⟩
theorem LW {d:Dk} (h:0<=d.reqs/\d.reqs<=1048576) (_h0:d.left≠0) (hl:d.left<0\/1<=d.left):d.req=d.tick 1:=by
 unfold Dk.req Dk.tick;rw [wi (by omega)];congr 1
 ·split <;> omega
 ·split <;> split <;> omega
theorem G_ {d:Dk} (a b:Nat) (_hr:d.reqs<=1048576) (h:d.left<0\/(a:Int)<=d.left):(d.tick a).tick b=d.tick (a+b):=by
 unfold Dk.tick;congr 1
 ·simp only;omega
 ·simp only;by_cases h':d.left<0
  ·simp only [h',if_true]
  ·rw [if_neg h',if_neg (by omega),if_neg h'];omega
theorem Nn {d:Dk} (hr:d.reqs<=1048576):d.tick 0=d:=by
 unfold Dk.tick;obtain⟨c,ca,r,l⟩:=d;simp only [Dk.mk.injEq,true_and] at hr |-
 constructor
 ·omega
 ·split <;> omega
theorem J8 {d:Dk} {a b:Nat} (h:Lv d (a+b)):Lv (d.tick a) b:=by
 have:=h.r;have:=h.l;refine⟨?_,?_⟩
 ·show 0<=min _ _/\min _ _<=_;omega
 ·show (if d.left<0 then d.left else d.left - a)<0\/(b:Int)<=(if d.left<0 then d.left else d.left - a);split <;> omega
theorem Kb {d:Dk}:∀ (k:Nat),Lv d k->d.adv k=d.tick k
 | 0,h=>(Nn h.r.2).symm
 | k+1,h=>by
  have ih:=Kb k (h.le (by omega));have h1:=J8 (a:=k) (b:=1) h;have h2:=h1.l;show (if (d.adv k).left=0 then d.adv k else (d.adv k).req)=_;rw [ih,if_neg (by omega),LW h1.r (by omega) (by omega),G_ k 1 h.r.2 (by have:=h.l;omega)]
def free (cs:List Cel) (w:Wr):Bool:=decide ((cs.getD w.addr.toNat cz).state≠2)
theorem QN {d:Dk} {w:Wr} (h:Lv d 1) (hc:d.cache.length<2000):d.write w.addr w.bytes=if free d.cells w then (⟨d.cells,d.cache ++ [w],(d.tick 1).reqs,(d.tick 1).left⟩,0) else (d.tick 1,7):=by
 have:=h.l;unfold Dk.write free;rw [if_neg (by omega),LW h.r (by omega) (by omega)];by_cases h2:(d.cells.getD w.addr.toNat cz).state=2
 ·rw [if_pos (.inl h2),if_neg (by simpa using h2)]
 ·rw [if_neg (by rintro(h3 | h3);exact h2 h3;omega),if_pos (by simpa using h2)];try rfl
theorem writes_go:∀ (l:List Wr) (d:Dk) (n:Nat),Lv d l.length->d.cache.length+l.length<=2000->l.foldl Gg (d,n,false)=(⟨d.cells,d.cache ++ l.filter (free d.cells),(d.tick l.length).reqs,(d.tick l.length).left⟩,n+(l.filter (free d.cells)).length,false)
 | [],d,n,h,_=>by
  show (d,n,false)=_;rw [show ([]:List Wr).length=0 from rfl,Nn h.r.2];simp only [List.filter_nil,AT,Bf,CF]
 | w::l,d,n,h,hc=>by
  have hl:(w::l).length=l.length+1:=rfl;rw [hl] at h hc |-
  have hw:=QN (w:=w) (h.le (show 1<=l.length+1 by omega)) (by omega);have h1:Lv (d.tick 1) l.length:=J8 (by rw [Db];exact h);have ht:=G_ (d:=d) 1 l.length h.r.2 (by have:=h.l;omega);rw [Db] at ht;show l.foldl Gg (Gg (d,n,false) w)=_;have hs:Gg (d,n,false) w=(match d.write w.addr w.bytes with | (d,e)=>if e=8 then (d,n,true) else (d,n+(if e=0 then 1 else 0),false)):=by
   unfold Gg;rw [if_neg (by simp)]
  rw [hs,hw];cases hf:free d.cells w with
  | true=>
   simp only [if_true];rw [if_neg (by decide)];have hgo:=writes_go l ⟨d.cells,d.cache ++ [w],(d.tick 1).reqs,(d.tick 1).left⟩ (n+1) ⟨h1.r,h1.l⟩ (by simp;omega);have e1:((⟨d.cells,d.cache ++ [w],(d.tick 1).reqs,(d.tick 1).left⟩:Dk).tick l.length).reqs=(d.tick (l.length+1)).reqs/\((⟨d.cells,d.cache ++ [w],(d.tick 1).reqs,(d.tick 1).left⟩:Dk).tick l.length).left=(d.tick (l.length+1)).left:=by rw [<-ht];exact tA
   rw [e1.1,e1.2] at hgo;rw [hgo];simp only [List.filter_cons,hf,if_true,Am,AE,List.singleton_append,Prod.mk.injEq,and_true,true_and];omega
  | false=>
   simp only [CI,if_false];rw [if_neg (by decide),if_neg (by decide)];rw [writes_go l (d.tick 1) (n+0) h1 (by show d.cache.length+_<=_;omega),ht];simp only [List.filter_cons,hf,CI,if_false,CF];rfl
theorem Pp {d:Dk} {l:List Wr} (h:Lv d l.length) (hc:d.cache.length+l.length<=2000):d.writes l=(⟨d.cells,d.cache ++ l.filter (free d.cells),(d.tick l.length).reqs,(d.tick l.length).left⟩,(l.filter (free d.cells)).length,false):=by
 rw [Dk.writes,writes_go l d 0 h hc,A3]
def FK (cs:List Cel) (w:Wr):List Cel:=if (cs.getD w.addr.toNat cz).state=2 then cs else cs.set w.addr.toNat ⟨0,w.bytes,(cs.getD w.addr.toNat cz).bytes⟩
def CX (cs:List Cel) (l:List Wr):List Cel:=l.foldl FK cs
theorem Hq (cs:List Cel) (w:Wr):(FK cs w).length=cs.length:=by unfold FK;split <;> simp
theorem finL_len:∀ (l:List Wr) (cs:List Cel),(CX cs l).length=cs.length
 | [],_=>rfl
 | w::l,cs=>by show (CX (FK cs w) l).length=_;rw [finL_len l,Hq]
theorem U7 (d:Dk) (w:Wr):d.fin w={ d with cells:=FK d.cells w }:=by unfold Dk.fin FK;split <;> rfl
theorem allFin_cells:∀ (l:List Wr) (d:Dk),d.allFin l={ d with cells:=CX d.cells l }
 | [],_=>rfl
 | w::l,d=>by
  show (d.fin w).allFin l=_;rw [allFin_cells l,U7];try rfl
theorem GA (cs:List Cel) (w:Wr) (a:Nat) (ha:a<cs.length):(FK cs w).getD a cz=if w.addr.toNat=a/\(cs.getD a cz).state≠2 then ⟨0,w.bytes,(cs.getD a cz).bytes⟩ else cs.getD a cz:=by
 unfold FK;by_cases h:(cs.getD w.addr.toNat cz).state=2
 ·rw [if_pos h,if_neg];rintro⟨rfl,h2⟩;exact h2 h
 ·rw [if_neg h,Gq _ _ _ _ ha];by_cases e:w.addr.toNat=a
  ·subst e;rw [if_pos rfl,if_pos ⟨rfl,h⟩]
  ·rw [if_neg e,if_neg (fun h=>e h.1)]
theorem finL_miss:∀ (l:List Wr) (cs:List Cel) (a:Nat),a<cs.length->(∀ w∈l,w.addr.toNat≠a)->(CX cs l).getD a cz=cs.getD a cz
 | [],_,_,_,_=>rfl
 | w::l,cs,a,ha,h=>by
  have hs:=GA cs w a ha;rw [if_neg (fun e=>h w (by simp) e.1)] at hs;show (CX (FK cs w) l).getD a cz=_;rw [finL_miss l (FK cs w) a (by rw [Hq];exact ha) (fun x hx=>h x (AM _ hx)),hs]
theorem finL_stuck:∀ (l:List Wr) (cs:List Cel) (a:Nat),a<cs.length->(cs.getD a cz).state=2->(CX cs l).getD a cz=cs.getD a cz
 | [],_,_,_,_=>rfl
 | w::l,cs,a,ha,h=>by
  have hs:=GA cs w a ha;rw [if_neg (fun e=>e.2 h)] at hs;show (CX (FK cs w) l).getD a cz=_;rw [finL_stuck l (FK cs w) a (by rw [Hq];exact ha) (by rw [hs];exact h),hs]
theorem finL_any:∀ (l:List Wr) (cs:List Cel) (a:Nat),a<cs.length->(CX cs l).getD a cz=cs.getD a cz\/(cs.getD a cz).state≠2/\((CX cs l).getD a cz).state=0/\∃ w∈l,w.addr.toNat=a/\((CX cs l).getD a cz).bytes=w.bytes
 | [],_,_,_=> .inl rfl
 | w::l,cs,a,ha=>by
  have hs:=GA cs w a ha;have ih:=finL_any l (FK cs w) a (by rw [Hq];exact ha);by_cases e:w.addr.toNat=a/\(cs.getD a cz).state≠2
  ·rw [if_pos e] at hs;rcases ih with ih | ⟨h1,h2,x,hx,h3,h4⟩
   ·refine .inr ⟨e.2,?_,w,by simp,e.1,?_⟩
    ·show ((CX (FK cs w) l).getD a cz).state=0;rw [ih,hs]
    ·show ((CX (FK cs w) l).getD a cz).bytes=_;rw [ih,hs]
   ·exact .inr ⟨e.2,h2,x,AM _ hx,h3,h4⟩
  ·rw [if_neg e] at hs;rcases ih with ih | ⟨h1,h2,x,hx,h3,h4⟩
   ·exact .inl (ih.trans hs)
   ·exact .inr ⟨by rw [hs] at h1;exact h1,h2,x,AM _ hx,h3,h4⟩
theorem ML {F:List UInt8}:∀ (l:List Wr) (cs:List Cel) (a:Nat),a<cs.length->(cs.getD a cz).state≠2->(∀ w∈l,w.addr.toNat=a->w.bytes=F)->(∃ w∈l,w.addr.toNat=a)\/((cs.getD a cz).state=0/\(cs.getD a cz).bytes=F)->((CX cs l).getD a cz).state=0/\((CX cs l).getD a cz).bytes=F
 | [],cs,a,_,_,_,h=>by
  rcases h with ⟨w,hw,_⟩ | h
  ·cases hw
  ·exact h
 | w::l,cs,a,ha,h2,hF,h=>by
  have hs:=GA cs w a ha;have ha':a<(FK cs w).length:=by rw [Hq];exact ha
  show ((CX (FK cs w) l).getD a cz).state=0/\((CX (FK cs w) l).getD a cz).bytes=F;by_cases e:w.addr.toNat=a
  ·rw [if_pos ⟨e,h2⟩,hF w (by simp) e] at hs;exact ML l (FK cs w) a ha' (by rw [hs];show (0:Int)≠2;decide) (fun x hx=>hF x (AM _ hx)) (.inr (by rw [hs];exact tA))
  ·rw [if_neg (fun q=>e q.1)] at hs;refine ML l (FK cs w) a ha' (by rw [hs];exact h2) (fun x hx=>hF x (AM _ hx)) ?_;rcases h with ⟨x,hx,hxa⟩ | h
   ·rcases AK.1 hx with rfl | hx
    ·exact absurd hxa e
    ·exact .inl ⟨x,hx,hxa⟩
   ·exact .inr (by rw [hs];exact h)
theorem finL_free:∀ (l:List Wr) (cs cs0:List Cel),(∀ a,(cs.getD a cz).state=2↔(cs0.getD a cz).state=2)->CX cs (l.filter (free cs0))=CX cs l
 | [],_,_,_=>rfl
 | w::l,cs,cs0,h=>by
  have hstep:∀ a,((FK cs w).getD a cz).state=2↔(cs0.getD a cz).state=2:=fun a=>by
   rw [<-h a];by_cases ha:a<cs.length
   ·rw [GA cs w a ha];split
    ·rename_i e;constructor
     ·intro q;exact absurd q (by simp)
     ·intro q;exact absurd q e.2
    ·exact Iff.rfl
   ·rw [Aa,Aa,AG (by rw [Hq];omega),AG (by omega)]
  show _=CX (FK cs w) l;rw [List.filter_cons];by_cases hf:free cs0 w=true
  ·rw [if_pos hf];exact finL_free l (FK cs w) cs0 hstep
  ·rw [if_neg hf];have:FK cs w=cs:=by
    unfold FK;rw [if_pos];simp only [free,decide_eq_true_eq,Decidable.not_not] at hf;exact(h _).2 hf
   rw [this];exact finL_free l cs cs0 h
theorem JG {d:Dk} {l:List Wr} (h:Lv d (l.length+1)) (hc:d.cache=[]) (hl:l.length<=2000):d.putAll l=(⟨CX d.cells l, [],(d.tick (l.length+1)).reqs,(d.tick (l.length+1)).left⟩,(l.filter (free d.cells)).length,false):=by
 have hw:=Pp (h.le (show l.length<=l.length+1 by omega)) (by rw [hc];simpa using hl);have h1:=J8 (a:=l.length) (b:=1) h;have h2:=h1.l;rw [hc,B9] at hw;unfold Dk.putAll;rw [hw];simp only [CI,if_false];rw [if_neg (by show ¬(d.tick l.length).left=0;omega)];have ht:=G_ (d:=d) l.length 1 h.r.2 (by have:=h.l;omega);simp only [Prod.mk.injEq,and_true];unfold Dk.flush;rw [allFin_cells];have h3:Lv ⟨d.cells,l.filter (free d.cells),(d.tick l.length).reqs,(d.tick l.length).left⟩ 1:=⟨h1.r,h1.l⟩;have hr:=LW (d:=⟨d.cells,l.filter (free d.cells),(d.tick l.length).reqs,(d.tick l.length).left⟩) h3.r (by show (d.tick l.length).left≠0;omega) (by show (d.tick l.length).left<0\/1<=(d.tick l.length).left;omega);rw [hr,<-ht];show (⟨CX d.cells (l.filter (free d.cells)), [],_,_⟩:Dk)=_;rw [finL_free l d.cells d.cells fun _=>Iff.rfl];try rfl
structure Gw (n:Int) (d:Dk) (F:Int->List UInt8) (l:List Wr):Prop where
 ok:DkOk d
 left:d.left = -1
 len:(d.cells.length:Int)=n
 cache:d.cache=l
 cell:∀ a:Int,0<=a->a<n->(d.cells.getD a.toNat cz).state=0/\(d.cells.getD a.toNat cz).bytes=F a
 old:∀ a:Int,0<=a->a<n->(d.cells.getD a.toNat cz).old=F (-1 - a)
abbrev Gd (n:Int) (d:Dk) (F:Int->List UInt8):Prop:=Gw n d F []
def Sq (F:Int->List UInt8) (w:Wr) (a:Int):List UInt8:=if 0<=a then (if w.addr=a then w.bytes else F a) else if w.addr = -1 - a then F w.addr else F a
def FU (F:Int->List UInt8) (l:List Wr):Int->List UInt8:=l.foldl Sq F
theorem GZ {F:Int->List UInt8} (l:List Wr) (w:Wr):FU F (l ++ [w])=Sq (FU F l) w:=by
 unfold FU;rw [BJ];try rfl
theorem Gw.req {n:Int} {d:Dk} {F:Int->List UInt8} {l:List Wr} (h:Gw n d F l):Gw n d.req F l:=
 ⟨h.ok.req,by unfold Dk.req;rw [h.left];try rfl,h.len,h.cache,h.cell,h.old⟩
theorem Gd.got {n:Int} {d:Dk} {F:Int->List UInt8} (h:Gd n d F) {a:Int} (h0:0<=a) (h1:a<n):d.got a=(F a,0):=by
 have:=Holds.got ⟨h.len,h.cache,h.cell⟩ h0 h1;unfold OW at this;injection this with e1 e2
 exact Prod.ext e2 e1
theorem Gd.read {n:Int} {d:Dk} {F:Int->List UInt8} (h:Gd n d F) {a:Int} (h0:0<=a) (h1:a<n):d.read a=(d.req,F a,0):=by
 unfold Dk.read;rw [if_neg (by rw [h.left];decide),h.got h0 h1]
theorem Gw.write {n:Int} {d:Dk} {F:Int->List UInt8} {l:List Wr} (h:Gw n d F l) (hl:l.length<2000) {a:Int} (h0:0<=a) (h1:a<n) {b:List UInt8} (hb:b.length<=200):(d.write a b).2=0/\Gw n (d.write a b).1 F (l ++ [⟨a,b⟩]):=by
 have hw:=h.ok.write (a:=a) (b:=b) (by rw [<-h.len] at h1;omega) hb;have e:d.write a b=({ d.req with cache:=d.cache ++ [⟨a,b⟩] },0):=by
  unfold Dk.write;rw [if_neg (by rw [h.left];decide),if_neg];rintro(h2 | h2)
  ·have:=(h.cell a h0 h1).1;unfold cz at this;omega
  ·rw [h.cache] at h2;omega
 rw [e] at hw |-
 exact⟨rfl,hw,h.req.left,h.len,by rw [h.cache],h.cell,h.old⟩
theorem Pd {cs:List Cel} {F:Int->List UInt8} {a:Int} (h0:0<=a) (h1:a.toNat<cs.length) (hc:(cs.getD a.toNat cz).state=0/\(cs.getD a.toNat cz).bytes=F a):∀ (n:Nat) (l:List Wr),l.length=n->(∀ w∈l,0<=w.addr)->((CX cs l).getD a.toNat cz).state=0/\((CX cs l).getD a.toNat cz).bytes=FU F l a
 | 0,l,hn,_=>by
  obtain rfl:=AN.1 hn;exact hc
 | n+1,l,hn,hw=>by
  rcases BX l with rfl | ⟨m,w,rfl⟩
  ·cases hn
  ·have ih:=Pd h0 h1 hc n m (by simpa using hn) (fun x hx=>hw x (by simp [hx]));have hwa:=hw w (by simp);have e:CX cs (m ++ [w])=FK (CX cs m) w:=by unfold CX;rw [BJ];try rfl
   have e2:=GA (CX cs m) w a.toNat (by rw [finL_len];exact h1);rw [BY,e,e2,GZ];unfold Sq;rw [if_pos h0];by_cases hA:w.addr=a
   ·rw [if_pos hA,if_pos ⟨by rw [hA],by rw [ih.1];decide⟩];exact tA
   ·rw [if_neg hA,if_neg (fun h=>hA (by have:=h.1;omega))];exact ih
theorem Pe {cs:List Cel} {F:Int->List UInt8} {a:Int} (h0:0<=a) (h1:a.toNat<cs.length) (hc:(cs.getD a.toNat cz).state=0/\(cs.getD a.toNat cz).bytes=F a) (ho:(cs.getD a.toNat cz).old=F (-1 - a)):∀ (n:Nat) (l:List Wr),l.length=n->(∀ w∈l,0<=w.addr)->((CX cs l).getD a.toNat cz).old=FU F l (-1 - a)
 | 0,l,hn,_=>by
  obtain rfl:=AN.1 hn;exact ho
 | n+1,l,hn,hw=>by
  rcases BX l with rfl | ⟨m,w,rfl⟩
  ·cases hn
  ·have ih:=Pe h0 h1 hc ho n m (by simpa using hn) (fun x hx=>hw x (by simp [hx]));have iu:=Pd h0 h1 hc n m (by simpa using hn) (fun x hx=>hw x (by simp [hx]));have hwa:=hw w (by simp);have e:CX cs (m ++ [w])=FK (CX cs m) w:=by unfold CX;rw [BJ];try rfl
   have e2:=GA (CX cs m) w a.toNat (by rw [finL_len];exact h1);rw [BY,e,e2,GZ];unfold Sq;rw [if_neg (show ¬(0:Int)<= -1 - a by omega),show -1 - (-1 - a)=a by omega];by_cases hA:w.addr=a
   ·rw [if_pos hA,if_pos ⟨by rw [hA],by rw [iu.1];decide⟩,hA];exact iu.2
   ·rw [if_neg hA,if_neg (fun h=>hA (by have:=h.1;omega))];exact ih
theorem Gw.flush {n:Int} {d:Dk} {F:Int->List UInt8} {l:List Wr} (h:Gw n d F l):Gd n d.flush (FU F l):=by
 have e:d.flush=⟨CX d.cells l, [],d.req.reqs,d.req.left⟩:=by
  unfold Dk.flush;rw [allFin_cells,h.cache];try rfl
 have ho:=h.ok.flush;rw [e] at ho |-
 have hl:=h.len;have hw0:∀ w∈l,0<=w.addr:=fun w hw=>by
  rw [<-h.cache] at hw;exact(h.ok.w w hw).1.1
 exact⟨ho,h.req.left,by show ((CX d.cells l).length:Int)=n;rw [finL_len];exact h.len,rfl,fun a h0 h1=>Pd h0 (by omega) (h.cell a h0 h1) _ l rfl hw0,fun a h0 h1=>Pe h0 (by omega) (h.cell a h0 h1) (h.old a h0 h1) _ l rfl hw0⟩
theorem bQ (g:Geo) (s:Stt) (n:Int) (d:Dk) (F:Int->List UInt8) (a:Int) (h:Gd n d F) (ha:0<=a/\a<n) :
  ACalls Tryz.prog false 79 [.bp 0 0,iv a] (FB g s 0 d) fun r H=>r = .ag (D7 ⟨0,F a⟩)/\∃ d',Gd n d' F/\H=FB g s 0 d':=by
 have hr:=Yn g s d a h.ok (by have:=h.len;omega);rw [h.read ha.1 ha.2,if_neg (by rw [h.left];decide)] at hr;exact hr.mono fun r H ⟨e1,e2⟩=>⟨e1,d.req,h.req,e2⟩
theorem aM (g:Geo) (s:Stt) (n:Int) (d:Dk) (F:Int->List UInt8) (l:List Wr) (a:Int) (b:List UInt8) (h:Gw n d F l) (hl:l.length<2000) (ha:0<=a/\a<n) (hb:b.length<=200) :
  ACalls Tryz.prog false 88 [.bp 0 0,iv a,bA b] (FB g s 0 d) fun r H=>r = .v (.bool true)/\∃ d',Gw n d' F (l ++ [⟨a,b⟩])/\H=FB g s 0 d':=by
 have hr:=Yl g s d a b h.ok (by have:=h.len;omega) hb;obtain⟨e0,hw⟩:=h.write hl ha.1 ha.2 hb;rw [e0] at hr;exact hr.mono fun r H ⟨e1,e2⟩=>⟨e1,_,hw,e2⟩
theorem bZ (g:Geo) (s:Stt) (n:Int) (d:Dk) (F:Int->List UInt8) (l:List Wr) (h:Gw n d F l) :
  ACalls Tryz.prog false 90 [.bp 0 0] (FB g s 0 d) fun r H=>r = .tp []/\∃ d',Gd n d' (FU F l)/\H=rwP g s 0 d':=by
 have hr:=Yt g s 0 d h.ok;rw [if_pos rfl,if_pos rfl,if_neg (by rw [h.left];decide),if_neg (by rw [h.left];decide)] at hr;exact hr.mono fun r H ⟨e1,e2⟩=>⟨e1,_,h.flush,e2⟩
theorem EU {F:Int->List UInt8} {a:Int} (h0:0<=a):∀ (n:Nat) (l:List Wr),l.length=n->(∀ w∈l,w.addr≠a)->FU F l a=F a
 | 0,l,hn,_=>by
  obtain rfl:=AN.1 hn;rfl
 | n+1,l,hn,h=>by
  rcases BX l with rfl | ⟨m,w,rfl⟩
  ·rfl
  ·have ih:=EU (F:=F) h0 n m (by simpa using hn) (fun x hx=>h x (by simp [hx]));rw [BY,GZ];unfold Sq;rw [if_pos h0,if_neg (h w (by simp))];exact ih
theorem On {F:Int->List UInt8} {a:Int} {B:List UInt8} (h0:0<=a):∀ (n:Nat) (l:List Wr),l.length=n->(∃ w∈l,w.addr=a)->(∀ w∈l,w.addr=a->w.bytes=B)->FU F l a=B
 | 0,l,hn,⟨w,hw,_⟩,_=>by
  obtain rfl:=AN.1 hn;cases hw
 | n+1,l,hn,he,h=>by
  rcases BX l with rfl | ⟨m,w,rfl⟩
  ·cases hn
  ·rw [BY] at he h |-
   rw [GZ];unfold Sq;rw [if_pos h0];by_cases hw:w.addr=a
   ·rw [if_pos hw];exact h w (by simp) hw
   ·rw [if_neg hw];obtain⟨x,hx,hxa⟩:=he;rcases A2.1 hx with q | q
    ·exact On (F:=F) h0 n m (by simpa using hn) ⟨x,q,hxa⟩ (fun y hy=>h y (by simp [hy]))
    ·rw [Ay] at q;subst q;exact absurd hxa hw
def EM (g:Geo) (a:An) (seq:Int) (x:Img):List Wr:=if x.what=255 then [⟨A6 g x.zone 0,Ce (A6 g x.zone 0) seq x.bytes⟩,⟨A6 g x.zone 1,Ce (A6 g x.zone 1) seq x.bytes⟩] else [⟨B4 g a x.zone x.what,Ce (B4 g a x.zone x.what) seq x.bytes⟩]
def CR (g:Geo) (a:An) (seq:Int):List Img->List Wr
 | []=> []
 | x::r=>EM g a seq x ++ CR g a seq r
def Dw (a:An) (seq:Int) (x:Img):An:=if x.what=255 then { a with homes:=a.homes.set x.zone.toNat { a.homes.getD x.zone.toNat ⟨[],0,0⟩ with root:=seq } } else a
def Cq (a:An) (seq:Int) (l:List Img):An:=l.foldl (fun a x=>Dw a seq x) a
theorem Gz (a:An) (seq:Int) (x:Img):(Dw a seq x).homes.length=a.homes.length:=by unfold Dw;split <;> simp
theorem KA (seq:Int):∀ (l:List Img) (a:An),(Cq a seq l).homes.length=a.homes.length
 | [],_=>rfl
 | x::r,a=>by
  show (Cq (Dw a seq x) seq r).homes.length=_;rw [KA seq r,Gz]
theorem Jb (a:An) (seq:Int) (x:Img) (z:Nat) (hz:z<a.homes.length):(Dw a seq x).homes.getD z ⟨[],0,0⟩=if x.what=255/\x.zone.toNat=z then { a.homes.getD z ⟨[],0,0⟩ with root:=seq } else a.homes.getD z ⟨[],0,0⟩:=by
 unfold Dw;by_cases h:x.what=255
 ·rw [if_pos h];by_cases e:x.zone.toNat=z
  ·subst e;rw [if_pos ⟨h,rfl⟩];show (a.homes.set _ _).getD _ _=_;rw [BN hz]
  ·rw [if_neg (fun q=>e q.2)];show (a.homes.set _ _).getD _ _=_;rw [KG e]
 ·rw [if_neg h,if_neg (fun q=>h q.1)]
theorem Si {g:Geo} {a:An} {seq:Int} {x:Img} {z w:Int} (hz:z.toNat<a.homes.length):B4 g (Dw a seq x) z w=B4 g a z w:=by
 unfold B4;rw [Jb a seq x _ hz];split <;> rfl
theorem Iz {g:Geo} {seq z w:Int}:∀ (l:List Img) {a:An},z.toNat<a.homes.length->B4 g (Cq a seq l) z w=B4 g a z w
 | [],_,_=>rfl
 | x::r,a,hz=>by
  show B4 g (Cq (Dw a seq x) seq r) z w=_;rw [Iz r (by rw [Gz];exact hz),Si hz]
theorem GR {seq:Int} {z:Nat}:∀ (l:List Img) {a:An},z<a.homes.length->(∀ x∈l,x.what=255->x.zone.toNat≠z)->(Cq a seq l).homes.getD z ⟨[],0,0⟩=a.homes.getD z ⟨[],0,0⟩
 | [],_,_,_=>rfl
 | x::r,a,hz,h=>by
  show (Cq (Dw a seq x) seq r).homes.getD z _=_;rw [GR r (by rw [Gz];exact hz) (fun y hy=>h y (AM _ hy)),Jb a seq x z hz,if_neg (fun q=>h x (by simp) q.1 q.2)]
theorem KB {seq:Int} {z:Nat}:∀ (l:List Img) {a:An},z<a.homes.length->(∃ x∈l,x.what=255/\x.zone.toNat=z)->((Cq a seq l).homes.getD z ⟨[],0,0⟩).root=seq
 | x::r,a,hz,⟨y,hy,h1,h2⟩=>by
  show ((Cq (Dw a seq x) seq r).homes.getD z _).root=_;by_cases hr:∃ x∈r,x.what=255/\x.zone.toNat=z
  ·exact KB r (by rw [Gz];exact hz) hr
  ·rcases AK.1 hy with rfl | q
   ·rw [GR r (by rw [Gz];exact hz) (fun x hx e1 e2=>hr ⟨x,hx,e1,e2⟩),Jb a seq y z hz,if_pos ⟨h1,h2⟩]
   ·exact absurd ⟨y,q,h1,h2⟩ hr
theorem Tn {g:Geo} {a:An} {seq:Int} {x:Img} (ha:Bn g a=true) (hs:0<=seq/\seq<=4294967295):Bn g (Dw a seq x)=true:=by
 unfold Dw;split
 ·by_cases hi:x.zone.toNat<a.homes.length
  ·simp only [Bn,Ad,decide_eq_true_eq,Av] at ha |-
   obtain⟨q1,q2,q3,q4,q5,q6,q7⟩:=ha;refine⟨q1,q2,q3,q4,q5,by rw [AO];exact q6,fun y hy=>?_⟩;rcases C3 hy with h | rfl
   ·exact q7 y h
   ·have hh:=q7 _ (A5 (d:=(⟨[],0,0⟩:Hm)) hi);simp only [En,Ad] at hh |-
    exact⟨hh.1,hh.2.1,AF.2 hs,hh.2.2.2⟩
  ·rw [List.set_eq_of_length_le (by omega)];exact ha
 ·exact ha
theorem Ja {g:Geo} {seq:Int} (hs:0<=seq/\seq<=4294967295):∀ (l:List Img) {a:An},Bn g a=true->Bn g (Cq a seq l)=true
 | [],_,h=>h
 | x::r,_,h=>Ja hs r (Tn h hs)
def Eb (g:Geo) (a:An) (x:Tx):An:={ Cq a x.seq x.images with gen:=a.gen+1,pos:=(x.pos+x.n).tmod g.sl,seq:=a.seq+1,last:=max a.last a.seq }
theorem Hw (seq:Int):∀ (l:List Img) (a:An),(Cq a seq l).gen=a.gen/\(Cq a seq l).epoch=a.epoch/\(Cq a seq l).pos=a.pos/\(Cq a seq l).seq=a.seq/\(Cq a seq l).last=a.last/\(Cq a seq l).label=a.label
 | [],_=>tA
 | x::r,a=>by
  obtain⟨h1,h2,h3,h4,h5,h6⟩:=Hw seq r (Dw a seq x);have e:(Dw a seq x).gen=a.gen/\(Dw a seq x).epoch=a.epoch/\(Dw a seq x).pos=a.pos/\(Dw a seq x).seq=a.seq/\(Dw a seq x).last=a.last/\(Dw a seq x).label=a.label:=by unfold Dw;split <;> exact tA
  obtain⟨e1,e2,e3,e4,e5,e6⟩:=e;exact⟨h1.trans e1,h2.trans e2,h3.trans e3,h4.trans e4,h5.trans e5,h6.trans e6⟩
theorem P0 {g:Geo} {a:An} {x:Tx} (hg:Bm g=true) (ha:Bn g a=true) (h1:a.gen<4294967295) (h2:a.seq<4294967295) (hx:x.seq=a.seq) (hp:0<=x.pos) (hn:0<=x.n):Bn g (Eb g a x)=true:=by
 obtain⟨g1,g2,g3,g4,g5⟩:=Ar.1 hg;have hh:=ha;simp only [Bn,A_,BC,B5,Ad,decide_eq_true_eq,AF] at hh;obtain⟨⟨w1,w2,w3,w4⟩,q2,q3,q4,q5,q6,q7⟩:=hh;have hu:=Ja (g:=g) (seq:=x.seq) (by omega) x.images ha;obtain⟨_,e2,_,_,_,e6⟩:=Hw x.seq x.images a;simp only [Bn,A_,BC,B5,Ad,decide_eq_true_eq,AF] at hu |-
 obtain⟨_,_,_,_,u5,u6,u7⟩:=hu;have hm0:0<=(x.pos+x.n).tmod g.sl:=Bx _ (by omega);have hm1:(x.pos+x.n).tmod g.sl<g.sl:=Bb _ (by omega);refine⟨⟨?_,?_,?_,?_⟩,?_,?_,?_,u5,u6,u7⟩
 ·show 0<=a.gen+1/\a.gen+1<=_;omega
 ·show 0<=(Cq a x.seq x.images).epoch/\(Cq a x.seq x.images).epoch<=_;rw [e2];exact w2
 ·show 0<=a.seq+1/\a.seq+1<=_;omega
 ·show 0<=max a.last a.seq/\max a.last a.seq<=_;omega
 ·show 1<=a.seq+1;omega
 ·show a.seq+1 - 1<=max a.last a.seq;omega
 ·show 0<=(x.pos+x.n).tmod g.sl/\(x.pos+x.n).tmod g.sl<=g.sl - 1;omega
theorem OneTab.eq:∀ {l:List Img} (_:OneTab l) {x y:Img},x∈l->y∈l->x.what=255->y.what=255->x.zone=y.zone->x=y
 | w::l,h,x,y,hx,hy,h1,h2,h3=>by
  obtain⟨q1,q2⟩:=CZ.1 h;rcases AK.1 hx with ex | mx
  ·rcases AK.1 hy with ey | my
   ·rw [ex,ey]
   ·rw [ex] at h1 h3;exact absurd h3 (q1 y my h1 h2)
  ·rcases AK.1 hy with ey | my
   ·rw [ey] at h2 h3;exact absurd h3.symm (q1 x mx h2 h1)
   ·exact OneTab.eq q2 mx my h1 h2 h3
theorem G7 {g:Geo} {a:An} {seq:Int} {w:Wr}:∀ {l:List Img},w∈CR g a seq l↔∃ x∈l,w∈EM g a seq x
 | []=>by simp [CR]
 | x::r=>by
  rw [CR,A2,G7];simp
theorem D0 {g:Geo} {x:Img} (h:B3 g x=true):(0<=x.zone/\x.zone<g.z)/\(x.what≠255-> -1<=x.what/\x.what<g.d/\x.bytes.length=8):=by
 simp only [B3,Ad,AF] at h;refine⟨by omega,fun hw=>?_⟩;have h2:=h.2.2;rw [if_neg hw,Ad,AF,decide_eq_true_eq] at h2;omega
theorem NP {g:Geo} {a:An} (ha:Bn g a=true) {z:Int} (hz:0<=z/\z<g.z):z.toNat<a.homes.length/\En g (a.homes.getD z.toNat ⟨[],0,0⟩)=true:=by
 simp only [Bn,Ad,decide_eq_true_eq,Av] at ha;obtain⟨_,_,_,_,_,q6,q7⟩:=ha;have hi:z.toNat<a.homes.length:=by omega
 exact⟨hi,q7 _ (A5 (d:=(⟨[],0,0⟩:Hm)) hi)⟩
theorem Em {g:Geo} (hg:Bm g=true) {a:An} (ha:Bn g a=true) {z w:Int} (hz:0<=z/\z<g.z) (hw : -1<=w/\w<g.d):∃ s,B4 g a z w=Co g z s/\0<=s/\s<CK g:=by
 obtain⟨g1,g2,g3,g4,g5⟩:=Ar.1 hg;obtain⟨hi,hh⟩:=NP ha hz;simp only [En,Ad,decide_eq_true_eq,AF] at hh;obtain⟨p1,p2,p3,p4⟩:=hh;have hat:0<=Ev g w/\Ev g w<=g.d:=by unfold Ev;split <;> omega
 refine⟨_,rfl,?_⟩;have hk:(Ev g w).toNat<(a.homes.getD z.toNat ⟨[],0,0⟩).places.length:=by omega
 have hp:=Av.1 p4 (Ev g w).toNat (by simpa using hk);simp only [Ad,AF] at hp;unfold CK;omega
theorem E0 {g:Geo} (hg:Bm g=true) {z s:Int} (hz:0<=z/\z<g.z) (hs:0<=s/\s<CK g):g.an+2*g.sl+2*g.z<=Co g z s/\Co g z s<Aq g:=by
 obtain⟨g1,g2,g3,g4,g5⟩:=Ar.1 hg;have hp:=GU hg;have h1:=Hv hg (z:=z) (by omega);have h2:z*CK g+CK g<=g.z*CK g:=by
  have:=BI (show z+1<=g.z by omega) (show 0<=CK g by omega);rw [Int.add_mul,Int.one_mul] at this;exact this
 unfold Co Aq;omega
theorem D5 {g:Geo} (hg:Bm g=true) {z k:Int} (hz:0<=z/\z<g.z) (hk:0<=k/\k<=1):g.an+2*g.sl<=A6 g z k/\A6 g z k<g.an+2*g.sl+2*g.z/\A6 g z k<Aq g:=by
 obtain⟨g1,g2,g3,g4,g5⟩:=Ar.1 hg;have hp:=GU hg;have h1:=Hv hg (z:=g.z) (by omega);unfold A6 Aq;omega
theorem Is {g:Geo} (hg:Bm g=true) {a:An} (ha:Bn g a=true) {x:Img} (hx:B3 g x=true) {seq:Int} {w:Wr} (hw:w∈EM g a seq x):(x.what=255/\∃ k,(k=0\/k=1)/\w=⟨A6 g x.zone k,Ce (A6 g x.zone k) seq x.bytes⟩)\/(x.what≠255/\(∃ s,w.addr=Co g x.zone s/\0<=s/\s<CK g)/\w=⟨B4 g a x.zone x.what,Ce (B4 g a x.zone x.what) seq x.bytes⟩):=by
 obtain⟨hz,hb⟩:=D0 hx;unfold EM at hw;split at hw
 ·rename_i h;rcases AK.1 hw with rfl | hw
  ·exact .inl ⟨h,0, .inl rfl,rfl⟩
  ·rw [Ay] at hw;exact .inl ⟨h,1, .inr rfl,hw⟩
 ·rename_i h;rw [Ay] at hw;have hb':=hb h;obtain⟨s,e,hs⟩:=Em (w:=x.what) hg ha hz (by omega);exact .inr ⟨h,⟨s,by rw [hw];exact e,hs⟩,hw⟩
theorem NJ {g:Geo} (hg:Bm g=true) {a:An} (ha:Bn g a=true) {l:List Img} (hl:∀ x∈l,B3 g x=true) {seq:Int}:∀ w∈CR g a seq l,g.an+2*g.sl<=w.addr/\w.addr<Aq g:=by
 intro w hw;obtain⟨x,hx,hwx⟩:=G7.1 hw;obtain⟨hz,_⟩:=D0 (hl x hx);rcases Is hg ha (hl x hx) hwx with ⟨_,k,hk,rfl⟩ | ⟨_,⟨s,e,hs⟩,_⟩
 ·have:=D5 hg hz (k:=k) (by omega);exact⟨this.1,this.2.2⟩
 ·have:=E0 hg hz hs;have hz2:=Ar.1 hg;rw [e];omega
theorem Wo (g:Geo) (w:Int):Fn Tryz.prog 148 [.ag (AU g),iv w] fun r=>r = iv (Ev g w):=by
 unfold Ev;by_cases h:w = -1
 ·rw [if_pos h];refine zR Tryz.func148 rfl ?_;conv=>whnf
  rw [show (w == -1)=true by simpa using h];exact⟨_,ri,rfl⟩
 ·rw [if_neg h];refine zR Tryz.func148 rfl ?_;conv=>whnf
  rw [show (w == -1)=false by simpa using h];exact⟨_,ri,rfl⟩
theorem Mb (g:Geo) (a:An) (z w:Int) (hg:Bm g=true) (ha:Bn g a=true) (hz:0<=z/\z<g.z) (hw : -1<=w/\w<g.d):Fn Tryz.prog 97 [.ag (AU g), .ag (Ft a),iv z,iv w] fun r=>r = iv (B4 g a z w):=by
 obtain⟨g1,g2,g3,g4,g5⟩:=Ar.1 hg;obtain⟨hi,hh⟩:=NP ha hz;simp only [En,Ad,decide_eq_true_eq,AF] at hh;obtain⟨p1,p2,p3,p4⟩:=hh;have hat:0<=Ev g w/\Ev g w<=g.d:=by unfold Ev;split <;> omega
 have hk:(Ev g w).toNat<(a.homes.getD z.toNat ⟨[],0,0⟩).places.length:=by omega
 have hp:=Av.1 p4 (Ev g w).toNat (by simpa using hk);simp only [Ad,AF] at hp;have r1:=Wo g w;have r2:=PB g z ((a.homes.getD z.toNat ⟨[],0,0⟩).places.getD (Ev g w).toNat 0) hg hz (by unfold CK;omega);refine zR Tryz.func97 rfl ?_;conv=>whnf
 apply zO tys_ok mixed (.o [0,1,2,3,4,5,6,7,8,9,10,11,12,13,14] .fin) [8,9,10,11,12,13,14,15,16,17,18,19,20,21,22] (by kernel_rfl)
 ·conv=>whnf
  try (refine Ae (by first | omega | exact ixA | exact ixB | (simp;done)) ?_;conv=>whnf)
  refine zZ r1 ?_;conv=>whnf
  try (refine Ae (by first | omega | exact ixA | exact ixB | (simp;done)) ?_;conv=>whnf)
  refine zZ r2 ?_;exact tA
 exact⟨_,ri,rfl⟩
theorem PA (g:Geo) (x:Gt) (addr root:Int) (hg:Bm g=true) (hl:x.bytes.length<=100000):Fn Tryz.prog 78 [.ag (AU g), .ag (D7 x),iv addr,iv root] fun r=>r = .tp [.ag [Bp ((BH g x addr root).getD [])], .v (.bool (BH g x addr root).isSome)]:=by
 have h1:=I4 x addr hl;have zs:∀ (c:Ctx) (v:Value),Rd (.tp [.ag [.v (.slice none 0 0)], .v (.bool false)]) c v->Rd (.tp [.ag [Bp []], .v (.bool false)]) c v:=Cf (m:= [.ag [Bp []], .v (.bool false)]) ⟨Bk ⟨Bo 3 _,tv⟩,ri,tv⟩;unfold BH;cases hs:BF x addr with
 | none=>
  rw [hs] at h1;refine zR Tryz.func78 rfl ?_;conv=>whnf
  refine zZ h1 ?_;exact⟨_,zs,rfl⟩
 | some s=>
  rw [hs] at h1;simp only [B8,Option.isSome_some] at h1;have h2:=LS g s.pay hg;simp only;by_cases hr:s.stamp=root
  ·rw [if_pos hr];refine zR Tryz.func78 rfl ?_;conv=>whnf
   refine zZ h1 ?_;conv=>whnf
   rw [show (s.stamp != root)=false by simpa using hr];conv=>whnf
   refine zZ h2 ?_;exact⟨_,ri,rfl⟩
  ·rw [if_neg hr];refine zR Tryz.func78 rfl ?_;conv=>whnf
   refine zZ h1 ?_;conv=>whnf
   rw [show (s.stamp != root)=true by simpa using hr];exact⟨_,zs,rfl⟩
theorem TV (x:Gt) (addr:Int) (e:Ent) (hl:x.bytes.length<=100000):Fn Tryz.prog 147 [.ag (D7 x),iv addr, .ag (Cg e)] fun r=>r = .tp [bA ((CY x addr e).getD []), .v (.bool (CY x addr e).isSome)]:=by
 have h1:=I4 x addr hl;have zs:∀ (c:Ctx) (v:Value),Rd (.tp [.v (.slice none 0 0), .v (.bool false)]) c v->Rd (.tp [bA [], .v (.bool false)]) c v:=Cf (m:= [bA [], .v (.bool false)]) ⟨Bo 1 _,ri,tv⟩;unfold CY;cases hs:BF x addr with
 | none=>
  rw [hs] at h1;refine zR Tryz.func147 rfl ?_;conv=>whnf
  refine zZ h1 ?_;conv=>whnf
  apply zO tys_ok mixed (.o [0,1,2,3,4,5,6,7,8,9,10,11,12,13,14,15,16,17,19,20,18,21,22] .fin) [16,17,18,19,20,21,22,23,24,25,26,27,28,29,30,31,32,33,34,35,36,37,38] (by kernel_rfl)
  ·conv=>whnf
   (skip)
   exact tA
  conv=>whnf
  exact⟨_,zs,rfl⟩
 | some s=>
  rw [hs] at h1;simp only [B8,Option.isSome_some] at h1;have hp:s.pay.length<=100000:=by
   unfold BF at hs;split at hs
   ·obtain rfl:=Option.some.inj hs;unfold Cc;simp;omega
   ·cases hs
  have h2:=JD s.pay (by omega);simp only;by_cases q1:s.stamp=e.stamp
  ·have e1:(s.stamp != e.stamp)=false:=by simpa using q1
   by_cases q2:s.pay.length=8
   ·have e2:((s.pay.length:Int) != 8)=false:=by rw [q2];try rfl
    by_cases q3:((Cz s.pay:Nat):Int)=e.sum
    ·have e3:(((Cz s.pay:Nat):Int) != e.sum)=false:=by simpa using q3
     rw [if_pos ⟨q1,q2,q3⟩];refine zR Tryz.func147 rfl ?_;conv=>whnf
     refine zZ h1 ?_;conv=>whnf
     apply zO tys_ok mixed (.o [0,1,2,3,4,5,6,7,8,9,10,11,12,13,14,15,16,17,19,20,18,21,22] .fin) [16,17,18,19,20,21,22,23,24,25,26,27,28,29,30,31,32,33,34,35,36,37,38] (by kernel_rfl)
     ·conv=>whnf
      (rw [e1];(conv=>whnf);rw [e2];(conv=>whnf);refine zZ h2 ?_)
      exact tA
     conv=>whnf
     conv=>whnf
     rw [e3];exact⟨_,ri,rfl⟩
    ·have e3:(((Cz s.pay:Nat):Int) != e.sum)=true:=by simpa using q3
     rw [if_neg fun h=>q3 h.2.2];refine zR Tryz.func147 rfl ?_;conv=>whnf
     refine zZ h1 ?_;conv=>whnf
     apply zO tys_ok mixed (.o [0,1,2,3,4,5,6,7,8,9,10,11,12,13,14,15,16,17,19,20,18,21,22] .fin) [16,17,18,19,20,21,22,23,24,25,26,27,28,29,30,31,32,33,34,35,36,37,38] (by kernel_rfl)
     ·conv=>whnf
      (rw [e1];(conv=>whnf);rw [e2];(conv=>whnf);refine zZ h2 ?_)
      exact tA
     conv=>whnf
     conv=>whnf
     rw [e3];exact⟨_,zs,rfl⟩
   ·have e2:((s.pay.length:Int) != 8)=true:=bne_iff_ne.2 (by omega);rw [if_neg fun h=>q2 h.2.1];refine zR Tryz.func147 rfl ?_;conv=>whnf
    refine zZ h1 ?_;conv=>whnf
    apply zO tys_ok mixed (.o [0,1,2,3,4,5,6,7,8,9,10,11,12,13,14,15,16,17,19,20,18,21,22] .fin) [16,17,18,19,20,21,22,23,24,25,26,27,28,29,30,31,32,33,34,35,36,37,38] (by kernel_rfl)
    ·conv=>whnf
     (rw [e1];(conv=>whnf);rw [e2])
     exact tA
    conv=>whnf
    exact⟨_,zs,rfl⟩
  ·have e1:(s.stamp != e.stamp)=true:=bne_iff_ne.2 q1;rw [if_neg fun h=>q1 h.1];refine zR Tryz.func147 rfl ?_;conv=>whnf
   refine zZ h1 ?_;conv=>whnf
   apply zO tys_ok mixed (.o [0,1,2,3,4,5,6,7,8,9,10,11,12,13,14,15,16,17,19,20,18,21,22] .fin) [16,17,18,19,20,21,22,23,24,25,26,27,28,29,30,31,32,33,34,35,36,37,38] (by kernel_rfl)
   ·conv=>whnf
    (rw [e1])
    exact tA
   conv=>whnf
   exact⟨_,zs,rfl⟩
theorem S2 (a b:List UInt8) (h:a.length<=b.length) (hl:a.length<=1000000):Fn Tryz.prog 149 [bA a,bA b] fun r=>r=bA (Do a b):=by
 have hx:(Do a b).length=a.length:=by rw [Gv];omega
 refine zR Tryz.func149 rfl ?_;conv=>whnf
 refine zU Nat (fun k=>([(0,bA a),(1,bA b),(5, .ow 0 k),(6,iv k)], [.row 5 1 (((Do a b).take k).map E6)])) (fun k=>k<=a.length) (fun k=>a.length - k) 0 (Aj _)
  ⟨_,_,zF _ _, [(5,5,1)],tA, [0],tA⟩ ?_
 intro k hk;conv=>whnf
 refine A7 (fun h6=>?_) (fun h6=>?_) <;> (repeat rw [Ab] at h6) <;> conv=>whnf
 ·have hk':k<a.length:=by omega
  have hml:k=(((Do a b).take k).map E6).length:=by rw [Ac,Au];omega
  have hx2:(((Do a b).take k).map E6) ++ [[AV.v (.int .u8 (IntKind.u8.wrap (BitVec.ofInt IntKind.u8.bits ((a.getD k 0).toNat:Int) ^^^ BitVec.ofInt IntKind.u8.bits ((b.getD k 0).toNat:Int)).toNat))]]=((Do a b).take (k+1)).map E6:=by
   rw [QP (a.getD k 0) (b.getD k 0).toNat (b.getD k 0).toNat_lt,UInt8.ofNat_toNat,AZ,Af (by omega),A8];have e:(Do a b)[k]'(by omega)=a.getD k 0 ^^^ b.getD k 0:=by
    unfold Do;rw [List.getElem_zipWith,Aa,Aa,Af hk',Af (by omega)];try rfl
   rw [e];try rfl
  repeat' (refine z_ ?_;conv=>whnf)
  apply z8 (0) tys_ok mixed (.o [0,1,2,3,4,5,6,7,8,9,10,11,12] .fin) [5,13,14,15,16,17,18,19,20,21,22,23,24] (by kernel_rfl)
  ·conv=>whnf
   try (refine tI ?_;conv=>whnf)
   try (refine tI ?_;conv=>whnf)
   try (refine tJ ?_;conv=>whnf)
   try (refine tK ?_;conv=>whnf)
   exact tA
  conv=>whnf
  rw [Ab];exact⟨k+1,hk',by omega,zS (s:= [0]) ⟨⟨rfl,rfl,rfl,AI (by omega),tv⟩,⟨congrArg (fun z=>some (AB.row 5 1 z)) hx2,tv⟩,rfl,rfl,rfl,rfl,rfl⟩⟩
 ·have ek:k=a.length:=by omega
  subst ek;rw [<-hx,Aw];refine⟨(by rw [Ac]),?_⟩;exact⟨bA (Do a b),Fb rfl rfl,rfl⟩
theorem JJ {t:List Ent} {had:List (List UInt8)} {i k:Nat} (h:Dl t had i k=none):∀ m,k<=m->Dl t had i m=none
 | 0,hm=>by
  obtain rfl:k=0:=by omega
  exact h
 | m+1,hm=>by
  by_cases e:k=m+1
  ·exact e ▸ h
  ·rw [Dl,JJ h m (by omega)]
def ER (l:List (List UInt8)):AV:= .sl 1 l.length fun i=> [bA (l.getD i [])]
theorem TI (g:Geo) (t:List Ent) (had:List (List UInt8)) (i:Nat) (hg:Bm g=true) (ht:(t.length:Int)=g.d+1) (hh:(had.length:Int)=g.d+1) (hb:∀ b∈had,b.length=0\/b.length=8) (hi:(i:Int)<=g.d):Fn Tryz.prog 81 [.ag (AU g), .ag [Bp t],ER had,iv i] fun r=>r=bA (BK g t had i):=by
 obtain⟨g1,g2,g3,g4,g5⟩:=Ar.1 hg;have hi1:i<t.length:=by omega
 have hi2:i<had.length:=by omega
 unfold BK;cases hL:(t.getD i ⟨0,0,false⟩).lost with
 | true=>
  rw [if_pos (show (t.getD i ez).lost=true from hL)];refine zR Tryz.func81 rfl ?_;refine⟨⟨by omega,by omega⟩,?_⟩;conv=>whnf
  rw [Ab,hL];exact⟨bA [],Bo 1 _,rfl⟩
 | false=>
  rw [if_neg (show ¬(t.getD i ez).lost=true by rw [show t.getD i ez=t.getD i ⟨0,0,false⟩ from rfl,hL];decide)];by_cases h0:0<(had.getD i []).length
  ·rw [if_pos h0];have ht8:=hb _ (A5 (d:= []) hi2);have h2:=Eo (had.getD i []) (by omega);refine zR Tryz.func81 rfl ?_;refine⟨⟨by omega,by omega⟩,?_⟩;conv=>whnf
   rw [Ab,hL];refine⟨⟨by omega,by omega⟩,?_⟩;conv=>whnf
   rw [Ab,show decide (((had.getD i []).length:Int) > 0)=true from decide_eq_true (by omega)];refine⟨⟨by omega,by omega⟩,?_⟩;conv=>whnf
   rw [Ab];refine zZ h2 ?_;exact⟨_,ri,rfl⟩
  ·rw [if_neg h0];have hz8:(List.replicate 8 [AV.v (.int .u8 0)])=zero8.map E6:=rfl;refine zR Tryz.func81 rfl ?_;refine⟨⟨by omega,by omega⟩,?_⟩;conv=>whnf
   rw [Ab,hL];refine⟨⟨by omega,by omega⟩,?_⟩;conv=>whnf
   rw [Ab,show decide (((had.getD i []).length:Int) > 0)=false from decide_eq_false (by omega)];refine⟨⟨rfl,by decide,by decide⟩,?_⟩;conv=>whnf
   refine zU (Nat × List UInt8) (fun x=>([(2,ER had),(3,iv (i:Nat)),(4, .bp 0 0),(5, .bp 1 0),(9,bA x.2),(10,iv (x.1:Nat))], [.box 23 (AU g), .box 70 [Bp t]])) (fun x=>x.1<=g.d.toNat+1/\Dl t had i x.1=some x.2) (fun x=>g.d.toNat+1 - x.1) (0,zero8) ⟨Aj _,rfl⟩
    (zG (zQ (zP 9 2 rfl rfl) (zL 9 rfl (Fb (L:=zero8) rfl rfl))) (s:= [0,1]) tA) ?_
   rintro⟨k,b⟩ ⟨hk,hI⟩;simp only at hk hI;have hb8:=Il hb k b hI;have hstep:Dl t had i (k+1)=if k=i\/(t.getD k ⟨0,0,false⟩).lost=true then some b else if (had.getD k []).length=0 then none else some (Do b (had.getD k [])):=by rw [Dl,hI];try rfl
   conv=>whnf
   refine A7 (fun h6=>?_) (fun h6=>?_) <;> (repeat rw [Ab] at h6) <;> conv=>whnf
   ·have hk1:k<t.length:=by omega
    have hk2:k<had.length:=by omega
    have hgo:∀ c,Dl t had i (k+1)=some c->∃ x':Nat × List UInt8,(x'.1<=g.d.toNat+1/\Dl t had i x'.1=some x'.2)/\g.d.toNat+1 - x'.1<g.d.toNat+1 - k/\x'=(k+1,c):=fun c h=>⟨(k+1,c),⟨by show k+1<=_;omega,h⟩,by show g.d.toNat+1 - (k+1)<_;omega,rfl⟩
    repeat' (refine z_ ?_;conv=>whnf)
    by_cases hki:k=i
    ·rw [show (((k:Nat):Int) == ((i:Nat):Int))=true by rw [hki];exact beq_self_eq_true _];conv=>whnf
     rw [if_pos (.inl hki)] at hstep;obtain⟨x',h1,h2,rfl⟩:=hgo b hstep;exact⟨_,h1,h2,zS (s:= [0,1]) ⟨⟨rfl,rfl,rfl,rfl,rfl,AI (by omega),tv⟩,tA,rfl,rfl,rfl,rfl,rfl⟩⟩
    ·rw [show (((k:Nat):Int) == ((i:Nat):Int))=false by rw [beq_eq_false_iff_ne];omega];refine⟨⟨by omega,by omega⟩,?_⟩;conv=>whnf
     rw [Ab];cases hkl:(t.getD k ⟨0,0,false⟩).lost with
     | true=>
      conv=>whnf
      rw [if_pos (.inr hkl)] at hstep;obtain⟨x',h1,h2,rfl⟩:=hgo b hstep;exact⟨_,h1,h2,zS (s:= [0,1]) ⟨⟨rfl,rfl,rfl,rfl,rfl,AI (by omega),tv⟩,tA,rfl,rfl,rfl,rfl,rfl⟩⟩
     | false=>
      conv=>whnf
      rw [if_neg (by rw [hkl];simp [hki])] at hstep;repeat' (refine z_ ?_;conv=>whnf)
      refine Ae ⟨by show (0:Int)<=(k:Nat);omega,by show ((k:Nat):Int)<_;omega⟩ ?_;conv=>whnf
      rw [show ((((k,b):Nat × List UInt8).1:Nat):Int).toNat=k from Ab k];by_cases h8:(had.getD k []).length=0
      ·rw [show (((had.getD k []).length:Int) == 0)=true by rw [h8];try rfl];conv=>whnf
       rw [if_pos h8] at hstep;rw [JJ hstep (g.d.toNat+1) (by omega)];exact⟨bA [],Bo 1 _,rfl⟩
      ·rw [show (((had.getD k []).length:Int) == 0)=false by rw [beq_eq_false_iff_ne];omega];conv=>whnf
       refine Ae ⟨by show (0:Int)<=(k:Nat);omega,by show ((k:Nat):Int)<_;omega⟩ ?_;conv=>whnf
       rw [show ((((k,b):Nat × List UInt8).1:Nat):Int).toNat=k from Ab k];rw [if_neg h8] at hstep;have hk8:=hb _ (A5 (d:= []) hk2);have h2:=S2 b (had.getD k []) (by omega) (by omega);refine zZ h2 ?_;conv=>whnf
       obtain⟨x',h1,h2,rfl⟩:=hgo _ hstep;exact⟨_,h1,h2,zS (s:= [0,1]) ⟨⟨rfl,rfl,rfl,rfl,rfl,AI (by omega),tv⟩,tA,rfl,rfl,rfl,rfl,rfl⟩⟩
   ·have ek:k=g.d.toNat+1:=by omega
    subst ek;have hs:=JD b (by omega);rw [hI];simp only;apply zO tys_ok mixed (.o [0,2,3,4,5,6,7,1,8] .fin) [58,59,60,61,62,63,64,65,66] (by kernel_rfl)
    ·conv=>whnf
     try (refine Ae (by first | omega | exact ixA | exact ixB | (simp;done)) ?_;conv=>whnf)
     refine zZ hs ?_;exact tA
    conv=>whnf
    conv=>whnf
    rw [Ab];by_cases hq:((Cz b:Nat):Int)=(t.getD i ⟨0,0,false⟩).sum
    ·rw [if_pos (show ((Cz b:Nat):Int)=(t.getD i ez).sum from hq),show (((Cz b:Nat):Int) != (t.getD i ⟨0,0,false⟩).sum)=false by simpa using hq];exact⟨_,ri,rfl⟩
    ·rw [if_neg (show ¬((Cz b:Nat):Int)=(t.getD i ez).sum from hq),show (((Cz b:Nat):Int) != (t.getD i ⟨0,0,false⟩).sum)=true from bne_iff_ne.2 hq];exact⟨bA [],Bo 1 _,rfl⟩
theorem Rk (g:Geo) (z:Int) (t:List Ent) (par:List UInt8) (at_:Int) (b:List UInt8) (hg:Bm g=true) (ht:Gi g t=true) (hp:par.length=8) (hb:b.length=8):Fn Tryz.prog 86 [iv z, .ag [Bp t],bA par,iA [at_],ER [b]] fun r=>r=Ec (Ch z t par [at_] [b]):=by
 have h1:=Eo par (by omega);have h2:=Eo b (by omega);have hh:=ht;simp only [Gi,Ad,decide_eq_true_eq,Av] at hh;obtain⟨⟨⟨_,t1⟩,t2⟩,_⟩:=hh;obtain⟨g1,g2,g3,g4,g5⟩:=Ar.1 hg;have h3:=Su t (by omega) (fun e he=>by have:=t2 e he;simp only [Ed,HU,Ad,AF] at this;omega);refine zR Tryz.func86 rfl ?_;conv=>whnf
 refine zU Nat (fun k=>([(0,iv z),(2,bA par),(3,iA [at_]),(4,ER [b]),(6, .bp 0 0),(11, .ow 1 k),(12,iv k)], [.box 70 [Bp t], .row 166 3 ((([⟨z,at_,b⟩]:List Img).take k).map Eh)])) (fun k=>k<=1) (fun k=>1 - k) 0 (by decide)
  ⟨_,_,zF _ _, [(11,166,3)],tA, [0,1],tA⟩ ?_
 intro k hk;conv=>whnf
 refine A7 (fun h6=>?_) (fun h6=>?_) <;> conv=>whnf
 ·have ek:k=0:=by simp only [Am,Bf] at h6;omega
  subst ek;apply zW (0) tys_ok mixed (.o [0,1,2,3,4,5,6,7,8,9,10,11,12,13,14] .fin) (by kernel_rfl);conv=>whnf
  try (refine tI ?_;conv=>whnf)
  try (refine tI ?_;conv=>whnf)
  refine zZ h2 ?_;conv=>whnf
  try (refine tJ ?_;conv=>whnf)
  try (refine tK ?_;conv=>whnf)
  all_goals exact⟨1,by omega,by omega,zS (s:= [0,1]) tA⟩
 ·have ek:k=1:=by simp only [Am,Bf] at h6;omega
  subst ek;apply zW (0) tys_ok mixed (.o [0,1,2,5,6,3,4,7,8,9,10,11] .fin) (by kernel_rfl);conv=>whnf
  refine zZ h1 ?_;conv=>whnf
  refine zZ h3 ?_;conv=>whnf
  try (refine tJ ?_;conv=>whnf)
  try (refine tK ?_;conv=>whnf)
  all_goals refine Ae rfl ?_
  all_goals conv=>whnf
  all_goals exact⟨Ec (Ch z t par [at_] [b]),Bc (f:=Eh) (Ch z t par [at_] [b]) rfl rfl,rfl⟩
theorem Tk (b:List UInt8):Fn Tryz.prog 264 [bA b] fun r=>r = .v (.bool (((b.length:Nat):Int) != 8)):=by
 refine zR Tryz.func264 rfl ?_;exact⟨_,ri,rfl⟩
theorem Z7 (l:List (List UInt8))  (hl:l.length<=1000000):Fn Tryz.prog 261 [ER l, .v (.func (.func 264) #[] #[])] fun r=>r = iv (Vm (fun b=>(((b.length:Nat):Int) != 8)) l):=by
 refine zR Tryz.func261 rfl ?_;conv=>whnf
 refine zM Nat (fun k=>([(0,ER l),(1, .v (.func (.func 264) #[] #[])),(7,iv l.length),(8,iv k)], [])) (fun k=>k<=l.length/\(l.take k).any (fun b=>(((b.length:Nat):Int) != 8))=false) (fun k=>l.length - k) 0 ⟨Aj _,by simp⟩ ⟨[],tv,tA,tv,rfl,rfl,rfl⟩ ?_;rintro k ⟨hk,hI⟩;conv=>whnf
 refine Ao (fun h2=>?_) (fun h2=>?_) <;> simp at h2 <;> conv=>whnf
 ·refine⟨by first | omega | (refine⟨rfl,?_,?_⟩ <;> first | omega | (simp only [Ac];done) | (simp only [Ac];omega)) | (simp only [Ac];omega),?_⟩;conv=>whnf
  refine zZ (Tk (l.getD k [])) ?_;conv=>whnf
  refine Ao (fun h3=>?_) (fun h3=>?_) <;> conv=>whnf
  ·exact⟨_,ri,by rw [IA (d:= []) h2 hI (by first | exact h3 | (rw [Ab] at h3;exact h3) | simpa using h3)]⟩
  ·refine⟨k+1,⟨by omega,Ez (d:= []) h2 hI (by first | exact h3 | (rw [Ab] at h3;exact h3) | simpa using h3)⟩,by omega, [],tv,⟨rfl,rfl,rfl,AI (by omega),tv⟩,tv,rfl,rfl,rfl⟩
 ·exact⟨_,ri,by rw [Az h2] at hI;rw [Hi hI]⟩
theorem Z8 (l:List (List UInt8))  (hl:l.length<=1000000):Fn Tryz.prog 228 [ER l, .v (.func (.func 264) #[] #[])] fun r=>r = .v (.bool (l.any (fun b=>(((b.length:Nat):Int) != 8)))):=by
 refine zR Tryz.func228 rfl ?_;conv=>whnf
 refine zZ (Z7 l  hl) ?_;exact⟨_,ri,by rw [Kw]⟩

theorem Kh (l:List (List UInt8)) (hl:l.length<=1000000) (h:∀ b∈l,b.length=8):Fn Tryz.prog 234 [ER l] fun r=>r = .v (.bool true):=by
 have hc:=Z8 l hl;have e:(l.any fun b=>(((b.length:Nat):Int) != 8))=false:=by
  rw [List.any_eq_false];intro b hb;rw [h b hb];decide
 rw [e] at hc;refine zR Tryz.func234 rfl ?_;conv=>whnf
 refine zZ hc ?_;exact⟨_,ri,rfl⟩
theorem Tg (b:List UInt8):Fn Tryz.prog 227 [bA b] fun r=>r = .v (.bool ((((b.length:Nat):Int) != 0)&&(((b.length:Nat):Int) != 8))):=by
 refine zR Tryz.func227 rfl ?_;conv=>whnf
 by_cases h:((b.length:Nat):Int)=0
 ·rw [show (((b.length:Nat):Int) != 0)=false from bne_eq_false_iff_eq.2 h];exact⟨_,ri,rfl⟩
 ·rw [show (((b.length:Nat):Int) != 0)=true from bne_iff_ne.2 h];exact⟨_,ri,by rw [BV]⟩
theorem Zw (l:List (List UInt8))  (hl:l.length<=1000000):Fn Tryz.prog 261 [ER l, .v (.func (.func 227) #[] #[])] fun r=>r = iv (Vm (fun b=>((((b.length:Nat):Int) != 0)&&(((b.length:Nat):Int) != 8))) l):=by
 refine zR Tryz.func261 rfl ?_;conv=>whnf
 refine zM Nat (fun k=>([(0,ER l),(1, .v (.func (.func 227) #[] #[])),(7,iv l.length),(8,iv k)], [])) (fun k=>k<=l.length/\(l.take k).any (fun b=>((((b.length:Nat):Int) != 0)&&(((b.length:Nat):Int) != 8)))=false) (fun k=>l.length - k) 0 ⟨Aj _,by simp⟩ ⟨[],tv,tA,tv,rfl,rfl,rfl⟩ ?_;rintro k ⟨hk,hI⟩;conv=>whnf
 refine Ao (fun h2=>?_) (fun h2=>?_) <;> simp at h2 <;> conv=>whnf
 ·refine⟨by first | omega | (refine⟨rfl,?_,?_⟩ <;> first | omega | (simp only [Ac];done) | (simp only [Ac];omega)) | (simp only [Ac];omega),?_⟩;conv=>whnf
  refine zZ (Tg (l.getD k [])) ?_;conv=>whnf
  refine Ao (fun h3=>?_) (fun h3=>?_) <;> conv=>whnf
  ·exact⟨_,ri,by rw [IA (d:= []) h2 hI (by first | exact h3 | (rw [Ab] at h3;exact h3) | simpa using h3)]⟩
  ·refine⟨k+1,⟨by omega,Ez (d:= []) h2 hI (by first | exact h3 | (rw [Ab] at h3;exact h3) | simpa using h3)⟩,by omega, [],tv,⟨rfl,rfl,rfl,AI (by omega),tv⟩,tv,rfl,rfl,rfl⟩
 ·exact⟨_,ri,by rw [Az h2] at hI;rw [Hi hI]⟩
theorem Zx (l:List (List UInt8))  (hl:l.length<=1000000):Fn Tryz.prog 228 [ER l, .v (.func (.func 227) #[] #[])] fun r=>r = .v (.bool (l.any (fun b=>((((b.length:Nat):Int) != 0)&&(((b.length:Nat):Int) != 8))))):=by
 refine zR Tryz.func228 rfl ?_;conv=>whnf
 refine zZ (Zw l  hl) ?_;exact⟨_,ri,by rw [Kw]⟩

@[reducible] def zlH (g:Geo) (t:List Ent) (had:List (List UInt8)):List AB:= [.box 298 [iv g.d,Bp t,ER had]]
def GL (L b:List UInt8) (k:Nat):List UInt8:=Do (L.take k) (b.take k) ++ L.drop k
theorem Up {L b:List UInt8} (h:L.length<=b.length) (k:Nat):(GL L b k).length=L.length:=by
 simp only [GL,Ai,Gv,Au,Al];omega
theorem Uq {L b:List UInt8} {k:Nat} (h:k<L.length) (h2:L.length<=b.length):(GL L b k).getD k 0=L.getD k 0:=by
 have e:(Do (L.take k) (b.take k)).length=k:=by rw [Gv,Au,Au];omega
 rw [GL,Aa,A9 (by omega),e,CE,BL,CF,<-Aa]
theorem Uo {L b:List UInt8} {k:Nat} (h:k<L.length) (h2:L.length<=b.length):(GL L b k).set k (L.getD k 0 ^^^ b.getD k 0)=GL L b (k+1):=by
 have e:(Do (L.take k) (b.take k)).length=k:=by rw [Gv,Au,Au];omega
 have e2:Do (L.take (k+1)) (b.take (k+1))=Do (L.take k) (b.take k) ++ [L.getD k 0 ^^^ b.getD k 0]:=by
  rw [AZ,AZ,Af h,Af (by omega),Do,List.zipWith_append (by rw [Au,Au];omega),Aa,Aa,Af h,Af (show k<b.length by omega)];try rfl
 rw [GL,GL,DG _ _ (by omega),e,CE,Bu h,e2,AE];try rfl
theorem Ur {L b:List UInt8} (h:L.length=b.length):GL L b L.length=Do L b:=by
 rw [GL,List.drop_length,AT,Aw,h,Aw]
theorem S_ {l:List UInt8} {k:Nat} (h:k<l.length):(l.map E6).getD k []=E6 (l.getD k 0):=Bd h
theorem Vr (L b:List UInt8) (h:L.length=b.length) (hl:L.length<=1000000):ACalls Tryz.prog false 263 [.ow 0 L.length,bA b] [.row 5 1 (L.map E6)] fun r H=>r = .tp []/\H=[.row 5 1 ((Do L b).map E6)]:=by
 refine zT tys_ok Tryz.func263 rfl rfl (Ag rfl) ?_;conv=>whnf
 refine zU Nat (fun k=>([(0, .ow 0 L.length),(6,bA b),(7,iv (b.length:Nat)),(8,iv (k:Nat))], [.row 5 1 ((GL L b k).map E6)])) (fun k=>k<=b.length) (fun k=>b.length - k) 0 (Aj _)
  (zS (s:= [0]) tA) ?_
 intro k hk;conv=>whnf
 refine A7 (fun h6=>?_) (fun h6=>?_) <;> (repeat rw [Ab] at h6) <;> conv=>whnf
 ·have hk':k<b.length:=by omega
  have hml:=Up (L:=L) (b:=b) (by omega) k;repeat' (refine z_ ?_;conv=>whnf)
  refine⟨⟨by omega,by omega⟩,?_⟩;conv=>whnf
  repeat' (refine z_ ?_;conv=>whnf)
  refine⟨⟨by omega,by omega⟩,?_⟩;refine⟨⟨rfl,by rw [Ac,hml],by omega⟩,?_⟩;rw [Ab,S_ (by omega),Uq (by omega) (by omega)];refine⟨⟨by omega,by omega⟩,?_⟩;refine⟨⟨rfl,by rw [Ac,hml],by omega⟩,?_⟩;rw [Ab,S_ (by omega)];refine⟨k+1,hk',by omega,zS (s:= [0]) ⟨⟨rfl,rfl,rfl,AI (by omega),tv⟩,⟨?_,tv⟩,rfl,rfl,rfl,rfl,rfl⟩⟩;have e:((GL L b k).map E6).set k (E6 (L.getD k 0 ^^^ b.getD k 0))=(GL L b (k+1)).map E6:=by rw [<-BM,Uo (by omega) (by omega)]
  have ex:=QP (L.getD k 0) (b.getD k 0).toNat (b.getD k 0).toNat_lt;rw [UInt8.ofNat_toNat] at ex;rw [<-e];show some (AB.row _ _ _)=some (AB.row _ _ _);rw [show E6 (L.getD k 0 ^^^ b.getD k 0)=[AV.v (.int .u8 ((L.getD k 0 ^^^ b.getD k 0).toNat:Nat))] from rfl,<-ex]
 ·have ek:k=b.length:=by omega
  subst ek;exact⟨_, .tp [], [.row 5 1 ((Do L b).map E6)],fun _ _ h=>h,zS (s:= [0]) ⟨tA,⟨congrArg (fun z=>some (AB.row 5 1 (List.map E6 z))) (show GL L b b.length=Do L b by rw [<-h];exact Ur h),tv⟩,rfl,rfl,rfl,rfl,rfl⟩,rfl,rfl⟩
theorem Tj (l:List (List UInt8)) (hl:l.length<=1000000) (h:∀ b∈l,b.length=8):Fn Tryz.prog 262 [iv 8,ER l] fun r=>r = .v (.bool true):=by
 refine zR Tryz.func262 rfl ?_;conv=>whnf
 refine zU Nat (fun k=>([(0,iv 8),(7,ER l),(8,iv (l.length:Nat)),(9,iv (k:Nat))], [])) (fun k=>k<=l.length) (fun k=>l.length - k) 0 (Aj _)
  (zS (s:= []) tA) ?_
 intro k hk;conv=>whnf
 refine A7 (fun h6=>?_) (fun h6=>?_) <;> (repeat rw [Ab] at h6) <;> conv=>whnf
 ·have hk':k<l.length:=by omega
  have h8:=h _ (A5 (d:=([]:List UInt8)) hk');repeat' (refine z_ ?_;conv=>whnf)
  refine⟨⟨by omega,by omega⟩,?_⟩;conv=>whnf
  repeat' (refine z_ ?_;conv=>whnf)
  rw [show (((l.getD (k:Int).toNat []).length:Int) != 8)=false from bne_eq_false_iff_eq.2 (by rw [Ab,h8];try rfl)];exact⟨k+1,hk',by omega,zS (s:= []) ⟨⟨rfl,rfl,rfl,AI (by omega),tv⟩,tv,rfl,rfl,rfl,rfl,rfl⟩⟩
 ·exact⟨_,ri,rfl⟩
def GC (l:List (List UInt8)):List UInt8:=l.foldl Do zero8
theorem xorL_len:∀ (l:List (List UInt8)) (a:List UInt8),a.length=8->(∀ b∈l,b.length=8)->(l.foldl Do a).length=8
 | [],_,h,_=>h
 | b::l,a,h,hl=>xorL_len l _ (by rw [Gv,h,hl b (by simp)];rfl) fun c hc=>hl c (by simp [hc])
theorem Ok (l:List (List UInt8)) (hl:l.length<=1000000) (h:∀ b∈l,b.length=8):Fn Tryz.prog 230 [ER l,iv 8] fun r=>r = .tp [bA (GC l),iv 0]:=by
 have ha:=Tj l hl h;refine zR Tryz.func230 rfl ?_;conv=>whnf
 refine zZ ha ?_;refine⟨⟨rfl,by decide,by decide⟩,?_⟩;conv=>whnf
 refine zU Nat (fun k=>([(0,ER l),(6, .ow 0 8),(23,ER l),(24,iv (l.length:Nat)),(25,iv (k:Nat))], [.row 5 1 ((GC (l.take k)).map E6)])) (fun k=>k<=l.length) (fun k=>l.length - k) 0 (Aj _)
  (zS (s:= [0]) tA) ?_
 intro k hk;conv=>whnf
 refine A7 (fun h6=>?_) (fun h6=>?_) <;> (repeat rw [Ab] at h6) <;> conv=>whnf
 ·have hk':k<l.length:=by omega
  have h8:=h _ (A5 (d:=([]:List UInt8)) hk');have hx:(GC (l.take k)).length=8:=xorL_len _ _ rfl fun b hb=>h b (Ct hb)
  have hi:=Vr (GC (l.take k)) (l.getD k []) (by omega) (by omega);rw [hx] at hi;have hs:Do (GC (l.take k)) (l.getD k [])=GC (l.take (k+1)):=by
   unfold GC;rw [AZ,BJ,Aa,Af hk'];try rfl
  rw [hs] at hi;repeat' (refine z_ ?_;conv=>whnf)
  refine⟨⟨by omega,by omega⟩,?_⟩;conv=>whnf
  rw [Ab];repeat' (refine z_ ?_;conv=>whnf)
  refine hi.mono ?_;rintro _ _ ⟨rfl,rfl⟩;exact⟨k+1,hk',by omega,zS (s:= [0]) ⟨⟨rfl,rfl,rfl,rfl,AI (by omega),tv⟩,tA,rfl,rfl,rfl,rfl,rfl⟩⟩
 ·have ek:k=l.length:=by omega
  subst ek;have hx:(GC l).length=8:=xorL_len _ _ rfl h;rw [Aw];refine⟨(by rw [Ac,hx]),?_⟩;exact⟨.tp [bA (GC l),iv 0],Cf (m:= [bA (GC l),iv 0]) ⟨Fb hx.symm rfl,ri,tv⟩,rfl⟩
theorem Qr (stamp:Int) (b:List UInt8) (hs:0<=stamp/\stamp<=4294967295) (hb:b.length=8):Fn Tryz.prog 236 [iv stamp,bA b] fun r=>r = .tp [.ag (Cg ⟨stamp,(Cz b:Nat),false⟩),iv 0]:=by
 have h1:=JA b;refine zR Tryz.func236 rfl ?_;conv=>whnf
 rw [show decide (stamp<0)=false from decide_eq_false (by omega)];conv=>whnf
 rw [show decide (stamp > 4294967295)=false from decide_eq_false (by omega)];conv=>whnf
 rw [show ((b.length:Int) != 8)=false from bne_eq_false_iff_eq.2 (by rw [hb];try rfl)];conv=>whnf
 refine zZ h1 ?_;exact⟨_,ri,rfl⟩
theorem Xl (l:List Ent) (hl:l.length<=1000000000):ACalls Tryz.prog false 265 [Bp l] [] fun r H=>r = .ow 0 l.length/\H=[.row 97 3 (l.map Cg)]:=by
 refine zz tys_ok Tryz.func265 rfl rfl (by show 1<=_;decide) ?_;refine Ae (fun h=>?_) ?_
 ·conv=>whnf
  have h0:=AN.1 h;subst h0;exact⟨_, .ow 0 0, [.row 97 3 []],fun _ _ h=>h,zE ⟨[(0,97,3)],tA,tA,tA,rfl,rfl,rfl⟩,rfl,rfl⟩
 ·refine⟨⟨rfl,by omega⟩,?_⟩;exact⟨.ow 0 l.length, .ow 0 l.length, [.row 97 3 (l.map Cg)],fun _ _ h=>by rwa [A3] at h,zE ⟨[],tv,tA,⟨(congrArg (AB.row _ _) (H8 (d:=(⟨0,0,false⟩:Ent)) Cg l)).symm,tv⟩,rfl,rfl,rfl⟩,rfl,rfl⟩
theorem Ts (t:List Ent) (ht:t.length<=1000000):ACalls Tryz.prog false 235 [.ag [Bp t]] [] fun r H=>r = .ag [.ow 0 t.length]/\H=[.row 97 3 (t.map Cg)]:=by
 have h1:=Xl t (by omega);refine zT tys_ok Tryz.func235 rfl rfl (Ag rfl) ?_;conv=>whnf
 refine zV h1 rfl ?_;rintro _ _ ⟨rfl,rfl⟩;exact⟨.ag [.ow 2 t.length], .ag [.ow 0 t.length], [.row 97 3 (t.map Cg)],fun _ _ h=>h,zS (s:= [2]) tA,rfl,rfl⟩
theorem MW (t:List Ent) (ht:t.length<=1000000):ACalls Tryz.prog false 152 [.ag [Bp t]] [] fun r H=>r = .ag [.ow 0 t.length]/\H=[.row 97 3 (t.map Cg)]:=by
 refine zT tys_ok Tryz.func152 rfl rfl (Ag rfl) ?_;refine⟨by omega,?_⟩;exact⟨.ag [.ow 2 t.length], .ag [.ow 0 t.length], [.row 97 3 (t.map Cg)],fun _ _ h=>h,zS (s:= [2]) ⟨tA,⟨congrArg (fun z=>some (AB.row 97 3 z)) (H8 (d:=(⟨0,0,false⟩:Ent)) Cg t),tv⟩,rfl,rfl,rfl,rfl,rfl⟩,rfl,rfl⟩
section
variable (g:Geo) (t:List Ent) (had:List (List UInt8)) (ats:List Int) (bs:List (List UInt8)) (stamp:Int)
def YT (i k:Nat):List UInt8:=match Ex ats bs i k with
 | some b=>b
 | none=>BK g t had i
def JW (i k:Nat):Ent:=match Ex ats bs i k with
 | some b=>⟨stamp,(Cz b:Nat),false⟩
 | none=>t.getD i ez
def DY (i:Nat):List Ent:=(List.range i).map (IN g t had ats bs stamp) ++ t.drop i
theorem JI {i:Nat} (h:i<=t.length):(DY g t had ats bs stamp i).length=t.length:=by simp [DY];omega
theorem JH {i:Nat} (h:i<t.length) (e:Ent):(DY g t had ats bs stamp i).set i e=(List.range i).map (IN g t had ats bs stamp) ++ e::t.drop (i+1):=by
 rw [DY,DG _ _ (by simp),Ac,BQ,CE,Bu h];try rfl
theorem Wy {i:Nat} (h:i<t.length):(DY g t had ats bs stamp i).set i (t.getD i ez)=DY g t had ats bs stamp i:=by
 rw [JH g t had ats bs stamp h,DY,Bu h,Aa,Af h];try rfl
theorem He {i:Nat} (h:i<t.length):(DY g t had ats bs stamp i).set i (IN g t had ats bs stamp i)=DY g t had ats bs stamp (i+1):=by
 rw [JH g t had ats bs stamp h,DY,Bj,A8,AE];try rfl
end
theorem Sy {α β:Type} (f:α->β) (l:List α) (i:Nat) (c e:α):((l.set i c).map f).set i (f e)=(l.set i e).map f:=by
 rw [BM,BM,List.set_set]
theorem SR {l:List Ent} {i:Nat} (h:i<l.length) (c:Ent):((l.set i c).map Cg).getD i []=Cg c:=by
 rw [Aa,AS,AD h];try rfl
theorem P7 (g:Geo) (t:List Ent) (had:List (List UInt8)) (ats:List Int) (bs:List (List UInt8)) (stamp:Int) (hg:Bm g=true) (ht:Gi g t=true) (hh:(had.length:Int)=g.d+1) (hb:∀ b∈had,b.length=0\/b.length=8) (hn:ats.length=bs.length) (h8:∀ b∈bs,b.length=8) (hl:ats.length<=1000):Fn Tryz.prog 85 [.ag (AU g), .ag [Bp t],ER had,iA ats,ER bs,iv stamp] fun r=>r = .tp [.ag [Bp (By g t had ats bs stamp)],bA (DM g t had ats bs g.d.toNat)]:=by
 obtain⟨g1,g2,g3,g4,g5⟩:=Ar.1 hg;have hh2:=ht;simp only [Gi,Ad,decide_eq_true_eq,Av] at hh2;obtain⟨⟨⟨_,t1⟩,t2⟩,_⟩:=hh2;have htw:=MW t (by omega);refine zR Tryz.func85 rfl ?_;conv=>whnf
 refine zV htw rfl ?_;rintro _ _ ⟨rfl,rfl⟩;refine⟨⟨rfl,by decide,by decide⟩,?_⟩;conv=>whnf
 refine zU Nat (fun i=>([(2,ER had),(3,iA ats),(4,ER bs),(5,iv stamp),(6, .bp 0 0),(7, .bp 1 0),(12, .bp 2 0),(14, .bp 3 0),(15,bA (DM g t had ats bs i)),(16,iv (i:Nat))], [.box 23 (AU g), .box 70 [Bp t], .box 70 [.v (.slice none 0 0)], .box 70 [.ow 4 t.length], .row 97 3 ((DY g t had ats bs stamp i).map Cg)])) (fun i=>i<=g.d.toNat) (fun i=>g.d.toNat - i) 0 (Aj _)
  (zG (zQ (zP 15 5 rfl rfl) (zL 15 rfl (Fb (L:=zero8) rfl rfl))) (s:= [0,1,2,4,3]) tA) ?_
 intro i hi;conv=>whnf
 refine A7 (fun h6=>?_) (fun h6=>?_) <;> (repeat rw [Ab] at h6) <;> conv=>whnf
 ·have hk:=TI g t had i hg t1 hh hb (by omega);have hit:i<t.length:=by omega
  have hlo:=JI g t had ats bs stamp (Nat.le_of_lt hit);refine zZ hk ?_;conv=>whnf
  refine zU Nat (fun k=>([(2,ER had),(3,iA ats),(4,ER bs),(5,iv stamp),(6, .bp 0 0),(7, .bp 1 0),(12, .bp 2 0),(14, .bp 3 0),(15,bA (DM g t had ats bs i)),(16,iv (i:Nat)),(17,bA (YT g t had ats bs i k)),(18,iv (k:Nat))], [.box 23 (AU g), .box 70 [Bp t], .box 70 [.v (.slice none 0 0)], .box 70 [.ow 4 t.length], .row 97 3 (((DY g t had ats bs stamp i).set i (JW t ats bs stamp i k)).map Cg)])) (fun k=>k<=ats.length) (fun k=>ats.length - k) 0 (Aj _)
   (zS (s:= [0,1,2,3,4]) ⟨tA,⟨rfl,rfl,rfl,rfl,congrArg (fun z=>some (AB.row 97 3 z)) (show (DY g t had ats bs stamp i).map Cg=((DY g t had ats bs stamp i).set i (JW t ats bs stamp i 0)).map Cg by rw [show JW t ats bs stamp i 0=t.getD i ez from rfl,Wy g t had ats bs stamp hit]),tv⟩,rfl,rfl,rfl,rfl,rfl⟩) ?_
  intro k hk2;conv=>whnf
  refine A7 (fun h7=>?_) (fun h7=>?_) <;> (repeat rw [Ab] at h7) <;> conv=>whnf
  ·have hk3:k<ats.length:=by omega
   have hp:Ex ats bs i (k+1)=if ats.getD k 0=(i:Int) then some (bs.getD k []) else Ex ats bs i k:=rfl
   repeat' (refine z_ ?_;conv=>whnf)
   refine⟨⟨by omega,by omega⟩,?_⟩;conv=>whnf
   rw [Ab];by_cases hq:ats.getD k 0=(i:Int)
   ·rw [if_pos hq] at hp;rw [show (ats.getD k 0 == ((i:Nat):Int))=true by rw [hq];exact beq_self_eq_true _];refine⟨⟨by omega,by omega⟩,?_⟩;conv=>whnf
    rw [Ab];repeat' (refine z_ ?_;conv=>whnf)
    have hbk:=h8 _ (A5 (d:= []) (show k<bs.length by omega));have he:=MM stamp (bs.getD k []) (by omega);apply zW (0) tys_ok mixed (.o [0,1,2,3,4,5,6,7] .fin) (by kernel_rfl);conv=>whnf
    refine zZ he ?_;conv=>whnf
    try (refine tI ?_;conv=>whnf)
    try (refine tS ?_;conv=>whnf)
    all_goals rw [Ab,SR (by omega)]
    all_goals conv=>whnf
    all_goals exact⟨k+1,by omega,by omega,WkN.r (s:= [0,1,2,3,4]) ⟨⟨rfl,rfl,rfl,rfl,rfl,rfl,rfl,rfl,rfl,rfl,congrArg bA (by unfold YT;rw [hp]),AI (by omega),tv⟩,⟨rfl,rfl,rfl,rfl,congrArg (fun z=>some (AB.row 97 3 z)) (show (((DY g t had ats bs stamp i).set i (JW t ats bs stamp i k)).map Cg).set i (Cg ⟨stamp,(Cz (bs.getD k []):Nat),false⟩)=((DY g t had ats bs stamp i).set i (JW t ats bs stamp i (k+1))).map Cg by rw [Sy];unfold JW;rw [hp]),tv⟩,rfl,rfl,rfl,rfl,rfl⟩⟩
   ·rw [if_neg hq] at hp;rw [show (ats.getD k 0 == ((i:Nat):Int))=false by rw [beq_eq_false_iff_ne];exact hq];conv=>whnf
    exact⟨k+1,by omega,by omega,WkN.r (s:= [0,1,2,3,4]) ⟨⟨rfl,rfl,rfl,rfl,rfl,rfl,rfl,rfl,rfl,rfl,congrArg bA (by unfold YT;rw [hp]),AI (by omega),tv⟩,⟨rfl,rfl,rfl,rfl,congrArg (fun z=>some (AB.row 97 3 z)) (show ((DY g t had ats bs stamp i).set i (JW t ats bs stamp i k)).map Cg=((DY g t had ats bs stamp i).set i (JW t ats bs stamp i (k+1))).map Cg by unfold JW;rw [hp]),tv⟩,rfl,rfl,rfl,rfl,rfl⟩⟩
  ·have ek:k=ats.length:=by omega
   subst ek;have eB:YT g t had ats bs i ats.length=F_ g t had ats bs i:=rfl;rw [eB];by_cases h0:(F_ g t had ats bs i).length=0
   ·rw [show (((F_ g t had ats bs i).length:Int) == 0)=true by rw [h0];try rfl];refine⟨⟨by omega,by omega⟩,?_⟩;refine⟨⟨rfl,by rw [Ac,AO,hlo],by omega⟩,?_⟩;rw [Ab,SR (by omega)];conv=>whnf
    have eP:DM g t had ats bs (i+1)=DM g t had ats bs i:=by rw [DM,if_pos h0]
    have eE : { JW t ats bs stamp i ats.length with lost:=true }=IN g t had ats bs stamp i:=by unfold IN;simp only;rw [if_pos h0];try rfl
    exact⟨i+1,by omega,by omega,zS (s:= [0,1,2,3,4]) ⟨⟨rfl,rfl,rfl,rfl,rfl,rfl,rfl,rfl,congrArg bA eP.symm,AI (by omega),tv⟩,⟨rfl,rfl,rfl,rfl,congrArg (fun z=>some (AB.row 97 3 z)) (show (((DY g t had ats bs stamp i).set i (JW t ats bs stamp i ats.length)).map Cg).set i (Cg { JW t ats bs stamp i ats.length with lost:=true })=(DY g t had ats bs stamp (i+1)).map Cg by rw [Sy,eE,He g t had ats bs stamp hit]),tv⟩,rfl,rfl,rfl,rfl,rfl⟩⟩
   ·rw [show (((F_ g t had ats bs i).length:Int) == 0)=false by rw [beq_eq_false_iff_ne];omega];have hn8:=Ml (g:=g) (t:=t) (had:=had) (ats:=ats) (bs:=bs) hb h8 (by omega) i;have hpl:=E_ (g:=g) (t:=t) (had:=had) (ats:=ats) (bs:=bs) hb h8 (by omega) i;have htwo:=S2 (DM g t had ats bs i) (F_ g t had ats bs i) (by omega) (by omega);conv=>whnf
    refine zZ htwo ?_;conv=>whnf
    have eP:DM g t had ats bs (i+1)=Do (DM g t had ats bs i) (F_ g t had ats bs i):=by rw [DM,if_neg h0]
    have eE:JW t ats bs stamp i ats.length=IN g t had ats bs stamp i:=by unfold IN;simp only;rw [if_neg h0];try rfl
    rw [<-eP];exact⟨i+1,by omega,by omega,zS (s:= [0,1,2,3,4]) ⟨⟨rfl,rfl,rfl,rfl,rfl,rfl,rfl,rfl,rfl,AI (by omega),tv⟩,⟨rfl,rfl,rfl,rfl,congrArg (fun z=>some (AB.row 97 3 z)) (show ((DY g t had ats bs stamp i).set i (JW t ats bs stamp i ats.length)).map Cg=(DY g t had ats bs stamp (i+1)).map Cg by rw [eE,He g t had ats bs stamp hit]),tv⟩,rfl,rfl,rfl,rfl,rfl⟩⟩
 ·have ei:i=g.d.toNat:=by omega
  subst ei;have hp8:=E_ (g:=g) (t:=t) (had:=had) (ats:=ats) (bs:=bs) hb h8 (by omega) g.d.toNat;have he:=MM stamp (DM g t had ats bs g.d.toNat) (by omega);apply zW (0) tys_ok mixed (.o [0,1,2,3,4,5,6,7,8] .fin) (by kernel_rfl);conv=>whnf
  refine zZ he ?_;conv=>whnf
  try (refine tI ?_;conv=>whnf)
  try (refine tS ?_;conv=>whnf)
  have hdl:g.d.toNat<t.length:=by omega
  have hlo:=JI g t had ats bs stamp (Nat.le_of_lt hdl);have eW:(DY g t had ats bs stamp g.d.toNat).set g.d.toNat ⟨stamp,(Cz (DM g t had ats bs g.d.toNat):Nat),false⟩=By g t had ats bs stamp:=by
   rw [JH g t had ats bs stamp hdl,By,AH (by omega)]
  have hgl:((DY g t had ats bs stamp g.d.toNat).map Cg).getD g.d.toNat []=Cg ((DY g t had ats bs stamp g.d.toNat).getD g.d.toNat ez):=Bd (by omega);all_goals refine Ae ⟨rfl,by rw [Ac,hlo],hdl⟩ ?_
  all_goals rw [hgl]
  all_goals conv=>whnf
  have eR:((DY g t had ats bs stamp g.d.toNat).map Cg).set g.d.toNat (Cg ⟨stamp,(Cz (DM g t had ats bs g.d.toNat):Nat),false⟩)=(By g t had ats bs stamp).map Cg:=by rw [<-BM,eW]
  have eN:(By g t had ats bs stamp).length=t.length:=by simp [By];omega
  all_goals refine Ae (by rw [AO,Ac,hlo]) ?_
  all_goals conv=>whnf
  all_goals exact⟨.tp [.ag [Bp (By g t had ats bs stamp)],bA (DM g t had ats bs g.d.toNat)],Cf ⟨Bk ⟨Bc (f:=Cg) (By g t had ats bs stamp) eN.symm eR,tv⟩,ri,tv⟩,rfl⟩
inductive TrJ where
 | fin
 | jump (k:Nat)
 | one (i:Nat) (r:TrJ)
 | non
 | alt (i:Nat) (a:TrJ) (r:TrJ)
def TrJ.o (l:List Nat) (t:TrJ):TrJ:=l.foldr .one t
abbrev Seg:=List Nat × Nat × TrJ
def segGet:List Seg->Nat->Option Seg
 | [],_=>none
 | x::_,0=>some x
 | _::r,k+1=>segGet r k
def TrJ.depth (sg:List Seg):TrJ->Nat
 | .fin=>0
 | .jump k=>match segGet sg k with | some s=>s.2.1 | none=>0
 | .one _ r=>r.depth sg+1
 | .non=>0
 | .alt _ a r=>max (a.depth sg+1) (r.depth sg)
def TrJ.alts:TrJ->List Nat
 | .alt i _ r=>i::r.alts
 | _=> []
def eqB:List Bool->List Bool->Bool
 | [], []=>true
 | a::l,b::m=>(a == b)&&eqB l m
 | _,_=>false
theorem eqB_eq:∀ {l m:List Bool},eqB l m=true->l=m
 | [], [],_=>rfl
 | a::l,b::m,h=>by
  simp only [eqB,Ad,beq_iff_eq] at h;rw [h.1,eqB_eq h.2]
 | [],_::_,h=>by simp [eqB] at h
 | _::_, [],h=>by simp [eqB] at h
def eqN:List Nat->List Nat->Bool
 | [], []=>true
 | a::l,b::m=>Nat.beq a b&&eqN l m
 | _,_=>false
theorem eqN_eq:∀ {l m:List Nat},eqN l m=true->l=m
 | [], [],_=>rfl
 | a::l,b::m,h=>by
  simp only [eqN,Ad] at h;rw [Ak h.1,eqN_eq h.2]
 | [],_::_,h=>by simp [eqN] at h
 | _::_, [],h=>by simp [eqN] at h
def Og (n:Nat) (s:List Nat):Array Bool:=s.foldl (fun l i=>l.setIfInBounds i true) (Array.replicate n false)
abbrev Sts:=List (Fr × List AB)
def sget:Sts->Nat->Fr × List AB
 | [],_=>([], [])
 | x::_,0=>x
 | _::r,k+1=>sget r k
section
variable {P:Program} {ops:Array Oper} {B:List Nat} {Q:Exit->Act->World->Prop} {mk:Nat}
def GH (ops:Array Oper) (B:List Nat) (mk:Nat) (sg:List Seg) (me:Nat):TrJ->Bool->Array Bool->Bool
 | .fin,f,l=>f&&(Region.ready .any ops l).isEmpty
 | .jump k,f,l=>f&&Nat.blt me k&&(match segGet sg k with | some s=>eqB l.toList (Og ops.size s.1).toList | none=>false)
 | .one i r,f,l=>f&&(match ops[i]? with
   | none=>false
   | some o=>match isEff o.op with
    | true=>(match Region.ready .any ops l with | [j]=>Nat.beq i j | _=>false)&&(qM mk i o.op || !JN ops B mk i)
    | false=>match mk.testBit i with
     | true=>(match Region.ready .any ops l with | [j]=>Nat.beq i j | _=>false)&&(qM mk i o.op || !JN ops B mk i)
     | false=>Region.free .any ops l i&&(Region.ready .any ops l).contains i)&&GH ops B mk sg me r true (l.setIfInBounds i true)
 | .non,f,_=>!f
 | .alt i a r,f,l=>(!f || eqN (Region.ready .any ops l) (i::r.alts))&&Lm ops B mk i&&GH ops B mk sg me a true (l.setIfInBounds i true)&&GH ops B mk sg me r false l
def PS (P:Program) (T:Tys) (n mk:Nat) (ops:Array Oper) (ds:List Nat) (st:Sts) (K:Fr->List AB->Prop):TrJ->Fr->List AB->Prop
 | .fin,fr,H=>K fr H
 | .jump k,fr,H=>canonK ds fr fun l=>l=(sget st k).1/\H=(sget st k).2
 | .one i r,fr,H=>Fv P T n mk ops i fr H fun fr H=>PS P T n mk ops ds st K r fr H
 | .non,_,_=>True
 | .alt i a r,fr,H=>(Fv P T n mk ops i fr H fun fr H=>PS P T n mk ops ds st K a fr H)/\PS P T n mk ops ds st K r fr H
def OK (P:Program) (T:Tys) (n mk:Nat) (ops:Array Oper) (ds:List Nat) (st:Sts) (K:Fr->List AB->Prop):List Seg->Nat->Prop
 | [],_=>True
 | s::r,k=>PS P T n mk ops ds st K s.2.2 (sget st k).1 (sget st k).2/\OK P T n mk ops ds st K r (k+1)
def Kk (ops:Array Oper) (B:List Nat) (mk:Nat) (sg:List Seg):List Seg->Nat->Bool
 | [],_=>true
 | s::r,k=>GH ops B mk sg k s.2.2 true (Og ops.size s.1)&&Nat.ble (s.2.2.depth sg) s.2.1&&Kk ops B mk sg r (k+1)
variable {T:Tys} {w0:Fl} {M0:Ms} {n d0:Nat} {ce:Ctx}
theorem Mf {ds:List Nat} {st:Sts} {K:Fr->List AB->Prop}:∀ {sg:List Seg} {k0 k:Nat} {s:Seg},OK P T n mk ops ds st K sg k0->segGet sg k=some s->PS P T n mk ops ds st K s.2.2 (sget st (k0+k)).1 (sget st (k0+k)).2
 | [],_,_,_,_,h=>by simp [segGet] at h
 | x::r,k0,0,s,h,hs=>by
  simp only [segGet,Option.some.injEq] at hs;subst hs;exact h.1
 | x::r,k0,k+1,s,h,hs=>by
  have:=Mf (k:=k) h.2 hs;rw [show k0+(k+1)=k0+1+k by omega];exact this
theorem LQ {sg0:List Seg}:∀ {sg:List Seg} {k0 k:Nat} {s:Seg},Kk ops B mk sg0 sg k0=true->segGet sg k=some s->GH ops B mk sg0 (k0+k) s.2.2 true (Og ops.size s.1)=true/\s.2.2.depth sg0<=s.2.1
 | [],_,_,_,_,h=>by simp [segGet] at h
 | x::r,k0,0,s,h,hs=>by
  simp only [segGet,Option.some.injEq] at hs;subst hs;simp only [Kk,Ad] at h;exact⟨h.1.1,Ag h.1.2⟩
 | x::r,k0,k+1,s,h,hs=>by
  simp only [Kk,Ad] at h;have:=LQ (k:=k) h.2 hs;rw [show k0+(k+1)=k0+1+k by omega];exact this
theorem segGet_lt:∀ {sg:List Seg} {k:Nat} {s:Seg},segGet sg k=some s->k<sg.length
 | [],_,_,h=>by simp [segGet] at h
 | _::_,0,_,_=>by simp
 | _::r,k+1,s,h=>by
  have:=segGet_lt (sg:=r) (k:=k) h;simp;omega
def Zt (P:Program) (T:Tys) (ops:Array Oper) (B:List Nat) (mk n:Nat) (Q:Exit->Act->World->Prop) (w0:Fl) (M0:Ms) (ce:Ctx) (st:Sts) (sg:List Seg) (k:Nat):Prop:=
 ∀ (s:Seg) (m:Nat) (c:Ctx) (a:Act),segGet sg k=some s->s.2.1<=m->Cl ops (Og ops.size s.1)->HS w0 M0 c (sget st k).2->FR w0 c n (sget st k).1 a->Ext ce c->HeldM P ops B mk Q m (Og ops.size s.1) a c.w
theorem FG (hT:TOk P T) (hB:GP ops B=true) (hns:Region.noSelect ops=true) {ds:List Nat} {st:Sts} {sg:List Seg} {K:Fr->List AB->Prop} (hq:∀ a w,E5 w0 M0 ce n K a w->Q .normal a w) (hpan:∀ c a w,¬Q (.panic c) a w) {me:Nat} (hseg:∀ k,me<k->Zt P T ops B mk n Q w0 M0 ce st sg k) :
  ∀ (r:TrJ) (m:Nat) (l:Array Bool) (c:Ctx) (fr:Fr) (H:List AB) (a:Act),Cl ops l->HS w0 M0 c H->FR w0 c n fr a->Ext ce c->PS P T n mk ops ds st K r fr H->
   (GH ops B mk sg me r true l=true->r.depth sg<=m->HeldM P ops B mk Q m l a c.w)/\
   (GH ops B mk sg me r false l=true->r.depth sg<=m+1->∀ j∈r.alts,j∈Region.ready .any ops l->wpOp P ops Q j (fun a' w'=>(JN ops B mk j=true->Old c.w w')/\HeldM P ops B mk Q m (l.setIfInBounds j true) a' w') a c.w)
 | .fin,m,l,c,fr,H,a,hcl,hs,hf,he,h=>by
  refine⟨fun hd hm=>?_,fun _ _ j hj=>by simp [TrJ.alts] at hj⟩;simp only [GH,BV,List.isEmpty_iff] at hd;cases m with
  | zero=>exact⟨hd,hq _ _ ⟨c,fr,H,rfl,h,hs,hf,he⟩⟩
  | succ m=>exact⟨fun _=>hq _ _ ⟨c,fr,H,rfl,h,hs,hf,he⟩,by rw [hd];simp⟩
 | .jump k,m,l,c,fr,H,a,hcl,hs,hf,he,h=>by
  refine⟨fun hd hm=>?_,fun _ _ j hj=>by simp [TrJ.alts] at hj⟩;simp only [GH,BV,Ad] at hd;simp only [TrJ.depth] at hm;obtain⟨hlt,hd⟩:=hd;cases hg:segGet sg k with
  | none=>rw [hg] at hd;simp at hd
  | some s=>
   rw [hg] at hd hm;simp only at hd hm;have hl:l=Og ops.size s.1:=Array.ext' (eqB_eq hd);obtain⟨e1,e2⟩:=canonK_iff h;subst hl;refine hseg k (At (Nat.lt_succ_self me) (Ag hlt)) s m c a hg hm hcl (e2 ▸ hs) (e1 ▸ hf.canon _) he
 | .non,m,l,c,fr,H,a,hcl,hs,hf,he,h=>by
  refine⟨fun hd hm=>by simp [GH] at hd,fun _ _ j hj=>by simp [TrJ.alts] at hj⟩
 | .alt i x r,m,l,c,fr,H,a,hcl,hs,hf,he,h=>by
  obtain⟨h1,h2⟩:=h;have key:∀ m,TrJ.depth sg (.alt i x r)<=m+1->Lm ops B mk i=true->GH ops B mk sg me x true (l.setIfInBounds i true)=true->i∈Region.ready .any ops l->wpOp P ops Q i (fun a' w'=>(JN ops B mk i=true->Old c.w w')/\HeldM P ops B mk Q m (l.setIfInBounds i true) a' w') a c.w:=by
   intro m hm hk hx hr;simp only [TrJ.depth] at hm;unfold Lm at hk;split at hk
   ·rename_i o ho;refine FL hT ho hk hs hf he (fun c' fr' H' a' q1 q2 q3 q4=>(FG hT hB hns hq hpan hseg x m _ c' fr' H' a' (hcl.set hr) q1 q2 q3 q4).1 hx (by omega)) h1
   ·cases hk
  refine⟨fun hd hm=>?_,fun hd hm j hj hr=>?_⟩
  ·simp only [GH,Bool.not_true,Bool.false_or,Ad] at hd;obtain⟨⟨⟨hr,hi⟩,hx⟩,hy⟩:=hd;have hr':=eqN_eq hr;cases m with
   | zero=>simp only [TrJ.depth] at hm;omega
   | succ m=>
    refine⟨fun h0=>(by rw [hr'] at h0;cases h0),fun j hj=>?_⟩;have hj0:=hj;rw [hr',AK] at hj;rcases hj with rfl | hj
    ·exact key m hm hi hx hj0
    ·refine(FG hT hB hns hq hpan hseg r m l c fr H a hcl hs hf he h2).2 hy ?_ j hj hj0;simp only [TrJ.depth] at hm;omega
  ·simp only [GH,Bool.not_false,Bool.true_or,BV,Ad] at hd;obtain⟨⟨hi,hx⟩,hy⟩:=hd;simp only [TrJ.alts,AK] at hj;rcases hj with rfl | hj
   ·exact key m hm hi hx hr
   ·refine(FG hT hB hns hq hpan hseg r m l c fr H a hcl hs hf he h2).2 hy ?_ j hj hr;simp only [TrJ.depth] at hm;omega
 | .one i r,m,l,c,fr,H,a,hcl,hs,hf,he,h=>by
  refine⟨fun hd hm=>?_,fun _ _ j hj=>by simp [TrJ.alts] at hj⟩;cases m with
  | zero=>simp [TrJ.depth] at hm
  | succ m=>
   simp only [TrJ.depth,Nat.add_le_add_iff_right] at hm;simp only [GH,BV,Ad] at hd;obtain⟨hd1,hd2⟩:=hd;simp only [PS] at h;cases ho:ops[i]? with
   | none=>rw [ho] at hd1;simp at hd1
   | some o=>
    rw [ho] at hd1;simp only at hd1;have only:(match Region.ready .any ops l with | [j]=>Nat.beq i j | _=>false)=true->(qM mk i o.op || !JN ops B mk i)=true->HeldM P ops B mk Q (m+1) l a c.w:=by
     intro hr hmq;have hr':Region.ready .any ops l=[i]:=by
      split at hr
      ·rename_i j hj;rw [hj,Ak hr]
      ·cases hr
     have hri:i∈Region.ready .any ops l:=by rw [hr'];simp
     refine⟨fun h0=>(by rw [hr'] at h0;cases h0),fun j hj=>?_⟩;rw [hr',Ay] at hj;subst hj;exact FL hT ho hmq hs hf he (fun c' fr' H' a' q1 q2 q3 q4=>(FG hT hB hns hq hpan hseg r m _ c' fr' H' a' (hcl.set hri) q1 q2 q3 q4).1 hd2 hm) h
    cases hE:isEff o.op with
    | true=>
     rw [hE] at hd1;simp only [Ad] at hd1;exact only hd1.1 hd1.2
    | false=>
     rw [hE] at hd1;dsimp only at hd1;cases hM:mk.testBit i with
     | true=>
      rw [hM] at hd1;simp only [Ad] at hd1;exact only hd1.1 hd1.2
     | false=>
     rw [hM] at hd1;simp only [Ad] at hd1;obtain⟨hfree,hr⟩:=hd1;have hri:i∈Region.ready .any ops l:=by simpa using hr
     simp only [Fv,EH] at h;rw [show ops.toList[i]? = some o by simpa using ho] at h;simp only at h;have step:∀ v fr2,YieldsIf P ops (fun w'=>pureOp o.op=true\/Old c.w w') o v a->FR w0 c n fr2 (a.put o.dst v)->PS P T n mk ops ds st K r fr2 H->HeldM P ops B mk Q (m+1) l a c.w:=by
      intro v fr2 hy hf2 h2;exact HeldM.first1 hB ho hM hE (Region.noSelect_spec hns) (fun c a w h=>(hpan _ _ _ h).elim) m l a c.w hcl (Region.free_spec ho hfree) hri hy
       ((FG hT hB hns hq hpan hseg r m _ c fr2 H _ (hcl.set hri) hs hf2 he h2).1 hd2 hm)
     rcases DQ hf h with ⟨hw,fr',hf',h⟩ | ⟨hw,fr',hf',h⟩
     ·unfold Ic at h;rw [hE] at h;obtain⟨rr,v,h1,h2,h3⟩:=(Hr hT hs hf' h).y;obtain⟨fr2,h4,h5⟩:=CG hf' h3 h1;exact step v fr2 (.inl ⟨hw,h2⟩) h5 h4
     ·obtain⟨fr2,h4,h5⟩:=CG (v:=undef) hf' (by simp [Rd]) h;exact step undef fr2 (.inr ⟨hw,rfl⟩) h5 h4
theorem LP (hT:TOk P T) (hB:GP ops B=true) (hns:Region.noSelect ops=true) {ds:List Nat} {st:Sts} {sg:List Seg} {K:Fr->List AB->Prop} (hq:∀ a w,E5 w0 M0 ce n K a w->Q .normal a w) (hpan:∀ c a w,¬Q (.panic c) a w) (hok:Kk ops B mk sg sg 0=true) (h:OK P T n mk ops ds st K sg 0):∀ (z k:Nat),sg.length<=z+k->Zt P T ops B mk n Q w0 M0 ce st sg k
 | 0,k,hz,s,m,c,a,hg,_,_,_,_,_=>by
  have:=segGet_lt hg;omega
 | z+1,k,hz,s,m,c,a,hg,hm,hcl,hs,hf,he=>by
  obtain⟨h1,h2⟩:=LQ hok hg;have h3:=Mf h hg;rw [A3] at h1 h3;exact(FG hT hB hns hq hpan (fun k' hk'=>LP hT hB hns hq hpan hok h z k' (by omega)) s.2.2 m _ c _ _ a hcl hs hf he h3).1 h1 (by omega)
def Zp (ops:Array Oper) (mk:Nat) (sg:List Seg):Bool:=GP ops (K6 ops)&&Region.noSelect ops&&(match sg with | ([],d,_)::_=>Nat.ble d ops.size | _=>false)&&Kk ops (K6 ops) mk sg sg 0
theorem aDraw.dag (mk:Nat) (hT:TOk P T) (hm:P.follows .mixedOrders=true) {id:Nat} {K:Fr->List AB->Prop} {fr:Fr} {H:List AB} (sg:List Seg) (ds:List Nat) (st:Sts) {F:Fr} {H2:List AB} (hok:Zp ops mk sg=true)
  (h:OK P T n mk ops (ds ++ slots fr) ((fr,H)::st) (fun fr' H'=>canonK (ds ++ slots fr) fr' fun l=>l=F/\H'=H2) sg 0) (hk:K F H2):aDraw P T n d0 id ops K fr H:=by
 simp only [Zp,Ad] at hok;obtain⟨⟨⟨hB,hns⟩,hlen⟩,hok⟩:=hok;refine⟨fun w0 M0 ce c a hs hf he hd Q hQ=>?_⟩;refine wp_mono (Q:=fun e a w=>e = .normal/\E5 w0 M0 ce n (fun fr' H'=>canonK (ds ++ slots fr) fr' fun l=>l=F/\H'=H2) a w) ?_ ?_
 ·refine wp_region_any hm (HeldM.any (B:=K6 ops) (mk:=mk) _ _ _ _ ?_);have hb:=(Below.refl c.w.heap.size c.w).drew;obtain⟨h1,h2⟩:=hs.grow hb;have hcl:Cl ops (Array.replicate ops.size false):=by
   intro j o hj hlj;rcases B_ j ops.size with h' | h'
   ·simp [h'] at hlj
   ·simp [BR h'] at hj
  cases sg with
  | nil=>simp at hlen
  | cons s sg=>
   obtain⟨s1,d,tr⟩:=s;cases s1 with
   | cons _ _=>simp at hlen
   | nil=>
    exact LP (w0:=w0) (M0:=M0) (ce:=ce) (st:=(fr,H)::st) hT hB hns (fun a w hl=>⟨rfl,hl⟩) (fun c a w h=>by cases h.1) hok h _ 0 (Ah _) ([],d,tr) _ { c with w:=c.w.drew } a rfl (Ag hlen) hcl h1 (hf.ext h2) (he.trans h2)
 ·rintro e a w ⟨rfl,c',fr',H',rfl,h1,h2,h3,h4⟩;obtain⟨e1,rfl⟩:=canonK_iff h1;exact hQ c' F H' a hk h2 (e1 ▸ h3.canon _) h4
end
theorem SK {d:Dk} (hd:DkOk d) (hl:d.left<0) (k:Nat):Lv d k:=⟨hd.r, .inl hl⟩
theorem Py (k:Nat) (d:Dk) (l:List Int):BB (d.tick k) l=BB d l:=rfl
theorem finL_two:∀ (l:List Wr) (cs:List Cel) (a:Nat),((CX cs l).getD a cz).state=2↔(cs.getD a cz).state=2:=fun l cs a=>by
 by_cases ha:a<cs.length
 ·by_cases h:(cs.getD a cz).state=2
  ·rw [finL_stuck l cs a ha h]
  ·rcases finL_any l cs a ha with e | ⟨_,e,_⟩
   ·rw [e]
   ·rw [e];exact⟨fun q=>absurd q (by decide),fun q=>absurd q h⟩
 ·rw [Aa,Aa,AG (by rw [finL_len];omega),AG (by omega)]
theorem WV (l:List Wr) (cs:List Cel):free (CX cs l)=free cs:=by
 funext w;unfold free;rw [Bool.eq_iff_iff,decide_eq_true_eq,decide_eq_true_eq];exact not_congr (finL_two l cs _)
def Mm (g:Geo) (w:List Wr):Nat:=g.an.toNat+2*g.sl.toNat+(if w=[] then 0 else w.length+1)+(g.an.toNat+1)
theorem OR {g:Geo} {d:Dk} {a:An} {j:Nat} {L:List Tx} {w:List Wr} (hg:Bm g=true) (hd:DkOk d) (hn:(d.cells.length:Int)=Aq g) (hc:d.cache=[]) (hl:d.left<0) (hp:HT g (BB d (Ek g))=some (a,j)) (hs:Gj g a (BB d (BS g 0)) (BB d (BS g 1))=(L,w,0)) (h1:a.gen≠4294967295) (h2:a.epoch≠4294967295) (hw1:∀ z∈w,QI d.cells.length z) (hw2:w.length<=900) :
  D_ g d=(⟨CX (CX d.cells w) (Ba g (De a L.length)), [],(d.tick (Mm g w)).reqs,d.left⟩,if ((Ba g (De a L.length)).filter (free d.cells)).length=0 then 14 else 0,if ((Ba g (De a L.length)).filter (free d.cells)).length=0 then st0 else AJ (De a L.length) L):=by
 obtain⟨g1,g2,g3,g4,g5⟩:=Ar.1 hg;have hao:=Lz hg _ hp;have hlv:∀ k,d.live k:=fun k=> .inl hl
 have htl:∀ k,(d.tick k).left=d.left:=fun k=>if_pos hl
 have hr:=hd.r;unfold D_;rw [if_pos (hlv _),hp];simp only;unfold Kq;rw [Kb _ (SK hd hl _),if_pos (show (d.tick g.an.toNat).live _ from .inl (by rw [htl];exact hl)),Py,Py,hs];rw [Kb _ (show Lv (d.tick g.an.toNat) (2*g.sl.toNat) from J8 (SK hd hl _)),G_ _ _ hr.2 (.inl hl)];unfold OT;simp only [ne_eq,not_true,if_false];have hm:(d.tick (g.an.toNat+2*g.sl.toNat)).mend w=(⟨CX d.cells w, [],(d.tick (g.an.toNat+2*g.sl.toNat+(if w=[] then 0 else w.length+1))).reqs,d.left⟩,false):=by
  unfold Dk.mend;by_cases hw:w=[]
  ·subst hw;rw [if_pos rfl,if_pos rfl,CF];simp only [Prod.mk.injEq,and_true];show (d.tick _:Dk)=_;unfold Dk.tick;rw [hc,if_pos hl];try rfl
  ·rw [if_neg hw,if_neg hw,JG (J8 (SK hd hl _)) hc (by omega),G_ _ _ hr.2 (.inl hl)];simp only [htl];rfl
 rw [hm];simp only [CI,if_false];unfold OS;rw [if_neg (by rintro(h | h);exact h1 h;exact h2 h)];obtain⟨K,hK⟩:∃ K,K=g.an.toNat+2*g.sl.toNat+(if w=[] then 0 else w.length+1):=⟨_,rfl⟩;rw [<-hK];have hrk:0<=(d.tick K).reqs/\(d.tick K).reqs<=1048576:=by show 0<=min _ _/\min _ _<=_;omega
 have hlen:=ED g (De a L.length);rw [JG (d:=⟨CX d.cells w, [],(d.tick K).reqs,d.left⟩) ⟨hrk, .inl hl⟩ rfl (by omega)];simp only [CI,if_false,WV,hlen];have e1:((⟨CX d.cells w, [],(d.tick K).reqs,d.left⟩:Dk).tick (g.an.toNat+1)).left=d.left:=if_pos hl;have e2:((⟨CX d.cells w, [],(d.tick K).reqs,d.left⟩:Dk).tick (g.an.toNat+1)).reqs=(d.tick (Mm g w)).reqs:=by
  show min ((d.tick K).reqs+((g.an.toNat+1:Nat):Int)) _=min _ _;show min (min (d.reqs+(K:Nat)) 1048576+((g.an.toNat+1:Nat):Int)) 1048576=min (d.reqs+(Mm g w:Nat)) 1048576;unfold Mm;rw [<-hK];omega
 rw [e1,e2];split <;> rfl
theorem Mc (g:Geo) (l:List Gt):∀ k,(FD g l k=none->∀ i,i<k->Fo g (l.getD i ⟨0, []⟩) (i:Nat)=none)/\∀ a j,FD g l k=some (a,j)->j<k/\Fo g (l.getD j ⟨0, []⟩) (j:Nat)=some a/\∀ i b,i<k->Fo g (l.getD i ⟨0, []⟩) (i:Nat)=some b->b.gen<=a.gen
 | 0=>⟨fun _ i hi=>by omega,fun a j h=>by cases h⟩
 | k+1=>by
  obtain⟨ih1,ih2⟩:=Mc g l k;rw [Jg,PN];cases hS:Fo g (l.getD k ⟨0, []⟩) (k:Nat) with
  | none=>
   refine⟨fun h i hi=>?_,fun a j h=>?_⟩
   ·by_cases e:i=k
    ·rw [e];exact hS
    ·exact ih1 h i (by omega)
   ·obtain⟨q1,q2,q3⟩:=ih2 a j h;refine⟨by omega,q2,fun i b hi hb=>?_⟩;by_cases e:i=k
    ·rw [e,hS] at hb;cases hb
    ·exact q3 i b (by omega) hb
  | some c=>
   cases hP:FD g l k with
   | none=>
    refine⟨fun h=>(by cases h),fun a j h=>?_⟩;cases h;refine⟨by omega,hS,fun i b hi hb=>?_⟩;by_cases e:i=k
    ·rw [e,hS] at hb;cases hb;exact Dg _
    ·rw [ih1 hP i (by omega)] at hb;cases hb
   | some q=>
    obtain⟨a0,j0⟩:=q;obtain⟨q1,q2,q3⟩:=ih2 a0 j0 hP;simp only;by_cases hlt:a0.gen<c.gen
    ·rw [if_pos hlt];refine⟨fun h=>(by cases h),fun a j h=>?_⟩;cases h;refine⟨by omega,hS,fun i b hi hb=>?_⟩;by_cases e:i=k
     ·rw [e,hS] at hb;cases hb;exact Dg _
     ·have:=q3 i b (by omega) hb;omega
    ·rw [if_neg hlt];refine⟨fun h=>(by cases h),fun a j h=>?_⟩;cases h;refine⟨by omega,q2,fun i b hi hb=>?_⟩;by_cases e:i=k
     ·rw [e,hS] at hb;cases hb;omega
     ·exact q3 i b (by omega) hb
theorem Sh {g:Geo} {d:Dk} {i:Nat} (hi:i<g.an.toNat):(BB d (Ek g)).getD i ⟨0, []⟩=OW d (i:Nat):=by
 rw [BB,Bd (d:=0) (by rw [FN];exact hi),Oh hi]
theorem Rf {g:Geo} {a:An} {i:Nat} (hg:Bm g=true) (ha:Bn g a=true) (hi:(i:Int)<=65535):Fo g ⟨0,Dq a i⟩ i=some a:=by
 obtain⟨e1,e2,e3,e4⟩:=C8 (II hg ha (i:=(i:Nat)) ⟨by omega,hi⟩);unfold Fo;rw [if_pos ⟨rfl,e1,e2⟩];show (match FC g (Cc (Dq a i)) with | some a_1=>if a_1.gen=Bi (Dq a i) then some a_1 else none | none=>none)=_;rw [show Cc (Dq a i)=MV a from e4,TR hg ha,show Bi (Dq a i)=a.gen from e3];simp
section
variable {g:Geo} {a:An} {fill:UInt8} {sizes:List Int}
end
theorem Iq {g:Geo} {c s:Int} (hc:c=0\/c=1) (hs:0<=s/\s<g.sl):g.an<=Bh g c s/\Bh g c s<g.an+2*g.sl:=by
 unfold Bh;rcases hc with rfl | rfl <;> omega
section
variable {g:Geo} {s:ByteArray} {a:An} {fill:UInt8} {sizes:List Int}
theorem JZ {b:An} (hg:Bm g=true) (hb:Bn g b=true) (i:Int):(Dq b i).length<=200:=by
 have:=K7 hg hb;rw [Dq,FE];omega
end
theorem Lt {cs:List Cel} {n:Nat} (h:cs.length=n) {k:Nat} (hk:k<n):(cs.map B7).getD k []=B7 (cs.getD k cz):=Bd (by omega)
theorem Ya {g:Geo} (hg:Bm g=true):Gi g (Fd g)=true:=by
 obtain⟨g1,g2,g3,g4,g5⟩:=Ar.1 hg;have hz:=I2 zero8;simp only [Gi,hg,Fd,Bw,Ad,decide_eq_true_eq,BV];refine⟨⟨by omega,?_⟩,?_⟩
 ·rw [Av];intro e he;rw [Dc he];simp [Ed,ent0,HU,CQ];exact decide_eq_true (by omega)
 ·have:GW (List.replicate (g.d+1).toNat ent0) g.d.toNat=false:=by
   unfold GW;rw [C7 (by omega)];try rfl
  rw [this];try rfl
theorem V5 {g:Geo} (hg:Bm g=true) {a:Int} (ha:0<=a/\a<=65535):Vl a 0 (Da (Fd g)):=by
 obtain⟨g1,g2,g3,g4,g5⟩:=Ar.1 hg;refine⟨ha.1,ha.2,Dg _,by decide,?_⟩;rw [EV,Fd,Bw];omega
section
variable {g:Geo} {s:ByteArray} {a b:An} {fill:UInt8} {sizes:List Int} {d:Dk}
theorem Mv {F:Int->List UInt8} {n:Int} (h:Holds d n F) (l:List Int) (hl:∀ x∈l,0<=x/\x<n):BB d l=l.map fun x=>⟨0,F x⟩:=by
 unfold BB;refine C4 fun x hx=>?_
 exact h.got (hl x hx).1 (hl x hx).2
theorem ND (hg:Bm g=true) {c:Int} (hc:c=0\/c=1):∀ x∈BS g c,0<=x/\x<Aq g:=fun x hx=>by
 obtain⟨g1,g2,g3,g4,g5⟩:=Ar.1 hg;have hcg:=Ey hg;simp only [BS,AQ,AR] at hx;obtain⟨i,hi,rfl⟩:=hx;have:=Iq (g:=g) hc (s:=(i:Nat)) (by omega);omega
theorem Uv {F:Int->List UInt8} (hg:Bm g=true) {c:An} (h:Holds d (Aq g) F) {r:Int} {l:Int}:Holds ⟨CX d.cells (Ba g c), [],r,l⟩ (Aq g) (fun x=>if x<g.an then Dq c x else F x):=by
 obtain⟨g1,g2,g3,g4,g5⟩:=Ar.1 hg;have hcg:=Ey hg;refine⟨by rw [<-h.len];show ((CX d.cells _).length:Int)=_;rw [finL_len],rfl,fun x h0 h1=>?_⟩;obtain⟨e1,e2⟩:=h.cell x h0 h1;have hlt:x.toNat<d.cells.length:=by have:=h.len;omega
 show ((CX d.cells _).getD x.toNat cz).state=0/\((CX d.cells _).getD x.toNat cz).bytes=_;have hmem:∀ w∈Ba g c,∃ i:Nat,i<g.an.toNat/\w=⟨(i:Nat),Dq c (i:Nat)⟩:=fun w hw=>by
  simp only [Ba,AQ,AR] at hw;obtain⟨i,hi,rfl⟩:=hw;exact⟨i,hi,rfl⟩
 by_cases hx:x<g.an
 ·rw [if_pos hx];refine ML _ _ _ hlt (by rw [e1];decide) (fun w hw hwa=>?_) (.inl ⟨⟨x,Dq c x⟩,?_,rfl⟩)
  ·obtain⟨i,hi,rfl⟩:=hmem w hw;have:((i:Nat):Int).toNat=x.toNat:=hwa;show Dq c (i:Nat)=_;congr 1;omega
  ·simp only [Ba,AQ,AR];exact⟨x.toNat,by omega,by rw [C5 h0]⟩
 ·rw [if_neg hx,finL_miss _ _ _ hlt (fun w hw e=>?_)]
  ·exact⟨e1,e2⟩
  ·obtain⟨i,hi,rfl⟩:=hmem w hw;have:((i:Nat):Int).toNat=x.toNat:=e;omega
theorem WW {n:Int} {F:Int->List UInt8} (h:Holds d n F) (l:List Wr) (hl:∀ w∈l,0<=w.addr/\w.addr<n):l.filter (free d.cells)=l:=by
 rw [List.filter_eq_self];intro w hw;unfold free;rw [(h.cell w.addr (hl w hw).1 (hl w hw).2).1];try rfl
end



theorem PG (g:Geo) (s:ByteArray) (hg:Bm g=true) (hs:G6 s.data.toList=0):ACalls Tryz.prog false 57 [.ag (AU g), .v (.string s)] [] fun r H=>r = .ag [.ow 0 (Aq g).toNat,nilV,ze 0,ze (-1)]/\H=[.row 128 3 ((G9 g s).cells.map B7)]:=by
 obtain⟨g1,g2,g3,g4,g5⟩:=Ar.1 hg;have hcg:=Ey hg;have hp:=GU hg;have hN:1<=(Aq g).toNat/\(Aq g).toNat<=300:=by
  have:g.z*CK g<=4*7:=Int.mul_le_mul (by omega) (by omega) (by omega) (by omega);unfold Aq at hcg |-
  omega
 have hcN:Aq g=((Aq g).toNat:Int):=by omega
 have hao:=IG hg hs;have hA:=Xf g s hg;have hC:=LZ g hg;rw [hcN] at hC;have hD:=VY (Aq g).toNat hN;refine zT tys_ok Tryz.func57 rfl rfl (Ag rfl) ?_;conv=>whnf
 refine zZ hC ?_;conv=>whnf
 refine zV hD rfl ?_;rintro _ _ ⟨rfl,rfl⟩;conv=>whnf
 refine zZ hA ?_;conv=>whnf
 refine zU Nat (fun k=>([(2, .bp 0 0),(4, .bp 1 0),(5, .bp 2 0),(6, .bp 3 0),(7,ze k)], [.box 23 (AU g), .box 43 [nilV,nilV,ze 0,ze 0], .box 43 [.ow 4 (Aq g).toNat,nilV,ze 0,ze (-1)], .box 33 (Ft (BO g s)), .row 128 3 ((EJ (Ju g) ((Ba g (BO g s)).take k)).map B7)])) (fun k=>k<=g.an.toNat) (fun k=>g.an.toNat - k) 0 (Aj _)
  ?_ ?_
 ·refine zG (zJ (zA (k:=2) rfl (es':=(Ju g).map B7) (by simp [Ju]) fun i=>?_)) (s:= [0,1,3,4,2]) tA;rw [Ju,DD];by_cases hi:i<(Aq g).toNat
  ·rw [Mz hi,Mz hi];exact⟨fun _ _ h=>h,Bo 1 _,Bo 1 _,tv⟩
  ·rw [Aa,Aa,AG (by simpa using hi),AG (by simpa using hi)];exact SubL.refl _
 ·intro k hk;conv=>whnf
  refine A7 (fun h6=>?_) (fun h6=>?_) <;> (repeat rw [Ab] at h6) <;> conv=>whnf
  ·have hk':k<(Ba g (BO g s)).length:=by rw [ED];omega
   have hsx:=IE (Ju g) hk';rw [Lg (by omega)] at hsx;have hlx:(EJ (Ju g) ((Ba g (BO g s)).take k)).length=(Aq g).toNat:=by rw [F4,M8]
   generalize EJ (Ju g) ((Ba g (BO g s)).take k)=cs at hsx hlx |-
   have hnc:=Ma g (BO g s) k hg hao (by omega);have hE:(cs.map B7).getD (k:Int).toNat []=B7 (cs.getD (k:Int).toNat cz):=Lt hlx (by omega);repeat' (refine z_ ?_;conv=>whnf)
   apply zW (0) tys_ok mixed (.o [0,1,2,3,4,5,6,7,8] .fin) (by kernel_rfl);conv=>whnf
   refine zZ hnc ?_;conv=>whnf
   try (refine tI ?_;conv=>whnf)
   try (refine tS ?_;conv=>whnf)
   (first | rw [hE] | skip)
   conv=>whnf
   all_goals exact⟨k+1,by omega,by omega,zS (s:= [0,1,2,3,4]) ⟨⟨rfl,rfl,rfl,rfl,AI (by omega),tv⟩,⟨rfl,rfl,rfl,rfl,congrArg (fun l=>some (AB.row _ _ l)) (by rw [hsx,JR];try rfl),tv⟩,rfl,rfl,rfl,rfl,rfl⟩⟩
  ·have ek:k=(Ba g (BO g s)).length:=by rw [ED];omega
   rw [ek,Aw];repeat' (refine z_ ?_;conv=>whnf)
   refine zU Nat (fun c=>([(2, .bp 0 0),(4, .bp 1 0),(5, .bp 2 0),(6, .bp 3 0),(8,ze c)], [.box 23 (AU g), .box 43 [nilV,nilV,ze 0,ze 0], .box 43 [.ow 4 (Aq g).toNat,nilV,ze 0,ze (-1)], .box 33 (Ft (BO g s)), .row 128 3 ((O_ g s c).map B7)])) (fun c=>c<=2) (fun c=>2 - c) 0 (Aj _)
    (zS (s:= [0,1,2,3,4]) tA) ?_
   intro c hc;conv=>whnf
   refine A7 (fun h7=>?_) (fun h7=>?_) <;> (repeat rw [Ab] at h7) <;> conv=>whnf
   ·have hc01:(c:Int)=0\/(c:Int)=1:=by omega
    repeat' (refine z_ ?_;conv=>whnf)
    refine zU Nat (fun i=>([(2, .bp 0 0),(4, .bp 1 0),(5, .bp 2 0),(6, .bp 3 0),(8,ze c),(9,ze i)], [.box 23 (AU g), .box 43 [nilV,nilV,ze 0,ze 0], .box 43 [.ow 4 (Aq g).toNat,nilV,ze 0,ze (-1)], .box 33 (Ft (BO g s)), .row 128 3 ((EJ (O_ g s c) ((HE g c).take i)).map B7)])) (fun i=>i<=g.sl.toNat) (fun i=>g.sl.toNat - i) 0 (Aj _)
     (zS (s:= [0,1,2,3,4]) tA) ?_
    intro i hi;conv=>whnf
    refine A7 (fun h8=>?_) (fun h8=>?_) <;> (repeat rw [Ab] at h8) <;> conv=>whnf
    ·have hlw:(HE g c).length=g.sl.toNat:=by simp [HE]
     have hi':i<(HE g c).length:=by omega
     have hsx:=IE (O_ g s c) hi';rw [show (HE g c).getD i ⟨0, []⟩=⟨Bh g c (i:Nat),BG g zeroC c (i:Nat)⟩ from Kn (by omega)] at hsx;have hlx:(EJ (O_ g s c) ((HE g c).take i)).length=(Aq g).toNat:=by rw [F4,M7]
     generalize EJ (O_ g s c) ((HE g c).take i)=cs at hsx hlx |-
     have hokl:IU g c i=true:=by simp only [IU,Ad,AF];omega
     have hla:=Fp g c i hg hokl;have hin:=F0 (n:=(Aq g).toNat) hg hcN.symm hc01 (s:=i) (by omega);have hrc:=Hz g zeroC c i (EG hg) hokl;have hE:(cs.map B7).getD (Bh g c i).toNat []=B7 (cs.getD (Bh g c i).toNat cz):=Lt hlx (by omega);repeat' (refine z_ ?_;conv=>whnf)
     apply zW (0) tys_ok mixed (.o [0,1,2,3,4,6,7,8,9,5,10,11,12,13] .fin) (by kernel_rfl);conv=>whnf
     refine zZ hla ?_;conv=>whnf
     (refine zX [.ag (AU g), .ag (Kd zeroC),ze c,ze i] (by repeat' (first | exact trivial | exact fun _ _ h=>h | exact Bo _ _ | refine Ae ?_ ?_ | refine Bk ?_)) ?_;refine zZ hrc ?_)
     conv=>whnf
     try (refine tI ?_;conv=>whnf)
     try (refine tS ?_;conv=>whnf)
     (first | rw [hE] | skip)
     conv=>whnf
     all_goals exact⟨i+1,by omega,by omega,zS (s:= [0,1,2,3,4]) ⟨⟨rfl,rfl,rfl,rfl,rfl,AI (by omega),tv⟩,⟨rfl,rfl,rfl,rfl,congrArg (fun l=>some (AB.row _ _ l)) (by rw [hsx,JR];try rfl),tv⟩,rfl,rfl,rfl,rfl,rfl⟩⟩
    ·have ei:i=(HE g c).length:=by simp [HE];omega
     repeat' (refine z_ ?_;conv=>whnf)
     exact⟨c+1,by omega,by omega,zS (s:= [0,1,2,3,4]) ⟨⟨rfl,rfl,rfl,rfl,AI (by omega),tv⟩,⟨rfl,rfl,rfl,rfl,by rw [ei,Aw];try rfl,tv⟩,rfl,rfl,rfl,rfl,rfl⟩⟩
   ·have ec:c=2:=by omega
    subst ec;have hT:=Yb g hg;have hz8:=I2 zero8;have hB:=Su (Fd g) (by rw [Fd,Bw];omega) (fun e he=>by rw [Dc he];simp only [ent0];omega);repeat' (refine z_ ?_;conv=>whnf)
    refine zZ hT ?_;conv=>whnf
    refine zZ hB ?_;conv=>whnf
    repeat' (refine z_ ?_;conv=>whnf)
    refine zU Nat (fun z=>([(2, .bp 0 0),(4, .bp 1 0),(5, .bp 2 0),(10,bA (Da (Fd g))),(11,ze z)], [.box 23 (AU g), .box 43 [nilV,nilV,ze 0,ze 0], .box 43 [.ow 4 (Aq g).toNat,nilV,ze 0,ze (-1)], .box 33 (Ft (BO g s)), .row 128 3 ((HH g s z).map B7)])) (fun z=>z<=g.z.toNat) (fun z=>g.z.toNat - z) 0 (Aj _)
     (zS (s:= [0,1,2,3,4]) tA) ?_
    intro z hz;conv=>whnf
    refine A7 (fun h9=>?_) (fun h9=>?_) <;> (repeat rw [Ab] at h9) <;> conv=>whnf
    ·have htb:∀ k:Nat,k<2->0<=A6 g z k/\A6 g z k<((Aq g).toNat:Int):=fun k hk=>by unfold A6;omega
     have hmul:(z:Int)*CK g<=(g.z - 1)*CK g:=BI (by omega) (by omega);have hz0:0<=(z:Int)*CK g:=Df (by omega) (by omega);have hsb:∀ k:Nat,(k:Int)<CK g->0<=Co g z k/\Co g z k<((Aq g).toNat:Int):=fun k hk=>by
      rw [<-hcN];unfold Co Aq;rw [Int.sub_mul,Int.one_mul] at hmul;omega
     repeat' (refine z_ ?_;conv=>whnf)
     refine zU Nat (fun k=>([(2, .bp 0 0),(4, .bp 1 0),(5, .bp 2 0),(10,bA (Da (Fd g))),(11,ze z),(12,ze k)], [.box 23 (AU g), .box 43 [nilV,nilV,ze 0,ze 0], .box 43 [.ow 4 (Aq g).toNat,nilV,ze 0,ze (-1)], .box 33 (Ft (BO g s)), .row 128 3 ((EJ (HH g s z) ((IK g z).take k)).map B7)])) (fun k=>k<=2) (fun k=>2 - k) 0 (Aj _)
      (zS (s:= [0,1,2,3,4]) tA) ?_
     intro k hk;conv=>whnf
     refine A7 (fun h10=>?_) (fun h10=>?_) <;> (repeat rw [Ab] at h10) <;> conv=>whnf
     ·have hlw:(IK g z).length=2:=by simp [IK]
      have hk':k<(IK g z).length:=by omega
      have hsx:=IE (HH g s z) hk';rw [show (IK g z).getD k ⟨0, []⟩=⟨A6 g z (k:Nat),Ce (A6 g z (k:Nat)) 0 (Da (Fd g))⟩ from Kn (by omega)] at hsx;have hlx:(EJ (HH g s z) ((IK g z).take k)).length=(Aq g).toNat:=by rw [F4,Hk]
      generalize EJ (HH g s z) ((IK g z).take k)=cs at hsx hlx |-
      have hgt:=I5 g z k hg (by omega) (by omega);have hin:=htb k (by omega);have hmk:=FF (A6 g z k) 0 (Da (Fd g)) (V5 hg (by omega));have hE:(cs.map B7).getD (A6 g z k).toNat []=B7 (cs.getD (A6 g z k).toNat cz):=Lt hlx (by omega);repeat' (refine z_ ?_;conv=>whnf)
      refine zZ hgt ?_;conv=>whnf
      apply zW (0) tys_ok mixed (.o [0,1,2,3,4,5,6,7,8] .fin) (by kernel_rfl);conv=>whnf
      refine zZ hmk ?_;conv=>whnf
      try (refine tI ?_;conv=>whnf)
      try (refine tS ?_;conv=>whnf)
      (first | rw [hE] | skip)
      conv=>whnf
      all_goals exact⟨k+1,by omega,by omega,zS (s:= [0,1,2,3,4]) ⟨⟨rfl,rfl,rfl,rfl,rfl,AI (by omega),tv⟩,⟨rfl,rfl,rfl,rfl,congrArg (fun l=>some (AB.row _ _ l)) (by rw [hsx,JR];try rfl),tv⟩,rfl,rfl,rfl,rfl,rfl⟩⟩
     ·have ek:k=(IK g z).length:=by simp [IK];omega
      rw [ek,Aw];have hpr:=O7 g hg;repeat' (refine z_ ?_;conv=>whnf)
      refine zU Nat (fun i=>([(2, .bp 0 0),(4, .bp 1 0),(5, .bp 2 0),(10,bA (Da (Fd g))),(11,ze z),(14,ze i)], [.box 23 (AU g), .box 43 [nilV,nilV,ze 0,ze 0], .box 43 [.ow 4 (Aq g).toNat,nilV,ze 0,ze (-1)], .box 33 (Ft (BO g s)), .row 128 3 ((EJ (EJ (HH g s z) (IK g z)) ((HP g z).take i)).map B7)])) (fun i=>i<=(CK g).toNat) (fun i=>(CK g).toNat - i) 0 (Aj _)
       (zS (s:= [0,1,2,3,4]) tA) ?_
      intro i hi;conv=>whnf
      refine zZ hpr ?_;conv=>whnf
      refine A7 (fun h11=>?_) (fun h11=>?_) <;> (repeat rw [Ab] at h11) <;> conv=>whnf
      ·have hlw:(HP g z).length=(CK g).toNat:=by simp [HP]
       have hi':i<(HP g z).length:=by omega
       have hsx:=IE (EJ (HH g s z) (IK g z)) hi';rw [show (HP g z).getD i ⟨0, []⟩=⟨Co g z (i:Nat),Ce (Co g z (i:Nat)) 0 zero8⟩ from Kn (by omega)] at hsx;have hlx:(EJ (EJ (HH g s z) (IK g z)) ((HP g z).take i)).length=(Aq g).toNat:=by rw [F4,F4,Hk]
       generalize EJ (EJ (HH g s z) (IK g z)) ((HP g z).take i)=cs at hsx hlx |-
       have hgt:=PB g z i hg (by omega) (by omega);have hin:=hsb i (by omega);have hmk:=FF (Co g z i) 0 zero8 ⟨hin.1,by omega,Dg _,by decide,by decide⟩;have hE:(cs.map B7).getD (Co g z i).toNat []=B7 (cs.getD (Co g z i).toNat cz):=Lt hlx (by omega);repeat' (refine z_ ?_;conv=>whnf)
       refine zZ hgt ?_;conv=>whnf
       apply zW (0) tys_ok mixed (.o [0,1,2,3,4,5,6,7,8] .fin) (by kernel_rfl);conv=>whnf
       (try (refine Ae ⟨rfl,by decide,by decide⟩ ?_;conv=>whnf);refine zN hmk.go ?_;(conv=>whnf);refine Ae rfl ?_;(conv=>whnf);refine zX [ze (Co g z i),ze 0,bA zero8] ⟨ri,ri,fun c v h=>zD rfl (fun i hi=>by have hi':i<8:=hi;rw [Mz (by exact hi'),Th hi'];try rfl) h,tv⟩ ?_;refine zZ hmk ?_)
       conv=>whnf
       try (refine tI ?_;conv=>whnf)
       try (refine tS ?_;conv=>whnf)
       (first | rw [hE] | skip)
       conv=>whnf
       all_goals exact⟨i+1,by omega,by omega,zS (s:= [0,1,2,3,4]) ⟨⟨rfl,rfl,rfl,rfl,rfl,AI (by omega),tv⟩,⟨rfl,rfl,rfl,rfl,congrArg (fun l=>some (AB.row _ _ l)) (by rw [hsx,JR];try rfl),tv⟩,rfl,rfl,rfl,rfl,rfl⟩⟩
      ·have ei:i=(HP g z).length:=by simp [HP];omega
       repeat' (refine z_ ?_;conv=>whnf)
       exact⟨z+1,by omega,by omega,zS (s:= [0,1,2,3,4]) ⟨⟨rfl,rfl,rfl,rfl,AI (by omega),tv⟩,⟨rfl,rfl,rfl,rfl,by rw [ei,Aw];try rfl,tv⟩,rfl,rfl,rfl,rfl,rfl⟩⟩
    ·have ez:z=g.z.toNat:=by omega
     subst ez;exact⟨_, .ag [.ow 0 (Aq g).toNat,nilV,ze 0,ze (-1)], [.row 128 3 ((HH g s g.z.toNat).map B7)],fun _ _ h=>h,zS (s:= [4]) tA,rfl,rfl⟩
theorem Rm (g:Geo) (s:ByteArray) (hg:Bm g=true) (hs:G6 s.data.toList=0):Fn Tryz.prog 57 [.ag (AU g), .v (.string s)] fun r=>r = .ag (EP (G9 g s)):=by
 refine ACalls.fn (PG g s hg hs) ?_;rintro _ _ ⟨rfl,rfl⟩;refine⟨_,z6 _,?_⟩;conv=>whnf
 refine Ae (by rw [Ac];exact(Hk g s _).symm) ?_;exact⟨.ag (EP (G9 g s)),Bk ⟨Bc (f:=B7) (HH g s g.z.toNat) (by rw [Hk]) rfl,Bo 2 _,ri,ri,tv⟩,rfl⟩


section
variable {g:Geo} {s:ByteArray} {b:An} {fill:UInt8} {sizes:List Int} {D:Dk}
end
theorem StSm.big {S:Stt} (h:StSm S):StBig S:=
 ⟨by have:=h.l;omega,by have:=h.h.1;omega,⟨by have:=h.t.1;omega,fun t ht=>⟨by have:=(h.t.2 t ht).1;omega,fun x hx=>by have:=(h.t.2 t ht).2 x hx;omega⟩⟩,by have:=h.o;omega⟩
structure Vol (g:Geo) (K:Int) (d:Dk) (s:Stt):Prop where
 gd:∃ F,Gd (Aq g) d F
 an:Bn g s.a=true
 ring:Cw g s.txns s.a.seq s.a.pos g.sl=true
 rest:s.only=false/\s.cursor=0/\s.found=0/\s.fixed=0/\s.moved=0/\s.lost=[]
 gen:s.a.gen<=K
 seq:s.a.seq+s.txns.length<=K
 one:∀ t∈s.txns,OneTab t.images
theorem Ej {g:Geo} {a:An} (ha:Bn g a=true):(0<=a.gen/\a.gen<=4294967295)/\(1<=a.seq/\a.seq<=4294967295)/\(0<=a.pos/\a.pos<g.sl)/\(a.homes.length:Int)=g.z:=by
 simp only [Bn,A_,BC,B5,Ad,decide_eq_true_eq,AF] at ha;omega
theorem KN {g:Geo}:∀ {l:List Tx} {seq pos a b:Int},a<=b->Cw g l seq pos a=true->Cw g l seq pos b=true
 | [],_,_,_,_,_,_=>rfl
 | t::r,seq,pos,a,b,hab,h=>by
  simp only [Cw,Ad,decide_eq_true_eq] at h |-
  obtain⟨⟨h1,h2,h3,h4,h5,h6,h7⟩,h8⟩:=h;exact⟨⟨h1,h2,h3,h4,by omega,h6,h7⟩,KN (by omega) h8⟩
theorem Dp {g:Geo}:∀ {l:List Tx} {seq pos left:Int},Cw g l seq pos left=true->∀ t∈l,t.images.all (B3 g)=true/\t.n=t.images.length+1/\2<=t.n/\t.n<=max left 0
 | t::r,seq,pos,left,h,x,hx=>by
  simp only [Cw,Ad,decide_eq_true_eq] at h;obtain⟨⟨h1,h2,h3,h4,h5,h6,h7⟩,h8⟩:=h;rcases AK.1 hx with rfl | hx
  ·exact⟨h7,h6,h4,by omega⟩
  ·have:=Dp h8 x hx;exact⟨this.1,this.2.1,this.2.2.1,by omega⟩
theorem Eg {g:Geo} (hg:Bm g=true) {x:Img} (h:B3 g x=true):x.bytes.length<=45:=by
 obtain⟨g1,g2,g3,g4,g5⟩:=Ar.1 hg;by_cases hw:x.what=255
 ·simp only [B3,Ad] at h;have h2:=h.2.2;rw [if_pos hw] at h2;by_cases hl:x.bytes.length=9*(g.d+1).toNat
  ·omega
  ·rw [Km (.inl hl)] at h2;cases h2
 ·have:=(D0 h).2 hw;omega
theorem Vol.st {g:Geo} {K:Int} {d:Dk} {s:Stt} (hg:Bm g=true) (h:Vol g K d s):Ox g d s=true:=by
 obtain⟨F,hF⟩:=h.gd;obtain⟨r1,r2,r3,r4,r5,r6⟩:=h.rest;have hu:=LE hg;have hh:EB g s=true:=by
  unfold EB;rw [r3,r4,r5,r6];try rfl
 unfold Ox;rw [hg,PW.2 hF.ok,decide_eq_true hF.len,h.an,h.ring,r2,hh,decide_eq_true (show (0:Int)<GS g by omega)];try rfl
theorem Vol.sm {g:Geo} {K:Int} {d:Dk} {s:Stt} (hg:Bm g=true) (h:Vol g K d s):StSm s:=by
 obtain⟨g1,g2,g3,g4,g5⟩:=Ar.1 hg;have hr:=Dp h.ring;have hin:=Hb hg (Dg _) h.ring;have hlen:(s.txns.length:Int)<=30:=by
  have:∀ l:List Tx,(∀ t∈l,2<=t.n)->2*(l.length:Int)<=sumT l:=by
   intro l;induction l with
   | nil=>intro _;simp [sumT]
   | cons t r ih=>
    intro hl;have h1:=hl t (by simp);have h2:=ih fun x hx=>hl x (AM _ hx)
    rw [sumT,Am];omega
  have:=this s.txns fun t ht=>(hr t ht).2.2.1
  have:=hin.2;omega
 refine⟨⟨(Ht hg h.an 0 (Aj _)).2.1,fun x hx=>Le hg h.an x hx⟩,(Ht hg h.an 0 (Aj _)).2.2.2.1,⟨by omega,fun t ht=>?_⟩,by rw [h.rest.2.2.2.2.2];simp⟩;obtain⟨q1,q2,q3,q4⟩:=hr t ht;refine⟨by omega,fun i hi=>?_⟩;have:=Eg hg (Av.1 q1 i hi);omega
theorem Vol.add {g:Geo} {K:Int} {d d':Dk} {s:Stt} (hg:Bm g=true) (h:Vol g K d s) (hK:K<=4294967294) (hd:∃ F,Gd (Aq g) d' F) {x:Tx} (e1:x.seq=s.a.seq+s.txns.length) (e3:x.pos=(s.a.pos+C6 s.txns).tmod g.sl) (e4:2<=x.n) (e5:x.n<=g.sl - C6 s.txns) (e6:x.n=x.images.length+1) (e7:∀ y∈x.images,B3 g y=true) (e8:OneTab x.images):Vol g (K+1) d' { s with txns:=s.txns ++ [x] }:=by
 obtain⟨a1,a2,a3,a4⟩:=Ej h.an;have hin:=Hb hg (Dg _) h.ring;rw [Tl hin.1] at e3 e5;have hs:=h.seq;refine⟨hd,h.an,KM hg a3.1 a3.2 (Dg _) h.ring e1 (by omega) e3 e4 e5 e6 (Av.2 e7),h.rest,by have:=h.gen;show s.a.gen<=K+1;omega,?_,fun t ht=>?_⟩
 ·show s.a.seq+((s.txns ++ [x]).length:Nat)<=K+1;simp only [Ai,Am,Bf];omega
 ·rcases A2.1 ht with q | q
  ·exact h.one t q
  ·rw [Ay] at q;exact q ▸ e8
theorem Vol.home {g:Geo} {K:Int} {d d':Dk} {s:Stt} (hg:Bm g=true) {x:Tx} {r:List Tx} (hx:s.txns=x::r) (h:Vol g K d s) (hK:K<=4294967294) (hd:∃ F,Gd (Aq g) d' F):Vol g (K+1) d' { s with a:=Eb g s.a x,txns:=r }:=by
 obtain⟨a1,a2,a3,a4⟩:=Ej h.an;have hs:=h.seq;have hgn:=h.gen;have hr:=h.ring;rw [hx,Am] at hs;rw [hx] at hr;have hin:=(Hb hg (Dg _) hr).1 x (by simp);simp only [Cw,Ad,decide_eq_true_eq] at hr;obtain⟨⟨h1,h2,h3,h4,h5,h6,h7⟩,h8⟩:=hr;refine⟨hd,P0 hg h.an (by omega) (by omega) h1 (by omega) (by omega),?_,h.rest,by show s.a.gen+1<=K+1;omega,?_,fun t ht=>h.one t (by rw [hx];exact AM _ ht)⟩
 ·show Cw g r (s.a.seq+1) ((x.pos+x.n).tmod g.sl) g.sl=true;rw [h3];exact KN (by omega) h8
 ·show s.a.seq+1+(r.length:Int)<=K+1;omega
theorem DR {g:Geo} {a:An} {w:Wr} (hw:w∈Ba g a):∃ i:Nat,(i:Int)<g.an/\w=⟨(i:Nat),Dq a (i:Nat)⟩:=by
 simp only [Ba,AQ,AR] at hw;obtain⟨i,hi,rfl⟩:=hw;exact⟨i,by omega,rfl⟩
def DJ (g:Geo) (a:An) (x:Tx) (F:Int->List UInt8):Int->List UInt8:=FU (FU F (CR g a x.seq x.images)) (Ba g (Eb g a x))
theorem VR (g:Geo):Fn Tryz.prog 287 [.ag (AU g), .ag (Kd zeroC)] fun r=>r = .v (.bool true):=by
 have hi:=WO ⟨0,0, []⟩ ⟨0,0, []⟩ (by decide);rw [decide_eq_true rfl] at hi;refine zR Tryz.func287 rfl ?_;conv=>whnf
 refine zX [.ag (Eh ⟨0,0, []⟩), .ag (Eh ⟨0,0, []⟩)] ⟨ri,Bk ⟨ri,ri,Bo 1 _,tv⟩,tv⟩ ?_;refine zZ hi ?_;exact⟨_,ri,rfl⟩
theorem TM (g:Geo):Fn Tryz.prog 285 [.ag (AU g),bA (E8 zeroC)] fun r=>r = .tp [.ag (Kd zeroC), .v (.bool true)]:=by
 obtain⟨b,hb⟩:∃ b,b=E8 zeroC:=⟨_,rfl⟩;have hbl:b.length=11:=by rw [hb];try rfl
 have q1:=FT (b.drop 1) 4 (by rw [Al];omega) (by decide);have q2:=FT (b.drop 5) 4 (by rw [Al];omega) (by decide);have e1:leN ((b.drop 1).take 4)=0:=by rw [hb];try rfl
 have e2:leN ((b.drop 5).take 4)=0:=by rw [hb];try rfl
 have hrec:=VR g;rw [<-hb];refine zR Tryz.func285 rfl ?_;conv=>whnf
 refine A7 (fun hq=>absurd hq (by omega)) (fun hq=>?_);conv=>whnf
 apply z8 (0) tys_ok mixed (.o [0,1,2,3,4,5,7,8,10,11,12,13,14,15,16,17] (.two 6 (.two 9 (.o [18,19,20] .fin) 19 (.o [9,18,20] .fin)) 19 (.o [6,9,18,20] .fin))) [6,11,12,13,14,15,16,17,18,19,20,21,22,23,24,25,26,27,28,29] (by kernel_rfl)
 ·conv=>whnf
  try (refine tI ?_;conv=>whnf)
  try (refine tI ?_;conv=>whnf)
  try (refine tI ?_;conv=>whnf)
  try (refine tI ?_;conv=>whnf)
  try (refine tI ?_;conv=>whnf)
  refine Ae ?_ ?_
  ·conv=>whnf
   (refine zX [bA (b.drop 1),iv 4] ⟨AW (by omega),ri,tv⟩ ?_;refine zZ q1 ?_)
   refine Ae ?_ ?_
   ·conv=>whnf
    (refine zX [bA (b.drop 5),iv 4] ⟨AW (by omega),ri,tv⟩ ?_;refine zZ q2 ?_)
    conv=>whnf
    try (refine tS ?_;conv=>whnf)
    exact tA
   ·conv=>whnf
    (refine zX [bA (b.drop 5),iv 4] ⟨AW (by omega),ri,tv⟩ ?_;refine zZ q2 ?_)
    conv=>whnf
    try (refine tS ?_;conv=>whnf)
    exact tA
  ·conv=>whnf
   (refine zX [bA (b.drop 1),iv 4] ⟨AW (by omega),ri,tv⟩ ?_;refine zZ q1 ?_)
   conv=>whnf
   (refine zX [bA (b.drop 5),iv 4] ⟨AW (by omega),ri,tv⟩ ?_;refine zZ q2 ?_)
   conv=>whnf
   try (refine tS ?_;conv=>whnf)
   exact tA
 conv=>whnf
 repeat' (refine z_ ?_;conv=>whnf)
 have z0:(b.getD (Int.toNat 0) 0).toNat=0:=by rw [hb];try rfl
 have z9:(b.getD (Int.toNat 9) 0).toNat=0:=by rw [hb];try rfl
 have z10:(b.getD (Int.toNat 10) 0).toNat=0:=by rw [hb];try rfl
 rw [z0,z9,z10,e1,e2,show IntKind.i64.wrap ((0:Nat):Int)=0 from rfl];conv=>whnf
 rw [show ((b.length:Int) != 11)=false by rw [hbl];try rfl];conv=>whnf
 have hsb:SubL [iv 0,iv 0,iv 0,iv 0,iv 0,iv 0,iv 0, .v (.slice none 0 0)] (Kd zeroC):=⟨ri,ri,ri,ri,ri,ri,ri,Bo 1 _,tv⟩;refine zX [.ag (AU g), .ag (Kd zeroC)] ⟨ri,Bk hsb,tv⟩ ?_;refine zZ hrec ?_;exact⟨_,Cf (m:= [.ag (Kd zeroC), .v (.bool true)]) ⟨Bk hsb,ri,tv⟩,rfl⟩
theorem Ny (g:Geo) (c s:Int) (hg:Bm g=true) (hc:c=0\/c=1) (hs:0<=s/\s<g.sl):Fn Tryz.prog 272 [.ag (AU g), .ag (D7 ⟨0,BG g zeroC c s⟩),iv c,iv s] fun r=>r = .tp [.ag (Kd zeroC), .v (.bool true)]:=by
 have hL:=Im (g:=g) hc hs;have hb:=F1 hg hL;have h1:=JM (EG hg);have h2:=Es (EG hg);obtain⟨o1,o2,o3,o4⟩:=C8 (a:=Bh g c s) (s:=zeroC.seq) (p:=E8 zeroC) ⟨hb.1,by omega,h1.1,h1.2,by omega⟩;have s1:=I4 ⟨0,BG g zeroC c s⟩ (Bh g c s) (by have:=CD (EG hg) c s;show (BG g zeroC c s).length<=100000;omega);have hS:BF ⟨0,BG g zeroC c s⟩ (Bh g c s)=some ⟨Bh g c s,0,E8 zeroC⟩:=by
  unfold BF BG;rw [if_pos ⟨rfl,o1,o2⟩,o2,o3,o4];try rfl
 rw [hS] at s1;have s2:=TM g;refine zR Tryz.func272 rfl ?_;conv=>whnf
 apply zO tys_ok mixed (.o [0,1,2,3] (.two 4 (.two 5 (.o [6,7,8,9,10,11] .fin) 9 (.o [5,6,7,8,10,11] .fin)) 9 (.o [4,5,6,7,8,10,11] .fin))) [10,11,13,14,15,16,17,18,19,20,21] (by kernel_rfl)
 ·refine Ae ?_ ?_
  ·conv=>whnf
   refine zZ (Fp g c s hg hL) ?_;refine Ae ?_ ?_
   ·conv=>whnf
    refine zZ s1 ?_;conv=>whnf
    try (refine tS ?_;conv=>whnf)
    exact tA
   ·conv=>whnf
    refine zZ s1 ?_;conv=>whnf
    try (refine tS ?_;conv=>whnf)
    exact tA
  ·conv=>whnf
   refine zZ (Fp g c s hg hL) ?_;conv=>whnf
   refine zZ s1 ?_;conv=>whnf
   try (refine tS ?_;conv=>whnf)
   exact tA
 conv=>whnf
 refine zZ s2 ?_;exact⟨_,ri,rfl⟩
theorem TG (g:Geo) (a:An) (s seq left:Int) (hg:Bm g=true) (hs:0<=s/\s<g.sl) :
  Fn Tryz.prog 248 [.ag (AU g), .ag (Ft a), .ag (D7 ⟨0,BG g zeroC 0 s⟩), .ag (D7 ⟨0,BG g zeroC 1 s⟩),iv s,iv seq,iv 0,iv 0,iv left]
   fun r=>r = .tp [.ag (Kd zeroC),iA [],iv 2]:=by
 have s2:=Ny g 0 s hg (.inl rfl) hs;have s3:=Ny g 1 s hg (.inr rfl) hs;have i1:=Yp zeroC a seq 0 0 left;rw [show GK zeroC a seq 0 0 left=false from decide_eq_false fun h=>h.1 rfl] at i1;refine zR Tryz.func248 rfl ?_;conv=>whnf
 repeat' (first | (refine z_ ?_;conv=>whnf) | (refine A7 (fun _=>?_) (fun _=>?_) <;> conv=>whnf) | (refine zZ s2 ?_;conv=>whnf) | (refine zZ s3 ?_;conv=>whnf) | (refine zZ i1 ?_;conv=>whnf) | (refine Ae (by first | omega | exact of_decide_eq_true rfl) ?_;conv=>whnf) | fail)
 exact⟨_,fun c u h=>ZK 2 c u h,rfl⟩
theorem T9 (g:Geo) (a:An) (x y:List Gt) (hg:Bm g=true) (hp:a.pos=0) (hl:¬a.seq - 1<a.last) (hq1:1<=a.seq) (hq2:a.seq<=4294967295) (hx:(x.length:Int)=g.sl) (hy:(y.length:Int)=g.sl) (h0:x.getD 0 gz=⟨0,BG g zeroC 0 0⟩) (h1:y.getD 0 gz=⟨0,BG g zeroC 1 0⟩) :
  Fn Tryz.prog 201 [.ag (AU g), .ag (Ft a),Iv x,Iv y] fun r=>r = .tp [DH [],LA [],iv 0]:=by
 obtain⟨g1,g2,g3,g4,g5⟩:=Ar.1 hg;have w1:IntKind.i64.wrap (a.seq - 1)=a.seq - 1:=wi (by omega);have w0:(IntKind.i64.wrap (0+0)).tmod g.sl=0:=by rw [show IntKind.i64.wrap (0+0)=0 from rfl,Int.zero_tmod]
 have rl1:=TG g a 0 a.seq g.sl hg ⟨by omega,by omega⟩;rw [<-h0,<-h1] at rl1;refine zR Tryz.func201 rfl ?_;conv=>whnf
 refine zC tys_ok mixed [0,1,2,3,4,5,6,7,8] (by kernel_rfl) ?_;conv=>whnf
 refine zx 1 ?_;conv=>whnf
 rw [show decide (g.sl > 0)=true from decide_eq_true (by omega)];conv=>whnf
 rw [show decide (a.seq<=4294967295)=true from decide_eq_true hq2];conv=>whnf
 refine zx 1 ?_;conv=>whnf
 repeat' (refine z_ ?_;conv=>whnf)
 refine⟨by omega,?_⟩;conv=>whnf
 rw [hp,w0];apply zO tys_ok mixed (.o [0,1,2,3,4,5,6,7,8,9,10,11,12,13,14] (.two 15 (.o [16,17,18,19,20,21,22,23] .fin) 20 (.o [15,16,17,18,19,21,22,23] .fin))) [22,23,24,60,61,62,63,64,65,66,67,68,69,70,71,72,73,74,75,76,77,78,79] (by kernel_rfl)
 ·conv=>whnf
  try (refine Ae (by first | omega | exact ixA | exact ixB | (simp;done)) ?_;conv=>whnf)
  try (refine Ae (by first | omega | exact ixA | exact ixB | (simp;done)) ?_;conv=>whnf)
  refine Ae ?_ ?_
  ·conv=>whnf
   refine zZ rl1 ?_;conv=>whnf
   try (refine tS ?_;conv=>whnf)
   exact tA
  ·conv=>whnf
   refine zZ rl1 ?_;conv=>whnf
   try (refine tS ?_;conv=>whnf)
   exact tA
 conv=>whnf
 repeat' (refine z_ ?_;conv=>whnf)
 rw [w1,decide_eq_false hl];exact⟨.tp [DH [],LA [],iv 0],Cf (m:= [DH [],LA [],iv 0]) ⟨Bo 4 _,Bo 2 _,ri,tv⟩,rfl⟩
def bV (g:Geo):Stt:=AJ (De (BO g ⟨#[]⟩) 0) []
def bW (g:Geo) (a:An) (q:Int):List UInt8:=if q<g.an then Dq a q else Ga g ⟨#[]⟩ q
theorem Qj {g:Geo} (hg:Bm g=true) {d:Dk} (h:Holds d (Aq g) (Ga g ⟨#[]⟩)) {c:Int} (hc:c=0\/c=1):BB d (BS g c)=GY g [] 0 c g.sl.toNat:=by
 rw [Mv h _ (ND hg hc)];unfold BS GY;rw [List.map_map];refine C4 fun i hi=>?_
 have hi:=AR.1 hi;show (⟨0,Ga g ⟨#[]⟩ (Bh g c (i:Nat))⟩:Gt)=_;rw [JT hc (by omega)];try rfl
theorem P6 {g:Geo} (hg:Bm g=true) {b:An} (hp:b.pos=0) (hl:¬b.seq - 1<b.last) {d:Dk} (h:Holds d (Aq g) (Ga g ⟨#[]⟩)):Gj g b (BB d (BS g 0)) (BB d (BS g 1))=([], [],0):=by
 obtain⟨g1,g2,g3,g4,g5⟩:=Ar.1 hg;have hok:LogOk g [] 0:=⟨by simp,by simp,fun s i k _ h=>(nomatch (show (none:Option (Nat × Int))=some (i,k) from h)),fun s _=>EG hg⟩;rw [Yk,Qj hg h (.inl rfl),Qj hg h (.inr rfl),S1 hg hok (.inl rfl),S1 hg hok (.inr rfl)];obtain⟨n,hn⟩:∃ n,g.sl.toNat=n+1:=⟨g.sl.toNat - 1,by omega⟩;have hz:HR g [] 0 (fun _=>false) 0=some zeroC:=by
  unfold HR;rw [if_pos (by omega)];try rfl
 have hs:Dd g 0 0=0:=by
  show (IntKind.i64.wrap 0).tmod g.sl=0;rw [show IntKind.i64.wrap 0=0 from rfl,Int.zero_tmod]
 have h0:GK zeroC b b.seq 0 0 g.sl=false:=decide_eq_false fun h=>h.1 rfl
 have hr:(ZO g b (HR g [] 0 fun _=>false) (HR g [] 0 fun _=>false) 0 b.seq g.sl 0 0).2.1=2:=by
  show (Hg (HR g [] 0 (fun _=>false) (Dd g 0 0)) (HR g [] 0 (fun _=>false) (Dd g 0 0)) (R9 (HR g [] 0 (fun _=>false) (Dd g 0 0)) b b.seq 0 0 g.sl) (R9 (HR g [] 0 (fun _=>false) (Dd g 0 0)) b b.seq 0 0 g.sl)).2.2=2;rw [hs,hz];show (Hg (some zeroC) (some zeroC) (GK zeroC b b.seq 0 0 g.sl) (GK zeroC b b.seq 0 0 g.sl)).2.2=2;rw [h0];try rfl
 have ht:(XX g b (HR g [] 0 fun _=>false) (HR g [] 0 fun _=>false) 0 b.seq g.sl).1=2:=by
  unfold XX;simp only;rw [if_pos (by rw [hr];decide)];exact hr
 unfold VG;rw [hn,hp,LR];split
 ·simp only;rw [ht,if_neg (by decide),if_pos (by decide),MK hl]
 ·exact MK hl
theorem RL {g:Geo} (hg:Bm g=true) (hb:Bn g (BO g ⟨#[]⟩)=true) (x:Int):(Ga g ⟨#[]⟩ x).length<=200:=by
 unfold Ga;split
 ·exact JZ hg hb x
 ·split
  ·exact CD (EG hg) _ _
  ·split
   ·exact CD (EG hg) _ _
   ·split
    ·rw [FE,EV];unfold Fd;rw [Bw];have:=(Ar.1 hg).2.1;omega
    ·rw [FE];decide
theorem YM {g:Geo} (hg:Bm g=true) (hb:Bn g (BO g ⟨#[]⟩)=true):DkOk (G9 g ⟨#[]⟩):=by
 have hcb:=D9 hg;have h:=ID (g:=g) (s:=⟨#[]⟩) hg;have hlen:=h.len;refine⟨by omega,by rw [h.cache];simp,by show (0:Int)<=0/\(0:Int)<=_;decide,by show (-1:Int)<= -1/\(-1:Int)<=_;decide,fun c hc=>?_,fun w hw=>by rw [h.cache] at hw;cases hw⟩;obtain⟨i,hi,rfl⟩:=Ef hc;have hci:=M6 (g:=g) (s:=⟨#[]⟩) hg (a:=((i:Nat):Int)) (by omega) (by omega);have e:(G9 g ⟨#[]⟩).cells.getD ((i:Nat):Int).toNat cz=(G9 g ⟨#[]⟩).cells[i]:=by
  rw [Ab,Aa,Af hi];try rfl
 rw [e] at hci;rw [hci];exact⟨⟨Dg _,by show (0:Int)<=2;decide⟩,RL hg hb _,by simp⟩
theorem WB {g:Geo} (hg:Bm g=true) (hb:Bn g (BO g ⟨#[]⟩)=true) {d:Dk} (h:Holds d (Aq g) (Ga g ⟨#[]⟩)):HT g (BB d (Ek g))=some (BO g ⟨#[]⟩,(cg (HT g (BB d (Ek g))))):=by
 obtain⟨g1,g2,g3,g4,g5⟩:=Ar.1 hg;have hcg:=Ey hg;have hsp:=Mc g (BB d (Ek g)) (BB d (Ek g)).length;rw [FJ,FN] at hsp;have hsay:∀ i,i<g.an.toNat->Fo g ((BB d (Ek g)).getD i ⟨0, []⟩) (i:Nat)=some (BO g ⟨#[]⟩):=fun i hi=>by
  rw [Sh hi,h.got (by omega) (by omega),SU (by omega)];exact Rf hg hb (by omega)
 have hpk:HT g (BB d (Ek g))=FD g (BB d (Ek g)) g.an.toNat:=by rw [HT,FJ,FN]
 rw [hpk];cases hP:FD g (BB d (Ek g)) g.an.toNat with
 | none=>
  have:=hsp.1 hP 0 (by omega);rw [hsay 0 (by omega)] at this;cases this
 | some q=>
  obtain⟨a0,j⟩:=q;obtain⟨q1,q2,q3⟩:=hsp.2 a0 j hP;rw [hsay j q1] at q2;cases q2;rfl
theorem ZW {g:Geo} (hg:Bm g=true):aF g (G9 g ⟨#[]⟩):=fun d1 a j _ h1 h2 hp=>by
 obtain⟨g1,g2,g3,g4,g5⟩:=Ar.1 hg;have hf:=ID (g:=g) (s:=⟨#[]⟩) hg;have hb:=IG (g:=g) (s:=⟨#[]⟩) hg lab_nil;rw [WB hg hb hf] at hp;obtain⟨rfl, -⟩:=Prod.mk.inj (Option.some.inj hp);have h3:Holds d1 (Aq g) (Ga g ⟨#[]⟩):=⟨by rw [h1];exact hf.len,h2.trans hf.cache,by rw [h1];exact hf.cell⟩;have hl:∀ c,((BB d1 (BS g c)).length:Int)=g.sl:=fun c=>by rw [FJ,Jk];omega
 have e:∀ c,c=0\/c=1->(BB d1 (BS g c)).getD 0 gz=⟨0,BG g zeroC c 0⟩:=fun c hc=>by
  rw [Mv h3 _ (ND hg hc)];unfold BS;rw [List.map_map,Aa,AS,Bl (by omega)];show (⟨0,Ga g ⟨#[]⟩ (Bh g c ((0:Nat):Int))⟩:Gt)=_;rw [JT hc (by omega)];try rfl
 rw [P6 hg rfl (by show ¬(1:Int) - 1<0;decide) h3];exact⟨T9 g _ _ _ hg rfl (by show ¬(1:Int) - 1<0;decide) (by show (1:Int)<=1;decide) (by show (1:Int)<=4294967295;decide) (hl 0) (hl 1) (e 0 (.inl rfl)) (e 1 (.inr rfl)),fun _=>⟨fun w hw=>(by cases hw),Aj _⟩⟩
def Mg (g:Geo) (c:An) (q:Int):List UInt8:=if q<0 then ((CX (G9 g ⟨#[]⟩).cells (Ba g c)).getD (-1 - q).toNat cz).old else bW g c q
theorem ZS {g:Geo} (hg:Bm g=true):∃ D,D_ g (G9 g ⟨#[]⟩)=(D,0,bV g)/\DkOk (G9 g ⟨#[]⟩)/\((G9 g ⟨#[]⟩).cells.length:Int)=Aq g/\Vol g 2 D (bV g)/\Gd (Aq g) D (Mg g (De (BO g ⟨#[]⟩) 0)):=by
 obtain⟨g1,g2,g3,g4,g5⟩:=Ar.1 hg;have hs:G6 (⟨#[]⟩:ByteArray).data.toList=0:=lab_nil;have hf:=ID (g:=g) (s:=⟨#[]⟩) hg;have hb:=IG (g:=g) (s:=⟨#[]⟩) hg hs;have hdk:DkOk (G9 g ⟨#[]⟩):=YM hg hb;have hcg:=Ey hg;have hsc:=P6 hg (b:=BO g ⟨#[]⟩) rfl (by show ¬(1:Int) - 1<0;decide) hf;have hm:=OR hg hdk hf.len hf.cache (by show (-1:Int)<0;decide) (WB hg hb hf) hsc (by show (1:Int)≠_;decide) (by show (0:Int)≠_;decide) (fun w hw=>by cases hw) (Aj _);have hna:=ED g (De (BO g ⟨#[]⟩) ([]:List Tx).length);rw [WW hf _ (fun w hw=>by
  simp only [Ba,AQ,AR] at hw;obtain⟨i,hi,rfl⟩:=hw;exact⟨by show (0:Int)<=(i:Nat);omega,by show ((i:Nat):Int)<_;omega⟩),if_neg (by omega),if_neg (by omega)] at hm
 have hn:=PY (n:=0) hb (by show (1:Int)≠_;decide) (by show (0:Int)≠_;decide) (by show (1:Int)+0 - 1<=_;decide);have hfin:=Uv (r:=((G9 g ⟨#[]⟩).tick (Mm g [])).reqs) (l:=(G9 g ⟨#[]⟩).left) hg (c:=De (BO g ⟨#[]⟩) ([]:List Tx).length) hf;have hD:DkOk ⟨CX (CX (G9 g ⟨#[]⟩).cells []) (Ba g (De (BO g ⟨#[]⟩) 0)), [],((G9 g ⟨#[]⟩).tick (Mm g [])).reqs,(G9 g ⟨#[]⟩).left⟩:=by
  have h1:=hdk.adv (Mm g []);rw [Kb _ (SK hdk (by show (-1:Int)<0;decide) _)] at h1;have h2:=h1.allFin (Ba g (De (BO g ⟨#[]⟩) 0)) fun w hw=>(MU hg hn hf.len w hw).2
  rw [allFin_cells] at h2;exact h2
 have hgd:Gd (Aq g) _ (Mg g (De (BO g ⟨#[]⟩) 0)):=⟨hD,rfl,hfin.len,hfin.cache,fun a h0 h1=>by
  unfold Mg;rw [if_neg (by omega)];exact hfin.cell a h0 h1,fun a h0 h1=>by
  unfold Mg;rw [if_pos (by omega),show -1 - (-1 - a)=a by omega];try rfl⟩
 exact⟨_,hm,hdk,hf.len,⟨⟨_,hgd⟩,hn,rfl,tA,(by show (1:Int)+1<=2;decide),(by show (1:Int)+(0:Nat)<=2;decide),fun t ht=>by cases ht⟩,hgd⟩
theorem flat_by1:∀ b:List UInt8,((b.map E6).flatten.all flatX)=true
 | []=>rfl
 | x::b=>by rw [A4,AL,Dt,flat_by1 b];rfl
structure LogB (l:List Tx):Prop where
 n:l.length<=1000000
 i:∀ t∈l,t.images.length<=1000000/\∀ x∈t.images,x.bytes.length<=1000000000
def EW (g:Geo) (s:Stt) (F:Int->List UInt8) (z:Int):Option (List Ent):=match Cr s.txns z 255 with
 | some p=>BW g p.1.bytes
 | none=>match BH g ⟨0,F (A6 g z 0)⟩ (A6 g z 0) (Cm s.a s.txns z) with
  | some t=>some t
  | none=>BH g ⟨0,F (A6 g z 1)⟩ (A6 g z 1) (Cm s.a s.txns z)
theorem Gp {m:Nat} (h:Nat.ble 6 m=true):∀ z∈ [0,1,2,3,4,5],z<m:=fun z hz=>by
 have:=Ag h;simp at hz;omega
theorem VO (g:Geo) (s:Stt) (d:Dk) (F:Int->List UInt8) (z:Int) (hg:Bm g=true) (hl:LogB s.txns) (ha:Bn g s.a=true) (h:Gd (Aq g) d F) (hF:∀ a,(F a).length<=100000) (hz:0<=z/\z<g.z) :
    ACalls Tryz.prog false 30 [.bp 0 0,iv z] (FB g s 0 d) fun r H=>r = .tp [.ag [Bp ((EW g s F z).getD [])], .v (.bool (EW g s F z).isSome)]/\∃ d',Gd (Aq g) d' F/\H=FB g s 0 d':=by
  have hf:=Kl s.txns z 255 hl.n hl.i;unfold EW;cases hL:Cr s.txns z 255 with
  | some p=>
    obtain⟨x,q⟩:=p;rw [hL] at hf;have hr:=LS g x.bytes hg;simp only;refine zT tys_ok Tryz.func30 rfl rfl (Ag rfl) ?_;conv=>whnf
    refine FnO.lend (hf.subA (args:= [.sl 4 s.txns.length fun i=>(s.txns.map CV).getD i [],iv z,iv 255]) ⟨Bc (f:=CV) s.txns rfl rfl,fun _ _ h=>h,fun _ _ h=>h,tv⟩) ⟨(Ac _).symm,rfl⟩ ?_;rintro _ _ ⟨rfl,rfl⟩;refine⟨⟨rfl,by rw [flatR,flat_by1];try rfl⟩,?_⟩;conv=>whnf
    refine zN hr.go ?_;refine Ae (Ac _).symm ?_;conv=>whnf
    refine zX [.ag (AU g),bA x.bytes] ⟨ri,Fb rfl rfl,tv⟩ ?_;refine zZ hr ?_;exact⟨.tp [.ag [Bp ((BW g x.bytes).getD [])], .v (.bool (BW g x.bytes).isSome)], .tp [.ag [Bp ((BW g x.bytes).getD [])], .v (.bool (BW g x.bytes).isSome)],FB g s 0 d,fun _ _ h=>h,zS (s:= [0,1,2,3,4,5]) tA,rfl,d,h,rfl⟩
  | none=>
    rw [hL] at hf;simp only;have hG1:∀ k:Nat,k<2->(∀ j:Nat,j<k->BH g ⟨0,F (A6 g z (j:Nat))⟩ (A6 g z (j:Nat)) (Cm s.a s.txns z)=none)->∀ t,BH g ⟨0,F (A6 g z (k:Nat))⟩ (A6 g z (k:Nat)) (Cm s.a s.txns z)=some t->(match BH g ⟨0,F (A6 g z 0)⟩ (A6 g z 0) (Cm s.a s.txns z) with | some t=>some t | none=>BH g ⟨0,F (A6 g z 1)⟩ (A6 g z 1) (Cm s.a s.txns z))=some t:=fun k hk hno t ht=>by
      match k,hk with
      | 0,_=>
        have ht:BH g ⟨0,F (A6 g z 0)⟩ (A6 g z 0) (Cm s.a s.txns z)=some t:=ht;rw [ht]
      | 1,_=>
        have h0:BH g ⟨0,F (A6 g z 0)⟩ (A6 g z 0) (Cm s.a s.txns z)=none:=hno 0 (by decide);rw [h0];exact ht
    have hG2:(∀ j:Nat,j<2->BH g ⟨0,F (A6 g z (j:Nat))⟩ (A6 g z (j:Nat)) (Cm s.a s.txns z)=none)->(match BH g ⟨0,F (A6 g z 0)⟩ (A6 g z 0) (Cm s.a s.txns z) with | some t=>some t | none=>BH g ⟨0,F (A6 g z 1)⟩ (A6 g z 1) (Cm s.a s.txns z))=none:=fun hno=>by
      have h0:BH g ⟨0,F (A6 g z 0)⟩ (A6 g z 0) (Cm s.a s.txns z)=none:=hno 0 (by decide);rw [h0];exact hno 1 (by decide)
    generalize (match BH g ⟨0,F (A6 g z 0)⟩ (A6 g z 0) (Cm s.a s.txns z) with | some t=>some t | none=>BH g ⟨0,F (A6 g z 1)⟩ (A6 g z 1) (Cm s.a s.txns z))=G at hG1 hG2 |-
    have zs:∀ (c:Ctx) (v:Value),Rd (.tp [.ag [.v (.slice none 0 0)], .v (.bool false)]) c v->Rd (.tp [.ag [Bp []], .v (.bool false)]) c v:=Cf (m:= [.ag [Bp []], .v (.bool false)]) ⟨Bk ⟨Bo 3 _,tv⟩,ri,tv⟩;have hR:=VQ g s.a s.txns z (Ej ha).2.2.2 hz hl.n hl.i;refine zT tys_ok Tryz.func30 rfl rfl (Ag rfl) ?_;conv=>whnf
    refine FnO.lend (hf.subA (args:= [.sl 4 s.txns.length fun i=>(s.txns.map CV).getD i [],iv z,iv 255]) ⟨Bc (f:=CV) s.txns rfl rfl,fun _ _ h=>h,fun _ _ h=>h,tv⟩) ⟨(Ac _).symm,rfl⟩ ?_;rintro _ _ ⟨rfl,rfl⟩;refine⟨tA,?_⟩;conv=>whnf
    repeat' (refine z_ ?_;conv=>whnf)
    apply zO tys_ok mixed (.o [0,1,2,3,4,5,6,7,8,9,10,11,12] .fin) [9,34,35,36,37,38,39,40,41,42,43,44,45] (by kernel_rfl)
    · conv=>whnf
      (refine zp (args':= [.ag (Te s.a (.sl 3 s.a.homes.length fun i=>(s.a.homes.map ES).getD i [])), .sl 4 s.txns.length fun i=>(s.txns.map CV).getD i [],iv z]) (hR.subA ⟨Bk ⟨ri,ri,ri,ri,ri,ri,Bc (f:=ES) s.a.homes rfl rfl,tv⟩,Bc (f:=CV) s.txns rfl rfl,ri,tv⟩) ⟨(Ac _).symm,(Ac _).symm,rfl⟩ ?_;rintro _ rfl;refine⟨rfl,?_⟩)
      exact tA
    conv=>whnf
    have htab:∀ k:Nat,k<2->g.an+2*g.sl<=A6 g z (k:Nat)/\A6 g z (k:Nat)<Aq g:=fun k hk=>by have:=D5 hg hz (k:=(k:Nat)) (by omega);omega
    refine zU (Nat × Dk) (fun x=>([(0, .bp 0 0),(1,iv z),(4, .bp 6 0),(9,iv (Cm s.a s.txns z)),(10,iv (x.1:Nat))],FB g s 0 x.2 ++ ([.box 70 [.v (.slice none 0 0)]]:List AB))) (fun x=>x.1<=2/\Gd (Aq g) x.2 F/\∀ j:Nat,j<x.1->BH g ⟨0,F (A6 g z (j:Nat))⟩ (A6 g z (j:Nat)) (Cm s.a s.txns z)=none) (fun x=>2 - x.1) (0,d) ⟨Aj _,h,fun j hj=>absurd hj (Ap j)⟩
      (zS (s:= [0,1,2,3,4,5,6]) tA) ?_
    rintro⟨k,d1⟩ ⟨hk,hd1,hno⟩;simp only at hk hd1 hno;conv=>whnf
    refine A7 (fun h6=>?_) (fun h6=>?_) <;> (repeat rw [Ab] at h6) <;> conv=>whnf
    · have hk2:k<2:=by omega
      have hta:=I5 g z (k:Nat) hg hz (by omega);obtain⟨q1,q2⟩:=htab k hk2;have hz2:=Ar.1 hg;have hrd:=bQ g s (Aq g) d1 F (A6 g z (k:Nat)) hd1 (by omega);have hGk:=hG1 k hk2 hno;have hto:=PA g ⟨0,F (A6 g z (k:Nat))⟩ (A6 g z (k:Nat)) (Cm s.a s.txns z) hg (hF _);repeat' (refine z_ ?_;conv=>whnf)
      refine zZ hta ?_;conv=>whnf
      repeat' (refine z_ ?_;conv=>whnf)
      apply zW (8+2 ^ 134) tys_ok mixed (.o [0,1,2,4,5,7,8] (.three 3 (.two 6 (.two 9 (.o [10,11,12,13,14,15] .fin) 13 (.o [9,10,11,12,14,15] .fin)) 13 (.o [6,9,10,11,12,14,15] .fin)) 6 (.two 3 (.two 9 (.o [10,11,12,13,14,15] .fin) 13 (.o [9,10,11,12,14,15] .fin)) 13 (.o [3,9,10,11,12,14,15] .fin)) 13 (.two 3 (.o [6,9,10,11,12,14,15] .fin) 6 (.o [3,9,10,11,12,14,15] .fin)))) (by kernel_rfl);refine Ae ?_ (Ae ?_ ?_);refine Ae ?_ ?_;conv=>whnf
      (refine ze9 [0,1,2,3,4,5] hrd ?_;rintro _ _ ⟨rfl,d2,hd2,rfl⟩)
      refine Ae ?_ ?_;conv=>whnf
      refine zZ hto ?_;conv=>whnf
      try (refine tS ?_;conv=>whnf)
      rotate_left 1;conv=>whnf
      refine zZ hto ?_;conv=>whnf
      try (refine tS ?_;conv=>whnf)
      rotate_left 1;conv=>whnf
      (refine ze9 [0,1,2,3,4,5] hrd ?_;rintro _ _ ⟨rfl,d2,hd2,rfl⟩)
      conv=>whnf
      refine zZ hto ?_;conv=>whnf
      try (refine tS ?_;conv=>whnf)
      rotate_left 1;conv=>whnf
      (refine ze9 [0,1,2,3,4,5] hrd ?_;rintro _ _ ⟨rfl,d2,hd2,rfl⟩)
      refine Ae ?_ ?_;refine Ae ?_ ?_;conv=>whnf
      refine zZ hto ?_;conv=>whnf
      try (refine tS ?_;conv=>whnf)
      rotate_left 1;conv=>whnf
      refine zZ hto ?_;conv=>whnf
      try (refine tS ?_;conv=>whnf)
      rotate_left 1;conv=>whnf
      refine zZ hto ?_;conv=>whnf
      try (refine tS ?_;conv=>whnf)
      rotate_left 1;refine Ae ?_ ?_;conv=>whnf
      (refine ze9 [0,1,2,3,4,5] hrd ?_;rintro _ _ ⟨rfl,d2,hd2,rfl⟩)
      conv=>whnf
      refine zZ hto ?_;conv=>whnf
      try (refine tS ?_;conv=>whnf)
      rotate_left 1;conv=>whnf
      (refine ze9 [0,1,2,3,4,5] hrd ?_;rintro _ _ ⟨rfl,d2,hd2,rfl⟩)
      conv=>whnf
      refine zZ hto ?_;conv=>whnf
      try (refine tS ?_;conv=>whnf)
      rotate_left 1;all_goals
        cases hT:BH g ⟨0,F (A6 g z (k:Nat))⟩ (A6 g z (k:Nat)) (Cm s.a s.txns z)
      all_goals
        conv=>whnf
        first
        | exact⟨(k+1,d2),⟨by show k+1<=2;omega,hd2,fun j hj=>by by_cases e:j=k;exact e ▸ hT;exact hno j (by have:j<k+1:=hj;omega)⟩,by show 2 - (k+1)<2 - k;omega,zS (s:= [0,1,2,3,4,5,6]) ⟨⟨rfl,rfl,rfl,rfl,AI (by omega),tv⟩,tA,rfl,rfl,rfl,rfl,rfl⟩⟩
        | (rename_i t
           have e:=hGk _ hT;subst e;exact⟨.tp [.ag [Bp t], .v (.bool true)], .tp [.ag [Bp t], .v (.bool true)],FB g s 0 d2,fun _ _ h=>h,zS (s:= [0,1,2,3,4,5]) tA,rfl,d2,hd2,rfl⟩)
    · have ek:k=2:=by omega
      subst ek;rw [hG2 hno];exact⟨.tp [.ag [Bp []], .v (.bool false)], .tp [.ag [Bp []], .v (.bool false)],FB g s 0 d1,zs,zS (s:= [0,1,2,3,4,5]) tA,rfl,d1,hd1,rfl⟩
def JL (g:Geo) (s:Stt) (F:Int->List UInt8) (t:List Ent) (z w:Int):List UInt8:=match Cr s.txns z w with
 | some p=>p.1.bytes
 | none=>(CY ⟨0,F (B4 g s.a z w)⟩ (B4 g s.a z w) (t.getD (Ev g w).toNat ez)).getD []
theorem Sn (g:Geo) (s:Stt) (d:Dk) (F:Int->List UInt8) (t:List Ent) (z w:Int) (hg:Bm g=true) (hl:LogB s.txns) (ha:Bn g s.a=true) (h:Gd (Aq g) d F) (hF:∀ a,(F a).length<=100000) (ht:(t.length:Int)=g.d+1) (hz:0<=z/\z<g.z) (hw : -1<=w/\w<g.d) :
    ACalls Tryz.prog false 80 [.bp 0 0, .ag [Bp t],iv z,iv w] (FB g s 0 d) fun r H=>r=bA (JL g s F t z w)/\∃ d',Gd (Aq g) d' F/\H=FB g s 0 d':=by
  have hf:=Kl s.txns z w hl.n hl.i;unfold JL;cases hL:Cr s.txns z w with
  | some p=>
    obtain⟨x,q⟩:=p;rw [hL] at hf;simp only;refine zT tys_ok Tryz.func80 rfl rfl (Ag rfl) ?_;conv=>whnf
    refine FnO.lend (hf.subA (args:= [.sl 4 s.txns.length fun i=>(s.txns.map CV).getD i [],iv z,iv w]) ⟨Bc (f:=CV) s.txns rfl rfl,fun _ _ h=>h,fun _ _ h=>h,tv⟩) ⟨(Ac _).symm,rfl⟩ ?_;rintro _ _ ⟨rfl,rfl⟩;refine⟨⟨rfl,by rw [flatR,flat_by1];try rfl⟩,?_⟩;exact⟨.ow 7 (x.bytes.length),bA x.bytes,FB g s 0 d,fun _ _ h=>h,zG (zQ (zP 0 7 (congrArg (AV.ow 7) (Ac _).symm) rfl) (zL 0 rfl (Fb (Ac _) rfl))) (s:= [0,1,2,3,4,5]) tA,rfl,d,h,rfl⟩
  | none=>
    rw [hL] at hf;simp only;have hA:=Mb g s.a z w hg ha hz hw;obtain⟨sl,e1,e2,e3⟩:=Em hg ha hz hw;obtain⟨q1,q2⟩:=E0 hg hz ⟨e2,e3⟩;have hz2:=Ar.1 hg;have hrd:=bQ g s (Aq g) d F (B4 g s.a z w) h (by omega);have hat:=Wo g w;have hb:=TV ⟨0,F (B4 g s.a z w)⟩ (B4 g s.a z w) (t.getD (Ev g w).toNat ez) (hF _);have a1:0<=Ev g w/\Ev g w<g.d+1:=by unfold Ev;split <;> omega
    refine zT tys_ok Tryz.func80 rfl rfl (Ag rfl) ?_;conv=>whnf
    refine FnO.lend (hf.subA (args:= [.sl 4 s.txns.length fun i=>(s.txns.map CV).getD i [],iv z,iv w]) ⟨Bc (f:=CV) s.txns rfl rfl,fun _ _ h=>h,fun _ _ h=>h,tv⟩) ⟨(Ac _).symm,rfl⟩ ?_;rintro _ _ ⟨rfl,rfl⟩;refine⟨tA,?_⟩;conv=>whnf
    repeat' (refine z_ ?_;conv=>whnf)
    apply zO tys_ok mixed (.o [0,1,2,3,4,5,6,7,8,9,10,11,12] .fin) [12,29,30,31,32,33,34,35,36,37,38,39,40] (by kernel_rfl)
    · conv=>whnf
      (refine zp (args':= [.ag (AU g), .ag (Te s.a (.sl 3 s.a.homes.length fun i=>(s.a.homes.map ES).getD i [])),iv z,iv w]) (hA.subA ⟨ri,Bk ⟨ri,ri,ri,ri,ri,ri,Bc (f:=ES) s.a.homes rfl rfl,tv⟩,ri,ri,tv⟩) ⟨(Ac _).symm,rfl⟩ ?_;rintro _ rfl;refine⟨rfl,?_⟩)
      exact tA
    conv=>whnf
    cases hb2:CY ⟨0,F (B4 g s.a z w)⟩ (B4 g s.a z w) (t.getD (Ev g w).toNat ez);all_goals
      rw [hb2] at hb;repeat' (refine z_ ?_;conv=>whnf)
      apply zW (544+2 ^ 130) tys_ok mixed (.o [0,1,3,4,6,7,8,10] (.three 2 (.two 5 (.o [9,11,12,13,14,15,16,17,18,19] .fin) 9 (.two 5 (.o [11,12,13,14,15,16,17,18,19] .fin) 11 (.o [5,12,13,14,15,16,17,18,19] .fin))) 5 (.two 2 (.o [9,11,12,13,14,15,16,17,18,19] .fin) 9 (.o [2,11,12,13,14,15,16,17,18,19] .fin)) 9 (.two 2 (.two 5 (.o [11,12,13,14,15,16,17,18,19] .fin) 11 (.o [5,12,13,14,15,16,17,18,19] .fin)) 5 (.o [2,11,12,13,14,15,16,17,18,19] .fin)))) (by kernel_rfl);refine Ae ?_ (Ae ?_ ?_);conv=>whnf
      (refine ze9 [0,1,2,3,4,5] hrd ?_;rintro _ _ ⟨rfl,d2,hd2,rfl⟩)
      refine Ae ?_ ?_;conv=>whnf
      refine zZ hat ?_;conv=>whnf
      try (refine tI ?_;conv=>whnf)
      refine zZ hb ?_;conv=>whnf
      rotate_left 1;refine Ae ?_ ?_;conv=>whnf
      refine zZ hat ?_;conv=>whnf
      try (refine tI ?_;conv=>whnf)
      refine zZ hb ?_;conv=>whnf
      rotate_left 1;conv=>whnf
      refine zZ hat ?_;conv=>whnf
      try (refine tI ?_;conv=>whnf)
      refine zZ hb ?_;conv=>whnf
      rotate_left 1;refine Ae ?_ ?_;conv=>whnf
      (refine ze9 [0,1,2,3,4,5] hrd ?_;rintro _ _ ⟨rfl,d2,hd2,rfl⟩)
      conv=>whnf
      refine zZ hat ?_;conv=>whnf
      try (refine tI ?_;conv=>whnf)
      refine zZ hb ?_;conv=>whnf
      rotate_left 1;conv=>whnf
      (refine ze9 [0,1,2,3,4,5] hrd ?_;rintro _ _ ⟨rfl,d2,hd2,rfl⟩)
      conv=>whnf
      refine zZ hat ?_;conv=>whnf
      try (refine tI ?_;conv=>whnf)
      refine zZ hb ?_;conv=>whnf
      rotate_left 1;refine Ae ?_ ?_;conv=>whnf
      (refine ze9 [0,1,2,3,4,5] hrd ?_;rintro _ _ ⟨rfl,d2,hd2,rfl⟩)
      refine Ae ?_ ?_;conv=>whnf
      refine zZ hat ?_;conv=>whnf
      try (refine tI ?_;conv=>whnf)
      refine zZ hb ?_;conv=>whnf
      rotate_left 1;conv=>whnf
      refine zZ hat ?_;conv=>whnf
      try (refine tI ?_;conv=>whnf)
      refine zZ hb ?_;conv=>whnf
      rotate_left 1;conv=>whnf
      (refine ze9 [0,1,2,3,4,5] hrd ?_;rintro _ _ ⟨rfl,d2,hd2,rfl⟩)
      conv=>whnf
      refine zZ hat ?_;conv=>whnf
      try (refine tI ?_;conv=>whnf)
      refine zZ hb ?_;conv=>whnf
      rotate_left 1
    all_goals
      first
      | (rename_i b
         exact⟨bA b,bA b,FB g s 0 d2,fun _ _ h=>h,zS (s:= [0,1,2,3,4,5]) tA,rfl,d2,hd2,rfl⟩)
      | exact⟨bA [],bA [],FB g s 0 d2,Bo 1 _,zS (s:= [0,1,2,3,4,5]) tA,rfl,d2,hd2,rfl⟩
def F9 (b:List UInt8):List AV:= [bA b]
theorem ConvF.sealTp {fr:Fr} {H:List AB} (i k:Nat) {x z:AV} {t:TypeId} {sz:Nat} {es:List (List AV)} (hx:fget fr i = .tp [x, .ow k es.length,z]) (hk:hget H k=some (.row t sz es)):ConvF fr H ((i, .tp [x, .sl sz es.length fun j=>es.getD j [],z])::fr) (H.set k .dead):=fun _ _ c _ _ hs hf=>by
 rw [hget_eq] at hk;obtain⟨c1,e1,s1,x1,r1⟩:=hs.freeze hk;refine⟨c1,e1,s1,(hf.ext x1).cons i _ ?_,x1⟩;have h0:=hf.get i;have h1:=(hf.ext x1).get i;rw [hx] at h0 h1;simp only [Rd] at h0 h1;obtain⟨us,e,h0⟩:=h0;obtain⟨us',e',h1⟩:=h1;have eu:us'=us:=by
  have:=e.symm.trans e';injection this with this
  simpa using this.symm
 subst eu;obtain⟨y1,l1,rfl,a1,y2,l2,rfl,a2,y3,l3,rfl,a3,rfl⟩:=h0;obtain⟨z1,m1,q1,b1,z2,m2,q2,b2,z3,m3,q3,b3,q4⟩:=h1;subst q2 q3 q4;simp only [List.cons.injEq,and_true] at q1;obtain⟨rfl,rfl,rfl⟩:=q1;simp only [Rd];exact⟨_,e,_,_,rfl,b1,_,_,rfl,r1 _ a2,_,_,rfl,b3,rfl⟩
theorem DL {L:List (List UInt8)} {n:Nat} {es:List (List AV)} (hn:n=L.length) (he:es=L.map F9) (c:Ctx) (v:Value) (h:Rd (.sl 1 n fun i=>es.getD i []) c v):Rd (ER L) c v:=Bc (f:=F9) L hn he c v h
def Kz (g:Geo) (s:Stt) (F:Int->List UInt8) (t:List Ent) (z:Int) (k:Nat):List (List UInt8):=(List.range k).map fun i=>JL g s F t z (i:Nat)
def D1 (g:Geo) (s:Stt) (F:Int->List UInt8) (t:List Ent) (z:Int):List (List UInt8):=Kz g s F t z g.d.toNat ++ [JL g s F t z (-1)]
theorem J9 {g:Geo} {s:Stt} {F:Int->List UInt8} {z:Int} {t:List Ent} (h:EW g s F z=some t):Gi g t=true:=by
 have hr:∀ {b:List UInt8} {t:List Ent},BW g b=some t->Gi g t=true:=fun {b t} h=>by
  unfold BW at h;split at h
  ·rename_i hh;obtain rfl:=Option.some.inj h;exact hh.1
  ·cases h
 have ho:∀ {x:Gt} {a r:Int} {t:List Ent},BH g x a r=some t->Gi g t=true:=fun {x a r t} h=>by
  unfold BH at h;split at h
  ·split at h
   ·exact hr h
   ·cases h
  ·cases h
 unfold EW at h;split at h
 ·exact hr h
 ·split at h
  ·rename_i hh;obtain rfl:=Option.some.inj h;exact ho hh
  ·exact ho h
theorem GJ {g:Geo} {t:List Ent} (h:Gi g t=true):(t.length:Int)=g.d+1:=by
 unfold Gi at h
 grind
theorem Hf {g:Geo} {s:Stt} {F:Int->List UInt8} {t:List Ent} {z w:Int} (hi:∀ t∈s.txns,∀ x∈t.images,B3 g x=true) (hw:w≠255):(JL g s F t z w).length=0\/(JL g s F t z w).length=8:=by
 unfold JL;split
 ·rename_i p hp;obtain⟨x,q⟩:=p;obtain⟨t',ht, -,hx, -,e⟩:=Ho (Ah _) hp;exact .inr ((D0 (hi t' ht x hx)).2 (by rw [e];exact hw)).2.2
 ·unfold CY;split
  ·split
   ·rename_i h;exact .inr h.2.1
   ·exact .inl rfl
  ·exact .inl rfl
theorem Rl (g:Geo) (s:Stt) (d:Dk) (F:Int->List UInt8) (z:Int) (hg:Bm g=true) (hl:LogB s.txns) (ha:Bn g s.a=true) (h:Gd (Aq g) d F) (hF:∀ a,(F a).length<=100000) (hz:0<=z/\z<g.z) :
  ACalls Tryz.prog false 31 [.bp 0 0,iv z] (FB g s 0 d) fun r H=>r=(match EW g s F z with | some t=> .tp [.ag [Bp t],ER (D1 g s F t z), .v (.bool true)] | none=> .tp [.ag [Bp []],ER [], .v (.bool false)])/\∃ d',Gd (Aq g) d' F/\H=FB g s 0 d':=by
 have hT:=VO g s d F z hg hl ha h hF hz;obtain⟨g1,g2,g3,g4,g5⟩:=Ar.1 hg;cases hq:EW g s F z with
 | none=>
  rw [hq] at hT;refine zT tys_ok Tryz.func31 rfl rfl (Ag rfl) ?_;conv=>whnf
  refine ze9 [0,1,2,3,4,5] hT ?_;rintro _ _ ⟨rfl,d2,hd2,rfl⟩;exact⟨.tp [.ag [Bp []],ER [], .v (.bool false)], .tp [.ag [Bp []],ER [], .v (.bool false)],FB g s 0 d2,Cf ⟨Bk ⟨Bo 3 _,tv⟩,Bo 1 _,ri,tv⟩,zS (s:= [0,1,2,3,4,5]) tA,rfl,d2,hd2,rfl⟩
 | some t=>
  rw [hq] at hT;have htl:=GJ (J9 hq);refine zT tys_ok Tryz.func31 rfl rfl (Ag rfl) ?_;conv=>whnf
  refine ze9 [0,1,2,3,4,5] hT ?_;rintro _ _ ⟨rfl,d2,hd2,rfl⟩;conv=>whnf
  refine zU (Nat × Dk) (fun x=>([(0, .bp 0 0),(1,iv z),(4, .bp 6 0),(7, .bp 7 0),(9, .ow 8 x.1),(10,iv (x.1:Nat))],FB g s 0 x.2 ++ ([.box 70 [.v (.slice none 0 0)], .box 70 [Bp t], .row 47 1 ((Kz g s F t z x.1).map F9)]:List AB))) (fun x=>(x.1:Int)<=g.d/\Gd (Aq g) x.2 F) (fun x=>g.d.toNat - x.1) (0,d2) ⟨by show ((0:Nat):Int)<=g.d;omega,hd2⟩
   ⟨_,_,zF _ _, [(9,47,1)],tA, [0,1,2,3,4,5,6,7,8],tA,tA,rfl,rfl,rfl,rfl,rfl⟩ ?_
  rintro⟨k,d1⟩ ⟨hk,hd1⟩;simp only at hk hd1;conv=>whnf
  refine A7 (fun h6=>?_) (fun h6=>?_) <;> (repeat rw [Ab] at h6) <;> conv=>whnf
  ·have hk1:(Kz g s F t z k).map F9 ++ [F9 (JL g s F t z (k:Nat))]=(Kz g s F t z (k+1)).map F9:=by simp [Kz,Bj]
   have h1:=Sn g s d1 F t z (k:Nat) hg hl ha hd1 hF htl hz (by omega);repeat' (refine z_ ?_;conv=>whnf)
   refine ze9 [0,1,2,3,4,5] h1 ?_;rintro _ _ ⟨rfl,d3,hd3,rfl⟩;refine⟨rfl,?_⟩;refine⟨⟨by simp [Kz],by omega⟩,?_⟩;conv=>whnf
   exact⟨(k+1,d3),⟨by show ((k+1:Nat):Int)<=g.d;omega,hd3⟩,by show g.d.toNat - (k+1)<g.d.toNat - k;omega,zS (s:= [0,1,2,3,4,5,6,7,8]) ⟨⟨rfl,rfl,rfl,rfl,rfl,AI (by omega),tv⟩,⟨rfl,rfl,rfl,rfl,rfl,rfl,rfl,rfl,congrArg (fun es=>some (AB.row 47 1 es)) hk1,tv⟩,rfl,rfl,rfl,rfl,rfl⟩⟩
  ·have ek:k=g.d.toNat:=by omega
   subst ek;have hlen:(D1 g s F t z).length=g.d.toNat+1:=by simp [D1,Kz]
   have hrow:(Kz g s F t z g.d.toNat).map F9 ++ [F9 (JL g s F t z (-1))]=(D1 g s F t z).map F9:=by simp [D1]
   have h1:=Sn g s d1 F t z (-1) hg hl ha hd1 hF htl hz (by omega);refine ze9 [0,1,2,3,4,5] h1 ?_;rintro _ _ ⟨rfl,d3,hd3,rfl⟩;refine⟨rfl,?_⟩;refine⟨⟨by simp [Kz],by omega⟩,?_⟩;conv=>whnf
   apply zW (32) tys_ok mixed (.o [0,1,2,3,4] (.two 5 (.o [6,7,8,9] .fin) 7 (.o [8,5,6,9] .fin))) (by kernel_rfl);refine Ae ?_ ?_;conv=>whnf
   try (refine tS ?_;conv=>whnf)
   rotate_left 1;conv=>whnf
   try (refine tS ?_;conv=>whnf)
   rotate_left 1;all_goals
    conv=>whnf
    exact⟨.tp [.ag [Bp t], .ow 8 (D1 g s F t z).length, .v (.bool true)], .tp [.ag [Bp t],ER (D1 g s F t z), .v (.bool true)],FB g s 0 d3,Cf (m:= [.ag [Bp t], .ow 8 (D1 g s F t z).length, .v (.bool true)]) ⟨ri,by rw [hlen];exact fun _ _ h=>h,ri,tv⟩,zG (zQ (ConvF.sealTp 0 8 (es:=(D1 g s F t z).map F9) (by rw [Ac];try rfl) (congrArg (fun es=>some (AB.row 47 1 es)) hrow)) (zL 0 rfl (Cf (m:= [.ag [Bp t],ER (D1 g s F t z), .v (.bool true)]) ⟨ri,DL (Ac _) rfl,ri,tv⟩))) (s:= [0,1,2,3,4,5]) tA,rfl,d3,hd3,rfl⟩
theorem DP {L:List Int} {n:Nat} {es:List (List AV)} (hn:n=L.length) (he:es=L.map fun x=> [AV.v (.int .i64 x)]) (c:Ctx) (v:Value) (h:Rd (.sl 1 n fun i=>es.getD i []) c v):Rd (iA L) c v:=Bc (f:=fun x=> [AV.v (.int .i64 x)]) L hn he c v h
def GM (g:Geo) (s:Stt) (F:Int->List UInt8) (seq lba:Int) (b:List UInt8):List Img:=match EW g s F (lba.tdiv g.d) with
 | some t=>Ch (lba.tdiv g.d) (By g t (D1 g s F t (lba.tdiv g.d)) [lba.tmod g.d] [b] seq) (DM g t (D1 g s F t (lba.tdiv g.d)) [lba.tmod g.d] [b] g.d.toNat) [lba.tmod g.d] [b]
 | none=> []
theorem S5 {L L':List Img} {n:Nat} (e:L=L') (hn:n=L'.length) (c:Ctx) (v:Value) (h:Rd (.sl 3 n fun j=>((List.range L'.length).map fun i=>Eh (L'.getD i ⟨0,0, []⟩)).getD j []) c v):Rd (Ec L) c v:=by
 subst e;refine zD hn (fun i hi=>?_) h;have:i<L.length:=by omega
 simp [this]
theorem Lw {g:Geo} {seq epoch:Int} {x:Img} (hg:Bm g=true) (h2:CQ seq 0 4294967295=true) (h3:CQ epoch 0 4294967295=true) (h7:B3 g x=true) {k n:Nat} (hk:k<n) (hn:n=3):Fz g ⟨1,seq,epoch,(k:Nat),n+1,x⟩=true:=by
 simp only [Fz,hg,Gf,IV,h2,h3,h7,BV,B5];simp only [if_neg (show ¬(1:Int)=0 by omega),if_true,Ad,AF];omega
theorem Lu {g:Geo} {seq epoch:Int} (hg:Bm g=true) (h2:CQ seq 0 4294967295=true) (h3:CQ epoch 0 4294967295=true) {n:Nat} (hn:n=3):Fz g ⟨2,seq,epoch,(n:Nat),n+1,noImg⟩=true:=by
 subst hn;simp only [Fz,hg,Gf,IV,h2,h3,BV];simp only [if_neg (show ¬(2:Int)=0 by omega),if_neg (show ¬(2:Int)=1 by omega),if_true,Ad,AF,beq_iff_eq,IW,noImg];simp
@[reducible] def rwQ (g:Geo) (a:An) (l:List Tx) (x:Tx) (d:Dk):List AB:= [.box 83 (ZC g (.bp 1 0) (.ow 4 a.homes.length) (.ow 5 (l.length+1)) (AJ a l) 0), .box 85 (GX (.ow 2 d.cells.length) (.ow 6 d.cache.length) d.reqs d.left), .row 128 3 (d.cells.map B7), .dead, .row 177 3 (a.homes.map ES), .row 112 4 (l.map CV ++ [CV x]), .row 134 2 (d.cache.map EE)]
theorem ZD (g:Geo) (a:An) (l:List Tx) (x:Tx) (d:Dk):rwQ g a l x d=rwP g (AJ a (l ++ [x])) 0 d:=by
 have e1:(AJ a (l ++ [x])).txns.length=l.length+1:=by show (l ++ [x]).length=_;simp
 have e2:(AJ a (l ++ [x])).txns.map CV=l.map CV ++ [CV x]:=by show (l ++ [x]).map CV=_;simp
 show _=rwP g (AJ a (l ++ [x])) 0 d;unfold rwP;rw [e1,e2];try rfl
def GD (g:Geo) (a:An) (l:List Tx) (F:Int->List UInt8) (lba:Int) (b:List UInt8):Tx:=⟨a.seq+(l.length:Int),(a.pos+C6 l).tmod g.sl,4,GM g (AJ a l) F (a.seq+(l.length:Int)) lba b⟩
theorem in01:(0:Int)<=((0:Nat):Int)/\((0:Nat):Int)<((1:Nat):Int):=by decide
def bi (A:Int) (p:Bool):AV:=match p with
 | true=>iA [A]
 | false=> .v (.slice none 0 0)
def b_ (b:List UInt8) (p:Bool):AV:=match p with
 | true=>ER [b]
 | false=> .v (.slice none 0 0)
def Zn (L:List Img) (p:Bool):AV:=match p with
 | true=>Ec L
 | false=> .v (.slice none 0 0)
theorem JX {g:Geo} (hg:Bm g=true) {r:Rc} (hr:Fz g r=true) {c s:Int} (hc:c=0\/c=1) (hs:0<=s/\s<g.sl):BZ (BG g r c s)=Bh g c s:=by
 have hb:=F1 hg (Im hc hs);have h1:=JM hr;have h2:=Es hr;exact(C8 (a:=Bh g c s) (s:=r.seq) (p:=E8 r) ⟨hb.1,by omega,h1.1,h1.2,by omega⟩).2.1
theorem Rw (g:Geo) (a:An) (l:List Tx) (d:Dk) (F:Int->List UInt8) (K lba:Int) (b:List UInt8) (hg:Bm g=true) (hv:Vol g K d (AJ a l)) (hK:K<=4294967294) (h:Gd (Aq g) d F) (hF:∀ a,(F a).length<=100000) (hlba:0<=lba/\lba<g.z*g.d) (hb:b.length=8) :
  ACalls Tryz.prog false 34 [.bp 0 0,iA [lba],ER [b]] (FB g (AJ a l) 0 d) fun r H=>(r = iv 0/\C6 l+4<=g.sl/\(EW g (AJ a l) F (lba.tdiv g.d)).isSome=true/\∃ d' W,Gd (Aq g) d' (FU F W)/\(∀ w∈W,(g.an<=w.addr/\w.addr<g.an+2*g.sl/\BZ w.bytes=w.addr)/\w.bytes.length<=200)/\Vol g (K+1) d' (AJ a (l ++ [GD g a l F lba b]))/\H=rwP g (AJ a (l ++ [GD g a l F lba b])) 0 d')\/∃ e,e≠0/\r = iv e/\(g.sl<C6 l+4\/EW g (AJ a l) F (lba.tdiv g.d)=none)/\∃ d',H=FB g (AJ a l) 0 d':=by
 obtain⟨g1,g2,g3,g4,g5⟩:=Ar.1 hg;have hsm:=hv.sm hg;have ha:Bn g a=true:=hv.an;have hring:Cw g l a.seq a.pos g.sl=true:=hv.ring;have hl30:l.length<=30:=hsm.t.1;have hlb:LogB (AJ a l).txns:=⟨by have:=hsm.t.1;omega,fun t ht=>⟨by have:=(hsm.t.2 t ht).1;omega,fun x hx=>by have:=(hsm.t.2 t ht).2 x hx;omega⟩⟩;have hun:=ET l l.length;obtain⟨a1,a2,a3,a4⟩:=Ej ha;have hseq:a.seq+l.length<=K:=hv.seq;obtain⟨Z,hZ⟩:∃ Z,Z=lba.tdiv g.d:=⟨_,rfl⟩;obtain⟨A,hA⟩:∃ A,A=lba.tmod g.d:=⟨_,rfl⟩;have hZ2:0<=Z/\Z<g.z:=by
  rw [hZ,AX hlba.1];exact⟨CT hlba.1 (by omega),CB (by omega) hlba.2⟩
 have hA2:0<=A/\A<g.d:=by
  rw [hA];exact⟨Bx _ hlba.1,Bb _ (by omega)⟩
 have hneed:=VZ g lba hg hlba;have hused:=P8 l (by omega);have hnext:=VX g a l hg ha (by omega);have tsub:SubL [.sl 4 l.length fun i=>(l.map CV).getD i []] [DH l]:=⟨Bc (f:=CV) l rfl rfl,tv⟩;have asub:∀ (c:Ctx) (v:Value),Rd (.ag (Te a (.sl 3 a.homes.length fun i=>(a.homes.map ES).getD i []))) c v->Rd (.ag (Ft a)) c v:=Bk ⟨ri,ri,ri,ri,ri,ri,Bc (f:=ES) a.homes rfl rfl,tv⟩;refine zT tys_ok Tryz.func34 rfl rfl (Ag rfl) ?_;conv=>whnf
 refine zZ hneed ?_;conv=>whnf
 apply zO tys_ok mixed (.o [0,1,2,3,4,5,6,7,8,9,10,11,12,13] .fin) [36,37,38,39,40,41,42,43,44,45,46,47,48,49] (by kernel_rfl)
 ·conv=>whnf
  (refine zp (args':= [.sl 4 l.length fun i=>(l.map CV).getD i []]) (hused.subA tsub) ⟨(Ac _).symm,rfl⟩ ?_;rintro _ rfl;refine⟨rfl,?_⟩)
  exact tA
 conv=>whnf
 conv=>whnf
 rw [wi (show -9223372036854775808<=g.sl - C6 l/\g.sl - C6 l<=9223372036854775807 by unfold C6;omega)];by_cases hfull:(4:Int) > g.sl - C6 l
 ·rw [decide_eq_true hfull];exact⟨ze 21,ze 21,FB g (AJ a l) 0 d,fun _ _ h=>h,zS (s:= [0,1,2,3,4,5]) tA, .inr ⟨21,by decide,rfl, .inl (by omega),d,rfl⟩⟩
 rw [decide_eq_false hfull];conv=>whnf
 apply zO tys_ok mixed (.o [0,1,2,3,4,5,6,7,8,9,10,11,12,13,14,15,16,17,18,19] .fin) [8,9,50,51,52,53,54,55,56,57,58,59,60,61,62,63,64,65,66,67] (by kernel_rfl)
 ·conv=>whnf
  (refine zp (args':= [.ag (AU g), .ag (Te a (.sl 3 a.homes.length fun i=>(a.homes.map ES).getD i [])), .sl 4 l.length fun i=>(l.map CV).getD i []]) (hnext.subA ⟨fun _ _ h=>h,asub,tsub⟩) ⟨(Ac _).symm,(Ac _).symm,rfl⟩ ?_;rintro _ rfl;refine⟨rfl,?_⟩)
  exact tA
 conv=>whnf
 conv=>whnf
 rw [decide_eq_false (show ¬a.seq+(l.length:Int) > 4294967295 by omega)];conv=>whnf
 obtain⟨S,hS⟩:∃ S,S=a.seq+(l.length:Int):=⟨_,rfl⟩;obtain⟨P,hP⟩:∃ P,P=(a.pos+C6 l).tmod g.sl:=⟨_,rfl⟩;rw [<-hS,<-hP];have hdiv:IntKind.i64.wrap (([lba].getD (((0:Nat):Int)).toNat 0).tdiv g.d)=Z:=by
  rw [hZ];exact wi (by have:=hZ2;rw [hZ] at this;show -9223372036854775808<=lba.tdiv g.d/\lba.tdiv g.d<=9223372036854775807;omega)
 have hadlen:∀ t,∀ x∈D1 g (AJ a l) F t Z,x.length=0\/x.length=8:=fun t x hx=>by
  have himg:∀ t∈(AJ a l).txns,∀ x∈t.images,B3 g x=true:=fun t ht=>Av.1 (Dp hring t ht).1
  rcases A2.1 hx with q | q
  ·obtain⟨i,hi,rfl⟩:=AQ.1 q;exact Hf himg (by have:=AR.1 hi;omega)
  ·rw [Ay] at q;rw [q];exact Hf himg (by decide)
 obtain⟨L,hL⟩:∃ L,L=GM g (AJ a l) F S lba b:=⟨_,rfl⟩;refine zU (Nat × Dk × Bool) (fun x=>([(0, .bp 0 0),(1,iA [lba]),(2,ER [b]),(7,ze 4),(8,ze P),(9,ze S),(10,Zn L x.2.2),(11,ze (x.1:Nat))],FB g (AJ a l) 0 x.2.1)) (fun x=>(x.1:Int)<=g.z/\Gd (Aq g) x.2.1 F/\(x.2.2=true->(EW g (AJ a l) F Z).isSome=true)/\(x.2.2=true↔Z<(x.1:Int))) (fun x=>g.z.toNat - x.1) (0,d,false) ⟨by show ((0:Nat):Int)<=g.z;omega,h,fun q=>(by cases q),⟨fun q=>(by cases q),fun q=>absurd q (by show ¬Z<((0:Nat):Int);omega)⟩⟩
  (zS (s:= [0,1,2,3,4,5]) tA) ?_
 rintro⟨k,d1,p⟩ ⟨hk,hd1,hz1,hpz⟩;simp only at hk hd1 hz1 hpz;by_cases hkz:(k:Int)<g.z;rotate_left 1
 ·obtain rfl:p=true:=hpz.2 (by omega);obtain⟨t,hT⟩:=Ci.1 (hz1 rfl);have htok:=J9 hT;have hL2:L=Ch Z (By g t (D1 g (AJ a l) F t Z) [A] [b] S) (DM g t (D1 g (AJ a l) F t Z) [A] [b] g.d.toNat) [A] [b]:=by
   rw [hL,GM,<-hZ,<-hA,hT]
  have h01:∀ x∈ [b],x.length=8:=fun x hx=>by rw [Ay] at hx;rw [hx];exact hb
  have hL3:L.length=3:=by rw [hL2,EA];try rfl
  have hA3:∀ x∈ [A],0<=x/\x<g.d:=fun x hx=>by rw [Ay] at hx;rw [hx];exact hA2
  have hLok:∀ x∈L,B3 g x=true:=fun x hx=>by
   rw [hL2] at hx;exact(Jq hg hZ2 (Fk hg htok (by omega)) (E_ (hadlen t) h01 (show [A].length<= [b].length from Ah 1) _) hA3 h01 (Ah 1) x hx).1
  have hL1:OneTab L:=by
   rw [hL2];exact Iu (l:= []) hg List.Pairwise.nil (fun x hx=>by cases hx) hA3
  have hep:0<=a.epoch/\a.epoch<=4294967295:=by
   have:=ha;simp only [Bn,A_,BC,B5,Ad,decide_eq_true_eq,AF] at this;omega
  have hS1:CQ S 0 4294967295=true:=AF.2 (by omega);have hLb:∀ x∈L,x.bytes.length<=45:=fun x hx=>Eg hg (hLok x hx)
  have hrec:=Rr S a.epoch L (by omega) fun x hx=>by have:=hLb x hx;omega
  obtain⟨R,hR⟩:∃ R,R=CP S a.epoch L:=⟨_,rfl⟩;have hRl:R.length=4:=by rw [hR,H5,hL3]
  have hRok:∀ k:Nat,k<4->Fz g (R.getD (k:Int).toNat rc0)=true:=fun k hk=>by
   rw [Ab,hR,I6 _ _ _ (by omega)];split
   ·rename_i q;exact Lw hg hS1 (AF.2 hep) (hLok _ (A5 (d:=⟨0,0, []⟩) q)) q hL3
   ·rw [show k=L.length by omega];exact Lu hg hS1 (AF.2 hep) hL3
  rw [<-hR] at hrec;conv=>whnf
  rw [decide_eq_false hkz];conv=>whnf
  refine zZ hrec ?_;conv=>whnf
  refine zU (Nat × Dk × List Wr) (fun x=>([(0, .bp 0 0),(1,iA [lba]),(2,ER [b]),(7,ze 4),(8,ze P),(9,ze S),(10,Ec L),(19,LX R),(20,ze (x.1:Nat))],FB g (AJ a l) 0 x.2.1)) (fun x=>x.1<=4/\Gw (Aq g) x.2.1 F x.2.2/\x.2.2.length=2*x.1/\∀ w∈x.2.2,(g.an<=w.addr/\w.addr<g.an+2*g.sl/\BZ w.bytes=w.addr)/\w.bytes.length<=200) (fun x=>4 - x.1) (0,d1, []) ⟨by show 0<=4;omega,hd1,rfl,fun w hw=>by cases hw⟩
   (zS (s:= [0,1,2,3,4,5]) tA) ?_
  rintro⟨i,d2,W⟩ ⟨hi,hW,hWl,hWb⟩;simp only at hi hW hWl hWb;conv=>whnf
  refine A7 (fun h6=>?_) (fun h6=>?_) <;> (repeat rw [Ab] at h6) <;> conv=>whnf
  ·have hi4:i<4:=by omega
   obtain⟨Q,hQ⟩:∃ Q,Q=Dd g P (i:Nat):=⟨_,rfl⟩;have hQ2:=Id hg (pos:=P) (at_:=(i:Nat)) (by rw [hP];exact⟨Bx _ (by unfold C6;omega),Bb _ (by omega)⟩) (by omega);rw [<-hQ] at hQ2;repeat' (refine z_ ?_;conv=>whnf)
   refine⟨by omega,?_⟩;conv=>whnf
   rw [show (IntKind.i64.wrap (P+(i:Nat))).tmod g.sl=Q from hQ.symm];have hl0:=Fp g 0 Q hg (Im (.inl rfl) hQ2);have hl1:=Fp g 1 Q hg (Im (.inr rfl) hQ2);obtain⟨X,hX⟩:∃ X,X=R.getD (i:Int).toNat rc0:=⟨_,rfl⟩;have hXok:Fz g X=true:=by rw [hX];exact hRok i hi4
   have hc0:=Hz g X 0 Q hXok (Im (.inl rfl) hQ2);have hc1:=Hz g X 1 Q hXok (Im (.inr rfl) hQ2);have hcl:=h.len;have b0:=F0 hg h.len (.inl rfl) hQ2 (c:=0);have b1:=F0 hg h.len (.inr rfl) hQ2 (c:=1);have hw0:=aM g (AJ a l) (Aq g) d2 F W (Bh g 0 Q) (BG g X 0 Q) hW (by omega) (by omega) (CD hXok 0 Q);rw [hX] at hc0 hc1;apply zW (2 ^ 145) tys_ok mixed (.o [0,1,2,3,4,5,7,8,9,10,11,12,13,14,15,6,16,17,18] .fin) (by kernel_rfl);conv=>whnf
   try (refine tI ?_;conv=>whnf)
   refine zZ hl0 ?_;conv=>whnf
   refine zZ hc0 ?_;conv=>whnf
   (rw [<-hX];refine ze9 [0,1,2,3,4,5] hw0 ?_;rintro _ _ ⟨rfl,d3,hd3,rfl⟩)
   conv=>whnf
   have c0:=Iq (g:=g) (.inl rfl) hQ2 (c:=0);have c1:=Iq (g:=g) (.inr rfl) hQ2 (c:=1);have hW2:∀ w∈(W ++ [⟨Bh g 0 Q,BG g X 0 Q⟩]) ++ [⟨Bh g 1 Q,BG g X 1 Q⟩],(g.an<=w.addr/\w.addr<g.an+2*g.sl/\BZ w.bytes=w.addr)/\w.bytes.length<=200:=fun w hw=>by
    rcases A2.1 hw with q | q
    ·rcases A2.1 q with q | q
     ·exact hWb w q
     ·rw [Ay] at q;rw [q];exact⟨⟨c0.1,c0.2,JX hg hXok (.inl rfl) hQ2⟩,CD hXok 0 Q⟩
    ·rw [Ay] at q;rw [q];exact⟨⟨c1.1,c1.2,JX hg hXok (.inr rfl) hQ2⟩,CD hXok 1 Q⟩
   have hw1:=aM g (AJ a l) (Aq g) d3 F (W ++ [⟨Bh g 0 Q,BG g X 0 Q⟩]) (Bh g 1 Q) (BG g X 1 Q) hd3 (by simp;omega) (by omega) (CD hXok 1 Q);apply zW (2 ^ 145) tys_ok mixed (.o [0,1,2,3,4,5,7,8,9,10,11,12,13,14,15,6,16,17,18] .fin) (by kernel_rfl);conv=>whnf
   try (refine tI ?_;conv=>whnf)
   refine zZ hl1 ?_;conv=>whnf
   refine zZ hc1 ?_;conv=>whnf
   (rw [<-hX];refine ze9 [0,1,2,3,4,5] hw1 ?_;rintro _ _ ⟨rfl,d4,hd4,rfl⟩)
   conv=>whnf
   conv=>whnf
   exact⟨(i+1,d4,(W ++ [⟨Bh g 0 Q,BG g X 0 Q⟩]) ++ [⟨Bh g 1 Q,BG g X 1 Q⟩]),⟨by show i+1<=4;omega,hd4,by show ((W ++ [_]) ++ [_]).length=2*(i+1);simp;omega,hW2⟩,by show 4 - (i+1)<4 - i;omega,zS (s:= [0,1,2,3,4,5]) ⟨⟨rfl,rfl,rfl,rfl,rfl,rfl,rfl,rfl,AI (by omega),tv⟩,tA,rfl,rfl,rfl,rfl,rfl⟩⟩
  ·have hfl:=bZ g (AJ a l) (Aq g) d2 F W hW;refine ze9 [0,1,2,3,4,5] hfl ?_;rintro _ _ ⟨rfl,d3,hd3,rfl⟩;refine⟨rfl,?_⟩;conv=>whnf
   refine Ae ⟨(Ac _).symm,by show l.length+1<=1000000000;omega⟩ ?_;conv=>whnf
   refine zU Nat (fun i=>([(0, .bp 0 0),(1,iA [lba]),(24,ze (i:Nat))],rwQ g a l ⟨S,P,4,L⟩ d3)) (fun i=>i<=1) (fun i=>1 - i) 0 (by omega)
    (zS (s:= [0,1,2,3,4,5,6]) tA) ?_
   intro i hi;conv=>whnf
   refine A7 (fun h7=>?_) (fun h7=>?_) <;> (repeat rw [Ab] at h7) <;> conv=>whnf
   ·have h7:i<1:=h7;obtain rfl:i=0:=by omega
    repeat' (refine z_ ?_;conv=>whnf)
    apply zW (0) tys_ok mixed (.o [0,1,2,3,4,5,6,7,8,9,10,11,12,13,14,15,16] .fin) (by kernel_rfl);conv=>whnf
    try (refine tI ?_;conv=>whnf)
    (refine zZ (O2 _) ?_)
    conv=>whnf
    try (refine tS ?_;conv=>whnf)
    all_goals
     exact⟨1,by omega,by omega,zS (s:= [0,1,2,3,4,5,6]) tA⟩
   ·conv=>whnf
    have hcm:GD g a l F lba b=⟨S,P,4,L⟩:=by rw [hL,hS,hP];try rfl
    have hv2:=hv.add hg hK (d':=d3) ⟨_,hd3⟩ (x:=⟨S,P,4,L⟩) hS hP (by show (2:Int)<=4;omega) (by show (4:Int)<=g.sl - C6 l;omega) (by show (4:Int)=(L.length:Int)+1;omega) hLok hL1;exact⟨ze 0,ze 0,rwQ g a l ⟨S,P,4,L⟩ d3,fun _ _ h=>h,zS (s:= [0,1,2,3,4,5,6]) tA, .inl ⟨rfl,by omega,by rw [<-hZ,hT];try rfl,d3,W,hd3,hWb,by rw [hcm];exact hv2,by rw [hcm];exact ZD g a l _ d3⟩⟩
 by_cases he:(k:Int)=Z;rotate_left 1
 ·cases p with
  | false=>
   conv=>whnf
   rw [decide_eq_true hkz];conv=>whnf
   refine zU Nat (fun i=>([(0, .bp 0 0),(1,iA [lba]),(2,ER [b]),(7,ze 4),(8,ze P),(9,ze S),(10, .v (.slice none 0 0)),(11,ze (k:Nat)),(12, .v (.slice none 0 0)),(13, .v (.slice none 0 0)),(14,ze (i:Nat))],FB g (AJ a l) 0 d1)) (fun i=>i<=1) (fun i=>1 - i) 0 (by omega)
    (zS (s:= [0,1,2,3,4,5]) tA) ?_
   intro i hi;conv=>whnf
   refine A7 (fun h6=>?_) (fun h6=>?_) <;> (repeat rw [Ab] at h6) <;> conv=>whnf
   ·have h6:i<1:=h6;obtain rfl:i=0:=by omega
    repeat' (refine z_ ?_;conv=>whnf)
    refine zC tys_ok mixed [0,1,2,3,4,5,6,7,8,9,10,11] (by kernel_rfl) ?_;refine⟨in01,?_⟩;refine⟨by omega,?_⟩;conv=>whnf
    rw [hdiv,show (Z == (k:Int))=false from beq_eq_false_iff_ne.2 fun q=>he q.symm];exact⟨1,by omega,by omega,zS (s:= [0,1,2,3,4,5]) tA⟩
   ·have h6:1<=i:=h6;conv=>whnf
    exact⟨(k+1,d1,false),⟨by show ((k+1:Nat):Int)<=g.z;omega,hd1,hz1,⟨fun q=>by have:=hpz.1 q;show Z<((k+1:Nat):Int);omega,fun q=>hpz.2 (by have:Z<((k+1:Nat):Int):=q;omega)⟩⟩,by show g.z.toNat - (k+1)<g.z.toNat - k;omega,zS (s:= [0,1,2,3,4,5]) ⟨⟨rfl,rfl,rfl,rfl,rfl,rfl,rfl,AI (by omega),tv⟩,tA,rfl,rfl,rfl,rfl,rfl⟩⟩
  | true=>
   conv=>whnf
   rw [decide_eq_true hkz];conv=>whnf
   refine zU Nat (fun i=>([(0, .bp 0 0),(1,iA [lba]),(2,ER [b]),(7,ze 4),(8,ze P),(9,ze S),(10,Ec L),(11,ze (k:Nat)),(12, .v (.slice none 0 0)),(13, .v (.slice none 0 0)),(14,ze (i:Nat))],FB g (AJ a l) 0 d1)) (fun i=>i<=1) (fun i=>1 - i) 0 (by omega)
    (zS (s:= [0,1,2,3,4,5]) tA) ?_
   intro i hi;conv=>whnf
   refine A7 (fun h6=>?_) (fun h6=>?_) <;> (repeat rw [Ab] at h6) <;> conv=>whnf
   ·have h6:i<1:=h6;obtain rfl:i=0:=by omega
    repeat' (refine z_ ?_;conv=>whnf)
    refine zC tys_ok mixed [0,1,2,3,4,5,6,7,8,9,10,11] (by kernel_rfl) ?_;refine⟨in01,?_⟩;refine⟨by omega,?_⟩;conv=>whnf
    rw [hdiv,show (Z == (k:Int))=false from beq_eq_false_iff_ne.2 fun q=>he q.symm];exact⟨1,by omega,by omega,zS (s:= [0,1,2,3,4,5]) tA⟩
   ·have h6:1<=i:=h6;conv=>whnf
    exact⟨(k+1,d1,true),⟨by show ((k+1:Nat):Int)<=g.z;omega,hd1,hz1,⟨fun q=>by have:=hpz.1 q;show Z<((k+1:Nat):Int);omega,fun q=>hpz.2 (by have:Z<((k+1:Nat):Int):=q;omega)⟩⟩,by show g.z.toNat - (k+1)<g.z.toNat - k;omega,zS (s:= [0,1,2,3,4,5]) ⟨⟨rfl,rfl,rfl,rfl,rfl,rfl,rfl,AI (by omega),tv⟩,tA,rfl,rfl,rfl,rfl,rfl⟩⟩
 obtain rfl:p=false:=by
  cases p with
  | false=>rfl
  | true=>exact absurd (hpz.1 rfl) (by omega)
 conv=>whnf
 rw [decide_eq_true hkz];conv=>whnf
 refine zU (Nat × Bool) (fun i=>([(0, .bp 0 0),(1,iA [lba]),(2,ER [b]),(7,ze 4),(8,ze P),(9,ze S),(10, .v (.slice none 0 0)),(11,ze (k:Nat)),(12,bi A i.2),(13,b_ b i.2),(14,ze (i.1:Nat))],FB g (AJ a l) 0 d1)) (fun i=>i.1<=1/\(i.2=true↔i.1=1)) (fun i=>1 - i.1) (0,false) ⟨by show 0<=1;omega,by decide⟩
  (zS (s:= [0,1,2,3,4,5]) tA) ?_
 rintro⟨i,q⟩ ⟨hi,hq⟩;simp only at hi hq;by_cases hi1:i=1;rotate_left 1
 ·obtain rfl:i=0:=by omega
  obtain rfl:q=false:=by
   cases q with
   | false=>rfl
   | true=>exact absurd (hq.1 rfl) (by decide)
  conv=>whnf
  repeat' (refine z_ ?_;conv=>whnf)
  refine zC tys_ok mixed [0,1,2,3,4,5,6,7,8,9,10,11] (by kernel_rfl) ?_;refine⟨in01,?_⟩;refine⟨by omega,?_⟩;conv=>whnf
  rw [hdiv,show (Z == (k:Int))=true from beq_iff_eq.2 he.symm];conv=>whnf
  apply zW (131072) tys_ok mixed (.o [0,1,2,3,4,5,6,7,8,9,10,13,14,15,16] (.two 11 (.two 12 (.o [17,18,19,20,21] .fin) 17 (.two 12 (.o [18,19,20,21] .fin) 18 (.o [12,19,20,21] .fin))) 17 (.two 11 (.two 12 (.o [18,19,20,21] .fin) 18 (.o [12,19,20,21] .fin)) 18 (.o [11,12,19,20,21] .fin)))) (by kernel_rfl);conv=>whnf
  try (refine tI ?_;conv=>whnf)
  try (refine tI ?_;conv=>whnf)
  try (refine tI ?_;conv=>whnf)
  refine Ae ?_ ?_;refine Ae ?_ ?_;conv=>whnf
  try (refine tJ ?_;conv=>whnf)
  try (refine tK ?_;conv=>whnf)
  try (refine tJ ?_;conv=>whnf)
  try (refine tK ?_;conv=>whnf)
  rotate_left 1;refine Ae ?_ ?_;conv=>whnf
  try (refine tJ ?_;conv=>whnf)
  try (refine tK ?_;conv=>whnf)
  try (refine tJ ?_;conv=>whnf)
  try (refine tK ?_;conv=>whnf)
  rotate_left 1;conv=>whnf
  try (refine tJ ?_;conv=>whnf)
  try (refine tK ?_;conv=>whnf)
  try (refine tJ ?_;conv=>whnf)
  try (refine tK ?_;conv=>whnf)
  rotate_left 1;refine Ae ?_ ?_;refine Ae ?_ ?_;conv=>whnf
  try (refine tJ ?_;conv=>whnf)
  try (refine tK ?_;conv=>whnf)
  try (refine tJ ?_;conv=>whnf)
  try (refine tK ?_;conv=>whnf)
  rotate_left 1;conv=>whnf
  try (refine tJ ?_;conv=>whnf)
  try (refine tK ?_;conv=>whnf)
  try (refine tJ ?_;conv=>whnf)
  try (refine tK ?_;conv=>whnf)
  rotate_left 1;conv=>whnf
  try (refine tJ ?_;conv=>whnf)
  try (refine tK ?_;conv=>whnf)
  try (refine tJ ?_;conv=>whnf)
  try (refine tK ?_;conv=>whnf)
  rotate_left 1;all_goals
   conv=>whnf
   first
   | exact⟨(1,true),⟨by show 1<=1;omega,by decide⟩,by show 1 - 1<1 - 0;omega,zG (zQ (zP 12 7 rfl rfl) (zQ (zL 12 rfl (DP (L:= [A]) rfl (by rw [hA];rfl))) (zQ (zP 13 9 rfl rfl) (zL 13 rfl (DL (L:= [b]) rfl rfl))))) (s:= [0,1,2,3,4,5]) tA⟩
   | exact⟨(1,true),⟨by show 1<=1;omega,by decide⟩,by show 1 - 1<1 - 0;omega,zG (zQ (zP 12 8 rfl rfl) (zQ (zL 12 rfl (DP (L:= [A]) rfl (by rw [hA];rfl))) (zQ (zP 13 9 rfl rfl) (zL 13 rfl (DL (L:= [b]) rfl rfl))))) (s:= [0,1,2,3,4,5]) tA⟩
   | exact⟨(1,true),⟨by show 1<=1;omega,by decide⟩,by show 1 - 1<1 - 0;omega,zG (zQ (zP 12 9 rfl rfl) (zQ (zL 12 rfl (DP (L:= [A]) rfl (by rw [hA];rfl))) (zQ (zP 13 7 rfl rfl) (zL 13 rfl (DL (L:= [b]) rfl rfl))))) (s:= [0,1,2,3,4,5]) tA⟩
   | exact⟨(1,true),⟨by show 1<=1;omega,by decide⟩,by show 1 - 1<1 - 0;omega,zG (zQ (zP 12 9 rfl rfl) (zQ (zL 12 rfl (DP (L:= [A]) rfl (by rw [hA];rfl))) (zQ (zP 13 8 rfl rfl) (zL 13 rfl (DL (L:= [b]) rfl rfl))))) (s:= [0,1,2,3,4,5]) tA⟩
   | exact⟨(1,true),⟨by show 1<=1;omega,by decide⟩,by show 1 - 1<1 - 0;omega,zG (zQ (zP 12 7 rfl rfl) (zQ (zL 12 rfl (DP (L:= [A]) rfl (by rw [hA];rfl))) (zQ (zP 13 8 rfl rfl) (zL 13 rfl (DL (L:= [b]) rfl rfl))))) (s:= [0,1,2,3,4,5]) tA⟩
   | exact⟨(1,true),⟨by show 1<=1;omega,by decide⟩,by show 1 - 1<1 - 0;omega,zG (zQ (zP 12 8 rfl rfl) (zQ (zL 12 rfl (DP (L:= [A]) rfl (by rw [hA];rfl))) (zQ (zP 13 7 rfl rfl) (zL 13 rfl (DL (L:= [b]) rfl rfl))))) (s:= [0,1,2,3,4,5]) tA⟩
   | fail
 subst hi1;obtain rfl:q=true:=hq.2 rfl;have hgat:=Rl g (AJ a l) d1 F (k:Nat) hg hlb ha hd1 hF ⟨by omega,hkz⟩;conv=>whnf
 repeat' (refine z_ ?_;conv=>whnf)
 rw [he] at hgat |-
 cases hT:EW g (AJ a l) F Z with
 | none=>
  rw [hT] at hgat;refine ze9 [0,1,2,3,4,5] hgat ?_;rintro _ _ ⟨rfl,d2,hd2,rfl⟩;exact⟨ze 14,ze 14,FB g (AJ a l) 0 d2,fun _ _ h=>h,zS (s:= [0,1,2,3,4,5]) tA, .inr ⟨14,by decide,rfl, .inr (by rw [<-hZ,hT]),d2,rfl⟩⟩
 | some t=>
  rw [hT] at hgat;refine ze9 [0,1,2,3,4,5] hgat ?_;rintro _ _ ⟨rfl,d2,hd2,rfl⟩;have htok:=J9 hT;have hL2:L=Ch Z (By g t (D1 g (AJ a l) F t Z) [A] [b] S) (DM g t (D1 g (AJ a l) F t Z) [A] [b] g.d.toNat) [A] [b]:=by
   rw [hL,GM,<-hZ,<-hA,hT]
  have h01:∀ x∈ [b],x.length=8:=fun x hx=>by rw [Ay] at hx;rw [hx];exact hb
  have hwr:=P7 g t (D1 g (AJ a l) F t Z) [A] [b] S hg htok (by simp [D1,Kz];omega) (hadlen t) rfl h01 (by show 1<=1000;omega);have him:=Rk g Z (By g t (D1 g (AJ a l) F t Z) [A] [b] S) (DM g t (D1 g (AJ a l) F t Z) [A] [b] g.d.toNat) A b hg (Fk hg htok (by omega)) (E_ (hadlen t) h01 (show [A].length<= [b].length from Ah 1) _) hb;conv=>whnf
  apply zW (0) tys_ok mixed (.o [0,1,2,3,4,5,6,7,8,9,10,11,12,13,14] .fin) (by kernel_rfl);conv=>whnf
  refine zZ hwr ?_;conv=>whnf
  try (refine tS ?_;conv=>whnf)
  all_goals
   conv=>whnf
   refine zZ him ?_;conv=>whnf
   refine Ae (by rw [EA];show 1+2<=1000000000;omega) ?_;conv=>whnf
   exact⟨(k+1,d2,true),⟨by show ((k+1:Nat):Int)<=g.z;omega,hd2,fun _=>rfl,⟨fun _=>by show Z<((k+1:Nat):Int);omega,fun _=>rfl⟩⟩,by show g.z.toNat - (k+1)<g.z.toNat - k;omega,zG (zQ (zP 10 7 (congrArg (AV.ow 7) (by rw [Ac,BQ])) rfl) (zL 10 rfl (S5 hL2 (by rw [Ac,BQ])))) (s:= [0,1,2,3,4,5]) ⟨⟨rfl,rfl,rfl,rfl,rfl,rfl,rfl,by rw [<-he];exact AI (by omega),tv⟩,tA,rfl,rfl,rfl,rfl,rfl⟩⟩
def az (b:Bool):List AV:= [.v (.bool b)]
def bh (l:List Bool):AV:= .sl 1 l.length fun i=>az (l.getD i false)
theorem ay {L:List Bool} {n:Nat} {es:List (List AV)} (hn:n=L.length) (he:es=L.map az) (c:Ctx) (v:Value) (h:Rd (.sl 1 n fun i=>es.getD i []) c v):Rd (bh L) c v:=Bc (f:=az) L hn he c v h
theorem C0 {l:List Nat} {m:Nat} (h:(l.all fun z=>Nat.ble (z+1) m)=true):∀ z∈l,z<m:=fun z hz=>Ag (Av.1 h z hz)
section
variable {g:Geo} {t:List Ent} {had:List (List UInt8)} {A:Int} {b:List UInt8} {stamp:Int}
end

end
section
open Go.RowKit Go.Shelf
attribute [local go_sem] Oper.semAt_some

theorem X8 (F:Fence) (n:Nat) (h7:F.fn 255) (hro:F.round=none) (hn:1<=n) (l Bs n₀ b off len cap:Nat) (X0 X1 X2 X3:Nat->Value) (hlen:len<=1000000000) (hb:b<n₀) (hBn:Bs<n₀) (J Jx:List Nat->World->Prop)
  (hY:∀ pre x W,J pre W->pre.length<len->x<len->YieldAt F (n - 1) Tryz.prog l #[.int .i64 (x:Nat), .agg #[X0 x,X1 x,X2 x,X3 x]] W fun e W'=>
   (e = .returned (.bool true)/\J (pre ++ [x]) W'/\Below n₀ W W')\/(e = .returned (.bool false)/\Jx (pre ++ [x]) W'))
  (W:World) (hBs:W.cell? ⟨Bs,0,none⟩=some (.slice (some ⟨b,off,none⟩) len cap)) (hc0:∀ j,j<len->W.cell? ⟨b,off+j*4,none⟩=some (X0 j)) (hc1:∀ j,j<len->W.cell? ⟨b,off+j*4+1,none⟩=some (X1 j)) (hc2:∀ j,j<len->W.cell? ⟨b,off+j*4+2,none⟩=some (X2 j)) (hc3:∀ j,j<len->W.cell? ⟨b,off+j*4+3,none⟩=some (X3 j)) (h0:J [] W) :
  CallsIn F n Tryz.prog 255 #[.func (.yield l) #[] #[], .pointer (some ⟨Bs,0,none⟩)] W fun e W'=>(∃ v,e = .returned v)/\
   ((∃ ys,ys=Dy len len/\J ys W')\/(∃ pre,(∃ k,k<=len/\pre=Dy len k)/\Jx pre W')):=by
 have Hc0:=Lib.hid hc0;have Hc1:=Lib.hid hc1;have Hc2:=Lib.hid hc2;have Hc3:=Lib.hid hc3;clear hc0 hc1 hc2 hc3;refine callsIn_of_wp Tryz.func255 rfl h7 ?_ hro;simp only [Tryz.ntmps255,Cb,Am,Bf,Nat.reduceAdd,Nat.reduceSub,Di,Dh,DU,Dv,B9,Bv]
 gi_wp2
 gi_loopw [3] (fun i wr=>∃ k:Nat,k<=len/\i = .int .i64 ((len:Int) - 1 - k)/\J (Dy len k) wr/\Below n₀ W wr)
  (fun i _=>(intOf i+1).toNat)
 case atStart=>exact⟨0,Aj _,by simp,h0,Below.refl _ _⟩
 case round=>
  obtain⟨k,hk,rfl,hJs,hnx⟩:=hrel;by_cases hlt:k<len
  ·obtain⟨m,hmk⟩:∃ m,len=k+1+m:=⟨len - (k+1),by omega⟩;rw [show (len:Int) - 1 - k=(m:Int) by omega];obtain⟨fn,tmps,assign,body,hy,hR⟩:=hY _ m wr hJs (by rw [HJ];exact hlt) (by omega);have e0:=(hnx.cell (p:=⟨b,off+m*4,none⟩) hb).trans (Hc0.out m (by omega));have e1:=(hnx.cell (p:=⟨b,off+m*4+1,none⟩) hb).trans (Hc1.out m (by omega));have e2:=(hnx.cell (p:=⟨b,off+m*4+2,none⟩) hb).trans (Hc2.out m (by omega));have e3:=(hnx.cell (p:=⟨b,off+m*4+3,none⟩) hb).trans (Hc3.out m (by omega));have eb:=(hnx.cell (p:=⟨Bs,0,none⟩) hBn).trans hBs;have hm:(m:Int)<(len:Int):=by omega
   have Hm:=Lib.hid hmk;clear hmk
   gi_wp2
   refine hR.mono ?_;rintro e W3 (⟨rfl,hJ3,hk3⟩ | ⟨rfl,hJx3⟩)
   ·gi_wp2
    go_roundw
    case rel=>exact⟨k+1,by omega,congrArg (Value.int .i64) (by have:=Hm.out;omega),by rw [FM,show len - 1 - k=m by have:=Hm.out;omega];exact hJ3,hnx.trans hk3⟩
    case measure=>simp [intOf]
   ·gi_wp2
    refine bodyPost_ret (results_none rfl _ _ _) rfl ?_;exact⟨⟨_,rfl⟩, .inr ⟨_,⟨k+1,by omega,by rw [FM,show len - 1 - k=m by have:=Hm.out;omega]⟩,hJx3⟩⟩
  ·obtain rfl:k=len:=by omega
   rw [show ((k:Nat):Int) - 1 - k = -1 by omega]
   gi_wp2
   go_end0
   exact⟨⟨_,rfl⟩, .inl ⟨_,rfl,hJs⟩⟩

theorem X9 (F:Fence) (n:Nat) (h7:F.fn 255) (hro:F.round=none) (l Bs:Nat) (a:Option Addr) (cap:Nat) (J:List Nat->World->Prop) (W:World) (hBs:W.cell? ⟨Bs,0,none⟩=some (.slice a 0 cap)) (h0:J [] W) :
  CallsIn F n Tryz.prog 255 #[.func (.yield l) #[] #[], .pointer (some ⟨Bs,0,none⟩)] W fun e W'=>(∃ v,e = .returned v)/\J [] W':=by
 refine callsIn_of_wp Tryz.func255 rfl h7 ?_ hro;simp only [Tryz.ntmps255,Cb,Am,Bf,Nat.reduceAdd,Nat.reduceSub,Di,Dh,DU,Dv,B9,Bv]
 gi_wp2
 gi_loopw [3] (fun i wr=>i = .int .i64 (-1)/\J [] wr) (fun _ _=>0)
 case atStart=>exact⟨rfl,h0⟩
 case round=>
  obtain⟨rfl,hJs⟩:=hrel
  gi_wp2
  go_end0
  exact⟨⟨_,rfl⟩,hJs⟩

theorem Sc (F:Fence) (n:Nat) (h7:F.fn 255) (hro:F.round=none) (hn:1<=n) (Bs n₀:Nat) (a:Option Addr) (len cap:Nat) (X0 X1 X2 X3:Nat->Value) (hlen:len<=1000000000) (w:World) (hBs:Bs<n₀) (hn₀:n₀<=w.heap.size)
  (hc:w.cell? ⟨Bs,0,none⟩=some (.slice a len cap)) (hI:0<len->∃ b off,a=some ⟨b,off,none⟩/\b<n₀/\∀ j,j<len->w.cell? ⟨b,off+j*4,none⟩=some (X0 j)/\w.cell? ⟨b,off+j*4+1,none⟩=some (X1 j)/\w.cell? ⟨b,off+j*4+2,none⟩=some (X2 j)/\w.cell? ⟨b,off+j*4+3,none⟩=some (X3 j)) :
  SeqStopsK F n Tryz.prog 255 #[.pointer (some ⟨Bs,0,none⟩)] (fun x:Fin len=> #[Value.int .i64 x.val, .agg #[X0 x,X1 x,X2 x,X3 x]]) (Below n₀) (fun ys=>ys.map Fin.val=Dy len len) (fun pre=>∃ k,k<=len/\pre.map Fin.val=Dy len k) len w:=fun l J Jx W hW _ _ hY h0=>by
 have hc':=(hW.cell (p:=⟨Bs,0,none⟩) (by show Bs<_;omega)).trans hc;rcases Nat.eq_zero_or_pos len with rfl | hp
 ·exact(X9 F n h7 hro l Bs a cap (fun _ W=>J [] W) W hc' h0).mono fun e W' ⟨he,hj⟩=>⟨he, .inl ⟨[],rfl,hj⟩⟩
 ·obtain⟨b,off,rfl,hb,hj⟩:=hI hp;refine(X8 F n h7 hro hn l Bs n₀ b off len cap X0 X1 X2 X3 hlen hb hBs (fun pre W=>∃ q:List (Fin len),q.map Fin.val=pre/\J q W) (fun pre W=>∃ q:List (Fin len),q.map Fin.val=pre/\Jx q W) ?_ W hc' (fun j h=>(hW.cell (p:=⟨b,off+j*4,none⟩) (by show b<_;omega)).trans (hj j h).1) (fun j h=>(hW.cell (p:=⟨b,off+j*4+1,none⟩) (by show b<_;omega)).trans (hj j h).2.1) (fun j h=>(hW.cell (p:=⟨b,off+j*4+2,none⟩) (by show b<_;omega)).trans (hj j h).2.2.1) (fun j h=>(hW.cell (p:=⟨b,off+j*4+3,none⟩) (by show b<_;omega)).trans (hj j h).2.2.2) ⟨[],rfl,h0⟩).mono ?_
  ·rintro pre x W1 ⟨q,hq,hJ⟩ hlt hx;obtain⟨fn,tmps,assign,body,hy,hR⟩:=hY q ⟨x,hx⟩ W1 hJ (by rw [<-hq,Ac] at hlt;exact hlt);refine⟨fn,tmps,assign,body,hy,hR.mono ?_⟩;rintro e W' (⟨he,h1,h2⟩ | ⟨he,h1⟩)
   ·exact .inl ⟨he,⟨_,by simp [hq],h1⟩,h2⟩
   ·exact .inr ⟨he,⟨_,by simp [hq],h1⟩⟩
  ·rintro e W' ⟨he,⟨ys,rfl,q,hq,hJ⟩ | ⟨pre,⟨k,hk,rfl⟩,q,hq,hJ⟩⟩
   ·exact⟨he, .inl ⟨q,hq,hJ⟩⟩
   ·exact⟨he, .inr ⟨q,⟨k,hk,hq⟩,hJ⟩⟩

theorem bktx_is:IsBack Tryz.prog 255 4:=by
 refine⟨enters_of Tryz.func255 (by kernel_rfl) rfl,fun m hm B a len cap X w hlen hc hl hI=>?_⟩;have e:(fun x:Fin len=>(#[Value.int .i64 x.val, .agg (X x.val).toArray]:Array Value))=fun x:Fin len=> #[Value.int .i64 x.val, .agg #[(X x.val).getD 0 undef,(X x.val).getD 1 undef,(X x.val).getD 2 undef,(X x.val).getD 3 undef]]:=by
  funext x;have:=hl x.val;match h:X x.val with
  | [u0,u1,u2,u3]=>rfl
  | []=>rw [h] at this;simp at this
  | [_]=>rw [h] at this;simp at this
  | [_,_]=>rw [h] at this;simp at this
  | [_,_,_]=>rw [h] at this;simp at this
  | _::_::_::_::_::_=>rw [h] at this;simp at this
 rw [e];refine Sc Fence.wide m trivial rfl hm B w.heap.size a len cap (fun j=>(X j).getD 0 undef) (fun j=>(X j).getD 1 undef) (fun j=>(X j).getD 2 undef) (fun j=>(X j).getD 3 undef) hlen w (World.block_lt_of_cell? w _ hc) (Ah _) hc fun hp=>?_
 obtain⟨b,off,h1,h2,h3⟩:=hI hp;refine⟨b,off,h1,h2,fun j hj=>?_⟩;have h4:=hl j;match h:X j with
 | [u0,u1,u2,u3]=>exact⟨h3 j hj 0 u0 (by rw [h];rfl),h3 j hj 1 u1 (by rw [h];rfl),h3 j hj 2 u2 (by rw [h];rfl),h3 j hj 3 u3 (by rw [h];rfl)⟩
 | []=>rw [h] at h4;simp at h4
 | [_]=>rw [h] at h4;simp at h4
 | [_,_]=>rw [h] at h4;simp at h4
 | [_,_,_]=>rw [h] at h4;simp at h4
 | _::_::_::_::_::_=>rw [h] at h4;simp at h4

theorem XA (F:Fence) (n:Nat) (h7:F.fn 256) (hro:F.round=none) (hn:1<=n) (l Bs n₀ b off len cap:Nat) (X0 X1 X2:Nat->Value) (hlen:len<=1000000000) (hb:b<n₀) (hBn:Bs<n₀) (J Jx:List Nat->World->Prop)
  (hY:∀ pre x W,J pre W->pre.length<len->x<len->YieldAt F (n - 1) Tryz.prog l #[.int .i64 (x:Nat), .agg #[X0 x,X1 x,X2 x]] W fun e W'=>
   (e = .returned (.bool true)/\J (pre ++ [x]) W'/\Below n₀ W W')\/(e = .returned (.bool false)/\Jx (pre ++ [x]) W'))
  (W:World) (hBs:W.cell? ⟨Bs,0,none⟩=some (.slice (some ⟨b,off,none⟩) len cap)) (hc0:∀ j,j<len->W.cell? ⟨b,off+j*3,none⟩=some (X0 j)) (hc1:∀ j,j<len->W.cell? ⟨b,off+j*3+1,none⟩=some (X1 j)) (hc2:∀ j,j<len->W.cell? ⟨b,off+j*3+2,none⟩=some (X2 j)) (h0:J [] W) :
  CallsIn F n Tryz.prog 256 #[.func (.yield l) #[] #[], .pointer (some ⟨Bs,0,none⟩)] W fun e W'=>(∃ v,e = .returned v)/\
   ((∃ ys,ys=Dy len len/\J ys W')\/(∃ pre,(∃ k,k<=len/\pre=Dy len k)/\Jx pre W')):=by
 have Hc0:=Lib.hid hc0;have Hc1:=Lib.hid hc1;have Hc2:=Lib.hid hc2;clear hc0 hc1 hc2;refine callsIn_of_wp Tryz.func256 rfl h7 ?_ hro;simp only [Tryz.ntmps256,Cb,Am,Bf,Nat.reduceAdd,Nat.reduceSub,Di,Dh,DU,Dv,B9,Bv]
 gi_wp2
 gi_loopw [3] (fun i wr=>∃ k:Nat,k<=len/\i = .int .i64 ((len:Int) - 1 - k)/\J (Dy len k) wr/\Below n₀ W wr)
  (fun i _=>(intOf i+1).toNat)
 case atStart=>exact⟨0,Aj _,by simp,h0,Below.refl _ _⟩
 case round=>
  obtain⟨k,hk,rfl,hJs,hnx⟩:=hrel;by_cases hlt:k<len
  ·obtain⟨m,hmk⟩:∃ m,len=k+1+m:=⟨len - (k+1),by omega⟩;rw [show (len:Int) - 1 - k=(m:Int) by omega];obtain⟨fn,tmps,assign,body,hy,hR⟩:=hY _ m wr hJs (by rw [HJ];exact hlt) (by omega);have e0:=(hnx.cell (p:=⟨b,off+m*3,none⟩) hb).trans (Hc0.out m (by omega));have e1:=(hnx.cell (p:=⟨b,off+m*3+1,none⟩) hb).trans (Hc1.out m (by omega));have e2:=(hnx.cell (p:=⟨b,off+m*3+2,none⟩) hb).trans (Hc2.out m (by omega));have eb:=(hnx.cell (p:=⟨Bs,0,none⟩) hBn).trans hBs;have hm:(m:Int)<(len:Int):=by omega
   have Hm:=Lib.hid hmk;clear hmk
   gi_wp2
   refine hR.mono ?_;rintro e W3 (⟨rfl,hJ3,hk3⟩ | ⟨rfl,hJx3⟩)
   ·gi_wp2
    go_roundw
    case rel=>exact⟨k+1,by omega,congrArg (Value.int .i64) (by have:=Hm.out;omega),by rw [FM,show len - 1 - k=m by have:=Hm.out;omega];exact hJ3,hnx.trans hk3⟩
    case measure=>simp [intOf]
   ·gi_wp2
    refine bodyPost_ret (results_none rfl _ _ _) rfl ?_;exact⟨⟨_,rfl⟩, .inr ⟨_,⟨k+1,by omega,by rw [FM,show len - 1 - k=m by have:=Hm.out;omega]⟩,hJx3⟩⟩
  ·obtain rfl:k=len:=by omega
   rw [show ((k:Nat):Int) - 1 - k = -1 by omega]
   gi_wp2
   go_end0
   exact⟨⟨_,rfl⟩, .inl ⟨_,rfl,hJs⟩⟩

theorem XB (F:Fence) (n:Nat) (h7:F.fn 256) (hro:F.round=none) (l Bs:Nat) (a:Option Addr) (cap:Nat) (J:List Nat->World->Prop) (W:World) (hBs:W.cell? ⟨Bs,0,none⟩=some (.slice a 0 cap)) (h0:J [] W) :
  CallsIn F n Tryz.prog 256 #[.func (.yield l) #[] #[], .pointer (some ⟨Bs,0,none⟩)] W fun e W'=>(∃ v,e = .returned v)/\J [] W':=by
 refine callsIn_of_wp Tryz.func256 rfl h7 ?_ hro;simp only [Tryz.ntmps256,Cb,Am,Bf,Nat.reduceAdd,Nat.reduceSub,Di,Dh,DU,Dv,B9,Bv]
 gi_wp2
 gi_loopw [3] (fun i wr=>i = .int .i64 (-1)/\J [] wr) (fun _ _=>0)
 case atStart=>exact⟨rfl,h0⟩
 case round=>
  obtain⟨rfl,hJs⟩:=hrel
  gi_wp2
  go_end0
  exact⟨⟨_,rfl⟩,hJs⟩

theorem Sd (F:Fence) (n:Nat) (h7:F.fn 256) (hro:F.round=none) (hn:1<=n) (Bs n₀:Nat) (a:Option Addr) (len cap:Nat) (X0 X1 X2:Nat->Value) (hlen:len<=1000000000) (w:World) (hBs:Bs<n₀) (hn₀:n₀<=w.heap.size)
  (hc:w.cell? ⟨Bs,0,none⟩=some (.slice a len cap)) (hI:0<len->∃ b off,a=some ⟨b,off,none⟩/\b<n₀/\∀ j,j<len->w.cell? ⟨b,off+j*3,none⟩=some (X0 j)/\w.cell? ⟨b,off+j*3+1,none⟩=some (X1 j)/\w.cell? ⟨b,off+j*3+2,none⟩=some (X2 j)) :
  SeqStopsK F n Tryz.prog 256 #[.pointer (some ⟨Bs,0,none⟩)] (fun x:Fin len=> #[Value.int .i64 x.val, .agg #[X0 x,X1 x,X2 x]]) (Below n₀) (fun ys=>ys.map Fin.val=Dy len len) (fun pre=>∃ k,k<=len/\pre.map Fin.val=Dy len k) len w:=fun l J Jx W hW _ _ hY h0=>by
 have hc':=(hW.cell (p:=⟨Bs,0,none⟩) (by show Bs<_;omega)).trans hc;rcases Nat.eq_zero_or_pos len with rfl | hp
 ·exact(XB F n h7 hro l Bs a cap (fun _ W=>J [] W) W hc' h0).mono fun e W' ⟨he,hj⟩=>⟨he, .inl ⟨[],rfl,hj⟩⟩
 ·obtain⟨b,off,rfl,hb,hj⟩:=hI hp;refine(XA F n h7 hro hn l Bs n₀ b off len cap X0 X1 X2 hlen hb hBs (fun pre W=>∃ q:List (Fin len),q.map Fin.val=pre/\J q W) (fun pre W=>∃ q:List (Fin len),q.map Fin.val=pre/\Jx q W) ?_ W hc' (fun j h=>(hW.cell (p:=⟨b,off+j*3,none⟩) (by show b<_;omega)).trans (hj j h).1) (fun j h=>(hW.cell (p:=⟨b,off+j*3+1,none⟩) (by show b<_;omega)).trans (hj j h).2.1) (fun j h=>(hW.cell (p:=⟨b,off+j*3+2,none⟩) (by show b<_;omega)).trans (hj j h).2.2) ⟨[],rfl,h0⟩).mono ?_
  ·rintro pre x W1 ⟨q,hq,hJ⟩ hlt hx;obtain⟨fn,tmps,assign,body,hy,hR⟩:=hY q ⟨x,hx⟩ W1 hJ (by rw [<-hq,Ac] at hlt;exact hlt);refine⟨fn,tmps,assign,body,hy,hR.mono ?_⟩;rintro e W' (⟨he,h1,h2⟩ | ⟨he,h1⟩)
   ·exact .inl ⟨he,⟨_,by simp [hq],h1⟩,h2⟩
   ·exact .inr ⟨he,⟨_,by simp [hq],h1⟩⟩
  ·rintro e W' ⟨he,⟨ys,rfl,q,hq,hJ⟩ | ⟨pre,⟨k,hk,rfl⟩,q,hq,hJ⟩⟩
   ·exact⟨he, .inl ⟨q,hq,hJ⟩⟩
   ·exact⟨he, .inr ⟨q,⟨k,hk,hq⟩,hJ⟩⟩

theorem bkim_is:IsBack Tryz.prog 256 3:=by
 refine⟨enters_of Tryz.func256 (by kernel_rfl) rfl,fun m hm B a len cap X w hlen hc hl hI=>?_⟩;have e:(fun x:Fin len=>(#[Value.int .i64 x.val, .agg (X x.val).toArray]:Array Value))=fun x:Fin len=> #[Value.int .i64 x.val, .agg #[(X x.val).getD 0 undef,(X x.val).getD 1 undef,(X x.val).getD 2 undef]]:=by
  funext x;have:=hl x.val;match h:X x.val with
  | [u0,u1,u2]=>rfl
  | []=>rw [h] at this;simp at this
  | [_]=>rw [h] at this;simp at this
  | [_,_]=>rw [h] at this;simp at this
  | _::_::_::_::_=>rw [h] at this;simp at this
 rw [e];refine Sd Fence.wide m trivial rfl hm B w.heap.size a len cap (fun j=>(X j).getD 0 undef) (fun j=>(X j).getD 1 undef) (fun j=>(X j).getD 2 undef) hlen w (World.block_lt_of_cell? w _ hc) (Ah _) hc fun hp=>?_
 obtain⟨b,off,h1,h2,h3⟩:=hI hp;refine⟨b,off,h1,h2,fun j hj=>?_⟩;have h4:=hl j;match h:X j with
 | [u0,u1,u2]=>exact⟨h3 j hj 0 u0 (by rw [h];rfl),h3 j hj 1 u1 (by rw [h];rfl),h3 j hj 2 u2 (by rw [h];rfl)⟩
 | []=>rw [h] at h4;simp at h4
 | [_]=>rw [h] at h4;simp at h4
 | [_,_]=>rw [h] at h4;simp at h4
 | _::_::_::_::_=>rw [h] at h4;simp at h4

end
section
open Go.RowKit
def Gb (l:List Img) (z w:Int):Nat->Option Nat
 | 0=>none
 | k+1=>if (l.getD k iz).zone=z/\(l.getD k iz).what=w then some k else Gb l z w k
def HW (l:List Tx) (z w:Int):Nat->Option (Nat × Nat)
 | 0=>none
 | k+1=>match Gb (l.getD k tz).images z w (l.getD k tz).images.length with
  | some i=>some (k,i)
  | none=>HW l z w k
theorem SW (l:List Img) (z w:Int):∀ k,Cv l z w k=(Gb l z w k).map fun i=>l.getD i iz
 | 0=>rfl
 | k+1=>by
  rw [Cv,Gb,SW l z w k];split <;> rfl
theorem Pc (l:List Tx) (z w:Int):∀ k,EO l z w k=(HW l z w k).map fun p=>((l.getD p.1 tz).images.getD p.2 iz,(l.getD p.1 tz).seq)
 | 0=>rfl
 | k+1=>by
  rw [EO,HW,SW];cases Gb (l.getD k tz).images z w (l.getD k tz).images.length with
  | some i=>rfl
  | none=>exact Pc l z w k
theorem MG {l:List Img} {z w:Int}:∀ {k:Nat},Gb l z w k=none->∀ j,j<k->¬((l.getD j iz).zone=z/\(l.getD j iz).what=w)
 | k+1,h,j,hj=>by
  rw [Gb] at h;split at h
  ·cases h
  ·rename_i hc;rcases Nat.lt_succ_iff_lt_or_eq.1 hj with q | rfl
   ·exact MG h j q
   ·exact hc
theorem NX {l:List Img} {z w:Int} {j:Nat} (h:(l.getD j iz).zone=z/\(l.getD j iz).what=w):∀ (k:Nat),j<k->(∀ i,j<i->i<k->¬((l.getD i iz).zone=z/\(l.getD i iz).what=w))->Gb l z w k=some j
 | k+1,hj,hn=>by
  rw [Gb];by_cases e:j=k
  ·subst e;rw [if_pos h]
  ·rw [if_neg (hn k (by omega) (by omega))];exact NX h k (by omega) fun i q1 q2=>hn i q1 (by omega)
theorem MH {l:List Img} {z w:Int} {j:Nat}:∀ {k:Nat},Gb l z w k=some j->j<k/\(l.getD j iz).zone=z/\(l.getD j iz).what=w
 | k+1,h=>by
  rw [Gb] at h;split at h
  ·rename_i hc;obtain rfl:=Option.some.inj h;exact⟨by omega,hc⟩
  ·have:=MH h;exact⟨by omega,this.2⟩
theorem NY {l:List Tx} {z w:Int} {j i:Nat} (h:Gb (l.getD j tz).images z w (l.getD j tz).images.length=some i):∀ (k:Nat),j<k->(∀ q,j<q->q<k->Gb (l.getD q tz).images z w (l.getD q tz).images.length=none)->HW l z w k=some (j,i)
 | k+1,hj,hn=>by
  rw [HW];by_cases e:j=k
  ·subst e;rw [h]
  ·rw [hn k (by omega) (by omega)];exact NY h k (by omega) fun q q1 q2=>hn q q1 (by omega)
theorem MI {l:List Tx} {z w:Int}:∀ (k:Nat),(∀ q,q<k->Gb (l.getD q tz).images z w (l.getD q tz).images.length=none)->HW l z w k=none
 | 0,_=>rfl
 | k+1,hn=>by
  rw [HW,hn k (by omega)];exact MI k fun q hq=>hn q (by omega)
theorem MJ {l:List Tx} {z w:Int} {p:Nat × Nat}:∀ {k:Nat},HW l z w k=some p->p.1<k/\p.2<(l.getD p.1 tz).images.length
 | k+1,h=>by
  rw [HW] at h;split at h
  ·rename_i i hi;obtain rfl:=Option.some.inj h;exact⟨Nat.lt_succ_self k,(MH hi).1⟩
  ·have:=MJ h;exact⟨by omega,this.2⟩
theorem X7 (a:Option Addr) (len cap:Nat) (w:World) :
  Calls Tryz.prog 220 #[.slice a len cap] w fun e w'=>e = .returned (.func (.func 255) #[] #[.pointer (some ⟨w.heap.size,0,none⟩)])/\w.alloc (.cells #[.slice a len cap] 34)=w':=by
 go_enter Tryz.func220,Tryz.ntmps220
 go_wp2
 go_ret
 exact tA
theorem QB (a:Option Addr) (len cap:Nat) (w:World) :
  Calls Tryz.prog 221 #[.slice a len cap] w fun e w'=>e = .returned (.func (.func 256) #[] #[.pointer (some ⟨w.heap.size,0,none⟩)])/\w.alloc (.cells #[.slice a len cap] 110)=w':=by
 go_enter Tryz.func221,Tryz.ntmps221
 go_wp2
 go_ret
 exact tA
theorem Pi {P:Program} {f g:FuncId} {t:TypeId} (hg:XT P f) (h:∀ a len cap w,Calls P f #[.slice a len cap] w fun e w'=>e = .returned (.func (.func g) #[] #[.pointer (some ⟨w.heap.size,0,none⟩)])/\w.alloc (.cells #[.slice a len cap] t)=w') (x:AV) (Hin:List AB) (hx:∀ c u,Rd x c u->∃ a len cap,u = .slice a len cap):ACalls P false f [x] Hin fun r H=>r = .fn g [.bp Hin.length 0]/\H=Hin ++ [.box t [x]]:=by
 refine⟨hg,fun w0 M0 c us hs hr=>?_⟩;have hr0:=hr;simp only [RdL] at hr;obtain⟨u,_,rfl,hu,rfl⟩:=hr;obtain⟨a,len,cap,rfl⟩:=hx _ _ hu;obtain⟨c',e1,e2,e3,e4⟩:=hs.box t hr0 (by simp [Value.oneCell']);refine(h a len cap c.w).mono ?_;rintro e w' ⟨rfl,rfl⟩;refine⟨_,c',_,_,rfl,by rw [e1],tA,e2,e3,?_,fun e=>by cases e⟩;simp only [Rd,RdL];exact⟨_,rfl,_,_,rfl,by simpa only [Rd] using e4,rfl⟩
theorem Oz {sz n:Nat} {get:Nat->List AV} (c:Ctx) (u:Value) (hu:Rd (.sl sz n get) c u):∃ a len cap,u = .slice a len cap:=by
 simp only [Rd] at hu;obtain⟨a,p,h, -⟩:=hu;exact⟨_,_,_,h⟩
theorem PX (l:List Tx) (z w:Int) (hl:l.length<=1000000) (hi:∀ t∈l,t.images.length<=1000000):Fn Tryz.prog 169 [DH l,iv z,iv w] fun r=>r=(match HW l z w l.length with | some p=> .tp [iv (p.1:Nat),iv (p.2:Nat), .v (.bool true)] | none=> .tp [iv 0,iv 0, .v (.bool false)]):=by
 refine zR Tryz.func169 rfl ?_;conv=>whnf
 refine(Pi ⟨_,Tryz.func220,rfl,by decide⟩ X7 (DH l) _ Oz).mono ?_;rintro _ _ ⟨rfl,rfl⟩;conv=>whnf
 refine aRF.back tys_ok bktx_is (B:=5) (len:=l.length) (E:=fun i=>CV (l.getD i ⟨0,0,0, []⟩)) rfl rfl tA (by omega) rfl (by decide) rfl [(4, .rp [iv z]),(5, .rp [iv w])] ⟨.inr ⟨0,_,_,rfl,rfl,rfl,rfl⟩, .inr ⟨1,_,_,rfl,rfl,rfl,rfl⟩,tv⟩ (fun i=>(Gb (l.getD i tz).images z w (l.getD i tz).images.length).isSome) ?_ ?_ ?_
 ·intro i hik hh;have hn:Gb (l.getD i tz).images z w (l.getD i tz).images.length=none:=by simpa using hh
  have him:=hi _ (A5 (d:=tz) hik);obtain⟨t,ht⟩:∃ t,t=l.getD i tz:=⟨_,rfl⟩;rw [show l.getD i ⟨0,0,0, []⟩=t from ht.symm];rw [<-ht] at hn him;refine⟨rfl,?_⟩;conv=>whnf
  refine(Pi ⟨_,Tryz.func221,rfl,by decide⟩ QB (Ec t.images) _ Oz).mono ?_;rintro _ _ ⟨rfl,rfl⟩;conv=>whnf
  refine aRF.back tys_ok bkim_is (B:=2) (len:=t.images.length) (E:=fun j=>Eh (t.images.getD j ⟨0,0, []⟩)) rfl rfl tA (by omega) rfl (by decide) rfl [(4, .rp [iv z]),(5, .rp [iv w])] ⟨.inl tA, .inl tA,tv⟩ (fun _=>false) ?_ ?_ ?_
  ·intro j hj _;have hnj:=MG hn j hj;refine⟨rfl,?_⟩;conv=>whnf
   by_cases hz:(t.images.getD j ⟨0,0, []⟩).zone=z
   ·rw [show ((t.images.getD j ⟨0,0, []⟩).zone == z)=true from beq_iff_eq.2 hz];conv=>whnf
    rw [show ((t.images.getD j ⟨0,0, []⟩).what == w)=false from beq_eq_false_iff_ne.2 fun e=>hnj ⟨hz,e⟩];conv=>whnf
   ·rw [show ((t.images.getD j ⟨0,0, []⟩).zone == z)=false from beq_eq_false_iff_ne.2 hz];conv=>whnf
  ·intro j hj h;cases h
  ·intro _;conv=>whnf
 ·intro i hik hh;obtain⟨i0,hi0⟩:=Ci.1 hh;have him:=hi _ (A5 (d:=tz) hik);obtain⟨t,ht⟩:∃ t,t=l.getD i tz:=⟨_,rfl⟩;rw [show l.getD i ⟨0,0,0, []⟩=t from ht.symm];rw [<-ht] at hi0 him;refine⟨rfl,?_⟩;conv=>whnf
  refine(Pi ⟨_,Tryz.func221,rfl,by decide⟩ QB (Ec t.images) _ Oz).mono ?_;rintro _ _ ⟨rfl,rfl⟩;conv=>whnf
  refine aRF.back tys_ok bkim_is (B:=8) (len:=t.images.length) (E:=fun j=>Eh (t.images.getD j ⟨0,0, []⟩)) rfl rfl tA (by omega) rfl (by decide) rfl [(4, .rp [iv z]),(5, .rp [iv w])] ⟨.inr ⟨0,_,_,rfl,rfl,rfl,rfl⟩, .inr ⟨1,_,_,rfl,rfl,rfl,rfl⟩,tv⟩ (fun j=>decide ((t.images.getD j iz).zone=z/\(t.images.getD j iz).what=w)) ?_ ?_ ?_
  ·intro j hj hnj;have hnj:=of_decide_eq_false hnj;refine⟨rfl,?_⟩;conv=>whnf
   by_cases hz:(t.images.getD j ⟨0,0, []⟩).zone=z
   ·rw [show ((t.images.getD j ⟨0,0, []⟩).zone == z)=true from beq_iff_eq.2 hz];conv=>whnf
    rw [show ((t.images.getD j ⟨0,0, []⟩).what == w)=false from beq_eq_false_iff_ne.2 fun e=>hnj ⟨hz,e⟩];conv=>whnf
   ·rw [show ((t.images.getD j ⟨0,0, []⟩).zone == z)=false from beq_eq_false_iff_ne.2 hz];conv=>whnf
  ·intro j hj hy;have hy:=of_decide_eq_true hy;refine⟨rfl,?_⟩;conv=>whnf
   rw [show ((t.images.getD j ⟨0,0, []⟩).zone == z)=true from beq_iff_eq.2 hy.1];conv=>whnf
   rw [show ((t.images.getD j ⟨0,0, []⟩).what == w)=true from beq_iff_eq.2 hy.2];refine⟨by simp,rfl,fun hord=>?_⟩;refine⟨by simp,rfl,fun hord2=>?_⟩;conv=>whnf
   have hJ:Gb (l.getD i tz).images z w (l.getD i tz).images.length=some j:=by
    rw [<-ht];exact NX hy _ hj fun q q1 q2=>of_decide_eq_false (hord q q1 q2)
   rw [NY hJ l.length hik fun q q1 q2=>by simpa using hord2 q q1 q2];exact⟨_,ri,rfl⟩
  ·intro hno;exfalso;have:=MH hi0;exact of_decide_eq_false (hno i0 this.1) this.2
 ·intro hh;have hn:=MI (l:=l) (z:=z) (w:=w) l.length fun q hq=>by simpa using hh q hq
  conv=>whnf
  rw [hn];exact⟨_,ri,rfl⟩
end
end Go.Proofs.YtepdhdfoipephaaGreatDoor.A
