/-
Several texts in one.
-/
import Derived.Test.YtpjkcgacjjbikaaGreatDoorPPC4P3
import Derived.Test.YtpjkcgacjjbikaaGreatDoorPPC4P2
import Derived.Test.YtpjkcgacjjbikaaGreatDoorPPC4P1
set_option maxRecDepth 100000
set_option maxHeartbeats 8000000
set_option linter.unusedSimpArgs false
set_option linter.unusedVariables false
set_option linter.deprecated false
namespace Go.Proofs.YtpjkcgacjjbikaaGreatDoor.A
section
open Go.RowKit
theorem XX {d:Dk} {l:List Wr} (h:l≠ []):(if U2 (d.writes l).2.2=0 then if (d.writes l).1.left=0 then 8 else 0 else U2 (d.writes l).2.2:Int)=U2 (d.mend l).2/\(if U2 (d.writes l).2.2=0 then if (d.writes l).1.left=0 then (d.writes l).1 else (d.writes l).1.flush else (d.writes l).1)=(d.mend l).1:=by
 rw [Dk.mend,if_neg h];cases hd:(d.writes l).2.2 with
 | true=>rw [Es hd];exact tA
 | false=>
  rw [DX hd];by_cases h0:(d.writes l).1.left=0
  ·rw [if_pos h0,if_pos h0,if_pos h0];exact tA
  ·rw [if_neg h0,if_neg h0,if_neg h0];exact tA
def ZN (g:Geo) (d:Dk):Prop:=∀ (d1:Dk) (a:An) (j:Nat),DkOk d1->d1.cells=d.cells->d1.cache=d.cache->H5 g (BA d (DT g))=some (a,j)->(Fn Tryz.prog 128 [.ag (AK g), .ag (Ek a),Ij (BA d1 (BU g 0)),Ij (BA d1 (BU g 1))] fun r=>r = .tp [CS (GE g a (BA d1 (BU g 0)) (BA d1 (BU g 1))).1,Ly (GE g a (BA d1 (BU g 0)) (BA d1 (BU g 1))).2.1, .v (.int .i64 (GE g a (BA d1 (BU g 0)) (BA d1 (BU g 1))).2.2)])/\((GE g a (BA d1 (BU g 0)) (BA d1 (BU g 1))).2.2=0->a.seq+(GE g a (BA d1 (BU g 0)) (BA d1 (BU g 1))).1.length - 1<=4294967295/\(∀ w∈(GE g a (BA d1 (BU g 0)) (BA d1 (BU g 1))).2.1,OW d1.cells.length w)/\(GE g a (BA d1 (BU g 0)) (BA d1 (BU g 1))).2.1.length<=900)
theorem QZ (g:Geo) (s:Stt) (d:Dk) (hg:Bq g=true) (h:DkOk d) (hn:(d.cells.length:Int)=Ar g) (hd:ZN g d) :
  ACalls Tryz.prog false 54 [.bp 0 0] (Jw g s 0 d) fun r H=>(∃ S,r = .ag (Eo S)/\((DK g d).2.1=0->S=(DK g d).2.2))/\H=Nf g s (DK g d).2.1 (DK g d).1:=by
 obtain⟨g1,g2,g3,g4,g5⟩:=Aq.1 hg;have h4:=EE hg;have hl:=h.l;have e0:eK d 0=0:=by unfold eK;rw [if_pos];unfold Dk.live;omega
 refine zT tys_ok Tryz.func54 rfl rfl (Ae rfl) ?_;conv=>whnf
 refine zU Nat (fun k=>([(0, .bp 0 0),(2, .bp 4 0),(3, .ow 5 k),(4,nilV),(5,nilV),(6,ze k)],aG g s (eK d k) (d.adv k) [.box 34 [ze 0,ze 0,ze 0,ze 0,ze 0, .v (.string ⟨#[]⟩),nilV,nilV, .v (.bool false),ze 0,ze 0,ze 0,ze 0,nilV], .row 222 2 ((VC d (DT g) k).map Dt)])) (fun k=>k<=g.an.toNat) (fun k=>g.an.toNat - k) 0 (Aj _)
  ⟨_,_,zC _ _, [(3,222,2)],tA, [0,1,2,3,4,5],⟨tA,⟨by rw [e0];try rfl,rfl,rfl,rfl,rfl,rfl,tv⟩,rfl,rfl,rfl,rfl,rfl⟩⟩ ?_
 intro k hk;conv=>whnf
 refine A5 (fun h6=>?_) (fun h6=>?_) <;> (repeat rw [Aa] at h6) <;> conv=>whnf
 ·have i:k<g.an.toNat:=by omega
  have hr:=Oq g s d k k h (by omega);repeat' (refine zZ ?_;conv=>whnf)
  refine ze9 [0,1,2,3] hr ?_;rintro _ _ ⟨rfl,rfl⟩;refine⟨rfl,?_⟩;refine⟨⟨by rw [Ab,XD],by omega⟩,?_⟩;conv=>whnf
  exact⟨k+1,i,by omega,zS (s:= [0,1,2,3,4,5]) ⟨⟨rfl,rfl,rfl,rfl,rfl,AG (by omega),tv⟩,⟨rfl,rfl,rfl,rfl,rfl,congrArg (fun l=>some (AB.row _ _ l)) (by rw [VB,NX i];try rfl),tv⟩,rfl,rfl,rfl,rfl,rfl⟩⟩
 ·have ek:k=g.an.toNat:=by omega
  subst ek;by_cases J:d.live g.an.toNat
  ·have eA:eK d g.an.toNat=0:=by unfold eK;rw [if_pos J]
   rw [eA];have hu:VC d (DT g) g.an.toNat=BA d (DT g):=by have:=XE (d:=d) (ats:=DT g) (by rw [F6];exact J);rwa [F6] at this
   rw [hu];have hM:DK g d=match H5 g (BA d (DT g)) with | none=>(d.adv g.an.toNat,11,st0) | some (a,_)=>Kj g a (d.adv g.an.toNat):=by unfold DK;rw [if_pos J];try rfl
   have V:=QY g (BA d (DT g)) hg (by rw [Fz,F6];omega) (PX h _);have U:=fun {a j}=>Lm (g:=g) (l:=BA d (DT g)) hg (BA d (DT g)).length (a:=a) (j:=j)
   have U:∀ {a j},H5 g (BA d (DT g))=some (a,j)->Bj g a=true:=U;have hh:(BA d (DT g)).length=g.an.toNat:=by rw [Fz,F6]
   have C:=h.adv g.an.toNat;have G:=(GW g.an.toNat d).1;have F:=fun a j=>hd (d.adv g.an.toNat) a j C G (GW g.an.toNat d).2
   clear hd;generalize BA d (DT g)=L at V U hh hM F |-
   generalize d.adv g.an.toNat=d1 at C G hM F |-
   conv=>whnf
   refine zO V.go ?_;refine⟨(by rw [Ab,hh]),?_⟩;conv=>whnf
   refine zV [.ag (AK g),Ij L] ⟨ri,AU (f:=Dt) L hh.symm rfl,tv⟩ ?_;refine zY V ?_;conv=>whnf
   cases hP:H5 g L with
   | none=>
    rw [hP] at hM;replace hM:DK g d=(d1,11,st0):=hM;rw [hM];exact⟨.ag (Eo st0), .ag (Eo st0),Nf g s 11 d1,Bf st0_sub,zI (zL (z6 1 3 (by decide) rfl rfl)) (s:= [0,1,2,3,7]) tA,⟨st0,rfl,fun _=>rfl⟩,rfl⟩
   | some q=>
    obtain⟨a,j⟩:=q;have hs:=U hP;rw [hP] at hM;replace hM:DK g d=Kj g a d1:=hM;rw [hM];clear hM V;have h3:=C.l;have e10:eK d1 0=0:=by unfold eK;rw [if_pos];unfold Dk.live;omega
    conv=>whnf
    refine zU Nat (fun k=>([(0, .bp 0 0),(2, .bp 4 0),(4, .ow 6 k),(5, .ow 7 k),(7, .bp 5 0),(9,ze k)],aG g s (eK d1 (2*k)) (d1.adv (2*k)) [.box 34 [ze 0,ze 0,ze 0,ze 0,ze 0, .v (.string ⟨#[]⟩),nilV,nilV, .v (.bool false),ze 0,ze 0,ze 0,ze 0,nilV], .box 28 (Ek a), .row 222 2 ((XF d1 g 0 k).map Dt), .row 222 2 ((XF d1 g 1 k).map Dt)])) (fun k=>k<=g.sl.toNat) (fun k=>g.sl.toNat - k) 0 (Aj _)
     ⟨_,_,zC _ _, [(4,222,2),(5,222,2)],tA, [0,1,2,3,4,6,7,8],⟨tA,⟨by show _=some (AB.box _ (Ze _ _ _ (eK d1 0)));rw [e10];try rfl,rfl,rfl,rfl,rfl,rfl,rfl,rfl,tv⟩,rfl,rfl,rfl,rfl,rfl⟩⟩ ?_
    intro k hk;conv=>whnf
    refine A5 (fun h7=>?_) (fun h7=>?_) <;> (repeat rw [Aa] at h7) <;> conv=>whnf
    ·have i:k<g.sl.toNat:=by omega
     have h1:=EM g 0 k hg (by simp only [KN,Af,AE];omega);have h0:=EM g 1 k hg (by simp only [KN,Af,AE];omega);have hx:=Oq g s d1 (2*k) (Bi g 0 k) C (EC hg (by rw [G];exact hn) (.inl rfl) (by omega));have hv:=Oq g s d1 (2*k+1) (Bi g 1 k) C (EC hg (by rw [G];exact hn) (.inr rfl) (by omega));repeat' (refine zZ ?_;conv=>whnf)
     refine zY h1 ?_;conv=>whnf
     refine ze9 [0,1,2,3] hx ?_;rintro _ _ ⟨rfl,rfl⟩;refine⟨rfl,?_⟩;refine⟨⟨by rw [Ab,Sr],by omega⟩,?_⟩;conv=>whnf
     repeat' (refine zZ ?_;conv=>whnf)
     refine zY h0 ?_;conv=>whnf
     refine ze9 [0,1,2,3] hv ?_;rintro _ _ ⟨rfl,rfl⟩;refine⟨rfl,?_⟩;refine⟨⟨by rw [Ab,Sr],by omega⟩,?_⟩;conv=>whnf
     repeat' (refine zZ ?_;conv=>whnf)
     exact⟨k+1,i,by omega,zS (s:= [0,1,2,3,4,5,6,7]) ⟨⟨rfl,rfl,rfl,rfl,rfl,AG (by omega),tv⟩,⟨rfl,rfl,rfl,rfl,rfl,rfl,congrArg (fun l=>some (AB.row _ _ l)) (by rw [Pw];try rfl),congrArg (fun l=>some (AB.row _ _ l)) (by rw [Pw];try rfl),tv⟩,rfl,rfl,rfl,rfl,rfl⟩⟩
    ·have ek:k=g.sl.toNat:=by omega
     subst ek;unfold Kj;by_cases z:d1.live (2*g.sl.toNat)
     ·have eB:eK d1 (2*g.sl.toNat)=0:=by unfold eK;rw [if_pos z]
      rw [eB,if_pos z,Ss (by decide) z,Ss (by decide) z];have ha:(BA d1 (BU g 0)).length=g.sl.toNat:=by rw [Fz,IS]
      have Z:(BA d1 (BU g 1)).length=g.sl.toNat:=by rw [Fz,IS]
      obtain⟨u,K⟩:=F a j hP;clear F;have c0:BA d1 (BU g ((0:Nat):Int))=BA d1 (BU g 0):=rfl;have c1:BA d1 (BU g ((1:Nat):Int))=BA d1 (BU g 1):=rfl;rw [c0,c1];clear c0 c1;generalize GE g a (BA d1 (BU g 0)) (BA d1 (BU g 1))=S at u K |-
      obtain⟨T,W,e⟩:=S;simp only at u K;generalize BA d1 (BU g 0)=X1 at ha u |-
      generalize BA d1 (BU g 1)=X2 at Z u |-
      have N:=C.adv (2*g.sl.toNat);have hc:=(GW (2*g.sl.toNat) d1).1;generalize d1.adv (2*g.sl.toNat)=d2 at N hc |-
      conv=>whnf
      apply zX (0) tys_ok mixed (.o [0,1,2,3,4,5,6,7,8,9,10,11,12,13,14] .fin) (by kernel_rfl);conv=>whnf
      (refine zO u.go ?_;(conv=>whnf);refine Ad (by rw [Ab,ha]) ?_;(conv=>whnf);refine Ad (by rw [Ab,Z]) ?_;(conv=>whnf);refine zV [.ag (AK g), .ag (Ek a),Ij X1,Ij X2] ⟨ri,ri,AU (f:=Dt) X1 ha.symm rfl,AU (f:=Dt) X2 Z.symm rfl,tv⟩ ?_;refine zY u ?_)
      conv=>whnf
      unfold O7;by_cases he:e=0
      ·subst he;rw [if_neg (by simp)];obtain⟨hi,K⟩:=K rfl;simp only;conv=>whnf
       have O:∀ w∈W,OW d2.cells.length w:=by rw [hc];exact K.1
       refine zU Nat (fun k=>([(0, .bp 0 0),(2, .bp 4 0),(7, .bp 5 0),(10,CS T),(11,Ly W),(13,ze k)],aG g s (U2 (d2.writes (W.take k)).2.2) (d2.writes (W.take k)).1 [.box 34 [ze 0,ze 0,ze 0,ze 0,ze 0, .v (.string ⟨#[]⟩),nilV,nilV, .v (.bool false),ze 0,ze 0,ze 0,ze 0,nilV], .box 28 (Ek a)])) (fun k=>k<=W.length) (fun k=>W.length - k) 0 (Aj _)
        (zS (s:= [0,1,2,3,4,5]) tA) ?_
       intro k hk;conv=>whnf
       refine A5 (fun h8=>?_) (fun h8=>?_) <;> (repeat rw [Aa] at h8) <;> conv=>whnf
       ·have i:k<W.length:=by omega
        have hw:=Xr g s d2 W k N O i;repeat' (refine zZ ?_;conv=>whnf)
        apply zX (2 ^ 139) tys_ok mixed (.o [0,1,2,3,4,5,6,7,8,9,10,11] .fin) (by kernel_rfl);conv=>whnf
        try (refine tI ?_;conv=>whnf)
        try (refine tI ?_;conv=>whnf)
        (rw [Aa];refine ze9 [0,1,2,3] hw ?_;rintro _ _ ⟨⟨b,rfl⟩,rfl⟩)
        exact⟨k+1,i,by omega,zS (s:= [0,1,2,3,4,5]) ⟨⟨rfl,rfl,rfl,rfl,rfl,AG (by omega),tv⟩,tA,rfl,rfl,rfl,rfl,rfl⟩⟩
       ·have ek:k=W.length:=by omega
        subst ek;rw [Aw];have ho:=GB N O W.length;rw [Aw] at ho;refine aSeq.cutR Unit (fun _=>([(0, .bp 0 0),(2, .bp 5 0),(7, .bp 6 0),(10,CS T)],Nf g s (U2 (d2.mend W).2) (d2.mend W).1 ++ [AB.box 34 [ze 0,ze 0,ze 0,ze 0,ze 0, .v (.string ⟨#[]⟩),nilV,nilV, .v (.bool false),ze 0,ze 0,ze 0,ze 0,nilV],AB.box 28 (Ek a)])) (fun _=>True) ?_ ?_
        ·by_cases hW:W=[]
         ·subst hW;exact⟨(),tv,zI (zL (z6 1 3 (by decide) rfl rfl)) (s:= [0,1,2,3,6,4,5]) tA⟩
         ·have h5:0<W.length:=DP.2 hW;obtain⟨m1,m2⟩:=XX (d:=d2) hW;have hf:=VH g s (U2 (d2.writes W).2.2) (d2.writes W).1 ho.1;rw [m1,m2] at hf;conv=>whnf
          refine A5 (fun _=>?_) (fun hq=>absurd hq (by omega));conv=>whnf
          refine ze9 [0,1,2,3] hf ?_;rintro _ _ ⟨rfl,rfl⟩;exact⟨(),tv,zS (s:= [0,1,2,3,6,4,5]) tA⟩
        ·rintro _ _;have X:DkOk (d2.mend W).1/\(d2.mend W).1.cells.length=d2.cells.length:=by
          unfold Dk.mend;split
          ·exact⟨N,rfl⟩
          ·exact Kg N O
         generalize d2.mend W=M at X |-
         obtain⟨d3,dead⟩:=M;simp only at X |-
         cases dead with
         | true=>
          rw [if_pos rfl];conv=>whnf
          repeat' (refine zZ ?_;conv=>whnf)
          exact⟨.ag (Eo st0), .ag (Eo st0),Nf g s 8 d3,Bf st0_sub,zS (s:= [0,1,2,3,4]) tA,⟨st0,rfl,fun _=>rfl⟩,rfl⟩
         | false=>
          rw [if_neg (by decide)];have h2:=Hy hs;unfold O6;by_cases I:a.gen=4294967295\/a.epoch=4294967295
          ·rw [if_pos I];conv=>whnf
           repeat' (refine zZ ?_;conv=>whnf)
           refine A5 (fun _=>?_) (fun q1=>?_)
           ·conv=>whnf
            repeat' (refine zZ ?_;conv=>whnf)
            exact⟨.ag (Eo st0), .ag (Eo st0),Nf g s 14 d3,Bf st0_sub,zS (s:= [0,1,2,3,4]) tA,⟨st0,rfl,fun _=>rfl⟩,rfl⟩
           ·conv=>whnf
            refine A5 (fun _=>?_) (fun q2=>absurd I (by omega));conv=>whnf
            repeat' (refine zZ ?_;conv=>whnf)
            exact⟨.ag (Eo st0), .ag (Eo st0),Nf g s 14 d3,Bf st0_sub,zS (s:= [0,1,2,3,4]) tA,⟨st0,rfl,fun _=>rfl⟩,rfl⟩
          ·rw [if_neg I];have hj:=PI (n:=T.length) hs (fun e=>I (.inl e)) (fun e=>I (.inr e)) hi;have ht:=KJ g s d3 (DN a T.length) hg hj X.1 (Je hg hj (by rw [X.2,hc,G];exact hn));have w1:IntKind.i64.wrap (a.gen+1)=a.gen+1:=wi (by omega);have w2:IntKind.i64.wrap (a.epoch+1)=a.epoch+1:=wi (by omega);have w3:IntKind.i64.wrap (IntKind.i64.wrap (a.seq+T.length) - 1)=a.seq+T.length - 1:=by
            rw [wi (n:=a.seq+T.length) (by omega)];exact wi (by omega)
           conv=>whnf
           repeat' (refine zZ ?_;conv=>whnf)
           refine A5 (fun q=>absurd q (by omega)) (fun q1=>?_);conv=>whnf
           refine A5 (fun q=>absurd q (by omega)) (fun q2=>?_);conv=>whnf
           repeat' (refine zZ ?_;conv=>whnf)
           rw [w1,w2,w3];refine z_ [0,1,2,4] ht rfl rfl rfl rfl (by decide) (Zy rfl rfl) tA ?_;rintro _ _ ⟨rfl,rfl⟩;have hy:(d3.putAll (AD g (DN a T.length))).2.1=(d3.writes (AD g (DN a T.length))).2.1:=by
            cases hp:(d3.writes (AD g (DN a T.length))).2.2 with
            | true=>rw [Es hp]
            | false=>rw [DX hp];split <;> rfl
           rw [<-hy];generalize d3.putAll (AD g (DN a T.length))=Q;obtain⟨d4,n,dead⟩:=Q;simp only;cases dead with
           | true=>
            rw [if_pos rfl];conv=>whnf
            repeat' (refine zZ ?_;conv=>whnf)
            exact⟨.ag (Eo (AF (DN a T.length) T)), .ag (Eo (AF (DN a T.length) T)),Nf g s 8 d4,Bf ⟨ri,ri,ri,ri,ri,ri,ri,ri,ri,ri,ri,ri,ri,Bg 1 _,tv⟩,zS (s:= [0,1,2,3,7]) tA,⟨_,rfl,fun h=>absurd h (show ¬(8:Int)=0 by decide)⟩,rfl⟩
           | false=>
            rw [if_neg (by decide)];by_cases hm:n=0
            ·subst hm;rw [if_pos rfl];conv=>whnf
             repeat' (refine zZ ?_;conv=>whnf)
             exact⟨.ag (Eo (AF (DN a T.length) T)), .ag (Eo (AF (DN a T.length) T)),Nf g s 14 d4,Bf ⟨ri,ri,ri,ri,ri,ri,ri,ri,ri,ri,ri,ri,ri,Bg 1 _,tv⟩,zS (s:= [0,1,2,3,7]) tA,⟨_,rfl,fun h=>absurd h (show ¬(14:Int)=0 by decide)⟩,rfl⟩
            ·rw [if_neg hm];have hz:((n:Int) == 0)=false:=beq_eq_false_iff_ne.2 (by omega);conv=>whnf
             repeat' (refine zZ ?_;conv=>whnf)
             rw [hz];conv=>whnf
             repeat' (refine zZ ?_;conv=>whnf)
             exact⟨.ag (Eo (AF (DN a T.length) T)), .ag (Eo (AF (DN a T.length) T)),Nf g s 0 d4,Bf ⟨ri,ri,ri,ri,ri,ri,ri,ri,ri,ri,ri,ri,ri,Bg 1 _,tv⟩,zS (s:= [0,1,2,3,7]) tA,⟨_,rfl,fun _=>rfl⟩,rfl⟩
      ·rw [if_pos (by simpa using he)];have hb:(e != 0)=true:=bne_iff_ne.2 he;rw [hb];exact⟨.ag (Eo st0), .ag (Eo st0),Nf g s e d2,Bf st0_sub,zI (zL (z6 1 3 (by decide) rfl rfl)) (s:= [0,1,2,3,8]) tA,⟨st0,rfl,fun h=>absurd h he⟩,rfl⟩
     ·have eB:eK d1 (2*g.sl.toNat)=8:=by unfold eK;rw [if_neg z]
      rw [eB,if_neg z];exact⟨.ag (Eo st0), .ag (Eo st0),Nf g s 8 (d1.adv (2*g.sl.toNat)),Bf st0_sub,zI (zL (z6 1 3 (by decide) rfl rfl)) (s:= [0,1,2,3,8]) tA,⟨st0,rfl,fun _=>rfl⟩,rfl⟩
  ·have eA:eK d g.an.toNat=8:=by unfold eK;rw [if_neg J]
   have hM:DK g d=(d.adv g.an.toNat,8,st0):=by unfold DK;rw [if_neg J]
   rw [eA,hM];exact⟨.ag (Eo st0), .ag (Eo st0),Nf g s 8 (d.adv g.an.toNat),Bf st0_sub,zI (zL (z6 1 3 (by decide) rfl rfl)) (s:= [0,1,2,3,6]) tA,⟨st0,rfl,fun _=>rfl⟩,rfl⟩
theorem Pe (l:List Tx) (hl:l.length<=1000000) (hi:∀ t∈l,t.images.length<=1000000/\∀ x∈t.images,x.bytes.length<=1000000000):Fn Tryz.prog 212 [CS l] fun r=>r=CS l:=by
 refine zR Tryz.func212 rfl ?_;conv=>whnf
 refine zU Nat (fun k=>([(0,CS l),(3, .ow 0 k),(4,ze k)], [.row 170 4 ((l.take k).map CG)])) (fun k=>k<=l.length) (fun k=>l.length - k) 0 (Aj _)
  ⟨_,_,zC _ _, [(3,170,4)],tA, [0],tA⟩ ?_
 intro k hk;conv=>whnf
 refine A5 (fun h6=>?_) (fun h6=>?_) <;> (repeat rw [Aa] at h6) <;> conv=>whnf
 ·have h:k<l.length:=by omega
  have hm:=hi _ (A3 (d:=(⟨0,0,0, []⟩:Tx)) h);have b1:=IE (l.getD k ⟨0,0,0, []⟩).images hm.1 hm.2;have hl:k=((l.take k).map CG).length:=by simp;omega
  apply zX (0) tys_ok mixed (.o [0,1,2,3,4,5,6,7,8,9,10,11,12,13,14,15,16,17,18,19,20,21,22,23,24,25] .fin) (by kernel_rfl);conv=>whnf
  try (refine tI ?_;conv=>whnf)
  try (refine tI ?_;conv=>whnf)
  try (refine tI ?_;conv=>whnf)
  try (refine tI ?_;conv=>whnf)
  refine zY b1 ?_;conv=>whnf
  try (refine tJ ?_;conv=>whnf)
  try (refine tK ?_;conv=>whnf)
  all_goals exact⟨k+1,h,by omega,zS (s:= [0]) ⟨⟨rfl,rfl,AG (by omega),tv⟩,⟨congrArg (fun l=>some (AB.row _ _ l)) (F7 (f:=CG) (d:=(⟨0,0,0, []⟩:Tx)) h).symm,tv⟩,rfl,rfl,rfl,rfl,rfl⟩⟩
 ·have ek:k=l.length:=by omega
  subst ek;rw [Aw];refine Ad (Ab _).symm ?_;exact⟨CS l,AU (f:=CG) l rfl rfl,rfl⟩
theorem Oa (s:Stt) (h:StSm s):Fn Tryz.prog 125 [.ag (Eo s)] fun r=>r = .ag (Eo s):=by
 have c1:=MO s.a (by have:=h.h.1;omega) h.h.2;have c2:=Pe s.txns (by have:=h.t.1;omega) (fun t ht=>⟨by have:=(h.t.2 t ht).1;omega,fun x hx=>by have:=(h.t.2 t ht).2 x hx;omega⟩);have c3:=Gv s.lost h.o;refine zR Tryz.func125 rfl ?_;conv=>whnf
 apply zX (0) tys_ok mixed (.o [0,1,3,4,6,7,8,2,10,5,9,11,12,13,14,15,16] .fin) (by kernel_rfl);conv=>whnf
 refine zY c1 ?_;conv=>whnf
 refine zY c2 ?_;conv=>whnf
 refine zY c3 ?_;conv=>whnf
 try (refine tS ?_;conv=>whnf)
 try (refine tS ?_;conv=>whnf)
 try (refine tS ?_;conv=>whnf)
 all_goals exact⟨_,ri,rfl⟩
theorem DkOk.big {d:Dk} (h:DkOk d):d.cells.length<=1000000/\d.cache.length<=1000000/\(∀ c∈d.cells,c.bytes.length<=1000000000/\c.old.length<=1000000000)/\(∀ w∈d.cache,w.bytes.length<=1000000000):=
 ⟨by have:=h.n;omega,by have:=h.m;omega,fun c hc=>by have:=(h.c c hc).2;omega,fun w hw=>by have:=(h.w w hw).2;omega⟩
theorem T6 (g:Geo) (d:Dk) (s:Stt) (h:DkOk d) (hs:StSm s):ACalls Tryz.prog false 53 [.ag (AK g), .ag (DV d), .ag (Eo s)] [] fun r H=>r = .bp 0 0/\H=Jw g s 0 d:=by
 obtain⟨q1,q2,q3,q4⟩:=h.big;have c1:=Om d q1 q2 q3 q4;have c2:=Oa s hs;refine zT tys_ok Tryz.func53 rfl rfl (Ae rfl) ?_;conv=>whnf
 apply zX (0) tys_ok mixed (.o [0,1,3,2,4,5,6,7] .fin) (by kernel_rfl);conv=>whnf
 (refine zW c1 rfl ?_;rintro _ _ ⟨rfl,rfl⟩)
 conv=>whnf
 refine zY c2 ?_;exact⟨_, .bp 0 0,Jw g s 0 d,fun _ _ h=>h,zS (s:= [6,3,4,5]) tA,rfl,rfl⟩
@[reducible] def Lt (a:An) (x:AV):List AV:= [iv a.gen,iv a.epoch,iv a.pos,iv a.seq,iv a.last, .v (.string a.label),x]
@[reducible] def stX (s:Stt) (x y:AV):List AV:= [iv s.a.gen,iv s.a.epoch,iv s.a.pos,iv s.a.seq,iv s.a.last, .v (.string s.a.label),x,y, .v (.bool s.only),iv s.cursor,iv s.found,iv s.fixed,iv s.moved,iA s.lost]
theorem N_ (l:List Tx) (hl:l.length<=1000000) (hi:∀ t∈l,t.images.length<=1000000/\∀ x∈t.images,x.bytes.length<=1000000000):ACalls Tryz.prog false 212 [CS l] [] fun r H=>r = .ow 0 l.length/\H=[.row 170 4 (l.map CG)]:=by
 refine zT tys_ok Tryz.func212 rfl rfl (Ae rfl) ?_;conv=>whnf
 refine zU Nat (fun k=>([(0,CS l),(3, .ow 0 k),(4,ze k)], [.row 170 4 ((l.take k).map CG)])) (fun k=>k<=l.length) (fun k=>l.length - k) 0 (Aj _)
  ⟨_,_,zC _ _, [(3,170,4)],tA, [0],tA⟩ ?_
 intro k hk;conv=>whnf
 refine A5 (fun h6=>?_) (fun h6=>?_) <;> (repeat rw [Aa] at h6) <;> conv=>whnf
 ·have i:k<l.length:=by omega
  have hm:=hi _ (A3 (d:=(⟨0,0,0, []⟩:Tx)) i);have b1:=IE (l.getD k ⟨0,0,0, []⟩).images hm.1 hm.2;have hl:k=((l.take k).map CG).length:=by simp;omega
  apply zX (0) tys_ok mixed (.o [0,1,2,3,4,5,6,7,8,9,10,11,12,13,14,15,16,17,18,19,20,21,22,23,24,25] .fin) (by kernel_rfl);conv=>whnf
  try (refine tI ?_;conv=>whnf)
  try (refine tI ?_;conv=>whnf)
  try (refine tI ?_;conv=>whnf)
  try (refine tI ?_;conv=>whnf)
  refine zY b1 ?_;conv=>whnf
  try (refine tJ ?_;conv=>whnf)
  try (refine tK ?_;conv=>whnf)
  all_goals exact⟨k+1,i,by omega,zS (s:= [0]) ⟨⟨rfl,rfl,AG (by omega),tv⟩,⟨congrArg (fun l=>some (AB.row _ _ l)) (F7 (f:=CG) (d:=(⟨0,0,0, []⟩:Tx)) i).symm,tv⟩,rfl,rfl,rfl,rfl,rfl⟩⟩
 ·have ek:k=l.length:=by omega
  subst ek;rw [Aw];exact⟨.ow 0 l.length, .ow 0 l.length, [.row 170 4 (l.map CG)],fun _ _ h=>h,zS (s:= [0]) tA,rfl,rfl⟩
theorem L5 (a:An) (hh:a.homes.length<=1000) (hp:∀ h∈a.homes,h.places.length<=1000000):ACalls Tryz.prog false 211 [.ag (Ek a)] [] fun r H=>r = .ag (Lt a (.ow 0 a.homes.length))/\H=[.row 108 3 (a.homes.map DL)]:=by
 refine zT tys_ok Tryz.func211 rfl rfl (Ae rfl) ?_;conv=>whnf
 refine zM Nat (fun k=>([(1, .bp 0 0),(2, .bp 1 0),(3,HE a.homes),(4,iv k)], [.box 28 [iv a.gen,iv a.epoch,iv a.pos,iv a.seq,iv a.last, .v (.string a.label), .ow 2 k], .box 28 [iv 0,iv 0,iv 0,iv 0,iv 0, .v (.string ⟨#[]⟩), .v (.slice none 0 0)], .row 108 3 ((a.homes.take k).map DL)])) (fun k=>k<=a.homes.length) (fun k=>a.homes.length - k) 0 (Aj _) ⟨[(1000006,108,3)],tA,tA,tA,rfl,rfl,rfl⟩ ?_;intro k hk;conv=>whnf
 refine A5 (fun c1=>?_) (fun c1=>?_) <;> (repeat rw [Aa] at c1) <;> conv=>whnf
 ·have ti:=Gv (a.homes.getD k ⟨[],0,0⟩).places (hp _ (A3 c1));refine zA tys_ok mixed [0,1,2,3,4,5,6,8,9,10,11,12,13,14,15,16,17,7,18,19,20,21,22] (by kernel_rfl) ?_;conv=>whnf
  repeat' (first | (refine zZ ?_;conv=>whnf) | (refine A5 (fun _=>?_) (fun _=>?_) <;> conv=>whnf) | (refine zY ti ?_;conv=>whnf) | (refine Ad (by first | omega | exact of_decide_eq_true rfl) ?_;conv=>whnf) | fail)
  refine Ad ⟨by rw [Ab,As];omega,by omega⟩ ?_;exact⟨k+1,by omega,by omega, [],tv,⟨rfl,rfl,rfl,AG (by omega),tv⟩,⟨rfl,rfl,congrArg (AB.row _ _) (G6 c1),tv⟩,rfl,rfl,rfl⟩
 ·have ek:k=a.homes.length:=by omega
  subst ek;rw [Aw];exact⟨.ag (Lt a (.ow 2 a.homes.length)), .ag (Lt a (.ow 0 a.homes.length)), [.row 108 3 (a.homes.map DL)],fun _ _ h=>h,zS (s:= [2]) tA,rfl,rfl⟩
theorem ID (s:Stt) (h:StSm s):ACalls Tryz.prog false 125 [.ag (Eo s)] [] fun r H=>r = .ag (stX s (.ow 0 s.a.homes.length) (.ow 1 s.txns.length))/\H=[.row 108 3 (s.a.homes.map DL), .row 170 4 (s.txns.map CG)]:=by
 have c1:=L5 s.a (by have:=h.h.1;omega) h.h.2;have c2:=N_ s.txns (by have:=h.t.1;omega) (fun t ht=>⟨by have:=(h.t.2 t ht).1;omega,fun x hx=>by have:=(h.t.2 t ht).2 x hx;omega⟩);have c3:=Gv s.lost h.o;refine zT tys_ok Tryz.func125 rfl rfl (Ae rfl) ?_;conv=>whnf
 apply zX (0) tys_ok mixed (.o [0,1,3,4,6,7,8,2,10,5,9,11,12,13,14,15,16] .fin) (by kernel_rfl);conv=>whnf
 (refine zW c1 rfl ?_;rintro _ _ ⟨rfl,rfl⟩)
 conv=>whnf
 (refine zW c2 rfl ?_;rintro _ _ ⟨rfl,rfl⟩)
 conv=>whnf
 refine zY c3 ?_;conv=>whnf
 try (refine tS ?_;conv=>whnf)
 try (refine tS ?_;conv=>whnf)
 try (refine tS ?_;conv=>whnf)
 all_goals exact⟨.ag (stX s (.ow 2 s.a.homes.length) (.ow 3 s.txns.length)), .ag (stX s (.ow 0 s.a.homes.length) (.ow 1 s.txns.length)), [.row 108 3 (s.a.homes.map DL), .row 170 4 (s.txns.map CG)],fun _ _ h=>h,zS (s:= [2,3]) tA,rfl,rfl⟩
@[reducible] def Za (g:Geo) (x hm tx:AV) (s:Stt) (e:Int):List AV:= [iv g.z,iv g.d,iv g.sp,iv g.sl,iv g.an,x,iv s.a.gen,iv s.a.epoch,iv s.a.pos,iv s.a.seq,iv s.a.last, .v (.string s.a.label),hm,tx, .v (.bool s.only),iv s.cursor,iv s.found,iv s.fixed,iv s.moved,iA s.lost,iv e]
@[reducible] def Fo (g:Geo) (s:Stt) (e:Int) (d:Dk):List AB:= [.box 132 (Za g (.bp 1 0) (.ow 4 s.a.homes.length) (.ow 5 s.txns.length) s e), .box 133 (Gp (.ow 2 d.cells.length) (.ow 3 d.cache.length) d.reqs d.left), .row 68 3 (d.cells.map B4), .row 152 2 (d.cache.map Ei), .row 108 3 (s.a.homes.map DL), .row 170 4 (s.txns.map CG)]
@[reducible] def rwP (g:Geo) (s:Stt) (e:Int) (d:Dk):List AB:= [.box 132 (Za g (.bp 1 0) (.ow 4 s.a.homes.length) (.ow 5 s.txns.length) s e), .box 133 (Gp (.ow 2 d.cells.length) (.ow 6 d.cache.length) d.reqs d.left), .row 68 3 (d.cells.map B4), .dead, .row 108 3 (s.a.homes.map DL), .row 170 4 (s.txns.map CG), .row 152 2 (d.cache.map Ei)]
theorem Zc (g:Geo) (s:Stt) (e:Int) (d:Dk):ConvH (Fo g s e d) (rwP g s e d):=z6 (H:=Fo g s e d) 1 3 (by decide) rfl rfl
theorem LP (g:Geo) (d:Dk) (s:Stt) (h:DkOk d) (hs:StSm s):ACalls Tryz.prog false 53 [.ag (AK g), .ag (DV d), .ag (Eo s)] [] fun r H=>r = .bp 0 0/\H=Fo g s 0 d:=by
 obtain⟨q1,q2,q3,q4⟩:=h.big;have c1:=Om d q1 q2 q3 q4;have c2:=ID s hs;refine zT tys_ok Tryz.func53 rfl rfl (Ae rfl) ?_;conv=>whnf
 apply zX (0) tys_ok mixed (.o [0,1,3,2,4,5,6,7] .fin) (by kernel_rfl);conv=>whnf
 (refine zW c1 rfl ?_;rintro _ _ ⟨rfl,rfl⟩)
 conv=>whnf
 (refine zW c2 rfl ?_;rintro _ _ ⟨rfl,rfl⟩)
 exact⟨_, .bp 0 0,Fo g s 0 d,fun _ _ h=>h,zS (s:= [8,3,4,5,6,7]) tA,rfl,rfl⟩
theorem XA (g:Geo) (s:Stt) (d:Dk) (a:Int) (h:DkOk d) (ha:0<=a/\a<d.cells.length) :
  ACalls Tryz.prog false 126 [.bp 0 0,iv a] (Fo g s 0 d) fun r H=>r = .ag (Dt ⟨(d.read a).2.2,(d.read a).2.1⟩)/\H=Fo g s (if d.left=0 then 8 else 0) (d.read a).1:=by
 have hr:=Pu d a h.l ha h.m (fun c hc=>by have:=(h.c c hc).2.1;omega) (fun w hw=>by have:=(h.w w hw).2;omega);have he:(d.left=0/\(d.read a).2.2=8)\/(¬d.left=0/\(d.read a).2.2≠8):=by
  unfold Dk.read;by_cases h0:d.left=0
  ·rw [if_pos h0];exact .inl ⟨h0,rfl⟩
  ·rw [if_neg h0];exact .inr ⟨h0,show (d.got a).2≠8 by have:=S9 d a;omega⟩
 generalize d.read a=q at hr he |-
 obtain⟨D,b,e⟩:=q;simp only at hr he |-
 refine zT tys_ok Tryz.func126 rfl rfl (Ae rfl) ?_;conv=>whnf
 refine ze9 [1,2,3] hr ?_;rintro _ _ ⟨rfl,rfl⟩;rcases he with ⟨h0,rfl⟩ | ⟨h0,he⟩
 ·rw [if_pos h0];conv=>whnf
  repeat' (refine zZ ?_;conv=>whnf)
  exact⟨_, .ag (Dt ⟨8,b⟩),Fo g s 8 D,fun _ _ h=>h,zS (s:= [0,1,2,3,4,5]) tA,rfl,rfl⟩
 ·rw [if_neg h0];conv=>whnf
  repeat' (refine zZ ?_;conv=>whnf)
  refine Am (fun h8=>absurd (by simpa using h8) he) (fun _=>?_);conv=>whnf
  repeat' (refine zZ ?_;conv=>whnf)
  exact⟨_, .ag (Dt ⟨e,b⟩),Fo g s 0 D,fun _ _ h=>h,zS (s:= [0,1,2,3,4,5]) tA,rfl,rfl⟩
theorem X8 (g:Geo) (s:Stt) (d:Dk) (a:Int) (b:List UInt8) (h:DkOk d) (ha:0<=a/\a<d.cells.length) (hb:b.length<=200) :
  ACalls Tryz.prog false 129 [.bp 0 0,iv a,bA b] (Fo g s 0 d) fun r H=>r = .v (.bool (decide ((d.write a b).2=0)))/\H=Fo g s (if (d.write a b).2=8 then 8 else 0) (d.write a b).1:=by
 have hr:=Nd d a b h.l ha h.m (by omega);have he:=Ip d a b;generalize d.write a b=q at hr he |-
 obtain⟨D,e⟩:=q;simp only at hr he |-
 refine zT tys_ok Tryz.func129 rfl rfl (Ae rfl) ?_;conv=>whnf
 refine ze9 [1,2,3] hr ?_;rintro _ _ ⟨rfl,rfl⟩;rcases he with rfl | rfl | rfl
 all_goals
  conv=>whnf
  repeat' (refine zZ ?_;conv=>whnf)
 ·exact⟨_, .v (.bool false),Fo g s 8 D,fun _ _ h=>h,zS (s:= [0,1,2,3,4,5]) tA,rfl,rfl⟩
 ·exact⟨_, .v (.bool false),Fo g s 0 D,fun _ _ h=>h,zS (s:= [0,1,2,3,4,5]) tA,rfl,rfl⟩
 ·exact⟨_, .v (.bool true),Fo g s 0 D,fun _ _ h=>h,zS (s:= [0,1,2,3,4,5]) tA,rfl,rfl⟩
theorem XG (g:Geo) (s:Stt) (e:Int) (d:Dk) (h:DkOk d) :
  ACalls Tryz.prog false 130 [.bp 0 0] (Fo g s e d) fun r H=>r = .tp []/\H=rwP g s (if e=0 then if d.left=0 then 8 else 0 else e) (if e=0 then if d.left=0 then d else d.flush else d):=by
 have hf:=Nl d h.l h.m (fun w hw=>(h.w w hw).1) (fun w hw=>by have:=(h.w w hw).2;omega);by_cases he:e=0
 ·subst he;rw [if_pos rfl,if_pos rfl];refine zT tys_ok Tryz.func130 rfl rfl (Ae rfl) ?_;conv=>whnf
  refine ze9 [1,2,3] hf ?_;rintro _ _ ⟨rfl,rfl⟩;by_cases h0:d.left=0;all_goals
   simp only [h0,if_true,if_false];exact⟨_, .tp [],rwP g s _ _,fun _ _ h=>h,zS (s:= [0,1,2,3,4,5,6]) tA,rfl,rfl⟩
 ·rw [if_neg he,if_neg he];have hb:(e == 0)=false:=beq_eq_false_iff_ne.2 he;refine zT tys_ok Tryz.func130 rfl rfl (Ae rfl) ?_;conv=>whnf
  rw [hb];exact⟨_, .tp [],rwP g s e d,fun _ _ h=>h,zI (zL (Zc g s e d)) (s:= [0,1,2,3,4,5,6]) tA,rfl,rfl⟩

theorem Mq {α:Type} {n i:Nat} {a d:α} (h:i<n):(List.replicate n a).getD i d=a:=by rw [Ac,C_ h];try rfl
theorem SP {i:Nat} (h:i<8):zero8.getD i 0=0:=by
 have:i=0\/i=1\/i=2\/i=3\/i=4\/i=5\/i=6\/i=7:=by omega
 rcases this with rfl | rfl | rfl | rfl | rfl | rfl | rfl | rfl <;> rfl
def Lb (cs:List Cel) (w:Wr):List Cel:=cs.set w.addr.toNat { cs.getD w.addr.toNat cz with bytes:=w.bytes }
def E5 (cs:List Cel) (l:List Wr):List Cel:=l.foldl Lb cs
theorem PZ (cs:List Cel) (w:Wr):(Lb cs w).length=cs.length:=by simp [Lb]
theorem Fh (l:List Wr):∀ cs:List Cel,(E5 cs l).length=cs.length:=by
 induction l with
 | nil=>intro cs;rfl
 | cons w l ih=>intro cs;show (E5 (Lb cs w) l).length=_;rw [ih,PZ]
theorem I5 (cs:List Cel) {l:List Wr} {k:Nat} (h:k<l.length):E5 cs (l.take (k+1))=Lb (E5 cs (l.take k)) (l.getD k ⟨0, []⟩):=by
 unfold E5;rw [Ba,BR,Ag h];simp [Ac,Ag h]
theorem JI (cs:List Cel) (w:Wr):(Lb cs w).map B4=(cs.map B4).set w.addr.toNat (B4 { cs.getD w.addr.toNat cz with bytes:=w.bytes }):=by rw [Lb,BI]
def I_ (g:Geo):List Cel:=List.replicate (Ar g).toNat cz
def Hn (g:Geo) (c:Int):List Wr:=(List.range g.sl.toNat).map fun i=>⟨Bi g c (i:Nat),BF g zeroC c (i:Nat)⟩
def I8 (g:Geo) (z:Int):List Wr:=(List.range 2).map fun k=>⟨AM g z (k:Nat),Bk (AM g z (k:Nat)) 0 (CM (ES g))⟩
def H0 (g:Geo) (z:Int):List Wr:=(List.range (Cv g).toNat).map fun i=>⟨Cm g z (i:Nat),Bk (Cm g z (i:Nat)) 0 zero8⟩
def W0 (g:Geo) (s:ByteArray):List Cel:=E5 (I_ g) (AD g (Cc g s))
def OE (g:Geo) (s:ByteArray):Nat->List Cel
 | 0=>W0 g s
 | c+1=>E5 (OE g s c) (Hn g (c:Nat))
def Hq (g:Geo) (s:ByteArray):Nat->List Cel
 | 0=>OE g s 2
 | z+1=>E5 (E5 (Hq g s z) (I8 g (z:Nat))) (H0 g (z:Nat))
def Gi (g:Geo) (s:ByteArray):Dk:=⟨Hq g s g.z.toNat, [],0, -1⟩
theorem Mw (g:Geo):(I_ g).length=(Ar g).toNat:=by simp [I_]
theorem Wz (g:Geo) (s:ByteArray):(W0 g s).length=(Ar g).toNat:=by rw [W0,Fh,Mw]
theorem Mv (g:Geo) (s:ByteArray):∀ c,(OE g s c).length=(Ar g).toNat
 | 0=>Wz g s
 | c+1=>by rw [OE,Fh,Mv g s c]
theorem GO (g:Geo) (s:ByteArray):∀ z,(Hq g s z).length=(Ar g).toNat
 | 0=>Mv g s 2
 | z+1=>by rw [Hq,Fh,Fh,GO g s z]
theorem Kf {α:Type} {f:Nat->α} {n k:Nat} {d:α} (h:k<n):((List.range n).map f).getD k d=f k:=by
 rw [AY (d:=0) (by simpa using h),Ac,Bz h];try rfl
theorem Fv {g:Geo} (hg:Bq g=true):Gm g zeroC=true:=by
 simp [Gm,hg,GT,zeroC,KP]
theorem JJ (cs:List Cel) (l m:List Wr):E5 cs (l ++ m)=E5 (E5 cs l) m:=by unfold E5;rw [BR]
theorem OB (cs:List Cel) (i a:Nat) (x:Cel) (ha:a<cs.length):(cs.set i x).getD a cz=if i=a then x else cs.getD a cz:=by
 grind
theorem Wx (cs:List Cel) (w:Wr) (a:Nat) (ha:a<cs.length):(Lb cs w).getD a cz=if w.addr.toNat=a then { cs.getD a cz with bytes:=w.bytes } else cs.getD a cz:=by
 unfold Lb
 grind
theorem NB {F:List UInt8}:∀ (l:List Wr) (cs:List Cel) (a:Nat),a<cs.length->(∀ w∈l,w.addr.toNat=a->w.bytes=F)->((∃ w∈l,w.addr.toNat=a)\/(cs.getD a cz).bytes=F)->(E5 cs l).getD a cz={ cs.getD a cz with bytes:=F }
 | [],cs,a,_,_,h=>by
  rcases h with ⟨w,hw,_⟩ | h
  ·grind
  ·show cs.getD a cz=_;rw [<-h]
 | w::l,cs,a,ha,hF,h=>by
  have hs:=Wx cs w a ha;have f:a<(Lb cs w).length:=by rw [PZ];exact ha
  have ih:=NB (F:=F) l (Lb cs w) a f (fun x hx=>hF x (Bh _ hx));show (E5 (Lb cs w) l).getD a cz=_
  grind
def K5 (g:Geo):Nat->List Wr
 | 0=> []
 | z+1=>K5 g z ++ (I8 g (z:Nat) ++ H0 g (z:Nat))
def OD (g:Geo) (s:ByteArray):List Wr:=AD g (Cc g s) ++ (Hn g 0 ++ (Hn g 1 ++ K5 g g.z.toNat))
theorem Wy (g:Geo) (s:ByteArray):∀ z,Hq g s z=E5 (I_ g) (AD g (Cc g s) ++ (Hn g 0 ++ (Hn g 1 ++ K5 g z)))
 | 0=>by
  show E5 (E5 (W0 g s) (Hn g 0)) (Hn g 1)=_;rw [W0,<-JJ,<-JJ,K5,AR]
 | z+1=>by
  rw [Hq,Wy g s z,<-JJ,<-JJ,K5]
  grind
def G9 (g:Geo) (s:ByteArray) (a:Int):List UInt8:=
 if a<g.an then CZ (Cc g s) a else if a<g.an+g.sl then BF g zeroC 0 (a - g.an) else if a<g.an+2*g.sl then BF g zeroC 1 (a - g.an - g.sl)
 else if a<g.an+2*g.sl+2*g.z then Bk a 0 (CM (ES g)) else Bk a 0 zero8
theorem Io {g:Geo} (hg:Bq g=true):∀ (n:Nat) (w:Wr),(n:Int)<=g.z->(w∈K5 g n↔(∃ z k:Nat,z<n/\k<2/\w=⟨AM g z k,Bk (AM g z k) 0 (CM (ES g))⟩)\/∃ z i:Nat,z<n/\i<(Cv g).toNat/\w=⟨Cm g z i,Bk (Cm g z i) 0 zero8⟩)
 | 0,w,_=>by simp [K5]
 | n+1,w,h=>by
  rw [K5,A6,A6,Io hg n w (by omega)];simp only [I8,H0,AQ,AS]
  grind
theorem SD {g:Geo} {s:ByteArray} {a:Int} (h:a<g.an):G9 g s a=CZ (Cc g s) a:=if_pos h
theorem JK {g:Geo} {s:ByteArray} {c:Int} {i:Nat} (hc:c=0\/c=1) (hi:(i:Int)<g.sl):G9 g s (Bi g c i)=BF g zeroC c i:=by
 unfold G9 Bi
 grind
theorem P_ {g:Geo} {s:ByteArray} {z k:Nat} (h0:0<=g.sl) (hz:(z:Int)<g.z) (hk:k<2):G9 g s (AM g z k)=Bk (AM g z k) 0 (CM (ES g)):=by
 unfold G9;have:AM g z k=g.an+2*g.sl+2*z+k:=rfl
 grind
theorem NC {g:Geo} {s:ByteArray} {z i:Nat} (h0:0<=g.sl) (h1:0<=g.z) (h2:0<=Cv g):G9 g s (Cm g z i)=Bk (Cm g z i) 0 zero8:=by
 unfold G9;have:Cm g z i=g.an+2*g.sl+2*g.z+z*Cv g+i:=rfl;have:0<=(z:Int)*Cv g:=Da (by omega) h2
 grind
theorem PC {g:Geo} (hg:Bq g=true):0<Cv g:=by
 obtain⟨g1,g2,g3,g4,g5⟩:=Aq.1 hg;unfold Cv;omega
theorem Ww {g:Geo} {s:ByteArray} (hg:Bq g=true):∀ w∈OD g s,0<=w.addr/\w.bytes=G9 g s w.addr:=by
 obtain⟨g1,g2,g3,g4,g5⟩:=Aq.1 hg;have hp:=PC hg;intro w hw;simp only [OD,A6,Io hg g.z.toNat w (by omega)] at hw;rcases hw with hw | hw | hw | ⟨z,k,h1,h2,rfl⟩ | ⟨z,i,h1,h2,rfl⟩
 ·simp only [AD,AQ,AS] at hw;obtain⟨i,hi,rfl⟩:=hw;exact⟨by show (0:Int)<=(i:Nat);omega,(SD (by show ((i:Nat):Int)<g.an;omega)).symm⟩
 ·simp only [Hn,AQ,AS] at hw;obtain⟨i,hi,rfl⟩:=hw;exact⟨by show 0<=Bi g 0 i;unfold Bi;omega,(JK (.inl rfl) (by omega)).symm⟩
 ·simp only [Hn,AQ,AS] at hw;obtain⟨i,hi,rfl⟩:=hw;exact⟨by show 0<=Bi g 1 i;unfold Bi;omega,(JK (.inr rfl) (by omega)).symm⟩
 ·exact⟨by show 0<=AM g z k;unfold AM;omega,(P_ (by omega) (by omega) h2).symm⟩
 ·have:0<=(z:Int)*Cv g:=Da (by omega) (by omega);exact⟨by show 0<=Cm g z i;unfold Cm;omega,(NC (by omega) (by omega) (by omega)).symm⟩
theorem Wv {g:Geo} {s:ByteArray} (hg:Bq g=true) {a:Int} (h0:0<=a) (h:a<Ar g):∃ w∈OD g s,w.addr=a:=by
 obtain⟨g1,g2,g3,g4,g5⟩:=Aq.1 hg;have hp:=PC hg;by_cases h1:a<g.an
 ·refine⟨⟨a,CZ (Cc g s) a⟩,?_,rfl⟩;simp only [OD,A6,AD,AQ,AS];exact .inl ⟨a.toNat,by omega,by rw [Int.toNat_of_nonneg h0]⟩
 ·have f:∀ (c:Int) (i:Nat),(c=0\/c=1)->(i:Int)<g.sl->∃ w∈OD g s,w.addr=Bi g c i:=fun c i hc hi=>by
   refine⟨⟨Bi g c i,BF g zeroC c i⟩,?_,rfl⟩;simp only [OD,A6,Hn,AQ,AS];rcases hc with rfl | rfl
   ·exact .inr (.inl ⟨i,by omega,rfl⟩)
   ·exact .inr (.inr (.inl ⟨i,by omega,rfl⟩))
  by_cases h2:a<g.an+g.sl
  ·obtain⟨w,hw,e⟩:=f 0 (a - g.an).toNat (.inl rfl) (by omega);exact⟨w,hw,by rw [e];unfold Bi;omega⟩
  ·by_cases h3:a<g.an+2*g.sl
   ·obtain⟨w,hw,e⟩:=f 1 (a - g.an - g.sl).toNat (.inr rfl) (by omega);exact⟨w,hw,by rw [e];unfold Bi;omega⟩
   ·by_cases h4:a<g.an+2*g.sl+2*g.z
    ·refine⟨⟨AM g (((a - (g.an+2*g.sl)).toNat / 2:Nat)) ((a - (g.an+2*g.sl)).toNat % 2:Nat),Bk (AM g (((a - (g.an+2*g.sl)).toNat / 2:Nat)) ((a - (g.an+2*g.sl)).toNat % 2:Nat)) 0 (CM (ES g))⟩,?_,by show AM g _ _=a;unfold AM;omega⟩;simp only [OD,A6,Io hg g.z.toNat _ (by omega)];exact .inr (.inr (.inr (.inl ⟨_,_,by omega,by omega,rfl⟩)))
    ·have hq:a - (g.an+2*g.sl+2*g.z)=((a - (g.an+2*g.sl+2*g.z)).toNat:Int):=by omega
     generalize hX:(a - (g.an+2*g.sl+2*g.z)).toNat=X at hq;have hP:Cv g=((Cv g).toNat:Int):=by omega
     have j:X<g.z.toNat*(Cv g).toNat:=by
      have:(X:Int)<g.z*Cv g:=by unfold Ar at h;omega
      rw [hP,show g.z=(g.z.toNat:Int) by omega] at this
      exact_mod_cast this
     generalize F:(Cv g).toNat=p at hP j;have u:0<p:=by omega
     have C:(X / p)*p+X % p=X:=Nat.div_add_mod' X p;refine⟨⟨Cm g ((X / p:Nat)) ((X % p:Nat)),Bk (Cm g ((X / p:Nat)) ((X % p:Nat))) 0 zero8⟩,?_,?_⟩
     ·simp only [OD,A6,Io hg g.z.toNat _ (by omega)];exact .inr (.inr (.inr (.inr ⟨X / p,X % p,Nat.div_lt_of_lt_mul (by rw [Nat.mul_comm];exact j),by rw [F];exact Nat.mod_lt _ u,rfl⟩)))
     ·show Cm g _ _=a;unfold Cm;rw [hP];have:((X / p:Nat):Int)*(p:Int)+((X % p:Nat):Int)=(X:Int):=by exact_mod_cast C
      omega
theorem PY {g:Geo} {s:ByteArray} (hg:Bq g=true) {a:Int} (h0:0<=a) (h:a<Ar g):(Gi g s).cells.getD a.toNat cz=⟨0,G9 g s a, []⟩:=by
 have hl:a.toNat<(I_ g).length:=by rw [Mw];omega
 obtain⟨w,hw,e⟩:=Wv (s:=s) hg h0 h;have f:=Ww (s:=s) hg;show (Hq g s g.z.toNat).getD a.toNat cz=_;rw [Wy];refine(NB (F:=G9 g s a) (OD g s) (I_ g) a.toNat hl (fun x hx hxa=>?_) (.inl ⟨w,hw,by rw [e]⟩)).trans ?_
 ·grind
 ·have:(I_ g).getD a.toNat cz=cz:=by
   unfold I_
   grind
  rw [this];try rfl
structure Holds (d:Dk) (n:Int) (F:Int->List UInt8):Prop where
 len:(d.cells.length:Int)=n
 cache:d.cache=[]
 cell:∀ a:Int,0<=a->a<n->(d.cells.getD a.toNat cz).state=0/\(d.cells.getD a.toNat cz).bytes=F a
theorem Holds.got {d:Dk} {n:Int} {F:Int->List UInt8} (h:Holds d n F) {a:Int} (h0:0<=a) (h1:a<n):Up d a=⟨0,F a⟩:=by
 obtain⟨e1,e2⟩:=h.cell a h0 h1;have hg:d.got a=((d.cells.getD a.toNat cz).bytes,0):=by
  unfold Dk.got;rw [h.cache];simp only [Nx];rw [show (d.cells.getD a.toNat ⟨0, [], []⟩)=d.cells.getD a.toNat cz from rfl,if_pos e1]
 rw [Up,hg,e2]
theorem Ku {g:Geo} {s:ByteArray} (hg:Bq g=true):Holds (Gi g s) (Ar g) (G9 g s):=by
 have hc:=EE hg;obtain⟨g1,g2,g3,g4,g5⟩:=Aq.1 hg;refine⟨?_,rfl,fun a h0 h1=>by rw [PY hg h0 h1];exact tA⟩;show ((Hq g s g.z.toNat).length:Int)=_;rw [GO];omega
def Dk.tick (k:Nat) (d:Dk):Dk:=⟨d.cells,d.cache,min (d.reqs+k) 1048576,if d.left<0 then d.left else d.left - k⟩
structure Lv (d:Dk) (k:Nat):Prop where
 r:0<=d.reqs/\d.reqs<=1048576
 l:d.left<0\/(k:Int)<=d.left
theorem Lv.le {d:Dk} {k j:Nat} (h:Lv d k) (hj:j<=k):Lv d j:=⟨h.r,by have:=h.l;omega⟩
theorem LN {d:Dk} (h:0<=d.reqs/\d.reqs<=1048576) (_h0:d.left≠0) (hl:d.left<0\/1<=d.left):d.req=d.tick 1:=by
 unfold Dk.req Dk.tick;rw [wi (by omega)]
 grind
theorem GC {d:Dk} (a b:Nat) (_hr:d.reqs<=1048576) (h:d.left<0\/(a:Int)<=d.left):(d.tick a).tick b=d.tick (a+b):=by
 unfold Dk.tick
 grind
theorem MZ {d:Dk} (hr:d.reqs<=1048576):d.tick 0=d:=by
 unfold Dk.tick;obtain⟨c,ca,r,l⟩:=d
 grind
theorem Jl {d:Dk} {a b:Nat} (h:Lv d (a+b)):Lv (d.tick a) b:=by
 have:=h.r;have:=h.l;refine⟨?_,?_⟩
 ·show 0<=min _ _/\min _ _<=_;omega
 ·show (if d.left<0 then d.left else d.left - a)<0\/(b:Int)<=(if d.left<0 then d.left else d.left - a);omega
theorem JS {d:Dk}:∀ (k:Nat),Lv d k->d.adv k=d.tick k
 | 0,h=>(MZ h.r.2).symm
 | k+1,h=>by
  have ih:=JS k (h.le (by omega));have h1:=Jl (a:=k) (b:=1) h;have h2:=h1.l;show (if (d.adv k).left=0 then d.adv k else (d.adv k).req)=_;rw [ih,if_neg (by omega),LN h1.r (by omega) (by omega),GC k 1 h.r.2 (by have:=h.l;omega)]
def free (cs:List Cel) (w:Wr):Bool:=decide ((cs.getD w.addr.toNat cz).state≠2)
theorem QF {d:Dk} {w:Wr} (h:Lv d 1) (hc:d.cache.length<2000):d.write w.addr w.bytes=if free d.cells w then (⟨d.cells,d.cache ++ [w],(d.tick 1).reqs,(d.tick 1).left⟩,0) else (d.tick 1,7):=by
 have:=h.l;unfold Dk.write free;rw [if_neg (by omega),LN h.r (by omega) (by omega)];by_cases h2:(d.cells.getD w.addr.toNat cz).state=2
 ·rw [if_pos (.inl h2),if_neg (by simpa using h2)]
 ·rw [if_neg (by rintro(h3 | h3);exact h2 h3;omega),if_pos (by simpa using h2)];try rfl
theorem writes_go:∀ (l:List Wr) (d:Dk) (n:Nat),Lv d l.length->d.cache.length+l.length<=2000->l.foldl CR (d,n,false)=(⟨d.cells,d.cache ++ l.filter (free d.cells),(d.tick l.length).reqs,(d.tick l.length).left⟩,n+(l.filter (free d.cells)).length,false)
 | [],d,n,h,_=>by
  show (d,n,false)=_;rw [show ([]:List Wr).length=0 from rfl,MZ h.r.2];simp_all
 | w::l,d,n,h,hc=>by
  have hl:(w::l).length=l.length+1:=rfl;rw [hl] at h hc |-
  have hw:=QF (w:=w) (h.le (show 1<=l.length+1 by omega)) (by omega);have h1:Lv (d.tick 1) l.length:=Jl (by rw [C5];exact h);have ht:=GC (d:=d) 1 l.length h.r.2 (by have:=h.l;omega);rw [C5] at ht;show l.foldl CR (CR (d,n,false) w)=_;have hs:CR (d,n,false) w=(match d.write w.addr w.bytes with | (d,e)=>if e=8 then (d,n,true) else (d,n+(if e=0 then 1 else 0),false)):=by
   unfold CR;rw [if_neg (by simp)]
  rw [hs,hw];cases hf:free d.cells w with
  | true=>
   simp only [if_true];rw [if_neg (by decide)];have f:=writes_go l ⟨d.cells,d.cache ++ [w],(d.tick 1).reqs,(d.tick 1).left⟩ (n+1) ⟨h1.r,h1.l⟩ (by simp;omega);have e1:((⟨d.cells,d.cache ++ [w],(d.tick 1).reqs,(d.tick 1).left⟩:Dk).tick l.length).reqs=(d.tick (l.length+1)).reqs/\((⟨d.cells,d.cache ++ [w],(d.tick 1).reqs,(d.tick 1).left⟩:Dk).tick l.length).left=(d.tick (l.length+1)).left:=by rw [<-ht];exact tA
   grind
  | false=>
   simp only [Co,if_false];rw [if_neg (by decide),if_neg (by decide)];rw [writes_go l (d.tick 1) (n+0) h1 (by show d.cache.length+_<=_;omega),ht];simp only [List.filter_cons,hf,Co,if_false,CU];rfl
theorem O_ {d:Dk} {l:List Wr} (h:Lv d l.length) (hc:d.cache.length+l.length<=2000):d.writes l=(⟨d.cells,d.cache ++ l.filter (free d.cells),(d.tick l.length).reqs,(d.tick l.length).left⟩,(l.filter (free d.cells)).length,false):=by
 rw [Dk.writes,writes_go l d 0 h hc,A0]
def F0 (cs:List Cel) (w:Wr):List Cel:=if (cs.getD w.addr.toNat cz).state=2 then cs else cs.set w.addr.toNat ⟨0,w.bytes,(cs.getD w.addr.toNat cz).bytes⟩
def CL (cs:List Cel) (l:List Wr):List Cel:=l.foldl F0 cs
theorem GQ (cs:List Cel) (w:Wr):(F0 cs w).length=cs.length:=by unfold F0;split <;> simp
theorem finL_len:∀ (l:List Wr) (cs:List Cel),(CL cs l).length=cs.length
 | [],_=>rfl
 | w::l,cs=>by show (CL (F0 cs w) l).length=_;rw [finL_len l,GQ]
theorem Uv (d:Dk) (w:Wr):d.fin w={ d with cells:=F0 d.cells w }:=by unfold Dk.fin F0;split <;> rfl
theorem allFin_cells:∀ (l:List Wr) (d:Dk),d.allFin l={ d with cells:=CL d.cells l }
 | [],_=>rfl
 | w::l,d=>by
  show (d.fin w).allFin l=_;rw [allFin_cells l,Uv];try rfl
theorem Gj (cs:List Cel) (w:Wr) (a:Nat) (ha:a<cs.length):(F0 cs w).getD a cz=if w.addr.toNat=a/\(cs.getD a cz).state≠2 then ⟨0,w.bytes,(cs.getD a cz).bytes⟩ else cs.getD a cz:=by
 grind [F0]
theorem finL_miss:∀ (l:List Wr) (cs:List Cel) (a:Nat),a<cs.length->(∀ w∈l,w.addr.toNat≠a)->(CL cs l).getD a cz=cs.getD a cz
 | [],_,_,_,_=>rfl
 | w::l,cs,a,ha,h=>by
  have hs:=Gj cs w a ha;rw [if_neg (fun e=>h w (by simp) e.1)] at hs;show (CL (F0 cs w) l).getD a cz=_;rw [finL_miss l (F0 cs w) a (by rw [GQ];exact ha) (fun x hx=>h x (Bh _ hx)),hs]
theorem finL_stuck:∀ (l:List Wr) (cs:List Cel) (a:Nat),a<cs.length->(cs.getD a cz).state=2->(CL cs l).getD a cz=cs.getD a cz
 | [],_,_,_,_=>rfl
 | w::l,cs,a,ha,h=>by
  have hs:=Gj cs w a ha;rw [if_neg (fun e=>e.2 h)] at hs;show (CL (F0 cs w) l).getD a cz=_;rw [finL_stuck l (F0 cs w) a (by rw [GQ];exact ha) (by rw [hs];exact h),hs]
theorem finL_any:∀ (l:List Wr) (cs:List Cel) (a:Nat),a<cs.length->(CL cs l).getD a cz=cs.getD a cz\/(cs.getD a cz).state≠2/\((CL cs l).getD a cz).state=0/\∃ w∈l,w.addr.toNat=a/\((CL cs l).getD a cz).bytes=w.bytes
 | [],_,_,_=> .inl rfl
 | w::l,cs,a,ha=>by
  have hs:=Gj cs w a ha;have ih:=finL_any l (F0 cs w) a (by rw [GQ];exact ha);by_cases e:w.addr.toNat=a/\(cs.getD a cz).state≠2
  ·rw [if_pos e] at hs;rcases ih with ih | ⟨h1,h2,x,hx,h3,h4⟩
   ·refine .inr ⟨e.2,?_,w,by simp,e.1,?_⟩
    ·show ((CL (F0 cs w) l).getD a cz).state=0;rw [ih,hs]
    ·show ((CL (F0 cs w) l).getD a cz).bytes=_;rw [ih,hs]
   ·exact .inr ⟨e.2,h2,x,Bh _ hx,h3,h4⟩
  ·rw [if_neg e] at hs;rcases ih with ih | ⟨h1,h2,x,hx,h3,h4⟩
   ·exact .inl (ih.trans hs)
   ·exact .inr ⟨by rw [hs] at h1;exact h1,h2,x,Bh _ hx,h3,h4⟩
theorem MA {F:List UInt8}:∀ (l:List Wr) (cs:List Cel) (a:Nat),a<cs.length->(cs.getD a cz).state≠2->(∀ w∈l,w.addr.toNat=a->w.bytes=F)->(∃ w∈l,w.addr.toNat=a)\/((cs.getD a cz).state=0/\(cs.getD a cz).bytes=F)->((CL cs l).getD a cz).state=0/\((CL cs l).getD a cz).bytes=F
 | [],cs,a,_,_,_,h=>by
  grind [CL]
 | w::l,cs,a,ha,h2,hF,h=>by
  have hs:=Gj cs w a ha;have f:a<(F0 cs w).length:=by rw [GQ];exact ha
  show ((CL (F0 cs w) l).getD a cz).state=0/\((CL (F0 cs w) l).getD a cz).bytes=F;by_cases e:w.addr.toNat=a
  ·rw [if_pos ⟨e,h2⟩,hF w (by simp) e] at hs;exact MA l (F0 cs w) a f (by rw [hs];show (0:Int)≠2;decide) (fun x hx=>hF x (Bh _ hx)) (.inr (by rw [hs];exact tA))
  ·rw [if_neg (fun q=>e q.1)] at hs;refine MA l (F0 cs w) a f (by rw [hs];exact h2) (fun x hx=>hF x (Bh _ hx)) ?_
   grind
theorem finL_free:∀ (l:List Wr) (cs cs0:List Cel),(∀ a,(cs.getD a cz).state=2↔(cs0.getD a cz).state=2)->CL cs (l.filter (free cs0))=CL cs l
 | [],_,_,_=>rfl
 | w::l,cs,cs0,h=>by
  have f:∀ a,((F0 cs w).getD a cz).state=2↔(cs0.getD a cz).state=2:=fun a=>by
   rw [<-h a];by_cases ha:a<cs.length
   ·rw [Gj cs w a ha]
    grind
   ·rw [Ac,Ac,AL (by rw [GQ];omega),AL (by omega)]
  show _=CL (F0 cs w) l;rw [List.filter_cons];by_cases hf:free cs0 w=true
  ·rw [if_pos hf];exact finL_free l (F0 cs w) cs0 f
  ·rw [if_neg hf];have:F0 cs w=cs:=by
    unfold F0;rw [if_pos];simp only [free,decide_eq_true_eq,Decidable.not_not] at hf
    grind
   rw [this];exact finL_free l cs cs0 h
theorem J5 {d:Dk} {l:List Wr} (h:Lv d (l.length+1)) (hc:d.cache=[]) (hl:l.length<=2000):d.putAll l=(⟨CL d.cells l, [],(d.tick (l.length+1)).reqs,(d.tick (l.length+1)).left⟩,(l.filter (free d.cells)).length,false):=by
 have hw:=O_ (h.le (show l.length<=l.length+1 by omega)) (by rw [hc];simpa using hl);have h1:=Jl (a:=l.length) (b:=1) h;have h2:=h1.l;rw [hc,B7] at hw;unfold Dk.putAll;rw [hw];simp only [Co,if_false];rw [if_neg (by show ¬(d.tick l.length).left=0;omega)];have ht:=GC (d:=d) l.length 1 h.r.2 (by have:=h.l;omega);simp only [Prod.mk.injEq,and_true];unfold Dk.flush;rw [allFin_cells];have h3:Lv ⟨d.cells,l.filter (free d.cells),(d.tick l.length).reqs,(d.tick l.length).left⟩ 1:=⟨h1.r,h1.l⟩;have hr:=LN (d:=⟨d.cells,l.filter (free d.cells),(d.tick l.length).reqs,(d.tick l.length).left⟩) h3.r (by show (d.tick l.length).left≠0;omega) (by show (d.tick l.length).left<0\/1<=(d.tick l.length).left;omega);rw [hr,<-ht];show (⟨CL d.cells (l.filter (free d.cells)), [],_,_⟩:Dk)=_;rw [finL_free l d.cells d.cells fun _=>Iff.rfl];try rfl
structure Gw (n:Int) (d:Dk) (F:Int->List UInt8) (l:List Wr):Prop where
 ok:DkOk d
 left:d.left = -1
 len:(d.cells.length:Int)=n
 cache:d.cache=l
 cell:∀ a:Int,0<=a->a<n->(d.cells.getD a.toNat cz).state=0/\(d.cells.getD a.toNat cz).bytes=F a
 old:∀ a:Int,0<=a->a<n->(d.cells.getD a.toNat cz).old=F (-1 - a)
abbrev Gd (n:Int) (d:Dk) (F:Int->List UInt8):Prop:=Gw n d F []
def YP (F:Int->List UInt8) (w:Wr) (a:Int):List UInt8:=if 0<=a then (if w.addr=a then w.bytes else F a) else if w.addr = -1 - a then F w.addr else F a
def ML (F:Int->List UInt8) (l:List Wr):Int->List UInt8:=l.foldl YP F
theorem L2 {F:Int->List UInt8} (l:List Wr) (w:Wr):ML F (l ++ [w])=YP (ML F l) w:=by
 unfold ML;rw [BR];try rfl
theorem Gw.req {n:Int} {d:Dk} {F:Int->List UInt8} {l:List Wr} (h:Gw n d F l):Gw n d.req F l:=
 ⟨h.ok.req,by unfold Dk.req;rw [h.left];try rfl,h.len,h.cache,h.cell,h.old⟩
theorem Gd.got {n:Int} {d:Dk} {F:Int->List UInt8} (h:Gd n d F) {a:Int} (h0:0<=a) (h1:a<n):d.got a=(F a,0):=by
 have:=Holds.got ⟨h.len,h.cache,h.cell⟩ h0 h1;unfold Up at this;injection this with e1 e2
 exact Prod.ext e2 e1
theorem Gd.read {n:Int} {d:Dk} {F:Int->List UInt8} (h:Gd n d F) {a:Int} (h0:0<=a) (h1:a<n):d.read a=(d.req,F a,0):=by
 unfold Dk.read;rw [if_neg (by rw [h.left];decide),h.got h0 h1]
theorem Gw.write {n:Int} {d:Dk} {F:Int->List UInt8} {l:List Wr} (h:Gw n d F l) (hl:l.length<2000) {a:Int} (h0:0<=a) (h1:a<n) {b:List UInt8} (hb:b.length<=200):(d.write a b).2=0/\Gw n (d.write a b).1 F (l ++ [⟨a,b⟩]):=by
 have hw:=h.ok.write (a:=a) (b:=b) (by rw [<-h.len] at h1;omega) hb;have e:d.write a b=({ d.req with cache:=d.cache ++ [⟨a,b⟩] },0):=by
  unfold Dk.write;rw [if_neg (by rw [h.left];decide),if_neg];rintro(h2 | h2)
  ·have:=(h.cell a h0 h1).1;unfold cz at this;omega
  ·rw [h.cache] at h2;omega
 rw [e] at hw |-
 exact⟨rfl,hw,h.req.left,h.len,by rw [h.cache],h.cell,h.old⟩
theorem OI {cs:List Cel} {F:Int->List UInt8} {a:Int} (h0:0<=a) (h1:a.toNat<cs.length) (hc:(cs.getD a.toNat cz).state=0/\(cs.getD a.toNat cz).bytes=F a):∀ (n:Nat) (l:List Wr),l.length=n->(∀ w∈l,0<=w.addr)->((CL cs l).getD a.toNat cz).state=0/\((CL cs l).getD a.toNat cz).bytes=ML F l a
 | 0,l,hn,_=>by
  obtain rfl:=AT.1 hn;exact hc
 | n+1,l,hn,hw=>by
  rcases CO l with rfl | ⟨m,w,rfl⟩
  ·cases hn
  ·have ih:=OI h0 h1 hc n m (by simpa using hn) (fun x hx=>hw x (by simp [hx]));have f:=hw w (by simp);have e:CL cs (m ++ [w])=F0 (CL cs m) w:=by unfold CL;rw [BR];try rfl
   have e2:=Gj (CL cs m) w a.toNat (by rw [finL_len];exact h1);rw [CP,e,e2,L2];unfold YP;rw [if_pos h0];by_cases hA:w.addr=a
   ·rw [if_pos hA,if_pos ⟨by rw [hA],by rw [ih.1];decide⟩];exact tA
   ·rw [if_neg hA,if_neg (fun h=>hA (by have:=h.1;omega))];exact ih
theorem SH {cs:List Cel} {F:Int->List UInt8} {a:Int} (h0:0<=a) (h1:a.toNat<cs.length) (hc:(cs.getD a.toNat cz).state=0/\(cs.getD a.toNat cz).bytes=F a) (ho:(cs.getD a.toNat cz).old=F (-1 - a)):∀ (n:Nat) (l:List Wr),l.length=n->(∀ w∈l,0<=w.addr)->((CL cs l).getD a.toNat cz).old=ML F l (-1 - a)
 | 0,l,hn,_=>by
  obtain rfl:=AT.1 hn;exact ho
 | n+1,l,hn,hw=>by
  rcases CO l with rfl | ⟨m,w,rfl⟩
  ·cases hn
  ·have ih:=SH h0 h1 hc ho n m (by simpa using hn) (fun x hx=>hw x (by simp [hx]));have iu:=OI h0 h1 hc n m (by simpa using hn) (fun x hx=>hw x (by simp [hx]));have f:=hw w (by simp);have e:CL cs (m ++ [w])=F0 (CL cs m) w:=by unfold CL;rw [BR];try rfl
   have e2:=Gj (CL cs m) w a.toNat (by rw [finL_len];exact h1);rw [CP,e,e2,L2];unfold YP;rw [if_neg (show ¬(0:Int)<= -1 - a by omega),show -1 - (-1 - a)=a by omega];by_cases hA:w.addr=a
   ·rw [if_pos hA,if_pos ⟨by rw [hA],by rw [iu.1];decide⟩,hA];exact iu.2
   ·rw [if_neg hA,if_neg (fun h=>hA (by have:=h.1;omega))];exact ih
theorem Gw.flush {n:Int} {d:Dk} {F:Int->List UInt8} {l:List Wr} (h:Gw n d F l):Gd n d.flush (ML F l):=by
 have e:d.flush=⟨CL d.cells l, [],d.req.reqs,d.req.left⟩:=by
  unfold Dk.flush;rw [allFin_cells,h.cache];try rfl
 have ho:=h.ok.flush;rw [e] at ho |-
 have hl:=h.len;have f:∀ w∈l,0<=w.addr:=fun w hw=>by
  rw [<-h.cache] at hw;exact(h.ok.w w hw).1.1
 exact⟨ho,h.req.left,by show ((CL d.cells l).length:Int)=n;rw [finL_len];exact h.len,rfl,fun a h0 h1=>OI h0 (by omega) (h.cell a h0 h1) _ l rfl f,fun a h0 h1=>SH h0 (by omega) (h.cell a h0 h1) (h.old a h0 h1) _ l rfl f⟩
theorem ba (g:Geo) (s:Stt) (n:Int) (d:Dk) (F:Int->List UInt8) (a:Int) (h:Gd n d F) (ha:0<=a/\a<n) :
  ACalls Tryz.prog false 126 [.bp 0 0,iv a] (Fo g s 0 d) fun r H=>r = .ag (Dt ⟨0,F a⟩)/\∃ d',Gd n d' F/\H=Fo g s 0 d':=by
 have hr:=XA g s d a h.ok (by have:=h.len;omega);rw [h.read ha.1 ha.2,if_neg (by rw [h.left];decide)] at hr;exact hr.mono fun r H ⟨e1,e2⟩=>⟨e1,d.req,h.req,e2⟩
theorem ZU (g:Geo) (s:Stt) (n:Int) (d:Dk) (F:Int->List UInt8) (l:List Wr) (a:Int) (b:List UInt8) (h:Gw n d F l) (hl:l.length<2000) (ha:0<=a/\a<n) (hb:b.length<=200) :
  ACalls Tryz.prog false 129 [.bp 0 0,iv a,bA b] (Fo g s 0 d) fun r H=>r = .v (.bool true)/\∃ d',Gw n d' F (l ++ [⟨a,b⟩])/\H=Fo g s 0 d':=by
 have hr:=X8 g s d a b h.ok (by have:=h.len;omega) hb;obtain⟨e0,hw⟩:=h.write hl ha.1 ha.2 hb;rw [e0] at hr;exact hr.mono fun r H ⟨e1,e2⟩=>⟨e1,_,hw,e2⟩
theorem bk (g:Geo) (s:Stt) (n:Int) (d:Dk) (F:Int->List UInt8) (l:List Wr) (h:Gw n d F l) :
  ACalls Tryz.prog false 130 [.bp 0 0] (Fo g s 0 d) fun r H=>r = .tp []/\∃ d',Gd n d' (ML F l)/\H=rwP g s 0 d':=by
 have hr:=XG g s 0 d h.ok;rw [if_pos rfl,if_pos rfl,if_neg (by rw [h.left];decide),if_neg (by rw [h.left];decide)] at hr;exact hr.mono fun r H ⟨e1,e2⟩=>⟨e1,_,h.flush,e2⟩
theorem Pd {F:Int->List UInt8} {a:Int} (h0:0<=a):∀ (n:Nat) (l:List Wr),l.length=n->(∀ w∈l,w.addr≠a)->ML F l a=F a
 | 0,l,hn,_=>by
  obtain rfl:=AT.1 hn;rfl
 | n+1,l,hn,h=>by
  rcases CO l with rfl | ⟨m,w,rfl⟩
  ·rfl
  ·have ih:=Pd (F:=F) h0 n m (by simpa using hn) (fun x hx=>h x (by simp [hx]));rw [CP,L2];unfold YP;rw [if_pos h0,if_neg (h w (by simp))];exact ih
def C7 (g:Geo) (a:An) (seq:Int) (x:Img):List Wr:=if x.what=255 then [⟨AM g x.zone 0,Bk (AM g x.zone 0) seq x.bytes⟩,⟨AM g x.zone 1,Bk (AM g x.zone 1) seq x.bytes⟩] else [⟨Br g a x.zone x.what,Bk (Br g a x.zone x.what) seq x.bytes⟩]
def Cb (g:Geo) (a:An) (seq:Int):List Img->List Wr
 | []=> []
 | x::r=>C7 g a seq x ++ Cb g a seq r
def Cz (a:An) (seq:Int) (x:Img):An:=if x.what=255 then { a with homes:=a.homes.set x.zone.toNat { a.homes.getD x.zone.toNat ⟨[],0,0⟩ with root:=seq } } else a
def BX (a:An) (seq:Int) (l:List Img):An:=l.foldl (fun a x=>Cz a seq x) a
theorem Fq (a:An) (seq:Int) (x:Img):(Cz a seq x).homes.length=a.homes.length:=by unfold Cz;split <;> simp
theorem HK (seq:Int):∀ (l:List Img) (a:An),(BX a seq l).homes.length=a.homes.length
 | [],_=>rfl
 | x::r,a=>by
  show (BX (Cz a seq x) seq r).homes.length=_;rw [HK seq r,Fq]
theorem II (a:An) (seq:Int) (x:Img) (z:Nat) (hz:z<a.homes.length):(Cz a seq x).homes.getD z ⟨[],0,0⟩=if x.what=255/\x.zone.toNat=z then { a.homes.getD z ⟨[],0,0⟩ with root:=seq } else a.homes.getD z ⟨[],0,0⟩:=by
 unfold Cz;by_cases h:x.what=255
 ·rw [if_pos h];by_cases e:x.zone.toNat=z
  ·subst e;rw [if_pos ⟨h,rfl⟩];show (a.homes.set _ _).getD _ _=_;rw [Bu hz]
  ·rw [if_neg (fun q=>e q.2)];show (a.homes.set _ _).getD _ _=_;rw [KD e]
 ·rw [if_neg h,if_neg (fun q=>h q.1)]
theorem RT {g:Geo} {a:An} {seq:Int} {x:Img} {z w:Int} (hz:z.toNat<a.homes.length):Br g (Cz a seq x) z w=Br g a z w:=by
 unfold Br;rw [II a seq x _ hz];split <;> rfl
theorem In {g:Geo} {seq z w:Int}:∀ (l:List Img) {a:An},z.toNat<a.homes.length->Br g (BX a seq l) z w=Br g a z w
 | [],_,_=>rfl
 | x::r,a,hz=>by
  show Br g (BX (Cz a seq x) seq r) z w=_;rw [In r (by rw [Fq];exact hz),RT hz]
theorem IC {seq:Int} {z:Nat}:∀ (l:List Img) {a:An},z<a.homes.length->(∀ x∈l,x.what=255->x.zone.toNat≠z)->(BX a seq l).homes.getD z ⟨[],0,0⟩=a.homes.getD z ⟨[],0,0⟩
 | [],_,_,_=>rfl
 | x::r,a,hz,h=>by
  show (BX (Cz a seq x) seq r).homes.getD z _=_;rw [IC r (by rw [Fq];exact hz) (fun y hy=>h y (Bh _ hy)),II a seq x z hz,if_neg (fun q=>h x (by simp) q.1 q.2)]
theorem K9 {seq:Int} {z:Nat}:∀ (l:List Img) {a:An},z<a.homes.length->(∃ x∈l,x.what=255/\x.zone.toNat=z)->((BX a seq l).homes.getD z ⟨[],0,0⟩).root=seq
 | x::r,a,hz,⟨y,hy,h1,h2⟩=>by
  show ((BX (Cz a seq x) seq r).homes.getD z _).root=_;by_cases hr:∃ x∈r,x.what=255/\x.zone.toNat=z
  ·exact K9 r (by rw [Fq];exact hz) hr
  ·rcases Bd.1 hy with rfl | q
   ·rw [IC r (by rw [Fq];exact hz) (fun x hx e1 e2=>hr ⟨x,hx,e1,e2⟩),II a seq y z hz,if_pos ⟨h1,h2⟩]
   ·exact absurd ⟨y,q,h1,h2⟩ hr
theorem SU {g:Geo} {a:An} {seq:Int} {x:Img} (ha:Bj g a=true) (hs:0<=seq/\seq<=4294967295):Bj g (Cz a seq x)=true:=by
 unfold Cz;split
 ·by_cases hi:x.zone.toNat<a.homes.length
  ·simp only [Bj,Af,decide_eq_true_eq,Av] at ha |-
   obtain⟨q1,q2,q3,q4,q5,q6,q7⟩:=ha;refine⟨q1,q2,q3,q4,q5,by rw [AX];exact q6,fun y hy=>?_⟩;rcases Cu hy with h | rfl
   ·exact q7 y h
   ·have hh:=q7 _ (A3 (d:=(⟨[],0,0⟩:Hm)) hi);simp only [Ed,Af] at hh |-
    exact⟨hh.1,hh.2.1,AE.2 hs,hh.2.2.2⟩
  ·rw [List.set_eq_of_length_le (by omega)];exact ha
 ·exact ha
theorem GY {g:Geo} {seq:Int} (hs:0<=seq/\seq<=4294967295):∀ (l:List Img) {a:An},Bj g a=true->Bj g (BX a seq l)=true
 | [],_,h=>h
 | x::r,_,h=>GY hs r (SU h hs)
def Ch (g:Geo) (a:An) (x:Tx):An:={ BX a x.seq x.images with gen:=a.gen+1,pos:=(x.pos+x.n).tmod g.sl,seq:=a.seq+1,last:=max a.last a.seq }
theorem FN (seq:Int):∀ (l:List Img) (a:An),(BX a seq l).gen=a.gen/\(BX a seq l).epoch=a.epoch/\(BX a seq l).pos=a.pos/\(BX a seq l).seq=a.seq/\(BX a seq l).last=a.last/\(BX a seq l).label=a.label
 | [],_=>tA
 | x::r,a=>by
  obtain⟨h1,h2,h3,h4,h5,h6⟩:=FN seq r (Cz a seq x);have e:(Cz a seq x).gen=a.gen/\(Cz a seq x).epoch=a.epoch/\(Cz a seq x).pos=a.pos/\(Cz a seq x).seq=a.seq/\(Cz a seq x).last=a.last/\(Cz a seq x).label=a.label:=by unfold Cz;split <;> exact tA
  obtain⟨e1,e2,e3,e4,e5,e6⟩:=e;exact⟨h1.trans e1,h2.trans e2,h3.trans e3,h4.trans e4,h5.trans e5,h6.trans e6⟩
theorem Jq {g:Geo} {a:An} {x:Tx} (hg:Bq g=true) (ha:Bj g a=true) (h1:a.gen<4294967295) (h2:a.seq<4294967295) (hx:x.seq=a.seq) (hp:0<=x.pos) (hn:0<=x.n):Bj g (Ch g a x)=true:=by
 obtain⟨g1,g2,g3,g4,g5⟩:=Aq.1 hg;have hh:=ha;simp only [Bj,A_,BB,B3,Af,decide_eq_true_eq,AE] at hh;obtain⟨⟨w1,w2,w3,w4⟩,q2,q3,q4,q5,q6,q7⟩:=hh;have hu:=GY (g:=g) (seq:=x.seq) (by omega) x.images ha;obtain⟨_,e2,_,_,_,e6⟩:=FN x.seq x.images a;simp only [Bj,A_,BB,B3,Af,decide_eq_true_eq,AE] at hu |-
 obtain⟨_,_,_,_,u5,u6,u7⟩:=hu;have h:0<=(x.pos+x.n).tmod g.sl:=Bw _ (by omega);have f:(x.pos+x.n).tmod g.sl<g.sl:=AZ _ (by omega);refine⟨⟨?_,?_,?_,?_⟩,?_,?_,?_,u5,u6,u7⟩
 ·show 0<=a.gen+1/\a.gen+1<=_;omega
 ·show 0<=(BX a x.seq x.images).epoch/\(BX a x.seq x.images).epoch<=_;rw [e2];exact w2
 ·show 0<=a.seq+1/\a.seq+1<=_;omega
 ·show 0<=max a.last a.seq/\max a.last a.seq<=_;omega
 ·show 1<=a.seq+1;omega
 ·show a.seq+1 - 1<=max a.last a.seq;omega
 ·show 0<=(x.pos+x.n).tmod g.sl/\(x.pos+x.n).tmod g.sl<=g.sl - 1;omega
theorem OneTab.eq:∀ {l:List Img} (_:OneTab l) {x y:Img},x∈l->y∈l->x.what=255->y.what=255->x.zone=y.zone->x=y
 | w::l,h,x,y,hx,hy,h1,h2,h3=>by
  obtain⟨q1,q2⟩:=List.pairwise_cons.1 h;rcases Bd.1 hx with ex | mx
  ·rcases Bd.1 hy with ey | my
   ·rw [ex,ey]
   ·rw [ex] at h1 h3;exact absurd h3 (q1 y my h1 h2)
  ·rcases Bd.1 hy with ey | my
   ·rw [ey] at h2 h3;exact absurd h3.symm (q1 x mx h2 h1)
   ·exact OneTab.eq q2 mx my h1 h2 h3
theorem Ho {g:Geo} {a:An} {seq:Int} {w:Wr}:∀ {l:List Img},w∈Cb g a seq l↔∃ x∈l,w∈C7 g a seq x
 | []=>by simp [Cb]
 | x::r=>by
  rw [Cb,A6,Ho];simp
theorem Dh {g:Geo} {x:Img} (h:Bn g x=true):(0<=x.zone/\x.zone<g.z)/\(x.what≠255-> -1<=x.what/\x.what<g.d/\x.bytes.length=8):=by
 simp only [Bn,Af,AE] at h;refine⟨by omega,fun hw=>?_⟩;have h2:=h.2.2;rw [if_neg hw,Af,AE,decide_eq_true_eq] at h2;omega
theorem KQ {g:Geo} {a:An} (ha:Bj g a=true) {z:Int} (hz:0<=z/\z<g.z):z.toNat<a.homes.length/\Ed g (a.homes.getD z.toNat ⟨[],0,0⟩)=true:=by
 simp only [Bj,Af,decide_eq_true_eq,Av] at ha;obtain⟨_,_,_,_,_,q6,q7⟩:=ha;have hi:z.toNat<a.homes.length:=by omega
 exact⟨hi,q7 _ (A3 (d:=(⟨[],0,0⟩:Hm)) hi)⟩
theorem FJ {g:Geo} (hg:Bq g=true) {a:An} (ha:Bj g a=true) {z w:Int} (hz:0<=z/\z<g.z) (hw : -1<=w/\w<g.d):∃ s,Br g a z w=Cm g z s/\0<=s/\s<Cv g:=by
 obtain⟨g1,g2,g3,g4,g5⟩:=Aq.1 hg;obtain⟨hi,hh⟩:=KQ ha hz;simp only [Ed,Af,decide_eq_true_eq,AE] at hh;obtain⟨p1,p2,p3,p4⟩:=hh;have f:0<=EJ g w/\EJ g w<=g.d:=by unfold EJ;split <;> omega
 refine⟨_,rfl,?_⟩;have hk:(EJ g w).toNat<(a.homes.getD z.toNat ⟨[],0,0⟩).places.length:=by omega
 have hp:=Av.1 p4 (EJ g w).toNat (by simpa using hk);simp only [Af,AE] at hp;unfold Cv;omega
theorem EV {g:Geo} (hg:Bq g=true) {z s:Int} (hz:0<=z/\z<g.z) (hs:0<=s/\s<Cv g):g.an+2*g.sl+2*g.z<=Cm g z s/\Cm g z s<Ar g:=by
 obtain⟨g1,g2,g3,g4,g5⟩:=Aq.1 hg;have hp:=Hi hg;have h1:=GX hg (z:=z) (by omega);have h2:z*Cv g+Cv g<=g.z*Cv g:=by
  have:=Cq (show z+1<=g.z by omega) (show 0<=Cv g by omega);rw [Int.add_mul,Int.one_mul] at this;exact this
 unfold Cm Ar;omega
theorem G7 {g:Geo} (hg:Bq g=true) {z k:Int} (hz:0<=z/\z<g.z) (hk:0<=k/\k<=1):g.an+2*g.sl<=AM g z k/\AM g z k<g.an+2*g.sl+2*g.z/\AM g z k<Ar g:=by
 obtain⟨g1,g2,g3,g4,g5⟩:=Aq.1 hg;have hp:=Hi hg;have h1:=GX hg (z:=g.z) (by omega);unfold AM Ar;omega
theorem Wi {g:Geo} (hg:Bq g=true) {a:An} (ha:Bj g a=true) {x:Img} (hx:Bn g x=true) {seq:Int} {w:Wr} (hw:w∈C7 g a seq x):(x.what=255/\∃ k,(k=0\/k=1)/\w=⟨AM g x.zone k,Bk (AM g x.zone k) seq x.bytes⟩)\/(x.what≠255/\(∃ s,w.addr=Cm g x.zone s/\0<=s/\s<Cv g)/\w=⟨Br g a x.zone x.what,Bk (Br g a x.zone x.what) seq x.bytes⟩):=by
 obtain⟨hz,hb⟩:=Dh hx;unfold C7 at hw;split at hw
 ·rename_i h;rcases Bd.1 hw with rfl | hw
  ·exact .inl ⟨h,0, .inl rfl,rfl⟩
  ·rw [A2] at hw;exact .inl ⟨h,1, .inr rfl,hw⟩
 ·rename_i h;rw [A2] at hw;have f:=hb h;obtain⟨s,e,hs⟩:=FJ (w:=x.what) hg ha hz (by omega);exact .inr ⟨h,⟨s,by rw [hw];exact e,hs⟩,hw⟩
theorem N1 {g:Geo} (hg:Bq g=true) {a:An} (ha:Bj g a=true) {l:List Img} (hl:∀ x∈l,Bn g x=true) {seq:Int}:∀ w∈Cb g a seq l,g.an+2*g.sl<=w.addr/\w.addr<Ar g:=by
 intro w hw;obtain⟨x,hx,f⟩:=Ho.1 hw;obtain⟨hz,_⟩:=Dh (hl x hx);rcases Wi hg ha (hl x hx) f with ⟨_,k,hk,rfl⟩ | ⟨_,⟨s,e,hs⟩,_⟩
 ·have:=G7 hg hz (k:=k) (by omega);exact⟨this.1,this.2.2⟩
 ·have:=EV hg hz hs;have h:=Aq.1 hg;rw [e];omega
theorem VK (g:Geo) (w:Int):Fn Tryz.prog 253 [.ag (AK g),iv w] fun r=>r = iv (EJ g w):=by
 unfold EJ;by_cases h:w = -1
 ·rw [if_pos h];refine zR Tryz.func253 rfl ?_;conv=>whnf
  rw [show (w == -1)=true by simpa using h];exact⟨_,ri,rfl⟩
 ·rw [if_neg h];refine zR Tryz.func253 rfl ?_;conv=>whnf
  rw [show (w == -1)=false by simpa using h];exact⟨_,ri,rfl⟩
theorem LR (g:Geo) (a:An) (z w:Int) (hg:Bq g=true) (ha:Bj g a=true) (hz:0<=z/\z<g.z) (hw : -1<=w/\w<g.d):Fn Tryz.prog 178 [.ag (AK g), .ag (Ek a),iv z,iv w] fun r=>r = iv (Br g a z w):=by
 obtain⟨g1,g2,g3,g4,g5⟩:=Aq.1 hg;obtain⟨hi,hh⟩:=KQ ha hz;simp only [Ed,Af,decide_eq_true_eq,AE] at hh;obtain⟨p1,p2,p3,p4⟩:=hh;have f:0<=EJ g w/\EJ g w<=g.d:=by unfold EJ;split <;> omega
 have hk:(EJ g w).toNat<(a.homes.getD z.toNat ⟨[],0,0⟩).places.length:=by omega
 have hp:=Av.1 p4 (EJ g w).toNat (by simpa using hk);simp only [Af,AE] at hp;have r1:=VK g w;have r2:=LI g z ((a.homes.getD z.toNat ⟨[],0,0⟩).places.getD (EJ g w).toNat 0) hg hz (by unfold Cv;omega);refine zR Tryz.func178 rfl ?_;conv=>whnf
 apply zP tys_ok mixed (.o [0,1,2,3,4,5,6,7,8,9,10,11,12,13,14] .fin) [8,9,10,11,12,13,14,15,16,17,18,19,20,21,22] (by kernel_rfl)
 ·conv=>whnf
  try (refine Ad (by first | omega | exact ixA | exact ixB | (simp;done)) ?_;conv=>whnf)
  refine zY r1 ?_;conv=>whnf
  try (refine Ad (by first | omega | exact ixA | exact ixB | (simp;done)) ?_;conv=>whnf)
  refine zY r2 ?_;exact tA
 exact⟨_,ri,rfl⟩
theorem Pt (g:Geo) (x:Gt) (addr root:Int) (hg:Bq g=true) (hl:x.bytes.length<=100000):Fn Tryz.prog 320 [.ag (AK g), .ag (Dt x),iv addr,iv root] fun r=>r = .tp [.ag [Bm ((BT g x addr root).getD [])], .v (.bool (BT g x addr root).isSome)]:=by
 have h1:=Iu x addr hl;have zs:∀ (c:Ctx) (v:Value),Rd (.tp [.ag [.v (.slice none 0 0)], .v (.bool false)]) c v->Rd (.tp [.ag [Bm []], .v (.bool false)]) c v:=BN (m:= [.ag [Bm []], .v (.bool false)]) ⟨Bf ⟨Bg 3 _,tv⟩,ri,tv⟩;unfold BT;cases hs:BY x addr with
 | none=>
  rw [hs] at h1;refine zR Tryz.func320 rfl ?_;conv=>whnf
  refine zY h1 ?_;exact⟨_,zs,rfl⟩
 | some s=>
  rw [hs] at h1;simp only [BH,Option.isSome_some] at h1;have h2:=LJ g s.pay hg;simp only;by_cases hr:s.stamp=root
  ·rw [if_pos hr];refine zR Tryz.func320 rfl ?_;conv=>whnf
   refine zY h1 ?_;conv=>whnf
   rw [show (s.stamp != root)=false by simpa using hr];conv=>whnf
   refine zY h2 ?_;exact⟨_,ri,rfl⟩
  ·rw [if_neg hr];refine zR Tryz.func320 rfl ?_;conv=>whnf
   refine zY h1 ?_;conv=>whnf
   rw [show (s.stamp != root)=true by simpa using hr];exact⟨_,zs,rfl⟩
theorem T5 (x:Gt) (addr:Int) (e:Ent) (hl:x.bytes.length<=100000):Fn Tryz.prog 321 [.ag (Dt x),iv addr, .ag (Cf e)] fun r=>r = .tp [bA ((D5 x addr e).getD []), .v (.bool (D5 x addr e).isSome)]:=by
 have h1:=Iu x addr hl;have zs:∀ (c:Ctx) (v:Value),Rd (.tp [.v (.slice none 0 0), .v (.bool false)]) c v->Rd (.tp [bA [], .v (.bool false)]) c v:=BN (m:= [bA [], .v (.bool false)]) ⟨Bg 1 _,ri,tv⟩;unfold D5;cases hs:BY x addr with
 | none=>
  rw [hs] at h1;refine zR Tryz.func321 rfl ?_;conv=>whnf
  refine zY h1 ?_;conv=>whnf
  apply zP tys_ok mixed (.o [0,1,2,3,4,5,6,7,8,9,10,11,12,13,14,15,16,17,19,20,18,21,22] .fin) [16,17,18,19,20,21,22,23,24,25,26,27,28,29,30,31,32,33,34,35,36,37,38] (by kernel_rfl)
  ·conv=>whnf
   (skip)
   exact tA
  conv=>whnf
  exact⟨_,zs,rfl⟩
 | some s=>
  rw [hs] at h1;simp only [BH,Option.isSome_some] at h1;have hp:s.pay.length<=100000:=by
   unfold BY at hs;split at hs
   ·obtain rfl:=Option.some.inj hs;unfold CE;simp;omega
   ·cases hs
  have h2:=Jz s.pay (by omega);simp only;by_cases q1:s.stamp=e.stamp
  ·have e1:(s.stamp != e.stamp)=false:=by simpa using q1
   by_cases q2:s.pay.length=8
   ·have e2:((s.pay.length:Int) != 8)=false:=by rw [q2];try rfl
    by_cases q3:((C3 s.pay:Nat):Int)=e.sum
    ·have e3:(((C3 s.pay:Nat):Int) != e.sum)=false:=by simpa using q3
     rw [if_pos ⟨q1,q2,q3⟩];refine zR Tryz.func321 rfl ?_;conv=>whnf
     refine zY h1 ?_;conv=>whnf
     apply zP tys_ok mixed (.o [0,1,2,3,4,5,6,7,8,9,10,11,12,13,14,15,16,17,19,20,18,21,22] .fin) [16,17,18,19,20,21,22,23,24,25,26,27,28,29,30,31,32,33,34,35,36,37,38] (by kernel_rfl)
     ·conv=>whnf
      (rw [e1];(conv=>whnf);rw [e2];(conv=>whnf);refine zY h2 ?_)
      exact tA
     conv=>whnf
     conv=>whnf
     rw [e3];exact⟨_,ri,rfl⟩
    ·have e3:(((C3 s.pay:Nat):Int) != e.sum)=true:=by simpa using q3
     rw [if_neg fun h=>q3 h.2.2];refine zR Tryz.func321 rfl ?_;conv=>whnf
     refine zY h1 ?_;conv=>whnf
     apply zP tys_ok mixed (.o [0,1,2,3,4,5,6,7,8,9,10,11,12,13,14,15,16,17,19,20,18,21,22] .fin) [16,17,18,19,20,21,22,23,24,25,26,27,28,29,30,31,32,33,34,35,36,37,38] (by kernel_rfl)
     ·conv=>whnf
      (rw [e1];(conv=>whnf);rw [e2];(conv=>whnf);refine zY h2 ?_)
      exact tA
     conv=>whnf
     conv=>whnf
     rw [e3];exact⟨_,zs,rfl⟩
   ·have e2:((s.pay.length:Int) != 8)=true:=bne_iff_ne.2 (by omega);rw [if_neg fun h=>q2 h.2.1];refine zR Tryz.func321 rfl ?_;conv=>whnf
    refine zY h1 ?_;conv=>whnf
    apply zP tys_ok mixed (.o [0,1,2,3,4,5,6,7,8,9,10,11,12,13,14,15,16,17,19,20,18,21,22] .fin) [16,17,18,19,20,21,22,23,24,25,26,27,28,29,30,31,32,33,34,35,36,37,38] (by kernel_rfl)
    ·conv=>whnf
     (rw [e1];(conv=>whnf);rw [e2])
     exact tA
    conv=>whnf
    exact⟨_,zs,rfl⟩
  ·have e1:(s.stamp != e.stamp)=true:=bne_iff_ne.2 q1;rw [if_neg fun h=>q1 h.1];refine zR Tryz.func321 rfl ?_;conv=>whnf
   refine zY h1 ?_;conv=>whnf
   apply zP tys_ok mixed (.o [0,1,2,3,4,5,6,7,8,9,10,11,12,13,14,15,16,17,19,20,18,21,22] .fin) [16,17,18,19,20,21,22,23,24,25,26,27,28,29,30,31,32,33,34,35,36,37,38] (by kernel_rfl)
   ·conv=>whnf
    (rw [e1])
    exact tA
   conv=>whnf
   exact⟨_,zs,rfl⟩
theorem Sn (a b:List UInt8) (h:a.length<=b.length) (hl:a.length<=1000000):Fn Tryz.prog 252 [bA a,bA b] fun r=>r=bA (EP a b):=by
 have hx:(EP a b).length=a.length:=by rw [FU];omega
 refine zR Tryz.func252 rfl ?_;conv=>whnf
 refine zU Nat (fun k=>([(0,bA a),(1,bA b),(5, .ow 0 k),(6,iv k)], [.row 5 1 (((EP a b).take k).map Ef)])) (fun k=>k<=a.length) (fun k=>a.length - k) 0 (Aj _)
  ⟨_,_,zC _ _, [(5,5,1)],tA, [0],tA⟩ ?_
 intro k hk;conv=>whnf
 refine A5 (fun h6=>?_) (fun h6=>?_) <;> (repeat rw [Aa] at h6) <;> conv=>whnf
 ·have f:k<a.length:=by omega
  have j:k=(((EP a b).take k).map Ef).length:=by rw [Ab,As];omega
  have i:(((EP a b).take k).map Ef) ++ [[AV.v (.int .u8 (IntKind.u8.wrap (BitVec.ofInt IntKind.u8.bits ((a.getD k 0).toNat:Int) ^^^ BitVec.ofInt IntKind.u8.bits ((b.getD k 0).toNat:Int)).toNat))]]=((EP a b).take (k+1)).map Ef:=by
   rw [QH (a.getD k 0) (b.getD k 0).toNat (b.getD k 0).toNat_lt,UInt8.ofNat_toNat,Ba,Ag (by omega),A8];have e:(EP a b)[k]'(by omega)=a.getD k 0 ^^^ b.getD k 0:=by
    unfold EP;rw [List.getElem_zipWith,Ac,Ac,Ag f,Ag (by omega)];try rfl
   rw [e];try rfl
  repeat' (refine zZ ?_;conv=>whnf)
  apply z8 (0) tys_ok mixed (.o [0,1,2,3,4,5,6,7,8,9,10,11,12] .fin) [5,13,14,15,16,17,18,19,20,21,22,23,24] (by kernel_rfl)
  ·conv=>whnf
   try (refine tI ?_;conv=>whnf)
   try (refine tI ?_;conv=>whnf)
   try (refine tJ ?_;conv=>whnf)
   try (refine tK ?_;conv=>whnf)
   exact tA
  conv=>whnf
  rw [Aa];exact⟨k+1,f,by omega,zS (s:= [0]) ⟨⟨rfl,rfl,rfl,AG (by omega),tv⟩,⟨congrArg (fun z=>some (AB.row 5 1 z)) i,tv⟩,rfl,rfl,rfl,rfl,rfl⟩⟩
 ·have ek:k=a.length:=by omega
  subst ek;rw [<-hx,Aw];refine⟨(by rw [Ab]),?_⟩;exact⟨bA (EP a b),F8 rfl rfl,rfl⟩
theorem J8 {t:List Ent} {had:List (List UInt8)} {i k:Nat} (h:DA t had i k=none):∀ m,k<=m->DA t had i m=none
 | 0,hm=>by
  obtain rfl:k=0:=by omega
  exact h
 | m+1,hm=>by
  by_cases e:k=m+1
  ·exact e ▸ h
  ·rw [DA,J8 h m (by omega)]
def E7 (l:List (List UInt8)):AV:= .sl 1 l.length fun i=> [bA (l.getD i [])]
theorem Ts (g:Geo) (t:List Ent) (had:List (List UInt8)) (i:Nat) (hg:Bq g=true) (ht:(t.length:Int)=g.d+1) (hh:(had.length:Int)=g.d+1) (hb:∀ b∈had,b.length=0\/b.length=8) (hi:(i:Int)<=g.d):Fn Tryz.prog 251 [.ag (AK g), .ag [Bm t],E7 had,iv i] fun r=>r=bA (BO g t had i):=by
 obtain⟨g1,g2,g3,g4,g5⟩:=Aq.1 hg;have N:i<t.length:=by omega
 have F:i<had.length:=by omega
 unfold BO;cases hL:(t.getD i ⟨0,0,false⟩).lost with
 | true=>
  rw [if_pos (show (t.getD i ez).lost=true from hL)];refine zR Tryz.func251 rfl ?_;refine⟨⟨by omega,by omega⟩,?_⟩;conv=>whnf
  rw [Aa,hL];exact⟨bA [],Bg 1 _,rfl⟩
 | false=>
  rw [if_neg (show ¬(t.getD i ez).lost=true by rw [show t.getD i ez=t.getD i ⟨0,0,false⟩ from rfl,hL];decide)];by_cases h0:0<(had.getD i []).length
  ·rw [if_pos h0];have I:=hb _ (A3 (d:= []) F);have h2:=Ew (had.getD i []) (by omega);refine zR Tryz.func251 rfl ?_;refine⟨⟨by omega,by omega⟩,?_⟩;conv=>whnf
   rw [Aa,hL];refine⟨⟨by omega,by omega⟩,?_⟩;conv=>whnf
   rw [Aa,show decide (((had.getD i []).length:Int) > 0)=true from decide_eq_true (by omega)];refine⟨⟨by omega,by omega⟩,?_⟩;conv=>whnf
   rw [Aa];refine zY h2 ?_;exact⟨_,ri,rfl⟩
  ·rw [if_neg h0];have G:(List.replicate 8 [AV.v (.int .u8 0)])=zero8.map Ef:=rfl;refine zR Tryz.func251 rfl ?_;refine⟨⟨by omega,by omega⟩,?_⟩;conv=>whnf
   rw [Aa,hL];refine⟨⟨by omega,by omega⟩,?_⟩;conv=>whnf
   rw [Aa,show decide (((had.getD i []).length:Int) > 0)=false from decide_eq_false (by omega)];refine⟨⟨rfl,by decide,by decide⟩,?_⟩;conv=>whnf
   refine zU (Nat × List UInt8) (fun x=>([(2,E7 had),(3,iv (i:Nat)),(4, .bp 0 0),(5, .bp 1 0),(9,bA x.2),(10,iv (x.1:Nat))], [.box 24 (AK g), .box 145 [Bm t]])) (fun x=>x.1<=g.d.toNat+1/\DA t had i x.1=some x.2) (fun x=>g.d.toNat+1 - x.1) (0,zero8) ⟨Aj _,rfl⟩
    (zI (zQ (zN 9 2 rfl rfl) (zK 9 rfl (F8 (L:=zero8) rfl rfl))) (s:= [0,1]) tA) ?_
   rintro⟨k,b⟩ ⟨hk,hI⟩;simp only at hk hI;have O:=HY hb k b hI;have f:DA t had i (k+1)=if k=i\/(t.getD k ⟨0,0,false⟩).lost=true then some b else if (had.getD k []).length=0 then none else some (EP b (had.getD k [])):=by rw [DA,hI];try rfl
   conv=>whnf
   refine A5 (fun h6=>?_) (fun h6=>?_) <;> (repeat rw [Aa] at h6) <;> conv=>whnf
   ·have K:k<t.length:=by omega
    have C:k<had.length:=by omega
    have u:∀ c,DA t had i (k+1)=some c->∃ x':Nat × List UInt8,(x'.1<=g.d.toNat+1/\DA t had i x'.1=some x'.2)/\g.d.toNat+1 - x'.1<g.d.toNat+1 - k/\x'=(k+1,c):=fun c h=>⟨(k+1,c),⟨by show k+1<=_;omega,h⟩,by show g.d.toNat+1 - (k+1)<_;omega,rfl⟩
    repeat' (refine zZ ?_;conv=>whnf)
    by_cases j:k=i
    ·rw [show (((k:Nat):Int) == ((i:Nat):Int))=true by rw [j];exact beq_self_eq_true _];conv=>whnf
     rw [if_pos (.inl j)] at f;obtain⟨x',h1,h2,rfl⟩:=u b f;exact⟨_,h1,h2,zS (s:= [0,1]) ⟨⟨rfl,rfl,rfl,rfl,rfl,AG (by omega),tv⟩,tA,rfl,rfl,rfl,rfl,rfl⟩⟩
    ·rw [show (((k:Nat):Int) == ((i:Nat):Int))=false by rw [beq_eq_false_iff_ne];omega];refine⟨⟨by omega,by omega⟩,?_⟩;conv=>whnf
     rw [Aa];cases z:(t.getD k ⟨0,0,false⟩).lost with
     | true=>
      conv=>whnf
      rw [if_pos (.inr z)] at f;obtain⟨x',h1,h2,rfl⟩:=u b f;exact⟨_,h1,h2,zS (s:= [0,1]) ⟨⟨rfl,rfl,rfl,rfl,rfl,AG (by omega),tv⟩,tA,rfl,rfl,rfl,rfl,rfl⟩⟩
     | false=>
      conv=>whnf
      rw [if_neg (by rw [z];simp [j])] at f;repeat' (refine zZ ?_;conv=>whnf)
      refine Ad ⟨by show (0:Int)<=(k:Nat);omega,by show ((k:Nat):Int)<_;omega⟩ ?_;conv=>whnf
      rw [show ((((k,b):Nat × List UInt8).1:Nat):Int).toNat=k from Aa k];by_cases h8:(had.getD k []).length=0
      ·rw [show (((had.getD k []).length:Int) == 0)=true by rw [h8];try rfl];conv=>whnf
       rw [if_pos h8] at f;rw [J8 f (g.d.toNat+1) (by omega)];exact⟨bA [],Bg 1 _,rfl⟩
      ·rw [show (((had.getD k []).length:Int) == 0)=false by rw [beq_eq_false_iff_ne];omega];conv=>whnf
       refine Ad ⟨by show (0:Int)<=(k:Nat);omega,by show ((k:Nat):Int)<_;omega⟩ ?_;conv=>whnf
       rw [show ((((k,b):Nat × List UInt8).1:Nat):Int).toNat=k from Aa k];rw [if_neg h8] at f;have J:=hb _ (A3 (d:= []) C);have h2:=Sn b (had.getD k []) (by omega) (by omega);refine zY h2 ?_;conv=>whnf
       obtain⟨x',h1,h2,rfl⟩:=u _ f;exact⟨_,h1,h2,zS (s:= [0,1]) ⟨⟨rfl,rfl,rfl,rfl,rfl,AG (by omega),tv⟩,tA,rfl,rfl,rfl,rfl,rfl⟩⟩
   ·have ek:k=g.d.toNat+1:=by omega
    subst ek;have hs:=Jz b (by omega);rw [hI];simp only;apply zP tys_ok mixed (.o [0,2,3,4,5,6,7,1,8] .fin) [58,59,60,61,62,63,64,65,66] (by kernel_rfl)
    ·conv=>whnf
     try (refine Ad (by first | omega | exact ixA | exact ixB | (simp;done)) ?_;conv=>whnf)
     refine zY hs ?_;exact tA
    conv=>whnf
    conv=>whnf
    rw [Aa];by_cases hq:((C3 b:Nat):Int)=(t.getD i ⟨0,0,false⟩).sum
    ·rw [if_pos (show ((C3 b:Nat):Int)=(t.getD i ez).sum from hq),show (((C3 b:Nat):Int) != (t.getD i ⟨0,0,false⟩).sum)=false by simpa using hq];exact⟨_,ri,rfl⟩
    ·rw [if_neg (show ¬((C3 b:Nat):Int)=(t.getD i ez).sum from hq),show (((C3 b:Nat):Int) != (t.getD i ⟨0,0,false⟩).sum)=true from bne_iff_ne.2 hq];exact⟨bA [],Bg 1 _,rfl⟩
theorem Q_ (g:Geo) (z:Int) (t:List Ent) (par:List UInt8) (at_:Int) (b:List UInt8) (hg:Bq g=true) (ht:FK g t=true) (hp:par.length=8) (hb:b.length=8):Fn Tryz.prog 175 [iv z, .ag [Bm t],bA par,iA [at_],E7 [b]] fun r=>r=D2 (B_ z t par [at_] [b]):=by
 have h1:=Ew par (by omega);have h2:=Ew b (by omega);have hh:=ht;simp only [FK,Af,decide_eq_true_eq,Av] at hh;obtain⟨⟨⟨_,t1⟩,t2⟩,_⟩:=hh;obtain⟨g1,g2,g3,g4,g5⟩:=Aq.1 hg;have h3:=Sd t (by omega) (fun e he=>by have:=t2 e he;simp only [DO,H6,Af,AE] at this;omega);refine zR Tryz.func175 rfl ?_;conv=>whnf
 refine zU Nat (fun k=>([(0,iv z),(2,bA par),(3,iA [at_]),(4,E7 [b]),(6, .bp 0 0),(11, .ow 1 k),(12,iv k)], [.box 145 [Bm t], .row 139 3 ((([⟨z,at_,b⟩]:List Img).take k).map Dz)])) (fun k=>k<=1) (fun k=>1 - k) 0 (by decide)
  ⟨_,_,zC _ _, [(11,139,3)],tA, [0,1],tA⟩ ?_
 intro k hk;conv=>whnf
 refine A5 (fun h6=>?_) (fun h6=>?_) <;> conv=>whnf
 ·have ek:k=0:=by simp only [Ao,Bv] at h6;omega
  subst ek;apply zX (0) tys_ok mixed (.o [0,1,2,3,4,5,6,7,8,9,10,11,12,13,14] .fin) (by kernel_rfl);conv=>whnf
  try (refine tI ?_;conv=>whnf)
  try (refine tI ?_;conv=>whnf)
  refine zY h2 ?_;conv=>whnf
  try (refine tJ ?_;conv=>whnf)
  try (refine tK ?_;conv=>whnf)
  all_goals exact⟨1,by omega,by omega,zS (s:= [0,1]) tA⟩
 ·have ek:k=1:=by simp only [Ao,Bv] at h6;omega
  subst ek;apply zX (0) tys_ok mixed (.o [0,1,2,5,6,3,4,7,8,9,10,11] .fin) (by kernel_rfl);conv=>whnf
  refine zY h1 ?_;conv=>whnf
  refine zY h3 ?_;conv=>whnf
  try (refine tJ ?_;conv=>whnf)
  try (refine tK ?_;conv=>whnf)
  all_goals refine Ad rfl ?_
  all_goals conv=>whnf
  all_goals exact⟨D2 (B_ z t par [at_] [b]),AU (f:=Dz) (B_ z t par [at_] [b]) rfl rfl,rfl⟩
theorem MN (t:List Ent) (ht:t.length<=1000000):ACalls Tryz.prog false 250 [.ag [Bm t]] [] fun r H=>r = .ag [.ow 0 t.length]/\H=[.row 189 3 (t.map Cf)]:=by
 refine zT tys_ok Tryz.func250 rfl rfl (Ae rfl) ?_;refine⟨by omega,?_⟩;exact⟨.ag [.ow 2 t.length], .ag [.ow 0 t.length], [.row 189 3 (t.map Cf)],fun _ _ h=>h,zS (s:= [2]) ⟨tA,⟨congrArg (fun z=>some (AB.row 189 3 z)) (Hh (d:=(⟨0,0,false⟩:Ent)) Cf t),tv⟩,rfl,rfl,rfl,rfl,rfl⟩,rfl,rfl⟩
section
variable (g:Geo) (t:List Ent) (had:List (List UInt8)) (ats:List Int) (bs:List (List UInt8)) (stamp:Int)
def Yo (i k:Nat):List UInt8:=match Eh ats bs i k with
 | some b=>b
 | none=>BO g t had i
def JN (i k:Nat):Ent:=match Eh ats bs i k with
 | some b=>⟨stamp,(C3 b:Nat),false⟩
 | none=>t.getD i ez
def DI (i:Nat):List Ent:=(List.range i).map (Ia g t had ats bs stamp) ++ t.drop i
theorem J7 {i:Nat} (h:i<=t.length):(DI g t had ats bs stamp i).length=t.length:=by simp [DI];omega
theorem J6 {i:Nat} (h:i<t.length) (e:Ent):(DI g t had ats bs stamp i).set i e=(List.range i).map (Ia g t had ats bs stamp) ++ e::t.drop (i+1):=by
 rw [DI,Dy _ _ (by simp),Ab,BQ,CH,Bt h];try rfl
theorem VP {i:Nat} (h:i<t.length):(DI g t had ats bs stamp i).set i (t.getD i ez)=DI g t had ats bs stamp i:=by
 rw [J6 g t had ats bs stamp h,DI,Bt h,Ac,Ag h];try rfl
theorem GI {i:Nat} (h:i<t.length):(DI g t had ats bs stamp i).set i (Ia g t had ats bs stamp i)=DI g t had ats bs stamp (i+1):=by
 rw [J6 g t had ats bs stamp h,DI,Bp,A8,A7];try rfl
end
theorem Sh {α β:Type} (f:α->β) (l:List α) (i:Nat) (c e:α):((l.set i c).map f).set i (f e)=(l.set i e).map f:=by
 rw [BI,BI,List.set_set]
theorem SB {l:List Ent} {i:Nat} (h:i<l.length) (c:Ent):((l.set i c).map Cf).getD i []=Cf c:=by
 rw [Ac,Bb,AA h];try rfl
theorem Pq (g:Geo) (t:List Ent) (had:List (List UInt8)) (ats:List Int) (bs:List (List UInt8)) (stamp:Int) (hg:Bq g=true) (ht:FK g t=true) (hh:(had.length:Int)=g.d+1) (hb:∀ b∈had,b.length=0\/b.length=8) (hn:ats.length=bs.length) (h8:∀ b∈bs,b.length=8) (hl:ats.length<=1000):Fn Tryz.prog 174 [.ag (AK g), .ag [Bm t],E7 had,iA ats,E7 bs,iv stamp] fun r=>r = .tp [.ag [Bm (Bl g t had ats bs stamp)],bA (D3 g t had ats bs g.d.toNat)]:=by
 obtain⟨g1,g2,g3,g4,g5⟩:=Aq.1 hg;have C:=ht;simp only [FK,Af,decide_eq_true_eq,Av] at C;obtain⟨⟨⟨_,t1⟩,t2⟩,_⟩:=C;have G:=MN t (by omega);refine zR Tryz.func174 rfl ?_;conv=>whnf
 refine zW G rfl ?_;rintro _ _ ⟨rfl,rfl⟩;refine⟨⟨rfl,by decide,by decide⟩,?_⟩;conv=>whnf
 refine zU Nat (fun i=>([(2,E7 had),(3,iA ats),(4,E7 bs),(5,iv stamp),(6, .bp 0 0),(7, .bp 1 0),(12, .bp 2 0),(14, .bp 3 0),(15,bA (D3 g t had ats bs i)),(16,iv (i:Nat))], [.box 24 (AK g), .box 145 [Bm t], .box 145 [.v (.slice none 0 0)], .box 145 [.ow 4 t.length], .row 189 3 ((DI g t had ats bs stamp i).map Cf)])) (fun i=>i<=g.d.toNat) (fun i=>g.d.toNat - i) 0 (Aj _)
  (zI (zQ (zN 15 5 rfl rfl) (zK 15 rfl (F8 (L:=zero8) rfl rfl))) (s:= [0,1,2,4,3]) tA) ?_
 intro i hi;conv=>whnf
 refine A5 (fun h6=>?_) (fun h6=>?_) <;> (repeat rw [Aa] at h6) <;> conv=>whnf
 ·have hk:=Ts g t had i hg t1 hh hb (by omega);have j:i<t.length:=by omega
  have h:=J7 g t had ats bs stamp (Nat.le_of_lt j);refine zY hk ?_;conv=>whnf
  refine zU Nat (fun k=>([(2,E7 had),(3,iA ats),(4,E7 bs),(5,iv stamp),(6, .bp 0 0),(7, .bp 1 0),(12, .bp 2 0),(14, .bp 3 0),(15,bA (D3 g t had ats bs i)),(16,iv (i:Nat)),(17,bA (Yo g t had ats bs i k)),(18,iv (k:Nat))], [.box 24 (AK g), .box 145 [Bm t], .box 145 [.v (.slice none 0 0)], .box 145 [.ow 4 t.length], .row 189 3 (((DI g t had ats bs stamp i).set i (JN t ats bs stamp i k)).map Cf)])) (fun k=>k<=ats.length) (fun k=>ats.length - k) 0 (Aj _)
   (zS (s:= [0,1,2,3,4]) ⟨tA,⟨rfl,rfl,rfl,rfl,congrArg (fun z=>some (AB.row 189 3 z)) (show (DI g t had ats bs stamp i).map Cf=((DI g t had ats bs stamp i).set i (JN t ats bs stamp i 0)).map Cf by rw [show JN t ats bs stamp i 0=t.getD i ez from rfl,VP g t had ats bs stamp j]),tv⟩,rfl,rfl,rfl,rfl,rfl⟩) ?_
  intro k U;conv=>whnf
  refine A5 (fun h7=>?_) (fun h7=>?_) <;> (repeat rw [Aa] at h7) <;> conv=>whnf
  ·have O:k<ats.length:=by omega
   have hp:Eh ats bs i (k+1)=if ats.getD k 0=(i:Int) then some (bs.getD k []) else Eh ats bs i k:=rfl
   repeat' (refine zZ ?_;conv=>whnf)
   refine⟨⟨by omega,by omega⟩,?_⟩;conv=>whnf
   rw [Aa];by_cases hq:ats.getD k 0=(i:Int)
   ·rw [if_pos hq] at hp;rw [show (ats.getD k 0 == ((i:Nat):Int))=true by rw [hq];exact beq_self_eq_true _];refine⟨⟨by omega,by omega⟩,?_⟩;conv=>whnf
    rw [Aa];repeat' (refine zZ ?_;conv=>whnf)
    have V:=h8 _ (A3 (d:= []) (show k<bs.length by omega));have he:=MB stamp (bs.getD k []) (by omega);apply zX (0) tys_ok mixed (.o [0,1,2,3,4,5,6,7] .fin) (by kernel_rfl);conv=>whnf
    refine zY he ?_;conv=>whnf
    try (refine tI ?_;conv=>whnf)
    try (refine tS ?_;conv=>whnf)
    all_goals rw [Aa,SB (by omega)]
    all_goals conv=>whnf
    all_goals exact⟨k+1,by omega,by omega,WkN.r (s:= [0,1,2,3,4]) ⟨⟨rfl,rfl,rfl,rfl,rfl,rfl,rfl,rfl,rfl,rfl,congrArg bA (by unfold Yo;rw [hp]),AG (by omega),tv⟩,⟨rfl,rfl,rfl,rfl,congrArg (fun z=>some (AB.row 189 3 z)) (show (((DI g t had ats bs stamp i).set i (JN t ats bs stamp i k)).map Cf).set i (Cf ⟨stamp,(C3 (bs.getD k []):Nat),false⟩)=((DI g t had ats bs stamp i).set i (JN t ats bs stamp i (k+1))).map Cf by rw [Sh];unfold JN;rw [hp]),tv⟩,rfl,rfl,rfl,rfl,rfl⟩⟩
   ·rw [if_neg hq] at hp;rw [show (ats.getD k 0 == ((i:Nat):Int))=false by rw [beq_eq_false_iff_ne];exact hq];conv=>whnf
    exact⟨k+1,by omega,by omega,WkN.r (s:= [0,1,2,3,4]) ⟨⟨rfl,rfl,rfl,rfl,rfl,rfl,rfl,rfl,rfl,rfl,congrArg bA (by unfold Yo;rw [hp]),AG (by omega),tv⟩,⟨rfl,rfl,rfl,rfl,congrArg (fun z=>some (AB.row 189 3 z)) (show ((DI g t had ats bs stamp i).set i (JN t ats bs stamp i k)).map Cf=((DI g t had ats bs stamp i).set i (JN t ats bs stamp i (k+1))).map Cf by unfold JN;rw [hp]),tv⟩,rfl,rfl,rfl,rfl,rfl⟩⟩
  ·have ek:k=ats.length:=by omega
   subst ek;have eB:Yo g t had ats bs i ats.length=Fk g t had ats bs i:=rfl;rw [eB];by_cases h0:(Fk g t had ats bs i).length=0
   ·rw [show (((Fk g t had ats bs i).length:Int) == 0)=true by rw [h0];try rfl];refine⟨⟨by omega,by omega⟩,?_⟩;refine⟨⟨rfl,by rw [Ab,AX,h],by omega⟩,?_⟩;rw [Aa,SB (by omega)];conv=>whnf
    have eP:D3 g t had ats bs (i+1)=D3 g t had ats bs i:=by rw [D3,if_pos h0]
    have eE : { JN t ats bs stamp i ats.length with lost:=true }=Ia g t had ats bs stamp i:=by unfold Ia;simp only;rw [if_pos h0];try rfl
    exact⟨i+1,by omega,by omega,zS (s:= [0,1,2,3,4]) ⟨⟨rfl,rfl,rfl,rfl,rfl,rfl,rfl,rfl,congrArg bA eP.symm,AG (by omega),tv⟩,⟨rfl,rfl,rfl,rfl,congrArg (fun z=>some (AB.row 189 3 z)) (show (((DI g t had ats bs stamp i).set i (JN t ats bs stamp i ats.length)).map Cf).set i (Cf { JN t ats bs stamp i ats.length with lost:=true })=(DI g t had ats bs stamp (i+1)).map Cf by rw [Sh,eE,GI g t had ats bs stamp j]),tv⟩,rfl,rfl,rfl,rfl,rfl⟩⟩
   ·rw [show (((Fk g t had ats bs i).length:Int) == 0)=false by rw [beq_eq_false_iff_ne];omega];have N:=L_ (g:=g) (t:=t) (had:=had) (ats:=ats) (bs:=bs) hb h8 (by omega) i;have J:=EB (g:=g) (t:=t) (had:=had) (ats:=ats) (bs:=bs) hb h8 (by omega) i;have F:=Sn (D3 g t had ats bs i) (Fk g t had ats bs i) (by omega) (by omega);conv=>whnf
    refine zY F ?_;conv=>whnf
    have eP:D3 g t had ats bs (i+1)=EP (D3 g t had ats bs i) (Fk g t had ats bs i):=by rw [D3,if_neg h0]
    have eE:JN t ats bs stamp i ats.length=Ia g t had ats bs stamp i:=by unfold Ia;simp only;rw [if_neg h0];try rfl
    rw [<-eP];exact⟨i+1,by omega,by omega,zS (s:= [0,1,2,3,4]) ⟨⟨rfl,rfl,rfl,rfl,rfl,rfl,rfl,rfl,rfl,AG (by omega),tv⟩,⟨rfl,rfl,rfl,rfl,congrArg (fun z=>some (AB.row 189 3 z)) (show ((DI g t had ats bs stamp i).set i (JN t ats bs stamp i ats.length)).map Cf=(DI g t had ats bs stamp (i+1)).map Cf by rw [eE,GI g t had ats bs stamp j]),tv⟩,rfl,rfl,rfl,rfl,rfl⟩⟩
 ·have ei:i=g.d.toNat:=by omega
  subst ei;have K:=EB (g:=g) (t:=t) (had:=had) (ats:=ats) (bs:=bs) hb h8 (by omega) g.d.toNat;have he:=MB stamp (D3 g t had ats bs g.d.toNat) (by omega);apply zX (0) tys_ok mixed (.o [0,1,2,3,4,5,6,7,8] .fin) (by kernel_rfl);conv=>whnf
  refine zY he ?_;conv=>whnf
  try (refine tI ?_;conv=>whnf)
  try (refine tS ?_;conv=>whnf)
  have u:g.d.toNat<t.length:=by omega
  have h:=J7 g t had ats bs stamp (Nat.le_of_lt u);have eW:(DI g t had ats bs stamp g.d.toNat).set g.d.toNat ⟨stamp,(C3 (D3 g t had ats bs g.d.toNat):Nat),false⟩=Bl g t had ats bs stamp:=by
   rw [J6 g t had ats bs stamp u,Bl,AC (by omega)]
  have I:((DI g t had ats bs stamp g.d.toNat).map Cf).getD g.d.toNat []=Cf ((DI g t had ats bs stamp g.d.toNat).getD g.d.toNat ez):=AY (by omega);all_goals refine Ad ⟨rfl,by rw [Ab,h],u⟩ ?_
  all_goals rw [I]
  all_goals conv=>whnf
  have eR:((DI g t had ats bs stamp g.d.toNat).map Cf).set g.d.toNat (Cf ⟨stamp,(C3 (D3 g t had ats bs g.d.toNat):Nat),false⟩)=(Bl g t had ats bs stamp).map Cf:=by rw [<-BI,eW]
  have eN:(Bl g t had ats bs stamp).length=t.length:=by simp [Bl];omega
  all_goals refine Ad (by rw [AX,Ab,h]) ?_
  all_goals conv=>whnf
  all_goals exact⟨.tp [.ag [Bm (Bl g t had ats bs stamp)],bA (D3 g t had ats bs g.d.toNat)],BN ⟨Bf ⟨AU (f:=Cf) (Bl g t had ats bs stamp) eN.symm eR,tv⟩,ri,tv⟩,rfl⟩
inductive TrJ where
 | fin
 | jump (k:Nat)
 | one (i:Nat) (r:TrJ)
 | non
 | alt (i:Nat) (a:TrJ) (r:TrJ)
def TrJ.o (l:List Nat) (t:TrJ):TrJ:=l.foldr .one t
abbrev Seg:=List Nat × Nat × TrJ
def segGet:List Seg->Nat->Option Seg
 | [],_=>none
 | x::_,0=>some x
 | _::r,k+1=>segGet r k
def TrJ.depth (sg:List Seg):TrJ->Nat
 | .fin=>0
 | .jump k=>match segGet sg k with | some s=>s.2.1 | none=>0
 | .one _ r=>r.depth sg+1
 | .non=>0
 | .alt _ a r=>max (a.depth sg+1) (r.depth sg)
def TrJ.alts:TrJ->List Nat
 | .alt i _ r=>i::r.alts
 | _=> []
def eqB:List Bool->List Bool->Bool
 | [], []=>true
 | a::l,b::m=>(a == b)&&eqB l m
 | _,_=>false
theorem eqB_eq:∀ {l m:List Bool},eqB l m=true->l=m
 | [], [],_=>rfl
 | a::l,b::m,h=>by
  simp only [eqB,Af,beq_iff_eq] at h;rw [h.1,eqB_eq h.2]
 | [],_::_,h=>by simp [eqB] at h
 | _::_, [],h=>by simp [eqB] at h
def eqN:List Nat->List Nat->Bool
 | [], []=>true
 | a::l,b::m=>Nat.beq a b&&eqN l m
 | _,_=>false
theorem eqN_eq:∀ {l m:List Nat},eqN l m=true->l=m
 | [], [],_=>rfl
 | a::l,b::m,h=>by
  simp only [eqN,Af] at h;rw [Al h.1,eqN_eq h.2]
 | [],_::_,h=>by simp [eqN] at h
 | _::_, [],h=>by simp [eqN] at h
def NV (n:Nat) (s:List Nat):Array Bool:=s.foldl (fun l i=>l.setIfInBounds i true) (Array.replicate n false)
abbrev Sts:=List (Fr × List AB)
def sget:Sts->Nat->Fr × List AB
 | [],_=>([], [])
 | x::_,0=>x
 | _::r,k+1=>sget r k
section
variable {P:Program} {ops:Array Oper} {B:List Nat} {Q:Exit->Act->World->Prop} {mk:Nat}
def Gx (ops:Array Oper) (B:List Nat) (mk:Nat) (sg:List Seg) (me:Nat):TrJ->Bool->Array Bool->Bool
 | .fin,f,l=>f&&(Region.ready .any ops l).isEmpty
 | .jump k,f,l=>f&&Nat.blt me k&&(match segGet sg k with | some s=>eqB l.toList (NV ops.size s.1).toList | none=>false)
 | .one i r,f,l=>f&&(match ops[i]? with
   | none=>false
   | some o=>match isEff o.op with
    | true=>(match Region.ready .any ops l with | [j]=>Nat.beq i j | _=>false)&&(qM mk i o.op || !JB ops B mk i)
    | false=>match mk.testBit i with
     | true=>(match Region.ready .any ops l with | [j]=>Nat.beq i j | _=>false)&&(qM mk i o.op || !JB ops B mk i)
     | false=>Region.free .any ops l i&&(Region.ready .any ops l).contains i)&&Gx ops B mk sg me r true (l.setIfInBounds i true)
 | .non,f,_=>!f
 | .alt i a r,f,l=>(!f || eqN (Region.ready .any ops l) (i::r.alts))&&Lc ops B mk i&&Gx ops B mk sg me a true (l.setIfInBounds i true)&&Gx ops B mk sg me r false l
def PE (P:Program) (T:Tys) (n mk:Nat) (ops:Array Oper) (ds:List Nat) (st:Sts) (K:Fr->List AB->Prop):TrJ->Fr->List AB->Prop
 | .fin,fr,H=>K fr H
 | .jump k,fr,H=>canonK ds fr fun l=>l=(sget st k).1/\H=(sget st k).2
 | .one i r,fr,H=>EU P T n mk ops i fr H fun fr H=>PE P T n mk ops ds st K r fr H
 | .non,_,_=>True
 | .alt i a r,fr,H=>(EU P T n mk ops i fr H fun fr H=>PE P T n mk ops ds st K a fr H)/\PE P T n mk ops ds st K r fr H
def Oy (P:Program) (T:Tys) (n mk:Nat) (ops:Array Oper) (ds:List Nat) (st:Sts) (K:Fr->List AB->Prop):List Seg->Nat->Prop
 | [],_=>True
 | s::r,k=>PE P T n mk ops ds st K s.2.2 (sget st k).1 (sget st k).2/\Oy P T n mk ops ds st K r (k+1)
def Kb (ops:Array Oper) (B:List Nat) (mk:Nat) (sg:List Seg):List Seg->Nat->Bool
 | [],_=>true
 | s::r,k=>Gx ops B mk sg k s.2.2 true (NV ops.size s.1)&&Nat.ble (s.2.2.depth sg) s.2.1&&Kb ops B mk sg r (k+1)
variable {T:Tys} {w0:Fl} {M0:Ms} {n d0:Nat} {ce:Ctx}
theorem LV {ds:List Nat} {st:Sts} {K:Fr->List AB->Prop}:∀ {sg:List Seg} {k0 k:Nat} {s:Seg},Oy P T n mk ops ds st K sg k0->segGet sg k=some s->PE P T n mk ops ds st K s.2.2 (sget st (k0+k)).1 (sget st (k0+k)).2
 | [],_,_,_,_,h=>by simp [segGet] at h
 | x::r,k0,0,s,h,hs=>by
  simp only [segGet,Option.some.injEq] at hs;subst hs;exact h.1
 | x::r,k0,k+1,s,h,hs=>by
  have:=LV (k:=k) h.2 hs;rw [show k0+(k+1)=k0+1+k by omega];exact this
theorem LG {sg0:List Seg}:∀ {sg:List Seg} {k0 k:Nat} {s:Seg},Kb ops B mk sg0 sg k0=true->segGet sg k=some s->Gx ops B mk sg0 (k0+k) s.2.2 true (NV ops.size s.1)=true/\s.2.2.depth sg0<=s.2.1
 | [],_,_,_,_,h=>by simp [segGet] at h
 | x::r,k0,0,s,h,hs=>by
  simp only [segGet,Option.some.injEq] at hs;subst hs;simp only [Kb,Af] at h;exact⟨h.1.1,Ae h.1.2⟩
 | x::r,k0,k+1,s,h,hs=>by
  simp only [Kb,Af] at h;have:=LG (k:=k) h.2 hs;rw [show k0+(k+1)=k0+1+k by omega];exact this
theorem segGet_lt:∀ {sg:List Seg} {k:Nat} {s:Seg},segGet sg k=some s->k<sg.length
 | [],_,_,h=>by simp [segGet] at h
 | _::_,0,_,_=>by simp
 | _::r,k+1,s,h=>by
  have:=segGet_lt (sg:=r) (k:=k) h;simp;omega
def YH (P:Program) (T:Tys) (ops:Array Oper) (B:List Nat) (mk n:Nat) (Q:Exit->Act->World->Prop) (w0:Fl) (M0:Ms) (ce:Ctx) (st:Sts) (sg:List Seg) (k:Nat):Prop:=
 ∀ (s:Seg) (m:Nat) (c:Ctx) (a:Act),segGet sg k=some s->s.2.1<=m->Cl ops (NV ops.size s.1)->HS w0 M0 c (sget st k).2->FR w0 c n (sget st k).1 a->Ext ce c->HeldM P ops B mk Q m (NV ops.size s.1) a c.w
theorem Ft (hT:TOk P T) (hB:G3 ops B=true) (F:Region.noSelect ops=true) {ds:List Nat} {st:Sts} {sg:List Seg} {K:Fr->List AB->Prop} (hq:∀ a w,Em w0 M0 ce n K a w->Q .normal a w) (z:∀ c a w,¬Q (.panic c) a w) {me:Nat} (u:∀ k,me<k->YH P T ops B mk n Q w0 M0 ce st sg k) :
  ∀ (r:TrJ) (m:Nat) (l:Array Bool) (c:Ctx) (fr:Fr) (H:List AB) (a:Act),Cl ops l->HS w0 M0 c H->FR w0 c n fr a->Ext ce c->PE P T n mk ops ds st K r fr H->
   (Gx ops B mk sg me r true l=true->r.depth sg<=m->HeldM P ops B mk Q m l a c.w)/\
   (Gx ops B mk sg me r false l=true->r.depth sg<=m+1->∀ j∈r.alts,j∈Region.ready .any ops l->wpOp P ops Q j (fun a' w'=>(JB ops B mk j=true->Old c.w w')/\HeldM P ops B mk Q m (l.setIfInBounds j true) a' w') a c.w)
 | .fin,m,l,c,fr,H,a,hcl,hs,hf,he,h=>by
  refine⟨fun hd hm=>?_,fun _ _ j hj=>by simp [TrJ.alts] at hj⟩;simp only [Gx,BW,List.isEmpty_iff] at hd;cases m with
  | zero=>exact⟨hd,hq _ _ ⟨c,fr,H,rfl,h,hs,hf,he⟩⟩
  | succ m=>exact⟨fun _=>hq _ _ ⟨c,fr,H,rfl,h,hs,hf,he⟩,by rw [hd];simp⟩
 | .jump k,m,l,c,fr,H,a,hcl,hs,hf,he,h=>by
  refine⟨fun hd hm=>?_,fun _ _ j hj=>by simp [TrJ.alts] at hj⟩;simp only [Gx,BW,Af] at hd;simp only [TrJ.depth] at hm;obtain⟨U,hd⟩:=hd;cases hg:segGet sg k with
  | none=>rw [hg] at hd;simp at hd
  | some s=>
   rw [hg] at hd hm;simp only at hd hm;have hl:l=NV ops.size s.1:=Array.ext' (eqB_eq hd);obtain⟨e1,e2⟩:=canonK_iff h;subst hl;refine u k (Au (Nat.lt_succ_self me) (Ae U)) s m c a hg hm hcl (e2 ▸ hs) (e1 ▸ hf.canon _) he
 | .non,m,l,c,fr,H,a,hcl,hs,hf,he,h=>by
  refine⟨fun hd hm=>by simp [Gx] at hd,fun _ _ j hj=>by simp [TrJ.alts] at hj⟩
 | .alt i x r,m,l,c,fr,H,a,hcl,hs,hf,he,h=>by
  obtain⟨h1,h2⟩:=h;have key:∀ m,TrJ.depth sg (.alt i x r)<=m+1->Lc ops B mk i=true->Gx ops B mk sg me x true (l.setIfInBounds i true)=true->i∈Region.ready .any ops l->wpOp P ops Q i (fun a' w'=>(JB ops B mk i=true->Old c.w w')/\HeldM P ops B mk Q m (l.setIfInBounds i true) a' w') a c.w:=by
   intro m hm hk hx hr;simp only [TrJ.depth] at hm;unfold Lc at hk;split at hk
   ·rename_i o ho;refine F4 hT ho hk hs hf he (fun c' fr' H' a' q1 q2 q3 q4=>(Ft hT hB F hq z u x m _ c' fr' H' a' (hcl.set hr) q1 q2 q3 q4).1 hx (by omega)) h1
   ·cases hk
  refine⟨fun hd hm=>?_,fun hd hm j hj hr=>?_⟩
  ·simp only [Gx,Bool.not_true,Bool.false_or,Af] at hd;obtain⟨⟨⟨hr,hi⟩,hx⟩,hy⟩:=hd;have C:=eqN_eq hr;cases m with
   | zero=>simp only [TrJ.depth] at hm;omega
   | succ m=>
    refine⟨fun h0=>(by rw [C] at h0;cases h0),fun j hj=>?_⟩;have L:=hj;rw [C,Bd] at hj;rcases hj with rfl | hj
    ·exact key m hm hi hx L
    ·refine(Ft hT hB F hq z u r m l c fr H a hcl hs hf he h2).2 hy ?_ j hj L;simp only [TrJ.depth] at hm;omega
  ·simp only [Gx,Bool.not_false,Bool.true_or,BW,Af] at hd;obtain⟨⟨hi,hx⟩,hy⟩:=hd;simp only [TrJ.alts,Bd] at hj;rcases hj with rfl | hj
   ·exact key m hm hi hx hr
   ·refine(Ft hT hB F hq z u r m l c fr H a hcl hs hf he h2).2 hy ?_ j hj hr;simp only [TrJ.depth] at hm;omega
 | .one i r,m,l,c,fr,H,a,hcl,hs,hf,he,h=>by
  refine⟨fun hd hm=>?_,fun _ _ j hj=>by simp [TrJ.alts] at hj⟩;cases m with
  | zero=>simp [TrJ.depth] at hm
  | succ m=>
   simp only [TrJ.depth,Nat.add_le_add_iff_right] at hm;simp only [Gx,BW,Af] at hd;obtain⟨f,N⟩:=hd;simp only [PE] at h;cases ho:ops[i]? with
   | none=>rw [ho] at f;simp at f
   | some o=>
    rw [ho] at f;simp only at f;have only:(match Region.ready .any ops l with | [j]=>Nat.beq i j | _=>false)=true->(qM mk i o.op || !JB ops B mk i)=true->HeldM P ops B mk Q (m+1) l a c.w:=by
     intro hr O;have C:Region.ready .any ops l=[i]:=by
      split at hr
      ·rename_i j hj;rw [hj,Al hr]
      ·cases hr
     have G:i∈Region.ready .any ops l:=by rw [C];simp
     refine⟨fun h0=>(by rw [C] at h0;cases h0),fun j hj=>?_⟩;rw [C,A2] at hj;subst hj;exact F4 hT ho O hs hf he (fun c' fr' H' a' q1 q2 q3 q4=>(Ft hT hB F hq z u r m _ c' fr' H' a' (hcl.set G) q1 q2 q3 q4).1 N hm) h
    cases hE:isEff o.op with
    | true=>
     rw [hE] at f;simp only [Af] at f;exact only f.1 f.2
    | false=>
     rw [hE] at f;dsimp only at f;cases hM:mk.testBit i with
     | true=>
      rw [hM] at f;simp only [Af] at f;exact only f.1 f.2
     | false=>
     rw [hM] at f;simp only [Af] at f;obtain⟨J,hr⟩:=f;have G:i∈Region.ready .any ops l:=by simpa using hr
     simp only [EU,Ey] at h;rw [show ops.toList[i]? = some o by simpa using ho] at h;simp only at h;have step:∀ v fr2,YieldsIf P ops (fun w'=>pureOp o.op=true\/Old c.w w') o v a->FR w0 c n fr2 (a.put o.dst v)->PE P T n mk ops ds st K r fr2 H->HeldM P ops B mk Q (m+1) l a c.w:=by
      intro v fr2 hy V h2;exact HeldM.first1 hB ho hM hE (Region.noSelect_spec F) (fun c a w h=>(z _ _ _ h).elim) m l a c.w hcl (Region.free_spec ho J) G hy
       ((Ft hT hB F hq z u r m _ c fr2 H _ (hcl.set G) hs V he h2).1 N hm)
     rcases DC hf h with ⟨hw,fr',I,h⟩ | ⟨hw,fr',I,h⟩
     ·unfold HM at h;rw [hE] at h;obtain⟨rr,v,h1,h2,h3⟩:=(GR hT hs I h).y;obtain⟨fr2,h4,h5⟩:=C8 I h3 h1;exact step v fr2 (.inl ⟨hw,h2⟩) h5 h4
     ·obtain⟨fr2,h4,h5⟩:=C8 (v:=undef) I (by simp [Rd]) h;exact step undef fr2 (.inr ⟨hw,rfl⟩) h5 h4
theorem LF (hT:TOk P T) (hB:G3 ops B=true) (j:Region.noSelect ops=true) {ds:List Nat} {st:Sts} {sg:List Seg} {K:Fr->List AB->Prop} (hq:∀ a w,Em w0 M0 ce n K a w->Q .normal a w) (f:∀ c a w,¬Q (.panic c) a w) (i:Kb ops B mk sg sg 0=true) (h:Oy P T n mk ops ds st K sg 0):∀ (z k:Nat),sg.length<=z+k->YH P T ops B mk n Q w0 M0 ce st sg k
 | 0,k,hz,s,m,c,a,hg,_,_,_,_,_=>by
  have:=segGet_lt hg;omega
 | z+1,k,hz,s,m,c,a,hg,hm,hcl,hs,hf,he=>by
  obtain⟨h1,h2⟩:=LG i hg;have h3:=LV h hg;rw [A0] at h1 h3;exact(Ft hT hB j hq f (fun k' hk'=>LF hT hB j hq f i h z k' (by omega)) s.2.2 m _ c _ _ a hcl hs hf he h3).1 h1 (by omega)
def YE (ops:Array Oper) (mk:Nat) (sg:List Seg):Bool:=G3 ops (K0 ops)&&Region.noSelect ops&&(match sg with | ([],d,_)::_=>Nat.ble d ops.size | _=>false)&&Kb ops (K0 ops) mk sg sg 0
theorem aDraw.dag (mk:Nat) (hT:TOk P T) (hm:P.follows .mixedOrders=true) {id:Nat} {K:Fr->List AB->Prop} {fr:Fr} {H:List AB} (sg:List Seg) (ds:List Nat) (st:Sts) {F:Fr} {H2:List AB} (i:YE ops mk sg=true)
  (h:Oy P T n mk ops (ds ++ slots fr) ((fr,H)::st) (fun fr' H'=>canonK (ds ++ slots fr) fr' fun l=>l=F/\H'=H2) sg 0) (hk:K F H2):aDraw P T n d0 id ops K fr H:=by
 simp only [YE,Af] at i;obtain⟨⟨⟨hB,u⟩,f⟩,i⟩:=i;refine⟨fun w0 M0 ce c a hs hf he hd Q hQ=>?_⟩;refine wp_mono (Q:=fun e a w=>e = .normal/\Em w0 M0 ce n (fun fr' H'=>canonK (ds ++ slots fr) fr' fun l=>l=F/\H'=H2) a w) ?_ ?_
 ·refine wp_region_any hm (HeldM.any (B:=K0 ops) (mk:=mk) _ _ _ _ ?_);have hb:=(Below.refl c.w.heap.size c.w).drew;obtain⟨h1,h2⟩:=hs.grow hb;have C:Cl ops (Array.replicate ops.size false):=by
   intro j o hj z;rcases Cd j ops.size with h' | h'
   ·simp [h'] at z
   ·simp [BS h'] at hj
  cases sg with
  | nil=>simp at f
  | cons s sg=>
   obtain⟨s1,d,tr⟩:=s;cases s1 with
   | cons _ _=>simp at f
   | nil=>
    exact LF (w0:=w0) (M0:=M0) (ce:=ce) (st:=(fr,H)::st) hT hB u (fun a w hl=>⟨rfl,hl⟩) (fun c a w h=>by cases h.1) i h _ 0 (Ah _) ([],d,tr) _ { c with w:=c.w.drew } a rfl (Ae f) C h1 (hf.ext h2) (he.trans h2)
 ·rintro e a w ⟨rfl,c',fr',H',rfl,h1,h2,h3,h4⟩;obtain⟨e1,rfl⟩:=canonK_iff h1;exact hQ c' F H' a hk h2 (e1 ▸ h3.canon _) h4
end
theorem S3 {d:Dk} (hd:DkOk d) (hl:d.left<0) (k:Nat):Lv d k:=⟨hd.r, .inl hl⟩
theorem Pf (k:Nat) (d:Dk) (l:List Int):BA (d.tick k) l=BA d l:=rfl
theorem finL_two:∀ (l:List Wr) (cs:List Cel) (a:Nat),((CL cs l).getD a cz).state=2↔(cs.getD a cz).state=2:=fun l cs a=>by
 by_cases ha:a<cs.length
 ·by_cases h:(cs.getD a cz).state=2
  ·rw [finL_stuck l cs a ha h]
  ·rcases finL_any l cs a ha with e | ⟨_,e,_⟩
   ·rw [e]
   ·omega
 ·rw [Ac,Ac,AL (by rw [finL_len];omega),AL (by omega)]
theorem Wt (l:List Wr) (cs:List Cel):free (CL cs l)=free cs:=by
 funext w;unfold free;rw [Bool.eq_iff_iff,decide_eq_true_eq,decide_eq_true_eq];exact not_congr (finL_two l cs _)
def Ma (g:Geo) (w:List Wr):Nat:=g.an.toNat+2*g.sl.toNat+(if w=[] then 0 else w.length+1)+(g.an.toNat+1)
theorem O5 {g:Geo} {d:Dk} {a:An} {j:Nat} {L:List Tx} {w:List Wr} (hg:Bq g=true) (hd:DkOk d) (hn:(d.cells.length:Int)=Ar g) (hc:d.cache=[]) (hl:d.left<0) (hp:H5 g (BA d (DT g))=some (a,j)) (hs:GE g a (BA d (BU g 0)) (BA d (BU g 1))=(L,w,0)) (h1:a.gen≠4294967295) (h2:a.epoch≠4294967295) (G:∀ z∈w,OW d.cells.length z) (F:w.length<=900) :
  DK g d=(⟨CL (CL d.cells w) (AD g (DN a L.length)), [],(d.tick (Ma g w)).reqs,d.left⟩,if ((AD g (DN a L.length)).filter (free d.cells)).length=0 then 14 else 0,if ((AD g (DN a L.length)).filter (free d.cells)).length=0 then st0 else AF (DN a L.length) L):=by
 obtain⟨g1,g2,g3,g4,g5⟩:=Aq.1 hg;have I:=Lm hg _ hp;have C:∀ k,d.live k:=fun k=> .inl hl
 have f:∀ k,(d.tick k).left=d.left:=fun k=>if_pos hl
 have hr:=hd.r;unfold DK;rw [if_pos (C _),hp];simp only;unfold Kj;rw [JS _ (S3 hd hl _),if_pos (show (d.tick g.an.toNat).live _ from .inl (by rw [f];exact hl)),Pf,Pf,hs];rw [JS _ (show Lv (d.tick g.an.toNat) (2*g.sl.toNat) from Jl (S3 hd hl _)),GC _ _ hr.2 (.inl hl)];unfold O7;simp only [ne_eq,not_true,if_false];have hm:(d.tick (g.an.toNat+2*g.sl.toNat)).mend w=(⟨CL d.cells w, [],(d.tick (g.an.toNat+2*g.sl.toNat+(if w=[] then 0 else w.length+1))).reqs,d.left⟩,false):=by
  unfold Dk.mend;by_cases hw:w=[]
  ·subst hw;rw [if_pos rfl,if_pos rfl,CU];simp only [Prod.mk.injEq,and_true];show (d.tick _:Dk)=_;unfold Dk.tick;rw [hc,if_pos hl];try rfl
  ·rw [if_neg hw,if_neg hw,J5 (Jl (S3 hd hl _)) hc (by omega),GC _ _ hr.2 (.inl hl)];simp only [f];rfl
 rw [hm];simp only [Co,if_false];unfold O6;rw [if_neg (by rintro(h | h);exact h1 h;exact h2 h)];obtain⟨K,hK⟩:∃ K,K=g.an.toNat+2*g.sl.toNat+(if w=[] then 0 else w.length+1):=⟨_,rfl⟩;rw [<-hK];have u:0<=(d.tick K).reqs/\(d.tick K).reqs<=1048576:=by show 0<=min _ _/\min _ _<=_;omega
 have i:=CY g (DN a L.length);rw [J5 (d:=⟨CL d.cells w, [],(d.tick K).reqs,d.left⟩) ⟨u, .inl hl⟩ rfl (by omega)];simp only [Co,if_false,Wt,i];have e1:((⟨CL d.cells w, [],(d.tick K).reqs,d.left⟩:Dk).tick (g.an.toNat+1)).left=d.left:=if_pos hl;have e2:((⟨CL d.cells w, [],(d.tick K).reqs,d.left⟩:Dk).tick (g.an.toNat+1)).reqs=(d.tick (Ma g w)).reqs:=by
  show min ((d.tick K).reqs+((g.an.toNat+1:Nat):Int)) _=min _ _;show min (min (d.reqs+(K:Nat)) 1048576+((g.an.toNat+1:Nat):Int)) 1048576=min (d.reqs+(Ma g w:Nat)) 1048576;unfold Ma;omega
 grind
theorem LS (g:Geo) (l:List Gt):∀ k,(FG g l k=none->∀ i,i<k->EL g (l.getD i ⟨0, []⟩) (i:Nat)=none)/\∀ a j,FG g l k=some (a,j)->j<k/\EL g (l.getD j ⟨0, []⟩) (j:Nat)=some a/\∀ i b,i<k->EL g (l.getD i ⟨0, []⟩) (i:Nat)=some b->b.gen<=a.gen
 | 0=>⟨fun _ i hi=>by omega,fun a j h=>by cases h⟩
 | k+1=>by
  obtain⟨ih1,ih2⟩:=LS g l k;rw [IM,P9];cases hS:EL g (l.getD k ⟨0, []⟩) (k:Nat) with
  | none=>
   grind
  | some c=>
   grind
theorem RS {g:Geo} {d:Dk} {i:Nat} (hi:i<g.an.toNat):(BA d (DT g)).getD i ⟨0, []⟩=Up d (i:Nat):=by
 rw [BA,AY (d:=0) (by rw [F6];exact hi),NX hi]
theorem QU {g:Geo} {a:An} {i:Nat} (hg:Bq g=true) (ha:Bj g a=true) (hi:(i:Int)<=65535):EL g ⟨0,CZ a i⟩ i=some a:=by
 obtain⟨e1,e2,e3,e4⟩:=GD (K2 hg ha (i:=(i:Nat)) ⟨by omega,hi⟩);unfold EL;rw [if_pos ⟨rfl,e1,e2⟩];show (match Fp g (CE (CZ a i)) with | some a_1=>if a_1.gen=Cr (CZ a i) then some a_1 else none | none=>none)=_;rw [show CE (CZ a i)=KV a from e4,T1 hg ha,show Cr (CZ a i)=a.gen from e3];simp
section
variable {g:Geo} {a:An} {fill:UInt8} {sizes:List Int}
end
theorem GK {g:Geo} {c s:Int} (hc:c=0\/c=1) (hs:0<=s/\s<g.sl):g.an<=Bi g c s/\Bi g c s<g.an+2*g.sl:=by
 unfold Bi
 grind
section
variable {g:Geo} {s:ByteArray} {a:An} {fill:UInt8} {sizes:List Int}
theorem JP {b:An} (hg:Bq g=true) (hb:Bj g b=true) (i:Int):(CZ b i).length<=200:=by
 have:=K3 hg hb;rw [CZ,DR];omega
end
theorem Lh {cs:List Cel} {n:Nat} (h:cs.length=n) {k:Nat} (hk:k<n):(cs.map B4).getD k []=B4 (cs.getD k cz):=AY (by omega)
theorem Xv {g:Geo} (hg:Bq g=true):FK g (ES g)=true:=by
 obtain⟨g1,g2,g3,g4,g5⟩:=Aq.1 hg;have hz:=Is zero8;simp only [FK,hg,ES,BJ,Af,decide_eq_true_eq,BW];refine⟨⟨by omega,?_⟩,?_⟩
 ·rw [Av];intro e he;rw [CW he];simp [DO,ent0,H6,CQ];exact decide_eq_true (by omega)
 ·have:G8 (List.replicate (g.d+1).toNat ent0) g.d.toNat=false:=by
   unfold G8;rw [C_ (by omega)];try rfl
  rw [this];try rfl
theorem Vj {g:Geo} (hg:Bq g=true) {a:Int} (ha:0<=a/\a<=65535):UW a 0 (CM (ES g)):=by
 obtain⟨g1,g2,g3,g4,g5⟩:=Aq.1 hg;refine⟨ha.1,ha.2,DH _,by decide,?_⟩;rw [EQ,ES,BJ];omega
section
variable {g:Geo} {s:ByteArray} {a b:An} {fill:UInt8} {sizes:List Int} {d:Dk}
theorem Mm {F:Int->List UInt8} {n:Int} (h:Holds d n F) (l:List Int) (hl:∀ x∈l,0<=x/\x<n):BA d l=l.map fun x=>⟨0,F x⟩:=by
 unfold BA;refine CJ fun x hx=>?_
 exact h.got (hl x hx).1 (hl x hx).2
theorem Nw (hg:Bq g=true) {c:Int} (hc:c=0\/c=1):∀ x∈BU g c,0<=x/\x<Ar g:=fun x hx=>by
 obtain⟨g1,g2,g3,g4,g5⟩:=Aq.1 hg;have f:=EE hg;simp only [BU,AQ,AS] at hx;obtain⟨i,hi,rfl⟩:=hx;have:=GK (g:=g) hc (s:=(i:Nat)) (by omega);omega
theorem Ui {F:Int->List UInt8} (hg:Bq g=true) {c:An} (h:Holds d (Ar g) F) {r:Int} {l:Int}:Holds ⟨CL d.cells (AD g c), [],r,l⟩ (Ar g) (fun x=>if x<g.an then CZ c x else F x):=by
 obtain⟨g1,g2,g3,g4,g5⟩:=Aq.1 hg;have u:=EE hg;refine⟨by rw [<-h.len];show ((CL d.cells _).length:Int)=_;rw [finL_len],rfl,fun x h0 h1=>?_⟩;obtain⟨e1,e2⟩:=h.cell x h0 h1;have f:x.toNat<d.cells.length:=by have:=h.len;omega
 show ((CL d.cells _).getD x.toNat cz).state=0/\((CL d.cells _).getD x.toNat cz).bytes=_;have j:∀ w∈AD g c,∃ i:Nat,i<g.an.toNat/\w=⟨(i:Nat),CZ c (i:Nat)⟩:=fun w hw=>by
  simp only [AD,AQ,AS] at hw
  grind
 by_cases hx:x<g.an
 ·rw [if_pos hx];refine MA _ _ _ f (by rw [e1];decide) (fun w hw hwa=>?_) (.inl ⟨⟨x,CZ c x⟩,?_,rfl⟩)
  ·grind
  ·simp only [AD,AQ,AS]
   grind
 ·rw [if_neg hx,finL_miss _ _ _ f (fun w hw e=>?_)]
  ·grind
  ·grind
theorem Wu {n:Int} {F:Int->List UInt8} (h:Holds d n F) (l:List Wr) (hl:∀ w∈l,0<=w.addr/\w.addr<n):l.filter (free d.cells)=l:=by
 rw [List.filter_eq_self];intro w hw;unfold free;rw [(h.cell w.addr (hl w hw).1 (hl w hw).2).1];try rfl
end



theorem Py (g:Geo) (s:ByteArray) (hg:Bq g=true) (hs:EO s.data.toList=0):ACalls Tryz.prog false 28 [.ag (AK g), .v (.string s)] [] fun r H=>r = .ag [.ow 0 (Ar g).toNat,nilV,ze 0,ze (-1)]/\H=[.row 68 3 ((Gi g s).cells.map B4)]:=by
 obtain⟨g1,g2,g3,g4,g5⟩:=Aq.1 hg;have hb:=EE hg;have hp:=Hi hg;have hN:1<=(Ar g).toNat/\(Ar g).toNat<=300:=by
  have:g.z*Cv g<=4*7:=Int.mul_le_mul (by omega) (by omega) (by omega) (by omega);unfold Ar at hb |-
  omega
 have K:Ar g=((Ar g).toNat:Int):=by omega
 have hd:=Kv hg hs;have hA:=W7 g s hg;have hC:=Rm g hg;rw [K] at hC;have hD:=V8 (Ar g).toNat hN;refine zT tys_ok Tryz.func28 rfl rfl (Ae rfl) ?_;conv=>whnf
 refine zY hC ?_;conv=>whnf
 refine zW hD rfl ?_;rintro _ _ ⟨rfl,rfl⟩;conv=>whnf
 refine zY hA ?_;conv=>whnf
 refine zU Nat (fun k=>([(2, .bp 0 0),(4, .bp 1 0),(5, .bp 2 0),(6, .bp 3 0),(7,ze k)], [.box 24 (AK g), .box 38 [nilV,nilV,ze 0,ze 0], .box 38 [.ow 4 (Ar g).toNat,nilV,ze 0,ze (-1)], .box 28 (Ek (Cc g s)), .row 68 3 ((E5 (I_ g) ((AD g (Cc g s)).take k)).map B4)])) (fun k=>k<=g.an.toNat) (fun k=>g.an.toNat - k) 0 (Aj _)
  ?_ ?_
 ·refine zI (zL (zD (k:=2) rfl (es':=(I_ g).map B4) (by simp [I_]) fun i=>?_)) (s:= [0,1,3,4,2]) tA;rw [I_,List.map_replicate];by_cases hi:i<(Ar g).toNat
  ·rw [Mq hi,Mq hi];exact⟨fun _ _ h=>h,Bg 1 _,Bg 1 _,tv⟩
  ·rw [Ac,Ac,AL (by simpa using hi),AL (by simpa using hi)];exact SubL.refl _
 ·intro k hk;conv=>whnf
  refine A5 (fun h6=>?_) (fun h6=>?_) <;> (repeat rw [Aa] at h6) <;> conv=>whnf
  ·have G:k<(AD g (Cc g s)).length:=by rw [CY];omega
   have f:=I5 (I_ g) G;rw [Im (by omega)] at f;have j:(E5 (I_ g) ((AD g (Cc g s)).take k)).length=(Ar g).toNat:=by rw [Fh,Mw]
   generalize E5 (I_ g) ((AD g (Cc g s)).take k)=cs at f j |-
   have Z:=LQ g (Cc g s) k hg hd (by omega);have hE:(cs.map B4).getD (k:Int).toNat []=B4 (cs.getD (k:Int).toNat cz):=Lh j (by omega);repeat' (refine zZ ?_;conv=>whnf)
   apply zX (0) tys_ok mixed (.o [0,1,2,3,4,5,6,7,8] .fin) (by kernel_rfl);conv=>whnf
   refine zY Z ?_;conv=>whnf
   try (refine tI ?_;conv=>whnf)
   try (refine tS ?_;conv=>whnf)
   (first | rw [hE] | skip)
   conv=>whnf
   all_goals exact⟨k+1,by omega,by omega,zS (s:= [0,1,2,3,4]) ⟨⟨rfl,rfl,rfl,rfl,AG (by omega),tv⟩,⟨rfl,rfl,rfl,rfl,congrArg (fun l=>some (AB.row _ _ l)) (by rw [f,JI];try rfl),tv⟩,rfl,rfl,rfl,rfl,rfl⟩⟩
  ·have ek:k=(AD g (Cc g s)).length:=by rw [CY];omega
   rw [ek,Aw];repeat' (refine zZ ?_;conv=>whnf)
   refine zU Nat (fun c=>([(2, .bp 0 0),(4, .bp 1 0),(5, .bp 2 0),(6, .bp 3 0),(8,ze c)], [.box 24 (AK g), .box 38 [nilV,nilV,ze 0,ze 0], .box 38 [.ow 4 (Ar g).toNat,nilV,ze 0,ze (-1)], .box 28 (Ek (Cc g s)), .row 68 3 ((OE g s c).map B4)])) (fun c=>c<=2) (fun c=>2 - c) 0 (Aj _)
    (zS (s:= [0,1,2,3,4]) tA) ?_
   intro c hc;conv=>whnf
   refine A5 (fun h7=>?_) (fun h7=>?_) <;> (repeat rw [Aa] at h7) <;> conv=>whnf
   ·have O:(c:Int)=0\/(c:Int)=1:=by omega
    repeat' (refine zZ ?_;conv=>whnf)
    refine zU Nat (fun i=>([(2, .bp 0 0),(4, .bp 1 0),(5, .bp 2 0),(6, .bp 3 0),(8,ze c),(9,ze i)], [.box 24 (AK g), .box 38 [nilV,nilV,ze 0,ze 0], .box 38 [.ow 4 (Ar g).toNat,nilV,ze 0,ze (-1)], .box 28 (Ek (Cc g s)), .row 68 3 ((E5 (OE g s c) ((Hn g c).take i)).map B4)])) (fun i=>i<=g.sl.toNat) (fun i=>g.sl.toNat - i) 0 (Aj _)
     (zS (s:= [0,1,2,3,4]) tA) ?_
    intro i hi;conv=>whnf
    refine A5 (fun h8=>?_) (fun h8=>?_) <;> (repeat rw [Aa] at h8) <;> conv=>whnf
    ·have L:(Hn g c).length=g.sl.toNat:=by simp [Hn]
     have u:i<(Hn g c).length:=by omega
     have f:=I5 (OE g s c) u;rw [show (Hn g c).getD i ⟨0, []⟩=⟨Bi g c (i:Nat),BF g zeroC c (i:Nat)⟩ from Kf (by omega)] at f;have j:(E5 (OE g s c) ((Hn g c).take i)).length=(Ar g).toNat:=by rw [Fh,Mv]
     generalize E5 (OE g s c) ((Hn g c).take i)=cs at f j |-
     have F:KN g c i=true:=by simp only [KN,Af,AE];omega
     have ha:=EM g c i hg F;have I:=EC (n:=(Ar g).toNat) hg K.symm O (s:=i) (by omega);have W:=Ha g zeroC c i (Fv hg) F;have hE:(cs.map B4).getD (Bi g c i).toNat []=B4 (cs.getD (Bi g c i).toNat cz):=Lh j (by omega);repeat' (refine zZ ?_;conv=>whnf)
     apply zX (0) tys_ok mixed (.o [0,1,2,3,4,6,7,8,9,5,10,11,12,13] .fin) (by kernel_rfl);conv=>whnf
     refine zY ha ?_;conv=>whnf
     (refine zV [.ag (AK g), .ag (J3 zeroC),ze c,ze i] (by repeat' (first | exact trivial | exact fun _ _ h=>h | exact Bg _ _ | refine Ad ?_ ?_ | refine Bf ?_)) ?_;refine zY W ?_)
     conv=>whnf
     try (refine tI ?_;conv=>whnf)
     try (refine tS ?_;conv=>whnf)
     (first | rw [hE] | skip)
     conv=>whnf
     all_goals exact⟨i+1,by omega,by omega,zS (s:= [0,1,2,3,4]) ⟨⟨rfl,rfl,rfl,rfl,rfl,AG (by omega),tv⟩,⟨rfl,rfl,rfl,rfl,congrArg (fun l=>some (AB.row _ _ l)) (by rw [f,JI];try rfl),tv⟩,rfl,rfl,rfl,rfl,rfl⟩⟩
    ·have ei:i=(Hn g c).length:=by simp [Hn];omega
     repeat' (refine zZ ?_;conv=>whnf)
     exact⟨c+1,by omega,by omega,zS (s:= [0,1,2,3,4]) ⟨⟨rfl,rfl,rfl,rfl,AG (by omega),tv⟩,⟨rfl,rfl,rfl,rfl,by rw [ei,Aw];try rfl,tv⟩,rfl,rfl,rfl,rfl,rfl⟩⟩
   ·have ec:c=2:=by omega
    subst ec;have hT:=Xw g hg;have hf:=Is zero8;have hB:=Sd (ES g) (by rw [ES,BJ];omega) (fun e he=>by rw [CW he];simp only [ent0];omega);repeat' (refine zZ ?_;conv=>whnf)
    refine zY hT ?_;conv=>whnf
    refine zY hB ?_;conv=>whnf
    repeat' (refine zZ ?_;conv=>whnf)
    refine zU Nat (fun z=>([(2, .bp 0 0),(4, .bp 1 0),(5, .bp 2 0),(10,bA (CM (ES g))),(11,ze z)], [.box 24 (AK g), .box 38 [nilV,nilV,ze 0,ze 0], .box 38 [.ow 4 (Ar g).toNat,nilV,ze 0,ze (-1)], .box 28 (Ek (Cc g s)), .row 68 3 ((Hq g s z).map B4)])) (fun z=>z<=g.z.toNat) (fun z=>g.z.toNat - z) 0 (Aj _)
     (zS (s:= [0,1,2,3,4]) tA) ?_
    intro z hz;conv=>whnf
    refine A5 (fun h9=>?_) (fun h9=>?_) <;> (repeat rw [Aa] at h9) <;> conv=>whnf
    ·have U:∀ k:Nat,k<2->0<=AM g z k/\AM g z k<((Ar g).toNat:Int):=fun k hk=>by unfold AM;omega
     have N:(z:Int)*Cv g<=(g.z - 1)*Cv g:=Cq (by omega) (by omega);have hh:0<=(z:Int)*Cv g:=Da (by omega) (by omega);have V:∀ k:Nat,(k:Int)<Cv g->0<=Cm g z k/\Cm g z k<((Ar g).toNat:Int):=fun k hk=>by
      rw [<-K];unfold Cm Ar;rw [Int.sub_mul,Int.one_mul] at N;omega
     repeat' (refine zZ ?_;conv=>whnf)
     refine zU Nat (fun k=>([(2, .bp 0 0),(4, .bp 1 0),(5, .bp 2 0),(10,bA (CM (ES g))),(11,ze z),(12,ze k)], [.box 24 (AK g), .box 38 [nilV,nilV,ze 0,ze 0], .box 38 [.ow 4 (Ar g).toNat,nilV,ze 0,ze (-1)], .box 28 (Ek (Cc g s)), .row 68 3 ((E5 (Hq g s z) ((I8 g z).take k)).map B4)])) (fun k=>k<=2) (fun k=>2 - k) 0 (Aj _)
      (zS (s:= [0,1,2,3,4]) tA) ?_
     intro k hk;conv=>whnf
     refine A5 (fun h10=>?_) (fun h10=>?_) <;> (repeat rw [Aa] at h10) <;> conv=>whnf
     ·have L:(I8 g z).length=2:=by simp [I8]
      have G:k<(I8 g z).length:=by omega
      have f:=I5 (Hq g s z) G;rw [show (I8 g z).getD k ⟨0, []⟩=⟨AM g z (k:Nat),Bk (AM g z (k:Nat)) 0 (CM (ES g))⟩ from Kf (by omega)] at f;have j:(E5 (Hq g s z) ((I8 g z).take k)).length=(Ar g).toNat:=by rw [Fh,GO]
      generalize E5 (Hq g s z) ((I8 g z).take k)=cs at f j |-
      have J:=Iv g z k hg (by omega) (by omega);have I:=U k (by omega);have C:=Fs (AM g z k) 0 (CM (ES g)) (Vj hg (by omega));have hE:(cs.map B4).getD (AM g z k).toNat []=B4 (cs.getD (AM g z k).toNat cz):=Lh j (by omega);repeat' (refine zZ ?_;conv=>whnf)
      refine zY J ?_;conv=>whnf
      apply zX (0) tys_ok mixed (.o [0,1,2,3,4,5,6,7,8] .fin) (by kernel_rfl);conv=>whnf
      refine zY C ?_;conv=>whnf
      try (refine tI ?_;conv=>whnf)
      try (refine tS ?_;conv=>whnf)
      (first | rw [hE] | skip)
      conv=>whnf
      all_goals exact⟨k+1,by omega,by omega,zS (s:= [0,1,2,3,4]) ⟨⟨rfl,rfl,rfl,rfl,rfl,AG (by omega),tv⟩,⟨rfl,rfl,rfl,rfl,congrArg (fun l=>some (AB.row _ _ l)) (by rw [f,JI];try rfl),tv⟩,rfl,rfl,rfl,rfl,rfl⟩⟩
     ·have ek:k=(I8 g z).length:=by simp [I8];omega
      rw [ek,Aw];have X:=Ok g hg;repeat' (refine zZ ?_;conv=>whnf)
      refine zU Nat (fun i=>([(2, .bp 0 0),(4, .bp 1 0),(5, .bp 2 0),(10,bA (CM (ES g))),(11,ze z),(14,ze i)], [.box 24 (AK g), .box 38 [nilV,nilV,ze 0,ze 0], .box 38 [.ow 4 (Ar g).toNat,nilV,ze 0,ze (-1)], .box 28 (Ek (Cc g s)), .row 68 3 ((E5 (E5 (Hq g s z) (I8 g z)) ((H0 g z).take i)).map B4)])) (fun i=>i<=(Cv g).toNat) (fun i=>(Cv g).toNat - i) 0 (Aj _)
       (zS (s:= [0,1,2,3,4]) tA) ?_
      intro i hi;conv=>whnf
      refine zY X ?_;conv=>whnf
      refine A5 (fun h11=>?_) (fun h11=>?_) <;> (repeat rw [Aa] at h11) <;> conv=>whnf
      ·have L:(H0 g z).length=(Cv g).toNat:=by simp [H0]
       have u:i<(H0 g z).length:=by omega
       have f:=I5 (E5 (Hq g s z) (I8 g z)) u;rw [show (H0 g z).getD i ⟨0, []⟩=⟨Cm g z (i:Nat),Bk (Cm g z (i:Nat)) 0 zero8⟩ from Kf (by omega)] at f;have j:(E5 (E5 (Hq g s z) (I8 g z)) ((H0 g z).take i)).length=(Ar g).toNat:=by rw [Fh,Fh,GO]
       generalize E5 (E5 (Hq g s z) (I8 g z)) ((H0 g z).take i)=cs at f j |-
       have J:=LI g z i hg (by omega) (by omega);have I:=V i (by omega);have C:=Fs (Cm g z i) 0 zero8 ⟨I.1,by omega,DH _,by decide,by decide⟩;have hE:(cs.map B4).getD (Cm g z i).toNat []=B4 (cs.getD (Cm g z i).toNat cz):=Lh j (by omega);repeat' (refine zZ ?_;conv=>whnf)
       refine zY J ?_;conv=>whnf
       apply zX (0) tys_ok mixed (.o [0,1,2,3,4,5,6,7,8] .fin) (by kernel_rfl);conv=>whnf
       (try (refine Ad ⟨rfl,by decide,by decide⟩ ?_;conv=>whnf);refine zO C.go ?_;(conv=>whnf);refine Ad rfl ?_;(conv=>whnf);refine zV [ze (Cm g z i),ze 0,bA zero8] ⟨ri,ri,fun c v h=>zB rfl (fun i hi=>by have u:i<8:=hi;rw [Mq (by exact u),SP u];try rfl) h,tv⟩ ?_;refine zY C ?_)
       conv=>whnf
       try (refine tI ?_;conv=>whnf)
       try (refine tS ?_;conv=>whnf)
       (first | rw [hE] | skip)
       conv=>whnf
       all_goals exact⟨i+1,by omega,by omega,zS (s:= [0,1,2,3,4]) ⟨⟨rfl,rfl,rfl,rfl,rfl,AG (by omega),tv⟩,⟨rfl,rfl,rfl,rfl,congrArg (fun l=>some (AB.row _ _ l)) (by rw [f,JI];try rfl),tv⟩,rfl,rfl,rfl,rfl,rfl⟩⟩
      ·have ei:i=(H0 g z).length:=by simp [H0];omega
       repeat' (refine zZ ?_;conv=>whnf)
       exact⟨z+1,by omega,by omega,zS (s:= [0,1,2,3,4]) ⟨⟨rfl,rfl,rfl,rfl,AG (by omega),tv⟩,⟨rfl,rfl,rfl,rfl,by rw [ei,Aw];try rfl,tv⟩,rfl,rfl,rfl,rfl,rfl⟩⟩
    ·have ez:z=g.z.toNat:=by omega
     subst ez;exact⟨_, .ag [.ow 0 (Ar g).toNat,nilV,ze 0,ze (-1)], [.row 68 3 ((Hq g s g.z.toNat).map B4)],fun _ _ h=>h,zS (s:= [4]) tA,rfl,rfl⟩
theorem Rb (g:Geo) (s:ByteArray) (hg:Bq g=true) (hs:EO s.data.toList=0):Fn Tryz.prog 28 [.ag (AK g), .v (.string s)] fun r=>r = .ag (DV (Gi g s)):=by
 refine ACalls.fn (Py g s hg hs) ?_;rintro _ _ ⟨rfl,rfl⟩;refine⟨_,zy _,?_⟩;conv=>whnf
 refine Ad (by rw [Ab];exact(GO g s _).symm) ?_;exact⟨.ag (DV (Gi g s)),Bf ⟨AU (f:=B4) (Hq g s g.z.toNat) (by rw [GO]) rfl,Bg 2 _,ri,ri,tv⟩,rfl⟩


section
variable {g:Geo} {s:ByteArray} {b:An} {fill:UInt8} {sizes:List Int} {D:Dk}
end
theorem StSm.big {S:Stt} (h:StSm S):StBig S:=
 ⟨by have:=h.l;omega,by have:=h.h.1;omega,⟨by have:=h.t.1;omega,fun t ht=>⟨by have:=(h.t.2 t ht).1;omega,fun x hx=>by have:=(h.t.2 t ht).2 x hx;omega⟩⟩,by have:=h.o;omega⟩
structure Vol (g:Geo) (K:Int) (d:Dk) (s:Stt):Prop where
 gd:∃ F,Gd (Ar g) d F
 an:Bj g s.a=true
 ring:C0 g s.txns s.a.seq s.a.pos g.sl=true
 rest:s.only=false/\s.cursor=0/\s.found=0/\s.fixed=0/\s.moved=0/\s.lost=[]
 gen:s.a.gen<=K
 seq:s.a.seq+s.txns.length<=K
 one:∀ t∈s.txns,OneTab t.images
theorem DD {g:Geo} {a:An} (ha:Bj g a=true):(0<=a.gen/\a.gen<=4294967295)/\(1<=a.seq/\a.seq<=4294967295)/\(0<=a.pos/\a.pos<g.sl)/\(a.homes.length:Int)=g.z:=by
 simp only [Bj,A_,BB,B3,Af,decide_eq_true_eq,AE] at ha;omega
theorem KH {g:Geo}:∀ {l:List Tx} {seq pos a b:Int},a<=b->C0 g l seq pos a=true->C0 g l seq pos b=true
 | [],_,_,_,_,_,_=>rfl
 | t::r,seq,pos,a,b,hab,h=>by
  simp only [C0,Af,decide_eq_true_eq] at h |-
  obtain⟨⟨h1,h2,h3,h4,h5,h6,h7⟩,h8⟩:=h;exact⟨⟨h1,h2,h3,h4,by omega,h6,h7⟩,KH (by omega) h8⟩
theorem Dj {g:Geo}:∀ {l:List Tx} {seq pos left:Int},C0 g l seq pos left=true->∀ t∈l,t.images.all (Bn g)=true/\t.n=t.images.length+1/\2<=t.n/\t.n<=max left 0
 | t::r,seq,pos,left,h,x,hx=>by
  simp only [C0,Af,decide_eq_true_eq] at h;obtain⟨⟨h1,h2,h3,h4,h5,h6,h7⟩,h8⟩:=h;rcases Bd.1 hx with rfl | hx
  ·grind
  ·have:=Dj h8 x hx
   grind
theorem Ez {g:Geo} (hg:Bq g=true) {x:Img} (h:Bn g x=true):x.bytes.length<=45:=by
 obtain⟨g1,g2,g3,g4,g5⟩:=Aq.1 hg;by_cases hw:x.what=255
 ·simp only [Bn,Af] at h;have h2:=h.2.2;rw [if_pos hw] at h2;by_cases hl:x.bytes.length=9*(g.d+1).toNat
  ·omega
  ·rw [Ke (.inl hl)] at h2;cases h2
 ·have:=(Dh h).2 hw;omega
theorem Vol.st {g:Geo} {K:Int} {d:Dk} {s:Stt} (hg:Bq g=true) (h:Vol g K d s):Jr g d s=true:=by
 obtain⟨F,hF⟩:=h.gd;obtain⟨r1,r2,r3,r4,r5,r6⟩:=h.rest;have hu:=L4 hg;have hh:Eu g s=true:=by
  unfold Eu;rw [r3,r4,r5,r6];try rfl
 unfold Jr;rw [hg,LX.2 hF.ok,decide_eq_true hF.len,h.an,h.ring,r2,hh,decide_eq_true (show (0:Int)<G5 g by omega)];try rfl
theorem Vol.sm {g:Geo} {K:Int} {d:Dk} {s:Stt} (hg:Bq g=true) (h:Vol g K d s):StSm s:=by
 obtain⟨g1,g2,g3,g4,g5⟩:=Aq.1 hg;have hr:=Dj h.ring;have j:=GG hg (DH _) h.ring;have f:(s.txns.length:Int)<=30:=by
  have:∀ l:List Tx,(∀ t∈l,2<=t.n)->2*(l.length:Int)<=sumT l:=by
   intro l;induction l with
   | nil=>intro _;simp [sumT]
   | cons t r ih=>
    intro hl;have h1:=hl t (by simp);have h2:=ih fun x hx=>hl x (Bh _ hx)
    rw [sumT,Ao];omega
  grind
 refine⟨⟨(EG hg h.an 0 (Aj _)).2.1,fun x hx=>KU hg h.an x hx⟩,(EG hg h.an 0 (Aj _)).2.2.2.1,⟨by omega,fun t ht=>?_⟩,by rw [h.rest.2.2.2.2.2];simp⟩;obtain⟨q1,q2,q3,q4⟩:=hr t ht;refine⟨by omega,fun i hi=>?_⟩;have:=Ez hg (Av.1 q1 i hi);omega
theorem Vol.add {g:Geo} {K:Int} {d d':Dk} {s:Stt} (hg:Bq g=true) (h:Vol g K d s) (hK:K<=4294967294) (hd:∃ F,Gd (Ar g) d' F) {x:Tx} (e1:x.seq=s.a.seq+s.txns.length) (e3:x.pos=(s.a.pos+Cw s.txns).tmod g.sl) (e4:2<=x.n) (e5:x.n<=g.sl - Cw s.txns) (e6:x.n=x.images.length+1) (e7:∀ y∈x.images,Bn g y=true) (e8:OneTab x.images):Vol g (K+1) d' { s with txns:=s.txns ++ [x] }:=by
 obtain⟨a1,a2,a3,a4⟩:=DD h.an;have f:=GG hg (DH _) h.ring;rw [SS f.1] at e3 e5;have hs:=h.seq;refine⟨hd,h.an,KG hg a3.1 a3.2 (DH _) h.ring e1 (by omega) e3 e4 e5 e6 (Av.2 e7),h.rest,by have:=h.gen;show s.a.gen<=K+1;omega,?_,fun t ht=>?_⟩
 ·grind
 ·rcases A6.1 ht with q | q
  ·exact h.one t q
  ·grind
theorem Vol.home {g:Geo} {K:Int} {d d':Dk} {s:Stt} (hg:Bq g=true) {x:Tx} {r:List Tx} (hx:s.txns=x::r) (h:Vol g K d s) (hK:K<=4294967294) (hd:∃ F,Gd (Ar g) d' F):Vol g (K+1) d' { s with a:=Ch g s.a x,txns:=r }:=by
 obtain⟨a1,a2,a3,a4⟩:=DD h.an;have hs:=h.seq;have i:=h.gen;have hr:=h.ring;rw [hx,Ao] at hs;rw [hx] at hr;have f:=(GG hg (DH _) hr).1 x (by simp);simp only [C0,Af,decide_eq_true_eq] at hr;obtain⟨⟨h1,h2,h3,h4,h5,h6,h7⟩,h8⟩:=hr;refine⟨hd,Jq hg h.an (by omega) (by omega) h1 (by omega) (by omega),?_,h.rest,by show s.a.gen+1<=K+1;omega,?_,fun t ht=>h.one t (by rw [hx];exact Bh _ ht)⟩
 ·show C0 g r (s.a.seq+1) ((x.pos+x.n).tmod g.sl) g.sl=true;rw [h3];exact KH (by omega) h8
 ·show s.a.seq+1+(r.length:Int)<=K+1;omega
theorem OU {g:Geo} {a:An} {w:Wr} (hw:w∈AD g a):∃ i:Nat,(i:Int)<g.an/\w=⟨(i:Nat),CZ a (i:Nat)⟩:=by
 simp only [AD,AQ,AS] at hw
 grind
def Jp (g:Geo) (a:An) (x:Tx) (F:Int->List UInt8):Int->List UInt8:=ML (ML F (Cb g a x.seq x.images)) (AD g (Ch g a x))
theorem QN {g:Geo} {a:An} (ha:Bj g a=true) {t:Tx} (hl:∀ x∈t.images,Bn g x=true) {x:Img} (hx:x∈t.images) (f:x.what=255):((Ch g a t).homes.getD x.zone.toNat ⟨[],0,0⟩).root=t.seq:=by
 obtain⟨hz,_⟩:=Dh (hl x hx);exact K9 t.images (KQ ha hz).1 ⟨x,hx,f,rfl⟩
theorem V1 (g:Geo):Fn Tryz.prog 397 [.ag (AK g), .ag (J3 zeroC)] fun r=>r = .v (.bool true):=by
 have hi:=Wj ⟨0,0, []⟩ ⟨0,0, []⟩ (by decide);rw [decide_eq_true rfl] at hi;refine zR Tryz.func397 rfl ?_;conv=>whnf
 refine zV [.ag (Dz ⟨0,0, []⟩), .ag (Dz ⟨0,0, []⟩)] ⟨ri,Bf ⟨ri,ri,Bg 1 _,tv⟩,tv⟩ ?_;refine zY hi ?_;exact⟨_,ri,rfl⟩
theorem Tu (g:Geo):Fn Tryz.prog 366 [.ag (AK g),bA (Ex zeroC)] fun r=>r = .tp [.ag (J3 zeroC), .v (.bool true)]:=by
 obtain⟨b,hb⟩:∃ b,b=Ex zeroC:=⟨_,rfl⟩;have i:b.length=11:=by rw [hb];try rfl
 have q1:=FB (b.drop 1) 4 (by rw [Ak];omega) (by decide);have q2:=FB (b.drop 5) 4 (by rw [Ak];omega) (by decide);have e1:leN ((b.drop 1).take 4)=0:=by rw [hb];try rfl
 have e2:leN ((b.drop 5).take 4)=0:=by rw [hb];try rfl
 have h:=V1 g;rw [<-hb];refine zR Tryz.func366 rfl ?_;conv=>whnf
 refine A5 (fun hq=>absurd hq (by omega)) (fun hq=>?_);conv=>whnf
 apply z8 (0) tys_ok mixed (.o [0,1,2,3,4,5,7,8,10,11,12,13,14,15,16,17] (.two 6 (.two 9 (.o [18,19,20] .fin) 19 (.o [9,18,20] .fin)) 19 (.o [6,9,18,20] .fin))) [6,11,12,13,14,15,16,17,18,19,20,21,22,23,24,25,26,27,28,29] (by kernel_rfl)
 ·conv=>whnf
  try (refine tI ?_;conv=>whnf)
  try (refine tI ?_;conv=>whnf)
  try (refine tI ?_;conv=>whnf)
  try (refine tI ?_;conv=>whnf)
  try (refine tI ?_;conv=>whnf)
  refine Ad ?_ ?_
  ·conv=>whnf
   (refine zV [bA (b.drop 1),iv 4] ⟨AP (by omega),ri,tv⟩ ?_;refine zY q1 ?_)
   refine Ad ?_ ?_
   ·conv=>whnf
    (refine zV [bA (b.drop 5),iv 4] ⟨AP (by omega),ri,tv⟩ ?_;refine zY q2 ?_)
    conv=>whnf
    try (refine tS ?_;conv=>whnf)
    exact tA
   ·conv=>whnf
    (refine zV [bA (b.drop 5),iv 4] ⟨AP (by omega),ri,tv⟩ ?_;refine zY q2 ?_)
    conv=>whnf
    try (refine tS ?_;conv=>whnf)
    exact tA
  ·conv=>whnf
   (refine zV [bA (b.drop 1),iv 4] ⟨AP (by omega),ri,tv⟩ ?_;refine zY q1 ?_)
   conv=>whnf
   (refine zV [bA (b.drop 5),iv 4] ⟨AP (by omega),ri,tv⟩ ?_;refine zY q2 ?_)
   conv=>whnf
   try (refine tS ?_;conv=>whnf)
   exact tA
 conv=>whnf
 repeat' (refine zZ ?_;conv=>whnf)
 have z0:(b.getD (Int.toNat 0) 0).toNat=0:=by rw [hb];try rfl
 have z9:(b.getD (Int.toNat 9) 0).toNat=0:=by rw [hb];try rfl
 have z10:(b.getD (Int.toNat 10) 0).toNat=0:=by rw [hb];try rfl
 rw [z0,z9,z10,e1,e2,show IntKind.i64.wrap ((0:Nat):Int)=0 from rfl];conv=>whnf
 rw [show ((b.length:Int) != 11)=false by rw [i];try rfl];conv=>whnf
 have f:SubL [iv 0,iv 0,iv 0,iv 0,iv 0,iv 0,iv 0, .v (.slice none 0 0)] (J3 zeroC):=⟨ri,ri,ri,ri,ri,ri,ri,Bg 1 _,tv⟩;refine zV [.ag (AK g), .ag (J3 zeroC)] ⟨ri,Bf f,tv⟩ ?_;refine zY h ?_;exact⟨_,BN (m:= [.ag (J3 zeroC), .v (.bool true)]) ⟨Bf f,ri,tv⟩,rfl⟩
theorem Nh (g:Geo) (c s:Int) (hg:Bq g=true) (hc:c=0\/c=1) (hs:0<=s/\s<g.sl):Fn Tryz.prog 296 [.ag (AK g), .ag (Dt ⟨0,BF g zeroC c s⟩),iv c,iv s] fun r=>r = .tp [.ag (J3 zeroC), .v (.bool true)]:=by
 have hL:=HZ (g:=g) hc hs;have hb:=Fd hg hL;have h1:=JA (Fv hg);have h2:=Er (Fv hg);obtain⟨o1,o2,o3,o4⟩:=GD (a:=Bi g c s) (s:=zeroC.seq) (p:=Ex zeroC) ⟨hb.1,by omega,h1.1,h1.2,by omega⟩;have s1:=Iu ⟨0,BF g zeroC c s⟩ (Bi g c s) (by have:=C4 (Fv hg) c s;show (BF g zeroC c s).length<=100000;omega);have hS:BY ⟨0,BF g zeroC c s⟩ (Bi g c s)=some ⟨Bi g c s,0,Ex zeroC⟩:=by
  unfold BY BF;rw [if_pos ⟨rfl,o1,o2⟩,o2,o3,o4];try rfl
 rw [hS] at s1;have s2:=Tu g;refine zR Tryz.func296 rfl ?_;conv=>whnf
 apply zP tys_ok mixed (.o [0,1,2,3] (.two 4 (.two 5 (.o [6,7,8,9,10,11] .fin) 9 (.o [5,6,7,8,10,11] .fin)) 9 (.o [4,5,6,7,8,10,11] .fin))) [10,11,13,14,15,16,17,18,19,20,21] (by kernel_rfl)
 ·refine Ad ?_ ?_
  ·conv=>whnf
   refine zY (EM g c s hg hL) ?_;refine Ad ?_ ?_
   ·conv=>whnf
    refine zY s1 ?_;conv=>whnf
    try (refine tS ?_;conv=>whnf)
    exact tA
   ·conv=>whnf
    refine zY s1 ?_;conv=>whnf
    try (refine tS ?_;conv=>whnf)
    exact tA
  ·conv=>whnf
   refine zY (EM g c s hg hL) ?_;conv=>whnf
   refine zY s1 ?_;conv=>whnf
   try (refine tS ?_;conv=>whnf)
   exact tA
 conv=>whnf
 refine zY s2 ?_;exact⟨_,ri,rfl⟩
theorem Tp (g:Geo) (a:An) (s seq left:Int) (hg:Bq g=true) (hs:0<=s/\s<g.sl) :
  Fn Tryz.prog 216 [.ag (AK g), .ag (Ek a), .ag (Dt ⟨0,BF g zeroC 0 s⟩), .ag (Dt ⟨0,BF g zeroC 1 s⟩),iv s,iv seq,iv 0,iv 0,iv left]
   fun r=>r = .tp [.ag (J3 zeroC),iA [],iv 2]:=by
 have s2:=Nh g 0 s hg (.inl rfl) hs;have s3:=Nh g 1 s hg (.inr rfl) hs;have i1:=XC zeroC a seq 0 0 left;rw [show If zeroC a seq 0 0 left=false from decide_eq_false fun h=>h.1 rfl] at i1;refine zR Tryz.func216 rfl ?_;conv=>whnf
 repeat' (first | (refine zZ ?_;conv=>whnf) | (refine A5 (fun _=>?_) (fun _=>?_) <;> conv=>whnf) | (refine zY s2 ?_;conv=>whnf) | (refine zY s3 ?_;conv=>whnf) | (refine zY i1 ?_;conv=>whnf) | (refine Ad (by first | omega | exact of_decide_eq_true rfl) ?_;conv=>whnf) | fail)
 exact⟨_,fun c u h=>Zi 2 c u h,rfl⟩
theorem Tj (g:Geo) (a:An) (x y:List Gt) (hg:Bq g=true) (hp:a.pos=0) (hl:¬a.seq - 1<a.last) (h:1<=a.seq) (f:a.seq<=4294967295) (hx:(x.length:Int)=g.sl) (hy:(y.length:Int)=g.sl) (h0:x.getD 0 gz=⟨0,BF g zeroC 0 0⟩) (h1:y.getD 0 gz=⟨0,BF g zeroC 1 0⟩) :
  Fn Tryz.prog 128 [.ag (AK g), .ag (Ek a),Ij x,Ij y] fun r=>r = .tp [CS [],Ly [],iv 0]:=by
 obtain⟨g1,g2,g3,g4,g5⟩:=Aq.1 hg;have w1:IntKind.i64.wrap (a.seq - 1)=a.seq - 1:=wi (by omega);have w0:(IntKind.i64.wrap (0+0)).tmod g.sl=0:=by rw [show IntKind.i64.wrap (0+0)=0 from rfl,Int.zero_tmod]
 have rl1:=Tp g a 0 a.seq g.sl hg ⟨by omega,by omega⟩;rw [<-h0,<-h1] at rl1;refine zR Tryz.func128 rfl ?_;conv=>whnf
 refine zA tys_ok mixed [0,1,2,3,4,5,6,7,8] (by kernel_rfl) ?_;conv=>whnf
 refine zG 1 ?_;conv=>whnf
 rw [show decide (g.sl > 0)=true from decide_eq_true (by omega)];conv=>whnf
 rw [show decide (a.seq<=4294967295)=true from decide_eq_true f];conv=>whnf
 refine zG 1 ?_;conv=>whnf
 repeat' (refine zZ ?_;conv=>whnf)
 refine⟨by omega,?_⟩;conv=>whnf
 rw [hp,w0];apply zP tys_ok mixed (.o [0,1,2,3,4,5,6,7,8,9,10,11,12,13,14] (.two 15 (.o [16,17,18,19,20,21,22,23] .fin) 20 (.o [15,16,17,18,19,21,22,23] .fin))) [22,23,24,60,61,62,63,64,65,66,67,68,69,70,71,72,73,74,75,76,77,78,79] (by kernel_rfl)
 ·conv=>whnf
  try (refine Ad (by first | omega | exact ixA | exact ixB | (simp;done)) ?_;conv=>whnf)
  try (refine Ad (by first | omega | exact ixA | exact ixB | (simp;done)) ?_;conv=>whnf)
  refine Ad ?_ ?_
  ·conv=>whnf
   refine zY rl1 ?_;conv=>whnf
   try (refine tS ?_;conv=>whnf)
   exact tA
  ·conv=>whnf
   refine zY rl1 ?_;conv=>whnf
   try (refine tS ?_;conv=>whnf)
   exact tA
 conv=>whnf
 repeat' (refine zZ ?_;conv=>whnf)
 rw [w1,decide_eq_false hl];exact⟨.tp [CS [],Ly [],iv 0],BN (m:= [CS [],Ly [],iv 0]) ⟨Bg 4 _,Bg 2 _,ri,tv⟩,rfl⟩
def bg (g:Geo):Stt:=AF (DN (Cc g ⟨#[]⟩) 0) []
def bq (g:Geo) (a:An) (q:Int):List UInt8:=if q<g.an then CZ a q else G9 g ⟨#[]⟩ q
theorem PW {g:Geo} {lb:ByteArray} (hg:Bq g=true) {d:Dk} (h:Holds d (Ar g) (G9 g lb)) {c:Int} (hc:c=0\/c=1):BA d (BU g c)=GA g [] 0 c g.sl.toNat:=by
 rw [Mm h _ (Nw hg hc)];unfold BU GA;rw [List.map_map];refine CJ fun i hi=>?_
 have hi:=AS.1 hi;show (⟨0,G9 g lb (Bi g c (i:Nat))⟩:Gt)=_;rw [JK hc (by omega)];try rfl
theorem Pp {g:Geo} {lb:ByteArray} (hg:Bq g=true) {b:An} (hp:b.pos=0) (hl:¬b.seq - 1<b.last) {d:Dk} (h:Holds d (Ar g) (G9 g lb)):GE g b (BA d (BU g 0)) (BA d (BU g 1))=([], [],0):=by
 obtain⟨g1,g2,g3,g4,g5⟩:=Aq.1 hg;have f:LogOk g [] 0:=⟨by simp,by simp,fun s i k _ h=>(nomatch (show (none:Option (Nat × Int))=some (i,k) from h)),fun s _=>Fv hg⟩;rw [X7,PW hg h (.inl rfl),PW hg h (.inr rfl),Sm hg f (.inl rfl),Sm hg f (.inr rfl)];obtain⟨n,hn⟩:∃ n,g.sl.toNat=n+1:=⟨g.sl.toNat - 1,by omega⟩;have hz:H4 g [] 0 (fun _=>false) 0=some zeroC:=by
  unfold H4;rw [if_pos (by omega)];try rfl
 have hs:CX g 0 0=0:=by
  show (IntKind.i64.wrap 0).tmod g.sl=0;rw [show IntKind.i64.wrap 0=0 from rfl,Int.zero_tmod]
 have h0:If zeroC b b.seq 0 0 g.sl=false:=decide_eq_false fun h=>h.1 rfl
 have hr:(Zm g b (H4 g [] 0 fun _=>false) (H4 g [] 0 fun _=>false) 0 b.seq g.sl 0 0).2.1=2:=by
  show (S4 (H4 g [] 0 (fun _=>false) (CX g 0 0)) (H4 g [] 0 (fun _=>false) (CX g 0 0)) (TF (H4 g [] 0 (fun _=>false) (CX g 0 0)) b b.seq 0 0 g.sl) (TF (H4 g [] 0 (fun _=>false) (CX g 0 0)) b b.seq 0 0 g.sl)).2.2=2;rw [hs,hz];show (S4 (some zeroC) (some zeroC) (If zeroC b b.seq 0 0 g.sl) (If zeroC b b.seq 0 0 g.sl)).2.2=2;rw [h0];try rfl
 have ht:(Xs g b (H4 g [] 0 fun _=>false) (H4 g [] 0 fun _=>false) 0 b.seq g.sl).1=2:=by
  unfold Xs;simp only;rw [if_pos (by rw [hr];decide)];exact hr
 unfold Vr;rw [hn,hp,LH];split
 ·simp only;rw [ht,if_neg (by decide),if_pos (by decide),Qe hl]
 ·exact Qe hl
theorem RA {g:Geo} {lb:ByteArray} (hg:Bq g=true) (hb:Bj g (Cc g lb)=true) (x:Int):(G9 g lb x).length<=200:=by
 unfold G9;split
 ·exact JP hg hb x
 ·split
  ·exact C4 (Fv hg) _ _
  ·split
   ·exact C4 (Fv hg) _ _
   ·split
    ·rw [DR,EQ];unfold ES;rw [BJ];have:=(Aq.1 hg).2.1;omega
    ·rw [DR];decide
theorem Yi {g:Geo} {lb:ByteArray} (hg:Bq g=true) (hb:Bj g (Cc g lb)=true):DkOk (Gi g lb):=by
 have u:=EF hg;have h:=Ku (g:=g) (s:=lb) hg;have j:=h.len;refine⟨by omega,by rw [h.cache];simp,by show (0:Int)<=0/\(0:Int)<=_;decide,by show (-1:Int)<= -1/\(-1:Int)<=_;decide,fun c hc=>?_,fun w hw=>by rw [h.cache] at hw;cases hw⟩;obtain⟨i,hi,rfl⟩:=List.getElem_of_mem hc;have f:=PY (g:=g) (s:=lb) hg (a:=((i:Nat):Int)) (by omega) (by omega);have e:(Gi g lb).cells.getD ((i:Nat):Int).toNat cz=(Gi g lb).cells[i]:=by
  rw [Aa,Ac,Ag hi];try rfl
 rw [e] at f;rw [f];exact⟨⟨DH _,by show (0:Int)<=2;decide⟩,RA hg hb _,by simp⟩
theorem VY {g:Geo} {lb:ByteArray} (hg:Bq g=true) (hb:Bj g (Cc g lb)=true) {d:Dk} (h:Holds d (Ar g) (G9 g lb)):H5 g (BA d (DT g))=some (Cc g lb,(bo (H5 g (BA d (DT g))))):=by
 obtain⟨g1,g2,g3,g4,g5⟩:=Aq.1 hg;have C:=EE hg;have f:=LS g (BA d (DT g)) (BA d (DT g)).length;rw [Fz,F6] at f;have u:∀ i,i<g.an.toNat->EL g ((BA d (DT g)).getD i ⟨0, []⟩) (i:Nat)=some (Cc g lb):=fun i hi=>by
  rw [RS hi,h.got (by omega) (by omega),SD (by omega)];exact QU hg hb (by omega)
 have z:H5 g (BA d (DT g))=FG g (BA d (DT g)) g.an.toNat:=by rw [H5,Fz,F6]
 rw [z];cases hP:FG g (BA d (DT g)) g.an.toNat with
 | none=>
  have:=f.1 hP 0 (by omega);rw [u 0 (by omega)] at this;cases this
 | some q=>
  obtain⟨a0,j⟩:=q;obtain⟨q1,q2,q3⟩:=f.2 a0 j hP;rw [u j q1] at q2;cases q2;rfl
theorem Zt {g:Geo} (hg:Bq g=true):ZN g (Gi g ⟨#[]⟩):=fun d1 a j _ h1 h2 hp=>by
 obtain⟨g1,g2,g3,g4,g5⟩:=Aq.1 hg;have hf:=Ku (g:=g) (s:=⟨#[]⟩) hg;have hb:=Kv (g:=g) (s:=⟨#[]⟩) hg lab_nil;rw [VY hg hb hf] at hp;obtain⟨rfl, -⟩:=Prod.mk.inj (Option.some.inj hp);have h3:Holds d1 (Ar g) (G9 g ⟨#[]⟩):=⟨by rw [h1];exact hf.len,h2.trans hf.cache,by rw [h1];exact hf.cell⟩;have hl:∀ c,((BA d1 (BU g c)).length:Int)=g.sl:=fun c=>by rw [Fz,IS];omega
 have e:∀ c,c=0\/c=1->(BA d1 (BU g c)).getD 0 gz=⟨0,BF g zeroC c 0⟩:=fun c hc=>by
  rw [Mm h3 _ (Nw hg hc)];unfold BU;rw [List.map_map,Ac,Bb,Bz (by omega)];show (⟨0,G9 g ⟨#[]⟩ (Bi g c ((0:Nat):Int))⟩:Gt)=_;rw [JK hc (by omega)];try rfl
 rw [Pp hg rfl (by show ¬(1:Int) - 1<0;decide) h3];exact⟨Tj g _ _ _ hg rfl (by show ¬(1:Int) - 1<0;decide) (by show (1:Int)<=1;decide) (by show (1:Int)<=4294967295;decide) (hl 0) (hl 1) (e 0 (.inl rfl)) (e 1 (.inr rfl)),fun _=>⟨by show (1:Int)+0 - 1<=4294967295;decide,fun w hw=>(by cases hw),Aj _⟩⟩
def Rw (g:Geo) (c:An) (q:Int):List UInt8:=if q<0 then ((CL (Gi g ⟨#[]⟩).cells (AD g c)).getD (-1 - q).toNat cz).old else bq g c q
theorem Zq {g:Geo} (hg:Bq g=true):∃ D,DK g (Gi g ⟨#[]⟩)=(D,0,bg g)/\DkOk (Gi g ⟨#[]⟩)/\((Gi g ⟨#[]⟩).cells.length:Int)=Ar g/\Vol g 2 D (bg g)/\Gd (Ar g) D (Rw g (DN (Cc g ⟨#[]⟩) 0)):=by
 obtain⟨g1,g2,g3,g4,g5⟩:=Aq.1 hg;have hs:EO (⟨#[]⟩:ByteArray).data.toList=0:=lab_nil;have hf:=Ku (g:=g) (s:=⟨#[]⟩) hg;have hb:=Kv (g:=g) (s:=⟨#[]⟩) hg hs;have h:DkOk (Gi g ⟨#[]⟩):=Yi hg hb;have C:=EE hg;have u:=Pp hg (b:=Cc g ⟨#[]⟩) rfl (by show ¬(1:Int) - 1<0;decide) hf;have hm:=O5 hg h hf.len hf.cache (by show (-1:Int)<0;decide) (VY hg hb hf) u (by show (1:Int)≠_;decide) (by show (0:Int)≠_;decide) (fun w hw=>by cases hw) (Aj _);have z:=CY g (DN (Cc g ⟨#[]⟩) ([]:List Tx).length);rw [Wu hf _ (fun w hw=>by
  simp only [AD,AQ,AS] at hw;obtain⟨i,hi,rfl⟩:=hw;exact⟨by show (0:Int)<=(i:Nat);omega,by show ((i:Nat):Int)<_;omega⟩),if_neg (by omega),if_neg (by omega)] at hm
 have hn:=PI (n:=0) hb (by show (1:Int)≠_;decide) (by show (0:Int)≠_;decide) (by show (1:Int)+0 - 1<=_;decide);have f:=Ui (r:=((Gi g ⟨#[]⟩).tick (Ma g [])).reqs) (l:=(Gi g ⟨#[]⟩).left) hg (c:=DN (Cc g ⟨#[]⟩) ([]:List Tx).length) hf;have hD:DkOk ⟨CL (CL (Gi g ⟨#[]⟩).cells []) (AD g (DN (Cc g ⟨#[]⟩) 0)), [],((Gi g ⟨#[]⟩).tick (Ma g [])).reqs,(Gi g ⟨#[]⟩).left⟩:=by
  have h1:=h.adv (Ma g []);rw [JS _ (S3 h (by show (-1:Int)<0;decide) _)] at h1;have h2:=h1.allFin (AD g (DN (Cc g ⟨#[]⟩) 0)) fun w hw=>(Je hg hn hf.len w hw).2
  rw [allFin_cells] at h2;exact h2
 have j:Gd (Ar g) _ (Rw g (DN (Cc g ⟨#[]⟩) 0)):=⟨hD,rfl,f.len,f.cache,fun a h0 h1=>by
  unfold Rw;rw [if_neg (by omega)];exact f.cell a h0 h1,fun a h0 h1=>by
  unfold Rw;rw [if_pos (by omega),show -1 - (-1 - a)=a by omega];try rfl⟩
 exact⟨_,hm,h,hf.len,⟨⟨_,j⟩,hn,rfl,tA,(by show (1:Int)+1<=2;decide),(by show (1:Int)+(0:Nat)<=2;decide),fun t ht=>by cases ht⟩,j⟩
theorem flat_by1:∀ b:List UInt8,((b.map Ef).flatten.all flatX)=true
 | []=>rfl
 | x::b=>by rw [Az,AI,Dl,flat_by1 b];rfl
structure LogB (l:List Tx):Prop where
 n:l.length<=1000000
 i:∀ t∈l,t.images.length<=1000000/\∀ x∈t.images,x.bytes.length<=1000000000
def ER (g:Geo) (s:Stt) (F:Int->List UInt8) (z:Int):Option (List Ent):=match CB s.txns z 255 with
 | some p=>Ce g p.1.bytes
 | none=>match BT g ⟨0,F (AM g z 0)⟩ (AM g z 0) (CN s.a s.txns z) with
  | some t=>some t
  | none=>BT g ⟨0,F (AM g z 1)⟩ (AM g z 1) (CN s.a s.txns z)
theorem Fx {m:Nat} (h:Nat.ble 6 m=true):∀ z∈ [0,1,2,3,4,5],z<m:=fun z hz=>by
 have:=Ae h;simp at hz;omega
theorem Vy (g:Geo) (s:Stt) (d:Dk) (F:Int->List UInt8) (z:Int) (hg:Bq g=true) (hl:LogB s.txns) (ha:Bj g s.a=true) (h:Gd (Ar g) d F) (hF:∀ a,(F a).length<=100000) (hz:0<=z/\z<g.z) :
    ACalls Tryz.prog false 248 [.bp 0 0,iv z] (Fo g s 0 d) fun r H=>r = .tp [.ag [Bm ((ER g s F z).getD [])], .v (.bool (ER g s F z).isSome)]/\∃ d',Gd (Ar g) d' F/\H=Fo g s 0 d':=by
  have hf:=Kd s.txns z 255 hl.n hl.i;unfold ER;cases hL:CB s.txns z 255 with
  | some p=>
    obtain⟨x,q⟩:=p;rw [hL] at hf;have hr:=LJ g x.bytes hg;simp only;refine zT tys_ok Tryz.func248 rfl rfl (Ae rfl) ?_;conv=>whnf
    refine FnO.lend (hf.subA (args:= [.sl 4 s.txns.length fun i=>(s.txns.map CG).getD i [],iv z,iv 255]) ⟨AU (f:=CG) s.txns rfl rfl,fun _ _ h=>h,fun _ _ h=>h,tv⟩) ⟨(Ab _).symm,rfl⟩ ?_;rintro _ _ ⟨rfl,rfl⟩;refine⟨⟨rfl,by rw [flatR,flat_by1];try rfl⟩,?_⟩;conv=>whnf
    refine zO hr.go ?_;refine Ad (Ab _).symm ?_;conv=>whnf
    refine zV [.ag (AK g),bA x.bytes] ⟨ri,F8 rfl rfl,tv⟩ ?_;refine zY hr ?_;exact⟨.tp [.ag [Bm ((Ce g x.bytes).getD [])], .v (.bool (Ce g x.bytes).isSome)], .tp [.ag [Bm ((Ce g x.bytes).getD [])], .v (.bool (Ce g x.bytes).isSome)],Fo g s 0 d,fun _ _ h=>h,zS (s:= [0,1,2,3,4,5]) tA,rfl,d,h,rfl⟩
  | none=>
    rw [hL] at hf;simp only;have O:∀ k:Nat,k<2->(∀ j:Nat,j<k->BT g ⟨0,F (AM g z (j:Nat))⟩ (AM g z (j:Nat)) (CN s.a s.txns z)=none)->∀ t,BT g ⟨0,F (AM g z (k:Nat))⟩ (AM g z (k:Nat)) (CN s.a s.txns z)=some t->(match BT g ⟨0,F (AM g z 0)⟩ (AM g z 0) (CN s.a s.txns z) with | some t=>some t | none=>BT g ⟨0,F (AM g z 1)⟩ (AM g z 1) (CN s.a s.txns z))=some t:=fun k hk u t ht=>by
      match k,hk with
      | 0,_=>
        have ht:BT g ⟨0,F (AM g z 0)⟩ (AM g z 0) (CN s.a s.txns z)=some t:=ht;rw [ht]
      | 1,_=>
        have h0:BT g ⟨0,F (AM g z 0)⟩ (AM g z 0) (CN s.a s.txns z)=none:=u 0 (by decide);rw [h0];exact ht
    have N:(∀ j:Nat,j<2->BT g ⟨0,F (AM g z (j:Nat))⟩ (AM g z (j:Nat)) (CN s.a s.txns z)=none)->(match BT g ⟨0,F (AM g z 0)⟩ (AM g z 0) (CN s.a s.txns z) with | some t=>some t | none=>BT g ⟨0,F (AM g z 1)⟩ (AM g z 1) (CN s.a s.txns z))=none:=fun u=>by
      have h0:BT g ⟨0,F (AM g z 0)⟩ (AM g z 0) (CN s.a s.txns z)=none:=u 0 (by decide);rw [h0];exact u 1 (by decide)
    generalize (match BT g ⟨0,F (AM g z 0)⟩ (AM g z 0) (CN s.a s.txns z) with | some t=>some t | none=>BT g ⟨0,F (AM g z 1)⟩ (AM g z 1) (CN s.a s.txns z))=G at O N |-
    have zs:∀ (c:Ctx) (v:Value),Rd (.tp [.ag [.v (.slice none 0 0)], .v (.bool false)]) c v->Rd (.tp [.ag [Bm []], .v (.bool false)]) c v:=BN (m:= [.ag [Bm []], .v (.bool false)]) ⟨Bf ⟨Bg 3 _,tv⟩,ri,tv⟩;have hR:=V0 g s.a s.txns z (DD ha).2.2.2 hz hl.n hl.i;refine zT tys_ok Tryz.func248 rfl rfl (Ae rfl) ?_;conv=>whnf
    refine FnO.lend (hf.subA (args:= [.sl 4 s.txns.length fun i=>(s.txns.map CG).getD i [],iv z,iv 255]) ⟨AU (f:=CG) s.txns rfl rfl,fun _ _ h=>h,fun _ _ h=>h,tv⟩) ⟨(Ab _).symm,rfl⟩ ?_;rintro _ _ ⟨rfl,rfl⟩;refine⟨tA,?_⟩;conv=>whnf
    repeat' (refine zZ ?_;conv=>whnf)
    apply zP tys_ok mixed (.o [0,1,2,3,4,5,6,7,8,9,10,11,12] .fin) [9,34,35,36,37,38,39,40,41,42,43,44,45] (by kernel_rfl)
    · conv=>whnf
      (refine zq (args':= [.ag (Lt s.a (.sl 3 s.a.homes.length fun i=>(s.a.homes.map DL).getD i [])), .sl 4 s.txns.length fun i=>(s.txns.map CG).getD i [],iv z]) (hR.subA ⟨Bf ⟨ri,ri,ri,ri,ri,ri,AU (f:=DL) s.a.homes rfl rfl,tv⟩,AU (f:=CG) s.txns rfl rfl,ri,tv⟩) ⟨(Ab _).symm,(Ab _).symm,rfl⟩ ?_;rintro _ rfl;refine⟨rfl,?_⟩)
      exact tA
    conv=>whnf
    have U:∀ k:Nat,k<2->g.an+2*g.sl<=AM g z (k:Nat)/\AM g z (k:Nat)<Ar g:=fun k hk=>by have:=G7 hg hz (k:=(k:Nat)) (by omega);omega
    refine zU (Nat × Dk) (fun x=>([(0, .bp 0 0),(1,iv z),(4, .bp 6 0),(9,iv (CN s.a s.txns z)),(10,iv (x.1:Nat))],Fo g s 0 x.2 ++ ([.box 145 [.v (.slice none 0 0)]]:List AB))) (fun x=>x.1<=2/\Gd (Ar g) x.2 F/\∀ j:Nat,j<x.1->BT g ⟨0,F (AM g z (j:Nat))⟩ (AM g z (j:Nat)) (CN s.a s.txns z)=none) (fun x=>2 - x.1) (0,d) ⟨Aj _,h,fun j hj=>absurd hj (Ap j)⟩
      (zS (s:= [0,1,2,3,4,5,6]) tA) ?_
    rintro⟨k,d1⟩ ⟨hk,K,u⟩;simp only at hk K u;conv=>whnf
    refine A5 (fun h6=>?_) (fun h6=>?_) <;> (repeat rw [Aa] at h6) <;> conv=>whnf
    · have L:k<2:=by omega
      have V:=Iv g z (k:Nat) hg hz (by omega);obtain⟨q1,q2⟩:=U k L;have X:=Aq.1 hg;have J:=ba g s (Ar g) d1 F (AM g z (k:Nat)) K (by omega);have W:=O k L u;have C:=Pt g ⟨0,F (AM g z (k:Nat))⟩ (AM g z (k:Nat)) (CN s.a s.txns z) hg (hF _);repeat' (refine zZ ?_;conv=>whnf)
      refine zY V ?_;conv=>whnf
      repeat' (refine zZ ?_;conv=>whnf)
      apply zX (8+2 ^ 134) tys_ok mixed (.o [0,1,2,4,5,7,8] (.three 3 (.two 6 (.two 9 (.o [10,11,12,13,14,15] .fin) 13 (.o [9,10,11,12,14,15] .fin)) 13 (.o [6,9,10,11,12,14,15] .fin)) 6 (.two 3 (.two 9 (.o [10,11,12,13,14,15] .fin) 13 (.o [9,10,11,12,14,15] .fin)) 13 (.o [3,9,10,11,12,14,15] .fin)) 13 (.two 3 (.o [6,9,10,11,12,14,15] .fin) 6 (.o [3,9,10,11,12,14,15] .fin)))) (by kernel_rfl);refine Ad ?_ (Ad ?_ ?_);refine Ad ?_ ?_;conv=>whnf
      (refine ze9 [0,1,2,3,4,5] J ?_;rintro _ _ ⟨rfl,d2,I,rfl⟩)
      refine Ad ?_ ?_;conv=>whnf
      refine zY C ?_;conv=>whnf
      try (refine tS ?_;conv=>whnf)
      rotate_left 1;conv=>whnf
      refine zY C ?_;conv=>whnf
      try (refine tS ?_;conv=>whnf)
      rotate_left 1;conv=>whnf
      (refine ze9 [0,1,2,3,4,5] J ?_;rintro _ _ ⟨rfl,d2,I,rfl⟩)
      conv=>whnf
      refine zY C ?_;conv=>whnf
      try (refine tS ?_;conv=>whnf)
      rotate_left 1;conv=>whnf
      (refine ze9 [0,1,2,3,4,5] J ?_;rintro _ _ ⟨rfl,d2,I,rfl⟩)
      refine Ad ?_ ?_;refine Ad ?_ ?_;conv=>whnf
      refine zY C ?_;conv=>whnf
      try (refine tS ?_;conv=>whnf)
      rotate_left 1;conv=>whnf
      refine zY C ?_;conv=>whnf
      try (refine tS ?_;conv=>whnf)
      rotate_left 1;conv=>whnf
      refine zY C ?_;conv=>whnf
      try (refine tS ?_;conv=>whnf)
      rotate_left 1;refine Ad ?_ ?_;conv=>whnf
      (refine ze9 [0,1,2,3,4,5] J ?_;rintro _ _ ⟨rfl,d2,I,rfl⟩)
      conv=>whnf
      refine zY C ?_;conv=>whnf
      try (refine tS ?_;conv=>whnf)
      rotate_left 1;conv=>whnf
      (refine ze9 [0,1,2,3,4,5] J ?_;rintro _ _ ⟨rfl,d2,I,rfl⟩)
      conv=>whnf
      refine zY C ?_;conv=>whnf
      try (refine tS ?_;conv=>whnf)
      rotate_left 1;all_goals
        cases hT:BT g ⟨0,F (AM g z (k:Nat))⟩ (AM g z (k:Nat)) (CN s.a s.txns z)
      all_goals
        conv=>whnf
        first
        | exact⟨(k+1,d2),⟨by show k+1<=2;omega,I,fun j hj=>by by_cases e:j=k;exact e ▸ hT;exact u j (by have:j<k+1:=hj;omega)⟩,by show 2 - (k+1)<2 - k;omega,zS (s:= [0,1,2,3,4,5,6]) ⟨⟨rfl,rfl,rfl,rfl,AG (by omega),tv⟩,tA,rfl,rfl,rfl,rfl,rfl⟩⟩
        | (rename_i t
           have e:=W _ hT;subst e;exact⟨.tp [.ag [Bm t], .v (.bool true)], .tp [.ag [Bm t], .v (.bool true)],Fo g s 0 d2,fun _ _ h=>h,zS (s:= [0,1,2,3,4,5]) tA,rfl,d2,I,rfl⟩)
    · have ek:k=2:=by omega
      subst ek;rw [N u];exact⟨.tp [.ag [Bm []], .v (.bool false)], .tp [.ag [Bm []], .v (.bool false)],Fo g s 0 d1,zs,zS (s:= [0,1,2,3,4,5]) tA,rfl,d1,K,rfl⟩
def KZ (g:Geo) (s:Stt) (F:Int->List UInt8) (t:List Ent) (z w:Int):List UInt8:=match CB s.txns z w with
 | some p=>p.1.bytes
 | none=>(D5 ⟨0,F (Br g s.a z w)⟩ (Br g s.a z w) (t.getD (EJ g w).toNat ez)).getD []
theorem RX (g:Geo) (s:Stt) (d:Dk) (F:Int->List UInt8) (t:List Ent) (z w:Int) (hg:Bq g=true) (hl:LogB s.txns) (ha:Bj g s.a=true) (h:Gd (Ar g) d F) (hF:∀ a,(F a).length<=100000) (ht:(t.length:Int)=g.d+1) (hz:0<=z/\z<g.z) (hw : -1<=w/\w<g.d) :
    ACalls Tryz.prog false 249 [.bp 0 0, .ag [Bm t],iv z,iv w] (Fo g s 0 d) fun r H=>r=bA (KZ g s F t z w)/\∃ d',Gd (Ar g) d' F/\H=Fo g s 0 d':=by
  have hf:=Kd s.txns z w hl.n hl.i;unfold KZ;cases hL:CB s.txns z w with
  | some p=>
    obtain⟨x,q⟩:=p;rw [hL] at hf;simp only;refine zT tys_ok Tryz.func249 rfl rfl (Ae rfl) ?_;conv=>whnf
    refine FnO.lend (hf.subA (args:= [.sl 4 s.txns.length fun i=>(s.txns.map CG).getD i [],iv z,iv w]) ⟨AU (f:=CG) s.txns rfl rfl,fun _ _ h=>h,fun _ _ h=>h,tv⟩) ⟨(Ab _).symm,rfl⟩ ?_;rintro _ _ ⟨rfl,rfl⟩;refine⟨⟨rfl,by rw [flatR,flat_by1];try rfl⟩,?_⟩;exact⟨.ow 7 (x.bytes.length),bA x.bytes,Fo g s 0 d,fun _ _ h=>h,zI (zQ (zN 0 7 (congrArg (AV.ow 7) (Ab _).symm) rfl) (zK 0 rfl (F8 (Ab _) rfl))) (s:= [0,1,2,3,4,5]) tA,rfl,d,h,rfl⟩
  | none=>
    rw [hL] at hf;simp only;have hA:=LR g s.a z w hg ha hz hw;obtain⟨sl,e1,e2,e3⟩:=FJ hg ha hz hw;obtain⟨q1,q2⟩:=EV hg hz ⟨e2,e3⟩;have I:=Aq.1 hg;have C:=ba g s (Ar g) d F (Br g s.a z w) h (by omega);have j:=VK g w;have hb:=T5 ⟨0,F (Br g s.a z w)⟩ (Br g s.a z w) (t.getD (EJ g w).toNat ez) (hF _);have a1:0<=EJ g w/\EJ g w<g.d+1:=by unfold EJ;split <;> omega
    refine zT tys_ok Tryz.func249 rfl rfl (Ae rfl) ?_;conv=>whnf
    refine FnO.lend (hf.subA (args:= [.sl 4 s.txns.length fun i=>(s.txns.map CG).getD i [],iv z,iv w]) ⟨AU (f:=CG) s.txns rfl rfl,fun _ _ h=>h,fun _ _ h=>h,tv⟩) ⟨(Ab _).symm,rfl⟩ ?_;rintro _ _ ⟨rfl,rfl⟩;refine⟨tA,?_⟩;conv=>whnf
    repeat' (refine zZ ?_;conv=>whnf)
    apply zP tys_ok mixed (.o [0,1,2,3,4,5,6,7,8,9,10,11,12] .fin) [12,29,30,31,32,33,34,35,36,37,38,39,40] (by kernel_rfl)
    · conv=>whnf
      (refine zq (args':= [.ag (AK g), .ag (Lt s.a (.sl 3 s.a.homes.length fun i=>(s.a.homes.map DL).getD i [])),iv z,iv w]) (hA.subA ⟨ri,Bf ⟨ri,ri,ri,ri,ri,ri,AU (f:=DL) s.a.homes rfl rfl,tv⟩,ri,ri,tv⟩) ⟨(Ab _).symm,rfl⟩ ?_;rintro _ rfl;refine⟨rfl,?_⟩)
      exact tA
    conv=>whnf
    cases G:D5 ⟨0,F (Br g s.a z w)⟩ (Br g s.a z w) (t.getD (EJ g w).toNat ez);all_goals
      rw [G] at hb;repeat' (refine zZ ?_;conv=>whnf)
      apply zX (544+2 ^ 130) tys_ok mixed (.o [0,1,3,4,6,7,8,10] (.three 2 (.two 5 (.o [9,11,12,13,14,15,16,17,18,19] .fin) 9 (.two 5 (.o [11,12,13,14,15,16,17,18,19] .fin) 11 (.o [5,12,13,14,15,16,17,18,19] .fin))) 5 (.two 2 (.o [9,11,12,13,14,15,16,17,18,19] .fin) 9 (.o [2,11,12,13,14,15,16,17,18,19] .fin)) 9 (.two 2 (.two 5 (.o [11,12,13,14,15,16,17,18,19] .fin) 11 (.o [5,12,13,14,15,16,17,18,19] .fin)) 5 (.o [2,11,12,13,14,15,16,17,18,19] .fin)))) (by kernel_rfl);refine Ad ?_ (Ad ?_ ?_);conv=>whnf
      (refine ze9 [0,1,2,3,4,5] C ?_;rintro _ _ ⟨rfl,d2,u,rfl⟩)
      refine Ad ?_ ?_;conv=>whnf
      refine zY j ?_;conv=>whnf
      try (refine tI ?_;conv=>whnf)
      refine zY hb ?_;conv=>whnf
      rotate_left 1;refine Ad ?_ ?_;conv=>whnf
      refine zY j ?_;conv=>whnf
      try (refine tI ?_;conv=>whnf)
      refine zY hb ?_;conv=>whnf
      rotate_left 1;conv=>whnf
      refine zY j ?_;conv=>whnf
      try (refine tI ?_;conv=>whnf)
      refine zY hb ?_;conv=>whnf
      rotate_left 1;refine Ad ?_ ?_;conv=>whnf
      (refine ze9 [0,1,2,3,4,5] C ?_;rintro _ _ ⟨rfl,d2,u,rfl⟩)
      conv=>whnf
      refine zY j ?_;conv=>whnf
      try (refine tI ?_;conv=>whnf)
      refine zY hb ?_;conv=>whnf
      rotate_left 1;conv=>whnf
      (refine ze9 [0,1,2,3,4,5] C ?_;rintro _ _ ⟨rfl,d2,u,rfl⟩)
      conv=>whnf
      refine zY j ?_;conv=>whnf
      try (refine tI ?_;conv=>whnf)
      refine zY hb ?_;conv=>whnf
      rotate_left 1;refine Ad ?_ ?_;conv=>whnf
      (refine ze9 [0,1,2,3,4,5] C ?_;rintro _ _ ⟨rfl,d2,u,rfl⟩)
      refine Ad ?_ ?_;conv=>whnf
      refine zY j ?_;conv=>whnf
      try (refine tI ?_;conv=>whnf)
      refine zY hb ?_;conv=>whnf
      rotate_left 1;conv=>whnf
      refine zY j ?_;conv=>whnf
      try (refine tI ?_;conv=>whnf)
      refine zY hb ?_;conv=>whnf
      rotate_left 1;conv=>whnf
      (refine ze9 [0,1,2,3,4,5] C ?_;rintro _ _ ⟨rfl,d2,u,rfl⟩)
      conv=>whnf
      refine zY j ?_;conv=>whnf
      try (refine tI ?_;conv=>whnf)
      refine zY hb ?_;conv=>whnf
      rotate_left 1
    all_goals
      first
      | (rename_i b
         exact⟨bA b,bA b,Fo g s 0 d2,fun _ _ h=>h,zS (s:= [0,1,2,3,4,5]) tA,rfl,d2,u,rfl⟩)
      | exact⟨bA [],bA [],Fo g s 0 d2,Bg 1 _,zS (s:= [0,1,2,3,4,5]) tA,rfl,d2,u,rfl⟩
def Fm (b:List UInt8):List AV:= [bA b]
theorem ConvF.sealTp {fr:Fr} {H:List AB} (i k:Nat) {x z:AV} {t:TypeId} {sz:Nat} {es:List (List AV)} (hx:fget fr i = .tp [x, .ow k es.length,z]) (hk:hget H k=some (.row t sz es)):ConvF fr H ((i, .tp [x, .sl sz es.length fun j=>es.getD j [],z])::fr) (H.set k .dead):=fun _ _ c _ _ hs hf=>by
 rw [hget_eq] at hk;obtain⟨c1,e1,s1,x1,r1⟩:=hs.freeze hk;refine⟨c1,e1,s1,(hf.ext x1).cons i _ ?_,x1⟩;have h0:=hf.get i;have h1:=(hf.ext x1).get i;rw [hx] at h0 h1;simp only [Rd] at h0 h1;obtain⟨us,e,h0⟩:=h0;obtain⟨us',e',h1⟩:=h1;have eu:us'=us:=by
  have:=e.symm.trans e';injection this with this
  simpa using this.symm
 subst eu;obtain⟨y1,l1,rfl,a1,y2,l2,rfl,a2,y3,l3,rfl,a3,rfl⟩:=h0;obtain⟨z1,m1,q1,b1,z2,m2,q2,b2,z3,m3,q3,b3,q4⟩:=h1;subst q2 q3 q4;simp only [List.cons.injEq,and_true] at q1;obtain⟨rfl,rfl,rfl⟩:=q1;simp only [Rd];exact⟨_,e,_,_,rfl,b1,_,_,rfl,r1 _ a2,_,_,rfl,b3,rfl⟩
theorem D6 {L:List (List UInt8)} {n:Nat} {es:List (List AV)} (hn:n=L.length) (he:es=L.map Fm) (c:Ctx) (v:Value) (h:Rd (.sl 1 n fun i=>es.getD i []) c v):Rd (E7 L) c v:=AU (f:=Fm) L hn he c v h
def La (g:Geo) (s:Stt) (F:Int->List UInt8) (t:List Ent) (z:Int) (k:Nat):List (List UInt8):=(List.range k).map fun i=>KZ g s F t z (i:Nat)
def D0 (g:Geo) (s:Stt) (F:Int->List UInt8) (t:List Ent) (z:Int):List (List UInt8):=La g s F t z g.d.toNat ++ [KZ g s F t z (-1)]
theorem Jm {g:Geo} {s:Stt} {F:Int->List UInt8} {z:Int} {t:List Ent} (h:ER g s F z=some t):FK g t=true:=by
 have hr:∀ {b:List UInt8} {t:List Ent},Ce g b=some t->FK g t=true:=fun {b t} h=>by
  unfold Ce at h;split at h
  ·rename_i hh;obtain rfl:=Option.some.inj h;exact hh.1
  ·cases h
 have ho:∀ {x:Gt} {a r:Int} {t:List Ent},BT g x a r=some t->FK g t=true:=fun {x a r t} h=>by
  unfold BT at h;split at h
  ·split at h
   ·exact hr h
   ·cases h
  ·cases h
 unfold ER at h;split at h
 ·exact hr h
 ·split at h
  ·rename_i hh;obtain rfl:=Option.some.inj h;exact ho hh
  ·exact ho h
theorem Gy {g:Geo} {t:List Ent} (h:FK g t=true):(t.length:Int)=g.d+1:=by
 unfold FK at h
 grind
theorem GJ {g:Geo} {s:Stt} {F:Int->List UInt8} {t:List Ent} {z w:Int} (hi:∀ t∈s.txns,∀ x∈t.images,Bn g x=true) (hw:w≠255):(KZ g s F t z w).length=0\/(KZ g s F t z w).length=8:=by
 unfold KZ;split
 ·rename_i p hp;obtain⟨x,q⟩:=p;obtain⟨t',ht, -,hx, -,e⟩:=GP (Ah _) hp;exact .inr ((Dh (hi t' ht x hx)).2 (by rw [e];exact hw)).2.2
 ·unfold D5;split
  ·split
   ·rename_i h;exact .inr h.2.1
   ·exact .inl rfl
  ·exact .inl rfl
theorem Ra (g:Geo) (s:Stt) (d:Dk) (F:Int->List UInt8) (z:Int) (hg:Bq g=true) (hl:LogB s.txns) (ha:Bj g s.a=true) (h:Gd (Ar g) d F) (hF:∀ a,(F a).length<=100000) (hz:0<=z/\z<g.z) :
  ACalls Tryz.prog false 173 [.bp 0 0,iv z] (Fo g s 0 d) fun r H=>r=(match ER g s F z with | some t=> .tp [.ag [Bm t],E7 (D0 g s F t z), .v (.bool true)] | none=> .tp [.ag [Bm []],E7 [], .v (.bool false)])/\∃ d',Gd (Ar g) d' F/\H=Fo g s 0 d':=by
 have hT:=Vy g s d F z hg hl ha h hF hz;obtain⟨g1,g2,g3,g4,g5⟩:=Aq.1 hg;cases hq:ER g s F z with
 | none=>
  rw [hq] at hT;refine zT tys_ok Tryz.func173 rfl rfl (Ae rfl) ?_;conv=>whnf
  refine ze9 [0,1,2,3,4,5] hT ?_;rintro _ _ ⟨rfl,d2,i,rfl⟩;exact⟨.tp [.ag [Bm []],E7 [], .v (.bool false)], .tp [.ag [Bm []],E7 [], .v (.bool false)],Fo g s 0 d2,BN ⟨Bf ⟨Bg 3 _,tv⟩,Bg 1 _,ri,tv⟩,zS (s:= [0,1,2,3,4,5]) tA,rfl,d2,i,rfl⟩
 | some t=>
  rw [hq] at hT;have u:=Gy (Jm hq);refine zT tys_ok Tryz.func173 rfl rfl (Ae rfl) ?_;conv=>whnf
  refine ze9 [0,1,2,3,4,5] hT ?_;rintro _ _ ⟨rfl,d2,i,rfl⟩;conv=>whnf
  refine zU (Nat × Dk) (fun x=>([(0, .bp 0 0),(1,iv z),(4, .bp 6 0),(7, .bp 7 0),(9, .ow 8 x.1),(10,iv (x.1:Nat))],Fo g s 0 x.2 ++ ([.box 145 [.v (.slice none 0 0)], .box 145 [Bm t], .row 22 1 ((La g s F t z x.1).map Fm)]:List AB))) (fun x=>(x.1:Int)<=g.d/\Gd (Ar g) x.2 F) (fun x=>g.d.toNat - x.1) (0,d2) ⟨by show ((0:Nat):Int)<=g.d;omega,i⟩
   ⟨_,_,zC _ _, [(9,22,1)],tA, [0,1,2,3,4,5,6,7,8],tA,tA,rfl,rfl,rfl,rfl,rfl⟩ ?_
  rintro⟨k,d1⟩ ⟨hk,j⟩;simp only at hk j;conv=>whnf
  refine A5 (fun h6=>?_) (fun h6=>?_) <;> (repeat rw [Aa] at h6) <;> conv=>whnf
  ·have I:(La g s F t z k).map Fm ++ [Fm (KZ g s F t z (k:Nat))]=(La g s F t z (k+1)).map Fm:=by simp [La,Bp]
   have h1:=RX g s d1 F t z (k:Nat) hg hl ha j hF u hz (by omega);repeat' (refine zZ ?_;conv=>whnf)
   refine ze9 [0,1,2,3,4,5] h1 ?_;rintro _ _ ⟨rfl,d3,f,rfl⟩;refine⟨rfl,?_⟩;refine⟨⟨by simp [La],by omega⟩,?_⟩;conv=>whnf
   exact⟨(k+1,d3),⟨by show ((k+1:Nat):Int)<=g.d;omega,f⟩,by show g.d.toNat - (k+1)<g.d.toNat - k;omega,zS (s:= [0,1,2,3,4,5,6,7,8]) ⟨⟨rfl,rfl,rfl,rfl,rfl,AG (by omega),tv⟩,⟨rfl,rfl,rfl,rfl,rfl,rfl,rfl,rfl,congrArg (fun es=>some (AB.row 22 1 es)) I,tv⟩,rfl,rfl,rfl,rfl,rfl⟩⟩
  ·have ek:k=g.d.toNat:=by omega
   subst ek;have G:(D0 g s F t z).length=g.d.toNat+1:=by simp [D0,La]
   have C:(La g s F t z g.d.toNat).map Fm ++ [Fm (KZ g s F t z (-1))]=(D0 g s F t z).map Fm:=by simp [D0]
   have h1:=RX g s d1 F t z (-1) hg hl ha j hF u hz (by omega);refine ze9 [0,1,2,3,4,5] h1 ?_;rintro _ _ ⟨rfl,d3,f,rfl⟩;refine⟨rfl,?_⟩;refine⟨⟨by simp [La],by omega⟩,?_⟩;conv=>whnf
   apply zX (32) tys_ok mixed (.o [0,1,2,3,4] (.two 5 (.o [6,7,8,9] .fin) 7 (.o [8,5,6,9] .fin))) (by kernel_rfl);refine Ad ?_ ?_;conv=>whnf
   try (refine tS ?_;conv=>whnf)
   rotate_left 1;conv=>whnf
   try (refine tS ?_;conv=>whnf)
   rotate_left 1;all_goals
    conv=>whnf
    exact⟨.tp [.ag [Bm t], .ow 8 (D0 g s F t z).length, .v (.bool true)], .tp [.ag [Bm t],E7 (D0 g s F t z), .v (.bool true)],Fo g s 0 d3,BN (m:= [.ag [Bm t], .ow 8 (D0 g s F t z).length, .v (.bool true)]) ⟨ri,by rw [G];exact fun _ _ h=>h,ri,tv⟩,zI (zQ (ConvF.sealTp 0 8 (es:=(D0 g s F t z).map Fm) (by rw [Ab];try rfl) (congrArg (fun es=>some (AB.row 22 1 es)) C)) (zK 0 rfl (BN (m:= [.ag [Bm t],E7 (D0 g s F t z), .v (.bool true)]) ⟨ri,D6 (Ab _) rfl,ri,tv⟩))) (s:= [0,1,2,3,4,5]) tA,rfl,d3,f,rfl⟩
theorem DB {L:List Int} {n:Nat} {es:List (List AV)} (hn:n=L.length) (he:es=L.map fun x=> [AV.v (.int .i64 x)]) (c:Ctx) (v:Value) (h:Rd (.sl 1 n fun i=>es.getD i []) c v):Rd (iA L) c v:=AU (f:=fun x=> [AV.v (.int .i64 x)]) L hn he c v h
def G0 (g:Geo) (s:Stt) (F:Int->List UInt8) (seq lba:Int) (b:List UInt8):List Img:=match ER g s F (lba.tdiv g.d) with
 | some t=>B_ (lba.tdiv g.d) (Bl g t (D0 g s F t (lba.tdiv g.d)) [lba.tmod g.d] [b] seq) (D3 g t (D0 g s F t (lba.tdiv g.d)) [lba.tmod g.d] [b] g.d.toNat) [lba.tmod g.d] [b]
 | none=> []
theorem Sq {L L':List Img} {n:Nat} (e:L=L') (hn:n=L'.length) (c:Ctx) (v:Value) (h:Rd (.sl 3 n fun j=>((List.range L'.length).map fun i=>Dz (L'.getD i ⟨0,0, []⟩)).getD j []) c v):Rd (D2 L) c v:=by
 subst e;refine zB hn (fun i hi=>?_) h;have:i<L.length:=by omega
 simp [this]
theorem Lj {g:Geo} {seq epoch:Int} {x:Img} (hg:Bq g=true) (h2:CQ seq 0 4294967295=true) (h3:CQ epoch 0 4294967295=true) (h7:Bn g x=true) {k n:Nat} (hk:k<n) (hn:n=3):Gm g ⟨1,seq,epoch,(k:Nat),n+1,x⟩=true:=by
 simp only [Gm,hg,GT,KO,h2,h3,h7,BW,B3];simp only [if_neg (show ¬(1:Int)=0 by omega),if_true,Af,AE];omega
theorem Li {g:Geo} {seq epoch:Int} (hg:Bq g=true) (h2:CQ seq 0 4294967295=true) (h3:CQ epoch 0 4294967295=true) {n:Nat} (hn:n=3):Gm g ⟨2,seq,epoch,(n:Nat),n+1,noImg⟩=true:=by
 subst hn;simp only [Gm,hg,GT,KO,h2,h3,BW];simp only [if_neg (show ¬(2:Int)=0 by omega),if_neg (show ¬(2:Int)=1 by omega),if_true,Af,AE,beq_iff_eq,KP,noImg];simp
@[reducible] def rwQ (g:Geo) (a:An) (l:List Tx) (x:Tx) (d:Dk):List AB:= [.box 132 (Za g (.bp 1 0) (.ow 4 a.homes.length) (.ow 5 (l.length+1)) (AF a l) 0), .box 133 (Gp (.ow 2 d.cells.length) (.ow 6 d.cache.length) d.reqs d.left), .row 68 3 (d.cells.map B4), .dead, .row 108 3 (a.homes.map DL), .row 170 4 (l.map CG ++ [CG x]), .row 152 2 (d.cache.map Ei)]
theorem Zb (g:Geo) (a:An) (l:List Tx) (x:Tx) (d:Dk):rwQ g a l x d=rwP g (AF a (l ++ [x])) 0 d:=by
 have e1:(AF a (l ++ [x])).txns.length=l.length+1:=by show (l ++ [x]).length=_;simp
 have e2:(AF a (l ++ [x])).txns.map CG=l.map CG ++ [CG x]:=by show (l ++ [x]).map CG=_;simp
 show _=rwP g (AF a (l ++ [x])) 0 d;unfold rwP;rw [e1,e2];try rfl
def Gk (g:Geo) (a:An) (l:List Tx) (F:Int->List UInt8) (lba:Int) (b:List UInt8):Tx:=⟨a.seq+(l.length:Int),(a.pos+Cw l).tmod g.sl,4,G0 g (AF a l) F (a.seq+(l.length:Int)) lba b⟩
theorem in01:(0:Int)<=((0:Nat):Int)/\((0:Nat):Int)<((1:Nat):Int):=by decide
def aB (A:Int) (p:Bool):AV:=match p with
 | true=>iA [A]
 | false=> .v (.slice none 0 0)
def bm (b:List UInt8) (p:Bool):AV:=match p with
 | true=>E7 [b]
 | false=> .v (.slice none 0 0)
def YC (L:List Img) (p:Bool):AV:=match p with
 | true=>D2 L
 | false=> .v (.slice none 0 0)
theorem Qs {g:Geo} (hg:Bq g=true) {r:Rc} (hr:Gm g r=true) {c s:Int} (hc:c=0\/c=1) (hs:0<=s/\s<g.sl):Cx (BF g r c s)=Bi g c s:=by
 have hb:=Fd hg (HZ hc hs);have h1:=JA hr;have h2:=Er hr;exact(GD (a:=Bi g c s) (s:=r.seq) (p:=Ex r) ⟨hb.1,by omega,h1.1,h1.2,by omega⟩).2.1
theorem Rk (g:Geo) (a:An) (l:List Tx) (d:Dk) (F:Int->List UInt8) (K lba:Int) (b:List UInt8) (hg:Bq g=true) (hv:Vol g K d (AF a l)) (hK:K<=4294967294) (h:Gd (Ar g) d F) (hF:∀ a,(F a).length<=100000) (G:0<=lba/\lba<g.z*g.d) (hb:b.length=8) :
  ACalls Tryz.prog false 94 [.bp 0 0,iA [lba],E7 [b]] (Fo g (AF a l) 0 d) fun r H=>(r = iv 0/\Cw l+4<=g.sl/\(ER g (AF a l) F (lba.tdiv g.d)).isSome=true/\∃ d' W,Gd (Ar g) d' (ML F W)/\(∀ w∈W,(g.an<=w.addr/\w.addr<g.an+2*g.sl/\Cx w.bytes=w.addr)/\w.bytes.length<=200)/\Vol g (K+1) d' (AF a (l ++ [Gk g a l F lba b]))/\H=rwP g (AF a (l ++ [Gk g a l F lba b])) 0 d')\/∃ e,e≠0/\r = iv e/\(g.sl<Cw l+4\/ER g (AF a l) F (lba.tdiv g.d)=none)/\∃ d',H=Fo g (AF a l) 0 d':=by
 obtain⟨g1,g2,g3,g4,g5⟩:=Aq.1 hg;have hj:=hv.sm hg;have ha:Bj g a=true:=hv.an;have hu:C0 g l a.seq a.pos g.sl=true:=hv.ring;have kt:l.length<=30:=hj.t.1;have kf:LogB (AF a l).txns:=⟨by have:=hj.t.1;omega,fun t ht=>⟨by have:=(hj.t.2 t ht).1;omega,fun x hx=>by have:=(hj.t.2 t ht).2 x hx;omega⟩⟩;have ku:=E8 l l.length;obtain⟨a1,a2,a3,a4⟩:=DD ha;have ks:a.seq+l.length<=K:=hv.seq;obtain⟨Z,hZ⟩:∃ Z,Z=lba.tdiv g.d:=⟨_,rfl⟩;obtain⟨A,hA⟩:∃ A,A=lba.tmod g.d:=⟨_,rfl⟩;have h5:0<=Z/\Z<g.z:=by
  rw [hZ,AO G.1];exact⟨C6 G.1 (by omega),BZ (by omega) G.2⟩
 have kr:0<=A/\A<g.d:=by
  rw [hA];exact⟨Bw _ G.1,AZ _ (by omega)⟩
 have hz:=V9 g lba hg G;have hs:=Pr l (by omega);have hy:=V7 g a l hg ha (by omega);have tsub:SubL [.sl 4 l.length fun i=>(l.map CG).getD i []] [CS l]:=⟨AU (f:=CG) l rfl rfl,tv⟩;have asub:∀ (c:Ctx) (v:Value),Rd (.ag (Lt a (.sl 3 a.homes.length fun i=>(a.homes.map DL).getD i []))) c v->Rd (.ag (Ek a)) c v:=Bf ⟨ri,ri,ri,ri,ri,ri,AU (f:=DL) a.homes rfl rfl,tv⟩;refine zT tys_ok Tryz.func94 rfl rfl (Ae rfl) ?_;conv=>whnf
 refine zY hz ?_;conv=>whnf
 apply zP tys_ok mixed (.o [0,1,2,3,4,5,6,7,8,9,10,11,12,13] .fin) [36,37,38,39,40,41,42,43,44,45,46,47,48,49] (by kernel_rfl)
 ·conv=>whnf
  (refine zq (args':= [.sl 4 l.length fun i=>(l.map CG).getD i []]) (hs.subA tsub) ⟨(Ab _).symm,rfl⟩ ?_;rintro _ rfl;refine⟨rfl,?_⟩)
  exact tA
 conv=>whnf
 conv=>whnf
 rw [wi (show -9223372036854775808<=g.sl - Cw l/\g.sl - Cw l<=9223372036854775807 by unfold Cw;omega)];by_cases hl:(4:Int) > g.sl - Cw l
 ·rw [decide_eq_true hl];exact⟨ze 21,ze 21,Fo g (AF a l) 0 d,fun _ _ h=>h,zS (s:= [0,1,2,3,4,5]) tA, .inr ⟨21,by decide,rfl, .inl (by omega),d,rfl⟩⟩
 rw [decide_eq_false hl];conv=>whnf
 apply zP tys_ok mixed (.o [0,1,2,3,4,5,6,7,8,9,10,11,12,13,14,15,16,17,18,19] .fin) [8,9,50,51,52,53,54,55,56,57,58,59,60,61,62,63,64,65,66,67] (by kernel_rfl)
 ·conv=>whnf
  (refine zq (args':= [.ag (AK g), .ag (Lt a (.sl 3 a.homes.length fun i=>(a.homes.map DL).getD i [])), .sl 4 l.length fun i=>(l.map CG).getD i []]) (hy.subA ⟨fun _ _ h=>h,asub,tsub⟩) ⟨(Ab _).symm,(Ab _).symm,rfl⟩ ?_;rintro _ rfl;refine⟨rfl,?_⟩)
  exact tA
 conv=>whnf
 conv=>whnf
 rw [decide_eq_false (show ¬a.seq+(l.length:Int) > 4294967295 by omega)];conv=>whnf
 obtain⟨S,hS⟩:∃ S,S=a.seq+(l.length:Int):=⟨_,rfl⟩;obtain⟨P,hP⟩:∃ P,P=(a.pos+Cw l).tmod g.sl:=⟨_,rfl⟩;rw [<-hS,<-hP];have hd:IntKind.i64.wrap (([lba].getD (((0:Nat):Int)).toNat 0).tdiv g.d)=Z:=by
  rw [hZ];exact wi (by have:=h5;rw [hZ] at this;show -9223372036854775808<=lba.tdiv g.d/\lba.tdiv g.d<=9223372036854775807;omega)
 have J:∀ t,∀ x∈D0 g (AF a l) F t Z,x.length=0\/x.length=8:=fun t x hx=>by
  have ho:∀ t∈(AF a l).txns,∀ x∈t.images,Bn g x=true:=fun t ht=>Av.1 (Dj hu t ht).1
  rcases A6.1 hx with q | q
  ·obtain⟨i,hi,rfl⟩:=AQ.1 q;exact GJ ho (by have:=AS.1 hi;omega)
  ·rw [A2] at q;rw [q];exact GJ ho (by decide)
 obtain⟨L,hL⟩:∃ L,L=G0 g (AF a l) F S lba b:=⟨_,rfl⟩;refine zU (Nat × Dk × Bool) (fun x=>([(0, .bp 0 0),(1,iA [lba]),(2,E7 [b]),(7,ze 4),(8,ze P),(9,ze S),(10,YC L x.2.2),(11,ze (x.1:Nat))],Fo g (AF a l) 0 x.2.1)) (fun x=>(x.1:Int)<=g.z/\Gd (Ar g) x.2.1 F/\(x.2.2=true->(ER g (AF a l) F Z).isSome=true)/\(x.2.2=true↔Z<(x.1:Int))) (fun x=>g.z.toNat - x.1) (0,d,false) ⟨by show ((0:Nat):Int)<=g.z;omega,h,fun q=>(by cases q),⟨fun q=>(by cases q),fun q=>absurd q (by show ¬Z<((0:Nat):Int);omega)⟩⟩
  (zS (s:= [0,1,2,3,4,5]) tA) ?_
 rintro⟨k,d1,p⟩ ⟨hk,U,hh,C⟩;simp only at hk U hh C;by_cases O:(k:Int)<g.z;rotate_left 1
 ·obtain rfl:p=true:=C.2 (by omega);obtain⟨t,hT⟩:=Cg.1 (hh rfl);have N:=Jm hT;have V:L=B_ Z (Bl g t (D0 g (AF a l) F t Z) [A] [b] S) (D3 g t (D0 g (AF a l) F t Z) [A] [b] g.d.toNat) [A] [b]:=by
   rw [hL,G0,<-hZ,<-hA,hT]
  have hc:∀ x∈ [b],x.length=8:=fun x hx=>by rw [A2] at hx;rw [hx];exact hb
  have hr:L.length=3:=by rw [V,DY];try rfl
  have h9:∀ x∈ [A],0<=x/\x<g.d:=fun x hx=>by rw [A2] at hx;rw [hx];exact kr
  have hf:∀ x∈L,Bn g x=true:=fun x hx=>by
   rw [V] at hx;exact(IY hg h5 (En hg N (by omega)) (EB (J t) hc (show [A].length<= [b].length from Ah 1) _) h9 hc (Ah 1) x hx).1
  have kq:OneTab L:=by
   rw [V];exact Ii (l:= []) hg List.Pairwise.nil (fun x hx=>by cases hx) h9
  have h0:0<=a.epoch/\a.epoch<=4294967295:=by
   have:=ha;simp only [Bj,A_,BB,B3,Af,decide_eq_true_eq,AE] at this;omega
  have h8:CQ S 0 4294967295=true:=AE.2 (by omega);have kp:∀ x∈L,x.bytes.length<=45:=fun x hx=>Ez hg (hf x hx)
  have hn:=Rh S a.epoch L (by omega) fun x hx=>by have:=kp x hx;omega
  obtain⟨R,hR⟩:∃ R,R=CF S a.epoch L:=⟨_,rfl⟩;have kw:R.length=4:=by rw [hR,He,hr]
  have ka:∀ k:Nat,k<4->Gm g (R.getD (k:Int).toNat rc0)=true:=fun k hk=>by
   rw [Aa,hR,Iw _ _ _ (by omega)];split
   ·rename_i q;exact Lj hg h8 (AE.2 h0) (hf _ (A3 (d:=⟨0,0, []⟩) q)) q hr
   ·rw [show k=L.length by omega];exact Li hg h8 (AE.2 h0) hr
  rw [<-hR] at hn;conv=>whnf
  rw [decide_eq_false O];conv=>whnf
  refine zY hn ?_;conv=>whnf
  refine zU (Nat × Dk × List Wr) (fun x=>([(0, .bp 0 0),(1,iA [lba]),(2,E7 [b]),(7,ze 4),(8,ze P),(9,ze S),(10,D2 L),(19,LO R),(20,ze (x.1:Nat))],Fo g (AF a l) 0 x.2.1)) (fun x=>x.1<=4/\Gw (Ar g) x.2.1 F x.2.2/\x.2.2.length=2*x.1/\∀ w∈x.2.2,(g.an<=w.addr/\w.addr<g.an+2*g.sl/\Cx w.bytes=w.addr)/\w.bytes.length<=200) (fun x=>4 - x.1) (0,d1, []) ⟨by show 0<=4;omega,U,rfl,fun w hw=>by cases hw⟩
   (zS (s:= [0,1,2,3,4,5]) tA) ?_
  rintro⟨i,d2,W⟩ ⟨hi,hW,kn,hp⟩;simp only at hi hW kn hp;conv=>whnf
  refine A5 (fun h6=>?_) (fun h6=>?_) <;> (repeat rw [Aa] at h6) <;> conv=>whnf
  ·have kj:i<4:=by omega
   obtain⟨Q,hQ⟩:∃ Q,Q=CX g P (i:Nat):=⟨_,rfl⟩;have u:=Ju hg (pos:=P) (at_:=(i:Nat)) (by rw [hP];exact⟨Bw _ (by unfold Cw;omega),AZ _ (by omega)⟩) (by omega);rw [<-hQ] at u;repeat' (refine zZ ?_;conv=>whnf)
   refine⟨by omega,?_⟩;conv=>whnf
   rw [show (IntKind.i64.wrap (P+(i:Nat))).tmod g.sl=Q from hQ.symm];have kh:=EM g 0 Q hg (HZ (.inl rfl) u);have kg:=EM g 1 Q hg (HZ (.inr rfl) u);obtain⟨X,hX⟩:∃ X,X=R.getD (i:Int).toNat rc0:=⟨_,rfl⟩;have j:Gm g X=true:=by rw [hX];exact ka i kj
   have h4:=Ha g X 0 Q j (HZ (.inl rfl) u);have h3:=Ha g X 1 Q j (HZ (.inr rfl) u);have kv:=h.len;have b0:=EC hg h.len (.inl rfl) u (c:=0);have b1:=EC hg h.len (.inr rfl) u (c:=1);have kd:=ZU g (AF a l) (Ar g) d2 F W (Bi g 0 Q) (BF g X 0 Q) hW (by omega) (by omega) (C4 j 0 Q);rw [hX] at h4 h3;apply zX (2 ^ 145) tys_ok mixed (.o [0,1,2,3,4,5,7,8,9,10,11,12,13,14,15,6,16,17,18] .fin) (by kernel_rfl);conv=>whnf
   try (refine tI ?_;conv=>whnf)
   refine zY kh ?_;conv=>whnf
   refine zY h4 ?_;conv=>whnf
   (rw [<-hX];refine ze9 [0,1,2,3,4,5] kd ?_;rintro _ _ ⟨rfl,d3,hm,rfl⟩)
   conv=>whnf
   have c0:=GK (g:=g) (.inl rfl) u (c:=0);have c1:=GK (g:=g) (.inr rfl) u (c:=1);have ko:∀ w∈(W ++ [⟨Bi g 0 Q,BF g X 0 Q⟩]) ++ [⟨Bi g 1 Q,BF g X 1 Q⟩],(g.an<=w.addr/\w.addr<g.an+2*g.sl/\Cx w.bytes=w.addr)/\w.bytes.length<=200:=fun w hw=>by
    rcases A6.1 hw with q | q
    ·rcases A6.1 q with q | q
     ·exact hp w q
     ·rw [A2] at q;rw [q];exact⟨⟨c0.1,c0.2,Qs hg j (.inl rfl) u⟩,C4 j 0 Q⟩
    ·rw [A2] at q;rw [q];exact⟨⟨c1.1,c1.2,Qs hg j (.inr rfl) u⟩,C4 j 1 Q⟩
   have kc:=ZU g (AF a l) (Ar g) d3 F (W ++ [⟨Bi g 0 Q,BF g X 0 Q⟩]) (Bi g 1 Q) (BF g X 1 Q) hm (by simp;omega) (by omega) (C4 j 1 Q);apply zX (2 ^ 145) tys_ok mixed (.o [0,1,2,3,4,5,7,8,9,10,11,12,13,14,15,6,16,17,18] .fin) (by kernel_rfl);conv=>whnf
   try (refine tI ?_;conv=>whnf)
   refine zY kg ?_;conv=>whnf
   refine zY h3 ?_;conv=>whnf
   (rw [<-hX];refine ze9 [0,1,2,3,4,5] kc ?_;rintro _ _ ⟨rfl,d4,km,rfl⟩)
   conv=>whnf
   conv=>whnf
   exact⟨(i+1,d4,(W ++ [⟨Bi g 0 Q,BF g X 0 Q⟩]) ++ [⟨Bi g 1 Q,BF g X 1 Q⟩]),⟨by show i+1<=4;omega,km,by show ((W ++ [_]) ++ [_]).length=2*(i+1);simp;omega,ko⟩,by show 4 - (i+1)<4 - i;omega,zS (s:= [0,1,2,3,4,5]) ⟨⟨rfl,rfl,rfl,rfl,rfl,rfl,rfl,rfl,AG (by omega),tv⟩,tA,rfl,rfl,rfl,rfl,rfl⟩⟩
  ·have kl:=bk g (AF a l) (Ar g) d2 F W hW;refine ze9 [0,1,2,3,4,5] kl ?_;rintro _ _ ⟨rfl,d3,hm,rfl⟩;refine⟨rfl,?_⟩;conv=>whnf
   refine Ad ⟨(Ab _).symm,by show l.length+1<=1000000000;omega⟩ ?_;conv=>whnf
   refine zU Nat (fun i=>([(0, .bp 0 0),(1,iA [lba]),(24,ze (i:Nat))],rwQ g a l ⟨S,P,4,L⟩ d3)) (fun i=>i<=1) (fun i=>1 - i) 0 (by omega)
    (zS (s:= [0,1,2,3,4,5,6]) tA) ?_
   intro i hi;conv=>whnf
   refine A5 (fun h7=>?_) (fun h7=>?_) <;> (repeat rw [Aa] at h7) <;> conv=>whnf
   ·have h7:i<1:=h7;obtain rfl:i=0:=by omega
    repeat' (refine zZ ?_;conv=>whnf)
    apply zX (0) tys_ok mixed (.o [0,1,2,3,4,5,6,7,8,9,10,11,12,13,14,15,16] .fin) (by kernel_rfl);conv=>whnf
    try (refine tI ?_;conv=>whnf)
    (refine zY (Og _) ?_)
    conv=>whnf
    try (refine tS ?_;conv=>whnf)
    all_goals
     exact⟨1,by omega,by omega,zS (s:= [0,1,2,3,4,5,6]) tA⟩
   ·conv=>whnf
    have h2:Gk g a l F lba b=⟨S,P,4,L⟩:=by rw [hL,hS,hP];try rfl
    have ke:=hv.add hg hK (d':=d3) ⟨_,hm⟩ (x:=⟨S,P,4,L⟩) hS hP (by show (2:Int)<=4;omega) (by show (4:Int)<=g.sl - Cw l;omega) (by show (4:Int)=(L.length:Int)+1;omega) hf kq;exact⟨ze 0,ze 0,rwQ g a l ⟨S,P,4,L⟩ d3,fun _ _ h=>h,zS (s:= [0,1,2,3,4,5,6]) tA, .inl ⟨rfl,by omega,by rw [<-hZ,hT];try rfl,d3,W,hm,hp,by rw [h2];exact ke,by rw [h2];exact Zb g a l _ d3⟩⟩
 by_cases he:(k:Int)=Z;rotate_left 1
 ·cases p with
  | false=>
   conv=>whnf
   rw [decide_eq_true O];conv=>whnf
   refine zU Nat (fun i=>([(0, .bp 0 0),(1,iA [lba]),(2,E7 [b]),(7,ze 4),(8,ze P),(9,ze S),(10, .v (.slice none 0 0)),(11,ze (k:Nat)),(12, .v (.slice none 0 0)),(13, .v (.slice none 0 0)),(14,ze (i:Nat))],Fo g (AF a l) 0 d1)) (fun i=>i<=1) (fun i=>1 - i) 0 (by omega)
    (zS (s:= [0,1,2,3,4,5]) tA) ?_
   intro i hi;conv=>whnf
   refine A5 (fun h6=>?_) (fun h6=>?_) <;> (repeat rw [Aa] at h6) <;> conv=>whnf
   ·have h6:i<1:=h6;obtain rfl:i=0:=by omega
    repeat' (refine zZ ?_;conv=>whnf)
    refine zA tys_ok mixed [0,1,2,3,4,5,6,7,8,9,10,11] (by kernel_rfl) ?_;refine⟨in01,?_⟩;refine⟨by omega,?_⟩;conv=>whnf
    rw [hd,show (Z == (k:Int))=false from beq_eq_false_iff_ne.2 fun q=>he q.symm];exact⟨1,by omega,by omega,zS (s:= [0,1,2,3,4,5]) tA⟩
   ·have h6:1<=i:=h6;conv=>whnf
    exact⟨(k+1,d1,false),⟨by show ((k+1:Nat):Int)<=g.z;omega,U,hh,⟨fun q=>by have:=C.1 q;show Z<((k+1:Nat):Int);omega,fun q=>C.2 (by have:Z<((k+1:Nat):Int):=q;omega)⟩⟩,by show g.z.toNat - (k+1)<g.z.toNat - k;omega,zS (s:= [0,1,2,3,4,5]) ⟨⟨rfl,rfl,rfl,rfl,rfl,rfl,rfl,AG (by omega),tv⟩,tA,rfl,rfl,rfl,rfl,rfl⟩⟩
  | true=>
   conv=>whnf
   rw [decide_eq_true O];conv=>whnf
   refine zU Nat (fun i=>([(0, .bp 0 0),(1,iA [lba]),(2,E7 [b]),(7,ze 4),(8,ze P),(9,ze S),(10,D2 L),(11,ze (k:Nat)),(12, .v (.slice none 0 0)),(13, .v (.slice none 0 0)),(14,ze (i:Nat))],Fo g (AF a l) 0 d1)) (fun i=>i<=1) (fun i=>1 - i) 0 (by omega)
    (zS (s:= [0,1,2,3,4,5]) tA) ?_
   intro i hi;conv=>whnf
   refine A5 (fun h6=>?_) (fun h6=>?_) <;> (repeat rw [Aa] at h6) <;> conv=>whnf
   ·have h6:i<1:=h6;obtain rfl:i=0:=by omega
    repeat' (refine zZ ?_;conv=>whnf)
    refine zA tys_ok mixed [0,1,2,3,4,5,6,7,8,9,10,11] (by kernel_rfl) ?_;refine⟨in01,?_⟩;refine⟨by omega,?_⟩;conv=>whnf
    rw [hd,show (Z == (k:Int))=false from beq_eq_false_iff_ne.2 fun q=>he q.symm];exact⟨1,by omega,by omega,zS (s:= [0,1,2,3,4,5]) tA⟩
   ·have h6:1<=i:=h6;conv=>whnf
    exact⟨(k+1,d1,true),⟨by show ((k+1:Nat):Int)<=g.z;omega,U,hh,⟨fun q=>by have:=C.1 q;show Z<((k+1:Nat):Int);omega,fun q=>C.2 (by have:Z<((k+1:Nat):Int):=q;omega)⟩⟩,by show g.z.toNat - (k+1)<g.z.toNat - k;omega,zS (s:= [0,1,2,3,4,5]) ⟨⟨rfl,rfl,rfl,rfl,rfl,rfl,rfl,AG (by omega),tv⟩,tA,rfl,rfl,rfl,rfl,rfl⟩⟩
 obtain rfl:p=false:=by
  cases p with
  | false=>rfl
  | true=>exact absurd (C.1 rfl) (by omega)
 conv=>whnf
 rw [decide_eq_true O];conv=>whnf
 refine zU (Nat × Bool) (fun i=>([(0, .bp 0 0),(1,iA [lba]),(2,E7 [b]),(7,ze 4),(8,ze P),(9,ze S),(10, .v (.slice none 0 0)),(11,ze (k:Nat)),(12,aB A i.2),(13,bm b i.2),(14,ze (i.1:Nat))],Fo g (AF a l) 0 d1)) (fun i=>i.1<=1/\(i.2=true↔i.1=1)) (fun i=>1 - i.1) (0,false) ⟨by show 0<=1;omega,by decide⟩
  (zS (s:= [0,1,2,3,4,5]) tA) ?_
 rintro⟨i,q⟩ ⟨hi,hq⟩;simp only at hi hq;by_cases kk:i=1;rotate_left 1
 ·obtain rfl:i=0:=by omega
  obtain rfl:q=false:=by
   cases q with
   | false=>rfl
   | true=>exact absurd (hq.1 rfl) (by decide)
  conv=>whnf
  repeat' (refine zZ ?_;conv=>whnf)
  refine zA tys_ok mixed [0,1,2,3,4,5,6,7,8,9,10,11] (by kernel_rfl) ?_;refine⟨in01,?_⟩;refine⟨by omega,?_⟩;conv=>whnf
  rw [hd,show (Z == (k:Int))=true from beq_iff_eq.2 he.symm];conv=>whnf
  apply zX (131072) tys_ok mixed (.o [0,1,2,3,4,5,6,7,8,9,10,13,14,15,16] (.two 11 (.two 12 (.o [17,18,19,20,21] .fin) 17 (.two 12 (.o [18,19,20,21] .fin) 18 (.o [12,19,20,21] .fin))) 17 (.two 11 (.two 12 (.o [18,19,20,21] .fin) 18 (.o [12,19,20,21] .fin)) 18 (.o [11,12,19,20,21] .fin)))) (by kernel_rfl);conv=>whnf
  try (refine tI ?_;conv=>whnf)
  try (refine tI ?_;conv=>whnf)
  try (refine tI ?_;conv=>whnf)
  refine Ad ?_ ?_;refine Ad ?_ ?_;conv=>whnf
  try (refine tJ ?_;conv=>whnf)
  try (refine tK ?_;conv=>whnf)
  try (refine tJ ?_;conv=>whnf)
  try (refine tK ?_;conv=>whnf)
  rotate_left 1;refine Ad ?_ ?_;conv=>whnf
  try (refine tJ ?_;conv=>whnf)
  try (refine tK ?_;conv=>whnf)
  try (refine tJ ?_;conv=>whnf)
  try (refine tK ?_;conv=>whnf)
  rotate_left 1;conv=>whnf
  try (refine tJ ?_;conv=>whnf)
  try (refine tK ?_;conv=>whnf)
  try (refine tJ ?_;conv=>whnf)
  try (refine tK ?_;conv=>whnf)
  rotate_left 1;refine Ad ?_ ?_;refine Ad ?_ ?_;conv=>whnf
  try (refine tJ ?_;conv=>whnf)
  try (refine tK ?_;conv=>whnf)
  try (refine tJ ?_;conv=>whnf)
  try (refine tK ?_;conv=>whnf)
  rotate_left 1;conv=>whnf
  try (refine tJ ?_;conv=>whnf)
  try (refine tK ?_;conv=>whnf)
  try (refine tJ ?_;conv=>whnf)
  try (refine tK ?_;conv=>whnf)
  rotate_left 1;conv=>whnf
  try (refine tJ ?_;conv=>whnf)
  try (refine tK ?_;conv=>whnf)
  try (refine tJ ?_;conv=>whnf)
  try (refine tK ?_;conv=>whnf)
  rotate_left 1;all_goals
   conv=>whnf
   first
   | exact⟨(1,true),⟨by show 1<=1;omega,by decide⟩,by show 1 - 1<1 - 0;omega,zI (zQ (zN 12 7 rfl rfl) (zQ (zK 12 rfl (DB (L:= [A]) rfl (by rw [hA];rfl))) (zQ (zN 13 9 rfl rfl) (zK 13 rfl (D6 (L:= [b]) rfl rfl))))) (s:= [0,1,2,3,4,5]) tA⟩
   | exact⟨(1,true),⟨by show 1<=1;omega,by decide⟩,by show 1 - 1<1 - 0;omega,zI (zQ (zN 12 8 rfl rfl) (zQ (zK 12 rfl (DB (L:= [A]) rfl (by rw [hA];rfl))) (zQ (zN 13 9 rfl rfl) (zK 13 rfl (D6 (L:= [b]) rfl rfl))))) (s:= [0,1,2,3,4,5]) tA⟩
   | exact⟨(1,true),⟨by show 1<=1;omega,by decide⟩,by show 1 - 1<1 - 0;omega,zI (zQ (zN 12 9 rfl rfl) (zQ (zK 12 rfl (DB (L:= [A]) rfl (by rw [hA];rfl))) (zQ (zN 13 7 rfl rfl) (zK 13 rfl (D6 (L:= [b]) rfl rfl))))) (s:= [0,1,2,3,4,5]) tA⟩
   | exact⟨(1,true),⟨by show 1<=1;omega,by decide⟩,by show 1 - 1<1 - 0;omega,zI (zQ (zN 12 9 rfl rfl) (zQ (zK 12 rfl (DB (L:= [A]) rfl (by rw [hA];rfl))) (zQ (zN 13 8 rfl rfl) (zK 13 rfl (D6 (L:= [b]) rfl rfl))))) (s:= [0,1,2,3,4,5]) tA⟩
   | exact⟨(1,true),⟨by show 1<=1;omega,by decide⟩,by show 1 - 1<1 - 0;omega,zI (zQ (zN 12 7 rfl rfl) (zQ (zK 12 rfl (DB (L:= [A]) rfl (by rw [hA];rfl))) (zQ (zN 13 8 rfl rfl) (zK 13 rfl (D6 (L:= [b]) rfl rfl))))) (s:= [0,1,2,3,4,5]) tA⟩
   | exact⟨(1,true),⟨by show 1<=1;omega,by decide⟩,by show 1 - 1<1 - 0;omega,zI (zQ (zN 12 8 rfl rfl) (zQ (zK 12 rfl (DB (L:= [A]) rfl (by rw [hA];rfl))) (zQ (zN 13 7 rfl rfl) (zK 13 rfl (D6 (L:= [b]) rfl rfl))))) (s:= [0,1,2,3,4,5]) tA⟩
   | fail
 subst kk;obtain rfl:q=true:=hq.2 rfl;have I:=Ra g (AF a l) d1 F (k:Nat) hg kf ha U hF ⟨by omega,O⟩;conv=>whnf
 repeat' (refine zZ ?_;conv=>whnf)
 rw [he] at I |-
 cases hT:ER g (AF a l) F Z with
 | none=>
  rw [hT] at I;refine ze9 [0,1,2,3,4,5] I ?_;rintro _ _ ⟨rfl,d2,h1,rfl⟩;exact⟨ze 14,ze 14,Fo g (AF a l) 0 d2,fun _ _ h=>h,zS (s:= [0,1,2,3,4,5]) tA, .inr ⟨14,by decide,rfl, .inr (by rw [<-hZ,hT]),d2,rfl⟩⟩
 | some t=>
  rw [hT] at I;refine ze9 [0,1,2,3,4,5] I ?_;rintro _ _ ⟨rfl,d2,h1,rfl⟩;have N:=Jm hT;have V:L=B_ Z (Bl g t (D0 g (AF a l) F t Z) [A] [b] S) (D3 g t (D0 g (AF a l) F t Z) [A] [b] g.d.toNat) [A] [b]:=by
   rw [hL,G0,<-hZ,<-hA,hT]
  have hc:∀ x∈ [b],x.length=8:=fun x hx=>by rw [A2] at hx;rw [hx];exact hb
  have kb:=Pq g t (D0 g (AF a l) F t Z) [A] [b] S hg N (by simp [D0,La];omega) (J t) rfl hc (by show 1<=1000;omega);have ki:=Q_ g Z (Bl g t (D0 g (AF a l) F t Z) [A] [b] S) (D3 g t (D0 g (AF a l) F t Z) [A] [b] g.d.toNat) A b hg (En hg N (by omega)) (EB (J t) hc (show [A].length<= [b].length from Ah 1) _) hb;conv=>whnf
  apply zX (0) tys_ok mixed (.o [0,1,2,3,4,5,6,7,8,9,10,11,12,13,14] .fin) (by kernel_rfl);conv=>whnf
  refine zY kb ?_;conv=>whnf
  try (refine tS ?_;conv=>whnf)
  all_goals
   conv=>whnf
   refine zY ki ?_;conv=>whnf
   refine Ad (by rw [DY];show 1+2<=1000000000;omega) ?_;conv=>whnf
   exact⟨(k+1,d2,true),⟨by show ((k+1:Nat):Int)<=g.z;omega,h1,fun _=>rfl,⟨fun _=>by show Z<((k+1:Nat):Int);omega,fun _=>rfl⟩⟩,by show g.z.toNat - (k+1)<g.z.toNat - k;omega,zI (zQ (zN 10 7 (congrArg (AV.ow 7) (by rw [Ab,BQ])) rfl) (zK 10 rfl (Sq V (by rw [Ab,BQ])))) (s:= [0,1,2,3,4,5]) ⟨⟨rfl,rfl,rfl,rfl,rfl,rfl,rfl,by rw [<-he];exact AG (by omega),tv⟩,tA,rfl,rfl,rfl,rfl,rfl⟩⟩
def flatY:AV->Bool
 | .v _=>true
 | .top=>true
 | _=>false
def flatP:AV->Bool
 | .v _=>true
 | .ow _ _=>true
 | .sl _ 0 _=>true
 | _=>false
def flatQ:AV->Bool
 | .v _=>true
 | .ow _ _=>true
 | .ag l=>l.all flatP
 | _=>false
def flatS:List AB->Bool
 | []=>true
 | .row _ _ es::r=>es.flatten.all flatY&&flatS r
 | _::_=>false
theorem Qc {c c':Ctx}:∀ {l:List AV} {us:List Value},l.all flatY=true->RdL l c us->RdL l c' us
 | [],us,_,h=>by simpa only [RdL] using h
 | x::l,us,hf,h=>by
  rw [A_,Af] at hf;simp only [RdL] at h |-
  obtain⟨u,vs,rfl,h1,h2⟩:=h;refine⟨u,vs,rfl,?_,Qc hf.2 h2⟩;cases x <;> simp [flatY] at hf
  ·simp only [Rd]
  ·simpa only [Rd] using h1
theorem Mz {c c':Ctx} (hr:c'.rho=c.rho) (hl:c'.len=c.len) (hd:c'.dom=c.dom) {x:AV} (hx:flatP x=true) {u:Value} (h:Rd x c u):Rd x c' u:=by
 cases x with
 | v y=>simpa only [Rd] using h
 | ow k n=>
  simp only [Rd] at h |-
  rw [hr,hl,hd];exact h
 | sl sz n get=>
  cases n with
  | zero=>
   simp only [Rd] at h |-
   obtain⟨a,k,h1,h2,h3, -⟩:=h;exact⟨a,k,h1,h2,h3, .inl trivial⟩
  | succ n=>cases hx
 | _=>simp [flatP] at hx
theorem W5 {c c':Ctx} (hr:c'.rho=c.rho) (hl:c'.len=c.len) (hd:c'.dom=c.dom) {x:AV} (hx:flatQ x=true) {u:Value} (h:Rd x c u):Rd x c' u:=by
 cases x with
 | v y=>exact Mz hr hl hd rfl h
 | ow k n=>exact Mz hr hl hd rfl h
 | ag l=>
  simp only [Rd] at h |-
  obtain⟨xs,rfl,f⟩:=h;refine⟨xs,rfl,?_⟩;simp only [flatQ] at hx;induction l generalizing xs with
  | nil=>simpa only [RdL] using f
  | cons y l ih=>
   rw [A_,Af] at hx;simp only [RdL] at f |-
   obtain⟨u,us,rfl,h1,h2⟩:=f;exact⟨u,us,rfl,Mz hr hl hd hx.1 h1,ih hx.2 us h2⟩
 | _=>simp [flatQ] at hx
theorem flatS_mem:∀ {R:List AB} {y:AB},flatS R=true->y∈R->∃ t sz es,y = .row t sz es/\es.flatten.all flatY=true
 | .row t sz es::r,y,h,hy=>by
  rw [flatS,Af] at h;rcases Bd.1 hy with rfl | hy
  ·exact⟨t,sz,es,rfl,h.1⟩
  ·exact flatS_mem h.2 hy
theorem ACalls.fnO {P:Program} {q:Bool} {f:FuncId} {args:List AV} {K:AV->List AB->Prop} (h:ACalls P q f args [] K) (hK:∀ r R,K r R->∀ y∈R,∃ t sz es,y = .row t sz es):FnO P f args K:=by
 refine⟨h.go,fun c0 us hg hd hM hr=>?_⟩;let ce:Ctx:={ c0 with base:=0 };have i:Ext c0 ce:=⟨rfl,rfl,rfl,Ah _,fun _ _ h=>⟨h,rfl⟩,Ah _,fun _ _=>Ah _,fun _ _ _=>rfl,fun _ _ _ h=>h⟩;have j:HS (Fl.all c0.w hg) c0.M ce []:=⟨zi _ hg,rfl,hd,fun _ _=>Iff.rfl,hM,by simp,by simp,by simp⟩;refine(h.calls (Fl.all c0.w hg) c0.M ce us j (RdL.ext _ i hr)).mono ?_;rintro e w' ⟨v,c',r,H',rfl,q1,q2,q3,q4,q5, -⟩;exact⟨v,r,c',H',rfl,q2,q1,q3,q5,hK r H' q2⟩
theorem FnO.lendC {P:Program} {f:FuncId} {args args':List AV} {H:List AB} {K:AV->List AB->Prop} {q:Bool} {k:AV->List AB->Prop} (h:FnO P f args' K) (hs:sealA args H fun a _=>a=args') (hk:∀ r R,K r R->∃ R',ConvH R R'/\(flatQ r=true/\flatS R'=true)/\appK H R' 0 fun d H=>D4 (r.shift d) fun r=>k r H):ACalls P q f args H k:=by
 refine⟨h.go,fun w0 M0 c us hs0 hr=>?_⟩;obtain⟨l',H',c',rfl,h2,h3,h4,h5,_⟩:=sealA_sound hs0 hr hs;have j:globOk c'.closed.w:=h3.glob;have hc:=h.calls c'.closed us j rfl h3.lt h5;have ew:c'.closed.w=c.w:=h2
 suffices hh:Calls P f us.toArray c'.closed.w fun e w'=>∃ v c1 r H1,e = .returned v/\c1.w=w'/\k r H1/\HS w0 M0 c1 H1/\Ext c c1/\Rd r c1 v/\(q=true->Old c.w w') by
  rw [ew] at hh;exact hh
 refine hc.mono ?_;rintro e w' ⟨v,r,c1,R1,rfl,q1,rfl,q21,q31, -⟩;obtain⟨R,z,⟨f1,f2⟩,G⟩:=hk r R1 q1;obtain⟨c2,ew2,q2,x2⟩:=z _ _ _ q21;have q3:Rd r c2 v:=Rd.ext _ x2 q31;have q4:∀ y∈R,∃ t sz es,y = .row t sz es:=fun y hy=>by
  obtain⟨t,sz,es,e, -⟩:=flatS_mem f2 hy;exact⟨t,sz,es,e⟩
 -- the same memory;what the caller holds is not read
 obtain⟨c3,e3⟩:∃ c3:Ctx,c3={ c2 with M:=fun b=>c2.M b\/c.M b }:=⟨_,rfl⟩;have hsub:∀ b,b<c.w.heap.size->c'.M b->c.M b:=fun b hb hm=>by
  by_cases hx:c.M b
  ·exact hx
  ·exact absurd hm (h4.keep b hb hx).1
 have u:=q2.low;have q2':HS (Fl.all c.w hs0.glob) c.M c3 R:=by
  subst e3;refine⟨⟨?_,?_,?_,?_,?_⟩,q2.base,q2.dom,fun b hb=>?_,fun b hb=>?_,fun i y hi=>?_,fun i y g hi hl ho=>?_,q2.dis⟩
  ·have:=u.os;rw [show (Fl.all c'.closed.w j).w=c.w from ew] at this;exact this
  ·have:=u.tape;rw [show (Fl.all c'.closed.w j).w=c.w from ew] at this;exact this
  ·have:=u.output;rw [show (Fl.all c'.closed.w j).w=c.w from ew] at this;exact this
  ·have:=u.size;rw [show (Fl.all c'.closed.w j).w=c.w from ew] at this;exact this
  ·intro b hb;have:=u.block b (by show b<c'.closed.w.heap.size;rw [ew];exact hb);rw [show (Fl.all c'.closed.w j).w=c.w from ew] at this;exact this
  ·have C:b<c.w.heap.size:=hb;have:=q2.foreign b (by show b<c'.closed.w.heap.size;rw [ew];exact C);exact⟨fun hx=>hx.elim (fun hx=>hsub b C (this.1 hx)) (fun hx=>hx),fun hx=> .inr hx⟩
  ·have F:c.w.heap.size<=c2.w.heap.size:=by
    have:=u.size;rw [show (Fl.all c'.closed.w j).w=c.w from ew] at this;exact this
   rcases hb with hb | hb
   ·exact q2.lt b hb
   ·exact Au (hs0.lt b hb) F
  ·obtain⟨t,sz,es,rfl,I⟩:=flatS_mem f2 (DG hi);obtain⟨a1,a2,a3,xs,a4,a5,a6⟩:=q2.blk i _ hi;exact⟨a1,a2,a3,xs,a4,Qc I a5,a6⟩
  ·have:=q2.own i y g hi hl ho;refine⟨.inl this.1,fun hx=>this.2 ?_⟩;show g<c'.closed.w.heap.size;rw [ew];exact hx
 have q3':Rd r c3 v:=W5 (by rw [e3]) (by rw [e3]) (by rw [e3]) f1 q3;have q5:c3.w=c2.w:=by rw [e3]
 obtain⟨p1,p2⟩:=hs0.beside (c':=c3) q2' q4;have h1:=BV (appK_iff G);rw [A0,<-hs0.dom] at h1;exact⟨v,c.beside c3,_,_,rfl,by show c3.w=_;rw [q5,ew2],h1,p1,p2,Rd.shift r q3',fun _=>by have:=q2'.low.below.old;rw [q5,ew2] at this;exact this⟩
theorem NF (n:Nat) (l:List AV) (h:l.all flatY=true):(List.replicate n l).flatten.all flatY=true:=by
 induction n with
 | zero=>rfl
 | succ n ih=>rw [Dn,AI,Dl,h,ih];rfl
theorem SubL.tops:∀ (l:List AV),SubL l (List.replicate l.length .top)
 | []=>trivial
 | x::l=>⟨fun _ _ _=>by simp [Rd],SubL.tops l⟩
theorem ACalls.lendBox2 {P:Program} {q:Bool} {f:FuncId} {x:AV} {H:List AB} {K:AV->List AB->Prop} (j k:Nat) {t t':TypeId} {sz':Nat} {ar ar2 cs cs2:List AV} {es':List (List AV)} (hj:H[j]? = some (.box t cs)) (hk:H[k]? = some (.row t' sz' es'))
  (he:cs.map (AV.slIn k es'.length (.sl sz' es'.length fun i=>es'.getD i []))=cs2) (ha:ar.map (AV.slIn k es'.length (.sl sz' es'.length fun i=>es'.getD i []))=ar2) (hc:ACalls P q f [x, .ag ar2] ((H.set k .dead).set j (.box t cs2)) K):ACalls P q f [x, .ag ar] H K:=by
 refine⟨hc.go,fun w0 M0 c us hs hr=>?_⟩;subst he;subst ha;have F:j≠k:=by rintro rfl;rw [hj] at hk;cases hk
 obtain⟨c1,e1,s1,x1,r1⟩:=hs.freeze hk;have G:(H.set k .dead)[j]? = some (.box t cs):=by rw [A9 (Ne.symm F)];exact hj
 have h8:∀ (l:List AV) (us:List Value),RdL l c us->RdL (l.map (AV.slIn k es'.length (.sl sz' es'.length fun i=>es'.getD i []))) c1 us:=by
  intro l;induction l with
  | nil=>intro us h;simp only [RdL] at h;subst h;simp [RdL]
  | cons x l ih=>
   intro us h;simp only [RdL] at h;obtain⟨u,vs,rfl,a1,a2⟩:=h;simp only [Az,RdL];refine⟨u,vs,rfl,?_,ih vs a2⟩;unfold AV.slIn;split
   ·rename_i i n;split
    ·rename_i hik;subst hik;split
     ·grind
     ·simp [Rd]
    ·exact Rd.ext _ x1 a1
   ·exact Rd.ext _ x1 a1
 have s2:HS w0 M0 c1 ((H.set k .dead).set j (.box t (cs.map (AV.slIn k es'.length (.sl sz' es'.length fun i=>es'.getD i []))))):=by
  refine s1.recell G rfl ?_;rintro⟨g,xs,h1,h2,_,h4⟩;obtain⟨g0,ys,q1,q2,q3,_⟩:=hs.blk j _ hj;have hg:=x1.box j _ (hs.klt hj) q1;rw [h1] at hg;injection hg with hg
  injection hg with hg
  injection hg with hg
  subst hg;rw [e1,q2] at h2;injection h2 with h2
  have z:ys.toArray=xs.toArray:=by injection h2
  have z:ys=xs:=by simpa using z
  subst z;exact⟨g,ys,h1,by rw [e1];exact q2,h8 _ _ q3,h4⟩
 have C:RdL [x, .ag (ar.map (AV.slIn k es'.length (.sl sz' es'.length fun i=>es'.getD i [])))] c1 us:=by
  simp only [RdL] at hr;obtain⟨u1,_,rfl,p1,u2,_,rfl,p2,rfl⟩:=hr;simp only [Rd] at p2;obtain⟨zs,rfl,p3⟩:=p2;simp only [RdL];exact⟨u1,_,rfl,Rd.ext _ x1 p1,_,_,rfl,by simp only [Rd];exact⟨zs,rfl,h8 _ _ p3⟩,rfl⟩
 have:=hc.calls w0 M0 c1 us s2 C;rw [e1] at this;refine this.mono ?_;rintro e w' ⟨v,c',r,H2,rfl,rfl,q1,q2,q3,q4,q5⟩;exact⟨v,c',r,H2,rfl,rfl,q1,q2,x1.trans q3,q4,q5⟩
theorem DW {a s:Int} {p:List UInt8} (h:p.length<=96):(Bk a s p).length<=200:=by rw [DR];omega
theorem VG (g:Geo) (s:Stt) (d:Dk) (F:Int->List UInt8) (l:List Wr) (z w stamp:Int) (b:List UInt8) (hg:Bq g=true) (ha:Bj g s.a=true) (hz:0<=z/\z<g.z) (hw : -1<=w/\w<g.d) (h:Gw (Ar g) d F l) (hl:l.length<2000) (j:0<=stamp/\stamp<=4294967295) (hb:b.length<=96) :
  ACalls Tryz.prog false 179 [.bp 0 0,iv z,iv w,iv stamp,bA b] (Fo g s 0 d) fun r H=>r = .v (.bool true)/\∃ d',Gw (Ar g) d' F (l ++ [⟨Br g s.a z w,Bk (Br g s.a z w) stamp b⟩])/\H=Fo g s 0 d':=by
 have hA:=LR g s.a z w hg ha hz hw;obtain⟨sl,e1,e2,e3⟩:=FJ hg ha hz hw;obtain⟨q1,q2⟩:=EV hg hz ⟨e2,e3⟩;obtain⟨g1,g2,g3,g4,g5⟩:=Aq.1 hg;have G:=EF hg;obtain⟨X,hX⟩:∃ X,X=Br g s.a z w:=⟨_,rfl⟩;rw [<-hX] at hA e1 |-
 have hc:=Fs X stamp b ⟨by omega,by omega,j.1,j.2,hb⟩;have u:=ZU g s (Ar g) d F l X (Bk X stamp b) h hl (by omega) (DW hb);refine zT tys_ok Tryz.func179 rfl rfl (Ae rfl) ?_;conv=>whnf
 apply zP tys_ok mixed (.o [0,1,2,3,4,5,6,7,8,9,10,11,12] .fin) [11,12,13,14,15,16,17,18,19,20,21,22,23] (by kernel_rfl)
 ·conv=>whnf
  (refine zq (args':= [.ag (AK g), .ag (Lt s.a (.sl 3 s.a.homes.length fun i=>(s.a.homes.map DL).getD i [])),iv z,iv w]) (hA.subA ⟨ri,Bf ⟨ri,ri,ri,ri,ri,ri,AU (f:=DL) s.a.homes rfl rfl,tv⟩,ri,ri,tv⟩) ⟨(Ab _).symm,rfl⟩ ?_;rintro _ rfl;refine⟨rfl,?_⟩)
  exact tA
 conv=>whnf
 refine zG 1 ?_;conv=>whnf
 refine zY hc ?_;conv=>whnf
 refine ze9 [0,1,2,3,4,5] u ?_;rintro _ _ ⟨rfl,d2,C,rfl⟩;exact⟨.v (.bool true), .v (.bool true),Fo g s 0 d2,fun _ _ h=>h,zS (s:= [0,1,2,3,4,5]) tA,rfl,d2,C,rfl⟩
theorem Gw.puts {n:Int} {d:Dk} {F:Int->List UInt8} {W l:List Wr} (h:Gw n d F W) (hl:∀ w∈l,(0<=w.addr/\w.addr<n)/\w.bytes.length<=200) (hn:W.length+l.length<=2000):∀ k:Nat,k<=l.length->(d.writes (l.take k)).2.1=k/\(d.writes (l.take k)).2.2=false/\Gw n (d.writes (l.take k)).1 F (W ++ l.take k)
 | 0,_=>⟨rfl,rfl,by rw [List.take_zero,AR];exact h⟩
 | k+1,hk=>by
  obtain⟨q1,q2,q3⟩:=Gw.puts h hl hn k (by omega);have hx:=Ji (d:=d) (l:=l) (k:=k) (by omega) q2;have hm:=hl _ (A3 (d:=(⟨0, []⟩:Wr)) (show k<l.length by omega));obtain⟨e0,hw⟩:=q3.write (by rw [Ai,As];omega) hm.1.1 hm.1.2 hm.2;rw [hx,e0];refine⟨by simp only [q1];rfl,rfl,?_⟩;have e:l.take (k+1)=l.take k ++ [l.getD k ⟨0, []⟩]:=by
   rw [Ba,Ag (by omega),Ac,Ag (by omega)];try rfl
  rw [e,<-A7];exact hw
theorem Gd.putAll {n:Int} {d:Dk} {F:Int->List UInt8} {l:List Wr} (h:Gd n d F) (hl:∀ w∈l,(0<=w.addr/\w.addr<n)/\w.bytes.length<=200) (hn:l.length<=2000):(d.writes l).2.1=l.length/\(d.putAll l).2.1=l.length/\(d.putAll l).2.2=false/\Gd n (d.putAll l).1 (ML F l):=by
 obtain⟨q1,q2,q3⟩:=Gw.puts h hl (by simpa using hn) l.length (Ah _);rw [Aw] at q1 q2 q3;have e:=DX q2;rw [if_neg (by rw [q3.left];decide)] at e;rw [e];exact⟨q1,q1,rfl,by simpa using q3.flush⟩
theorem FI {g:Geo} {a:An} (hg:Bq g=true) (ha:Bj g a=true):∀ w∈AD g a,(0<=w.addr/\w.addr<Ar g)/\w.bytes.length<=200:=fun w hw=>by
 obtain⟨g1,g2,g3,g4,g5⟩:=Aq.1 hg;have f:=EE hg;obtain⟨i,hi,rfl⟩:=OU hw;exact⟨⟨by show 0<=((i:Nat):Int);omega,by show ((i:Nat):Int)<Ar g;omega⟩,JP hg ha _⟩
theorem T8 (g:Geo) (s:Stt) (d:Dk) (a:An) (F:Int->List UInt8) (hg:Bq g=true) (ha:Bj g a=true) (h:Gd (Ar g) d F) :
  ACalls Tryz.prog false 131 [.bp 0 0, .ag (Ek a)] (Jw g s 0 d) fun r H=>r = iv (g.an.toNat:Nat)/\∃ d',Gd (Ar g) d' (ML F (AD g a))/\H=Nf g s 0 d':=by
 have f:=FI hg ha;have i:=h.len;have hr:=KJ g s d a hg ha h.ok fun w hw=>⟨by have:=(f w hw).1;omega,(f w hw).2⟩
 obtain⟨q1,q2,q3,q4⟩:=h.putAll f (by rw [CY];have:=(Aq.1 hg).2.2.2.2;omega);rw [q1,q3,CY] at hr;exact hr.mono fun r H ⟨e1,e2⟩=>⟨e1,_,q4,e2⟩
@[reducible] def rwZ (g:Geo) (s:Stt) (d:Dk):List AB:= [.box 132 (Ze g (.bp 1 0) s 0), .box 133 (Gp (.ow 2 d.cells.length) (.ow 6 d.cache.length) d.reqs d.left), .row 68 3 (d.cells.map B4), .dead, .dead, .dead, .row 152 2 (d.cache.map Ei)]
theorem EW {k:Nat} {m:Nat} {x:AV} {n:Nat} (h:n=m):AV.slIn k m x (.ow k n)=x:=by
 subst h;simp [AV.slIn]
theorem Sg {k j:Nat} {m n:Nat} {x:AV} (h:(j == k)=false):AV.slIn k m x (.ow j n) = .ow j n:=by
 have:j≠k:=by simpa using h
 simp [AV.slIn,this]
theorem T7 (g:Geo) (s:Stt) (d:Dk) (F:Int->List UInt8) (hg:Bq g=true) (ha:Bj g s.a=true) (h:Gd (Ar g) d F) :
  ACalls Tryz.prog false 131 [.bp 0 0, .ag (Lt s.a (.ow 4 s.a.homes.length))] (Fo g s 0 d) fun r H=>r = iv (g.an.toNat:Nat)/\∃ d',Gd (Ar g) d' (ML F (AD g s.a))/\H=rwZ g s d':=by
 have hr:=T8 g s d s.a F hg ha h;obtain⟨T,hT⟩:∃ T:AV,T = .sl 4 (s.txns.map CG).length fun i=>(s.txns.map CG).getD i []:=⟨_,rfl⟩
 obtain⟨M,hM⟩:∃ M:AV,M = .sl 3 (s.a.homes.map DL).length fun i=>(s.a.homes.map DL).getD i []:=⟨_,rfl⟩
 have t1:∀ (c:Ctx) (v:Value),Rd T c v->Rd (CS s.txns) c v:=by rw [hT];exact AU (f:=CG) s.txns (Ab _) rfl
 have m1:∀ (c:Ctx) (v:Value),Rd M c v->Rd (HE s.a.homes) c v:=by rw [hM];exact AU (f:=DL) s.a.homes (Ab _) rfl
 refine zf (zw (H:=Fo g s 0 d) 0 5 (cs2:=Za g (.bp 1 0) (.ow 4 s.a.homes.length) T s 0) rfl rfl ?_) ?_
 ·rw [<-hT];simp only [Za,Az,Bx,EW (Ab _).symm];rfl
 refine ACalls.lendBox2 (cs2:=Za g (.bp 1 0) M T s 0) (ar2:=Lt s.a M) 0 4 rfl rfl ?_ ?_ ?_
 ·rw [<-hM];subst hT;simp only [Za,Az,Bx,EW (Ab _).symm];rfl
 ·rw [<-hM];simp only [Lt,Az,Bx,EW (Ab _).symm];rfl
 refine zf (zu (cs':=Ze g (.bp 1 0) s 0) 0 rfl ⟨ri,ri,ri,ri,ri,ri,ri,ri,ri,ri,ri,ri,m1,t1,ri,ri,ri,ri,ri,ri,ri,tv⟩) ?_;refine zV [.bp 0 0, .ag (Ek s.a)] ⟨ri,Bf ⟨ri,ri,ri,ri,ri,ri,m1,tv⟩,tv⟩ ?_;refine ze9 [0,1,2,3] hr ?_;rintro _ _ ⟨rfl,d',j,rfl⟩;exact⟨rfl,d',j,rfl⟩
theorem Gg {g:Geo} {a:An} {seq:Int}:∀ (l m:List Img),Cb g a seq (l ++ m)=Cb g a seq l ++ Cb g a seq m
 | [],m=>rfl
 | x::l,m=>by
  show C7 g a seq x ++ Cb g a seq (l ++ m)=(C7 g a seq x ++ Cb g a seq l) ++ Cb g a seq m;rw [Gg l m,A7]
theorem GN {g:Geo} {a:An} {seq:Int}:∀ (l:List Img),(Cb g a seq l).length<=2*l.length
 | []=>Ah _
 | x::l=>by
  have:=GN (g:=g) (a:=a) (seq:=seq) l;have h2:(C7 g a seq x).length<=2:=by unfold C7;split <;> simp
  show (C7 g a seq x ++ Cb g a seq l).length<=2*(x::l).length;rw [Ai,Ao];omega
theorem KA (a:An) (seq:Int) (l:List Img) (x:Img):BX a seq (l ++ [x])=Cz (BX a seq l) seq x:=by
 unfold BX;rw [BR];try rfl
theorem ak {m:Nat} (h:Nat.ble 7 m=true):∀ z∈ [0,1,2,6,4,5],z<m:=fun z hz=>by
 have:=Ae h;simp at hz;omega
theorem Pg (x:Tx) (r:List Tx) (c:Ctx) (v:Value) (h:Rd (.sl 4 ((((x::r).length:Nat):Int).toNat - Int.toNat 1) fun i=>CG ((x::r).getD (i+Int.toNat 1) ⟨0,0,0, []⟩)) c v):Rd (CS r) c v:=
 zB (by simp) (fun i _=>by show CG ((x::r).getD (i+1) _)=_;simp) h
def hmT:List AV:= [.top, .top, .top]
def txT:List AV:= [.top, .top, .top, .top]
theorem SW (s:Stt):∀ (r:AV) (R:List AB),(r = .ag (stX s (.ow 0 s.a.homes.length) (.ow 1 s.txns.length))/\R=[.row 108 3 (s.a.homes.map DL), .row 170 4 (s.txns.map CG)])->ConvH R [.row 108 3 (List.replicate s.a.homes.length hmT), .row 170 4 (List.replicate s.txns.length txT)]:=by
 rintro _ _ ⟨-,rfl⟩;refine zr (zD (k:=0) (es':=List.replicate s.a.homes.length hmT) rfl (by simp) fun i=>?_) (zD (k:=1) (es':=List.replicate s.txns.length txT) rfl (by simp) fun i=>?_)
 ·by_cases hi:i<s.a.homes.length
  ·have e1:(s.a.homes.map DL).getD i []=DL (s.a.homes.getD i ⟨[],0,0⟩):=AY hi;have e2:(List.replicate s.a.homes.length hmT).getD i []=hmT:=by simp [hi]
   rw [e1,e2];exact SubL.tops (DL _)
  ·rw [Ac,AL (by simpa using hi),Ac,AL (by simpa using hi)];trivial
 ·by_cases hi:i<s.txns.length
  ·have e1:(s.txns.map CG).getD i []=CG (s.txns.getD i ⟨0,0,0, []⟩):=AY hi;have e2:(List.replicate s.txns.length txT).getD i []=txT:=by simp [hi]
   rw [e1,e2];exact SubL.tops (CG _)
  ·rw [Ac,AL (by simpa using hi),Ac,AL (by simpa using hi)];trivial
theorem Rl (g:Geo) (a:An) (d:Dk) :
  ACalls Tryz.prog false 95 [.bp 0 0] (Fo g (AF a []) 0 d) fun r H=>r = .tp [iv 0,iv 0]/\H=Fo g (AF a []) 0 d:=by
 refine zT tys_ok Tryz.func95 rfl rfl (Ae rfl) ?_;exact⟨.tp [ze 0,ze 0], .tp [ze 0,ze 0],Fo g (AF a []) 0 d,fun _ _ h=>h,zS (s:= [0,1,2,3,4,5]) tA,rfl,rfl⟩
theorem T3 (g:Geo) (a:An) (x:Tx) (r:List Tx) (d:Dk) (F:Int->List UInt8) (K:Int) (hg:Bq g=true) (hv:Vol g K d (AF a (x::r))) (hK:K<=4294967294) (h:Gd (Ar g) d F) :
  ACalls Tryz.prog false 95 [.bp 0 0] (Fo g (AF a (x::r)) 0 d) fun v H=>v = .tp [iv (x.images.length:Nat),iv 0]/\∃ d',Gd (Ar g) d' (Jp g a x F)/\H=rwZ g (AF (Ch g a x) r) d':=by
 obtain⟨g1,g2,g3,g4,g5⟩:=Aq.1 hg;have hr:=hv.sm hg;have ha:Bj g a=true:=hv.an;have I:C0 g (x::r) a.seq a.pos g.sl=true:=hv.ring;obtain⟨a1,a2,a3,a4⟩:=DD ha;have hc:a.seq+(x::r).length<=K:=hv.seq;have h2:a.gen<=K:=hv.gen;obtain⟨p1,p2,p3,p4⟩:=Dj I x (by simp);have Z:=I;simp only [C0,Af,decide_eq_true_eq] at Z;obtain⟨⟨r1,r2,r3,r4,r5,r6,r7⟩,r8⟩:=Z;have hm:=(ID (AF a (x::r)) hr).fnO fun q R hq y hy=>by
  rw [hq.2] at hy;simp only [Bd,List.not_mem_nil,or_false] at hy;rcases hy with rfl | rfl
  ·exact⟨_,_,_,rfl⟩
  ·exact⟨_,_,_,rfl⟩
 have hn:=SW (AF a (x::r));have ssub:SubL [.ag (stX (AF a (x::r)) (.sl 3 a.homes.length fun i=>(a.homes.map DL).getD i []) (.sl 4 (x::r).length fun i=>((x::r).map CG).getD i []))] [.ag (Eo (AF a (x::r)))]:=⟨Bf ⟨ri,ri,ri,ri,ri,ri,AU (f:=DL) a.homes rfl rfl,AU (f:=CG) (x::r) rfl rfl,ri,ri,ri,ri,ri,ri,tv⟩,tv⟩;have e0:(((x::r).length:Int) == 0)=false:=by rw [beq_eq_false_iff_ne,Ao];omega
 refine zT tys_ok Tryz.func95 rfl rfl (Ae rfl) ?_;conv=>whnf
 rw [show (((AF a (x::r)).txns.length:Int) == 0)=false from e0];conv=>whnf
 rw [show decide ((AF a (x::r)).a.gen>=4294967295)=false from decide_eq_false (by show ¬a.gen>=4294967295;omega)];conv=>whnf
 rw [show decide ((AF a (x::r)).a.seq>=4294967295)=false from decide_eq_false (by show ¬a.seq>=4294967295;rw [Ao] at hc;omega)];conv=>whnf
 refine FnO.lendC (hm.subA ssub) ⟨(Ab _).symm,(Ab _).symm,rfl⟩ ?_;intro q R hq;refine⟨_,hn q R hq,?_,?_⟩
 ·rw [hq.1];exact⟨rfl,by rw [flatS,flatS,flatS,NF _ _ rfl,NF _ _ rfl];try rfl⟩
 rw [hq.1];conv=>whnf
 refine Ad ⟨by omega,by show (0:Int)<((x::r).length:Nat);rw [Ao];omega⟩ ?_;conv=>whnf
 refine Ad ⟨rfl,(Ab _).symm,by show 0<(x::r).length;rw [Ao];omega⟩ ?_;conv=>whnf
 have h1:x.images.length<=30:=by omega
 have hj:∀ i:Nat,i<x.images.length->Bn g (x.images.getD i ⟨0,0, []⟩)=true:=fun i hi=>Av.1 p1 _ (A3 (d:=⟨0,0, []⟩) hi)
 refine zU (Nat × Dk) (fun y=>([(0, .bp 0 0),(4, .bp 8 0),(5, .bp 9 0),(6, .v (.bool true)),(7,ze 0),(8,ze (y.1:Nat))],Fo g (AF (BX a x.seq (x.images.take y.1)) (x::r)) 0 y.2 ++ ([.row 108 3 (List.replicate a.homes.length hmT), .row 170 4 (List.replicate (x::r).length txT), .box 34 (stX (AF a (x::r)) (.ow 6 a.homes.length) (.ow 7 (x::r).length)), .box 170 (CG x)]:List AB))) (fun y=>y.1<=x.images.length/\Gw (Ar g) y.2 F (Cb g a x.seq (x.images.take y.1))) (fun y=>x.images.length - y.1) (0,d) ⟨Aj _,h⟩
  (zS (s:= [0,1,2,3,4,5,6,7,8,9]) tA) ?_
 rintro⟨i,d1⟩ ⟨hi,z⟩;simp only at hi z;have G:=GY (g:=g) (seq:=x.seq) (by omega) (x.images.take i) ha;have h0:=HK x.seq (x.images.take i) a;have L:=FN x.seq (x.images.take i) a;obtain⟨A,hA⟩:∃ A,A=BX a x.seq (x.images.take i):=⟨_,rfl⟩;rw [<-hA] at G h0 L |-
 by_cases J:i<x.images.length
 ·obtain⟨y,hy⟩:∃ y,y=x.images.getD i ⟨0,0, []⟩:=⟨_,rfl⟩;have N:=hj i J;rw [<-hy] at N;obtain⟨hz,hh⟩:=Dh N;have h3:=Ez hg N;have O:x.images.take (i+1)=x.images.take i ++ [y]:=by
   rw [Ba,Ag J,hy,Ac,Ag J];try rfl
  have X:BX a x.seq (x.images.take (i+1))=Cz A x.seq y:=by rw [O,KA,<-hA]
  have h4:(Cb g a x.seq (x.images.take i)).length<=2*i:=Bo (GN _) (by rw [As];omega);have hf:y.zone.toNat<a.homes.length:=by omega
  have had:∀ w,Br g A y.zone w=Br g a y.zone w:=fun w=>by rw [hA];exact In _ hf
  conv=>whnf
  rw [show decide ((i:Int)<(x.images.length:Nat))=true from decide_eq_true (by omega)];conv=>whnf
  repeat' (refine zZ ?_;conv=>whnf)
  refine⟨⟨by omega,by omega⟩,?_⟩;conv=>whnf
  repeat' (refine zZ ?_;conv=>whnf)
  rw [Aa,<-hy];by_cases j:y.what=255
  ·rw [show (y.what != 255)=false by rw [j];try rfl];conv=>whnf
   repeat' (refine zZ ?_;conv=>whnf)
   have hp:=Iv g y.zone 0 hg hz (by decide);have ho:=Iv g y.zone 1 hg hz (by decide);obtain⟨u1,u2⟩:=G7 hg hz (k:=0) (by decide);obtain⟨u3,u4⟩:=G7 hg hz (k:=1) (by decide);have h6:=EF hg;have hx:=Fs (AM g y.zone 0) x.seq y.bytes ⟨by omega,by omega,by omega,by omega,by omega⟩;have hw:=Fs (AM g y.zone 1) x.seq y.bytes ⟨by omega,by omega,by omega,by omega,by omega⟩;have hl:=ZU g (AF A (x::r)) (Ar g) d1 F _ (AM g y.zone 0) (Bk (AM g y.zone 0) x.seq y.bytes) z (by omega) (by omega) (DW (by omega));refine zG 3 ?_;conv=>whnf
   repeat' (refine zZ ?_;conv=>whnf)
   apply zP tys_ok mixed (.o [0,1,2,3,4,5,6,7,8] .fin) [13,128,129,130,131,132,133,134,135] (by kernel_rfl)
   ·conv=>whnf
    refine zY hp ?_;exact tA
   conv=>whnf
   conv=>whnf
   refine zY hx ?_;conv=>whnf
   refine ze9 [0,1,2,3,4,5] hl ?_;rintro _ _ ⟨rfl,d2,u,rfl⟩;have hk:=ZU g (AF A (x::r)) (Ar g) d2 F _ (AM g y.zone 1) (Bk (AM g y.zone 1) x.seq y.bytes) u (by rw [Ai];show _+1<2000;omega) (by omega) (DW (by omega));conv=>whnf
   repeat' (refine zZ ?_;conv=>whnf)
   apply zP tys_ok mixed (.o [0,1,2,3,4,5,6,7,8] .fin) [13,128,129,130,131,132,133,134,135] (by kernel_rfl)
   ·conv=>whnf
    refine zY ho ?_;exact tA
   conv=>whnf
   conv=>whnf
   refine zY hw ?_;conv=>whnf
   refine ze9 [0,1,2,3,4,5] hk ?_;rintro _ _ ⟨rfl,d3,C,rfl⟩;conv=>whnf
   repeat' (refine zZ ?_;conv=>whnf)
   apply zX (0) tys_ok mixed (.o [0,1,2,3,4,5,6,7,8,9,10,11,12] .fin) (by kernel_rfl);conv=>whnf
   try (refine tI ?_;conv=>whnf)
   try (refine tS ?_;conv=>whnf)
   have W:y.zone.toNat<A.homes.length:=by omega
   refine Ad ⟨by omega,by show y.zone<(A.homes.length:Nat);omega⟩ ?_;refine⟨⟨rfl,(Ab _).symm,W⟩,?_⟩;conv=>whnf
   rw [show ((AF A (x::r)).a.homes.map DL).getD y.zone.toNat []=DL (A.homes.getD y.zone.toNat ⟨[],0,0⟩) from AY W];conv=>whnf
   refine⟨(i+1,d3),⟨by show i+1<=x.images.length;omega,?_⟩,by show x.images.length - (i+1)<x.images.length - i;omega,?_⟩
   ·show Gw (Ar g) d3 F (Cb g a x.seq (x.images.take (i+1)));rw [O,Gg];show Gw (Ar g) d3 F (_ ++ (C7 g a x.seq y ++ []));rw [C7,if_pos j,AR];simpa using C
   ·show WkR _ _ _ _ (Fo g (AF (BX a x.seq (x.images.take (i+1))) (x::r)) 0 d3 ++ _);rw [X,show Cz A x.seq y={ A with homes:=A.homes.set y.zone.toNat { A.homes.getD y.zone.toNat ⟨[],0,0⟩ with root:=x.seq } } from if_pos j];have ht:(AF { A with homes:=A.homes.set y.zone.toNat { A.homes.getD y.zone.toNat ⟨[],0,0⟩ with root:=x.seq } } (x::r)).a.homes.length=A.homes.length:=AX;exact zS (s:= [0,1,2,3,4,5,6,7,8,9]) ⟨⟨rfl,rfl,rfl,rfl,rfl,AG (by omega),tv⟩,⟨by rw [ht];try rfl,rfl,rfl,rfl,congrArg (fun es=>some (AB.row 108 3 es)) (BI (f:=DL) (l:=A.homes) (i:=y.zone.toNat) (a:={ A.homes.getD y.zone.toNat ⟨[],0,0⟩ with root:=x.seq })).symm,rfl,rfl,rfl,rfl,rfl,tv⟩,rfl,rfl,rfl,rfl,rfl⟩
  ·rw [show (y.what != 255)=true from bne_iff_ne.2 j];obtain⟨w1,w2,w3⟩:=hh j;have V:=LR g A y.zone y.what hg G hz ⟨w1,w2⟩;have hu:=VG g (AF A (x::r)) d1 F _ y.zone y.what x.seq y.bytes hg G hz ⟨w1,w2⟩ z (by omega) (by omega) (by omega);have asub:SubL [.ag (AK g), .ag (Lt A (.sl 3 A.homes.length fun i=>(A.homes.map DL).getD i [])),iv y.zone,iv y.what] [.ag (AK g), .ag (Ek A),iv y.zone,iv y.what]:=⟨ri,Bf ⟨ri,ri,ri,ri,ri,ri,AU (f:=DL) A.homes rfl rfl,tv⟩,ri,ri,tv⟩;conv=>whnf
   repeat' (refine zZ ?_;conv=>whnf)
   apply zP tys_ok mixed (.o [0,1,2,3,4,5,6,7,8,9,10,11,12,13,14] .fin) [10,79,80,81,82,83,84,85,86,87,88,89,90,91,92] (by kernel_rfl)
   ·conv=>whnf
    (refine zq (args':= [.ag (AK g), .ag (Lt A (.sl 3 A.homes.length fun i=>(A.homes.map DL).getD i [])),iv y.zone,iv y.what]) (V.subA asub) ⟨(Ab _).symm,rfl⟩ ?_;rintro _ rfl;refine⟨rfl,?_⟩)
    exact tA
   conv=>whnf
   conv=>whnf
   refine ze9 [0,1,2,3,4,5] hu ?_;rintro _ _ ⟨rfl,d2,u,rfl⟩;conv=>whnf
   repeat' (refine zZ ?_;conv=>whnf)
   apply zP tys_ok mixed (.o [0,1,2,3,4,5,6,7,8,9,10,11,12,13,14,16,15,17,18] .fin) [103,104,105,106,107,108,109,110,111,112,113,114,115,116,117,118,119,120,121] (by kernel_rfl)
   ·conv=>whnf
    (refine zq (args':= [.ag (AK g), .ag (Lt A (.sl 3 A.homes.length fun i=>(A.homes.map DL).getD i [])),iv y.zone,iv y.what]) (V.subA asub) ⟨(Ab _).symm,rfl⟩ ?_;rintro _ rfl;refine⟨rfl,?_⟩)
    exact tA
   conv=>whnf
   conv=>whnf
   rw [show (Br g A y.zone y.what != Br g A y.zone y.what)=false by simp];conv=>whnf
   refine⟨(i+1,d2),⟨by show i+1<=x.images.length;omega,?_⟩,by show x.images.length - (i+1)<x.images.length - i;omega,?_⟩
   ·show Gw (Ar g) d2 F (Cb g a x.seq (x.images.take (i+1)));rw [O,Gg];show Gw (Ar g) d2 F (_ ++ (C7 g a x.seq y ++ []));rw [C7,if_neg j,AR,<-had];exact u
   ·show WkR _ _ _ _ (Fo g (AF (BX a x.seq (x.images.take (i+1))) (x::r)) 0 d2 ++ _);rw [X,show Cz A x.seq y=A from if_neg j];exact zS (s:= [0,1,2,3,4,5,6,7,8,9]) ⟨⟨rfl,rfl,rfl,rfl,rfl,AG (by omega),tv⟩,tA,rfl,rfl,rfl,rfl,rfl⟩
 ·have ei:i=x.images.length:=by omega
  rw [ei,Aw] at z hA;have hb:=bk g (AF A (x::r)) (Ar g) d1 F _ z;conv=>whnf
  rw [show decide ((i:Int)<(x.images.length:Nat))=false from decide_eq_false (by omega)];conv=>whnf
  refine aSeq.cutR Dk (fun d2=>([(0, .bp 0 0),(5, .bp 7 0),(6, .v (.bool true)),(7,ze 0)],rwP g (AF A (x::r)) 0 d2 ++ ([.box 170 (CG x)]:List AB))) (fun d2=>Gd (Ar g) d2 (ML F (Cb g a x.seq x.images))) ?_ ?_
  ·conv=>whnf
   refine ze9 [0,1,2,3,4,5] hb ?_;rintro _ _ ⟨rfl,d2,u,rfl⟩;exact⟨d2,u,zS (s:= [0,1,2,3,4,5,10,9]) tA⟩
  intro d2 u;clear hi J z hb;conv=>whnf
  refine aSeq.cutR Dk (fun d3=>([(0, .bp 0 0),(5, .bp 7 0),(6, .v (.bool true)),(7,ze 0)],rwZ g (AF (Ch g a x) (x::r)) d3 ++ ([.box 170 (CG x)]:List AB))) (fun d3=>Gd (Ar g) d3 (Jp g a x F)) ?_ ?_
  ·conv=>whnf
   apply aDraw.dag (67239936) tys_ok mixed [([],43,(.o [0,1,2,3,4,5,6,7,8,9,10,11,12,13,14,15,16,19,20,21,22,23,25,28,29,30,31] (.alt 17 (.o [18,24] (.alt 26 (.o [27,32,33,34,35,36,37,38,39,40,41,42] .fin) (.alt 32 (.o [33,34,35,36] (.alt 26 (.jump 1) (.alt 37 (.jump 2) .non))) .non))) (.alt 26 (.one 27 (.alt 17 (.o [18,24,32,33,34,35,36,37,38,39,40,41,42] .fin) (.alt 32 (.o [17,18,24,33,34,35,36,37,38,39,40,41,42] .fin) .non))) (.alt 32 (.alt 17 (.o [18,24,33,34,35,36] (.alt 26 (.jump 1) (.alt 37 (.jump 2) .non))) (.alt 26 (.o [27,17,18,24,33,34,35,36,37,38,39,40,41,42] .fin) .non)) .non))))),([0,1,2,3,4,5,6,7,8,9,10,11,12,13,14,15,16,17,18,19,20,21,22,23,24,25,26,28,29,30,31,32,33,34,35,36],7,(.o [27,37,38,39,40,41,42] .fin)),([0,1,2,3,4,5,6,7,8,9,10,11,12,13,14,15,16,17,18,19,20,21,22,23,24,25,28,29,30,31,32,33,34,35,36,37],7,(.o [26,27,38,39,40,41,42] .fin))] [172,173,174,175,176,177,178,179,180,181,182,183,184,185,186,187,188,189,190,191,192,193,194,195,196,197,198,199,200,201,202,203,204,205,206,207,208,209,210,211] [(_,_),(_,_)] (by kernel_rfl)
   ·refine Ad ?_ ?_
    ·refine Ad ?_ (Ad ?_ (Ad ?_ (trivial)))
     ·conv=>whnf
      try (refine tI ?_;conv=>whnf)
      refine Ad ?_ (Ad ?_ (trivial))
      ·conv=>whnf
       try (refine tS ?_;conv=>whnf)
       try (refine tS ?_;conv=>whnf)
       try (refine tS ?_;conv=>whnf)
       exact tA
      ·conv=>whnf
       try (refine tS ?_;conv=>whnf)
       refine Ad ?_ (Ad ?_ (trivial))
       ·exact tA
       ·conv=>whnf
        try (refine tS ?_;conv=>whnf)
        exact tA
     ·refine Ad ?_ (Ad ?_ (trivial))
      ·conv=>whnf
       try (refine tI ?_;conv=>whnf)
       try (refine tS ?_;conv=>whnf)
       try (refine tS ?_;conv=>whnf)
       try (refine tS ?_;conv=>whnf)
       exact tA
      ·conv=>whnf
       try (refine tS ?_;conv=>whnf)
       try (refine tI ?_;conv=>whnf)
       try (refine tS ?_;conv=>whnf)
       try (refine tS ?_;conv=>whnf)
       exact tA
     ·conv=>whnf
      try (refine tS ?_;conv=>whnf)
      refine Ad ?_ (Ad ?_ (trivial))
      ·conv=>whnf
       try (refine tI ?_;conv=>whnf)
       refine Ad ?_ (Ad ?_ (trivial))
       ·exact tA
       ·conv=>whnf
        try (refine tS ?_;conv=>whnf)
        exact tA
      ·conv=>whnf
       try (refine tI ?_;conv=>whnf)
       try (refine tS ?_;conv=>whnf)
       try (refine tS ?_;conv=>whnf)
       exact tA
    refine Ad ?_ ?_
    ·conv=>whnf
     try (refine tS ?_;conv=>whnf)
     try (refine tS ?_;conv=>whnf)
     exact tA
    refine Ad ?_ ?_
    ·conv=>whnf
     try (refine tS ?_;conv=>whnf)
     exact tA
    conv=>whnf
    exact trivial
   conv=>whnf
   conv=>whnf
   apply z8 (0) tys_ok mixed (.o [0,1,2,3,4,5,6,7,8,9,10,11,12,13,14] .fin) [212,213,214,215,216,217,218,219,220,221,222,223,224,225] (by kernel_rfl)
   ·conv=>whnf
    try (refine tS ?_;conv=>whnf)
    exact tA
   conv=>whnf
   conv=>whnf
   have U:x.seq=a.seq:=r1;have hs:x.pos=a.pos:=r3;have E1:IntKind.i64.wrap ((AF A (x::r)).a.gen+1)=(Ch g a x).gen:=by
    show IntKind.i64.wrap (A.gen+1)=a.gen+1;rw [L.1];exact wi (by omega)
   have E2:(IntKind.i64.wrap ((AF A (x::r)).a.pos+x.n)).tmod g.sl=(Ch g a x).pos:=by
    show (IntKind.i64.wrap (A.pos+x.n)).tmod g.sl=(x.pos+x.n).tmod g.sl;rw [L.2.2.1,hs,wi (by omega)]
   have E3:IntKind.i64.wrap (x.seq+1)=(Ch g a x).seq:=by
    show IntKind.i64.wrap (x.seq+1)=a.seq+1;rw [U];exact wi (by omega)
   have E4:(if (AF A (x::r)).a.last<x.seq then x.seq else (AF A (x::r)).a.last)=(Ch g a x).last:=by
    show (if A.last<x.seq then x.seq else A.last)=max a.last a.seq;rw [L.2.2.2.2.1,U];split <;> omega
   have he:=Jq (x:=x) hg ha (by omega) (by omega) U (by omega) (by omega);have hd:=T7 g (AF (Ch g a x) (x::r)) d2 _ hg he u;dsimp only;rw [E1,E2,E3,E4];subst hA;refine ze9 [0,1,2,6,4,5] hd ?_;rintro _ _ ⟨rfl,d3,C,rfl⟩;conv=>whnf
   rw [show decide (((g.an.toNat:Nat):Int) > 0)=true from decide_eq_true (by omega)];exact⟨d3,C,zS (s:= [0,1,2,3,4,5,8,7]) tA⟩
  intro d3 C;have h5:1<=((AF (Ch g a x) (x::r)).txns.length:Int):=by show 1<=((x::r).length:Int);rw [Ao];omega
  conv=>whnf
  repeat' (refine zZ ?_;conv=>whnf)
  apply zX (0) tys_ok mixed (.o [0,1,2,3,4,5,6,7,8,9,10,11,12,13,14,15,16,17,18,19,20,21,22,23,24] .fin) (by kernel_rfl);conv=>whnf
  try (refine tI ?_;conv=>whnf)
  try (refine tS ?_;conv=>whnf)
  try (refine tS ?_;conv=>whnf)
  all_goals
   exact⟨.tp [ze (x.images.length:Nat),ze 0], .tp [ze (x.images.length:Nat),ze 0],rwZ g (AF (Ch g a x) r) d3,ri,zI (zL (zu (cs':=Ze g (.bp 1 0) (AF (Ch g a x) r) 0) 0 rfl ⟨ri,ri,ri,ri,ri,ri,ri,ri,ri,ri,ri,ri,ri,Pg x r,ri,ri,ri,ri,ri,ri,ri,tv⟩)) (s:= [0,1,2,3,4,5,6]) tA,rfl,d3,C,rfl⟩
def Gl (d:Dk) (a:Int) (c:Cel):Dk:={ d with cells:=d.cells.set a.toNat c }
def Dk.fault (d:Dk) (kind a frm bit bits:Int):Dk × Int:=
 if CQ a 0 ((d.cells.length:Int) - 1)=false then (d,1) else if 0<d.cache.length then (d,9) else
 let c:=d.cells.getD a.toNat cz
 if kind=11 then (Gl d a { c with state:=if c.state=0 then 1 else c.state },0)
 else if kind=12 then (Gl d a { c with state:=2 },0)
 else if kind=13 then (if bit<0\/bits<0 then (d,1) else (Gl d a { c with bytes:=ND c.bytes bit bits },0))
 else if kind=14 then (Gl d a { c with bytes:=c.old },0)
 else if kind=15 then (if CQ frm 0 ((d.cells.length:Int) - 1)=false then (d,1) else (Gl d a { c with bytes:=(d.cells.getD frm.toNat cz).bytes },0))
 else (d,1)
theorem WQ {d:Dk} {a:Int} (ha:0<=a/\a<d.cells.length):(d.cells.map B4).getD a.toNat []=B4 (d.cells.getD a.toNat cz):=AY (by omega)
theorem WP {d:Dk} {a:Int} (ha:0<=a/\a<d.cells.length):Gl d a (d.cells.getD a.toNat cz)=d:=by
 unfold Gl;obtain⟨c,w,r,l⟩:=d;simp only [Dk.mk.injEq,and_true];simp only at ha;rw [Ac,Ag (by omega),BH,List.set_getElem_self]
structure Q4 where
 a:Int
 b:Int
 c:Int
 d:Int
theorem Yx {d:Dk} {a:Int} {c:Cel} (h:DkOk d) (hc:(0<=c.state/\c.state<=2)/\c.bytes.length<=200/\c.old.length<=200):DkOk (Gl d a c):=by
 refine⟨by simpa [Gl] using h.n,h.m,h.r,h.l,fun x hx=>?_,fun w hw=>by simpa [Gl] using h.w w hw⟩;rcases Cu hx with hx | rfl
 ·exact h.c x hx
 ·exact hc
theorem SC {d:Dk} (h:DkOk d) (i:Nat):(0<=(d.cells.getD i cz).state/\(d.cells.getD i cz).state<=2)/\(d.cells.getD i cz).bytes.length<=200/\(d.cells.getD i cz).old.length<=200:=by
 by_cases hi:i<d.cells.length
 ·exact h.c _ (A3 (d:=cz) hi)
 ·rw [Ac,AL (by omega)];exact⟨⟨DH _,show (0:Int)<=2 by decide⟩,by simp [cz],by simp [cz]⟩
theorem DkOk.fault {d:Dk} (h:DkOk d) (kind a frm bit bits:Int):DkOk (d.fault kind a frm bit bits).1/\(d.fault kind a frm bit bits).1.cells.length=d.cells.length/\(d.fault kind a frm bit bits).1.cache=d.cache/\(d.fault kind a frm bit bits).1.left=d.left/\(d.fault kind a frm bit bits).1.reqs=d.reqs:=by
 have hc:=SC h a.toNat;have hf:=SC h frm.toNat;have go:∀ c:Cel,((0<=c.state/\c.state<=2)/\c.bytes.length<=200/\c.old.length<=200)->DkOk (Gl d a c)/\(Gl d a c).cells.length=d.cells.length/\(Gl d a c).cache=d.cache/\(Gl d a c).left=d.left/\(Gl d a c).reqs=d.reqs:=fun c h1=>⟨Yx h h1,by simp [Gl],rfl,rfl,rfl⟩
 have st:DkOk d/\d.cells.length=d.cells.length/\d.cache=d.cache/\d.left=d.left/\d.reqs=d.reqs:=⟨h,rfl,rfl,rfl,rfl⟩;unfold Dk.fault;split
 ·exact st
 ·split
  ·exact st
  ·simp only;split
   ·refine go _ ⟨?_,hc.2⟩;simp only;split
    ·exact⟨by decide,by decide⟩
    ·exact hc.1
   ·split
    ·exact go _ ⟨⟨show (0:Int)<=2 by decide,DH 2⟩,hc.2⟩
    ·split
     ·split
      ·exact st
      ·exact go _ ⟨hc.1,by simp only [Hr];exact hc.2.1,hc.2.2⟩
     ·split
      ·exact go _ ⟨hc.1,hc.2.2,hc.2.2⟩
      ·split
       ·split
        ·exact st
        ·exact go _ ⟨hc.1,hf.2.1,hc.2.2⟩
       ·exact st
end
section
open Go.RowKit Go.ChangeShapes Go.WideShapes Go.ChangeAt Go.Deep
section
variable {H:Type} {enc:TypeId × Value->H} {w:World}
end
end
section
open Go.RowKit
structure Q2 where
 a:Int
 b:Int
def bc (x:Q2):List AV:= [iv x.a,iv x.b]
def Rr (l:List Q2):AV:= .sl 2 l.length fun i=>bc (l.getD i ⟨0,0⟩)
section
open Go.ChangeShapes Go.WideShapes Go.ChangeAt Go.Deep
variable {H:Type} {enc:TypeId × Value->H} {w:World}
end
end
end Go.Proofs.YtpjkcgacjjbikaaGreatDoor.A
