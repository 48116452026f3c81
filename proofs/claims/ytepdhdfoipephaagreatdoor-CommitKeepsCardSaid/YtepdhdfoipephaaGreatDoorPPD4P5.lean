/-
Several texts in one.
-/
import Derived.Test.YtepdhdfoipephaaGreatDoorPPD4P4
import Derived.Test.YtepdhdfoipephaaGreatDoorPPD4P3
import Derived.Test.YtepdhdfoipephaaGreatDoorPPD4P2
import Derived.Maps.OwnSet
set_option maxRecDepth 100000
set_option maxHeartbeats 8000000
set_option linter.unusedSimpArgs false
set_option linter.unusedVariables false
set_option linter.deprecated false
namespace Go.Proofs.YtepdhdfoipephaaGreatDoor.A
section
open Go.RowKit
theorem FL {a s:Int} {p:List UInt8} (h:p.length<=96):(Cf a s p).length<=200:=by rw [Fz];omega
theorem VW (g:Geo) (s:Stt) (d:Dk) (F:Int->List UInt8) (l:List Wr) (z w stamp:Int) (b:List UInt8) (hg:Bp g=true) (ha:Bu g s.a=true) (hz:0<=z/\z<g.z) (hw : -1<=w/\w<g.d) (h:Gw (Ay g) d F l) (hl:l.length<2000) (hst:0<=stamp/\stamp<=4294967295) (hb:b.length<=96) :
  ACalls Tryz.prog false 98 [.bp 0 0,iv z,iv w,iv stamp,bA b] (Fw g s 0 d) fun r H=>r = .v (.bool true)/\∃ d',Gw (Ay g) d' F (l ++ [⟨BH g s.a z w,Cf (BH g s.a z w) stamp b⟩])/\H=Fw g s 0 d':=by
 have hA:=LW g s.a z w hg ha hz hw;obtain⟨sl,e1,e2,e3⟩:=Ey hg ha hz hw;obtain⟨q1,q2⟩:=FE hg hz ⟨e2,e3⟩;obtain⟨g1,g2,g3,g4,g5⟩:=As.1 hg;have hcb:=FT hg;obtain⟨X,hX⟩:∃ X,X=BH g s.a z w:=⟨_,rfl⟩;rw [<-hX] at hA e1 |-
 have hc:=F0 X stamp b ⟨by omega,by omega,hst.1,hst.2,hb⟩;have hwr:=au g s (Ay g) d F l X (Cf X stamp b) h hl (by omega) (FL hb);refine zT tys_ok Tryz.func98 rfl rfl (Ag rfl) ?_;conv=>whnf
 apply zP tys_ok mixed (.o [0,1,2,3,4,5,6,7,8,9,10,11,12] .fin) [11,12,13,14,15,16,17,18,19,20,21,22,23] (by kernel_rfl)
 ·conv=>whnf
  (refine zp (args':= [.ag (AT g), .ag (Tj s.a (.sl 3 s.a.homes.length fun i=>(s.a.homes.map EC).getD i [])),iv z,iv w]) (hA.subA ⟨ri,Bi ⟨ri,ri,ri,ri,ri,ri,Bb (f:=EC) s.a.homes rfl rfl,tv⟩,ri,ri,tv⟩) ⟨(Ab _).symm,rfl⟩ ?_;rintro _ rfl;refine⟨rfl,?_⟩)
  exact tA
 conv=>whnf
 refine zu 1 ?_;conv=>whnf
 refine zZ hc ?_;conv=>whnf
 refine zd [0,1,2,3,4,5] hwr ?_;rintro _ _ ⟨rfl,d2,hd2,rfl⟩;exact⟨.v (.bool true), .v (.bool true),Fw g s 0 d2,fun _ _ h=>h,zR (s:= [0,1,2,3,4,5]) tA,rfl,d2,hd2,rfl⟩
theorem Gw.puts {n:Int} {d:Dk} {F:Int->List UInt8} {W l:List Wr} (h:Gw n d F W) (hl:∀ w∈l,(0<=w.addr/\w.addr<n)/\w.bytes.length<=200) (hn:W.length+l.length<=2000):∀ k:Nat,k<=l.length->(d.writes (l.take k)).2.1=k/\(d.writes (l.take k)).2.2=false/\Gw n (d.writes (l.take k)).1 F (W ++ l.take k)
 | 0,_=>⟨rfl,rfl,by rw [List.take_zero,AL];exact h⟩
 | k+1,hk=>by
  obtain⟨q1,q2,q3⟩:=Gw.puts h hl hn k (by omega);have hx:=Lc (d:=d) (l:=l) (k:=k) (by omega) q2;have hm:=hl _ (A6 (d:=(⟨0, []⟩:Wr)) (show k<l.length by omega));obtain⟨e0,hw⟩:=q3.write (by rw [Ai,Aq];omega) hm.1.1 hm.1.2 hm.2;rw [hx,e0];refine⟨by simp only [q1];rfl,rfl,?_⟩;have e:l.take (k+1)=l.take k ++ [l.getD k ⟨0, []⟩]:=by
   rw [AR,Ae (by omega),Aa,Ae (by omega)];try rfl
  rw [e,<-A9];exact hw
theorem Gd.putAll {n:Int} {d:Dk} {F:Int->List UInt8} {l:List Wr} (h:Gd n d F) (hl:∀ w∈l,(0<=w.addr/\w.addr<n)/\w.bytes.length<=200) (hn:l.length<=2000):(d.writes l).2.1=l.length/\(d.putAll l).2.1=l.length/\(d.putAll l).2.2=false/\Gd n (d.putAll l).1 (IA F l):=by
 obtain⟨q1,q2,q3⟩:=Gw.puts h hl (by simpa using hn) l.length (Ah _);rw [Aw] at q1 q2 q3;have e:=EZ q2;rw [if_neg (by rw [q3.left];decide)] at e;rw [e];exact⟨q1,q1,rfl,by simpa using q3.flush⟩
theorem KT {g:Geo} {a:An} (hg:Bp g=true) (ha:Bu g a=true):∀ w∈Bf g a,(0<=w.addr/\w.addr<Ay g)/\w.bytes.length<=200:=fun w hw=>by
 obtain⟨g1,g2,g3,g4,g5⟩:=As.1 hg;have hcb:=EL hg;obtain⟨i,hi,rfl⟩:=JQ hw;exact⟨⟨by show 0<=((i:Nat):Int);omega,by show ((i:Nat):Int)<Ay g;omega⟩,JR hg ha _⟩
theorem TX (g:Geo) (s:Stt) (d:Dk) (a:An) (F:Int->List UInt8) (hg:Bp g=true) (ha:Bu g a=true) (h:Gd (Ay g) d F) :
  ACalls Tryz.prog false 100 [.bp 0 0, .ag (ED a)] (J5 g s 0 d) fun r H=>r = iv (g.an.toNat:Nat)/\∃ d',Gd (Ay g) d' (IA F (Bf g a))/\H=Nr g s 0 d':=by
 have hin:=KT hg ha;have hlen:=h.len;have hr:=KF g s d a hg ha h.ok fun w hw=>⟨by have:=(hin w hw).1;omega,(hin w hw).2⟩
 obtain⟨q1,q2,q3,q4⟩:=h.putAll hin (by rw [Ex];have:=(As.1 hg).2.2.2.2;omega);rw [q1,q3,Ex] at hr;exact hr.mono fun r H ⟨e1,e2⟩=>⟨e1,_,q4,e2⟩
@[reducible] def rwZ (g:Geo) (s:Stt) (d:Dk):List AB:= [.box 83 (Z1 g (.bp 1 0) s 0), .box 85 (He (.ow 2 d.cells.length) (.ow 6 d.cache.length) d.reqs d.left), .row 128 3 (d.cells.map BE), .dead, .dead, .dead, .row 134 2 (d.cache.map EE)]
theorem Ga {k:Nat} {m:Nat} {x:AV} {n:Nat} (h:n=m):AV.slIn k m x (.ow k n)=x:=by
 subst h;simp [AV.slIn]
theorem S2 {k j:Nat} {m n:Nat} {x:AV} (h:(j == k)=false):AV.slIn k m x (.ow j n) = .ow j n:=by
 have:j≠k:=by simpa using h
 simp [AV.slIn,this]
theorem TW (g:Geo) (s:Stt) (d:Dk) (F:Int->List UInt8) (hg:Bp g=true) (ha:Bu g s.a=true) (h:Gd (Ay g) d F) :
  ACalls Tryz.prog false 100 [.bp 0 0, .ag (Tj s.a (.ow 4 s.a.homes.length))] (Fw g s 0 d) fun r H=>r = iv (g.an.toNat:Nat)/\∃ d',Gd (Ay g) d' (IA F (Bf g s.a))/\H=rwZ g s d':=by
 have hr:=TX g s d s.a F hg ha h;obtain⟨T,hT⟩:∃ T:AV,T = .sl 4 (s.txns.map CO).length fun i=>(s.txns.map CO).getD i []:=⟨_,rfl⟩
 obtain⟨M,hM⟩:∃ M:AV,M = .sl 3 (s.a.homes.map EC).length fun i=>(s.a.homes.map EC).getD i []:=⟨_,rfl⟩
 have t1:∀ (c:Ctx) (v:Value),Rd T c v->Rd (Dl s.txns) c v:=by rw [hT];exact Bb (f:=CO) s.txns (Ab _) rfl
 have m1:∀ (c:Ctx) (v:Value),Rd M c v->Rd (Jk s.a.homes) c v:=by rw [hM];exact Bb (f:=EC) s.a.homes (Ab _) rfl
 refine zf (zy (H:=Fw g s 0 d) 0 5 (cs2:=Zx g (.bp 1 0) (.ow 4 s.a.homes.length) T s 0) rfl rfl ?_) ?_
 ·rw [<-hT];simp only [Zx,A3,By,Ga (Ab _).symm];rfl
 refine ACalls.lendBox2 (cs2:=Zx g (.bp 1 0) M T s 0) (ar2:=Tj s.a M) 0 4 rfl rfl ?_ ?_ ?_
 ·rw [<-hM];subst hT;simp only [Zx,A3,By,Ga (Ab _).symm];rfl
 ·rw [<-hM];simp only [Tj,A3,By,Ga (Ab _).symm];rfl
 refine zf (zq (cs':=Z1 g (.bp 1 0) s 0) 0 rfl ⟨ri,ri,ri,ri,ri,ri,ri,ri,ri,ri,ri,ri,m1,t1,ri,ri,ri,ri,ri,ri,ri,tv⟩) ?_;refine zX [.bp 0 0, .ag (ED s.a)] ⟨ri,Bi ⟨ri,ri,ri,ri,ri,ri,m1,tv⟩,tv⟩ ?_;refine zd [0,1,2,3] hr ?_;rintro _ _ ⟨rfl,d',hd',rfl⟩;exact⟨rfl,d',hd',rfl⟩
theorem Gv {g:Geo} {a:An} {seq:Int}:∀ (l m:List Img),DB g a seq (l ++ m)=DB g a seq l ++ DB g a seq m
 | [],m=>rfl
 | x::l,m=>by
  show Fm g a seq x ++ DB g a seq (l ++ m)=(Fm g a seq x ++ DB g a seq l) ++ DB g a seq m;rw [Gv l m,A9]
theorem NE {g:Geo} {a:An} {seq:Int}:∀ (l:List Img),(DB g a seq l).length<=2*l.length
 | []=>Ah _
 | x::l=>by
  have:=NE (g:=g) (a:=a) (seq:=seq) l;have h2:(Fm g a seq x).length<=2:=by unfold Fm;split <;> simp
  show (Fm g a seq x ++ DB g a seq l).length<=2*(x::l).length;rw [Ai,Ao];omega
theorem Pq (a:An) (seq:Int) (l:List Img) (x:Img):Cj a seq (l ++ [x])=Dr (Cj a seq l) seq x:=by
 unfold Cj;rw [BM];try rfl
theorem aA {m:Nat} (h:Nat.ble 7 m=true):∀ z∈ [0,1,2,6,4,5],z<m:=fun z hz=>by
 have:=Ag h;simp at hz;omega
theorem Vw (x:Tx) (r:List Tx) (c:Ctx) (v:Value) (h:Rd (.sl 4 ((((x::r).length:Nat):Int).toNat - Int.toNat 1) fun i=>CO ((x::r).getD (i+Int.toNat 1) ⟨0,0,0, []⟩)) c v):Rd (Dl r) c v:=
 zC (by simp) (fun i _=>by show CO ((x::r).getD (i+1) _)=_;simp) h
def hmT:List AV:= [.top, .top, .top]
def txT:List AV:= [.top, .top, .top, .top]
theorem Tt (s:Stt):∀ (r:AV) (R:List AB),(r = .ag (stX s (.ow 0 s.a.homes.length) (.ow 1 s.txns.length))/\R=[.row 177 3 (s.a.homes.map EC), .row 112 4 (s.txns.map CO)])->ConvH R [.row 177 3 (List.replicate s.a.homes.length hmT), .row 112 4 (List.replicate s.txns.length txT)]:=by
 rintro _ _ ⟨-,rfl⟩;refine zx (zE (k:=0) (es':=List.replicate s.a.homes.length hmT) rfl (by simp) fun i=>?_) (zE (k:=1) (es':=List.replicate s.txns.length txT) rfl (by simp) fun i=>?_)
 ·by_cases hi:i<s.a.homes.length
  ·have e1:(s.a.homes.map EC).getD i []=EC (s.a.homes.getD i ⟨[],0,0⟩):=Bc hi;have e2:(List.replicate s.a.homes.length hmT).getD i []=hmT:=by simp [hi]
   rw [e1,e2];exact SubL.tops (EC _)
  ·rw [Aa,AG (by simpa using hi),Aa,AG (by simpa using hi)];trivial
 ·by_cases hi:i<s.txns.length
  ·have e1:(s.txns.map CO).getD i []=CO (s.txns.getD i ⟨0,0,0, []⟩):=Bc hi;have e2:(List.replicate s.txns.length txT).getD i []=txT:=by simp [hi]
   rw [e1,e2];exact SubL.tops (CO _)
  ·rw [Aa,AG (by simpa using hi),Aa,AG (by simpa using hi)];trivial
theorem R8 (g:Geo) (a:An) (d:Dk) :
  ACalls Tryz.prog false 40 [.bp 0 0] (Fw g (AJ a []) 0 d) fun r H=>r = .tp [iv 0,iv 0]/\H=Fw g (AJ a []) 0 d:=by
 refine zT tys_ok Tryz.func40 rfl rfl (Ag rfl) ?_;exact⟨.tp [ze 0,ze 0], .tp [ze 0,ze 0],Fw g (AJ a []) 0 d,fun _ _ h=>h,zR (s:= [0,1,2,3,4,5]) tA,rfl,rfl⟩
theorem TS (g:Geo) (a:An) (x:Tx) (r:List Tx) (d:Dk) (F:Int->List UInt8) (K:Int) (hg:Bp g=true) (hv:Vol g K d (AJ a (x::r))) (hK:K<=4294967294) (h:Gd (Ay g) d F) :
  ACalls Tryz.prog false 40 [.bp 0 0] (Fw g (AJ a (x::r)) 0 d) fun v H=>v = .tp [iv (x.images.length:Nat),iv 0]/\∃ d',Gd (Ay g) d' (Gj g a x F)/\H=rwZ g (AJ (D_ g a x) r) d':=by
 obtain⟨g1,g2,g3,g4,g5⟩:=As.1 hg;have hsm:=hv.sm hg;have ha:Bu g a=true:=hv.an;have hring:C7 g (x::r) a.seq a.pos g.sl=true:=hv.ring;obtain⟨a1,a2,a3,a4⟩:=Ew ha;have hseq:a.seq+(x::r).length<=K:=hv.seq;have hgen:a.gen<=K:=hv.gen;obtain⟨p1,p2,p3,p4⟩:=Dx hring x (by simp);have hr0:=hring;simp only [C7,Ad,decide_eq_true_eq] at hr0;obtain⟨⟨r1,r2,r3,r4,r5,r6,r7⟩,r8⟩:=hr0;have htw:=(IJ (AJ a (x::r)) hsm).fnO fun q R hq y hy=>by
  rw [hq.2] at hy;simp only [AQ,Du,or_false] at hy;rcases hy with rfl | rfl
  ·exact⟨_,_,_,rfl⟩
  ·exact⟨_,_,_,rfl⟩
 have htt:=Tt (AJ a (x::r));have ssub:SubL [.ag (stX (AJ a (x::r)) (.sl 3 a.homes.length fun i=>(a.homes.map EC).getD i []) (.sl 4 (x::r).length fun i=>((x::r).map CO).getD i []))] [.ag (EB (AJ a (x::r)))]:=⟨Bi ⟨ri,ri,ri,ri,ri,ri,Bb (f:=EC) a.homes rfl rfl,Bb (f:=CO) (x::r) rfl rfl,ri,ri,ri,ri,ri,ri,tv⟩,tv⟩;have e0:(((x::r).length:Int) == 0)=false:=by rw [beq_eq_false_iff_ne,Ao];omega
 refine zT tys_ok Tryz.func40 rfl rfl (Ag rfl) ?_;conv=>whnf
 rw [show (((AJ a (x::r)).txns.length:Int) == 0)=false from e0];conv=>whnf
 rw [show decide ((AJ a (x::r)).a.gen>=4294967295)=false from decide_eq_false (by show ¬a.gen>=4294967295;omega)];conv=>whnf
 rw [show decide ((AJ a (x::r)).a.seq>=4294967295)=false from decide_eq_false (by show ¬a.seq>=4294967295;rw [Ao] at hseq;omega)];conv=>whnf
 refine FnO.lendC (htw.subA ssub) ⟨(Ab _).symm,(Ab _).symm,rfl⟩ ?_;intro q R hq;refine⟨_,htt q R hq,?_,?_⟩
 ·rw [hq.1];exact⟨rfl,by rw [flatS,flatS,flatS,NR _ _ rfl,NR _ _ rfl];try rfl⟩
 rw [hq.1];conv=>whnf
 refine Af ⟨by omega,by show (0:Int)<((x::r).length:Nat);rw [Ao];omega⟩ ?_;conv=>whnf
 refine Af ⟨rfl,(Ab _).symm,by show 0<(x::r).length;rw [Ao];omega⟩ ?_;conv=>whnf
 have hx30:x.images.length<=30:=by omega
 have hxi:∀ i:Nat,i<x.images.length->Bz g (x.images.getD i ⟨0,0, []⟩)=true:=fun i hi=>Au.1 p1 _ (A6 (d:=⟨0,0, []⟩) hi)
 refine zU (Nat × Dk) (fun y=>([(0, .bp 0 0),(4, .bp 8 0),(5, .bp 9 0),(6, .v (.bool true)),(7,ze 0),(8,ze (y.1:Nat))],Fw g (AJ (Cj a x.seq (x.images.take y.1)) (x::r)) 0 y.2 ++ ([.row 177 3 (List.replicate a.homes.length hmT), .row 112 4 (List.replicate (x::r).length txT), .box 39 (stX (AJ a (x::r)) (.ow 6 a.homes.length) (.ow 7 (x::r).length)), .box 112 (CO x)]:List AB))) (fun y=>y.1<=x.images.length/\Gw (Ay g) y.2 F (DB g a x.seq (x.images.take y.1))) (fun y=>x.images.length - y.1) (0,d) ⟨Aj _,h⟩
  (zR (s:= [0,1,2,3,4,5,6,7,8,9]) tA) ?_
 rintro⟨i,d1⟩ ⟨hi,hd1⟩;simp only at hi hd1;have hAok:=IT (g:=g) (seq:=x.seq) (by omega) (x.images.take i) ha;have hAl:=K4 x.seq (x.images.take i) a;have hAs:=Hg x.seq (x.images.take i) a;obtain⟨A,hA⟩:∃ A,A=Cj a x.seq (x.images.take i):=⟨_,rfl⟩;rw [<-hA] at hAok hAl hAs |-
 by_cases hin:i<x.images.length
 ·obtain⟨y,hy⟩:∃ y,y=x.images.getD i ⟨0,0, []⟩:=⟨_,rfl⟩;have hyk:=hxi i hin;rw [<-hy] at hyk;obtain⟨hz,hyw⟩:=E7 hyk;have hyl:=E_ hg hyk;have htk:x.images.take (i+1)=x.images.take i ++ [y]:=by
   rw [AR,Ae hin,hy,Aa,Ae hin];try rfl
  have hup:Cj a x.seq (x.images.take (i+1))=Dr A x.seq y:=by rw [htk,Pq,<-hA]
  have hwl:(DB g a x.seq (x.images.take i)).length<=2*i:=Bo (NE _) (by rw [Aq];omega);have hzl:y.zone.toNat<a.homes.length:=by omega
  have had:∀ w,BH g A y.zone w=BH g a y.zone w:=fun w=>by rw [hA];exact In _ hzl
  conv=>whnf
  rw [show decide ((i:Int)<(x.images.length:Nat))=true from decide_eq_true (by omega)];conv=>whnf
  repeat' (refine z_ ?_;conv=>whnf)
  refine⟨⟨by omega,by omega⟩,?_⟩;conv=>whnf
  repeat' (refine z_ ?_;conv=>whnf)
  rw [Ac,<-hy];by_cases h255:y.what=255
  ·rw [show (y.what != 255)=false by rw [h255];try rfl];conv=>whnf
   repeat' (refine z_ ?_;conv=>whnf)
   have ht0:=Iv g y.zone 0 hg hz (by decide);have ht1:=Iv g y.zone 1 hg hz (by decide);obtain⟨u1,u2⟩:=FV hg hz (k:=0) (by decide);obtain⟨u3,u4⟩:=FV hg hz (k:=1) (by decide);have hcb:=FT hg;have hc0:=F0 (AI g y.zone 0) x.seq y.bytes ⟨by omega,by omega,by omega,by omega,by omega⟩;have hc1:=F0 (AI g y.zone 1) x.seq y.bytes ⟨by omega,by omega,by omega,by omega,by omega⟩;have hw0:=au g (AJ A (x::r)) (Ay g) d1 F _ (AI g y.zone 0) (Cf (AI g y.zone 0) x.seq y.bytes) hd1 (by omega) (by omega) (FL (by omega));refine zu 3 ?_;conv=>whnf
   repeat' (refine z_ ?_;conv=>whnf)
   apply zP tys_ok mixed (.o [0,1,2,3,4,5,6,7,8] .fin) [13,128,129,130,131,132,133,134,135] (by kernel_rfl)
   ·conv=>whnf
    refine zZ ht0 ?_;exact tA
   conv=>whnf
   conv=>whnf
   refine zZ hc0 ?_;conv=>whnf
   refine zd [0,1,2,3,4,5] hw0 ?_;rintro _ _ ⟨rfl,d2,hd2,rfl⟩;have hw1:=au g (AJ A (x::r)) (Ay g) d2 F _ (AI g y.zone 1) (Cf (AI g y.zone 1) x.seq y.bytes) hd2 (by rw [Ai];show _+1<2000;omega) (by omega) (FL (by omega));conv=>whnf
   repeat' (refine z_ ?_;conv=>whnf)
   apply zP tys_ok mixed (.o [0,1,2,3,4,5,6,7,8] .fin) [13,128,129,130,131,132,133,134,135] (by kernel_rfl)
   ·conv=>whnf
    refine zZ ht1 ?_;exact tA
   conv=>whnf
   conv=>whnf
   refine zZ hc1 ?_;conv=>whnf
   refine zd [0,1,2,3,4,5] hw1 ?_;rintro _ _ ⟨rfl,d3,hd3,rfl⟩;conv=>whnf
   repeat' (refine z_ ?_;conv=>whnf)
   apply zW (0) tys_ok mixed (.o [0,1,2,3,4,5,6,7,8,9,10,11,12] .fin) (by kernel_rfl);conv=>whnf
   try (refine tI ?_;conv=>whnf)
   try (refine tS ?_;conv=>whnf)
   have hzA:y.zone.toNat<A.homes.length:=by omega
   refine Af ⟨by omega,by show y.zone<(A.homes.length:Nat);omega⟩ ?_;refine⟨⟨rfl,(Ab _).symm,hzA⟩,?_⟩;conv=>whnf
   rw [show ((AJ A (x::r)).a.homes.map EC).getD y.zone.toNat []=EC (A.homes.getD y.zone.toNat ⟨[],0,0⟩) from Bc hzA];conv=>whnf
   refine⟨(i+1,d3),⟨by show i+1<=x.images.length;omega,?_⟩,by show x.images.length - (i+1)<x.images.length - i;omega,?_⟩
   ·show Gw (Ay g) d3 F (DB g a x.seq (x.images.take (i+1)));rw [htk,Gv];show Gw (Ay g) d3 F (_ ++ (Fm g a x.seq y ++ []));rw [Fm,if_pos h255,AL];simpa using hd3
   ·show WkR _ _ _ _ (Fw g (AJ (Cj a x.seq (x.images.take (i+1))) (x::r)) 0 d3 ++ _);rw [hup,show Dr A x.seq y={ A with homes:=A.homes.set y.zone.toNat { A.homes.getD y.zone.toNat ⟨[],0,0⟩ with root:=x.seq } } from if_pos h255];have hl2:(AJ { A with homes:=A.homes.set y.zone.toNat { A.homes.getD y.zone.toNat ⟨[],0,0⟩ with root:=x.seq } } (x::r)).a.homes.length=A.homes.length:=AW;exact zR (s:= [0,1,2,3,4,5,6,7,8,9]) ⟨⟨rfl,rfl,rfl,rfl,rfl,AH (by omega),tv⟩,⟨by rw [hl2];try rfl,rfl,rfl,rfl,congrArg (fun es=>some (AB.row 177 3 es)) (Ca (f:=EC) (l:=A.homes) (i:=y.zone.toNat) (a:={ A.homes.getD y.zone.toNat ⟨[],0,0⟩ with root:=x.seq })).symm,rfl,rfl,rfl,rfl,rfl,tv⟩,rfl,rfl,rfl,rfl,rfl⟩
  ·rw [show (y.what != 255)=true from bne_iff_ne.2 h255];obtain⟨w1,w2,w3⟩:=hyw h255;have hadr:=LW g A y.zone y.what hg hAok hz ⟨w1,w2⟩;have hho:=VW g (AJ A (x::r)) d1 F _ y.zone y.what x.seq y.bytes hg hAok hz ⟨w1,w2⟩ hd1 (by omega) (by omega) (by omega);have asub:SubL [.ag (AT g), .ag (Tj A (.sl 3 A.homes.length fun i=>(A.homes.map EC).getD i [])),iv y.zone,iv y.what] [.ag (AT g), .ag (ED A),iv y.zone,iv y.what]:=⟨ri,Bi ⟨ri,ri,ri,ri,ri,ri,Bb (f:=EC) A.homes rfl rfl,tv⟩,ri,ri,tv⟩;conv=>whnf
   repeat' (refine z_ ?_;conv=>whnf)
   apply zP tys_ok mixed (.o [0,1,2,3,4,5,6,7,8,9,10,11,12,13,14] .fin) [10,79,80,81,82,83,84,85,86,87,88,89,90,91,92] (by kernel_rfl)
   ·conv=>whnf
    (refine zp (args':= [.ag (AT g), .ag (Tj A (.sl 3 A.homes.length fun i=>(A.homes.map EC).getD i [])),iv y.zone,iv y.what]) (hadr.subA asub) ⟨(Ab _).symm,rfl⟩ ?_;rintro _ rfl;refine⟨rfl,?_⟩)
    exact tA
   conv=>whnf
   conv=>whnf
   refine zd [0,1,2,3,4,5] hho ?_;rintro _ _ ⟨rfl,d2,hd2,rfl⟩;conv=>whnf
   repeat' (refine z_ ?_;conv=>whnf)
   apply zP tys_ok mixed (.o [0,1,2,3,4,5,6,7,8,9,10,11,12,13,14,16,15,17,18] .fin) [103,104,105,106,107,108,109,110,111,112,113,114,115,116,117,118,119,120,121] (by kernel_rfl)
   ·conv=>whnf
    (refine zp (args':= [.ag (AT g), .ag (Tj A (.sl 3 A.homes.length fun i=>(A.homes.map EC).getD i [])),iv y.zone,iv y.what]) (hadr.subA asub) ⟨(Ab _).symm,rfl⟩ ?_;rintro _ rfl;refine⟨rfl,?_⟩)
    exact tA
   conv=>whnf
   conv=>whnf
   rw [show (BH g A y.zone y.what != BH g A y.zone y.what)=false by simp];conv=>whnf
   refine⟨(i+1,d2),⟨by show i+1<=x.images.length;omega,?_⟩,by show x.images.length - (i+1)<x.images.length - i;omega,?_⟩
   ·show Gw (Ay g) d2 F (DB g a x.seq (x.images.take (i+1)));rw [htk,Gv];show Gw (Ay g) d2 F (_ ++ (Fm g a x.seq y ++ []));rw [Fm,if_neg h255,AL,<-had];exact hd2
   ·show WkR _ _ _ _ (Fw g (AJ (Cj a x.seq (x.images.take (i+1))) (x::r)) 0 d2 ++ _);rw [hup,show Dr A x.seq y=A from if_neg h255];exact zR (s:= [0,1,2,3,4,5,6,7,8,9]) ⟨⟨rfl,rfl,rfl,rfl,rfl,AH (by omega),tv⟩,tA,rfl,rfl,rfl,rfl,rfl⟩
 ·have ei:i=x.images.length:=by omega
  rw [ei,Aw] at hd1 hA;have hfl:=bF g (AJ A (x::r)) (Ay g) d1 F _ hd1;conv=>whnf
  rw [show decide ((i:Int)<(x.images.length:Nat))=false from decide_eq_false (by omega)];conv=>whnf
  refine zi Dk (fun d2=>([(0, .bp 0 0),(5, .bp 7 0),(6, .v (.bool true)),(7,ze 0)],rwP g (AJ A (x::r)) 0 d2 ++ ([.box 112 (CO x)]:List AB))) (fun d2=>Gd (Ay g) d2 (IA F (DB g a x.seq x.images))) ?_ ?_
  ·conv=>whnf
   refine zd [0,1,2,3,4,5] hfl ?_;rintro _ _ ⟨rfl,d2,hd2,rfl⟩;exact⟨d2,hd2,zR (s:= [0,1,2,3,4,5,10,9]) tA⟩
  intro d2 hd2;clear hi hin hd1 hfl;conv=>whnf
  refine zi Dk (fun d3=>([(0, .bp 0 0),(5, .bp 7 0),(6, .v (.bool true)),(7,ze 0)],rwZ g (AJ (D_ g a x) (x::r)) d3 ++ ([.box 112 (CO x)]:List AB))) (fun d3=>Gd (Ay g) d3 (Gj g a x F)) ?_ ?_
  ·conv=>whnf
   apply aDraw.dag (67239936) tys_ok mixed [([],43,(.o [0,1,2,3,4,5,6,7,8,9,10,11,12,13,14,15,16,19,20,21,22,23,25,28,29,30,31] (.alt 17 (.o [18,24] (.alt 26 (.o [27,32,33,34,35,36,37,38,39,40,41,42] .fin) (.alt 32 (.o [33,34,35,36] (.alt 26 (.jump 1) (.alt 37 (.jump 2) .non))) .non))) (.alt 26 (.one 27 (.alt 17 (.o [18,24,32,33,34,35,36,37,38,39,40,41,42] .fin) (.alt 32 (.o [17,18,24,33,34,35,36,37,38,39,40,41,42] .fin) .non))) (.alt 32 (.alt 17 (.o [18,24,33,34,35,36] (.alt 26 (.jump 1) (.alt 37 (.jump 2) .non))) (.alt 26 (.o [27,17,18,24,33,34,35,36,37,38,39,40,41,42] .fin) .non)) .non))))),([0,1,2,3,4,5,6,7,8,9,10,11,12,13,14,15,16,17,18,19,20,21,22,23,24,25,26,28,29,30,31,32,33,34,35,36],7,(.o [27,37,38,39,40,41,42] .fin)),([0,1,2,3,4,5,6,7,8,9,10,11,12,13,14,15,16,17,18,19,20,21,22,23,24,25,28,29,30,31,32,33,34,35,36,37],7,(.o [26,27,38,39,40,41,42] .fin))] [172,173,174,175,176,177,178,179,180,181,182,183,184,185,186,187,188,189,190,191,192,193,194,195,196,197,198,199,200,201,202,203,204,205,206,207,208,209,210,211] [(_,_),(_,_)] (by kernel_rfl)
   ·refine Af ?_ ?_
    ·refine Af ?_ (Af ?_ (Af ?_ (trivial)))
     ·conv=>whnf
      try (refine tI ?_;conv=>whnf)
      refine Af ?_ (Af ?_ (trivial))
      ·conv=>whnf
       try (refine tS ?_;conv=>whnf)
       try (refine tS ?_;conv=>whnf)
       try (refine tS ?_;conv=>whnf)
       exact tA
      ·conv=>whnf
       try (refine tS ?_;conv=>whnf)
       refine Af ?_ (Af ?_ (trivial))
       ·exact tA
       ·conv=>whnf
        try (refine tS ?_;conv=>whnf)
        exact tA
     ·refine Af ?_ (Af ?_ (trivial))
      ·conv=>whnf
       try (refine tI ?_;conv=>whnf)
       try (refine tS ?_;conv=>whnf)
       try (refine tS ?_;conv=>whnf)
       try (refine tS ?_;conv=>whnf)
       exact tA
      ·conv=>whnf
       try (refine tS ?_;conv=>whnf)
       try (refine tI ?_;conv=>whnf)
       try (refine tS ?_;conv=>whnf)
       try (refine tS ?_;conv=>whnf)
       exact tA
     ·conv=>whnf
      try (refine tS ?_;conv=>whnf)
      refine Af ?_ (Af ?_ (trivial))
      ·conv=>whnf
       try (refine tI ?_;conv=>whnf)
       refine Af ?_ (Af ?_ (trivial))
       ·exact tA
       ·conv=>whnf
        try (refine tS ?_;conv=>whnf)
        exact tA
      ·conv=>whnf
       try (refine tI ?_;conv=>whnf)
       try (refine tS ?_;conv=>whnf)
       try (refine tS ?_;conv=>whnf)
       exact tA
    refine Af ?_ ?_
    ·conv=>whnf
     try (refine tS ?_;conv=>whnf)
     try (refine tS ?_;conv=>whnf)
     exact tA
    refine Af ?_ ?_
    ·conv=>whnf
     try (refine tS ?_;conv=>whnf)
     exact tA
    conv=>whnf
    exact trivial
   conv=>whnf
   conv=>whnf
   apply z8 (0) tys_ok mixed (.o [0,1,2,3,4,5,6,7,8,9,10,11,12,13,14] .fin) [212,213,214,215,216,217,218,219,220,221,222,223,224,225] (by kernel_rfl)
   ·conv=>whnf
    try (refine tS ?_;conv=>whnf)
    exact tA
   conv=>whnf
   conv=>whnf
   have hsx:x.seq=a.seq:=r1;have hpx:x.pos=a.pos:=r3;have E1:IntKind.i64.wrap ((AJ A (x::r)).a.gen+1)=(D_ g a x).gen:=by
    show IntKind.i64.wrap (A.gen+1)=a.gen+1;rw [hAs.1];exact wi (by omega)
   have E2:(IntKind.i64.wrap ((AJ A (x::r)).a.pos+x.n)).tmod g.sl=(D_ g a x).pos:=by
    show (IntKind.i64.wrap (A.pos+x.n)).tmod g.sl=(x.pos+x.n).tmod g.sl;rw [hAs.2.2.1,hpx,wi (by omega)]
   have E3:IntKind.i64.wrap (x.seq+1)=(D_ g a x).seq:=by
    show IntKind.i64.wrap (x.seq+1)=a.seq+1;rw [hsx];exact wi (by omega)
   have E4:(if (AJ A (x::r)).a.last<x.seq then x.seq else (AJ A (x::r)).a.last)=(D_ g a x).last:=by
    show (if A.last<x.seq then x.seq else A.last)=max a.last a.seq;rw [hAs.2.2.2.2.1,hsx];split <;> omega
   have hok2:=Pu (x:=x) hg ha (by omega) (by omega) hsx (by omega) (by omega);have hran:=TW g (AJ (D_ g a x) (x::r)) d2 _ hg hok2 hd2;dsimp only;rw [E1,E2,E3,E4];subst hA;refine zd [0,1,2,6,4,5] hran ?_;rintro _ _ ⟨rfl,d3,hd3,rfl⟩;conv=>whnf
   rw [show decide (((g.an.toNat:Nat):Int) > 0)=true from decide_eq_true (by omega)];exact⟨d3,hd3,zR (s:= [0,1,2,3,4,5,8,7]) tA⟩
  intro d3 hd3;have hl1:1<=((AJ (D_ g a x) (x::r)).txns.length:Int):=by show 1<=((x::r).length:Int);rw [Ao];omega
  conv=>whnf
  repeat' (refine z_ ?_;conv=>whnf)
  apply zW (0) tys_ok mixed (.o [0,1,2,3,4,5,6,7,8,9,10,11,12,13,14,15,16,17,18,19,20,21,22,23,24] .fin) (by kernel_rfl);conv=>whnf
  try (refine tI ?_;conv=>whnf)
  try (refine tS ?_;conv=>whnf)
  try (refine tS ?_;conv=>whnf)
  all_goals
   exact⟨.tp [ze (x.images.length:Nat),ze 0], .tp [ze (x.images.length:Nat),ze 0],rwZ g (AJ (D_ g a x) r) d3,ri,zF (zK (zq (cs':=Z1 g (.bp 1 0) (AJ (D_ g a x) r) 0) 0 rfl ⟨ri,ri,ri,ri,ri,ri,ri,ri,ri,ri,ri,ri,ri,Vw x r,ri,ri,ri,ri,ri,ri,ri,tv⟩)) (s:= [0,1,2,3,4,5,6]) tA,rfl,d3,hd3,rfl⟩
def II (d:Dk) (a:Int) (c:Cel):Dk:={ d with cells:=d.cells.set a.toNat c }
def Dk.fault (d:Dk) (kind a frm bit bits:Int):Dk × Int:=
 if CH a 0 ((d.cells.length:Int) - 1)=false then (d,1) else if 0<d.cache.length then (d,9) else
 let c:=d.cells.getD a.toNat cz
 if kind=11 then (II d a { c with state:=if c.state=0 then 1 else c.state },0)
 else if kind=12 then (II d a { c with state:=2 },0)
 else if kind=13 then (if bit<0\/bits<0 then (d,1) else (II d a { c with bytes:=Za c.bytes bit bits },0))
 else if kind=14 then (II d a { c with bytes:=c.old },0)
 else if kind=15 then (if CH frm 0 ((d.cells.length:Int) - 1)=false then (d,1) else (II d a { c with bytes:=(d.cells.getD frm.toNat cz).bytes },0))
 else (d,1)
structure Q4 where
 a:Int
 b:Int
 c:Int
 d:Int
theorem YM {d:Dk} {a:Int} {c:Cel} (h:DkOk d) (hc:(0<=c.state/\c.state<=2)/\c.bytes.length<=200/\c.old.length<=200):DkOk (II d a c):=by
 refine⟨by simpa [II] using h.n,h.m,h.r,h.l,fun x hx=>?_,fun w hw=>by simpa [II] using h.w w hw⟩;rcases Cu hx with hx | rfl
 ·exact h.c x hx
 ·exact hc
theorem S_ {d:Dk} (h:DkOk d) (i:Nat):(0<=(d.cells.getD i cz).state/\(d.cells.getD i cz).state<=2)/\(d.cells.getD i cz).bytes.length<=200/\(d.cells.getD i cz).old.length<=200:=by
 by_cases hi:i<d.cells.length
 ·exact h.c _ (A6 (d:=cz) hi)
 ·rw [Aa,AG (by omega)];exact⟨⟨CZ _,show (0:Int)<=2 by decide⟩,by simp [cz],by simp [cz]⟩
theorem DkOk.fault {d:Dk} (h:DkOk d) (kind a frm bit bits:Int):DkOk (d.fault kind a frm bit bits).1/\(d.fault kind a frm bit bits).1.cells.length=d.cells.length/\(d.fault kind a frm bit bits).1.cache=d.cache/\(d.fault kind a frm bit bits).1.left=d.left/\(d.fault kind a frm bit bits).1.reqs=d.reqs:=by
 have hc:=S_ h a.toNat;have hf:=S_ h frm.toNat;have go:∀ c:Cel,((0<=c.state/\c.state<=2)/\c.bytes.length<=200/\c.old.length<=200)->DkOk (II d a c)/\(II d a c).cells.length=d.cells.length/\(II d a c).cache=d.cache/\(II d a c).left=d.left/\(II d a c).reqs=d.reqs:=fun c h1=>⟨YM h h1,by simp [II],rfl,rfl,rfl⟩
 have st:DkOk d/\d.cells.length=d.cells.length/\d.cache=d.cache/\d.left=d.left/\d.reqs=d.reqs:=⟨h,rfl,rfl,rfl,rfl⟩;unfold Dk.fault;split
 ·exact st
 ·split
  ·exact st
  ·simp only;split
   ·refine go _ ⟨?_,hc.2⟩;simp only;split
    ·exact⟨by decide,by decide⟩
    ·exact hc.1
   ·split
    ·exact go _ ⟨⟨show (0:Int)<=2 by decide,CZ 2⟩,hc.2⟩
    ·split
     ·split
      ·exact st
      ·exact go _ ⟨hc.1,by simp only [OT];exact hc.2.1,hc.2.2⟩
     ·split
      ·exact go _ ⟨hc.1,hc.2.2,hc.2.2⟩
      ·split
       ·split
        ·exact st
        ·exact go _ ⟨hc.1,hf.2.1,hc.2.2⟩
       ·exact st
end
section
open Go.RowKit Go.ChangeShapes Go.WideShapes Go.ChangeAt Go.Deep
section
variable {H:Type} {enc:TypeId × Value->H} {w:World}
end
end
section
open Go.RowKit
structure Q2 where
 a:Int
 b:Int
def bd (x:Q2):List AV:= [iv x.a,iv x.b]
def RD (l:List Q2):AV:= .sl 2 l.length fun i=>bd (l.getD i ⟨0,0⟩)
section
open Go.ChangeShapes Go.WideShapes Go.ChangeAt Go.Deep
variable {H:Type} {enc:TypeId × Value->H} {w:World}
theorem oQ2:OpenE enc w 100 2 fun L=>∃ x,L=bd x:=
 (ZG Tryz.underlying100 (by kernel_rfl)).mono fun L h=>by
  obtain⟨l,hl,rfl, -⟩:=h;match l,hl with
  | [a,b],_=>exact⟨⟨a,b⟩,rfl⟩
def bf (L:List AV):Prop:=∃ l,L=[RD l]
theorem oQ2s:OpenE enc w 24 1 bf:=
 (Y_ (α:=Q2) (sz:=2) (f:=bd) (d:=⟨0,0⟩) Tryz.underlying24 (by kernel_rfl) (by decide) oQ2).mono fun L ⟨l,h⟩=>⟨l,h⟩
end
structure Md where
 a:An
 l:List Tx
 F:Int->List UInt8
 m:List (List UInt8)
def br (g:Geo) (M:Md) (lba:Int) (b:List UInt8) (M':Md):Prop:=
 (BX M.l+4<=g.sl/\(EP g (AJ M.a M.l) M.F (lba.tdiv g.d)).isSome=true/\∃ W:List Wr,(∀ w∈W,(g.an<=w.addr/\w.addr<g.an+2*g.sl/\Cw w.bytes=w.addr)/\w.bytes.length<=200)/\M'=⟨M.a,M.l ++ [H7 g M.a M.l M.F lba b],IA M.F W,M.m.set lba.toNat b⟩)
 \/((g.sl<BX M.l+4\/EP g (AJ M.a M.l) M.F (lba.tdiv g.d)=none)/\M'=M)
def YL (g:Geo) (M:Md):Md:=match M.l with
 | []=>M
 | x::r=>⟨D_ g M.a x,r,Gj g M.a x M.F,M.m⟩
def KP (n:Int) (F:Int->List UInt8) (q:Int):List UInt8:=if -n<=q/\q<n then F q else []
def FY (g:Geo):Md:=⟨DQ (BZ g ⟨#[]⟩) 0, [],KP (Ay g) (RK g (DQ (BZ g ⟨#[]⟩) 0)),List.replicate (g.z*g.d).toNat zero8⟩
def aU (g:Geo) (L:List Q2):Nat->Md->Prop
 | 0,M=>M=FY g
 | i+1,M=>∃ M1 M2,aU g L i M1/\(∃ lba b,(0<=lba/\lba<g.z*g.d)/\b.length=8/\br g M1 lba b M2)/\M=if (L.getD i ⟨0,0⟩).b.tmod 3=0 then YL g M2 else M2
structure Vo (g:Geo) (K:Int) (M:Md):Prop where
 an:Bu g M.a=true
 ring:C7 g M.l M.a.seq M.a.pos g.sl=true
 gen:M.a.gen<=K
 seq:M.a.seq+M.l.length<=K
 one:∀ t∈M.l,OneTab t.images
 fb:∀ q,(M.F q).length<=200
 m:(M.m.length:Int)=g.z*g.d
theorem Vo.vol {g:Geo} {K:Int} {M:Md} (h:Vo g K M) {d:Dk} (hd:Gd (Ay g) d M.F):Vol g K d (AJ M.a M.l):=⟨⟨_,hd⟩,h.an,h.ring,tA,h.gen,h.seq,h.one⟩
theorem Vo.of {g:Geo} {K:Int} {M:Md} {d:Dk} (h:Vol g K d (AJ M.a M.l)) (hf:∀ q,(M.F q).length<=200) (hm:(M.m.length:Int)=g.z*g.d):Vo g K M:=⟨h.an,h.ring,h.gen,h.seq,h.one,hf,hm⟩
theorem NB {a:Int}:∀ (n:Nat) (l:List Wr) (w:Wr),l.length=n->IN l a=some w->w∈l
 | 0,l,w,hn,h=>by
  obtain rfl:=AZ.1 hn;rw [NA] at h;cases h
 | n+1,l,w,hn,h=>by
  rcases CS l with rfl | ⟨m,x,rfl⟩
  ·cases hn
  ·rw [CT] at h |-
   rw [Je] at h;split at h
   ·obtain rfl:=Option.some.inj h;simp
   ·exact List.mem_append_left _ (NB n m w (by simpa using hn) h)
theorem QW {F:Int->List UInt8} {n:Nat} (hF:∀ q,(F q).length<=n) {W:List Wr} (hW:∀ w∈W,w.bytes.length<=n) (q:Int):(IA F W q).length<=n:=by
 induction W generalizing F with
 | nil=>exact hF q
 | cons w W ih=>
  refine ih (F:=XF F w) (fun q=>?_) fun x hx=>hW x (Ba _ hx)
  unfold XF;split
  ·split
   ·exact hW w List.mem_cons_self
   ·exact hF q
  ·split
   ·exact hF _
   ·exact hF q
theorem Vy {g:Geo} (hg:Bp g=true) {a:An} {x:Tx} (ha:Bu g (D_ g a x)=true) {F:Int->List UInt8} (hF:∀ q,(F q).length<=200) (hx:∀ y∈x.images,Bz g y=true) (q:Int):(Gj g a x F q).length<=200:=by
 unfold Gj;refine QW (QW hF fun w hw=>?_) (fun w hw=>(KT hg ha w hw).2) q;obtain⟨y,hy,hw⟩:=Mk.1 hw;have:=E_ hg (hx y hy);unfold Fm at hw;split at hw
 ·simp only [AQ,Du,or_false] at hw;rcases hw with rfl | rfl <;> exact FL (by omega)
 ·rw [AC] at hw;rw [hw];exact FL (by omega)
theorem Vo.ck {g:Geo} (hg:Bp g=true) {K:Int} {M:Md} (h:Vo g K M) (hK:K<=4294967294) {d d':Dk} (hd:Gd (Ay g) d M.F) (hd':Gd (Ay g) d' (YL g M).F):Vo g (K+1) (YL g M):=by
 obtain⟨a,l,F,m⟩:=M;cases l with
 | nil=>exact⟨h.an,h.ring,by have q:a.gen<=K:=h.gen;show a.gen<=K+1;omega,by have q:a.seq+(([]:List Tx).length:Int)<=K:=h.seq;show a.seq+(([]:List Tx).length:Int)<=K+1;omega,h.one,h.fb,h.m⟩
 | cons x r=>
  have hv:=h.vol hd;have h2:=hv.home hg (x:=x) (r:=r) rfl hK (d':=d') ⟨_,hd'⟩;have hi:=(Dx h.ring x (List.mem_cons_self)).1;exact Vo.of (d:=d') h2 (Vy hg h2.an h.fb (Au.1 hi)) h.m
theorem Gd.clip {n:Int} {d:Dk} {F:Int->List UInt8} (h:Gd n d F):Gd n d (KP n F)/\∀ q,(KP n F q).length<=200:=by
 have hl:=h.len;refine⟨⟨h.ok,h.left,h.len,h.cache,fun q h0 h1=>?_,fun q h0 h1=>?_⟩,fun q=>?_⟩
 ·have:=h.cell q h0 h1;unfold KP;rw [if_pos ⟨by omega,h1⟩];exact this
 ·have:=h.old q h0 h1;unfold KP;rw [if_pos ⟨by omega,by omega⟩];exact this
 ·unfold KP;split
  ·rename_i hq;by_cases h0:0<=q
   ·have hc:=(h.cell q h0 hq.2).2;rw [<-hc];exact(h.ok.c _ (A6 (by omega))).2.1
   ·have hc:=h.old (-1 - q) (by omega) (by omega);rw [show -1 - (-1 - q)=q by omega] at hc;rw [<-hc];exact(h.ok.c _ (A6 (by omega))).2.2
  ·simp
theorem SO {g:Geo} (hg:Bp g=true):∃ D,DN g (Gy g ⟨#[]⟩)=(D,0,AJ (FY g).a (FY g).l)/\DkOk (Gy g ⟨#[]⟩)/\((Gy g ⟨#[]⟩).cells.length:Int)=Ay g/\Gd (Ay g) D (FY g).F/\Vo g 2 (FY g):=by
 obtain⟨D,h1,h2,h3,h4,h5⟩:=ZD hg;obtain⟨q1,q2⟩:=h5.clip;refine⟨D,h1,h2,h3,q1,Vo.of (d:=D) (M:=FY g) ⟨⟨_,q1⟩,h4.an,h4.ring,h4.rest,h4.gen,h4.seq,h4.one⟩ q2 ?_⟩;obtain⟨g1,g2,g3,g4,g5⟩:=As.1 hg;have:0<=g.z*g.d:=CL (by omega) (by omega);show (((List.replicate (g.z*g.d).toNat zero8).length:Nat):Int)=_;rw [B8];omega
structure Gc (n:Int) (d:Dk) (F:Int->List UInt8) (l:List Wr):Prop where
 ok:DkOk d
 len:(d.cells.length:Int)=n
 cache:d.cache=l
 cell:∀ a:Int,0<=a->a<n->(d.cells.getD a.toNat cz).state=0/\(d.cells.getD a.toNat cz).bytes=F a
theorem Gw.gc {n:Int} {d:Dk} {F:Int->List UInt8} {l:List Wr} (h:Gw n d F l):Gc n d F l:=⟨h.ok,h.len,h.cache,h.cell⟩
theorem Gc.write {n:Int} {d:Dk} {F:Int->List UInt8} {l:List Wr} (h:Gc n d F l) (hl:l.length<2000) {a:Int} (h0:0<=a) (h1:a<n) {b:List UInt8} (hb:b.length<=200):(d.left=0/\d.write a b=(d,8))\/(d.left≠0/\(d.write a b).2=0/\Gc n (d.write a b).1 F (l ++ [⟨a,b⟩])):=by
 by_cases hz:d.left=0
 ·exact .inl ⟨hz,by unfold Dk.write;rw [if_pos hz]⟩
 ·have hw:=h.ok.write (a:=a) (b:=b) (by rw [<-h.len] at h1;omega) hb;have e:d.write a b=({ d.req with cache:=d.cache ++ [⟨a,b⟩] },0):=by
   unfold Dk.write;rw [if_neg hz,if_neg];rintro(h2 | h2)
   ·have:=(h.cell a h0 h1).1;unfold cz at this;omega
   ·rw [h.cache] at h2;omega
  rw [e] at hw |-
  exact .inr ⟨hz,rfl,hw,h.len,by rw [h.cache],h.cell⟩
theorem Gc.puts {n:Int} {d:Dk} {F:Int->List UInt8} {W l:List Wr} (h:Gc n d F W) (hl:∀ w∈l,(0<=w.addr/\w.addr<n)/\w.bytes.length<=200) (hn:W.length+l.length<=2000):∀ k:Nat,k<=l.length->(d.writes (l.take k)).2.2=false->(d.writes (l.take k)).2.1=k/\Gc n (d.writes (l.take k)).1 F (W ++ l.take k)
 | 0,_,_=>⟨rfl,by rw [List.take_zero,AL];exact h⟩
 | k+1,hk,hv=>by
  have hx0:=G2 d (l:=l) (k:=k) (by omega);have hv0:(d.writes (l.take k)).2.2=false:=by
   cases hc:(d.writes (l.take k)).2.2 with
   | false=>rfl
   | true=>
    rw [hx0] at hv;unfold FU at hv;rw [hc] at hv;simp only [if_true] at hv;rw [hc] at hv;cases hv
  obtain⟨q1,q3⟩:=Gc.puts h hl hn k (by omega) hv0;have hx:=Lc (d:=d) (l:=l) (k:=k) (by omega) hv0;have hm:=hl _ (A6 (d:=(⟨0, []⟩:Wr)) (show k<l.length by omega));rcases q3.write (by rw [Ai,Aq];omega) hm.1.1 hm.1.2 hm.2 with ⟨-,e8⟩ | ⟨-,e0,hw⟩
  ·rw [hx,e8] at hv;cases hv
  ·rw [hx,e0];have e:l.take (k+1)=l.take k ++ [l.getD k ⟨0, []⟩]:=by
    rw [AR,Ae (by omega),Aa,Ae (by omega)];try rfl
   refine⟨by simp only [q1];rfl,?_⟩;rw [e,<-A9];exact hw
theorem Gc.flush {n:Int} {d:Dk} {F:Int->List UInt8} {l:List Wr} (h:Gc n d F l):Gc n d.flush (IA F l) []:=by
 have e:d.flush=⟨CU d.cells l, [],d.req.reqs,d.req.left⟩:=by
  unfold Dk.flush;rw [allFin_cells,h.cache];try rfl
 have ho:=h.ok.flush;rw [e] at ho |-
 refine⟨ho,by show ((CU d.cells l).length:Int)=n;rw [finL_len];exact h.len,rfl,fun a h0 h1=>?_⟩;have hl:=h.len;refine OZ h0 (by omega) (h.cell a h0 h1) _ l rfl fun w hw=>?_
 rw [<-h.cache] at hw;exact(h.ok.w w hw).1.1
theorem Gc.putAll {n:Int} {d:Dk} {F:Int->List UInt8} {l:List Wr} (h:Gc n d F []) (hl:∀ w∈l,(0<=w.addr/\w.addr<n)/\w.bytes.length<=200) (hn:l.length<=2000) (hv:(d.putAll l).2.2=false):(d.putAll l).2.1=l.length/\Gc n (d.putAll l).1 (IA F l) []:=by
 cases hw:(d.writes l).2.2 with
 | true=>rw [FN hw] at hv;cases hv
 | false=>
  have hp:=Gc.puts h hl (by simpa using hn) l.length (Ah _);rw [Aw] at hp;obtain⟨q1,q2⟩:=hp hw;have e:=EZ hw;by_cases h0:(d.writes l).1.left=0
  ·rw [if_pos h0] at e;rw [e] at hv;cases hv
  ·rw [if_neg h0] at e;rw [e];exact⟨q1,by simpa using q2.flush⟩

theorem Nz (g:Geo) (w:Int) (hw : -1<=w/\w<g.d):Fn Tryz.prog 223 [.ag (AT g),iv w] fun r=>r = .tp [iv (Em g w), .v (.bool true)]:=by
 unfold Em;by_cases h:w = -1
 ·rw [if_pos h];refine zS Tryz.func223 rfl ?_;conv=>whnf
  rw [show (w == -1)=true by simpa using h];exact⟨_,ri,rfl⟩
 ·rw [if_neg h];refine zS Tryz.func223 rfl ?_;conv=>whnf
  rw [show (w == -1)=false by simpa using h];refine zA tys_ok mixed [0,1,2,3,4,5,6,7,8,9,10] (by kernel_rfl) ?_;conv=>whnf
  rw [show decide (w>=0)=true from decide_eq_true (by omega)];conv=>whnf
  rw [show decide (w<g.d)=true from decide_eq_true (by omega)];exact⟨_,ri,rfl⟩
theorem MM {g:Geo} {a:An} (hg:Bp g=true) (ha:Bu g a=true):a.label.size<=1000000/\a.homes.length<=1000/\∀ h∈a.homes,h.places.length<=1000000:=by
 have:=Hb hg ha 0 (Aj _);exact⟨by have:=this.2.2.2.1;omega,by have:=this.2.1;omega,fun h hh=>KS hg ha h hh⟩
theorem T_ (g:Geo) (a:An) (z w:Int) (hg:Bp g=true) (ha:Bu g a=true) (hz:0<=z/\z<g.z) (hw : -1<=w/\w<g.d):Fn Tryz.prog 222 [.ag (AT g), .ag (ED a),iv z,iv w] fun r=>r = iv 0:=by
 obtain⟨s1,s2, -⟩:=MM hg ha;have c1:=Og g a s1 (by omega);rw [hg,ha] at c1;have c2:=Nz g w hw;refine zS Tryz.func222 rfl ?_;conv=>whnf
 refine zZ c1 ?_;conv=>whnf
 refine zZ c2 ?_;conv=>whnf
 rw [show decide (z<0)=false from decide_eq_false (by omega)];conv=>whnf
 rw [show decide (z>=g.z)=false from decide_eq_false (by omega)];exact⟨_,ri,rfl⟩
theorem Wh (g:Geo) (a:An) (z w:Int) (hg:Bp g=true) (ha:Bu g a=true) (hz:0<=z/\z<g.z) (hw : -1<=w/\w<g.d):Fn Tryz.prog 170 [.ag (AT g), .ag (ED a),iv z,iv w] fun r=>r = .tp [iv (BH g a z w),iv 0]:=by
 obtain⟨g1,g2,g3,g4,g5⟩:=As.1 hg;obtain⟨hi,hh⟩:=NK ha hz;simp only [DZ,Ad,decide_eq_true_eq,AF] at hh;obtain⟨p1,p2,p3,p4⟩:=hh;have hat:0<=Em g w/\Em g w<=g.d:=by unfold Em;split <;> omega
 have hk:(Em g w).toNat<(a.homes.getD z.toNat ⟨[],0,0⟩).places.length:=by omega
 have hp:=Au.1 p4 (Em g w).toNat (by simpa using hk);simp only [Ad,AF] at hp;have c1:=T_ g a z w hg ha hz hw;have c2:=Nz g w hw;have c3:=WD g z ((a.homes.getD z.toNat ⟨[],0,0⟩).places.getD (Em g w).toNat 0) hg hz (by unfold CG;omega);refine zS Tryz.func170 rfl ?_;conv=>whnf
 refine zZ c1 ?_;conv=>whnf
 refine zZ c2 ?_;conv=>whnf
 apply zP tys_ok mixed (.o [0,1,2,3,4,5,6,7,8,9,10,11,12,13,14,15] .fin) [8,9,27,28,29,30,31,32,33,34,35,36,37,38,39,40] (by kernel_rfl)
 ·conv=>whnf
  try (refine Af (by first | omega | exact ixA | exact ixB | (simp;done)) ?_;conv=>whnf)
  try (refine Af (by first | omega | exact ixA | exact ixB | (simp;done)) ?_;conv=>whnf)
  refine zZ c3 ?_;exact tA
 exact⟨_,ri,rfl⟩
theorem NL (g:Geo) (lba:Int) (hg:Bp g=true) (h:0<=lba/\lba<g.z*g.d):Fn Tryz.prog 103 [.ag (AT g),iv lba] fun r=>r = .tp [iv (lba.tdiv g.d),iv (lba.tmod g.d),iv 0]:=by
 obtain⟨h1,h2,h3,h4,h5⟩:=As.1 hg;have hG:Fn Tryz.prog 51 [.ag (AT g)] fun r=>r = .v (FQ (Bp g)):=DV g.z g.d g.sp g.sl g.an
 rw [hg] at hG;have hp:g.z*g.d<=16:=Int.le_trans (BF h1.2 (by omega)) (by omega);have hw:IntKind.i64.wrap (IntKind.i64.wrap (g.z*g.d) - 1)=g.z*g.d - 1:=by rw [wi (n:=g.z*g.d) (by omega),wi (by omega)]
 have hn:=Jm lba 0 (IntKind.i64.wrap (IntKind.i64.wrap (g.z*g.d) - 1));rw [show CH lba 0 (IntKind.i64.wrap (IntKind.i64.wrap (g.z*g.d) - 1))=true from AF.2 (by rw [hw];omega)] at hn;have hq:lba.tdiv g.d=lba / g.d:=Bn h.1;have hq2:0<=lba / g.d/\lba / g.d<=lba:=⟨DE h.1 (by omega),Int.ediv_le_self _ h.1⟩;refine zS Tryz.func103 rfl ?_;conv=>whnf
 refine zZ hG ?_;conv=>whnf
 refine zZ hn ?_;conv=>whnf
 have hd0:g.d≠0:=by omega
 refine zA tys_ok mixed [0,1,2,3,4,5,6,7,8,9,10] (by kernel_rfl) ?_;refine⟨hd0,?_⟩;refine⟨hd0,?_⟩;exact⟨_,ri,by rw [wi (n:=lba.tdiv g.d) (by omega)]⟩
theorem US (g:Geo) (w:Int):Fn Tryz.prog 172 [.ag (AT g),iv w] fun r=>r = iv (Em g w):=by
 unfold Em;by_cases h:w = -1
 ·rw [if_pos h];refine zS Tryz.func172 rfl ?_;conv=>whnf
  rw [show (w == -1)=true by simpa using h];exact⟨_,ri,rfl⟩
 ·rw [if_neg h];refine zS Tryz.func172 rfl ?_;conv=>whnf
  rw [show (w == -1)=false by simpa using h];exact⟨_,ri,rfl⟩
end
section
open Go.RowKit Go.Maps
theorem Fn.at {P:Program} {f:FuncId} {args:List AV} {K:AV->Prop} (h:Fn P f args K) {c0:Ctx} (hd:c0.dom=0) (hM:∀ b,c0.M b->b<c0.w.heap.size) (hg:globOk c0.w) {W:World} (hB:Below c0.w.heap.size c0.w W) {us:List Value} (hr:RdL args { c0 with w:=W } us) :
  Calls P f us.toArray W fun e w'=>∃ v r,e = .returned v/\K r/\Below W.heap.size W w'/\Rd r { c0 with w:=w' } v:=
 h.2 { c0 with w:=W } us hd (fun b hb=>At (hM b hb) hB.size) (hg.keep hB.size hB.block) hr
theorem N0 {w w':World} {P:Program} {k:TypeId} {R:Value->Option (DataW Unit × List MemPlace)} {b n:Nat} {D:DataW Unit} (h:w.ownsMap P k R b n D) (hB:Below w.heap.size w w'):w'.ownsMap P k R b n D:=by
 have hl:=h.lt;obtain⟨es,clock,hb,r⟩:=h;exact⟨es,clock,(hB.block b hl).trans hb,r⟩
theorem und_map:Tryz.prog.underlying 303=some (.map 3 4):=by kernel_rfl
theorem und_int:Tryz.prog.underlying 3=some (.int .i64):=by kernel_rfl
theorem und_bool:Tryz.prog.underlying 4=some .bool:=by kernel_rfl
end
section
open Go.RowKit
theorem I1 (l:List Tx) (z w:Int) (hl:l.length<=1000000) (hi:∀ t∈l,t.images.length<=1000000/\∀ x∈t.images,x.bytes.length<=1000000000):ACalls Tryz.prog false 104 [.ow 0 l.length,iv z,iv w] [.row 112 4 (l.map CO)] fun r H=>r=(match C2 l z w with | some p=> .tp [bA p.1.bytes,iv p.2, .v (.bool true)] | none=> .tp [bA [],iv 0, .v (.bool false)])/\H=[.row 112 4 (l.map CO)]:=by
 have hf:=PT l z w hl (fun t ht=>(hi t ht).1);have e:C2 l z w=_:=OY l z w l.length;rw [e];have tsub:SubL [.sl 4 l.length fun i=>(l.map CO).getD i [],iv z,iv w] [Dl l,iv z,iv w]:=⟨Bb (f:=CO) l rfl rfl,ri,ri,tv⟩;cases hA:HK l z w l.length with
 | none=>
  rw [hA] at hf;refine zT tys_ok Tryz.func104 rfl rfl (Ag rfl) ?_;conv=>whnf
  refine zp (args':= [.sl 4 l.length fun i=>(l.map CO).getD i [],iv z,iv w]) (hf.subA tsub) ⟨(Ab _).symm,rfl⟩ ?_;rintro _ rfl;refine⟨rfl,?_⟩;exact⟨_, .tp [bA [],iv 0, .v (.bool false)], [.row 112 4 (l.map CO)],BW (m:= [bA [],iv 0, .v (.bool false)]) ⟨Bh 1 _,ri,ri,tv⟩,zR (s:= [0]) tA,rfl,rfl⟩
 | some p=>
  obtain⟨k,i⟩:=p;rw [hA] at hf;obtain⟨hk,hi2⟩:=MD hA;simp only at hk hi2;have hm:=hi _ (A6 (d:=tz) hk);have hc:=Cp ((l.getD k tz).images.getD i iz).bytes (hm.2 _ (A6 hi2));replace hf:Fn Tryz.prog 169 [Dl l,iv z,iv w] fun r=>r = .tp [iv (k:Nat),iv (i:Nat), .v (.bool true)]:=hf
  have ixA:(0:Int)<=(k:Nat)/\((k:Nat):Int)<(l.length:Nat):=by omega
  have ixB:(0:Int)<=(i:Nat)/\((i:Nat):Int)<((l.getD k tz).images.length:Nat):=⟨Int.natCast_nonneg _,Int.ofNat_lt.2 hi2⟩;have hE:(l.map CO).getD (k:Int).toNat []=CO (l.getD k tz):=by rw [Ac];exact Bc hk
  refine zT tys_ok Tryz.func104 rfl rfl (Ag rfl) ?_;conv=>whnf
  refine zp (args':= [.sl 4 l.length fun i=>(l.map CO).getD i [],iv z,iv w]) (hf.subA tsub) ⟨(Ab _).symm,rfl⟩ ?_;rintro _ rfl;refine⟨rfl,?_⟩;conv=>whnf
  apply zW (0) tys_ok mixed (.o [0,1,2,3,4,5,6,7,8,10,11,12,13,14,9,15,16,17] .fin) (by kernel_rfl);conv=>whnf
  try (refine tI ?_;conv=>whnf)
  try (first | (refine Af ⟨rfl,(Ab _).symm,by rw [Ac];exact hk⟩ ?_;(conv=>whnf);rw [hE]) | skip;conv=>whnf)
  try (refine tI ?_;conv=>whnf)
  try (first | (refine Af ⟨rfl,(Ab _).symm,by rw [Ac];exact hk⟩ ?_;(conv=>whnf);rw [hE]) | skip;conv=>whnf)
  try (refine tI ?_;conv=>whnf)
  try (first | (refine Af ⟨rfl,(Ab _).symm,by rw [Ac];exact hk⟩ ?_;(conv=>whnf);rw [hE]) | skip;conv=>whnf)
  refine zZ hc ?_;conv=>whnf
  all_goals exact⟨_, .tp [bA ((l.getD k tz).images.getD i iz).bytes, .v (.int .i64 (l.getD k tz).seq), .v (.bool true)], [.row 112 4 (l.map CO)],fun _ _ h=>h,zR (s:= [0]) tA,rfl,rfl⟩
theorem Wi (l:List Tx) (hl:l.length<=1000000) (hi:∀ t∈l,t.images.length<=1000000/\∀ x∈t.images,x.bytes.length<=1000000000):ACalls Tryz.prog false 117 [Dl l] [] fun r H=>r = .ow 0 l.length/\H=[.row 112 4 (l.map CO)]:=by
 have hc:=Ng l (by omega);refine zT tys_ok Tryz.func117 rfl rfl (Ag rfl) ?_;conv=>whnf
 refine zV hc rfl ?_;rintro _ _ ⟨rfl,rfl⟩;conv=>whnf
 refine zU Nat (fun k=>([(0, .ow 0 l.length),(9,iv l.length),(10,iv k)], [.row 112 4 (l.map CO)])) (fun k=>k<=l.length) (fun k=>l.length - k) 0 (Aj _)
  (zR (s:= [0]) tA) ?_
 intro k hk;conv=>whnf
 refine A8 (fun h6=>?_) (fun h6=>?_) <;> (repeat rw [Ac] at h6) <;> conv=>whnf
 ·have hk':k<l.length:=by omega
  have hm:=hi _ (A6 (d:=(⟨0,0,0, []⟩:Tx)) hk');have hE:(l.map CO).getD (k:Int).toNat []=CO (l.getD k ⟨0,0,0, []⟩):=by rw [Ac];exact Bc hk'
  have ho:=NH (l.getD k ⟨0,0,0, []⟩).images (by omega);repeat' (refine z_ ?_;conv=>whnf)
  refine⟨⟨by omega,by omega⟩,?_⟩;conv=>whnf
  refine Af ⟨rfl,(Ab _).symm,by rw [Ac];exact hk'⟩ ?_;conv=>whnf
  rw [hE];conv=>whnf
  refine zf (ConvH.rowo (k:=0) rfl) ?_;refine zV ho rfl ?_;rintro _ _ ⟨rfl,rfl⟩;refine⟨⟨by omega,by omega⟩,?_⟩;conv=>whnf
  refine Af ⟨rfl,(Ab _).symm,by rw [Ac];exact hk'⟩ ?_;conv=>whnf
  rw [hE];refine⟨⟨by omega,by omega⟩,?_⟩;conv=>whnf
  refine Af ⟨rfl,by rw [AW,Ab],by rw [Ac];exact hk'⟩ ?_;conv=>whnf
  rw [BK (by rw [Ac,Ab];exact hk')];conv=>whnf
  obtain⟨t,ht⟩:∃ t,t=l.getD k ⟨0,0,0, []⟩:=⟨_,rfl⟩;rw [<-ht] at hm hE |-
  have hS:∀ x∈l.map CO,AV.ltL x 0=true:=Vv l;have hro:AV.ltL ((l.map CO).set k (Vf t 1)).flatten 2=true:=LH hS rfl;refine zU Nat (fun j=>([(0, .ow 0 l.length),(3,iv k),(9,iv l.length),(10,iv k),(27, .ow 1 t.images.length),(28,iv t.images.length),(29,iv j)], [.rowo 112 4 ((l.map CO).set k (Vf t 1)) 2, .row 166 3 (t.images.map D8)])) (fun j=>j<=t.images.length) (fun j=>t.images.length - j) 0 (Aj _)
   (zR (s:= [0,1]) ⟨tA,⟨⟨hro,_,by rw [Ir hS rfl];try rfl⟩,rfl,tv⟩,rfl,rfl,rfl,rfl,rfl⟩) ?_
  intro j hj;conv=>whnf
  refine A8 (fun h7=>?_) (fun h7=>?_) <;> (repeat rw [Ac] at h7) <;> conv=>whnf
  ·have hj':j<t.images.length:=by omega
   have hF:(t.images.map D8).getD (j:Int).toNat []=D8 (t.images.getD j ⟨0,0, []⟩):=by rw [Ac];exact Bc hj'
   have hG:((l.map CO).set k (Vf t 1)).getD (k:Int).toNat []=Vf t 1:=by rw [Ac];exact BK (by rw [Ab];exact hk')
   have b1:=Cp (t.images.getD j ⟨0,0, []⟩).bytes (hm.2 _ (A6 hj'));refine⟨⟨by omega,by omega⟩,?_⟩;conv=>whnf
   refine Af ⟨rfl,(Ab _).symm,by rw [Ac];exact hj'⟩ ?_;conv=>whnf
   rw [hF];conv=>whnf
   apply zW (0) tys_ok mixed (.o [0,1,2,3,4,5,6,7,8,9,10,11] .fin) (by kernel_rfl);conv=>whnf
   try (refine tI ?_;conv=>whnf)
   try (first | (refine Af ⟨rfl,by rw [AW,Ab],by rw [Ac];exact hk'⟩ ?_;(conv=>whnf);rw [hG]) | skip;conv=>whnf)
   try (first | (refine Af ⟨rfl,by rw [AW,Ab],by rw [Ac];exact hk'⟩ ?_;(conv=>whnf);rw [hG]) | skip;conv=>whnf)
   refine zZ b1 ?_;conv=>whnf
   try (refine tI ?_;conv=>whnf)
   try (refine tS ?_;conv=>whnf)
   (first | rw [hF] | skip)
   conv=>whnf
   all_goals refine⟨j+1,hj',by omega,zF (zK (zE (k:=1) rfl (es':=t.images.map D8) (by simp) ?_)) (s:= [0,1]) ⟨⟨rfl,rfl,rfl,rfl,rfl,rfl,AH (by omega),tv⟩,⟨⟨hro,_,by rw [Ir hS rfl];try rfl⟩,rfl,tv⟩,rfl,rfl,rfl,rfl,rfl⟩⟩
   all_goals
    intro i;rw [Ac];refine GN (f:=D8) (d:=(⟨0,0, []⟩:Img)) hj' ?_ i;exact⟨fun _ _ h=>h,fun _ _ h=>h,fun _ _ h=>h,tv⟩
  ·exact⟨k+1,hk',by omega,zF (zK (N1 hk' ht)) (s:= [0]) ⟨⟨rfl,rfl,AH (by omega),tv⟩,tA,rfl,rfl,rfl,rfl,rfl⟩⟩
 ·exact⟨.ow 0 l.length, .ow 0 l.length, [.row 112 4 (l.map CO)],fun _ _ h=>h,zR (s:= [0]) tA,rfl,rfl⟩
@[reducible] def stT (s:Stt) (tx lo:AV):List AV:= [iv s.a.gen,iv s.a.epoch,iv s.a.pos,iv s.a.seq,iv s.a.last, .v (.string s.a.label),Jk s.a.homes,tx, .v (.bool s.only),iv s.cursor,iv s.found,iv s.fixed,iv s.moved,lo]
theorem UX (s:Stt) (h:StSm s):ACalls Tryz.prog false 47 [.ag (EB s)] [] fun r H=>r = .ag (stT s (.ow 0 s.txns.length) (.ow 1 s.lost.length))/\H=[.row 112 4 (s.txns.map CO), .row 3 1 (s.lost.map Ph)]:=by
 have c1:=QM s.a (by have:=h.h.1;omega) h.h.2;have c2:=Wi s.txns (by have:=h.t.1;omega) (fun t ht=>⟨by have:=(h.t.2 t ht).1;omega,fun x hx=>by have:=(h.t.2 t ht).2 x hx;omega⟩);have c3:=Mo s.lost (by have:=h.o;omega);refine zT tys_ok Tryz.func47 rfl rfl (Ag rfl) ?_;conv=>whnf
 apply zW (0) tys_ok mixed (.o [0,1,3,4,6,7,8,2,10,5,9,11,12,13,14,15,16] .fin) (by kernel_rfl);conv=>whnf
 refine zZ c1 ?_;conv=>whnf
 (refine zV c2 rfl ?_;rintro _ _ ⟨rfl,rfl⟩)
 conv=>whnf
 (refine zV c3 rfl ?_;rintro _ _ ⟨rfl,rfl⟩)
 conv=>whnf
 try (refine tS ?_;conv=>whnf)
 try (refine tS ?_;conv=>whnf)
 try (refine tS ?_;conv=>whnf)
 all_goals exact⟨_, .ag (stT s (.ow 0 s.txns.length) (.ow 1 s.lost.length)), [.row 112 4 (s.txns.map CO), .row 3 1 (s.lost.map Ph)],fun _ _ h=>h,zR (s:= [2,3]) tA,rfl,rfl⟩
@[reducible] def Zf (g:Geo) (x tx lo:AV) (s:Stt):List AV:= [iv g.z,iv g.d,iv g.sp,iv g.sl,iv g.an,x,iv s.a.gen,iv s.a.epoch,iv s.a.pos,iv s.a.seq,iv s.a.last, .v (.string s.a.label),Jk s.a.homes,tx, .v (.bool s.only),iv s.cursor,iv s.found,iv s.fixed,iv s.moved,lo]
@[reducible] def FJ (g:Geo) (s:Stt) (d:Dk):List AB:= [.box 116 (Zf g (.bp 1 0) (.ow 4 s.txns.length) (iA s.lost) s), .box 185 (He (.ow 2 d.cells.length) (.ow 3 d.cache.length) d.reqs d.left), .row 128 3 (d.cells.map BE), .row 134 2 (d.cache.map EE), .row 112 4 (s.txns.map CO)]
@[reducible] def bwM (g:Geo) (s:Stt) (d:Dk):List AB:= [.box 23 (AT g), .box 43 (EN d), .box 39 (EB s), .box 185 (He (.ow 4 d.cells.length) (.ow 5 d.cache.length) d.reqs d.left), .row 128 3 (d.cells.map BE), .row 134 2 (d.cache.map EE), .row 112 4 (s.txns.map CO)]
theorem Pc (g:Geo) (d:Dk) (s:Stt) (h:DkOk d) (hst:LF g d s=true) (hs:StSm s):ACalls Tryz.prog false 42 [.ag (AT g), .ag (EN d), .ag (EB s)] [] fun r H=>r = .tp [.bp 0 0,iv 0]/\H=FJ g s d:=by
 have hN:=h.n;have hM:=h.m;have c1:=Oc g d s (by omega) (by omega) hs.big;rw [hst] at c1;have c2:=YG d (by omega) (by omega);have c3:=UX s hs;refine zT tys_ok Tryz.func42 rfl rfl (Ag rfl) ?_;conv=>whnf
 refine zZ c1 ?_;conv=>whnf
 apply zW (0) tys_ok mixed (.o [0,1,3,2,4,5,6,7,8] .fin) (by kernel_rfl);conv=>whnf
 (refine zV c2 rfl ?_;rintro _ _ ⟨rfl,rfl⟩)
 conv=>whnf
 (refine zV c3 rfl ?_;rintro _ _ ⟨rfl,rfl⟩)
 conv=>whnf
 have hx:ConvH (bwM g s d ++ [.row 3 1 (s.lost.map Ph), .box 116 (Zf g (.bp 3 0) (.ow 6 s.txns.length) (.ow 7 s.lost.length) s)]) (bwM g s d ++ [.dead, .box 116 (Zf g (.bp 3 0) (.ow 6 s.txns.length) (iA s.lost) s)]):=by
  refine zx (zy 8 7 (cs2:=Zf g (.bp 3 0) (.ow 6 s.txns.length) (.sl 1 (s.lost.map Ph).length fun i=>(s.lost.map Ph).getD i []) s) rfl rfl ?_) (zq 8 rfl ⟨ri,ri,ri,ri,ri,ri,ri,ri,ri,ri,ri,ri,ri,ri,ri,ri,ri,ri,ri,Bb (f:=Ph) (d:=0) s.lost (Ab _) rfl,tv⟩);simp only [A3,By,Ga (Ab _).symm];rfl
 all_goals exact⟨_, .tp [.bp 0 0,iv 0],FJ g s d,fun _ _ h=>h,zF (zK hx) (s:= [8,3,4,5,6]) tA,rfl,rfl⟩
theorem M6 (l:List Tx) (x:Tx) (z w:Int):∀ k,k<=l.length->E9 (l ++ [x]) z w k=E9 l z w k
 | 0,_=>rfl
 | k+1,hk=>by
  have e:(l ++ [x]).getD k tz=l.getD k tz:=by
   rw [Aa,Aa,A5 (by omega)]
  rw [E9,E9,e,M6 l x z w k (by omega)]
theorem Jo (l:List Tx) (x:Tx) (z w:Int):C2 (l ++ [x]) z w=match Cd x.images z w x.images.length with
  | some i=>some (i,x.seq)
  | none=>C2 l z w:=by
 unfold C2;rw [Ai,Ao,Be,A4,E9,M6 l x z w _ (Ah _),show (l ++ [x]).getD l.length tz=x by simp];cases Cd x.images z w x.images.length <;> rfl
theorem M7 (x:Tx) (r:List Tx) (z w:Int):∀ k,E9 (x::r) z w (k+1)=match E9 r z w k with
  | some p=>some p
  | none=>match Cd x.images z w x.images.length with
   | some i=>some (i,x.seq)
   | none=>none
 | 0=>rfl
 | k+1=>by
  rw [E9,M7 x r z w k,E9,show (x::r).getD (k+1) tz=r.getD k tz from rfl];cases Cd (r.getD k tz).images z w (r.getD k tz).images.length <;> rfl
theorem M8 (x:Tx) (r:List Tx) (z w:Int):C2 (x::r) z w=match C2 r z w with
  | some p=>some p
  | none=>match Cd x.images z w x.images.length with
   | some i=>some (i,x.seq)
   | none=>none:=M7 x r z w r.length
theorem Ri {g:Geo} (hg:Bp g=true) {z z' s s':Int} (hz:0<=z/\z<g.z) (hz':0<=z'/\z'<g.z) (hs:0<=s/\s<CG g) (hs':0<=s'/\s'<CG g) (h:Ck g z s=Ck g z' s'):z=z'/\s=s':=by
 obtain⟨g1,g2,g3,g4,g5⟩:=As.1 hg;have hp:=GG hg;unfold Ck at h;have e:z*CG g+s=z'*CG g+s':=by omega
 have key:z=z':=by
  rcases Int.lt_trichotomy z z' with q | q | q
  ·have:=BF (show z+1<=z' by omega) (show 0<=CG g by omega);rw [Int.add_mul,Int.one_mul] at this;omega
  ·exact q
  ·have:=BF (show z'+1<=z by omega) (show 0<=CG g by omega);rw [Int.add_mul,Int.one_mul] at this;omega
 subst key;exact⟨rfl,by omega⟩
theorem Wd {l:List Int} {n:Int} (h:OA l n=true) {i j:Nat} (hi:i<l.length) (hj:j<l.length) (e:l.getD i 0=l.getD j 0):i=j:=by
 have key:∀ i j:Nat,i<j->j<l.length->l.getD i 0≠l.getD j 0:=fun i j hij hj e=>by
  have h1:=Au.1 h j (by simpa using hj);simp only [Ad,Bl,List.any_eq_false] at h1;refine h1.2 (l.getD i 0) ?_ (by rw [e];simp);rw [Aa,Ae (by omega),B4];exact List.mem_take_iff_getElem.2 ⟨i,by omega,rfl⟩
 rcases Nat.lt_trichotomy i j with q | q | q
 ·exact absurd e (key i j q hj)
 ·exact q
 ·exact absurd e.symm (key j i q hi)
theorem Vc {g:Geo} (hg:Bp g=true) {a:An} (ha:Bu g a=true) {z z' w w':Int} (hz:0<=z/\z<g.z) (hz':0<=z'/\z'<g.z) (hw : -1<=w/\w<g.d) (hw' : -1<=w'/\w'<g.d) (h:BH g a z w=BH g a z' w'):z=z'/\w=w':=by
 obtain⟨g1,g2,g3,g4,g5⟩:=As.1 hg;obtain⟨s,e1,e2⟩:=Ey hg ha hz hw;obtain⟨s',e1',e2'⟩:=Ey hg ha hz' hw';have hz0:=(Ri hg hz hz' e2 e2' (by rw [<-e1,<-e1'];exact h)).1;subst hz0;obtain⟨hi,hh⟩:=NK ha hz;simp only [DZ,Ad,decide_eq_true_eq,AF] at hh;obtain⟨p1,p2,p3,p4⟩:=hh;have hat:∀ w,(-1<=w/\w<g.d)->0<=Em g w/\Em g w<=g.d:=fun w hw=>by unfold Em;split <;> omega
 unfold BH Ck at h;have:=Wd p4 (i:=(Em g w).toNat) (j:=(Em g w').toNat) (by have:=hat w hw;omega) (by have:=hat w' hw';omega) (by omega);refine⟨rfl,?_⟩;have h1:=hat w hw;have h2:=hat w' hw';have h3:Em g w=Em g w':=by omega
 unfold Em at h3;split at h3 <;> split at h3 <;> omega
theorem Ok {F:Int->List UInt8} (l m:List Wr) (a:Int):IA F (l ++ m) a=IA (IA F l) m a:=by
 unfold IA;rw [BM]
theorem Ld {F:Int->List UInt8} (w:Wr) {a:Int} (h0:0<=a):IA F [w] a=if w.addr=a then w.bytes else F a:=by
 show XF F w a=_;unfold XF;rw [if_pos h0]
theorem Nm {α:Type} {d:α} {l:List α} {k:Nat} (h:k<l.length):l.take (k+1)=l.take k ++ [l.getD k d]:=by
 rw [AR,Ae h,Aa,Ae h];try rfl
theorem Vp {g:Geo} (hg:Bp g=true) {a:An} (ha:Bu g a=true) {l:List Img} (hl:∀ x∈l,Bz g x=true) {seq:Int} {F:Int->List UInt8} {z w:Int} (hz:0<=z/\z<g.z) (hw : -1<=w/\w<g.d):∀ k,k<=l.length->IA F (DB g a seq (l.take k)) (BH g a z w)=match Cd l z w k with
  | some i=>Cf (BH g a z w) seq i.bytes
  | none=>F (BH g a z w)
 | 0,_=>rfl
 | k+1,hk=>by
  obtain⟨g1,g2,g3,g4,g5⟩:=As.1 hg;have ih:=Vp hg ha hl (seq:=seq) (F:=F) hz hw k (by omega);have hy:=hl _ (A6 (d:=iz) (show k<l.length by omega));obtain⟨hyz,hyb⟩:=E7 hy;rw [Nm (d:=iz) (show k<l.length by omega),Gv,Ok,Cd];obtain⟨y,ey⟩:∃ y,y=l.getD k iz:=⟨_,rfl⟩;rw [<-ey] at hy hyz hyb |-
  show IA (IA F (DB g a seq (l.take k))) (Fm g a seq y ++ []) (BH g a z w)=_;rw [AL];obtain⟨s,e1,e2⟩:=Ey hg ha hz hw;have hsl:=FE hg hz e2;by_cases h255:y.what=255
  ·rw [if_neg (by omega),Jv (show 0<=BH g a z w by omega) _ _ rfl fun v hv e=>?_]
   ·exact ih
   ·unfold Fm at hv;rw [if_pos h255] at hv;have t0:=FV hg hyz (k:=0) (by omega);have t1:=FV hg hyz (k:=1) (by omega);rw [e1] at e;rcases AQ.1 hv with rfl | hv
    ·simp only at e;omega
    ·rw [AC] at hv;subst hv;simp only at e;omega
  ·have hb:=hyb h255;unfold Fm;rw [if_neg h255,Ld _ (show 0<=BH g a z w by omega)];by_cases hyw:y.zone=z/\y.what=w
   ·rw [if_pos hyw,if_pos (by rw [hyw.1,hyw.2])];show Cf (BH g a y.zone y.what) seq y.bytes=Cf (BH g a z w) seq y.bytes;rw [hyw.1,hyw.2]
   ·rw [if_neg hyw,if_neg (fun e=>hyw (Vc hg ha hyz hz (by omega) hw e))];exact ih
theorem Vn {g:Geo} (hg:Bp g=true) {a:An} (ha:Bu g a=true) {l:List Img} (hl:∀ x∈l,Bz g x=true) {seq:Int} {F:Int->List UInt8} {z c:Int} (hz:0<=z/\z<g.z) (hc:0<=c/\c<=1):∀ k,k<=l.length->IA F (DB g a seq (l.take k)) (AI g z c)=match Cd l z 255 k with
  | some i=>Cf (AI g z c) seq i.bytes
  | none=>F (AI g z c)
 | 0,_=>rfl
 | k+1,hk=>by
  obtain⟨g1,g2,g3,g4,g5⟩:=As.1 hg;have ih:=Vn hg ha hl (seq:=seq) (F:=F) hz hc k (by omega);have hy:=hl _ (A6 (d:=iz) (show k<l.length by omega));obtain⟨hyz,hyb⟩:=E7 hy;rw [Nm (d:=iz) (show k<l.length by omega),Gv,Ok,Cd];obtain⟨y,ey⟩:∃ y,y=l.getD k iz:=⟨_,rfl⟩;rw [<-ey] at hy hyz hyb |-
  show IA (IA F (DB g a seq (l.take k))) (Fm g a seq y ++ []) (AI g z c)=_;rw [AL];have ht:=FV hg hz hc;by_cases h255:y.what=255
  ·have e2:Fm g a seq y=[⟨AI g y.zone 0,Cf (AI g y.zone 0) seq y.bytes⟩] ++ [⟨AI g y.zone 1,Cf (AI g y.zone 1) seq y.bytes⟩]:=by unfold Fm;rw [if_pos h255];try rfl
   rw [e2,Ok,Ld _ (show 0<=AI g z c by omega),Ld _ (show 0<=AI g z c by omega),ih];by_cases hyw:y.zone=z
   ·rw [hyw];have h01:¬AI g z 1=AI g z 0:=by unfold AI;omega
    rcases(show c=0\/c=1 by omega) with rfl | rfl
    ·rw [if_neg h01,if_pos rfl,if_pos ⟨rfl,h255⟩]
    ·rw [if_pos rfl,if_pos ⟨rfl,h255⟩]
   ·have n0:¬AI g y.zone 0=AI g z c:=by unfold AI;omega
    have n1:¬AI g y.zone 1=AI g z c:=by unfold AI;omega
    rw [if_neg n1,if_neg n0,if_neg (fun h:y.zone=z/\y.what=255=>hyw h.1)]
  ·have hb:=hyb h255;obtain⟨s,e1,e2⟩:=Ey hg ha hyz (show -1<=y.what/\y.what<g.d by omega);have hsl:=FE hg hyz e2;have n0:¬BH g a y.zone y.what=AI g z c:=by omega
   unfold Fm;rw [if_neg h255,Ld _ (show 0<=AI g z c by omega),if_neg n0,if_neg (fun h:y.zone=z/\y.what=255=>h255 h.2)];exact ih
theorem Ti {g:Geo} (hg:Bp g=true) {a:An} {F:Int->List UInt8} {q:Int} (hq:g.an<=q):IA F (Bf g a) q=F q:=by
 obtain⟨g1,g2,g3,g4,g5⟩:=As.1 hg;refine Jv (by omega) _ _ rfl fun w hw e=>?_
 obtain⟨j,hj,rfl⟩:=JQ hw;have e':(j:Int)=q:=e;omega
theorem Py {x:Gt} {a s:Int} {p:List UInt8} (he:x.err=0) (hx:x.bytes=Cf a s p) (h:Wo a s p):BR x a=some ⟨a,s,p⟩:=by
 obtain⟨h1,h2,h3,h4⟩:=GP h;unfold BR;rw [he,hx,h1,h2,h3,h4,if_pos tA]
theorem Oa {a s:Int} {p:List UInt8} {e:Ent} (h:Wo a s p) (h8:p.length=8) (h1:e.stamp=s) (h2:((C4 p:Nat):Int)=e.sum):DD ⟨0,Cf a s p⟩ a e=some p:=by
 unfold DD;rw [Py rfl rfl h];simp only;rw [if_pos ⟨h1.symm,h8,h2⟩]
theorem Nn {g:Geo} {a s:Int} {p:List UInt8} (h:Wo a s p):BG g ⟨0,Cf a s p⟩ a s=BT g p:=by
 unfold BG;rw [Py rfl rfl h];simp only [if_true]
def NN (v:Int->List UInt8):Nat->List UInt8
 | 0=>zero8
 | k+1=>Fb (NN v k) (v (k:Nat))
structure ZoneV (g:Geo) (a:An) (l:List Tx) (F:Int->List UInt8) (z:Int) (t:List Ent) (v:Int->List UInt8):Prop where
 tab:EP g (AJ a l) F z=some t
 len:∀ w, -1<=w->w<g.d->(v w).length=8
 ent:∀ w, -1<=w->w<g.d->(t.getD (Em g w).toNat ez).lost=false/\((C4 (v w):Nat):Int)=(t.getD (Em g w).toNat ez).sum
 val:∀ w, -1<=w->w<g.d->match C2 l z w with
  | some p=>p.1.bytes=v w/\(t.getD (Em g w).toNat ez).stamp=p.2
  | none=>DD ⟨0,F (BH g a z w)⟩ (BH g a z w) (t.getD (Em g w).toNat ez)=some (v w)
 par:v (-1)=NN v g.d.toNat
def VolV (g:Geo) (a:An) (l:List Tx) (F:Int->List UInt8) (V:Int->Int->List UInt8):Prop:=∀ z,0<=z->z<g.z->∃ t,ZoneV g a l F z t (V z)
theorem ZoneV.one {g:Geo} {a:An} {l:List Tx} {F:Int->List UInt8} {z:Int} {t:List Ent} {v:Int->List UInt8} (h:ZoneV g a l F z t v) {w:Int} (hw : -1<=w/\w<g.d):JE g (AJ a l) F t z w=v w:=by
 have:=h.val w hw.1 hw.2;unfold JE;show (match C2 l z w with | some p=>p.1.bytes | none=>_)=_;cases hf:C2 l z w with
 | some p=>rw [hf] at this;exact this.1
 | none=>
  rw [hf] at this;simp only at this |-
  show (DD ⟨0,F (BH g a z w)⟩ (BH g a z w) (t.getD (Em g w).toNat ez)).getD []=_;rw [this];try rfl
theorem YK {n:Int} {F:Int->List UInt8} {q:Int} (h0:0<=q) (h1:q<n):KP n F q=F q:=if_pos ⟨by omega,h1⟩
theorem fold_zero:∀ k,NN (fun _=>zero8) k=zero8
 | 0=>rfl
 | k+1=>by rw [NN,fold_zero k];rfl
theorem Ww {g:Geo} (hg:Bp g=true):VolV g (FY g).a (FY g).l (FY g).F fun _ _=>zero8:=by
 obtain⟨g1,g2,g3,g4,g5⟩:=As.1 hg;intro z h0 h1;obtain⟨k,rfl⟩:∃ k:Nat,z=(k:Nat):=⟨z.toNat,by omega⟩;have hcb:=FT hg;have hpb:=GG hg;have ht0:=XM hg;have hzh:((FY g).a.homes.getD k ⟨[],0,0⟩)=⟨(List.range (g.d+1).toNat).map Int.ofNat,g.d+1,0⟩:=by
  show (List.replicate g.z.toNat _).getD k _=_;rw [Aa,CE,if_pos (by omega)];try rfl
 have hF:∀ q,g.an+2*g.sl<=q->q<Ay g->(FY g).F q=GK g ⟨#[]⟩ q:=fun q hq hq2=>by
  show KP (Ay g) (RK g _) q=_;rw [YK (by omega) hq2];unfold RK;rw [if_neg (by omega)];exact if_neg (by omega)
 have hti:=FV hg (z:=(k:Nat)) (k:=0) ⟨h0,h1⟩ (by omega);have htab:EP g (AJ (FY g).a (FY g).l) (FY g).F (k:Nat)=some (Fd g):=by
  have hroot:Ch (FY g).a (FY g).l (k:Nat)=0:=by
   show ((FY g).a.homes.getD ((k:Nat):Int).toNat ⟨[],0,0⟩).root=0;rw [Ac,hzh]
  show (match BG g ⟨0,(FY g).F (AI g (k:Nat) 0)⟩ (AI g (k:Nat) 0) (Ch (FY g).a (FY g).l (k:Nat)) with | some t=>some t | none=>_)=_;have e:=Qk (g:=g) (s:=⟨#[]⟩) (z:=k) (k:=0) (by omega) h1 (by omega);rw [hroot,hF _ hti.1 hti.2.2,show AI g ((k:Nat):Int) (0:Int)=AI g (k:Nat) ((0:Nat):Int) from rfl,e,Nn ⟨by show 0<=AI g (k:Nat) 0;omega,by show AI g (k:Nat) 0<=65535;omega,by omega,by omega,by rw [Fc];unfold Fd;rw [B8];omega⟩,IZ ht0]
 have hent:∀ w, -1<=w->w<g.d->(Fd g).getD (Em g w).toNat ez=ent0:=fun w hw hw2=>by
  have hat:0<=Em g w/\Em g w<=g.d:=by unfold Em;split <;> omega
  unfold Fd;rw [Aa,CE,if_pos (by omega)];try rfl
 refine⟨Fd g,htab,fun _ _ _=>rfl,fun w hw hw2=>?_,fun w hw hw2=>?_,(fold_zero _).symm⟩
 ·rw [hent w hw hw2];exact tA
 ·show DD ⟨0,(FY g).F (BH g (FY g).a (k:Nat) w)⟩ (BH g (FY g).a (k:Nat) w) ((Fd g).getD (Em g w).toNat ez)=some zero8;have hat:0<=Em g w/\Em g w<=g.d:=by unfold Em;split <;> omega
  have hadr:BH g (FY g).a (k:Nat) w=Ck g (k:Nat) ((Em g w).toNat:Nat):=by
   unfold BH;rw [Ac,hzh];congr 1;rw [Bc (d:=0) (by simp;omega),Aa,Bq (by omega)];try rfl
  have hsl:=FE hg (z:=(k:Nat)) (s:=((Em g w).toNat:Nat)) ⟨h0,h1⟩ (by unfold CG;omega);rw [hadr,hF _ (by omega) hsl.2,NP (by omega) (by omega) (by omega),hent w hw hw2];exact Oa ⟨by omega,by omega,by omega,by omega,by decide⟩ rfl rfl rfl
theorem Tw {g:Geo} (hg:Bp g=true) {a:An} (ha:Bu g a=true) {x:Tx} {r:List Tx} (hx:∀ y∈x.images,Bz g y=true) (hseq:0<=x.seq/\x.seq<=4294967295) {F:Int->List UInt8} {V:Int->Int->List UInt8} (h:VolV g a (x::r) F V):VolV g (D_ g a x) r (Gj g a x F) V:=by
 obtain⟨g1,g2,g3,g4,g5⟩:=As.1 hg;have hcb:=FT hg;intro z h0 h1;obtain⟨t,ht⟩:=h z h0 h1;obtain⟨hi, -⟩:=NK ha ⟨h0,h1⟩;have hadr:∀ w,BH g (D_ g a x) z w=BH g a z w:=fun w=>by
  show BH g { Cj a x.seq x.images with gen:=_,pos:=_,seq:=_,last:=_ } z w=_;exact In (g:=g) (seq:=x.seq) (z:=z) (w:=w) x.images hi
 have hFb:∀ w, -1<=w->w<g.d->Gj g a x F (BH g a z w)=match Cd x.images z w x.images.length with
   | some i=>Cf (BH g a z w) x.seq i.bytes
   | none=>F (BH g a z w):=fun w hw hw2=>by
  obtain⟨s,e1,e2⟩:=Ey hg ha ⟨h0,h1⟩ ⟨hw,hw2⟩;have hsl:=FE hg ⟨h0,h1⟩ e2;unfold Gj;rw [Ti hg (by omega)];have:=Vp hg ha hx (seq:=x.seq) (F:=F) ⟨h0,h1⟩ ⟨hw,hw2⟩ _ (Ah _);rwa [Aw] at this
 have hFt:∀ c,(0<=c/\c<=1)->Gj g a x F (AI g z c)=match Cd x.images z 255 x.images.length with
   | some i=>Cf (AI g z c) x.seq i.bytes
   | none=>F (AI g z c):=fun c hc=>by
  have hti:=FV hg ⟨h0,h1⟩ hc;unfold Gj;rw [Ti hg (by omega)];have:=Vn hg ha hx (seq:=x.seq) (F:=F) ⟨h0,h1⟩ hc _ (Ah _);rwa [Aw] at this
 have hok:∀ {q:Int} {p:List UInt8},(0<=q/\q<Ay g)->p.length<=45->Wo q x.seq p:=fun hq hp=>⟨by omega,by omega,by omega,by omega,by omega⟩
 have htab:EP g (AJ (D_ g a x) r) (Gj g a x F) z=some t:=by
  have h2:=ht.tab;unfold EP at h2 |-
  have ec:=M8 x r z 255;show (match C2 r z 255 with | some p=>BT g p.1.bytes | none=>_)=_;replace h2:(match C2 (x::r) z 255 with | some p=>BT g p.1.bytes | none=>match BG g ⟨0,F (AI g z 0)⟩ (AI g z 0) (Ch a (x::r) z) with | some t=>some t | none=>BG g ⟨0,F (AI g z 1)⟩ (AI g z 1) (Ch a (x::r) z))=some t:=h2;cases hr:C2 r z 255 with
  | some p=>
   rw [hr] at ec;rw [ec] at h2;exact h2
  | none=>
   rw [hr] at ec;simp only at ec |-
   show (match BG g ⟨0,Gj g a x F (AI g z 0)⟩ (AI g z 0) (Ch (D_ g a x) r z) with | some t=>some t | none=>BG g ⟨0,Gj g a x F (AI g z 1)⟩ (AI g z 1) (Ch (D_ g a x) r z))=some t;have ero:Ch (D_ g a x) r z=((D_ g a x).homes.getD z.toNat ⟨[],0,0⟩).root:=by unfold Ch;rw [hr]
   cases hk:Cd x.images z 255 x.images.length with
   | some i=>
    rw [hk] at ec;rw [ec] at h2;simp only at h2;obtain⟨m1,m2,m3⟩:=I8 (Ah _) hk;have hroot:Ch (D_ g a x) r z=x.seq:=by
     rw [ero];exact K5 x.images hi ⟨i,m1,m3,by rw [m2]⟩
    have hti:=FV hg ⟨h0,h1⟩ (k:=0) (by omega);have hf:=hFt 0 (by omega);rw [hk] at hf;rw [hroot,hf];simp only;rw [Nn (hok (by omega) (E_ hg (hx i m1))),h2]
   | none=>
    rw [hk] at ec;rw [ec] at h2;have hf0:=hFt 0 (by omega);have hf1:=hFt 1 (by omega);rw [hk] at hf0 hf1;have er2:Ch a (x::r) z=(a.homes.getD z.toNat ⟨[],0,0⟩).root:=by unfold Ch;rw [ec]
    have hroot:Ch (D_ g a x) r z=Ch a (x::r) z:=by
     rw [ero,er2];have:=GC (seq:=x.seq) (z:=z.toNat) x.images hi (fun y hy y255 ey=>?_)
     ·show ((Cj a x.seq x.images).homes.getD z.toNat _).root=_;rw [this]
     ·have hyz:=(E7 (hx y hy)).1;have hn:∀ k,k<=x.images.length->Cd x.images z 255 k=none->∀ j,j<k->¬((x.images.getD j iz).zone=z/\(x.images.getD j iz).what=255):=by
       intro k;induction k with
       | zero=>intro _ _ j hj;omega
       | succ k ih=>
        intro hk2 hfk j hj;rw [Cd] at hfk;split at hfk
        ·cases hfk
        ·rename_i hc;rcases Nat.lt_succ_iff_lt_or_eq.1 hj with q | rfl
         ·exact ih (by omega) hfk j q
         ·exact hc
      obtain⟨j,hj,rfl⟩:=Do hy;refine hn _ (Ah _) hk j hj ?_;rw [Aa,Ae hj,B4];exact⟨by omega,y255⟩
    rw [hroot,hf0,hf1];exact h2
 refine⟨t,htab,ht.len,ht.ent,fun w hw hw2=>?_,ht.par⟩;have h2:=ht.val w hw hw2;rw [M8] at h2;rw [hadr,hFb w hw hw2];cases hr:C2 r z w with
 | some p=>
  rw [hr] at h2;exact h2
 | none=>
  rw [hr] at h2;simp only at h2 |-
  cases hk:Cd x.images z w x.images.length with
  | some i=>
   rw [hk] at h2;simp only at h2 |-
   obtain⟨m1,m2,m3⟩:=I8 (Ah _) hk;obtain⟨s,e1,e2⟩:=Ey hg ha ⟨h0,h1⟩ ⟨hw,hw2⟩;have hsl:=FE hg ⟨h0,h1⟩ e2;rw [<-h2.1];exact Oa (hok (by omega) (E_ hg (hx i m1))) (by rw [h2.1];exact ht.len w hw hw2) h2.2 (by rw [h2.1];exact(ht.ent w hw hw2).2)
  | none=>
   rw [hk] at h2;exact h2
theorem M9 (l m:List Img) (z w:Int):∀ k,k<=l.length->Cd (l ++ m) z w k=Cd l z w k
 | 0,_=>rfl
 | k+1,hk=>by
  have e:(l ++ m).getD k iz=l.getD k iz:=by
   rw [Aa,Aa,A5 (by omega)]
  rw [Cd,Cd,e,M9 l m z w k (by omega)]
theorem NT (l m:List Img) (z w:Int):∀ k,k<=m.length->Cd (l ++ m) z w (l.length+k)=match Cd m z w k with
  | some i=>some i
  | none=>Cd l z w l.length
 | 0,_=>M9 l m z w _ (Ah _)
 | k+1,hk=>by
  have e:(l ++ m).getD (l.length+k) iz=m.getD k iz:=by
   rw [Aa,Aa,A2 (by omega),Nat.add_sub_cancel_left]
  rw [<-Dt,Cd,Cd,e];split
  ·rfl
  ·exact NT l m z w k (by omega)
theorem Hz {l:List Img} {z w:Int} (h:∀ x∈l,x.zone≠z):∀ k,k<=l.length->Cd l z w k=none
 | 0,_=>rfl
 | k+1,hk=>by
  rw [Cd,if_neg (fun q=>h _ (A6 (by omega)) q.1),Hz h k (by omega)]
def RQ (z:Int) (ats:List Int) (bs:List (List UInt8)) (w:Int):Option Img:=(CR ats bs w.toNat ats.length).map fun b=>⟨z,w,b⟩
theorem NS (z:Int) (ats:List Int) (bs:List (List UInt8)) (m:List Img) {w:Int} (hw:0<=w):∀ k,k<=ats.length->Cd (((List.range ats.length).map fun i=>(⟨z,ats.getD i 0,bs.getD i []⟩:Img)) ++ m) z w k=(CR ats bs w.toNat k).map fun b=>⟨z,w,b⟩
 | 0,_=>rfl
 | k+1,hk=>by
  have e:(((List.range ats.length).map fun i=>(⟨z,ats.getD i 0,bs.getD i []⟩:Img)) ++ m).getD k iz=⟨z,ats.getD k 0,bs.getD k []⟩:=by
   rw [Aa,A5 (by simp;omega),AS,Bq (by omega)];try rfl
  rw [Cd,e,CR,NS z ats bs m hw k (by omega)];by_cases h:ats.getD k 0=w
  ·rw [if_pos ⟨rfl,h⟩,if_pos (by rw [h];omega)];simp only [Dh,h]
  ·rw [if_neg (fun q=>h q.2),if_neg (by omega)]
theorem H0 (z:Int) (t:List Ent) (par:List UInt8) (ats:List Int) (bs:List (List UInt8)) (ha:∀ a∈ats,0<=a/\a<255) (w:Int) (hw:w=255\/(-1<=w/\w<255)):Cd (BU z t par ats bs) z w (BU z t par ats bs).length=if w=255 then some ⟨z,255,CW t⟩ else if w = -1 then some ⟨z, -1,par⟩ else RQ z ats bs w:=by
 have hl:=Es z t par ats bs;have e1:(BU z t par ats bs).getD (ats.length+1) iz=⟨z,255,CW t⟩:=by
  unfold BU;rw [Aa,A2 (by simp),show ats.length+1 - ((List.range ats.length).map fun i=>(⟨z,ats.getD i 0,bs.getD i []⟩:Img)).length=1 by simp];try rfl
 have e0:(BU z t par ats bs).getD ats.length iz=⟨z, -1,par⟩:=by
  unfold BU;rw [Aa,A2 (by simp),show ats.length - ((List.range ats.length).map fun i=>(⟨z,ats.getD i 0,bs.getD i []⟩:Img)).length=0 by simp];try rfl
 rw [hl,Cd,Cd,e1,e0];by_cases h1:w=255
 ·rw [if_pos ⟨rfl,h1.symm⟩,if_pos h1]
 ·rw [if_neg (fun q=>h1 q.2.symm),if_neg h1];by_cases h2:w = -1
  ·rw [if_pos ⟨rfl,h2.symm⟩,if_pos h2]
  ·rw [if_neg (fun q=>h2 q.2.symm),if_neg h2];exact NS z ats bs _ (by omega) _ (Ah _)
def Sw (V:Int->Int->List UInt8) (x:Tx) (z w:Int):List UInt8:=match Cd x.images z w x.images.length with
 | some i=>i.bytes
 | none=>V z w
def aj (g:Geo) (a:An) (l:List Tx) (F:Int->List UInt8) (x:Tx) (z:Int):Prop:=
 (∀ w,Cd x.images z w x.images.length=none)
 \/∃ t ats bs,EP g (AJ a l) F z=some t/\ats.length=bs.length/\(∀ b∈bs,b.length=8)/\∀ w,w=255\/(-1<=w/\w<g.d)->Cd x.images z w x.images.length=if w=255 then some ⟨z,255,CW (Br g t (Dg g (AJ a l) F t z) ats bs x.seq)⟩ else if w = -1 then some ⟨z, -1,DA g t (Dg g (AJ a l) F t z) ats bs g.d.toNat⟩ else RQ z ats bs w
theorem ZP {g:Geo} (hg:Bp g=true) {s:Stt} {F:Int->List UInt8} {t:List Ent} {z:Int} {i:Nat} (hi:(i:Int)<g.d):(Dg g s F t z).getD i []=JE g s F t z (i:Nat):=by
 unfold Dg Kr;rw [Aa,A5 (by simp;omega),AS,Bq (by omega)];try rfl
theorem QQ {g:Geo} (hg:Bp g=true) {a:An} {l:List Tx} {x:Tx} (hseq:0<=x.seq/\x.seq<=4294967295) (hl:∀ t∈l,∀ y∈t.images,Bz g y=true) {F:Int->List UInt8} {V:Int->Int->List UInt8} (h:VolV g a l F V) (hx:∀ z,0<=z->z<g.z->aj g a l F x z):VolV g a (l ++ [x]) F (Sw V x):=by
 obtain⟨g1,g2,g3,g4,g5⟩:=As.1 hg;intro z h0 h1;obtain⟨t,ht⟩:=h z h0 h1;rcases hx z h0 h1 with hn | ⟨t',ats,bs,e1,e2,e3,e4⟩
 ·have hv:∀ w,Sw V x z w=V z w:=fun w=>by unfold Sw;rw [hn w]
  have hf:∀ w,C2 (l ++ [x]) z w=C2 l z w:=fun w=>by rw [Jo,hn w]
  have hvz:Sw V x z=V z:=funext hv;refine⟨t,?_,fun w q1 q2=>by rw [hv];exact ht.len w q1 q2,fun w q1 q2=>by rw [hv];exact ht.ent w q1 q2,fun w q1 q2=>?_,by rw [hvz];exact ht.par⟩
  ·have:=ht.tab;unfold EP Ch at this |-
   show (match C2 (l ++ [x]) z 255 with | some p=>_ | none=>match BG g _ _ (match C2 (l ++ [x]) z 255 with | some p=>p.2 | none=>_) with | some t=>some t | none=>BG g _ _ (match C2 (l ++ [x]) z 255 with | some p=>p.2 | none=>_))=_;rw [hf 255];exact this
  ·rw [hf w,hv];exact ht.val w q1 q2
 ·have et:t'=t:=by
   have:=ht.tab;rw [e1] at this;exact Option.some.inj this
  subst et;have htok:=J1 ht.tab;have htl:=G6 htok;have hhad:∀ i:Nat,(i:Int)<g.d->(Dg g (AJ a l) F t' z).getD i []=V z (i:Nat):=fun i hi=>by
   rw [ZP hg hi];exact ht.one ⟨by omega,hi⟩
  have hatN:∀ i:Nat,(i:Int)<g.d->(Em g (i:Nat)).toNat=i:=fun i hi=>by unfold Em;rw [if_neg (by omega)];omega
  have hkn:∀ i:Nat,(i:Int)<g.d->BL g t' (Dg g (AJ a l) F t' z) i=V z (i:Nat):=fun i hi=>by
   have:=(ht.ent (i:Nat) (by omega) hi).1;rw [hatN i hi] at this;unfold BL;rw [this,if_neg (by decide),hhad i hi,if_pos (by rw [ht.len (i:Nat) (by omega) hi];decide)]
  have hup:∀ i:Nat,(i:Int)<g.d->Sw V x z (i:Nat)=FO g t' (Dg g (AJ a l) F t' z) ats bs i:=fun i hi=>by
   have e:=e4 (i:Nat) (.inr ⟨by omega,hi⟩);rw [if_neg (by omega),if_neg (by omega)] at e;unfold Sw FO;rw [e,RQ,Ac];cases CR ats bs i ats.length with
   | some b=>rfl
   | none=>exact(hkn i hi).symm
  have hbn:∀ i:Nat,(i:Int)<g.d->(FO g t' (Dg g (AJ a l) F t' z) ats bs i).length=8:=fun i hi=>by
   unfold FO;cases hp:CR ats bs i ats.length with
   | some b=>exact Kf e3 (by omega) _ b (Ah _) hp
   | none=>
    show (BL g t' _ i).length=8;rw [hkn i hi];exact ht.len (i:Nat) (by omega) hi
  have hpar:∀ k:Nat,(k:Int)<=g.d->DA g t' (Dg g (AJ a l) F t' z) ats bs k=NN (Sw V x z) k:=by
   intro k;induction k with
   | zero=>intro _;rfl
   | succ k ih=>
    intro hk;rw [DA,if_neg (by rw [hbn k (by omega)];decide),ih (by omega),NN,hup k (by omega)]
  have hpv:Sw V x z (-1)=DA g t' (Dg g (AJ a l) F t' z) ats bs g.d.toNat:=by
   have e:=e4 (-1) (.inr ⟨by omega,by omega⟩);rw [if_neg (by omega),if_pos rfl] at e;unfold Sw;rw [e]
  have hhb:∀ b∈Dg g (AJ a l) F t' z,b.length=0\/b.length=8:=fun b hb=>by
   unfold Dg Kr at hb;rcases A0.1 hb with q | q
   ·obtain⟨i,hi,rfl⟩:=AK.1 q;exact GT (s:=AJ a l) hl (by have:=AP.1 hi;omega)
   ·rw [AC] at q;subst q;exact GT (s:=AJ a l) (w:= -1) hl (by decide)
  have hpl:(DA g t' (Dg g (AJ a l) F t' z) ats bs g.d.toNat).length=8:=EI hhb e3 (by omega) _;have hwt:=EU (g:=g) (t:=t') (had:=Dg g (AJ a l) F t' z) (ats:=ats) (bs:=bs) hg htok (stamp:=x.seq) hseq;have htab:EP g (AJ a (l ++ [x])) F z=some (Br g t' (Dg g (AJ a l) F t' z) ats bs x.seq):=by
   have e:=e4 255 (.inl rfl);rw [if_pos rfl] at e;unfold EP;show (match C2 (l ++ [x]) z 255 with | some p=>BT g p.1.bytes | none=>_)=_;rw [Jo,e];exact IZ hwt
  have hent:∀ i:Nat,(i:Int)<g.d->(Br g t' (Dg g (AJ a l) F t' z) ats bs x.seq).getD i ez=match CR ats bs i ats.length with
    | some b=>⟨x.seq,(C4 b:Nat),false⟩
    | none=>t'.getD i ez:=fun i hi=>by
   unfold Br;rw [Aa,A5 (by simp;omega),AS,Bq (by omega)];show IF g t' _ ats bs x.seq i=_;unfold IF;rw [if_neg (by rw [hbn i hi];decide)];cases CR ats bs i ats.length <;> rfl
  have hentp:(Br g t' (Dg g (AJ a l) F t' z) ats bs x.seq).getD (Em g (-1)).toNat ez=⟨x.seq,(C4 (Sw V x z (-1)):Nat),false⟩:=by
   rw [show (Em g (-1)).toNat=g.d.toNat by unfold Em;rw [if_pos rfl]];unfold Br;rw [Aa,A2 (by simp),show g.d.toNat - ((List.range g.d.toNat).map (IF g t' (Dg g (AJ a l) F t' z) ats bs x.seq)).length=0 by simp,hpv];try rfl
  refine⟨_,htab,fun w q1 q2=>?_,fun w q1 q2=>?_,fun w q1 q2=>?_,?_⟩
  ·by_cases hw:w = -1
   ·rw [hw,hpv];exact hpl
   ·obtain⟨i,rfl⟩:∃ i:Nat,w=(i:Nat):=⟨w.toNat,by omega⟩;rw [hup i q2];exact hbn i q2
  ·by_cases hw:w = -1
   ·rw [hw,hentp];exact tA
   ·obtain⟨i,rfl⟩:∃ i:Nat,w=(i:Nat):=⟨w.toNat,by omega⟩;rw [hatN i q2,hent i q2,hup i q2];unfold FO;cases hp:CR ats bs i ats.length with
    | some b=>exact tA
    | none=>
     have:=ht.ent (i:Nat) q1 q2;rw [hatN i q2] at this;simp only;rw [hkn i q2];exact this
  ·rw [Jo];have e:=e4 w (.inr ⟨q1,q2⟩);rw [if_neg (by omega)] at e;by_cases hw:w = -1
   ·subst hw;rw [if_pos rfl] at e;rw [e,hentp,hpv];exact tA
   ·obtain⟨i,rfl⟩:∃ i:Nat,w=(i:Nat):=⟨w.toNat,by omega⟩;rw [if_neg hw,RQ,Ac] at e;rw [e,hatN i q2,hent i q2,hup i q2];unfold FO;cases hp:CR ats bs i ats.length with
    | some b=>exact tA
    | none=>
     have:=ht.val (i:Nat) q1 q2;rw [hatN i q2] at this;simp only [Option.map_none];rw [hkn i q2];exact this
  ·rw [hpv];exact hpar _ (by omega)
theorem ZY {g:Geo} (hg:Bp g=true) {a:An} {l:List Tx} {F:Int->List UInt8} {lba:Int} {b:List UInt8} (hlba:0<=lba/\lba<g.z*g.d) (hb:b.length=8) (ht:(EP g (AJ a l) F (lba.tdiv g.d)).isSome=true):∀ z,0<=z->z<g.z->aj g a l F (H7 g a l F lba b) z:=by
 obtain⟨g1,g2,g3,g4,g5⟩:=As.1 hg;intro z h0 h1;obtain⟨t,ht⟩:=BD.1 ht;have hm:0<=lba.tmod g.d/\lba.tmod g.d<g.d:=⟨Bk _ hlba.1,AY _ (by omega)⟩;have ei:(H7 g a l F lba b).images=BU (lba.tdiv g.d) (Br g t (Dg g (AJ a l) F t (lba.tdiv g.d)) [lba.tmod g.d] [b] (a.seq+(l.length:Int))) (DA g t (Dg g (AJ a l) F t (lba.tdiv g.d)) [lba.tmod g.d] [b] g.d.toNat) [lba.tmod g.d] [b]:=by
  show IP g (AJ a l) F _ lba b=_;unfold IP;rw [ht]
 by_cases hz:z=lba.tdiv g.d
 ·refine .inr ⟨t, [lba.tmod g.d], [b],by rw [hz];exact ht,rfl,fun x hx=>by rw [AC] at hx;rw [hx];exact hb,fun w hw=>?_⟩;rw [ei,hz];exact H0 _ _ _ _ _ (fun x hx=>by rw [AC] at hx;omega) w (by omega)
 ·refine .inl fun w=>?_
  rw [ei];refine Hz (fun y hy=>?_) _ (Ah _);have:y.zone=lba.tdiv g.d:=by
   unfold BU at hy;rcases A0.1 hy with q | q
   ·obtain⟨i, -,rfl⟩:=AK.1 q;rfl
   ·simp only [AQ,Du,or_false] at q;rcases q with rfl | rfl <;> rfl
  rw [this];exact fun e=>hz e.symm
theorem ZX {g:Geo} (hg:Bp g=true) {a:An} {l:List Tx} {F:Int->List UInt8} {lba:Int} {b:List UInt8} (hlba:0<=lba/\lba<g.z*g.d) (ht:(EP g (AJ a l) F (lba.tdiv g.d)).isSome=true) (V:Int->Int->List UInt8) {z w:Int} (hw:0<=w/\w<g.d):Sw V (H7 g a l F lba b) z w=if z=lba.tdiv g.d/\w=lba.tmod g.d then b else V z w:=by
 obtain⟨g1,g2,g3,g4,g5⟩:=As.1 hg;obtain⟨t,ht⟩:=BD.1 ht;have hm:0<=lba.tmod g.d/\lba.tmod g.d<g.d:=⟨Bk _ hlba.1,AY _ (by omega)⟩;have ei:(H7 g a l F lba b).images=BU (lba.tdiv g.d) (Br g t (Dg g (AJ a l) F t (lba.tdiv g.d)) [lba.tmod g.d] [b] (a.seq+(l.length:Int))) (DA g t (Dg g (AJ a l) F t (lba.tdiv g.d)) [lba.tmod g.d] [b] g.d.toNat) [lba.tmod g.d] [b]:=by
  show IP g (AJ a l) F _ lba b=_;unfold IP;rw [ht]
 unfold Sw;rw [ei];by_cases hz:z=lba.tdiv g.d
 ·rw [hz,H0 _ _ _ _ _ (fun x hx=>by rw [AC] at hx;omega) w (by omega),if_neg (by omega),if_neg (by omega)];have ep:RQ (lba.tdiv g.d) [lba.tmod g.d] [b] w=if lba.tmod g.d=((w.toNat:Nat):Int) then some ⟨lba.tdiv g.d,w,b⟩ else none:=by
   show ((if lba.tmod g.d=((w.toNat:Nat):Int) then some b else none:Option (List UInt8)).map fun b=>(⟨lba.tdiv g.d,w,b⟩:Img))=_;split <;> rfl
  rw [ep];by_cases e:lba.tmod g.d=((w.toNat:Nat):Int)
  ·rw [if_pos e,if_pos ⟨rfl,by omega⟩]
  ·rw [if_neg e,if_neg (fun q:_/\_=>e (by omega))]
 ·rw [if_neg (fun q=>hz q.1),Hz (fun y hy=>?_) _ (Ah _)];have:y.zone=lba.tdiv g.d:=by
   unfold BU at hy;rcases A0.1 hy with q | q
   ·obtain⟨i, -,rfl⟩:=AK.1 q;rfl
   ·simp only [AQ,Du,or_false] at q;rcases q with rfl | rfl <;> rfl
  rw [this];exact fun e=>hz e.symm
theorem SC {g:Geo} {b:List UInt8} {t:List Ent} (h:BT g b=some t):t.length=(g.d+1).toNat:=by
 unfold BT at h;split at h
 ·rw [<-Option.some.inj h,entsOf_len]
 ·cases h
theorem Pt {g:Geo} {x:Gt} {q r:Int} {t:List Ent} (h:BG g x q r=some t):t.length=(g.d+1).toNat:=by
 rw [LA] at h;split at h
 ·exact SC h
 ·cases h
def WG (g:Geo) (i:Nat):Int:=if (i:Int)=g.d then -1 else (i:Nat)
theorem Y9 (g:Geo) (s:Stt) (d:Dk) (a:Int) (h:DkOk d) (ha:0<=a/\a<d.cells.length) :
  ACalls Tryz.prog false 138 [.bp 0 0,iv a] (FJ g s d) fun r H=>r = .ag (Dz ⟨(d.read a).2.2,(d.read a).2.1⟩)/\H=FJ g s (d.read a).1:=by
 have hr:=W_ Cp d a h.l ha h.m (fun c hc=>by have:=(h.c c hc).2.1;omega) (fun w hw=>by have:=(h.w w hw).2;omega);refine zT tys_ok Tryz.func138 rfl rfl (Ag rfl) ?_;conv=>whnf
 refine zd [1,2,3] hr ?_;rintro _ _ ⟨rfl,rfl⟩;exact⟨_, .ag (Dz ⟨(d.read a).2.2,(d.read a).2.1⟩),FJ g s (d.read a).1,fun _ _ h=>h,zR (s:= [0,1,2,3,4]) tA,rfl,rfl⟩
theorem QE (g:Geo) (s:Stt) (d:Dk) (a:Int) (b:List UInt8) (h:DkOk d) (ha:0<=a/\a<d.cells.length) (hb:b.length<=200) :
  ACalls Tryz.prog false 182 [.bp 0 0,iv a,bA b] (FJ g s d) fun r H=>r = .tp [.v (.bool (decide ((d.write a b).2=0))),iv (if (d.write a b).2=8 then 8 else 0)]/\H=FJ g s (d.write a b).1:=by
 have hr:=U9 Cp d a b h.l ha h.m (by omega);have he:(d.write a b).2=8\/(d.write a b).2=7\/(d.write a b).2=0:=by
  unfold Dk.write;split
  ·exact .inl rfl
  ·split
   ·exact .inr (.inl rfl)
   ·exact .inr (.inr rfl)
 generalize d.write a b=q at hr he |-
 obtain⟨d',e⟩:=q;simp only at hr he |-
 refine zT tys_ok Tryz.func182 rfl rfl (Ag rfl) ?_;conv=>whnf
 refine zd [1,2,3] hr ?_;rintro _ _ ⟨rfl,rfl⟩;rcases he with rfl | rfl | rfl
 all_goals
  exact⟨_,_,FJ g s d',fun _ _ h=>h,zR (s:= [0,1,2,3,4]) tA,rfl,rfl⟩
structure Gr where
 f:Int->Gt
 cells:List Cel
 cache:List Wr
instance:CoeFun Gr fun _=>Int->Gt:=⟨Gr.f⟩
structure Gs (n:Int) (d:Dk) (G:Gr):Prop where
 ok:DkOk d
 left:d.left = -1
 len:(d.cells.length:Int)=n
 got:∀ a:Int,0<=a->a<n->d.got a=((G a).bytes,(G a).err)
 cells:d.cells=G.cells
 cache:d.cache=G.cache
theorem Gs.req {n:Int} {d:Dk} {G:Gr} (h:Gs n d G):Gs n d.req G:=⟨h.ok.req,by unfold Dk.req;rw [h.left];try rfl,h.len,h.got,h.cells,h.cache⟩
theorem Gs.read {n:Int} {d:Dk} {G:Gr} (h:Gs n d G) {a:Int} (h0:0<=a) (h1:a<n):d.read a=(d.req,(G a).bytes,(G a).err):=by
 unfold Dk.read;rw [if_neg (by rw [h.left];decide),h.got a h0 h1]
def CP (d:Dk):Gr:=⟨fun a=>⟨(d.got a).2,(d.got a).1⟩,d.cells,d.cache⟩
theorem Gs.of {n:Int} {d:Dk} (h:DkOk d) (hl:d.left = -1) (hn:(d.cells.length:Int)=n):Gs n d (CP d):=⟨h,hl,hn,fun _ _ _=>rfl,rfl,rfl⟩
def GF (g:Geo) (s:Stt) (G:Gr) (z:Int):Option (List Ent):=match C2 s.txns z 255 with
 | some p=>BT g p.1.bytes
 | none=>match BG g (G (AI g z 0)) (AI g z 0) (Ch s.a s.txns z) with
  | some t=>some t
  | none=>BG g (G (AI g z 1)) (AI g z 1) (Ch s.a s.txns z)
def F3 (g:Geo) (s:Stt) (G:Gr) (t:List Ent) (z w:Int):List UInt8:=match C2 s.txns z w with
 | some p=>p.1.bytes
 | none=>(DD (G (BH g s.a z w)) (BH g s.a z w) (t.getD (Em g w).toNat ez)).getD []
def Fo (g:Geo) (s:Stt) (G:Gr) (t:List Ent) (z:Int):List (List UInt8):=(List.range (g.d.toNat+1)).map fun i=>F3 g s G t z (WG g i)
theorem Zr {g:Geo} (hg:Bp g=true) {s:Stt} {G:Gr} {z:Int} {t:List Ent} (h:GF g s G z=some t):(t.length:Int)=g.d+1:=by
 have g5:=As.1 hg;have:t.length=(g.d+1).toNat:=by
  unfold GF at h;split at h
  ·exact SC h
  ·split at h
   ·rename_i q;rw [<-Option.some.inj h];exact Pt q
   ·exact Pt h
 omega
theorem SY (g:Geo) (s:Stt) (d:Dk) (G:Gr) (a:Int) (h:Gs (Ay g) d G) (ha:0<=a/\a<Ay g) :
  ACalls Tryz.prog false 138 [.bp 0 0,iv a] (FJ g s d) fun r H=>r = .ag (Dz (G a))/\∃ d',Gs (Ay g) d' G/\H=FJ g s d':=by
 have hr:=Y9 g s d a h.ok (by rw [h.len];exact ha);rw [h.read ha.1 ha.2] at hr;exact hr.mono fun r H hh=>⟨hh.1,d.req,h.req,hh.2⟩
theorem Qy (g:Geo) (s:Stt) (d:Dk) (G:Gr) (z:Int) (hg:Bp g=true) (hl:LogB s.txns) (ha:Bu g s.a=true) (h:Gs (Ay g) d G) (hF:∀ a,(G a).bytes.length<=100000) (h8:∀ a,(G a).err≠8) (hz:0<=z/\z<g.z) (hB:∀ p,C2 s.txns z 255=some p->p.1.bytes.length<=100000/\(BT g p.1.bytes).isSome=true) :
    ACalls Tryz.prog false 66 [.bp 0 0,iv z] (FJ g s d) fun r H=>r=(match GF g s G z with | some t=>AV.tp [.ag [Bm t],iv 0] | none=> .tp [.ag [Bm []],iv 13])/\∃ d',Gs (Ay g) d' G/\H=FJ g s d':=by
  have hf:=I1 s.txns z 255 hl.n hl.i;obtain⟨O,hO⟩:∃ O,O=GF g s G z:=⟨_,rfl⟩;rw [<-hO];unfold GF at hO;cases hL:C2 s.txns z 255 with
  | some p=>
    obtain⟨x,q⟩:=p;rw [hL] at hf hO;simp only at hf hO;obtain⟨hx,ht⟩:=hB _ hL;obtain⟨t,ht⟩:=BD.1 ht;have ht:BT g x.bytes=some t:=ht;rw [ht] at hO;subst hO;have hr:=L8 g x.bytes hx;rw [hg,if_pos rfl,ht] at hr;refine zT tys_ok Tryz.func66 rfl rfl (Ag rfl) ?_;conv=>whnf
    refine zd [4] hf ?_;rintro _ _ ⟨rfl,rfl⟩;conv=>whnf
    refine zZ hr ?_;exact⟨.tp [.ag [Bm t],iv 0], .tp [.ag [Bm t],iv 0],FJ g s d,fun _ _ h=>h,zR (s:= [0,1,2,3,4]) tA,rfl,d,h,rfl⟩
  | none=>
    rw [hL] at hf hO;simp only at hf hO;have hR:=Wl s.a s.txns z (by have:=(NK ha hz).1;omega) hl.n (fun t ht=>(hl.i t ht).1);refine zT tys_ok Tryz.func66 rfl rfl (Ag rfl) ?_;conv=>whnf
    refine zd [4] hf ?_;rintro _ _ ⟨rfl,rfl⟩;conv=>whnf
    apply zP tys_ok mixed (.o [0,1,2,3,4,5,6,7,8,9,10,11,12,13,14,15,16] .fin) [11,12,41,42,43,44,45,46,47,48,49,50,51,52,53,54,55] (by kernel_rfl)
    · conv=>whnf
      (refine zp (args':= [.ag (ED s.a), .sl 4 s.txns.length fun i=>(s.txns.map CO).getD i [],iv z]) (hR.subA ⟨fun _ _ h=>h,Bb (f:=CO) s.txns rfl rfl,fun _ _ h=>h,tv⟩) ⟨(Ab _).symm,rfl⟩ ?_;rintro _ rfl;refine⟨rfl,?_⟩)
      exact tA
    conv=>whnf
    have htab:∀ k:Nat,k<2->g.an+2*g.sl<=AI g z (k:Nat)/\AI g z (k:Nat)<Ay g:=fun k hk=>by have:=FV hg hz (k:=(k:Nat)) (by omega);omega
    refine zU (Nat × Dk) (fun x=>([(0, .bp 0 0),(1,iv z),(4, .bp 5 0),(11,iv (Ch s.a s.txns z)),(56,iv (x.1:Nat))],FJ g s x.2 ++ ([.box 70 [.v (.slice none 0 0)]]:List AB))) (fun x=>x.1<=2/\Gs (Ay g) x.2 G/\∀ j:Nat,j<x.1->BG g (G (AI g z (j:Nat))) (AI g z (j:Nat)) (Ch s.a s.txns z)=none) (fun x=>2 - x.1) (0,d) ⟨Aj _,h,fun j hj=>absurd hj (Ap j)⟩
      (zR (s:= [0,1,2,3,4,5]) tA) ?_
    rintro⟨k,d1⟩ ⟨hk,hd1,hno⟩;simp only at hk hd1 hno;conv=>whnf
    refine A8 (fun h6=>?_) (fun h6=>?_) <;> (repeat rw [Ac] at h6) <;> conv=>whnf
    · have hk2:k<2:=by omega
      have hta:=Uw g z (k:Nat) hg hz (by omega);obtain⟨q1,q2⟩:=htab k hk2;have hz2:=As.1 hg;have hrd:=SY g s d1 G (AI g z (k:Nat)) hd1 (by omega);have hto:=U4 g (G (AI g z (k:Nat))) (AI g z (k:Nat)) (Ch s.a s.txns z) hg (hF _);repeat' (refine z_ ?_;conv=>whnf)
      refine zZ hta ?_;conv=>whnf
      repeat' (refine z_ ?_;conv=>whnf)
      refine zd [0,1,2,3,4] hrd ?_;rintro _ _ ⟨rfl,d2,hd2,rfl⟩;conv=>whnf
      rw [show ((G (AI g z (k:Nat))).err == 8)=false from beq_eq_false_iff_ne.2 (h8 _)];conv=>whnf
      repeat' (refine z_ ?_;conv=>whnf)
      have hGk:∀ u,BG g (G (AI g z (k:Nat))) (AI g z (k:Nat)) (Ch s.a s.txns z)=some u->O=some u:=fun u hu=>by
        match k,hk2 with
        | 0,_=>
          have hu:BG g (G (AI g z 0)) (AI g z 0) (Ch s.a s.txns z)=some u:=hu;rw [hO,hu]
        | 1,_=>
          have h0:BG g (G (AI g z 0)) (AI g z 0) (Ch s.a s.txns z)=none:=hno 0 (by decide);have hu:BG g (G (AI g z 1)) (AI g z 1) (Ch s.a s.txns z)=some u:=hu;rw [hO,h0];exact hu
      apply zW (0) tys_ok mixed (.o [0,1,2,3,4,5,6] (.two 7 (.o [8,9,10,11,12,13] .fin) 11 (.o [7,8,9,10,12,13] .fin))) (by kernel_rfl);refine Af ?_ ?_;conv=>whnf
      refine zZ hto ?_;conv=>whnf
      try (refine tS ?_;conv=>whnf)
      rotate_left 1;conv=>whnf
      refine zZ hto ?_;conv=>whnf
      try (refine tS ?_;conv=>whnf)
      rotate_left 1;all_goals
        cases hT:BG g (G (AI g z (k:Nat))) (AI g z (k:Nat)) (Ch s.a s.txns z)
      all_goals
        conv=>whnf
        first
        | exact⟨(k+1,d2),⟨by show k+1<=2;omega,hd2,fun j hj=>by by_cases e:j=k;exact e ▸ hT;exact hno j (by have:j<k+1:=hj;omega)⟩,by show 2 - (k+1)<2 - k;omega,zR (s:= [0,1,2,3,4,5]) ⟨⟨rfl,rfl,rfl,rfl,AH (by omega),tv⟩,tA,rfl,rfl,rfl,rfl,rfl⟩⟩
        | (rename_i u
           rw [hGk _ hT];exact⟨.tp [.ag [Bm u],iv 0], .tp [.ag [Bm u],iv 0],FJ g s d2,fun _ _ h=>h,zR (s:= [0,1,2,3,4]) tA,rfl,d2,hd2,rfl⟩)
    · have ek:k=2:=by omega
      subst ek;have h0:BG g (G (AI g z 0)) (AI g z 0) (Ch s.a s.txns z)=none:=hno 0 (by decide);have h1:BG g (G (AI g z 1)) (AI g z 1) (Ch s.a s.txns z)=none:=hno 1 (by decide);rw [h0] at hO;simp only at hO;rw [h1] at hO;subst hO;repeat' (refine z_ ?_;conv=>whnf)
      exact⟨_, .tp [.ag [Bm []],iv 13],FJ g s d1,BW (m:= [.ag [Bm []],iv 13]) ⟨Bi ⟨Bh 3 _,tv⟩,ri,tv⟩,zR (s:= [0,1,2,3,4]) tA,rfl,d1,hd1,rfl⟩
theorem Ky (g:Geo) (s:Stt) (d:Dk) (G:Gr) (z w:Int) (t:List Ent) (hg:Bp g=true) (ha:Bu g s.a=true) (h:Gs (Ay g) d G) (hF:∀ a,(G a).bytes.length<=100000) (h8:∀ a,(G a).err≠8) (hz:0<=z/\z<g.z) (hw : -1<=w/\w<g.d) (ht:(t.length:Int)=g.d+1) :
  ACalls Tryz.prog false 105 [.bp 0 0,iv z,iv w, .ag [Bm t]] (FJ g s d) fun r H=>r = .tp [bA ((DD (G (BH g s.a z w)) (BH g s.a z w) (t.getD (Em g w).toNat ez)).getD []),iv 0]/\∃ d',Gs (Ay g) d' G/\H=FJ g s d':=by
 have hadr:=Wh g s.a z w hg ha hz hw;obtain⟨sl,e1,e2⟩:=Ey hg ha hz (w:=w) hw;have hsl:=FE hg hz e2;have hat:0<=Em g w/\Em g w<=g.d:=by have:=As.1 hg;unfold Em;split <;> omega
 have hci:=US g w;obtain⟨X,hX⟩:∃ X,X=BH g s.a z w:=⟨_,rfl⟩;rw [<-hX] at hadr e1 |-
 have hcb:=FT hg;have hrd:=SY g s d G X h (by have:=As.1 hg;omega);have heb:=U7 (G X) X (t.getD (Em g w).toNat ez) (hF _);have ixA:0<=Em g w/\Em g w<(t.length:Nat):=by omega
 refine zT tys_ok Tryz.func105 rfl rfl (Ag rfl) ?_;conv=>whnf
 apply zP tys_ok mixed (.o [0,1,2,3,4,5,6,7,8,9,10,11,12,13,14,15,16] .fin) [10,11,15,16,17,18,19,20,21,22,23,24,25,26,27,28,29] (by kernel_rfl)
 ·conv=>whnf
  refine zZ hadr ?_;exact tA
 conv=>whnf
 refine zd [0,1,2,3,4] hrd ?_;rintro _ _ ⟨rfl,d2,hd2,rfl⟩;conv=>whnf
 rw [show ((G X).err == 8)=false from beq_eq_false_iff_ne.2 (h8 X)];conv=>whnf
 repeat' (refine z_ ?_;conv=>whnf)
 apply zP tys_ok mixed (.o [0,1,2,3,4,5,6,7,8,9,10,11,12,13,14,15,16,17] .fin) [13,14,36,37,38,39,40,41,42,43,44,45,46,47,48,49,50,51] (by kernel_rfl)
 ·conv=>whnf
  refine zZ hci ?_;conv=>whnf
  try (refine Af (by first | omega | exact ixA | exact ixB | (simp;done)) ?_;conv=>whnf)
  refine zZ heb ?_;exact tA
 conv=>whnf
 obtain⟨B,hBe⟩:∃ B,B=(DD (G X) X (t.getD (Em g w).toNat ez)).getD []:=⟨_,rfl⟩;rw [<-hBe];exact⟨.tp [bA B,iv 0], .tp [bA B,iv 0],FJ g s d2,fun _ _ h=>h,zR (s:= [0,1,2,3,4]) tA,rfl,d2,hd2,rfl⟩
def WH (g:Geo) (s:Stt) (G:Gr) (t:List Ent) (z:Int) (k:Nat):List (List UInt8):=(List.range k).map fun i=>F3 g s G t z (WG g i)
theorem KQ (g:Geo) (s:Stt) (d:Dk) (G:Gr) (z:Int) (hg:Bp g=true) (hl:LogB s.txns) (ha:Bu g s.a=true) (h:Gs (Ay g) d G) (hF:∀ a,(G a).bytes.length<=100000) (h8:∀ a,(G a).err≠8) (hz:0<=z/\z<g.z) (hB:∀ p,C2 s.txns z 255=some p->p.1.bytes.length<=100000/\(BT g p.1.bytes).isSome=true) (t:List Ent) (ht:GF g s G z=some t) :
  ACalls Tryz.prog false 67 [.bp 0 0,iv z] (FJ g s d) fun r H=>r = .tp [.ag [Bm t],Ev (Fo g s G t z),iv 0]/\∃ d',Gs (Ay g) d' G/\H=FJ g s d':=by
 obtain⟨g1,g2,g3,g4,g5⟩:=As.1 hg;have hT:=Qy g s d G z hg hl ha h hF h8 hz hB;rw [ht] at hT;have htn:=Zr hg ht;have hd1:IntKind.i64.wrap (g.d+1)=g.d+1:=wi (by omega);refine zT tys_ok Tryz.func67 rfl rfl (Ag rfl) ?_;conv=>whnf
 refine zd [0,1,2,3,4] hT ?_;rintro _ _ ⟨rfl,d2,hd2,rfl⟩;conv=>whnf
 rw [hd1];refine zU (Nat × Dk) (fun x=>([(0, .bp 0 0),(1,iv z),(4, .bp 5 0),(5, .ow 6 x.1),(27,iv (g.d+1)),(28,iv (x.1:Nat))],FJ g s x.2 ++ ([.box 70 [Bm t], .row 47 1 ((WH g s G t z x.1).map DY)]:List AB))) (fun x=>(x.1:Int)<=g.d+1/\Gs (Ay g) x.2 G) (fun x=>g.d.toNat+1 - x.1) (0,d2) ⟨by show ((0:Nat):Int)<=g.d+1;omega,hd2⟩
  ⟨_,_,zG _ _, [(5,47,1)],tA, [0,1,2,3,4,5,6],tA,tA,rfl,rfl,rfl,rfl,rfl⟩ ?_
 rintro⟨k,d1⟩ ⟨hk,hd1⟩;simp only at hk hd1;by_cases hkn:(k:Int)<g.d+1;rotate_left 1
 ·have ek:k=g.d.toNat+1:=by omega
  conv=>whnf
  rw [show decide ((k:Int)<g.d+1)=false from decide_eq_false hkn];conv=>whnf
  repeat' (refine z_ ?_;conv=>whnf)
  have hlen:(Fo g s G t z).length=g.d.toNat+1:=by simp [Fo]
  subst ek;exact⟨.tp [.ag [Bm t], .ow 6 (Fo g s G t z).length,iv 0], .tp [.ag [Bm t],Ev (Fo g s G t z),iv 0],FJ g s d1,BW (m:= [.ag [Bm t], .ow 6 (Fo g s G t z).length,iv 0]) ⟨ri,by rw [hlen];exact fun _ _ h=>h,ri,tv⟩,zF (zQ (ConvF.sealTp 0 6 (es:=(Fo g s G t z).map DY) (by rw [Ab];try rfl) (congrArg (fun L=>some (AB.row 47 1 (List.map DY L))) rfl)) (zI 0 rfl (BW (m:= [.ag [Bm t],Ev (Fo g s G t z),iv 0]) ⟨ri,Ei (Ab _) rfl,ri,tv⟩))) (s:= [0,1,2,3,4]) tA,rfl,d1,hd1,rfl⟩
 ·conv=>whnf
  rw [show decide ((k:Int)<g.d+1)=true from decide_eq_true hkn];conv=>whnf
  repeat' (refine z_ ?_;conv=>whnf)
  by_cases hkd:(k:Int)=g.d
  ·rw [show (((k:Nat):Int) == g.d)=true by rw [hkd];simp];have e1:WG g k=(-1):=by unfold WG;first | rw [if_pos hkd] | rw [if_neg hkd]
   have e2:(WH g s G t z k).map DY ++ [DY (F3 g s G t z (-1))]=(WH g s G t z (k+1)).map DY:=by rw [<-e1];simp [WH,Bd]
   have hf:=I1 s.txns z (-1) hl.n hl.i;have hlk:(WH g s G t z k).length=k:=by simp [WH]
   cases hL:C2 s.txns z (-1) with
   | some p=>
    rw [hL] at hf;simp only at hf;have e3:F3 g s G t z (-1)=p.1.bytes:=by unfold F3;rw [hL]
    rw [e3] at e2;conv=>whnf
    repeat' (refine z_ ?_;conv=>whnf)
    refine zd [4] hf ?_;rintro _ _ ⟨rfl,rfl⟩;conv=>whnf
    repeat' (refine z_ ?_;conv=>whnf)
    refine⟨rfl,?_⟩;refine⟨⟨by rw [Ab,hlk],by omega⟩,?_⟩;conv=>whnf
    exact⟨(k+1,d1),⟨by show ((k+1:Nat):Int)<=g.d+1;omega,hd1⟩,by show g.d.toNat+1 - (k+1)<g.d.toNat+1 - k;omega,zR (s:= [0,1,2,3,4,5,6]) ⟨⟨rfl,rfl,rfl,rfl,rfl,AH (by omega),tv⟩,⟨rfl,rfl,rfl,rfl,rfl,rfl,congrArg (fun es=>some (AB.row 47 1 es)) e2,tv⟩,rfl,rfl,rfl,rfl,rfl⟩⟩
   | none=>
    rw [hL] at hf;simp only at hf;have e3:F3 g s G t z (-1)=(DD (G (BH g s.a z (-1))) (BH g s.a z (-1)) (t.getD (Em g (-1)).toNat ez)).getD []:=by unfold F3;rw [hL]
    have hh:=Ky g s d1 G z (-1) t hg ha hd1 hF h8 hz (by omega) htn;rw [<-e3] at hh;conv=>whnf
    repeat' (refine z_ ?_;conv=>whnf)
    refine zd [4] hf ?_;rintro _ _ ⟨rfl,rfl⟩;conv=>whnf
    repeat' (refine z_ ?_;conv=>whnf)
    refine zd [0,1,2,3,4] hh ?_;rintro _ _ ⟨rfl,d3,hd3,rfl⟩;conv=>whnf
    repeat' (refine z_ ?_;conv=>whnf)
    refine⟨rfl,?_⟩;refine⟨⟨by rw [Ab,hlk],by omega⟩,?_⟩;conv=>whnf
    exact⟨(k+1,d3),⟨by show ((k+1:Nat):Int)<=g.d+1;omega,hd3⟩,by show g.d.toNat+1 - (k+1)<g.d.toNat+1 - k;omega,zR (s:= [0,1,2,3,4,5,6]) ⟨⟨rfl,rfl,rfl,rfl,rfl,AH (by omega),tv⟩,⟨rfl,rfl,rfl,rfl,rfl,rfl,congrArg (fun es=>some (AB.row 47 1 es)) e2,tv⟩,rfl,rfl,rfl,rfl,rfl⟩⟩
  ·rw [show (((k:Nat):Int) == g.d)=false from beq_eq_false_iff_ne.2 hkd];have e1:WG g k=((k:Nat):Int):=by unfold WG;first | rw [if_pos hkd] | rw [if_neg hkd]
   have e2:(WH g s G t z k).map DY ++ [DY (F3 g s G t z ((k:Nat):Int))]=(WH g s G t z (k+1)).map DY:=by rw [<-e1];simp [WH,Bd]
   have hf:=I1 s.txns z ((k:Nat):Int) hl.n hl.i;have hlk:(WH g s G t z k).length=k:=by simp [WH]
   cases hL:C2 s.txns z ((k:Nat):Int) with
   | some p=>
    rw [hL] at hf;simp only at hf;have e3:F3 g s G t z ((k:Nat):Int)=p.1.bytes:=by unfold F3;rw [hL]
    rw [e3] at e2;conv=>whnf
    repeat' (refine z_ ?_;conv=>whnf)
    refine zd [4] hf ?_;rintro _ _ ⟨rfl,rfl⟩;conv=>whnf
    repeat' (refine z_ ?_;conv=>whnf)
    refine⟨rfl,?_⟩;refine⟨⟨by rw [Ab,hlk],by omega⟩,?_⟩;conv=>whnf
    exact⟨(k+1,d1),⟨by show ((k+1:Nat):Int)<=g.d+1;omega,hd1⟩,by show g.d.toNat+1 - (k+1)<g.d.toNat+1 - k;omega,zR (s:= [0,1,2,3,4,5,6]) ⟨⟨rfl,rfl,rfl,rfl,rfl,AH (by omega),tv⟩,⟨rfl,rfl,rfl,rfl,rfl,rfl,congrArg (fun es=>some (AB.row 47 1 es)) e2,tv⟩,rfl,rfl,rfl,rfl,rfl⟩⟩
   | none=>
    rw [hL] at hf;simp only at hf;have e3:F3 g s G t z ((k:Nat):Int)=(DD (G (BH g s.a z ((k:Nat):Int))) (BH g s.a z ((k:Nat):Int)) (t.getD (Em g ((k:Nat):Int)).toNat ez)).getD []:=by unfold F3;rw [hL]
    have hh:=Ky g s d1 G z ((k:Nat):Int) t hg ha hd1 hF h8 hz (by omega) htn;rw [<-e3] at hh;conv=>whnf
    repeat' (refine z_ ?_;conv=>whnf)
    refine zd [4] hf ?_;rintro _ _ ⟨rfl,rfl⟩;conv=>whnf
    repeat' (refine z_ ?_;conv=>whnf)
    refine zd [0,1,2,3,4] hh ?_;rintro _ _ ⟨rfl,d3,hd3,rfl⟩;conv=>whnf
    repeat' (refine z_ ?_;conv=>whnf)
    refine⟨rfl,?_⟩;refine⟨⟨by rw [Ab,hlk],by omega⟩,?_⟩;conv=>whnf
    exact⟨(k+1,d3),⟨by show ((k+1:Nat):Int)<=g.d+1;omega,hd3⟩,by show g.d.toNat+1 - (k+1)<g.d.toNat+1 - k;omega,zR (s:= [0,1,2,3,4,5,6]) ⟨⟨rfl,rfl,rfl,rfl,rfl,AH (by omega),tv⟩,⟨rfl,rfl,rfl,rfl,rfl,rfl,congrArg (fun es=>some (AB.row 47 1 es)) e2,tv⟩,rfl,rfl,rfl,rfl,rfl⟩⟩
def IE (t:List Ent) (had:List (List UInt8)) (but:Nat):Nat->Option (List (List UInt8))
 | 0=>some []
 | k+1=>match IE t had but k with
  | none=>none
  | some l=>if k=but\/(t.getD k ez).lost=true then some l else if (had.getD k []).length=0 then none else some (l ++ [had.getD k []])
theorem SJ (t:List Ent) (had:List (List UInt8)) (but:Nat):∀ k,DG t had but k=(IE t had but k).map G1
 | 0=>rfl
 | k+1=>by
  rw [DG,IE,SJ t had but k];cases IE t had but k with
  | none=>rfl
  | some l=>
   simp only [Dh];split
   ·rfl
   ·split
    ·rfl
    ·simp [G1]
theorem N2 {t:List Ent} {had:List (List UInt8)} {but k:Nat} (h:IE t had but k=none):∀ m,k<=m->IE t had but m=none
 | 0,hm=>by rwa [show k=0 by omega] at h
 | m+1,hm=>by
  by_cases e:k=m+1
  ·rw [<-e];exact h
  ·rw [IE,N2 h m (by omega)]
theorem LZ {t:List Ent} {had:List (List UInt8)} {but:Nat} (h8:∀ b∈had,b.length=0\/b.length=8):∀ k l,k<=had.length->IE t had but k=some l->l.length<=k/\∀ b∈l,b.length=8
 | 0,l,_,h=>by
  obtain rfl:=Option.some.inj h;exact⟨Ah _,fun b hb=>by cases hb⟩
 | k+1,l,hk,h=>by
  rw [IE] at h;cases ho:IE t had but k with
  | none=>rw [ho] at h;cases h
  | some m=>
   rw [ho] at h;simp only at h;obtain⟨q1,q2⟩:=LZ h8 k m (by omega) ho;split at h
   ·obtain rfl:=Option.some.inj h;exact⟨by omega,q2⟩
   ·split at h
    ·cases h
    ·rename_i hz;obtain rfl:=Option.some.inj h;refine⟨by rw [Ai,Cz];omega,fun b hb=>?_⟩;rcases A0.1 hb with q | q
     ·exact q2 b q
     ·rw [AC] at q;rw [q];rcases h8 _ (A6 (d:=([]:List UInt8)) (show k<had.length by omega)) with e | e
      ·exact absurd e hz
      ·exact e
@[reducible] def zlR (g:Geo) (t:List Ent) (had l:List (List UInt8)):List AB:= [.box 298 [iv g.d,Bm t,Ev had], .row 47 1 (l.map DY)]
theorem QS (g:Geo) (t:List Ent) (had:List (List UInt8)) (but:Nat) (hg:Bp g=true) (htl:(t.length:Int)=g.d+1) (hh:(had.length:Int)=g.d+1) (hbt:(but:Int)<=g.d) (h8:∀ b∈had,b.length=0\/b.length=8):ACalls Tryz.prog false 229 [.bp 0 0,iv (but:Nat)] (zlH g t had) fun r H=>match IE t had but g.d.toNat with
  | some l=>r = .tp [.ow 1 l.length, .v (.bool true)]/\H=zlR g t had l
  | none=>r = .tp [.v (.slice none 0 0), .v (.bool false)]/\H=zlH g t had:=by
 obtain⟨g1,g2,g3,g4,g5⟩:=As.1 hg;refine zT tys_ok Tryz.func229 rfl rfl (Ag rfl) ?_;conv=>whnf
 refine zU (Nat × List (List UInt8)) (fun x=>([(0, .bp 0 0),(1,iv (but:Nat)),(6, .ow 1 x.2.length),(11,iv g.d),(12,iv (x.1:Nat))],zlR g t had x.2)) (fun x=>x.1<=g.d.toNat/\IE t had but x.1=some x.2) (fun x=>g.d.toNat - x.1) (0, []) ⟨Aj _,rfl⟩
  ⟨_,_,zG _ _, [(6,47,1)],tA, [0,1],tA,tA,rfl,rfl,rfl,rfl,rfl⟩ ?_
 rintro⟨k,l⟩ ⟨hk,hl⟩;simp only at hk hl;obtain⟨hll, -⟩:=LZ h8 k l (by omega) hl;by_cases hkd:k<g.d.toNat;rotate_left 1
 ·have ek:k=g.d.toNat:=by omega
  subst ek;rw [hl];conv=>whnf
  rw [show decide (((g.d.toNat:Nat):Int)<g.d)=false from decide_eq_false (by omega)];conv=>whnf
  repeat' (refine z_ ?_;conv=>whnf)
  exact⟨_, .tp [.ow 1 l.length, .v (.bool true)],zlR g t had l,fun _ _ h=>h,zR (s:= [0,1]) tA,rfl,rfl⟩
 ·have hs:IE t had but (k+1)=if k=but\/(t.getD k ez).lost=true then some l else if (had.getD k []).length=0 then none else some (l ++ [had.getD k []]):=by rw [IE,hl]
  have ixA:(0:Int)<=(k:Nat)/\((k:Nat):Int)<(t.length:Nat):=by omega
  have ixB:(0:Int)<=(k:Nat)/\((k:Nat):Int)<(had.length:Nat):=by omega
  conv=>whnf
  rw [show decide ((k:Int)<g.d)=true from decide_eq_true (by omega)];conv=>whnf
  repeat' (refine z_ ?_;conv=>whnf)
  by_cases he:k=but
  ·rw [if_pos (.inl he)] at hs;rw [show (((k:Nat):Int) == ((but:Nat):Int))=true from beq_iff_eq.2 (by rw [he])];conv=>whnf
   repeat' (refine z_ ?_;conv=>whnf)
   exact⟨(k+1,l),⟨hkd,hs⟩,by show g.d.toNat - (k+1)<g.d.toNat - k;omega,zR (s:= [0,1]) ⟨⟨rfl,rfl,rfl,rfl,AH (by omega),tv⟩,tA,rfl,rfl,rfl,rfl,rfl⟩⟩
  ·rw [show (((k:Nat):Int) == ((but:Nat):Int))=false from beq_eq_false_iff_ne.2 (by omega)];refine⟨ixA,?_⟩;conv=>whnf
   rw [Ac];by_cases hlo:(t.getD k ez).lost=true
   ·rw [if_pos (.inr hlo)] at hs;rw [show (t.getD k ⟨0,0,false⟩).lost=true from hlo];conv=>whnf
    repeat' (refine z_ ?_;conv=>whnf)
    exact⟨(k+1,l),⟨hkd,hs⟩,by show g.d.toNat - (k+1)<g.d.toNat - k;omega,zR (s:= [0,1]) ⟨⟨rfl,rfl,rfl,rfl,AH (by omega),tv⟩,tA,rfl,rfl,rfl,rfl,rfl⟩⟩
   ·rw [if_neg (fun q=>q.elim he hlo)] at hs;rw [show (t.getD k ⟨0,0,false⟩).lost=false from Bool.eq_false_iff.2 hlo];conv=>whnf
    repeat' (refine z_ ?_;conv=>whnf)
    refine⟨ixB,?_⟩;conv=>whnf
    rw [Ac];by_cases h0:(had.getD k []).length=0
    ·rw [if_pos h0] at hs;rw [show (((had.getD k []).length:Int) == 0)=true by rw [h0];try rfl];rw [N2 hs g.d.toNat (by omega)];exact⟨_, .tp [.v (.slice none 0 0), .v (.bool false)],zlH g t had,fun _ _ h=>h,zR (s:= [0]) tA,rfl,rfl⟩
    ·rw [if_neg h0] at hs;rw [show (((had.getD k []).length:Int) == 0)=false from beq_eq_false_iff_ne.2 (by omega)];conv=>whnf
     repeat' (refine z_ ?_;conv=>whnf)
     refine⟨ixB,?_⟩;conv=>whnf
     rw [Ac];refine⟨rfl,?_⟩;conv=>whnf
     refine Af ⟨by rw [Ab],by show l.length+1<=1000000000;omega⟩ ?_;conv=>whnf
     exact⟨(k+1,l ++ [had.getD k []]),⟨hkd,hs⟩,by show g.d.toNat - (k+1)<g.d.toNat - k;omega,zR (s:= [0,1]) ⟨⟨rfl,rfl,congrArg (AV.ow 1) (show l.length+1=(l ++ [had.getD k []]).length by rw [Ai];try rfl),rfl,AH (by omega),tv⟩,⟨rfl,congrArg (fun z=>some (AB.row 47 1 z)) (show l.map DY ++ [DY (had.getD k [])]=(l ++ [had.getD k []]).map DY by rw [Az];try rfl),tv⟩,rfl,rfl,rfl,rfl,rfl⟩⟩
theorem Pj (g:Geo) (t:List Ent) (had:List (List UInt8)) (b:List UInt8) (i:Nat) (hi:i<t.length):ACalls Tryz.prog false 231 [.bp 0 0,bA b,iv (i:Nat)] (zlH g t had) fun r H=>(if ((C4 b:Nat):Int)=(t.getD i ez).sum then r = .tp [bA b, .v (.bool true)] else r = .tp [bA [], .v (.bool false)])/\H=zlH g t had:=by
 have h1:=J2 b;have ixA:(0:Int)<=(i:Nat)/\((i:Nat):Int)<(t.length:Nat):=by omega
 by_cases he:((C4 b:Nat):Int)=(t.getD i ez).sum
 ·simp only [if_pos he];refine zT tys_ok Tryz.func231 rfl rfl (Ag rfl) ?_;conv=>whnf
  apply zW (0) tys_ok mixed (.o [0,2,3,4,5,6,7,8,9,10,1,11] .fin) (by kernel_rfl);conv=>whnf
  try (refine tI ?_;conv=>whnf)
  refine zZ h1 ?_;conv=>whnf
  all_goals
   rw [Ac,show (((C4 b:Nat):Int) != (t.getD i ⟨0,0,false⟩).sum)=false from bne_eq_false_iff_eq.2 he];exact⟨_, .tp [bA b, .v (.bool true)],zlH g t had,fun _ _ h=>h,zR (s:= [0]) tA,rfl,rfl⟩
 ·simp only [if_neg he];refine zT tys_ok Tryz.func231 rfl rfl (Ag rfl) ?_;conv=>whnf
  apply zW (0) tys_ok mixed (.o [0,2,3,4,5,6,7,8,9,10,1,11] .fin) (by kernel_rfl);conv=>whnf
  try (refine tI ?_;conv=>whnf)
  refine zZ h1 ?_;conv=>whnf
  all_goals
   rw [Ac,show (((C4 b:Nat):Int) != (t.getD i ⟨0,0,false⟩).sum)=true from bne_iff_ne.2 he];exact⟨_, .tp [bA [], .v (.bool false)],zlH g t had,BW (m:= [bA [], .v (.bool false)]) ⟨Bh 1 _,ri,tv⟩,zR (s:= [0]) tA,rfl,rfl⟩
theorem Lw (g:Geo) (t:List Ent) (had:List (List UInt8)) (i:Nat) (hg:Bp g=true) (ht:FX g t=true) (hh:(had.length:Int)=g.d+1) (h8:∀ b∈had,b.length=0\/b.length=8) (hi:(i:Int)<=g.d):ACalls Tryz.prog false 174 [.bp 0 0,iv (i:Nat)] (zlH g t had) fun r H=>r = .tp [bA (BL g t had i), .v (.bool (decide (0<(BL g t had i).length)))]/\H=zlH g t had:=by
 obtain⟨g1,g2,g3,g4,g5⟩:=As.1 hg;have htl:=G6 ht;have ixA:(0:Int)<=(i:Nat)/\((i:Nat):Int)<(t.length:Nat):=by omega
 have ixB:(0:Int)<=(i:Nat)/\((i:Nat):Int)<(had.length:Nat):=by omega
 have hlp:(t.getD g.d.toNat ez).lost=false:=by
  have hlt:g.d.toNat<t.length:=by omega
  have:=ht;simp only [FX,GJ,Ae hlt,Dh,B4,Ad] at this;rw [Aa,Ae hlt];simpa using this.2
 by_cases hlo:(t.getD i ez).lost=true
 ·have hk:BL g t had i=[]:=by unfold BL;rw [if_pos hlo]
  rw [hk];refine zT tys_ok Tryz.func174 rfl rfl (Ag rfl) ?_;refine⟨ixA,?_⟩;conv=>whnf
  rw [Ac,show (t.getD i ⟨0,0,false⟩).lost=true from hlo];exact⟨_, .tp [bA [], .v (.bool false)],zlH g t had,BW (m:= [bA [], .v (.bool false)]) ⟨Bh 1 _,ri,tv⟩,zR (s:= [0]) tA,rfl,rfl⟩
 have hlo:(t.getD i ez).lost=false:=Bool.eq_false_iff.2 hlo;by_cases h0:0<(had.getD i []).length
 ·have hb:(had.getD i []).length=8:=by
   rcases h8 _ (A6 (d:=([]:List UInt8)) (show i<had.length by omega)) with e | e <;> omega
  have hk:BL g t had i=had.getD i []:=by unfold BL;rw [hlo,if_neg (by decide),if_pos h0]
  have hc:=Cp (had.getD i []) (by omega);rw [hk,decide_eq_true h0];refine zT tys_ok Tryz.func174 rfl rfl (Ag rfl) ?_;refine⟨ixA,?_⟩;conv=>whnf
  rw [Ac,show (t.getD i ⟨0,0,false⟩).lost=false from hlo];refine⟨ixB,?_⟩;conv=>whnf
  rw [show decide ((((had.getD (((i:Nat):Int)).toNat []).length:Nat):Int) > 0)=true from decide_eq_true (by rw [Ac];omega)];refine⟨ixB,?_⟩;conv=>whnf
  refine zZ hc ?_;exact⟨_, .tp [bA (had.getD i []), .v (.bool true)],zlH g t had,fun _ _ h=>h,zR (s:= [0]) tA,rfl,rfl⟩
 have hzo:=QS g t had i hg htl hh hi h8;have hkn:BL g t had i=match DG t had i (g.d.toNat+1) with
   | none=> []
   | some b=>if ((C4 b:Nat):Int)=(t.getD i ez).sum then b else []:=by
  unfold BL;rw [hlo,if_neg (by decide),if_neg h0];try rfl
 rw [SJ,IE] at hkn;have ixC:(0:Int)<=g.d/\g.d<(had.length:Nat):=by omega
 cases hO:IE t had i g.d.toNat with
 | none=>
  rw [hO] at hzo hkn;simp only at hzo;have hk:BL g t had i=[]:=hkn;rw [hk];refine zT tys_ok Tryz.func174 rfl rfl (Ag rfl) ?_;refine⟨ixA,?_⟩;conv=>whnf
  rw [Ac,show (t.getD i ⟨0,0,false⟩).lost=false from hlo];refine⟨ixB,?_⟩;conv=>whnf
  rw [show decide ((((had.getD (((i:Nat):Int)).toNat []).length:Nat):Int) > 0)=false from decide_eq_false (by rw [Ac];omega)];conv=>whnf
  refine zd [0] hzo ?_;rintro _ _ ⟨rfl,rfl⟩;conv=>whnf
  repeat' (refine z_ ?_;conv=>whnf)
  by_cases hid:(i:Int)<g.d
  ·rw [show decide (((i:Nat):Int)<g.d)=true from decide_eq_true hid];conv=>whnf
   apply zW (0) tys_ok mixed (.o [0,1,2,3,4,5,6,7,8,9,10,11,12,13] .fin) (by kernel_rfl);conv=>whnf
   try (refine tI ?_;conv=>whnf)
   try (refine tJ ?_;conv=>whnf)
   try (refine tK ?_;conv=>whnf)
   all_goals
    conv=>whnf
    repeat' (refine z_ ?_;conv=>whnf)
    apply zW (0) tys_ok mixed (.o [0,1,2,3,4,5,6,7,8,9,10,11,12,13,14,15,16,17,18,19,20,21,22,23] .fin) (by kernel_rfl);conv=>whnf
    try (refine tI ?_;conv=>whnf)
    all_goals exact⟨_, .tp [bA [], .v (.bool false)],zlH g t had,BW (m:= [bA [], .v (.bool false)]) ⟨Bh 1 _,ri,tv⟩,zR (s:= [0]) tA,rfl,rfl⟩
  ·rw [show decide (((i:Nat):Int)<g.d)=false from decide_eq_false hid];conv=>whnf
   apply zW (0) tys_ok mixed (.o [0,1,2,3,4,5,6,7,8,9,10,11,12,13,14,15,16,17,18,19,20,21,22,23] .fin) (by kernel_rfl);conv=>whnf
   try (refine tI ?_;conv=>whnf)
   all_goals exact⟨_, .tp [bA [], .v (.bool false)],zlH g t had,BW (m:= [bA [], .v (.bool false)]) ⟨Bh 1 _,ri,tv⟩,zR (s:= [0]) tA,rfl,rfl⟩
 | some l=>
  rw [hO] at hzo hkn;simp only at hzo hkn;obtain⟨hll,hl8⟩:=LZ h8 _ l (by omega) hO;have fin:∀ m:List (List UInt8),(∀ b∈m,b.length=8)->BL g t had i=(if ((C4 (G1 m):Nat):Int)=(t.getD i ez).sum then G1 m else [])->∀ r H,((if ((C4 (G1 m):Nat):Int)=(t.getD i ez).sum then r=AV.tp [bA (G1 m), .v (.bool true)] else r = .tp [bA [], .v (.bool false)])/\H=zlH g t had)->r = .tp [bA (BL g t had i), .v (.bool (decide (0<(BL g t had i).length)))]/\H=zlH g t had:=fun m hm e r H hh=>by
   rw [e];by_cases hq:((C4 (G1 m):Nat):Int)=(t.getD i ez).sum
   ·rw [if_pos hq] at hh |-
    rw [hh.1,show (G1 m).length=8 from xorL_len _ _ rfl hm];exact⟨rfl,hh.2⟩
   ·rw [if_neg hq] at hh |-
    exact⟨hh.1,hh.2⟩
  by_cases hid:(i:Int)<g.d;rotate_left 1
  ·have ei:g.d.toNat=i:=by omega
   rw [if_pos (.inl ei)] at hkn;have hxa:=Oi l (by omega) hl8;have hto:=(Pj g t had (G1 l) i (by omega)).mono (fin l hl8 hkn);refine zT tys_ok Tryz.func174 rfl rfl (Ag rfl) ?_;refine⟨ixA,?_⟩;conv=>whnf
   rw [Ac,show (t.getD i ⟨0,0,false⟩).lost=false from hlo];refine⟨ixB,?_⟩;conv=>whnf
   rw [show decide ((((had.getD (((i:Nat):Int)).toNat []).length:Nat):Int) > 0)=false from decide_eq_false (by rw [Ac];omega)];conv=>whnf
   refine zd [0] hzo ?_;rintro _ _ ⟨rfl,rfl⟩;conv=>whnf
   repeat' (refine z_ ?_;conv=>whnf)
   rw [show decide (((i:Nat):Int)<g.d)=false from decide_eq_false hid];conv=>whnf
   apply zW (0) tys_ok mixed (.o [0,1,2,3,4,5,6,7,8,9,10,11,12,13,14,15,16,17,18,19,20,21,22,23] .fin) (by kernel_rfl);conv=>whnf
   try (refine tI ?_;conv=>whnf)
   all_goals
    rw [show decide (((i:Nat):Int)<g.d)=false from decide_eq_false hid];conv=>whnf
    repeat' (refine z_ ?_;conv=>whnf)
    refine Fn.shut (args':= [.sl 1 l.length fun i=>(l.map DY).getD i [],iv 8]) (hxa.subA ⟨Ei rfl rfl,fun _ _ h=>h,tv⟩) ⟨by rw [Ab],rfl,?_⟩;rintro _ rfl;conv=>whnf
    repeat' (refine z_ ?_;conv=>whnf)
    refine zd [0] hto ?_;rintro _ _ ⟨rfl,rfl⟩;exact⟨_, .tp [bA (BL g t had i), .v (.bool (decide (0<(BL g t had i).length)))],zlH g t had,fun _ _ h=>h,zR (s:= [0]) tA,rfl,rfl⟩
  ·have ne:¬(g.d.toNat=i\/(t.getD g.d.toNat ez).lost=true):=fun q=>q.elim (by omega) (by rw [hlp];decide)
   rw [if_neg ne] at hkn;by_cases hp0:(had.getD g.d.toNat []).length=0
   ·rw [if_pos hp0] at hkn;have hk:BL g t had i=[]:=hkn;rw [hk];refine zT tys_ok Tryz.func174 rfl rfl (Ag rfl) ?_;refine⟨ixA,?_⟩;conv=>whnf
    rw [Ac,show (t.getD i ⟨0,0,false⟩).lost=false from hlo];refine⟨ixB,?_⟩;conv=>whnf
    rw [show decide ((((had.getD (((i:Nat):Int)).toNat []).length:Nat):Int) > 0)=false from decide_eq_false (by rw [Ac];omega)];conv=>whnf
    refine zd [0] hzo ?_;rintro _ _ ⟨rfl,rfl⟩;conv=>whnf
    repeat' (refine z_ ?_;conv=>whnf)
    rw [show decide (((i:Nat):Int)<g.d)=true from decide_eq_true hid];conv=>whnf
    apply zW (0) tys_ok mixed (.o [0,1,2,3,4,5,6,7,8,9,10,11,12,13] .fin) (by kernel_rfl);conv=>whnf
    try (refine tI ?_;conv=>whnf)
    try (refine tJ ?_;conv=>whnf)
    try (refine tK ?_;conv=>whnf)
    all_goals
     conv=>whnf
     repeat' (refine z_ ?_;conv=>whnf)
     apply zW (0) tys_ok mixed (.o [0,1,2,3,4,5,6,7,8,9,10,11,12,13,14,15,16,17,18,19,20,21,22,23] .fin) (by kernel_rfl);conv=>whnf
     try (refine tI ?_;conv=>whnf)
     all_goals
      rw [show decide (((i:Nat):Int)<g.d)=true from decide_eq_true hid];refine⟨ixC,?_⟩;conv=>whnf
      rw [show (((had.getD g.d.toNat []).length:Int) == 0)=true by rw [hp0];try rfl];conv=>whnf
      repeat' (refine z_ ?_;conv=>whnf)
      exact⟨_, .tp [bA [], .v (.bool false)],zlH g t had,BW (m:= [bA [], .v (.bool false)]) ⟨Bh 1 _,ri,tv⟩,zR (s:= [0]) tA,rfl,rfl⟩
   ·rw [if_neg hp0] at hkn;have hpl:(had.getD g.d.toNat []).length=8:=by
     rcases h8 _ (A6 (d:=([]:List UInt8)) (show g.d.toNat<had.length by omega)) with e | e
     ·exact absurd e hp0
     ·exact e
    have hm8:∀ b∈l ++ [had.getD g.d.toNat []],b.length=8:=fun b hb=>by
     rcases A0.1 hb with q | q
     ·exact hl8 b q
     ·rw [AC] at q;rw [q];exact hpl
    have hxa:=Oi (l ++ [had.getD g.d.toNat []]) (by rw [Ai,Cz];omega) hm8;have hto:=(Pj g t had (G1 (l ++ [had.getD g.d.toNat []])) i (by omega)).mono (fin _ hm8 hkn);refine zT tys_ok Tryz.func174 rfl rfl (Ag rfl) ?_;refine⟨ixA,?_⟩;conv=>whnf
    rw [Ac,show (t.getD i ⟨0,0,false⟩).lost=false from hlo];refine⟨ixB,?_⟩;conv=>whnf
    rw [show decide ((((had.getD (((i:Nat):Int)).toNat []).length:Nat):Int) > 0)=false from decide_eq_false (by rw [Ac];omega)];conv=>whnf
    refine zd [0] hzo ?_;rintro _ _ ⟨rfl,rfl⟩;conv=>whnf
    repeat' (refine z_ ?_;conv=>whnf)
    rw [show decide (((i:Nat):Int)<g.d)=true from decide_eq_true hid];conv=>whnf
    apply zW (0) tys_ok mixed (.o [0,1,2,3,4,5,6,7,8,9,10,11,12,13] .fin) (by kernel_rfl);conv=>whnf
    try (refine tI ?_;conv=>whnf)
    try (refine tJ ?_;conv=>whnf)
    try (refine tK ?_;conv=>whnf)
    all_goals
     conv=>whnf
     repeat' (refine z_ ?_;conv=>whnf)
     apply zW (0) tys_ok mixed (.o [0,1,2,3,4,5,6,7,8,9,10,11,12,13,14,15,16,17,18,19,20,21,22,23] .fin) (by kernel_rfl);conv=>whnf
     try (refine tI ?_;conv=>whnf)
     all_goals
      rw [show decide (((i:Nat):Int)<g.d)=true from decide_eq_true hid];refine⟨ixC,?_⟩;conv=>whnf
      rw [show (((had.getD g.d.toNat []).length:Int) == 0)=false from beq_eq_false_iff_ne.2 (by omega)];conv=>whnf
      repeat' (refine z_ ?_;conv=>whnf)
      refine Fn.shut (args':= [.sl 1 (l.length+1) fun i=>(l.map DY ++ [DY (had.getD g.d.toNat [])]).getD i [],iv 8]) (hxa.subA ⟨Ei (by rw [Ai];try rfl) (by rw [Az];try rfl),fun _ _ h=>h,tv⟩) ⟨by rw [Ai,Ab];try rfl,rfl,?_⟩;rintro _ rfl;conv=>whnf
      repeat' (refine z_ ?_;conv=>whnf)
      refine zd [0] hto ?_;rintro _ _ ⟨rfl,rfl⟩;exact⟨_, .tp [bA (BL g t had i), .v (.bool (decide (0<(BL g t had i).length)))],zlH g t had,fun _ _ h=>h,zR (s:= [0]) tA,rfl,rfl⟩
theorem Lx (g:Geo) (t:List Ent) (had:List (List UInt8)) (hg:Bp g=true) (ht:FX g t=true) (hh:(had.length:Int)=g.d+1) (h8:∀ b∈had,b.length=0\/b.length=8):ACalls Tryz.prog false 173 [.ag (AT g), .ag [Bm t],Ev had] [] fun r H=>r = .tp [.bp 0 0,iv 0]/\H=zlH g t had:=by
 obtain⟨g1,g2,g3,g4,g5⟩:=As.1 hg;have htl:=G6 ht;have hc:=Nj g t (by omega);rw [ht] at hc;have hz:=Zj had (by omega);have e:(had.any fun b=>((((b.length:Nat):Int) != 0)&&(((b.length:Nat):Int) != 8)))=false:=by
  rw [List.any_eq_false];intro b hb;rcases h8 b hb with e | e <;> rw [e] <;> decide
 rw [e] at hz;refine zT tys_ok Tryz.func173 rfl rfl (Ag rfl) ?_;conv=>whnf
 refine zZ hc ?_;conv=>whnf
 rw [show (((had.length:Nat):Int) != IntKind.i64.wrap (g.d+1))=false from bne_eq_false_iff_eq.2 (by rw [wi (by omega)];exact hh)];conv=>whnf
 refine zZ hz ?_;exact⟨_, .tp [.bp 0 0,iv 0],zlH g t had,fun _ _ h=>h,zR (s:= [2]) tA,rfl,rfl⟩
theorem QT (g:Geo) (t:List Ent) (had:List (List UInt8)) (i:Nat) (hg:Bp g=true) (ht:FX g t=true) (hh:(had.length:Int)=g.d+1) (h8:∀ b∈had,b.length=0\/b.length=8) (hi:(i:Int)<g.d):Fn Tryz.prog 106 [.ag (AT g), .ag [Bm t],Ev had,iv (i:Nat)] fun r=>r=if 0<(BL g t had i).length then .tp [bA (BL g t had i),iv 0] else .tp [bA [],iv 13]:=by
 obtain⟨g1,g2,g3,g4,g5⟩:=As.1 hg;have hb:=Lx g t had hg ht hh h8;have hk:=Lw g t had i hg ht hh h8 (by omega);have t1:decide (((i:Nat):Int) < -1)=false:=decide_eq_false (by omega);have t2:decide (((i:Nat):Int)>=g.d)=false:=decide_eq_false (by omega);have t3:(((i:Nat):Int) == -1)=false:=beq_eq_false_iff_ne.2 (by omega);by_cases hq:0<(BL g t had i).length
 ·rw [decide_eq_true hq] at hk;rw [if_pos hq];refine zS Tryz.func106 rfl ?_;conv=>whnf
  refine zV hb rfl ?_;rintro _ _ ⟨rfl,rfl⟩;conv=>whnf
  repeat' (refine z_ ?_;conv=>whnf)
  rw [t1];conv=>whnf
  rw [t2];conv=>whnf
  repeat' (refine z_ ?_;conv=>whnf)
  rw [t3];conv=>whnf
  repeat' (refine z_ ?_;conv=>whnf)
  refine zd [2] hk ?_;rintro _ _ ⟨rfl,rfl⟩;conv=>whnf
  repeat' (refine z_ ?_;conv=>whnf)
  exact⟨_,ri,rfl⟩
 ·rw [decide_eq_false hq] at hk;rw [if_neg hq];refine zS Tryz.func106 rfl ?_;conv=>whnf
  refine zV hb rfl ?_;rintro _ _ ⟨rfl,rfl⟩;conv=>whnf
  repeat' (refine z_ ?_;conv=>whnf)
  rw [t1];conv=>whnf
  rw [t2];conv=>whnf
  repeat' (refine z_ ?_;conv=>whnf)
  rw [t3];conv=>whnf
  repeat' (refine z_ ?_;conv=>whnf)
  refine zd [2] hk ?_;rintro _ _ ⟨rfl,rfl⟩;conv=>whnf
  repeat' (refine z_ ?_;conv=>whnf)
  exact⟨.tp [bA [],iv 13],BW (m:= [bA [],iv 13]) ⟨Bh 1 _,ri,tv⟩,rfl⟩
def JT (g:Geo) (t:List Ent) (had:List (List UInt8)) (k:Nat):List (List UInt8):=(List.range k).map (BL g t had)
def JS (g:Geo) (t:List Ent) (had:List (List UInt8)) (k:Nat):List Bool:=(List.range k).map fun i=>decide (0<(BL g t had i).length)
theorem Vh (g:Geo) (t:List Ent) (had:List (List UInt8)) (hg:Bp g=true) (ht:FX g t=true) (hh:(had.length:Int)=g.d+1) (h8:∀ b∈had,b.length=0\/b.length=8):Fn Tryz.prog 232 [.ag (AT g), .ag [Bm t],Ev had] fun r=>r = .tp [Ev (JT g t had had.length),aO (JS g t had had.length),iv 0]:=by
 obtain⟨g1,g2,g3,g4,g5⟩:=As.1 hg;have htl:=G6 ht;have hb:=Lx g t had hg ht hh h8;have hd1:IntKind.i64.wrap (g.d+1)=g.d+1:=wi (by omega);have l1:∀ k,(JT g t had k).length=k:=fun k=>by simp [JT]
 have l2:∀ k,(JS g t had k).length=k:=fun k=>by simp [JS]
 refine zS Tryz.func232 rfl ?_;conv=>whnf
 refine zV hb rfl ?_;rintro _ _ ⟨rfl,rfl⟩;conv=>whnf
 rw [hd1];refine zU Nat (fun k=>([(6, .ow 3 k),(7, .ow 4 k),(9, .bp 2 0),(25,iv (g.d+1)),(26,iv (k:Nat))], [.box 23 (AT g), .box 70 [Bm t], .box 298 [iv g.d,Bm t,Ev had], .row 47 1 ((JT g t had k).map DY), .row 4 1 ((JS g t had k).map ab)])) (fun k=>k<=had.length) (fun k=>had.length - k) 0 (Aj _)
  ⟨_,_,zG _ _, [(6,47,1),(7,4,1)],tA, [0,1,2,3,4],tA,tA,rfl,rfl,rfl,rfl,rfl⟩ ?_
 intro k hk;by_cases hkn:k<had.length
 ·have hkk:=Lw g t had k hg ht hh h8 (by omega);have e1:(JT g t had k).map DY ++ [DY (BL g t had k)]=(JT g t had (k+1)).map DY:=by simp [JT,Bd]
  have e2:(JS g t had k).map ab ++ [ab (decide (0<(BL g t had k).length))]=(JS g t had (k+1)).map ab:=by simp [JS,Bd]
  conv=>whnf
  rw [show decide ((k:Int)<g.d+1)=true from decide_eq_true (by omega)];conv=>whnf
  repeat' (refine z_ ?_;conv=>whnf)
  refine zd [2] hkk ?_;rintro _ _ ⟨rfl,rfl⟩;conv=>whnf
  repeat' (refine z_ ?_;conv=>whnf)
  refine⟨rfl,?_⟩;refine⟨⟨by rw [Ab,l1],by omega⟩,?_⟩;refine⟨rfl,?_⟩;refine⟨⟨by rw [Ab,l2],by omega⟩,?_⟩;exact⟨k+1,by omega,by omega,zR (s:= [0,1,2,3,4]) ⟨⟨rfl,rfl,rfl,rfl,AH (by omega),tv⟩,⟨rfl,rfl,rfl,congrArg (fun es=>some (AB.row 47 1 es)) e1,congrArg (fun es=>some (AB.row 4 1 es)) e2,tv⟩,rfl,rfl,rfl,rfl,rfl⟩⟩
 ·have ek:k=had.length:=by omega
  subst ek;conv=>whnf
  rw [show decide (((had.length:Nat):Int)<g.d+1)=false from decide_eq_false (by omega)];conv=>whnf
  repeat' (refine z_ ?_;conv=>whnf)
  refine⟨(by rw [Ab,l1]),?_⟩;refine⟨(by rw [Ab,l2]),?_⟩;exact⟨.tp [Ev (JT g t had had.length),aO (JS g t had had.length),iv 0],BW (m:= [Ev (JT g t had had.length),aO (JS g t had had.length),iv 0]) ⟨Ei (l1 _).symm rfl,aa (l2 _).symm rfl,ri,tv⟩,rfl⟩
theorem Oo {g:Geo} {s:Stt} {G:Gr} {z:Int} {t:List Ent} (h:GF g s G z=some t):FX g t=true:=by
 have hr:∀ {b:List UInt8} {t:List Ent},BT g b=some t->FX g t=true:=fun {b t} h=>by
  unfold BT at h;split at h
  ·rename_i hh;obtain rfl:=Option.some.inj h;exact hh.1
  ·cases h
 have ho:∀ {x:Gt} {a r:Int} {t:List Ent},BG g x a r=some t->FX g t=true:=fun {x a r t} h=>by
  unfold BG at h;split at h
  ·split at h
   ·exact hr h
   ·cases h
  ·cases h
 unfold GF at h;split at h
 ·exact hr h
 ·split at h
  ·rename_i hh;obtain rfl:=Option.some.inj h;exact ho hh
  ·exact ho h
theorem Wn {g:Geo} {s:Stt} {G:Gr} {t:List Ent} {z w:Int} (hi:∀ t∈s.txns,∀ x∈t.images,Bz g x=true) (hw:w≠255):(F3 g s G t z w).length=0\/(F3 g s G t z w).length=8:=by
 unfold F3;split
 ·rename_i p hp;obtain⟨x,q⟩:=p;obtain⟨t',ht, -,hx, -,e⟩:=GY (Ah _) hp;exact .inr ((E7 (hi t' ht x hx)).2 (by rw [e];exact hw)).2.2
 ·unfold DD;split
  ·split
   ·rename_i h;exact .inr h.2.1
   ·exact .inl rfl
  ·exact .inl rfl
theorem Mq {g:Geo} (hg:Bp g=true) {s:Stt} {G:Gr} {t:List Ent} {z:Int} (hi:∀ t∈s.txns,∀ x∈t.images,Bz g x=true):((Fo g s G t z).length:Int)=g.d+1/\∀ b∈Fo g s G t z,b.length=0\/b.length=8:=by
 have g5:=As.1 hg;refine⟨by unfold Fo;rw [Ab,Cg];omega,fun b hb=>?_⟩;obtain⟨i,hi2,rfl⟩:=AK.1 hb;have:=AP.1 hi2;exact Wn hi (by unfold WG;split <;> omega)
def QJ (g:Geo) (s:Stt) (G:Gr) (z A:Int):Option (List UInt8):=match GF g s G z with
 | none=>none
 | some t=>if (t.getD A.toNat ez).lost=true then none else if 0<(F3 g s G t z A).length then some (F3 g s G t z A) else if 0<(BL g t (Fo g s G t z) A.toNat).length then some (BL g t (Fo g s G t z) A.toNat) else none
def Si (o:Option (List UInt8)):AV:=match o with
 | some b=> .tp [bA b,iv 0]
 | none=> .tp [bA [],iv 13]
theorem Pa (g:Geo) (s:Stt) (d:Dk) (G:Gr) (lba:Int) (hg:Bp g=true) (hl:LogB s.txns) (himg:∀ t∈s.txns,∀ x∈t.images,Bz g x=true) (ha:Bu g s.a=true) (h:Gs (Ay g) d G) (hF:∀ a,(G a).bytes.length<=100000) (h8:∀ a,(G a).err≠8) (hb:0<=lba/\lba<g.z*g.d) (hB:∀ p,C2 s.txns (lba.tdiv g.d) 255=some p->p.1.bytes.length<=100000/\(BT g p.1.bytes).isSome=true) :
  ACalls Tryz.prog false 43 [.bp 0 0,iv lba] (FJ g s d) fun r H=>r=Si (QJ g s G (lba.tdiv g.d) (lba.tmod g.d))/\∃ d',Gs (Ay g) d' G/\H=FJ g s d':=by
 have g5:=As.1 hg;have h1:=NL g lba hg hb;have hz:0<=lba.tdiv g.d/\lba.tdiv g.d<g.z:=by
  rw [Bn hb.1];exact⟨DE hb.1 (by omega),D6 (by omega) hb.2⟩
 have hA:0<=lba.tmod g.d/\lba.tmod g.d<g.d:=⟨Bk _ hb.1,AY _ (by omega)⟩;obtain⟨Z,hZ⟩:∃ Z,Z=lba.tdiv g.d:=⟨_,rfl⟩;obtain⟨A,hAe⟩:∃ A,A=lba.tmod g.d:=⟨_,rfl⟩;rw [<-hZ] at h1 hz hB |-
 rw [<-hAe] at h1 hA |-
 have h2:=Qy g s d G Z hg hl ha h hF h8 hz hB;have h3:=I1 s.txns Z A hl.n hl.i;obtain⟨O,hO⟩:∃ O,O=QJ g s G Z A:=⟨_,rfl⟩;rw [<-hO];unfold QJ at hO;cases hT:GF g s G Z with
 | none=>
  rw [hT] at h2 hO;simp only at h2 hO;subst hO;refine zT tys_ok Tryz.func43 rfl rfl (Ag rfl) ?_;conv=>whnf
  refine zZ h1 ?_;conv=>whnf
  refine zd [0,1,2,3,4] h2 ?_;rintro _ _ ⟨rfl,d2,hd2,rfl⟩;conv=>whnf
  repeat' (refine z_ ?_;conv=>whnf)
  exact⟨_,Si none,FJ g s d2,BW (m:= [bA [],iv 13]) ⟨Bh 1 _,ri,tv⟩,zR (s:= [0,1,2,3,4]) tA,rfl,d2,hd2,rfl⟩
 | some t=>
  rw [hT] at h2 hO;simp only at h2 hO;have htok:=Oo hT;have htl:=G6 htok;have ixA:0<=A/\A<(t.length:Nat):=by omega
  by_cases hlo:(t.getD A.toNat ez).lost=true
  ·rw [if_pos hlo] at hO;subst hO;refine zT tys_ok Tryz.func43 rfl rfl (Ag rfl) ?_;conv=>whnf
   refine zZ h1 ?_;conv=>whnf
   refine zd [0,1,2,3,4] h2 ?_;rintro _ _ ⟨rfl,d2,hd2,rfl⟩;conv=>whnf
   repeat' (refine z_ ?_;conv=>whnf)
   refine⟨ixA,?_⟩;conv=>whnf
   rw [show (t.getD A.toNat ⟨0,0,false⟩).lost=true from hlo];exact⟨_,Si none,FJ g s d2,BW (m:= [bA [],iv 13]) ⟨Bh 1 _,ri,tv⟩,zR (s:= [0,1,2,3,4]) tA,rfl,d2,hd2,rfl⟩
  rw [if_neg hlo] at hO;have hlo:(t.getD A.toNat ⟨0,0,false⟩).lost=false:=Bool.eq_false_iff.2 hlo;cases hL:C2 s.txns Z A with
  | some p=>
   have e1:F3 g s G t Z A=p.1.bytes:=by unfold F3;rw [hL]
   have hp8:p.1.bytes.length=8:=by
    obtain⟨x,q⟩:=p;obtain⟨t',ht, -,hx, -,e⟩:=GY (Ah _) hL;exact((E7 (himg t' ht x hx)).2 (by rw [e];omega)).2.2
   rw [e1,if_pos (by omega)] at hO;subst hO;rw [hL] at h3;simp only at h3;refine zT tys_ok Tryz.func43 rfl rfl (Ag rfl) ?_;conv=>whnf
   refine zZ h1 ?_;conv=>whnf
   refine zd [0,1,2,3,4] h2 ?_;rintro _ _ ⟨rfl,d2,hd2,rfl⟩;conv=>whnf
   repeat' (refine z_ ?_;conv=>whnf)
   refine⟨ixA,?_⟩;conv=>whnf
   rw [hlo];conv=>whnf
   refine zd [4] h3 ?_;rintro _ _ ⟨rfl,rfl⟩;exact⟨_,Si (some p.1.bytes),FJ g s d2,fun _ _ h=>h,zR (s:= [0,1,2,3,4]) tA,rfl,d2,hd2,rfl⟩
  | none=>
   have e1:F3 g s G t Z A=(DD (G (BH g s.a Z A)) (BH g s.a Z A) (t.getD (Em g A).toNat ez)).getD []:=by unfold F3;rw [hL]
   rw [hL] at h3;simp only at h3;refine zT tys_ok Tryz.func43 rfl rfl (Ag rfl) ?_;conv=>whnf
   refine zZ h1 ?_;conv=>whnf
   refine zd [0,1,2,3,4] h2 ?_;rintro _ _ ⟨rfl,d2,hd2,rfl⟩;have h4:=Ky g s d2 G Z A t hg ha hd2 hF h8 hz (by omega) htl;rw [<-e1] at h4;conv=>whnf
   repeat' (refine z_ ?_;conv=>whnf)
   refine⟨ixA,?_⟩;conv=>whnf
   rw [hlo];conv=>whnf
   refine zd [4] h3 ?_;rintro _ _ ⟨rfl,rfl⟩;conv=>whnf
   repeat' (refine z_ ?_;conv=>whnf)
   refine zd [0,1,2,3,4] h4 ?_;rintro _ _ ⟨rfl,d3,hd3,rfl⟩;conv=>whnf
   repeat' (refine z_ ?_;conv=>whnf)
   by_cases hq:0<(F3 g s G t Z A).length
   ·rw [if_pos hq] at hO;subst hO;rw [show decide ((((F3 g s G t Z A).length:Nat):Int) > 0)=true from decide_eq_true (by omega)];exact⟨_,Si (some (F3 g s G t Z A)),FJ g s d3,fun _ _ h=>h,zR (s:= [0,1,2,3,4]) tA,rfl,d3,hd3,rfl⟩
   ·rw [if_neg hq] at hO;have h5:=KQ g s d3 G Z hg hl ha hd3 hF h8 hz hB t hT;obtain⟨k1,k2⟩:=Mq hg (s:=s) (G:=G) (t:=t) (z:=Z) himg;have h6:=QT g t (Fo g s G t Z) A.toNat hg htok k1 k2 (by omega);rw [show ((A.toNat:Nat):Int)=A by omega] at h6;rw [show decide ((((F3 g s G t Z A).length:Nat):Int) > 0)=false from decide_eq_false (by omega)];conv=>whnf
    refine zd [0,1,2,3,4] h5 ?_;rintro _ _ ⟨rfl,d4,hd4,rfl⟩;conv=>whnf
    repeat' (refine z_ ?_;conv=>whnf)
    by_cases hk:0<(BL g t (Fo g s G t Z) A.toNat).length
    ·rw [if_pos hk] at hO h6;subst hO;apply zW (0) tys_ok mixed (.o [0,1,2,3,4,5,6,7,8,9,10,11] .fin) (by kernel_rfl);conv=>whnf
     refine zZ h6 ?_;conv=>whnf
     all_goals exact⟨_,Si (some (BL g t (Fo g s G t Z) A.toNat)),FJ g s d4,fun _ _ h=>h,zR (s:= [0,1,2,3,4]) tA,rfl,d4,hd4,rfl⟩
    ·rw [if_neg hk] at hO h6;subst hO;apply zW (0) tys_ok mixed (.o [0,1,2,3,4,5,6,7,8,9,10,11] .fin) (by kernel_rfl);conv=>whnf
     refine zZ h6 ?_;conv=>whnf
     all_goals exact⟨_,Si none,FJ g s d4,fun _ _ h=>h,zR (s:= [0,1,2,3,4]) tA,rfl,d4,hd4,rfl⟩
structure AtsOk (g:Geo) (l:List Int):Prop where
 pos:0<l.length
 len:l.length<=1000
 at_:∀ i:Nat,i<l.length->0<=l.getD i 0/\l.getD i 0<g.d
 up:∀ i:Nat,i+1<l.length->l.getD i 0<l.getD (i+1) 0
theorem AtsOk.lt {g:Geo} {l:List Int} (h:AtsOk g l):∀ {j k:Nat},j<k->k<l.length->l.getD j 0<l.getD k 0:=fun {j k} hjk hk=>by
 induction k with
 | zero=>omega
 | succ k ih=>
  by_cases e:j=k
  ·rw [e];exact h.up k hk
  ·exact Int.lt_trans (ih (by omega) (by omega)) (h.up k hk)
theorem AtsOk.inj {g:Geo} {l:List Int} (h:AtsOk g l) {j k:Nat} (hj:j<l.length) (hk:k<l.length) (e:l.getD j 0=l.getD k 0):j=k:=by
 rcases Nat.lt_trichotomy j k with q | q | q
 ·have:=h.lt q hk;omega
 ·exact q
 ·have:=h.lt q hj;omega
theorem K7 (g:Geo) (l:List Int) (h:AtsOk g l):Fn Tryz.prog 233 [.ag (AT g),iA l] fun r=>r = .v (.bool true):=by
 have hp:=h.pos;have hln:=h.len;refine zS Tryz.func233 rfl ?_;conv=>whnf
 refine zU Nat (fun k=>([(1,iA l),(2, .bp 0 0),(7,iA l),(8,iv (l.length:Nat)),(9,iv (k:Nat))], [.box 23 (AT g)])) (fun k=>k<=l.length) (fun k=>l.length - k) 0 (Aj _)
  (zR (s:= [0]) tA) ?_
 intro k hk;conv=>whnf
 refine A8 (fun h6=>?_) (fun h6=>?_) <;> (repeat rw [Ac] at h6) <;> conv=>whnf
 ·have hk':k<l.length:=by omega
  obtain⟨q1,q2⟩:=h.at_ k hk';repeat' (refine z_ ?_;conv=>whnf)
  refine⟨⟨by omega,by omega⟩,?_⟩;conv=>whnf
  repeat' (refine z_ ?_;conv=>whnf)
  rw [Ac,show decide (l.getD k 0<0)=false from decide_eq_false (by omega)];conv=>whnf
  rw [show decide (l.getD k 0>=g.d)=false from decide_eq_false (by omega)];conv=>whnf
  by_cases hk0:k=0
  ·rw [show decide (((k:Nat):Int) > 0)=false from decide_eq_false (by omega)];conv=>whnf
   repeat' (refine z_ ?_;conv=>whnf)
   exact⟨k+1,hk',by omega,zR (s:= [0]) ⟨⟨rfl,rfl,rfl,rfl,AH (by omega),tv⟩,tA,rfl,rfl,rfl,rfl,rfl⟩⟩
  ·have hu:=h.up (k - 1) (by omega);have ew:IntKind.i64.wrap (((k:Nat):Int) - 1)=((k - 1:Nat):Int):=by rw [wi (by omega)];omega
   rw [show decide (((k:Nat):Int) > 0)=true from decide_eq_true (by omega)];conv=>whnf
   rw [ew];refine⟨⟨by omega,by omega⟩,?_⟩;conv=>whnf
   rw [Ac,show decide (l.getD k 0<=l.getD (k - 1) 0)=false from decide_eq_false (by rw [Nat.sub_add_cancel (by omega)] at hu;omega)];conv=>whnf
   repeat' (refine z_ ?_;conv=>whnf)
   exact⟨k+1,hk',by omega,zR (s:= [0]) ⟨⟨rfl,rfl,rfl,rfl,AH (by omega),tv⟩,tA,rfl,rfl,rfl,rfl,rfl⟩⟩
 ·repeat' (refine z_ ?_;conv=>whnf)
  exact⟨_,ri,by rw [show decide (((l.length:Nat):Int) > 0)=true from decide_eq_true (by omega)]⟩
theorem XT (l:List Int) (p:Int) (hl:l.length<=1000000):Fn Tryz.prog 186 [iA l,iv p] fun r=>∃ n:Int,r = iv n/\((n = -1/\∀ j:Nat,j<l.length->l.getD j 0≠p)\/∃ k:Nat,k<l.length/\n=(k:Nat)/\l.getD k 0=p):=by
 refine zS Tryz.func186 rfl ?_;conv=>whnf
 refine zU Nat (fun k=>([(0,iA l),(1,iv p),(7,iv (l.length:Nat)),(8,iv (k:Nat))], [])) (fun k=>k<=l.length/\∀ j:Nat,j<k->l.getD j 0≠p) (fun k=>l.length - k) 0 ⟨Aj _,fun j hj=>absurd hj (Ap j)⟩
  (zR (s:= []) tA) ?_
 rintro k ⟨hk,hI⟩;conv=>whnf
 refine A8 (fun h6=>?_) (fun h6=>?_) <;> (repeat rw [Ac] at h6) <;> conv=>whnf
 ·have hk':k<l.length:=by omega
  repeat' (refine z_ ?_;conv=>whnf)
  refine⟨⟨by omega,by omega⟩,?_⟩;conv=>whnf
  rw [Ac];by_cases e:l.getD k 0=p
  ·rw [show (p == l.getD k 0)=true from beq_iff_eq.2 e.symm];exact⟨_,ri,_,rfl, .inr ⟨k,hk',rfl,e⟩⟩
  ·rw [show (p == l.getD k 0)=false from beq_eq_false_iff_ne.2 (Ne.symm e)];conv=>whnf
   repeat' (refine z_ ?_;conv=>whnf)
   exact⟨k+1,⟨hk',fun j hj=>by by_cases q:j=k;exact q ▸ e;exact hI j (by omega)⟩,by omega,zR (s:= []) ⟨⟨rfl,rfl,rfl,AH (by omega),tv⟩,tv,rfl,rfl,rfl,rfl,rfl⟩⟩
 ·have ek:k=l.length:=by omega
  subst ek;exact⟨_,ri,_,rfl, .inl ⟨rfl,hI⟩⟩
theorem PL {ats:List Int} {bs:List (List UInt8)} {i:Nat}:∀ m,(∀ j:Nat,j<m->ats.getD j 0≠(i:Int))->CR ats bs i m=none
 | 0,_=>rfl
 | m+1,h=>by rw [CR,if_neg (h m (by omega)),PL m fun j hj=>h j (by omega)]
theorem PM {g:Geo} {ats:List Int} (h:AtsOk g ats) {bs:List (List UInt8)} {i k:Nat} (hk:k<ats.length) (e:ats.getD k 0=(i:Int)):∀ m,k<m->m<=ats.length->CR ats bs i m=some (bs.getD k [])
 | 0,q,_=>absurd q (Ap k)
 | m+1,q,hm=>by
  rw [CR];by_cases hq:k=m
  ·rw [<-hq,if_pos e]
  ·rw [if_neg fun q2=>hq (h.inj hk (by omega) (e.trans q2.symm)),PM h hk e m (by omega) (by omega)]
def Ef (g:Geo) (t:List Ent) (had:List (List UInt8)) (ats:List Int) (bs:List (List UInt8)) (k:Nat):List (List UInt8):=((List.range k).map (FO g t had ats bs)).filter fun b=>decide (b.length≠0)
section
variable {g:Geo} {t:List Ent} {had:List (List UInt8)} {ats:List Int} {bs:List (List UInt8)}
theorem LE (k:Nat):Ef g t had ats bs (k+1)=Ef g t had ats bs k ++ if (FO g t had ats bs k).length=0 then [] else [FO g t had ats bs k]:=by
 unfold Ef;rw [Bd,Az,List.filter_append,List.map_singleton];congr 1;by_cases h:(FO g t had ats bs k).length=0
 ·rw [if_pos h,Dv,if_neg (by simp [Bv h])];try rfl
 ·rw [if_neg h,Dv,if_pos (decide_eq_true h)];try rfl
theorem stayG_xor:∀ k,G1 (Ef g t had ats bs k)=DA g t had ats bs k
 | 0=>rfl
 | k+1=>by
  have ih:=stayG_xor k;rw [LE,DA];unfold G1 at ih |-
  rw [BM,ih];split <;> rfl
theorem XP (h8:∀ b∈had,b.length=0\/b.length=8) (hb:∀ b∈bs,b.length=8) (hl:ats.length<=bs.length) (k:Nat):(Ef g t had ats bs k).length<=k/\∀ b∈Ef g t had ats bs k,b.length=8:=by
 refine⟨by unfold Ef;exact Bo (List.length_filter_le _ _) (by simp),fun b hq=>?_⟩;unfold Ef at hq;obtain⟨h1,h2⟩:=List.mem_filter.1 hq;obtain⟨i, -,rfl⟩:=AK.1 h1;rcases Me (g:=g) (t:=t) (had:=had) (ats:=ats) (bs:=bs) h8 hb hl i with e | e
 ·exact absurd e (of_decide_eq_true h2)
 ·exact e
end
theorem Re (g:Geo) (t:List Ent) (had:List (List UInt8)) (ats:List Int) (bs:List (List UInt8)) (stamp:Int) (hg:Bp g=true) (ht:FX g t=true) (hh:(had.length:Int)=g.d+1) (h8:∀ b∈had,b.length=0\/b.length=8) (hA:AtsOk g ats) (hn:ats.length=bs.length) (hb:∀ b∈bs,b.length=8) (hs:0<=stamp/\stamp<=4294967295) :
  Fn Tryz.prog 177 [.ag (AT g), .ag [Bm t],Ev had,iA ats,Ev bs,iv stamp] fun r=>r = .tp [.ag [Bm (Br g t had ats bs stamp)],bA (DA g t had ats bs g.d.toNat),iv 0]:=by
 obtain⟨g1,g2,g3,g4,g5⟩:=As.1 hg;have htl:=G6 ht;have hal:=hA.len;have hz:=Vh g t had hg ht hh h8;have hr:=K7 g ats hA;have hw:=J_ bs (by omega) hb;have htw:=Tu t (by omega);have l1:(JT g t had had.length).length=had.length:=by simp [JT]
 have l2:(JS g t had had.length).length=had.length:=by simp [JS]
 refine zS Tryz.func177 rfl ?_;conv=>whnf
 refine zZ hz ?_;conv=>whnf
 refine zZ hr ?_;conv=>whnf
 rw [show decide (stamp<0)=false from decide_eq_false (by omega)];conv=>whnf
 rw [show decide (stamp > 4294967295)=false from decide_eq_false (by omega)];conv=>whnf
 rw [show (((bs.length:Nat):Int) != ((ats.length:Nat):Int))=false from bne_eq_false_iff_eq.2 (by rw [hn])];conv=>whnf
 refine zZ hw ?_;conv=>whnf
 refine zV htw rfl ?_;rintro _ _ ⟨rfl,rfl⟩;conv=>whnf
 refine zU Nat (fun i=>([(3,iA ats),(4,Ev bs),(5,iv stamp),(6, .bp 0 0),(12, .bp 2 0),(15,Ev (JT g t had had.length)),(16,aO (JS g t had had.length)),(17, .ow 4 (Ef g t had ats bs i).length),(62,iv g.d),(63,iv (i:Nat))], [.box 23 (AT g), .box 70 [Bm t], .box 70 [.ow 3 t.length], .row 97 3 ((DL g t had ats bs stamp i).map Cb), .row 47 1 ((Ef g t had ats bs i).map DY)])) (fun i=>i<=g.d.toNat) (fun i=>g.d.toNat - i) 0 (Aj _)
  ⟨_,_,zG _ _, [(17,47,1)],tA, [0,1,2,3,4],tA,tA,rfl,rfl,rfl,rfl,rfl⟩ ?_
 intro i hi;obtain⟨hsl,hs8⟩:=XP (g:=g) (t:=t) (had:=had) (ats:=ats) (bs:=bs) h8 hb (by omega) i;by_cases hin:i<g.d.toNat
 ·have hit:i<t.length:=by omega
  have hih:i<had.length:=by omega
  have hix:=XT ats (i:Nat) (by omega);have hlo2:=JB g t had ats bs stamp (Nat.le_of_lt hit);have hst:=LE (g:=g) (t:=t) (had:=had) (ats:=ats) (bs:=bs) i;conv=>whnf
  rw [show decide ((i:Int)<g.d)=true from decide_eq_true (by omega)];conv=>whnf
  repeat' (refine z_ ?_;conv=>whnf)
  refine zH hix rfl ?_;rintro _ ⟨n,rfl,⟨rfl,hno⟩ | ⟨k,hk,rfl,hk2⟩⟩
  ·have hp:=PL (bs:=bs) ats.length hno;have hN:FO g t had ats bs i=BL g t had i:=by unfold FO;rw [hp]
   have hE:IF g t had ats bs stamp i=if (BL g t had i).length=0 then { t.getD i ez with lost:=true } else t.getD i ez:=by unfold IF;rw [hN,hp]
   rw [hN] at hst;conv=>whnf
   repeat' (refine z_ ?_;conv=>whnf)
   refine Af ⟨by omega,by rw [l2];omega⟩ ?_;conv=>whnf
   rw [show (JS g t had had.length).getD ((i:Nat):Int).toNat false=decide (0<(BL g t had i).length) by rw [Ac,JS,Aa,AS,Bq (by omega)];try rfl];by_cases hq:0<(BL g t had i).length
   ·rw [decide_eq_true hq];rw [if_neg (by omega)] at hE hst;conv=>whnf
    repeat' (refine z_ ?_;conv=>whnf)
    refine Af ⟨by omega,by rw [l1];omega⟩ ?_;conv=>whnf
    rw [show (JT g t had had.length).getD ((i:Nat):Int).toNat []=BL g t had i by rw [Ac,JT,Aa,AS,Bq (by omega)];try rfl];refine⟨rfl,?_⟩;refine⟨⟨by rw [Ab],by omega⟩,?_⟩;conv=>whnf
    exact⟨i+1,by omega,by omega,zR (s:= [0,1,2,3,4]) ⟨⟨rfl,rfl,rfl,rfl,rfl,rfl,rfl,congrArg (AV.ow 4) (show (Ef g t had ats bs i).length+1=(Ef g t had ats bs (i+1)).length by rw [hst,Ai];try rfl),rfl,AH (by omega),tv⟩,⟨rfl,rfl,rfl,congrArg (fun z=>some (AB.row 97 3 z)) (show (DL g t had ats bs stamp i).map Cb=(DL g t had ats bs stamp (i+1)).map Cb by rw [<-GS g t had ats bs stamp hit,hE,Wj g t had ats bs stamp hit]),congrArg (fun z=>some (AB.row 47 1 z)) (show (Ef g t had ats bs i).map DY ++ [DY (BL g t had i)]=(Ef g t had ats bs (i+1)).map DY by rw [hst,Az];try rfl),tv⟩,rfl,rfl,rfl,rfl,rfl⟩⟩
   ·rw [decide_eq_false hq];rw [if_pos (by omega)] at hE hst;conv=>whnf
    repeat' (refine z_ ?_;conv=>whnf)
    refine⟨⟨by omega,by omega⟩,?_⟩;refine⟨⟨rfl,by rw [Ab,hlo2],by omega⟩,?_⟩;rw [Ac,show ((DL g t had ats bs stamp i).map Cb).getD i []=Cb ((DL g t had ats bs stamp i).getD i ez) from Bc (by omega),show (DL g t had ats bs stamp i).getD i ez=t.getD i ez by rw [DL,Aa,A2 (by simp),Ab,Cg,Cq,BI,C6,<-Aa]];conv=>whnf
    repeat' (refine z_ ?_;conv=>whnf)
    exact⟨i+1,by omega,by omega,zR (s:= [0,1,2,3,4]) ⟨⟨rfl,rfl,rfl,rfl,rfl,rfl,rfl,congrArg (AV.ow 4) (show (Ef g t had ats bs i).length=(Ef g t had ats bs (i+1)).length by rw [hst,AL]),rfl,AH (by omega),tv⟩,⟨rfl,rfl,rfl,congrArg (fun z=>some (AB.row 97 3 z)) (show ((DL g t had ats bs stamp i).map Cb).set i (Cb { t.getD i ez with lost:=true })=(DL g t had ats bs stamp (i+1)).map Cb by rw [<-Ca,<-hE,GS g t had ats bs stamp hit]),congrArg (fun z=>some (AB.row 47 1 (List.map DY z))) (show Ef g t had ats bs i=Ef g t had ats bs (i+1) by rw [hst,AL]),tv⟩,rfl,rfl,rfl,rfl,rfl⟩⟩
  ·have hp:=PM hA (bs:=bs) hk hk2 ats.length hk (Ah _);have hN:FO g t had ats bs i=bs.getD k []:=by unfold FO;rw [hp]
   have hb8:=hb _ (A6 (d:=([]:List UInt8)) (show k<bs.length by omega));have hE:IF g t had ats bs stamp i=⟨stamp,(C4 (bs.getD k []):Nat),false⟩:=by unfold IF;rw [hN,hp,if_neg (by omega)]
   have em:=Qp stamp (bs.getD k []) hs hb8;have ixA:(0:Int)<=(k:Nat)/\((k:Nat):Int)<(bs.length:Nat):=by omega
   rw [hN,if_neg (by omega)] at hst;conv=>whnf
   repeat' (refine z_ ?_;conv=>whnf)
   rw [show decide (((k:Nat):Int)>=0)=true from decide_eq_true (by omega)];conv=>whnf
   apply zW (0) tys_ok mixed (.o [0,1,2,3,4,5,6,7,8,9,10,11,12,13] .fin) (by kernel_rfl);conv=>whnf
   try (refine tI ?_;conv=>whnf)
   (rw [Ac];refine zZ em ?_)
   conv=>whnf
   try (refine tI ?_;conv=>whnf)
   try (refine tS ?_;conv=>whnf)
   all_goals rw [show ((DL g t had ats bs stamp i).map Cb).getD (((i:Nat):Int)).toNat []=Cb ((DL g t had ats bs stamp i).getD i ez) by rw [Ac];exact Bc (by omega)]
   all_goals
    conv=>whnf
    repeat' (refine z_ ?_;conv=>whnf)
    refine⟨ixA,?_⟩;conv=>whnf
    rw [Ac k];refine⟨rfl,?_⟩;refine⟨⟨by rw [Ab],by omega⟩,?_⟩;conv=>whnf
    exact⟨i+1,by omega,by omega,zR (s:= [0,1,2,3,4]) ⟨⟨rfl,rfl,rfl,rfl,rfl,rfl,rfl,congrArg (AV.ow 4) (show (Ef g t had ats bs i).length+1=(Ef g t had ats bs (i+1)).length by rw [hst,Ai];try rfl),rfl,AH (by omega),tv⟩,⟨rfl,rfl,rfl,congrArg (fun z=>some (AB.row 97 3 z)) (show ((DL g t had ats bs stamp i).map Cb).set (((i:Nat):Int)).toNat (Cb ⟨stamp,(C4 (bs.getD k []):Nat),false⟩)=(DL g t had ats bs stamp (i+1)).map Cb by rw [Ac,<-Ca,<-hE,GS g t had ats bs stamp hit]),congrArg (fun z=>some (AB.row 47 1 z)) (show (Ef g t had ats bs i).map DY ++ [DY (bs.getD k [])]=(Ef g t had ats bs (i+1)).map DY by rw [hst,Az];try rfl),tv⟩,rfl,rfl,rfl,rfl,rfl⟩⟩
 ·have ei:i=g.d.toNat:=by omega
  subst ei;have hxa:=Oi (Ef g t had ats bs g.d.toNat) (by omega) hs8;rw [stayG_xor] at hxa;have hp8:(DA g t had ats bs g.d.toNat).length=8:=EI h8 hb (by omega) _;have he:=Qp stamp (DA g t had ats bs g.d.toNat) hs hp8;conv=>whnf
  rw [show decide (((g.d.toNat:Nat):Int)<g.d)=false from decide_eq_false (by omega)];conv=>whnf
  repeat' (refine z_ ?_;conv=>whnf)
  refine Fn.shut (args':= [.sl 1 (Ef g t had ats bs g.d.toNat).length fun i=>((Ef g t had ats bs g.d.toNat).map DY).getD i [],iv 8]) (hxa.subA ⟨Ei rfl rfl,fun _ _ h=>h,tv⟩) ⟨by rw [Ab],rfl,?_⟩;rintro _ rfl;conv=>whnf
  apply zW (0) tys_ok mixed (.o [0,1,2,3,4,5,6,7,8,9,10,11] .fin) (by kernel_rfl);conv=>whnf
  refine zZ he ?_;conv=>whnf
  try (refine tI ?_;conv=>whnf)
  try (refine tS ?_;conv=>whnf)
  have hdl:g.d.toNat<t.length:=by omega
  have hlo2:=JB g t had ats bs stamp (Nat.le_of_lt hdl);have eW:(DL g t had ats bs stamp g.d.toNat).set g.d.toNat ⟨stamp,(C4 (DA g t had ats bs g.d.toNat):Nat),false⟩=Br g t had ats bs stamp:=by
   rw [JA g t had ats bs stamp hdl,Br,AE (by omega)]
  have hgl:((DL g t had ats bs stamp g.d.toNat).map Cb).getD g.d.toNat []=Cb ((DL g t had ats bs stamp g.d.toNat).getD g.d.toNat ez):=Bc (by omega);have eR:((DL g t had ats bs stamp g.d.toNat).map Cb).set g.d.toNat (Cb ⟨stamp,(C4 (DA g t had ats bs g.d.toNat):Nat),false⟩)=(Br g t had ats bs stamp).map Cb:=by rw [<-Ca,eW]
  have eN:(Br g t had ats bs stamp).length=t.length:=by simp [Br];omega
  all_goals
   refine⟨⟨rfl,by rw [Ab,hlo2],hdl⟩,?_⟩;rw [hgl];refine⟨(by rw [AW,Ab,hlo2]),?_⟩;exact⟨.tp [.ag [Bm (Br g t had ats bs stamp)],bA (DA g t had ats bs g.d.toNat),iv 0],BW ⟨Bi ⟨Bb (f:=Cb) (Br g t had ats bs stamp) eN.symm eR,tv⟩,ri,ri,tv⟩,rfl⟩
theorem Pw (g:Geo) (z:Int) (t:List Ent) (par:List UInt8) (ats:List Int) (bs:List (List UInt8)) (hg:Bp g=true) (hz:0<=z/\z<g.z) (ht:FX g t=true) (hp:par.length=8) (hA:AtsOk g ats) (hn:ats.length=bs.length) (hb:∀ b∈bs,b.length=8) :
  Fn Tryz.prog 178 [.ag (AT g),iv z, .ag [Bm t],bA par,iA ats,Ev bs] fun r=>r = .tp [Dm (BU z t par ats bs),iv 0]:=by
 obtain⟨g1,g2,g3,g4,g5⟩:=As.1 hg;have htl:=G6 ht;have hal:=hA.len;have h1:=Cp par (by omega);have h3:=Nk g t (by omega);rw [ht,if_pos rfl] at h3;have hr:=K7 g ats hA;have hw:=J_ bs (by omega) hb;have hwp:=J_ [par] (show 1<=1000000 by decide) (fun x hx=>by rw [AC] at hx;rw [hx];exact hp);obtain⟨I,hI⟩:∃ I:List Img,I=(List.range ats.length).map fun i=>⟨z,ats.getD i 0,bs.getD i []⟩:=⟨_,rfl⟩
 have hIl:I.length=ats.length:=by rw [hI,Ab,Cg]
 refine zS Tryz.func178 rfl ?_;conv=>whnf
 refine zZ h3 ?_;conv=>whnf
 rw [show decide (z<0)=false from decide_eq_false (by omega)];conv=>whnf
 rw [show decide (z>=g.z)=false from decide_eq_false (by omega)];conv=>whnf
 refine zZ hr ?_;conv=>whnf
 rw [show (((bs.length:Nat):Int) != ((ats.length:Nat):Int))=false from bne_eq_false_iff_eq.2 (by rw [hn])];conv=>whnf
 refine zZ hw ?_;conv=>whnf
 refine zp (args':= [.sl 1 1 fun i=>([DY par]:List (List AV)).getD i []]) (hwp.subA ⟨Ei (L:= [par]) rfl rfl,tv⟩) tA ?_;rintro _ rfl;refine⟨rfl,?_⟩;conv=>whnf
 refine zU Nat (fun k=>([(1,iv z),(3,bA par),(5,Ev bs),(14,bA (CW t)),(16, .ow 2 k),(61,iA ats),(62,iv (ats.length:Nat)),(63,iv (k:Nat))], [.box 23 (AT g), .box 70 [Bm t], .row 166 3 ((I.take k).map D8)])) (fun k=>k<=ats.length) (fun k=>ats.length - k) 0 (Aj _)
  ⟨_,_,zG _ _, [(16,166,3)],tA, [0,1,3],tA,tA,rfl,rfl,rfl,rfl,rfl⟩ ?_
 intro k hk;by_cases hk1:k<ats.length
 ·have h2:=Cp (bs.getD k []) (by have:=hb _ (A6 (d:=([]:List UInt8)) (show k<bs.length by omega));omega);have e1:(I.take k).map D8 ++ [D8 ⟨z,ats.getD k 0,bs.getD k []⟩]=(I.take (k+1)).map D8:=by
   have e:I[k]? = some ⟨z,ats.getD k 0,bs.getD k []⟩:=by rw [hI,AS,Bq hk1];try rfl
   rw [AR,e,Az];try rfl
  conv=>whnf
  rw [show decide (((k:Nat):Int)<((ats.length:Nat):Int))=true from decide_eq_true (by omega)];conv=>whnf
  repeat' (refine z_ ?_;conv=>whnf)
  refine⟨⟨by omega,by omega⟩,?_⟩;conv=>whnf
  repeat' (refine z_ ?_;conv=>whnf)
  refine⟨⟨by omega,by omega⟩,?_⟩;conv=>whnf
  rw [Ac];refine zZ h2 ?_;refine⟨rfl,?_⟩;conv=>whnf
  refine Af ⟨by rw [Ab,Aq,hIl];omega,by omega⟩ ?_;exact⟨k+1,by omega,by omega,zR (s:= [0,1,2]) ⟨⟨rfl,rfl,rfl,rfl,rfl,rfl,rfl,AH (by omega),tv⟩,⟨rfl,rfl,congrArg (fun es=>some (AB.row 166 3 es)) e1,tv⟩,rfl,rfl,rfl,rfl,rfl⟩⟩
 ·have ek:k=ats.length:=by omega
  subst ek;conv=>whnf
  rw [show decide (((ats.length:Nat):Int)<((ats.length:Nat):Int))=false from decide_eq_false (by omega)];conv=>whnf
  repeat' (refine z_ ?_;conv=>whnf)
  rw [show I.take ats.length=I by rw [<-hIl,Aw]];refine zZ h1 ?_;refine⟨rfl,?_⟩;refine⟨⟨by rw [Ab,hIl],by omega⟩,?_⟩;conv=>whnf
  refine Af (by rw [Ai,Ab,hIl];try rfl) ?_;conv=>whnf
  exact⟨.tp [Dm (BU z t par ats bs),iv 0],BW ⟨Bb (f:=D8) (BU z t par ats bs) (Es z t par ats bs).symm (by unfold BU;rw [<-hI,Az];try rfl),ri,tv⟩,rfl⟩
theorem Xj (g:Geo) (s:Stt) (d:Dk) (x:Rc) (Q:Int) (hg:Bp g=true) (hx:ER g x=true) (hxl:x.img.bytes.length<=100000) (hQ:0<=Q/\Q<g.sl) (h:DkOk d) (hn:(d.cells.length:Int)=Ay g) (h1:(d.write (Bg g 0 Q) (BB g x 0 Q)).2≠8) (h2:((d.write (Bg g 0 Q) (BB g x 0 Q)).1.write (Bg g 1 Q) (BB g x 1 Q)).2≠8) :
  ACalls Tryz.prog false 111 [.bp 0 0, .ag (JW x),iv Q] (FJ g s d) fun r H=>r = .tp [.v (.bool (decide ((d.write (Bg g 0 Q) (BB g x 0 Q)).2=0) || decide (((d.write (Bg g 0 Q) (BB g x 0 Q)).1.write (Bg g 1 Q) (BB g x 1 Q)).2=0))),iv 0]/\H=FJ g s ((d.write (Bg g 0 Q) (BB g x 0 Q)).1.write (Bg g 1 Q) (BB g x 1 Q)).1:=by
 have q0:=Ic (g:=g) (.inl rfl) hQ (c:=0);have q1:=Ic (g:=g) (.inr rfl) hQ (c:=1);have l0:=RM g 0 Q;have l1:=RM g 1 Q;have r0:=PG g x 0 Q hxl;have r1:=PG g x 1 Q hxl;rw [hg,q0] at l0;rw [hg,q1] at l1;rw [hx,q0] at r0;rw [hx,q1] at r1;have b0:=Fj hg hn (.inl rfl) hQ (c:=0);have b1:=Fj hg hn (.inr rfl) hQ (c:=1);have c0:=QE g s d (Bg g 0 Q) (BB g x 0 Q) h (by omega) (C5 hx 0 Q);have hok:=h.write (a:=Bg g 0 Q) (b:=BB g x 0 Q) (by omega) (C5 hx 0 Q);have hlen:(d.write (Bg g 0 Q) (BB g x 0 Q)).1.cells.length=d.cells.length:=Lb d _ _;have c1:=QE g s (d.write (Bg g 0 Q) (BB g x 0 Q)).1 (Bg g 1 Q) (BB g x 1 Q) hok (by omega) (C5 hx 1 Q);rw [if_neg h1] at c0;rw [if_neg h2] at c1;generalize (d.write (Bg g 0 Q) (BB g x 0 Q)).1.write (Bg g 1 Q) (BB g x 1 Q)=W2 at c1 |-
 generalize d.write (Bg g 0 Q) (BB g x 0 Q)=W1 at c0 c1 |-
 generalize decide (W1.2=0)=p1 at c0 |-
 generalize decide (W2.2=0)=p2 at c1 |-
 simp only [Bool.and_self,if_true,if_pos] at l0 l1 r0 r1;cases p1 with
 | true=>
  refine zT tys_ok Tryz.func111 rfl rfl (Ag rfl) ?_;conv=>whnf
  refine zu 3 ?_;conv=>whnf
  repeat' (refine z_ ?_;conv=>whnf)
  refine zZ l0 ?_;conv=>whnf
  repeat' (refine z_ ?_;conv=>whnf)
  apply zW (0) tys_ok mixed (.o [0,1,2,3,4,5,6,7,8,9,10,11,12] .fin) (by kernel_rfl);conv=>whnf
  refine zZ r0 ?_;conv=>whnf
  repeat' (refine z_ ?_;conv=>whnf)
  refine zd [0,1,2,3,4] c0 ?_;rintro _ _ ⟨rfl,rfl⟩;conv=>whnf
  repeat' (refine z_ ?_;conv=>whnf)
  refine zZ l1 ?_;conv=>whnf
  repeat' (refine z_ ?_;conv=>whnf)
  apply zW (0) tys_ok mixed (.o [0,1,2,3,4,5,6,7,8,9,10,11,12] .fin) (by kernel_rfl);conv=>whnf
  refine zZ r1 ?_;conv=>whnf
  repeat' (refine z_ ?_;conv=>whnf)
  refine zd [0,1,2,3,4] c1 ?_;rintro _ _ ⟨rfl,rfl⟩;conv=>whnf
  repeat' (refine z_ ?_;conv=>whnf)
  exact⟨_, .tp [.v (.bool true),iv 0],FJ g s W2.1,fun _ _ h=>h,zR (s:= [0,1,2,3,4]) tA,rfl,rfl⟩
 | false=>
  refine zT tys_ok Tryz.func111 rfl rfl (Ag rfl) ?_;conv=>whnf
  refine zu 3 ?_;conv=>whnf
  repeat' (refine z_ ?_;conv=>whnf)
  refine zZ l0 ?_;conv=>whnf
  repeat' (refine z_ ?_;conv=>whnf)
  apply zW (0) tys_ok mixed (.o [0,1,2,3,4,5,6,7,8,9,10,11,12] .fin) (by kernel_rfl);conv=>whnf
  refine zZ r0 ?_;conv=>whnf
  repeat' (refine z_ ?_;conv=>whnf)
  refine zd [0,1,2,3,4] c0 ?_;rintro _ _ ⟨rfl,rfl⟩;conv=>whnf
  repeat' (refine z_ ?_;conv=>whnf)
  refine zZ l1 ?_;conv=>whnf
  repeat' (refine z_ ?_;conv=>whnf)
  apply zW (0) tys_ok mixed (.o [0,1,2,3,4,5,6,7,8,9,10,11,12] .fin) (by kernel_rfl);conv=>whnf
  refine zZ r1 ?_;conv=>whnf
  repeat' (refine z_ ?_;conv=>whnf)
  refine zd [0,1,2,3,4] c1 ?_;rintro _ _ ⟨rfl,rfl⟩;conv=>whnf
  repeat' (refine z_ ?_;conv=>whnf)
  exact⟨_, .tp [.v (.bool p2),iv 0],FJ g s W2.1,fun _ _ h=>h,zR (s:= [0,1,2,3,4]) tA,rfl,rfl⟩
theorem VolV.far {g:Geo} (hg:Bp g=true) {a:An} (ha:Bu g a=true) {l:List Tx} {F F':Int->List UInt8} {V:Int->Int->List UInt8} (h:VolV g a l F V) (e:∀ q,g.an+2*g.sl<=q->F' q=F q):VolV g a l F' V:=by
 obtain⟨g1,g2,g3,g4,g5⟩:=As.1 hg;intro z h0 h1;obtain⟨t,hz⟩:=h z h0 h1;refine⟨t,⟨?_,hz.len,hz.ent,fun w hw hw2=>?_,hz.par⟩⟩
 ·have:=hz.tab;unfold EP at this |-
  rw [e (AI g z 0) (by unfold AI;omega),e (AI g z 1) (by unfold AI;omega)];exact this
 ·have:=hz.val w hw hw2;obtain⟨sl,e1,e2⟩:=Ey hg ha ⟨h0,h1⟩ (w:=w) ⟨hw,hw2⟩;have hsl:=FE hg ⟨h0,h1⟩ e2;rw [e (BH g a z w) (by omega)];exact this
theorem YJ {g:Geo} (hg:Bp g=true) {a:An} {l:List Tx} {F:Int->List UInt8} {lba:Int} {b:List UInt8} (himg:∀ t∈l,∀ x∈t.images,Bz g x=true) (hs:0<=a.seq+(l.length:Int)/\a.seq+(l.length:Int)<=4294967295) (hlba:0<=lba/\lba<g.z*g.d) (hb:b.length=8) (ht:(EP g (AJ a l) F (lba.tdiv g.d)).isSome=true):(H7 g a l F lba b).images.length=3/\(∀ x∈(H7 g a l F lba b).images,Bz g x=true)/\OneTab (H7 g a l F lba b).images:=by
 obtain⟨g1,g2,g3,g4,g5⟩:=As.1 hg;obtain⟨t,ht⟩:=BD.1 ht;have ei:(H7 g a l F lba b).images=BU (lba.tdiv g.d) (Br g t (Dg g (AJ a l) F t (lba.tdiv g.d)) [lba.tmod g.d] [b] (a.seq+(l.length:Int))) (DA g t (Dg g (AJ a l) F t (lba.tdiv g.d)) [lba.tmod g.d] [b] g.d.toNat) [lba.tmod g.d] [b]:=by
  show IP g (AJ a l) F _ lba b=_;unfold IP;rw [ht]
 have htok:=J1 ht;obtain⟨Z,hZ⟩:∃ Z,Z=lba.tdiv g.d:=⟨_,rfl⟩;obtain⟨A,hA⟩:∃ A,A=lba.tmod g.d:=⟨_,rfl⟩;have hZ2:0<=Z/\Z<g.z:=by
  rw [hZ,Bn hlba.1];exact⟨DE hlba.1 (by omega),D6 (by omega) hlba.2⟩
 have hA2:0<=A/\A<g.d:=by
  rw [hA];exact⟨Bk _ hlba.1,AY _ (by omega)⟩
 rw [<-hZ,<-hA] at ei;have hadlen:∀ x∈Dg g (AJ a l) F t Z,x.length=0\/x.length=8:=fun x hx=>by
  have himg:∀ t∈(AJ a l).txns,∀ x∈t.images,Bz g x=true:=himg;rcases A0.1 hx with q | q
  ·obtain⟨i,hi,rfl⟩:=AK.1 q;exact GT himg (by have:=AP.1 hi;omega)
  ·rw [AC] at q;rw [q];exact GT himg (by decide)
 have h01:∀ x∈ [b],x.length=8:=fun x hx=>by rw [AC] at hx;rw [hx];exact hb
 have hA3:∀ x∈ [A],0<=x/\x<g.d:=fun x hx=>by rw [AC] at hx;rw [hx];exact hA2
 rw [ei];refine⟨by rw [Es];try rfl,fun x hx=>?_,?_⟩
 ·exact(Jj hg hZ2 (EU hg htok (by omega)) (EI hadlen h01 (show [A].length<= [b].length from Ah 1) _) hA3 h01 (Ah 1) x hx).1
 ·exact Il (l:= []) hg List.Pairwise.nil (fun x hx=>by cases hx) hA3
def ah (g:Geo) (M:Md):Prop:=(M.m.length:Int)=g.z*g.d/\∃ V,VolV g M.a M.l M.F V/\∀ z w,0<=z->z<g.z->0<=w->w<g.d->M.m.getD (z*g.d+w).toNat []=V z w
theorem bu {g:Geo} (hg:Bp g=true) {z w:Int} (h0:0<=z) (h1:z<g.z) (h2:0<=w) (h3:w<g.d):0<=z*g.d+w/\z*g.d+w<g.z*g.d:=by
 obtain⟨g1,g2,g3,g4,g5⟩:=As.1 hg;have e1:0<=z*g.d:=CL h0 (by omega);have e2:(z+1)*g.d<=g.z*g.d:=BF (by omega) (by omega);rw [Int.add_mul,Int.one_mul] at e2;omega
theorem Wx {g:Geo} (hg:Bp g=true):ah g (FY g):=by
 obtain⟨g1,g2,g3,g4,g5⟩:=As.1 hg;have hn:0<=g.z*g.d:=CL (by omega) (by omega);refine⟨?_,_,Ww hg,fun z w h0 h1 h2 h3=>?_⟩
 ·show (((List.replicate (g.z*g.d).toNat zero8).length:Nat):Int)=_;rw [B8];omega
 ·have:=bu hg h0 h1 h2 h3;show (List.replicate (g.z*g.d).toNat zero8).getD _ []=zero8;rw [Aa,CE,if_pos (by omega)];try rfl
theorem aM {g:Geo} (hg:Bp g=true) {K:Int} (hK:K<=4294967294) {D:Dk} {M:Md} (hv:Vol g K D (AJ M.a M.l)) (h:ah g M):ah g (YL g M)/\Vol g (K+1) D (AJ (YL g M).a (YL g M).l):=by
 obtain⟨a,l,F,m⟩:=M;cases l with
 | nil=>exact⟨h,⟨hv.gd,hv.an,hv.ring,hv.rest,by have q:a.gen<=K:=hv.gen;show a.gen<=K+1;omega,by have q:a.seq+(([]:List Tx).length:Int)<=K:=hv.seq;show a.seq+(([]:List Tx).length:Int)<=K+1;omega,hv.one⟩⟩
 | cons x r=>
  obtain⟨hm,V,hV,hr⟩:=h;have hi:=(Dx hv.ring x (by show x∈x::r;simp)).1;have h2:=hv.home hg (x:=x) (r:=r) rfl hK (d':=D) hv.gd;have ha:Bu g a=true:=hv.an;obtain⟨a1,a2,a3,a4⟩:=Ew ha;have hr0:C7 g (x::r) a.seq a.pos g.sl=true:=hv.ring;simp only [C7,Ad,decide_eq_true_eq] at hr0;have hxs:x.seq=a.seq:=hr0.1.1;have hseq:a.seq+(x::r).length<=K:=hv.seq;have hl1:1<=(x::r).length:=by simp
  refine⟨⟨hm,V,Tw hg ha (Au.1 hi) (by omega) hV,hr⟩,h2⟩
theorem Ze {g:Geo} (hg:Bp g=true) {K:Int} (hK:K<=4294967294) {D:Dk} {M M':Md} {lba:Int} {b:List UInt8} (hlba:0<=lba/\lba<g.z*g.d) (hb:b.length=8) (hv:Vol g K D (AJ M.a M.l)) (h:ah g M) (hc:br g M lba b M'):ah g M'/\Vol g (K+1) D (AJ M'.a M'.l):=by
 obtain⟨g1,g2,g3,g4,g5⟩:=As.1 hg;rcases hc with ⟨hu,ht,W,hW,rfl⟩ | ⟨-,rfl⟩
 rotate_left 1
 ·exact⟨h,⟨hv.gd,hv.an,hv.ring,hv.rest,by have:=hv.gen;omega,by have:=hv.seq;omega,hv.one⟩⟩
 obtain⟨a,l,F,m⟩:=M;obtain⟨hm,V,hV,hr⟩:=h;simp only at hu ht hW hm hV hr;have ha:Bu g a=true:=hv.an;obtain⟨a1,a2,a3,a4⟩:=Ew ha;have hseq:a.seq+l.length<=K:=hv.seq;have himg:∀ t∈l,∀ x∈t.images,Bz g x=true:=fun t ht=>Au.1 (Dx hv.ring t ht).1
 obtain⟨c1,c2,c3⟩:=YJ hg (F:=F) himg (by omega) hlba hb ht;refine⟨⟨?_,Sw V (H7 g a l F lba b),?_,fun z w h0 h1 h2 h3=>?_⟩,?_⟩
 ·show (((m.set lba.toNat b).length:Nat):Int)=_;rw [AW];exact hm
 ·have q:=QQ hg (x:=H7 g a l F lba b) (by show 0<=a.seq+(l.length:Int)/\a.seq+(l.length:Int)<=4294967295;omega) himg hV (ZY hg hlba hb ht);exact q.far hg ha fun p hp=>Jv (by omega) _ _ rfl fun w hw e=>by have:=(hW w hw).1;omega
 ·rw [ZX hg hlba ht V ⟨h2,h3⟩];show (m.set lba.toNat b).getD (z*g.d+w).toNat []=_;have hz:=bu hg h0 h1 h2 h3;have hdm:g.d*lba.tdiv g.d+lba.tmod g.d=lba:=D5 lba g.d;rw [Aa,List.getElem?_set];by_cases e:z=lba.tdiv g.d/\w=lba.tmod g.d
  ·rw [if_pos e,if_pos (by rw [e.1,e.2,Int.mul_comm,hdm]),if_pos (by omega)];try rfl
  ·rw [if_neg e,if_neg fun q=>e ?_,<-Aa]
   ·exact hr z w h0 h1 h2 h3
   ·have q2:lba=z*g.d+w:=by omega
    have e1:lba.tdiv g.d=lba / g.d:=Bn hlba.1;have e2:lba / g.d=z:=by
     rw [q2,Int.add_comm,Int.add_mul_ediv_right _ _ (by omega),Int.ediv_eq_zero_of_lt h2 h3,Int.zero_add]
    refine⟨by rw [e1,e2],?_⟩;rw [e1,e2,Int.mul_comm] at hdm;omega
 ·exact hv.add hg hK (d':=D) hv.gd (x:=H7 g a l F lba b) rfl rfl (by show (2:Int)<=4;omega) (by show (4:Int)<=g.sl - BX l;omega) (by show (4:Int)=_;rw [c1];try rfl) c2 c3
theorem ZB {g:Geo} (hg:Bp g=true) (L:List Q2):∃ D,∀ (i:Nat) (M:Md),i<=1000->aU g L i M->ah g M/\Vol g (2+2*(i:Nat)) D (AJ M.a M.l):=by
 obtain⟨D, -, -, -,hD,hvo⟩:=SO hg;refine⟨D,fun i=>?_⟩;induction i with
 | zero=>
  intro M _ hM;obtain rfl:=hM;exact⟨Wx hg,hvo.vol hD⟩
 | succ i ih=>
  rintro M hi ⟨M1,M2,h1,⟨lba,b,hl,hb,hc⟩,rfl⟩;obtain⟨r1,v1⟩:=ih M1 (by omega) h1;obtain⟨r2,v2⟩:=Ze hg (by omega) hl hb v1 r1 hc;have e:(2+2*((i+1:Nat):Int))=2+2*(i:Int)+1+1:=by omega
  rw [e];split
  ·exact aM hg (by omega) v2 r2
  ·exact⟨r2,⟨v2.gd,v2.an,v2.ring,v2.rest,by have:=v2.gen;omega,by have:=v2.seq;omega,v2.one⟩⟩

theorem XI (g:Geo) (seq epoch:Int) (l:List Img) (hl:l.length<=100000) (hb:∀ x∈l,x.bytes.length<=100000):Fn Tryz.prog 110 [.ag (AT g),iv seq,iv epoch,Dm l] fun r=>r = .tp [LQ (if KW g seq epoch l=0 then CI seq epoch l else []),iv (KW g seq epoch l)]:=by
 have nilr:∀ c v n,n≠0->KW g seq epoch l=n->Rd (.tp [.v (.slice none 0 0),iv n]) c v->Rd (.tp [LQ (if KW g seq epoch l=0 then CI seq epoch l else []),iv (KW g seq epoch l)]) c v:=by
  intro c v n hn he h;rw [if_neg (by rw [he];exact hn),he];simp only [Rd,RdL] at h |-
  obtain⟨xs,rfl,a,_,rfl,h1,h2⟩:=h;exact⟨_,rfl,a,_,rfl,Bh _ _ _ _ (by simpa [Rd] using h1),h2⟩
 obtain⟨z,d,sp,sl,an⟩:=g;refine zS Tryz.func110 rfl ?_;conv=>whnf
 repeat' (first | (refine Ak (fun h=>?_) (fun h=>?_) <;> (try simp at h) <;> conv=>whnf) | (refine zZ (DV z d sp sl an) ?_;conv=>whnf) | (refine zZ (IY _ _ _) ?_;conv=>whnf))
 iterate 3 (exact⟨_,fun c v h=>nilr c v 1 (by decide) (by simp [KW, *]) h,rfl⟩)
 rename_i h1 h2;have ht0:(Bp ⟨z,d,sp,sl,an⟩&&(CH seq 0 4294967295&&CH epoch 0 4294967295))=true:=by simp [*]
 clear h h1 h2;refine zO Nat (fun k=>([(1,iv seq),(2,iv epoch),(3,Dm l),(4, .bp 0 0),(29,Dm l),(30,iv l.length),(31,iv k)], [.box 23 (AT ⟨z,d,sp,sl,an⟩)])) (fun k=>k<=l.length/\∀ i,i<k->Bz ⟨z,d,sp,sl,an⟩ (l.getD i ⟨0,0, []⟩)=true) (fun k=>l.length - k) 0 ⟨Aj _,by simp⟩ ⟨[],tv,tA,tA,rfl,rfl,rfl⟩ ?_;rintro k ⟨hk,hI⟩;conv=>whnf
 refine Ak (fun h2=>?_) (fun h2=>?_) <;> simp at h2 <;> conv=>whnf
 ·refine⟨by first | omega | (refine⟨rfl,?_,?_⟩ <;> first | omega | (simp only [Ab];done) | (simp only [Ab];omega)) | (simp only [Ab];omega),?_⟩;conv=>whnf
  refine zH (Kp ⟨z,d,sp,sl,an⟩ (l.getD k ⟨0,0, []⟩) (hb _ (A6 h2))) rfl ?_;rintro _ rfl;conv=>whnf
  refine Ak (fun h3=>?_) (fun h3=>?_) <;> conv=>whnf
  ·refine⟨_,fun c v h=>nilr c v 1 (by decide) ?_ h,rfl⟩;have:l.all (Bz ⟨z,d,sp,sl,an⟩)=false:=by
    rw [<-BJ];intro hh;have:=Au.1 hh _ (A6 (d:=⟨0,0, []⟩) h2);rw [this] at h3;simp at h3
   simp [KW,ht0,this]
  ·refine⟨k+1,⟨by omega,fun i hi=>?_⟩,by omega, [],tv,⟨rfl,rfl,rfl,rfl,rfl,rfl,AH (by omega),tv⟩,tA,rfl,rfl,rfl⟩;rcases B_ i k with h | h
   ·exact hI i h
   ·obtain rfl:i=k:=by omega
    cases hq:Bz ⟨z,d,sp,sl,an⟩ (l.getD i ⟨0,0, []⟩) with
    | true=>rfl
    | false=>rw [hq] at h3;simp at h3
 ·have ht1:l.all (Bz ⟨z,d,sp,sl,an⟩)=true:=by
   rw [Au];intro x hx;obtain⟨i,hi,rfl⟩:=Do hx;have:=hI i (by omega);rwa [Aa,Ae hi] at this
  clear hI;refine zZ (IY _ _ _) ?_;conv=>whnf
  refine Ak (fun h3=>?_) (fun h3=>?_) <;> simp at h3 <;> conv=>whnf
  ·exact⟨_,fun c v h=>nilr c v 2 (by decide) (by simp [KW,ht0,ht1,h3]) h,rfl⟩
  have ht2:KW ⟨z,d,sp,sl,an⟩ seq epoch l=0:=by simp [KW,ht0,ht1,h3]
  clear nilr;rw [wi (by omega)];refine zO Nat (fun k=>([(1,iv seq),(2,iv epoch),(13,iv (l.length+1)),(12, .ow 1 k),(47,Dm l),(48,iv l.length),(49,iv k)], [.dead, .row 168 8 ((IH seq epoch (l.length+1) k l).map JW)])) (fun k=>k<=l.length) (fun k=>l.length - k) 0 (Aj _) ⟨[(12,168,8)],tA,tA,tA,rfl,rfl,rfl⟩ ?_;rintro k hk;have hlk:=Ik seq epoch (l.length+1) k l;conv=>whnf
  refine Ak (fun h2=>?_) (fun h2=>?_) <;> simp at h2 <;> conv=>whnf
  ·refine⟨by first | omega | (refine⟨rfl,?_,?_⟩ <;> first | omega | (simp only [Ab];done) | (simp only [Ab];omega)) | (simp only [Ab];omega),?_⟩;conv=>whnf
   refine zH (Cp (l.getD k ⟨0,0, []⟩).bytes (by have:=hb _ (A6 (d:=⟨0,0, []⟩) h2);omega)) rfl ?_;rintro _ rfl;refine⟨rfl,?_⟩;conv=>whnf
   refine⟨⟨by rw [Ab,hlk];omega,by omega⟩,?_⟩;refine⟨k+1,by omega,by omega, [],tv,⟨rfl,rfl,rfl,rfl,rfl,rfl,AH (by omega),tv⟩,⟨YW ?_,tv⟩,rfl,rfl,rfl⟩;rw [Ml _ _ _ h2];try rfl
  ·obtain rfl:k=l.length:=by omega
   rw [wi (by omega),show (l.length:Int)+1 - 1=l.length by omega];refine⟨rfl,?_⟩;conv=>whnf
   refine⟨⟨by rw [Ab,hlk];omega,by omega⟩,?_⟩;conv=>whnf
   refine⟨by rw [Ai,Ab,hlk];simp,?_⟩;refine⟨_,fun c v h=>?_,rfl⟩;rw [ht2,if_pos rfl];simp only [Rd,RdL] at h |-
   obtain⟨xs,rfl,a,_,rfl,h1,h2⟩:=h;exact⟨_,rfl,a,_,rfl,Rd.sub (sz:=8) (Ho seq epoch l).symm (PD seq epoch l) (by simp only [Rd];exact h1),h2⟩
@[reducible] def delX (lba:Int):AV:= .fn 114 [.rp [iA [lba]]]
theorem Zp {g:Geo} {seq epoch:Int} {l:List Img} (hg:Bp g=true) (h1:CH seq 0 4294967295=true) (h2:CH epoch 0 4294967295=true) (h3:l.all (Bz g)=true) (h4:CH l.length 1 29=true):KW g seq epoch l=0:=by
 simp [KW,hg,h1,h2,h3,h4]
theorem QZ {H:List AB} {t:TypeId} {g:Geo} {s:Stt} {T:List Tx} {es:List (List AV)} {n:Nat} (hj:H[0]? = some (.box t (Zf g (.bp 1 0) (.ow 4 n) (iA s.lost) s))) (hk:H[4]? = some (.row 112 4 es)) (hn:n=T.length) (he:es=T.map CO):ConvH H ((H.set 4 .dead).set 0 (.box t (Z_ g (.bp 1 0) { s with txns:=T }))):=by
 subst hn he;have h4:4<H.length:=(Ar.1 hk).1;have e:=zy (H:=H) 0 4 (cs2:=Zf g (.bp 1 0) (.sl 4 (T.map CO).length fun i=>(T.map CO).getD i []) (iA s.lost) s) hj hk (by simp only [A3,By,Ga (Ab _).symm];rfl);have q:=zq (H:=(H.set 4 .dead).set 0 (.box t (Zf g (.bp 1 0) (.sl 4 (T.map CO).length fun i=>(T.map CO).getD i []) (iA s.lost) s))) 0 (t:=t) (cs':=Z_ g (.bp 1 0) { s with txns:=T }) (AD (by rw [AW];omega)) ⟨ri,ri,ri,ri,ri,ri,ri,ri,ri,ri,ri,ri,ri,Bb (f:=CO) T (Ab _) rfl,ri,ri,ri,ri,ri,ri,tv⟩;rw [List.set_set] at q;exact e.trans q
@[reducible] def ao (g:Geo) (s:Stt) (d:Dk):List AB:= [.box 116 (Z_ g (.bp 1 0) s), .box 185 (He (.ow 2 d.cells.length) (.ow 5 d.cache.length) d.reqs d.left), .row 128 3 (d.cells.map BE), .dead, .dead, .row 134 2 (d.cache.map EE)]
@[reducible] def conH (g:Geo) (s:Stt) (d:Dk) (lba:Int):List AB:=FJ g s d ++ [.box 35 [iA [lba]]]
theorem Gg {d:Dk} (h:d.left = -1) (a:Int) (b:List UInt8):(d.write a b).2≠8/\(d.write a b).1.left = -1:=by
 have e:d.req.left = -1:=by unfold Dk.req;rw [h];try rfl
 unfold Dk.write;rw [if_neg (by rw [h];decide)];split
 ·exact⟨by show (7:Int)≠8;decide,e⟩
 ·exact⟨by show (0:Int)≠8;decide,e⟩
def RA (g:Geo) (d:Dk) (x:Rc) (Q:Int):Dk:=((d.write (Bg g 0 Q) (BB g x 0 Q)).1.write (Bg g 1 Q) (BB g x 1 Q)).1
def ak (g:Geo) (d:Dk) (x:Rc) (Q:Int):Bool:=decide ((d.write (Bg g 0 Q) (BB g x 0 Q)).2=0) || decide (((d.write (Bg g 0 Q) (BB g x 0 Q)).1.write (Bg g 1 Q) (BB g x 1 Q)).2=0)
def dW (g:Geo) (P:Int) (R:List Rc) (d:Dk):Nat->Dk
 | 0=>d
 | i+1=>RA g (dW g P R d i) (R.getD i rc0) (Db g P (i:Nat))
def tW (g:Geo) (P:Int) (R:List Rc) (d:Dk) (i:Nat):Bool:=ak g (dW g P R d i) (R.getD i rc0) (Db g P (i:Nat))
theorem ZA {g:Geo} (hg:Bp g=true) {d:Dk} {x:Rc} {Q:Int} (hx:ER g x=true) (hQ:0<=Q/\Q<g.sl) (h:DkOk d) (hl:d.left = -1) (hn:(d.cells.length:Int)=Ay g):DkOk (RA g d x Q)/\(RA g d x Q).left = -1/\((RA g d x Q).cells.length:Int)=Ay g:=by
 have b0:=Fj hg hn (.inl rfl) hQ (c:=0);have b1:=Fj hg hn (.inr rfl) hQ (c:=1);have h1:=h.write (a:=Bg g 0 Q) (b:=BB g x 0 Q) (by omega) (C5 hx 0 Q);have l1:=(Gg hl (Bg g 0 Q) (BB g x 0 Q)).2;have n1:=Lb d (Bg g 0 Q) (BB g x 0 Q);have h2:=h1.write (a:=Bg g 1 Q) (b:=BB g x 1 Q) (by omega) (C5 hx 1 Q);have l2:=(Gg l1 (Bg g 1 Q) (BB g x 1 Q)).2;have n2:=Lb (d.write (Bg g 0 Q) (BB g x 0 Q)).1 (Bg g 1 Q) (BB g x 1 Q);exact⟨h2,l2,by show ((((d.write _ _).1.write _ _).1.cells.length:Nat):Int)=_;omega⟩
theorem Qx {g:Geo} (hg:Bp g=true) {P:Int} {R:List Rc} {n:Nat} (hR:∀ i:Nat,i<n->ER g (R.getD i rc0)=true) (hP:∀ i:Nat,i<n->0<=Db g P (i:Nat)/\Db g P (i:Nat)<g.sl) {d:Dk} (h:DkOk d) (hl:d.left = -1) (hn:(d.cells.length:Int)=Ay g):∀ i,i<=n->DkOk (dW g P R d i)/\(dW g P R d i).left = -1/\((dW g P R d i).cells.length:Int)=Ay g
 | 0,_=>⟨h,hl,hn⟩
 | i+1,hi=>by
  obtain⟨q1,q2,q3⟩:=Qx hg hR hP h hl hn i (by omega);exact ZA hg (hR i (by omega)) (hP i (by omega)) q1 q2 q3
theorem UV (g:Geo) (s:Stt) (d:Dk) (x:Rc) (Q:Int) (hg:Bp g=true) (hx:ER g x=true) (hxl:x.img.bytes.length<=100000) (hQ:0<=Q/\Q<g.sl) (h:DkOk d) (hl:d.left = -1) (hn:(d.cells.length:Int)=Ay g) :
  ACalls Tryz.prog false 111 [.bp 0 0, .ag (JW x),iv Q] (FJ g s d) fun r H=>r = .tp [.v (.bool (ak g d x Q)),iv 0]/\H=FJ g s (RA g d x Q):=
 Xj g s d x Q hg hx hxl hQ h hn (Gg hl _ _).1 (Gg (Gg hl _ _).2 _ _).1


theorem Nc (d:Dk) (a:Int) (b:List UInt8):(d.write a b).1.cells=d.cells/\∃ W,(d.write a b).1.cache=d.cache ++ W/\∀ w∈W,w.addr=a:=by
 unfold Dk.write;split
 ·exact⟨rfl, [],(AL _).symm,fun w hw=>by cases hw⟩
 ·split
  ·exact⟨rfl, [],(AL _).symm,fun w hw=>by cases hw⟩
  ·exact⟨rfl, [⟨a,b⟩],rfl,fun w hw=>by rw [AC] at hw;rw [hw]⟩
theorem Yk {g:Geo} (d:Dk) (x:Rc) {Q:Int} (hQ:0<=Q/\Q<g.sl):(RA g d x Q).cells=d.cells/\∃ W,(RA g d x Q).cache=d.cache ++ W/\∀ w∈W,g.an<=w.addr/\w.addr<g.an+2*g.sl:=by
 obtain⟨e1,W1,c1,h1⟩:=Nc d (Bg g 0 Q) (BB g x 0 Q);obtain⟨e2,W2,c2,h2⟩:=Nc (d.write (Bg g 0 Q) (BB g x 0 Q)).1 (Bg g 1 Q) (BB g x 1 Q);refine⟨e2.trans e1,W1 ++ W2,by unfold RA;rw [c2,c1,A9],fun w hw=>?_⟩;rcases A0.1 hw with q | q
 ·rw [h1 w q];exact Ij (.inl rfl) hQ
 ·rw [h2 w q];exact Ij (.inr rfl) hQ
theorem Xe {g:Geo} {P:Int} {R:List Rc} {n:Nat} (hP:∀ i:Nat,i<n->0<=Db g P (i:Nat)/\Db g P (i:Nat)<g.sl) (d:Dk):∀ i,i<=n->(dW g P R d i).cells=d.cells/\∃ W,(dW g P R d i).cache=d.cache ++ W/\∀ w∈W,g.an<=w.addr/\w.addr<g.an+2*g.sl
 | 0,_=>⟨rfl, [],(AL _).symm,fun w hw=>by cases hw⟩
 | i+1,hi=>by
  obtain⟨e1,W1,c1,h1⟩:=Xe (R:=R) hP d i (by omega);obtain⟨e2,W2,c2,h2⟩:=Yk (dW g P R d i) (R.getD i rc0) (hP i (by omega));refine⟨e2.trans e1,W1 ++ W2,by show (RA g _ _ _).cache=_;rw [c2,c1,A9],fun w hw=>?_⟩;rcases A0.1 hw with q | q
  ·exact h1 w q
  ·exact h2 w q
theorem U1 {d:Dk} {q:Int} (hq:0<=q/\q<d.cells.length) (h:∀ w∈d.cache,0<=w.addr/\w.addr≠q):d.flush.got q=if (d.cells.getD q.toNat cz).state=0 then ((d.cells.getD q.toNat cz).bytes,0) else ([],6):=by
 have e:d.flush.cells=CU d.cells d.cache:=by
  unfold Dk.flush;rw [allFin_cells];try rfl
 unfold Dk.got;rw [e,show d.flush.cache=[] from rfl];show (if ((CU d.cells d.cache).getD q.toNat cz).state=0 then (((CU d.cells d.cache).getD q.toNat cz).bytes,(0:Int)) else ([],6))=_;rw [finL_miss _ _ _ (by omega) fun w hw=>by have:=h w hw;omega]
theorem Gs.after {g:Geo} (hg:Bp g=true) {P:Int} {R:List Rc} {n:Nat} (hR:∀ i:Nat,i<n->ER g (R.getD i rc0)=true) (hP:∀ i:Nat,i<n->0<=Db g P (i:Nat)/\Db g P (i:Nat)<g.sl) {d:Dk} {G:Gr} (h:Gs (Ay g) d G) (hc:d.cache=[]):Gs (Ay g) (dW g P R d n).flush (CP (dW g P R d n).flush)/\(∀ q,g.an+2*g.sl<=q->q<Ay g->CP (dW g P R d n).flush q=G q)/\(dW g P R d n).flush.cache=[]:=by
 obtain⟨g1,g2,g3,g4,g5⟩:=As.1 hg;obtain⟨h1,h2,h3⟩:=Qx hg hR hP h.ok h.left h.len n (Ah _);obtain⟨e1,W,c1,hW⟩:=Xe (R:=R) hP d n (Ah _);rw [hc,B5] at c1;generalize dW g P R d n=D at *
 have hl:=h.len;refine⟨Gs.of h1.flush ?_ ?_,fun q q1 q2=>?_,rfl⟩
 ·unfold Dk.flush;rw [allFin_cells];show D.req.left = -1;unfold Dk.req;rw [h2];try rfl
 ·unfold Dk.flush;rw [allFin_cells];show ((CU D.cells D.cache).length:Int)=_;rw [finL_len];exact h3
 ·have hq:=h.got q (by omega) q2;have hf:=U1 (d:=D) (q:=q) ⟨by omega,by omega⟩ (by rw [c1];intro w hw;have:=hW w hw;omega);unfold CP;simp only;have hd:d.got q=D.flush.got q:=by
   rw [hf,e1];unfold Dk.got;rw [hc];try rfl
  rw [<-hd,hq]
theorem Gd.gs {n:Int} {d:Dk} {F:Int->List UInt8} (h:Gd n d F):Gs n d (CP d)/\∀ q,0<=q->q<n->CP d q=⟨0,F q⟩:=
 ⟨Gs.of h.ok h.left h.len,fun q h0 h1=>by show (⟨_,_⟩:Gt)=_;rw [h.got h0 h1]⟩
theorem Sy {g:Geo} (hg:Bp g=true) {s:Stt} {G:Gr} {F:Int->List UInt8} {z:Int} (hz:0<=z/\z<g.z) (h:∀ q,g.an+2*g.sl<=q->q<Ay g->G q=⟨0,F q⟩):GF g s G z=EP g s F z:=by
 obtain⟨g1,g2,g3,g4,g5⟩:=As.1 hg;have h0:=FV (k:=0) hg hz (by decide);have h1:=FV (k:=1) hg hz (by decide);unfold GF EP;rw [h _ h0.1 h0.2.2,h _ h1.1 h1.2.2];try rfl
def Dk.faultX (d:Dk) (kind a frm bit bits:Int):Dk:=if (d.fault kind a frm bit bits).2=0 then (d.fault kind a frm bit bits).1 else dk0
section
variable {g:Geo} {s:ByteArray} {b:An} {fill:UInt8} {sizes:List Int} {d:Dk} {bad0 bad1:Int->Bool}
end
theorem Y4 {g:Geo} {x:Img} (h:Bz g x=true) (hw:x.what=255):(BT g x.bytes).isSome=true:=by
 simp only [Bz,Ad] at h;have h2:=h.2.2;rwa [if_pos hw] at h2
theorem Sz {g:Geo} (hg:Bp g=true) {l:List Tx} (h:∀ t∈l,∀ x∈t.images,Bz g x=true) {z:Int}:∀ p,C2 l z 255=some p->p.1.bytes.length<=100000/\(BT g p.1.bytes).isSome=true:=fun p hp=>by
 obtain⟨x,s⟩:=p;obtain⟨t,ht, -,hx, -,hw⟩:=GY (Ah _) hp;have hi:=h t ht x hx;exact⟨by have:=E_ hg hi;show x.bytes.length<=_;omega,Y4 hi hw⟩
structure Sk (k n:Int) (d:Dk) (F:Int->List UInt8) (A:Int->Prop):Prop where
 ok:DkOk d
 left:d.left = -1
 len:(d.cells.length:Int)=n
 cache:d.cache=[]
 cell:∀ a:Int,0<=a->a<n->(d.cells.getD a.toNat cz).bytes=F a/\((d.cells.getD a.toNat cz).state=0/\¬A a\/(d.cells.getD a.toNat cz).state=k/\A a)
theorem Gd.sk {k n:Int} {d:Dk} {F:Int->List UInt8} (h:Gd n d F):Sk k n d F fun _=>False:=⟨h.ok,h.left,h.len,h.cache,fun a h0 h1=>⟨(h.cell a h0 h1).2, .inl ⟨(h.cell a h0 h1).1,id⟩⟩⟩
theorem Sk.fault {k j n:Int} {d:Dk} {F:Int->List UInt8} {A:Int->Prop} (hk:k=1/\j=11\/k=2/\j=12) (h:Sk k n d F A) {q:Int} (hq:0<=q/\q<n):(d.fault j q 0 0 0).2=0/\Sk k n (d.faultX j q 0 0 0) F fun a=>A a\/a=q:=by
 have hl:=h.len;have e:d.fault j q 0 0 0=(II d q { d.cells.getD q.toNat cz with state:=k },0):=by
  have hc:=h.cell q hq.1 hq.2;unfold Dk.fault;rw [if_neg (by rw [Bool.not_eq_false,AF];omega),if_neg (by rw [h.cache];decide)];rcases hk with ⟨rfl,rfl⟩ | ⟨rfl,rfl⟩
  ·rw [if_pos rfl];rcases hc.2 with h | h
   ·simp only [if_pos h.1]
   ·simp only [h.1];rfl
  ·rw [if_neg (by decide),if_pos rfl]
 have ho:=h.ok.fault j q 0 0 0;unfold Dk.faultX;rw [e] at ho |-
 rw [if_pos rfl];refine⟨rfl,ho.1,h.left,by rw [<-hl];exact congrArg Nat.cast ho.2.1,h.cache,fun a h0 h1=>?_⟩;have hc:=h.cell a h0 h1;show ((d.cells.set q.toNat _).getD a.toNat cz).bytes=_/\_;rw [show (II d q { d.cells.getD q.toNat cz with state:=k }).cells=d.cells.set q.toNat { d.cells.getD q.toNat cz with state:=k } from rfl,Hw _ _ _ _ (by omega)];by_cases hqa:q.toNat=a.toNat
 ·have:a=q:=by omega
  subst this;rw [if_pos rfl];exact⟨hc.1, .inr ⟨rfl, .inr rfl⟩⟩
 ·rw [if_neg hqa];refine⟨hc.1,hc.2.imp (fun x=>⟨x.1,fun y=>y.elim x.2 fun z=>hqa (by rw [z])⟩) fun x=>⟨x.1, .inl x.2⟩⟩
theorem Sk.gs {k n:Int} {d:Dk} {F:Int->List UInt8} {A:Int->Prop} (hk:k=1\/k=2) (h:Sk k n d F A) {q:Int} (h0:0<=q) (h1:q<n):(¬A q->CP d q=⟨0,F q⟩)/\(A q->(CP d q).err≠0):=by
 have hc:=h.cell q h0 h1;have e:CP d q=⟨(if (d.cells.getD q.toNat cz).state=0 then ((d.cells.getD q.toNat cz).bytes,(0:Int)) else ([],6)).2,(if (d.cells.getD q.toNat cz).state=0 then ((d.cells.getD q.toNat cz).bytes,(0:Int)) else ([],6)).1⟩:=by
  show (⟨(d.got q).2,(d.got q).1⟩:Gt)=_;unfold Dk.got;rw [h.cache];try rfl
 rw [e];refine⟨fun hA=>?_,fun hA=>?_⟩
 ·rw [if_pos (hc.2.resolve_right fun x=>hA x.2).1,hc.1]
 ·rw [if_neg (by have:=(hc.2.resolve_left fun x=>x.2 hA).1;omega)];decide
theorem Sk.stuck {n:Int} {d:Dk} {F:Int->List UInt8} {A:Int->Prop} (h:Sk 2 n d F A) {q:Int} (h0:0<=q) (h1:q<n):(A q->decide ((d.cells.getD q.toNat cz).state=2)=true)/\(¬A q->decide ((d.cells.getD q.toNat cz).state=2)=false):=by
 have hc:=h.cell q h0 h1;exact⟨fun hA=>decide_eq_true (hc.2.resolve_left fun x=>x.2 hA).1,fun hA=>decide_eq_false (by have:=(hc.2.resolve_right fun x=>hA x.2).1;omega)⟩
theorem Lq {d:Dk} (h:DkOk d) (a:Int):(CP d a).bytes.length<=100000/\(CP d a).err≠8:=by
 show (d.got a).1.length<=100000/\(d.got a).2≠8;unfold Dk.got;split
 ·rename_i w hw;have:=(h.w w (NB _ _ _ rfl hw)).2;exact⟨by show w.bytes.length<=_;omega,by show (0:Int)≠8;decide⟩
 ·split
  ·refine⟨?_,by show (0:Int)≠8;decide⟩;show (d.cells.getD a.toNat ⟨0, [], []⟩).bytes.length<=_;by_cases hi:a.toNat<d.cells.length
   ·have:=(h.c _ (A6 (d:=(⟨0, [], []⟩:Cel)) hi)).2.1;omega
   ·rw [Aa,AG (by omega)];exact Aj _
  ·exact⟨Aj _,by show (6:Int)≠8;decide⟩
theorem Nb {d:Dk} (hl:d.left = -1) (hc:d.cache.length<2000) (a:Int) (b:List UInt8):(d.write a b).2=(if (d.cells.getD a.toNat cz).state=2 then 7 else 0)/\(d.write a b).1.cells=d.cells/\(d.write a b).1.left = -1/\(d.write a b).1.cache.length<=d.cache.length+1:=by
 have hr:d.req.left = -1:=by unfold Dk.req;rw [hl];try rfl
 unfold Dk.write;rw [if_neg (by rw [hl];decide)];by_cases h:(d.cells.getD a.toNat cz).state=2
 ·rw [if_pos (.inl h),if_pos h];exact⟨rfl,rfl,hr,by show d.cache.length<=_;omega⟩
 ·rw [if_neg (by rintro(q | q);exact h q;omega),if_neg h];exact⟨rfl,rfl,hr,by show (d.cache ++ [_]).length<=_;rw [Ai];exact Ah _⟩
def stuck (d:Dk) (a:Int):Bool:=decide ((d.cells.getD a.toNat cz).state=2)
theorem SF {g:Geo} {d:Dk} (hl:d.left = -1) (hc:d.cache.length<1999) (x:Rc) (Q:Int):ak g d x Q=(!(stuck d (Bg g 0 Q)&&stuck d (Bg g 1 Q)))/\(RA g d x Q).cells=d.cells/\(RA g d x Q).left = -1/\(RA g d x Q).cache.length<=d.cache.length+2:=by
 obtain⟨e1,c1,l1,n1⟩:=Nb hl (by omega) (Bg g 0 Q) (BB g x 0 Q);obtain⟨e2,c2,l2,n2⟩:=Nb l1 (by omega) (Bg g 1 Q) (BB g x 1 Q);refine⟨?_,by unfold RA;rw [c2,c1],l2,by unfold RA;omega⟩;unfold ak stuck;rw [e2,e1,c1];by_cases h1:(d.cells.getD (Bg g 0 Q).toNat cz).state=2 <;> by_cases h2:(d.cells.getD (Bg g 1 Q).toNat cz).state=2 <;> simp_all
theorem Xd {g:Geo} {P:Int} {R:List Rc} {d:Dk} (hl:d.left = -1) (hc:d.cache=[]):∀ i:Nat,i<=100->(dW g P R d i).cells=d.cells/\(dW g P R d i).left = -1/\(dW g P R d i).cache.length<=2*i
 | 0,_=>⟨rfl,hl,by show d.cache.length<=_;rw [hc];exact Aj _⟩
 | i+1,hi=>by
  obtain⟨e1,l1,n1⟩:=Xd (R:=R) (P:=P) hl hc i (by omega);obtain⟨-,e2,l2,n2⟩:=SF (g:=g) l1 (by omega) (R.getD i rc0) (Db g P (i:Nat));exact⟨e2.trans e1,l2,by show (RA g _ _ _).cache.length<=_;omega⟩
theorem Zs {g:Geo} {P:Int} {R:List Rc} {d:Dk} (hl:d.left = -1) (hc:d.cache=[]) (i:Nat) (hi:i<=100):tW g P R d i = !(stuck d (Bg g 0 (Db g P (i:Nat)))&&stuck d (Bg g 1 (Db g P (i:Nat)))):=by
 obtain⟨e1,l1,n1⟩:=Xd (g:=g) (R:=R) (P:=P) hl hc i hi;obtain⟨e2, -⟩:=SF (g:=g) l1 (by omega) (R.getD i rc0) (Db g P (i:Nat));unfold tW;rw [e2];unfold stuck;rw [e1]
@[reducible] def bwZ (g:Geo) (s:Stt) (d:Dk):List AB:= [.box 116 (Zf g (.bp 1 0) (.ow 4 s.txns.length) (iA s.lost) s), .box 185 (He (.ow 2 d.cells.length) (.ow 3 d.cache.length) d.reqs d.left), .dead, .dead, .row 112 4 (s.txns.map CO)]
theorem Ob (g:Geo) (s:Stt) (d:Dk) (h:DkOk d):ACalls Tryz.prog false 44 [.bp 0 0] (FJ g s d) fun r H=>r = .ag (EN d)/\H=bwZ g s d:=by
 have ht:=Qt d (by have:=h.n;omega) (by have:=h.m;omega) (fun c hc=>by have:=(h.c c hc).2;omega) (fun w hw=>by have:=(h.w w hw).2;omega);refine zT tys_ok Tryz.func44 rfl rfl (Ag rfl) ?_;conv=>whnf
 refine zN ht.go ?_;refine Af (Ab _).symm ?_;refine Af (Ab _).symm ?_;conv=>whnf
 refine zX [.ag (EN d)] ⟨Bi ⟨Bb (f:=BE) d.cells rfl rfl,Bb (f:=EE) d.cache rfl rfl,ri,ri,tv⟩,tv⟩ ?_;refine zZ ht ?_;exact⟨_, .ag (EN d),bwZ g s d,fun _ _ h=>h,zR (s:= [0,1,2,3,4]) tA,rfl,rfl⟩
def aN (o:Option (List UInt8)) (d:Dk):AV:=match o with
 | some b=> .tp [bA b, .ag (EN d),iv 0]
 | none=> .tp [bA [], .ag (EN d),iv 13]
theorem Sf (g:Geo) (s:Stt) (d:Dk) (G:Gr) (lba:Int) (hg:Bp g=true) (hst:LF g d s=true) (hsm:StSm s) (himg:∀ t∈s.txns,∀ x∈t.images,Bz g x=true) (ha:Bu g s.a=true) (h:Gs (Ay g) d G) (hF:∀ a,(G a).bytes.length<=100000) (h8:∀ a,(G a).err≠8) (hb:0<=lba/\lba<g.z*g.d) (hB:∀ p,C2 s.txns (lba.tdiv g.d) 255=some p->p.1.bytes.length<=100000/\(BT g p.1.bytes).isSome=true) :
  Fn Tryz.prog 12 [.ag (AT g), .ag (EN d), .ag (EB s),iv lba] fun r=>∃ d',Gs (Ay g) d' G/\r=aN (QJ g s G (lba.tdiv g.d) (lba.tmod g.d)) d':=by
 have c1:=Pc g d s h.ok hst hsm;have hlb:LogB s.txns:=⟨by have:=hsm.t.1;omega,fun t ht=>⟨by have:=(hsm.t.2 t ht).1;omega,fun x hx=>by have:=(hsm.t.2 t ht).2 x hx;omega⟩⟩;have c2:=Pa g s d G lba hg hlb himg ha h hF h8 hb hB;cases hO:QJ g s G (lba.tdiv g.d) (lba.tmod g.d) with
 | some b=>
  rw [hO] at c2;refine zS Tryz.func12 rfl ?_;conv=>whnf
  refine zV c1 rfl ?_;rintro _ _ ⟨rfl,rfl⟩;conv=>whnf
  refine zd [4,5,6,7,8] c2 ?_;rintro _ _ ⟨rfl,d2,hd2,rfl⟩;have c4:=Ob g s d2 hd2.ok;conv=>whnf
  refine zd [4,5,6,7,8] c4 ?_;rintro _ _ ⟨rfl,rfl⟩;exact⟨_,ri,d2,hd2,rfl⟩
 | none=>
  rw [hO] at c2;refine zS Tryz.func12 rfl ?_;conv=>whnf
  refine zV c1 rfl ?_;rintro _ _ ⟨rfl,rfl⟩;conv=>whnf
  refine zd [4,5,6,7,8] c2 ?_;rintro _ _ ⟨rfl,d2,hd2,rfl⟩;have c4:=Ob g s d2 hd2.ok;conv=>whnf
  refine zd [4,5,6,7,8] c4 ?_;rintro _ _ ⟨rfl,rfl⟩;exact⟨_,ri,d2,hd2,rfl⟩
theorem Vol.st2 {g:Geo} {K:Int} {d0 d:Dk} {s:Stt} (hg:Bp g=true) (h:Vol g K d0 s) (hd:DkOk d) (hn:(d.cells.length:Int)=Ay g) (o:Bool):LF g d { s with only:=o }=true:=by
 obtain⟨r1,r2,r3,r4,r5,r6⟩:=h.rest;have hu:=L5 hg;have hh:Et g { s with only:=o }=true:=by
  unfold Et;rw [show ({ s with only:=o }:Stt).found=0 from r3,show ({ s with only:=o }:Stt).fixed=0 from r4,show ({ s with only:=o }:Stt).moved=0 from r5,show ({ s with only:=o }:Stt).lost=[] from r6];try rfl
 unfold LF;rw [hh,hg,PS.2 hd,decide_eq_true hn,show ({ s with only:=o }:Stt).a=s.a from rfl,show ({ s with only:=o }:Stt).txns=s.txns from rfl,show ({ s with only:=o }:Stt).cursor=0 from r2,h.an,h.ring,decide_eq_true (show (0:Int)<GD g by omega)];try rfl
structure Un (g:Geo) (d:Dk):Prop where
 ok:DkOk d
 left:d.left = -1
 len:(d.cells.length:Int)=Ay g
 cache:d.cache=[]
theorem ZZ {g:Geo} {K:Int} {d0 d:Dk} {a:An} {l:List Tx} {lba:Int} (hg:Bp g=true) (hv:Vol g K d0 (AJ a l)) (hd:Un g d) (hlba:0<=lba/\lba<g.z*g.d) :
  Fn Tryz.prog 12 [.ag (AT g), .ag (EN d), .ag (EB (AJ a l)),iv lba] fun r=>∃ d',Gs (Ay g) d' (CP d)/\r=aN (QJ g (AJ a l) (CP d) (lba.tdiv g.d) (lba.tmod g.d)) d':=by
 have himg:∀ t∈l,∀ x∈t.images,Bz g x=true:=fun t ht=>Au.1 (Dx hv.ring t ht).1
 exact Sf g (AJ a l) d (CP d) lba hg (hv.st2 hg hd.ok hd.len false) (hv.sm hg) himg hv.an (Gs.of hd.ok hd.left hd.len) (fun a=>(Lq hd.ok a).1) (fun a=>(Lq hd.ok a).2) hlba (Sz hg himg)
def Fg (g:Geo) (G:Gr) (F:Int->List UInt8):Prop:=∀ q,g.an+2*g.sl<=q->q<Ay g->G q=⟨0,F q⟩
theorem OE {g:Geo} (hg:Bp g=true) {s:Stt} (ha:Bu g s.a=true) {G:Gr} {F:Int->List UInt8} {t:List Ent} {z w:Int} (hz:0<=z/\z<g.z) (hw : -1<=w/\w<g.d) (h:Fg g G F):F3 g s G t z w=JE g s F t z w:=by
 obtain⟨g1,g2,g3,g4,g5⟩:=As.1 hg;obtain⟨i,e,hi⟩:=Ey hg ha hz hw;have:=FE hg hz hi;unfold F3 JE;rw [h _ (by omega) (by omega)];try rfl
theorem Y8 {g:Geo} (hg:Bp g=true) {s:Stt} (ha:Bu g s.a=true) {G:Gr} {F:Int->List UInt8} {t:List Ent} {z:Int} (hz:0<=z/\z<g.z) (h:Fg g G F):Fo g s G t z=Dg g s F t z:=by
 obtain⟨g1,g2,g3,g4,g5⟩:=As.1 hg;unfold Fo Dg Kr;rw [Bd,Az,List.map_singleton];congr 1
 ·refine Cv fun i hi=>?_
  have:=AP.1 hi;rw [show WG g i=(i:Int) by unfold WG;rw [if_neg (by omega)]];exact OE hg ha hz (by omega) h
 ·rw [show WG g g.d.toNat = -1 by unfold WG;rw [if_pos (by omega)]];rw [OE hg ha hz (by omega) h]
theorem UY {g:Geo} (hg:Bp g=true) {a:An} (ha:Bu g a=true) {l:List Tx} {G:Gr} {F:Int->List UInt8} {V:Int->Int->List UInt8} (hV:VolV g a l F V) (h:Fg g G F) {z w:Int} (hz:0<=z/\z<g.z) (hw:0<=w/\w<g.d):QJ g (AJ a l) G z w=some (V z w)/\(V z w).length=8:=by
 obtain⟨t,ht⟩:=hV z hz.1 hz.2;have e1:=ht.ent w (by omega) hw.2;have e2:=ht.len w (by omega) hw.2;have e3:=ht.one (w:=w) ⟨by omega,hw.2⟩;rw [show (Em g w).toNat=w.toNat by unfold Em;rw [if_neg (by omega)]] at e1;unfold QJ;rw [Sy hg hz h,ht.tab];simp only;rw [if_neg (by rw [e1.1];decide),OE hg ha hz ⟨by omega,hw.2⟩ h,e3,if_pos (by rw [e2];decide)];exact⟨rfl,e2⟩
theorem La {g:Geo} (hg:Bp g=true) {lba:Int} (hlba:0<=lba/\lba<g.z*g.d):(0<=lba.tdiv g.d/\lba.tdiv g.d<g.z)/\0<=lba.tmod g.d/\lba.tmod g.d<g.d:=by
 obtain⟨g1,g2,g3,g4,g5⟩:=As.1 hg;rw [Bn hlba.1];exact⟨⟨DE hlba.1 (by omega),D6 (by omega) hlba.2⟩,Bk _ hlba.1,AY _ (by omega)⟩
structure Clv (g:Geo) (K:Int) (d:Dk) (M:Md):Prop where
 un:Un g d
 fg:Fg g (CP d) M.F
 gd:∃ d0,Gd (Ay g) d0 M.F
 vo:Vo g K M
 rd:ah g M
theorem Clv.on {g:Geo} (hg:Bp g=true) {d:Dk} (hd:Gd (Ay g) d (FY g).F):Clv g 2 d (FY g):=by
 obtain⟨g1,g2,g3,g4,g5⟩:=As.1 hg;obtain⟨-, -, -, -, -,hvo⟩:=SO hg;exact⟨⟨hd.ok,hd.left,hd.len,hd.cache⟩,fun q h0 h1=>hd.gs.2 q (by omega) h1,⟨d,hd⟩,hvo,Wx hg⟩
def bC (g:Geo) (M:Md) (lba:Int) (b:List UInt8):Md:=⟨M.a,M.l ++ [H7 g M.a M.l M.F lba b],M.F,M.m.set lba.toNat b⟩
theorem Clv.add {g:Geo} (hg:Bp g=true) {K:Int} {d d':Dk} {M:Md} (h:Clv g K d M) (hK:K<=4294967294) {lba:Int} {b:List UInt8} (hlba:0<=lba/\lba<g.z*g.d) (hb:b.length=8) (hroom:4<=g.sl - BX M.l) (hu:Un g d') (hf:∀ q,g.an+2*g.sl<=q->q<Ay g->CP d' q=CP d q):Clv g (K+1) d' (bC g M lba b):=by
 obtain⟨d0,h0⟩:=h.gd;have hz:=(La hg hlba).1;have ht:(EP g (AJ M.a M.l) M.F (lba.tdiv g.d)).isSome=true:=by
  obtain⟨-,V,hV, -⟩:=h.rd;obtain⟨t,hz⟩:=hV _ hz.1 hz.2;rw [hz.tab];try rfl
 have hvol:=h.vo.vol h0;obtain⟨r,v⟩:=Ze hg hK hlba hb hvol h.rd (M':=bC g M lba b) (.inl ⟨by omega,ht, [],(fun w hw=>by cases hw),rfl⟩);exact⟨hu,fun q q1 q2=>(hf q q1 q2).trans (h.fg q q1 q2),⟨d0,h0⟩,Vo.of v h.vo.fb (by show ((M.m.set lba.toNat b).length:Int)=_;rw [AW];exact h.vo.m),r⟩
theorem R7 {g:Geo} {K:Int} {d:Dk} {M:Md} (hg:Bp g=true) (h:Clv g K d M) (k:Nat) (hk:(k:Int)<g.z*g.d):(M.m.getD k []).length=8/\
  Fn Tryz.prog 12 [.ag (AT g), .ag (EN d), .ag (EB (AJ M.a M.l)),iv (k:Nat)] fun r=>∃ d',r = .tp [bA (M.m.getD k []), .ag (EN d'),iv 0]:=by
 obtain⟨d0,h0⟩:=h.gd;have hb:(0:Int)<=(k:Nat)/\((k:Nat):Int)<g.z*g.d:=by omega
 obtain⟨hz,hA⟩:=La hg hb;obtain⟨hm,V,hV,hE⟩:=h.rd;have hc:=ZZ hg (h.vo.vol h0) h.un hb;obtain⟨e1,e2⟩:=UY hg h.vo.an hV h.fg hz hA;have e:=hE _ _ hz.1 hz.2 hA.1 hA.2;rw [Int.mul_comm,D5,Ac] at e;rw [e1,<-e] at hc;rw [<-e] at e2;exact⟨e2,hc.mono fun r ⟨d',_,hr⟩=>⟨d',hr⟩⟩
theorem ZJ {m:Nat} (h:Nat.ble 8 m=true):∀ z∈ [4,5,6,7],z<m:=fun z hz=>by
 have:=Ag h;simp at hz;omega
theorem P9 (g:Geo) (d:Dk) (hg:Bp g=true) (h:DkOk d) (hn:(d.cells.length:Int)=Ay g) (hin0:ai g d):Fn Tryz.prog 56 [.ag (AT g), .ag (EN d)] fun r=>r = .tp [.ag (EB (DN g d).2.2), .ag (EN (DN g d).1), .v (.int .i64 (DN g d).2.1)]:=by
 have hb:=TV g d st0 h st0_sm;have hm:=Rs g st0 d hg h hn hin0;have herr:=RL (g:=g) (d:=d);generalize DN g d=M at hm herr |-
 obtain⟨D,e,S⟩:=M;simp only at herr hm;refine zS Tryz.func56 rfl ?_;conv=>whnf
 refine zX [.ag (AT g), .ag (EN d), .ag (EB st0)] ⟨ri,ri,Bi st0_sub,tv⟩ ?_;refine zV hb rfl ?_;rintro _ _ ⟨rfl,rfl⟩;conv=>whnf
 refine zd [4,5,6,7] hm ?_;rintro _ _ ⟨⟨S',rfl,hS⟩,rfl⟩;by_cases he:e=0
 ·subst he;have:=hS rfl;subst this;conv=>whnf
  apply aDraw.dag (144) tys_ok mixed [([],11,(.o [0,1,2,3] (.alt 4 (.o [5,6] (.alt 7 (.o [8,9,10] .fin) (.alt 8 (.o [7,9,10] .fin) .non))) (.alt 8 (.o [4,5,6,7,9,10] .fin) .non))))] [6,32,33,34,35,36,37,38,39] [] (by kernel_rfl)
  ·refine Af ?_ ?_
   ·refine Af ?_ (Af ?_ (trivial))
    ·refine Af ?_ (Af ?_ (trivial))
     ·conv=>whnf
      try (refine tS ?_;conv=>whnf)
      try (refine tS ?_;conv=>whnf)
      exact tA
     ·conv=>whnf
      try (refine tS ?_;conv=>whnf)
      try (refine tS ?_;conv=>whnf)
      exact tA
    ·conv=>whnf
     try (refine tS ?_;conv=>whnf)
     try (refine tS ?_;conv=>whnf)
     exact tA
   conv=>whnf
   exact trivial
  refine Af (Ab _).symm ?_;refine Af (Ab _).symm ?_;exact⟨.tp [.ag (EB S'), .ag (EN D),iv 0],BW ⟨ri,Bi ⟨Bb (f:=BE) D.cells rfl rfl,Bb (f:=EE) D.cache rfl rfl,ri,ri,tv⟩,ri,tv⟩,rfl⟩
 ·have hbe:(e != 0)=true:=bne_iff_ne.2 he;have:=herr he;subst this;conv=>whnf
  rw [hbe];conv=>whnf
  apply aDraw.dag (2192) tys_ok mixed [([],15,(.o [0,1,2,3,8,9,10] (.alt 4 (.o [5,6] (.alt 7 (.alt 11 (.jump 2) (.alt 12 (.jump 3) .non)) (.alt 11 (.alt 7 (.jump 2) (.alt 12 (.jump 4) .non)) (.alt 12 (.alt 7 (.jump 3) (.alt 11 (.jump 4) .non)) .non)))) (.alt 11 (.alt 4 (.o [5,6] (.alt 7 (.jump 2) (.alt 12 (.jump 4) .non))) (.alt 12 (.jump 1) .non)) (.alt 12 (.alt 4 (.o [5,6] (.alt 7 (.jump 3) (.alt 11 (.jump 4) .non))) (.alt 11 (.jump 1) .non)) .non))))),([0,1,2,3,8,9,10,11,12],6,(.o [4,5,6,7,13,14] .fin)),([0,1,2,3,4,5,6,7,8,9,10,11],3,(.o [12,13,14] .fin)),([0,1,2,3,4,5,6,7,8,9,10,12],3,(.alt 11 (.o [13,14] .fin) (.alt 13 (.o [11,14] .fin) .non))),([0,1,2,3,4,5,6,8,9,10,11,12],3,(.o [7,13,14] .fin))] [6,20,21,22,23,24,25,26,27,28,29,30,31] [(_,_),(_,_),(_,_),(_,_)] (by kernel_rfl)
  ·refine Af ?_ ?_
   ·refine Af ?_ (Af ?_ (Af ?_ (trivial)))
    ·refine Af ?_ (Af ?_ (Af ?_ (trivial)))
     ·refine Af ?_ (Af ?_ (trivial))
      ·exact tA
      ·conv=>whnf
       try (refine tS ?_;conv=>whnf)
       exact tA
     ·refine Af ?_ (Af ?_ (trivial))
      ·exact tA
      ·conv=>whnf
       try (refine tS ?_;conv=>whnf)
       exact tA
     ·conv=>whnf
      try (refine tS ?_;conv=>whnf)
      refine Af ?_ (Af ?_ (trivial))
      ·exact tA
      ·exact tA
    ·refine Af ?_ (Af ?_ (trivial))
     ·refine Af ?_ (Af ?_ (trivial))
      ·exact tA
      ·conv=>whnf
       try (refine tS ?_;conv=>whnf)
       exact tA
     ·conv=>whnf
      try (refine tS ?_;conv=>whnf)
      exact tA
    ·conv=>whnf
     try (refine tS ?_;conv=>whnf)
     refine Af ?_ (Af ?_ (trivial))
     ·refine Af ?_ (Af ?_ (trivial))
      ·exact tA
      ·exact tA
     ·exact tA
   refine Af ?_ ?_
   ·conv=>whnf
    try (refine tS ?_;conv=>whnf)
    exact tA
   refine Af ?_ ?_
   ·conv=>whnf
    try (refine tS ?_;conv=>whnf)
    try (refine tS ?_;conv=>whnf)
    exact tA
   refine Af ?_ ?_
   ·refine Af ?_ (Af ?_ (trivial))
    ·conv=>whnf
     try (refine tS ?_;conv=>whnf)
     exact tA
    ·conv=>whnf
     try (refine tS ?_;conv=>whnf)
     exact tA
   refine Af ?_ ?_
   ·conv=>whnf
    try (refine tS ?_;conv=>whnf)
    exact tA
   conv=>whnf
   exact trivial
  refine Af (Ab _).symm ?_;refine Af (Ab _).symm ?_;exact⟨.tp [.ag (EB st0), .ag (EN D),iv e],BW ⟨Bi st0_sub,Bi ⟨Bb (f:=BE) D.cells rfl rfl,Bb (f:=EE) D.cache rfl rfl,ri,ri,tv⟩,ri,tv⟩,rfl⟩
theorem VM (g:Geo) (hg:Bp g=true):Fn Tryz.prog 20 [.ag (AT g)] fun r=>∃ D,r = .tp [.ag (EB (AJ (FY g).a (FY g).l)), .ag (EN D)]/\Gd (Ay g) D (FY g).F:=by
 obtain⟨D,h1,h2,h3,h4,h5⟩:=SO hg;have hfm:=Rw g ⟨#[]⟩ hg (by exact lab_nil);have hmn:=P9 g (Gy g ⟨#[]⟩) hg h2 h3 (ZI hg);rw [h1] at hmn;refine zS Tryz.func20 rfl ?_;conv=>whnf
 apply zW (0) tys_ok mixed (.o [0,1] (.three 2 (.three 3 (.o [4,5,6,7] (.two 8 (.o [9,10,11,12] .fin) 9 (.o [8,10,11,12] .fin))) 8 (.two 3 (.o [4,5,6,7,9,10,11,12] .fin) 9 (.o [3,4,5,6,7,10,11,12] .fin)) 9 (.two 3 (.o [4,5,6,7,8,10,11,12] .fin) 8 (.o [3,4,5,6,7,10,11,12] .fin))) 8 (.two 2 (.two 3 (.o [4,5,6,7,9,10,11,12] .fin) 9 (.o [3,4,5,6,7,10,11,12] .fin)) 9 (.o [2,3,4,5,6,7,10,11,12] .fin)) 9 (.two 2 (.two 3 (.o [4,5,6,7,8,10,11,12] .fin) 8 (.o [3,4,5,6,7,10,11,12] .fin)) 8 (.o [2,3,4,5,6,7,10,11,12] .fin)))) (by kernel_rfl);refine Af ?_ (Af ?_ ?_);conv=>whnf
 refine zZ hfm ?_;refine Af ?_ (Af ?_ ?_);conv=>whnf
 refine zZ hmn ?_;refine Af ?_ ?_;conv=>whnf
 try (refine tS ?_;conv=>whnf)
 try (refine tS ?_;conv=>whnf)
 rotate_left 1;conv=>whnf
 try (refine tS ?_;conv=>whnf)
 try (refine tS ?_;conv=>whnf)
 rotate_left 1;refine Af ?_ ?_;conv=>whnf
 refine zZ hmn ?_;conv=>whnf
 try (refine tS ?_;conv=>whnf)
 try (refine tS ?_;conv=>whnf)
 rotate_left 1;conv=>whnf
 refine zZ hmn ?_;conv=>whnf
 try (refine tS ?_;conv=>whnf)
 try (refine tS ?_;conv=>whnf)
 rotate_left 1;refine Af ?_ ?_;conv=>whnf
 refine zZ hmn ?_;conv=>whnf
 try (refine tS ?_;conv=>whnf)
 try (refine tS ?_;conv=>whnf)
 rotate_left 1;conv=>whnf
 refine zZ hmn ?_;conv=>whnf
 try (refine tS ?_;conv=>whnf)
 try (refine tS ?_;conv=>whnf)
 rotate_left 1;refine Af ?_ ?_;conv=>whnf
 refine zZ hfm ?_;refine Af ?_ ?_;conv=>whnf
 refine zZ hmn ?_;conv=>whnf
 try (refine tS ?_;conv=>whnf)
 try (refine tS ?_;conv=>whnf)
 rotate_left 1;conv=>whnf
 refine zZ hmn ?_;conv=>whnf
 try (refine tS ?_;conv=>whnf)
 try (refine tS ?_;conv=>whnf)
 rotate_left 1;conv=>whnf
 refine zZ hfm ?_;conv=>whnf
 refine zZ hmn ?_;conv=>whnf
 try (refine tS ?_;conv=>whnf)
 try (refine tS ?_;conv=>whnf)
 rotate_left 1;refine Af ?_ ?_;conv=>whnf
 refine zZ hfm ?_;refine Af ?_ ?_;conv=>whnf
 refine zZ hmn ?_;conv=>whnf
 try (refine tS ?_;conv=>whnf)
 try (refine tS ?_;conv=>whnf)
 rotate_left 1;conv=>whnf
 refine zZ hmn ?_;conv=>whnf
 try (refine tS ?_;conv=>whnf)
 try (refine tS ?_;conv=>whnf)
 rotate_left 1;conv=>whnf
 refine zZ hfm ?_;conv=>whnf
 refine zZ hmn ?_;conv=>whnf
 try (refine tS ?_;conv=>whnf)
 try (refine tS ?_;conv=>whnf)
 rotate_left 1;all_goals
  apply zW (2) tys_ok mixed (.one 0 (.two 1 (.o [2,3] .fin) 2 (.o [1,3] .fin))) (by kernel_rfl);refine Af ?_ ?_;conv=>whnf
  try (refine tS ?_;conv=>whnf)
  try (refine tS ?_;conv=>whnf)
  rotate_left 1;conv=>whnf
  try (refine tS ?_;conv=>whnf)
  try (refine tS ?_;conv=>whnf)
  rotate_left 1;all_goals
   exact⟨_,ri,D,rfl,h4⟩
theorem aDraw.conv {P:Program} {T:Tys} {n d0 id:Nat} {ops:Array Oper} {K:Fr->List AB->Prop} {fr:Fr} {H:List AB} (h:aDraw P T n d0 id ops (fun fr H=>∃ fr2 H2,ConvF fr H fr2 H2/\K fr2 H2) fr H):aDraw P T n d0 id ops K fr H:=
 ⟨fun w0 M0 ce c a hs hf he hd Q hq=>h.wp w0 M0 ce c a hs hf he hd Q fun c' fr' H' a' ⟨fr2,H2,hc,hk⟩ hs' hf' he'=>by
  obtain⟨c2,e,s2,f2,x2⟩:=hc _ _ _ _ _ hs' hf';have:=hq c2 fr2 H2 a' hk s2 f2 (he'.trans x2);rwa [e] at this⟩
theorem Rg (g:Geo) (d:Dk) (e:Nat->List AV) (h:DkOk d):Fn Tryz.prog 41 [.ag (AT g), .ag (EN d), .sl 4 0 e] fun r=>r = .ag (EN d):=by
 obtain⟨q1,q2,q3,q4⟩:=h.big;have ho:=O2 d q1 q2 q3 q4;refine zS Tryz.func41 rfl ?_;conv=>whnf
 refine zV ho rfl ?_;rintro _ _ ⟨rfl,rfl⟩;conv=>whnf
 refine zu 1 ?_;refine Af (Ab _).symm ?_;refine Af (Ab _).symm ?_;exact⟨.ag (EN d),Bi ⟨Bb (f:=BE) _ rfl rfl,Bb (f:=EE) _ rfl rfl,ri,ri,tv⟩,rfl⟩
theorem RdL.seal1 {c c1:Ctx} (x1:Ext c c1) {x y:AV} (r1:∀ v,Rd x c v->Rd y c1 v):∀ {l:List AV} {us:List Value} {i:Nat},RdL l c us->l[i]? = some x->RdL (l.set i y) c1 us
 | [],us,i,h,hi=>by simp at hi
 | a::l,us,0,h,hi=>by
  simp only [Df,Option.some.injEq] at hi;subst hi;simp only [List.set_cons_zero,RdL] at h |-
  obtain⟨u,vs,rfl,h1,h2⟩:=h;exact⟨u,vs,rfl,r1 u h1,RdL.ext _ x1 h2⟩
 | a::l,us,i+1,h,hi=>by
  simp only [List.getElem?_cons_succ] at hi;simp only [List.set_cons_succ,RdL] at h |-
  obtain⟨u,vs,rfl,h1,h2⟩:=h;exact⟨u,vs,rfl,Rd.ext _ x1 h1,RdL.seal1 x1 r1 h2 hi⟩
theorem ACalls.sealArg {P:Program} {q:Bool} {f:FuncId} {args:List AV} {H:List AB} {K:AV->List AB->Prop} (i k:Nat) {t:TypeId} {sz:Nat} {es:List (List AV)} (hx:args[i]? = some (.ow k es.length)) (hk:H[k]? = some (.row t sz es))
  (hc:ACalls P q f (args.set i (.sl sz es.length fun j=>es.getD j [])) (H.set k .dead) K):ACalls P q f args H K:=by
 refine⟨hc.go,fun w0 M0 c us hs hr=>?_⟩;obtain⟨c1,e1,s1,x1,r1⟩:=hs.freeze hk;have:=hc.calls w0 M0 c1 us s1 (RdL.seal1 x1 r1 hr hx);rw [e1] at this;refine this.mono ?_;rintro e w' ⟨v,c',r,H2,rfl,rfl,q1,q2,q3,q4,q5⟩;exact⟨v,c',r,H2,rfl,rfl,q1,q2,x1.trans q3,q4,q5⟩
theorem Zd {H:List AB} {s:Stt} {t tH tT:TypeId} (j a b:Nat) (hj:H[j]? = some (.box t (stX s (.ow a s.a.homes.length) (.ow b s.txns.length)))) (ha:H[a]? = some (.row tH 3 (s.a.homes.map EC))) (hb:H[b]? = some (.row tT 4 (s.txns.map CO))) (hab:a≠b) (hjb:j≠b) (hja:j≠a) :
  ConvH H (((((H.set a .dead).set j (.box t (stX s (.sl 3 (s.a.homes.map EC).length fun i=>(s.a.homes.map EC).getD i []) (.ow b s.txns.length)))).set b .dead).set j (.box t (stX s (.sl 3 (s.a.homes.map EC).length fun i=>(s.a.homes.map EC).getD i []) (.sl 4 (s.txns.map CO).length fun i=>(s.txns.map CO).getD i [])))).set j (.box t (EB s))):=by
 have hlt:=(Ar.1 hj).1;obtain⟨T,hT⟩:∃ T:AV,T = .sl 4 (s.txns.map CO).length fun i=>(s.txns.map CO).getD i []:=⟨_,rfl⟩
 obtain⟨M,hM⟩:∃ M:AV,M = .sl 3 (s.a.homes.map EC).length fun i=>(s.a.homes.map EC).getD i []:=⟨_,rfl⟩
 have t1:∀ (c:Ctx) (v:Value),Rd T c v->Rd (Dl s.txns) c v:=by rw [hT];exact Bb (f:=CO) s.txns (Ab _) rfl
 have m1:∀ (c:Ctx) (v:Value),Rd M c v->Rd (Jk s.a.homes) c v:=by rw [hM];exact Bb (f:=EC) s.a.homes (Ab _) rfl
 rw [<-hT,<-hM];refine zx (zy j a (cs2:=stX s M (.ow b s.txns.length)) hj ha ?_) (zx (zy j b (cs2:=stX s M T) (t:=t) (cs:=stX s M (.ow b s.txns.length)) ?_ (es':=s.txns.map CO) (t':=tT) (sz':=4) ?_ ?_) (zq j (t:=t) (cs:=stX s M T) ?_ ⟨ri,ri,ri,ri,ri,ri,m1,t1,ri,ri,ri,ri,ri,ri,tv⟩))
 ·rw [<-hM];simp only [stX,A3,By,Ga (Ab _).symm,S2 (show (b == a)=false by simpa using Ne.symm hab)];rfl
 ·rw [AD (by simpa using hlt)]
 ·rw [AA hjb,AA hab,hb]
 ·rw [<-hT];subst hM;simp only [stX,A3,By,Ga (Ab _).symm];rfl
 ·rw [AD (by simpa using hlt)]
theorem Xf {H:List AB} {d:Dk} {t tC tW:TypeId} (j a b:Nat) (hj:H[j]? = some (.box t (He (.ow a d.cells.length) (.ow b d.cache.length) d.reqs d.left))) (ha:H[a]? = some (.row tC 3 (d.cells.map BE))) (hb:H[b]? = some (.row tW 2 (d.cache.map EE))) (hab:a≠b) (hjb:j≠b) (hja:j≠a) :
  ConvH H (((((H.set a .dead).set j (.box t (He (.sl 3 (d.cells.map BE).length fun i=>(d.cells.map BE).getD i []) (.ow b d.cache.length) d.reqs d.left))).set b .dead).set j (.box t (He (.sl 3 (d.cells.map BE).length fun i=>(d.cells.map BE).getD i []) (.sl 2 (d.cache.map EE).length fun i=>(d.cache.map EE).getD i []) d.reqs d.left))).set j (.box t (EN d))):=by
 have hlt:=(Ar.1 hj).1;obtain⟨T,hT⟩:∃ T:AV,T = .sl 2 (d.cache.map EE).length fun i=>(d.cache.map EE).getD i []:=⟨_,rfl⟩
 obtain⟨M,hM⟩:∃ M:AV,M = .sl 3 (d.cells.map BE).length fun i=>(d.cells.map BE).getD i []:=⟨_,rfl⟩
 have t1:∀ (c:Ctx) (v:Value),Rd T c v->Rd (Lz d.cache) c v:=by rw [hT];exact Bb (f:=EE) d.cache (Ab _) rfl
 have m1:∀ (c:Ctx) (v:Value),Rd M c v->Rd (NZ d.cells) c v:=by rw [hM];exact Bb (f:=BE) d.cells (Ab _) rfl
 rw [<-hT,<-hM];refine zx (zy j a (cs2:=He M (.ow b d.cache.length) d.reqs d.left) hj ha ?_) (zx (zy j b (cs2:=He M T d.reqs d.left) (t:=t) (cs:=He M (.ow b d.cache.length) d.reqs d.left) ?_ (es':=d.cache.map EE) (t':=tW) (sz':=2) ?_ ?_) (zq j (t:=t) (cs:=He M T d.reqs d.left) ?_ ⟨m1,t1,ri,ri,tv⟩))
 ·rw [<-hM];simp only [He,A3,By,Ga (Ab _).symm,S2 (show (b == a)=false by simpa using Ne.symm hab)];rfl
 ·rw [AD (by simpa using hlt)]
 ·rw [AA hjb,AA hab,hb]
 ·rw [<-hT];subst hM;simp only [He,A3,By,Ga (Ab _).symm];rfl
 ·rw [AD (by simpa using hlt)]
theorem XU {es:List (List AV)} {k:Nat} {e e':List AV} (h:SubL e e') (i:Nat):SubL ((es.set k e).getD i []) ((es.set k e').getD i []):=by
 rw [Aa,Aa,List.getElem?_set,List.getElem?_set];split
 ·split
  ·exact h
  ·exact SubL.refl _
 ·exact SubL.refl _
def IX (n k:Nat):List (List UInt8):=List.replicate k zero8 ++ List.replicate (n - k) []
theorem VK {n k:Nat} (h:k<=n):(IX n k).length=n:=by simp [IX];omega
theorem VJ {n k:Nat} (h:k<n):(IX n k).set k zero8=IX n (k+1):=by
 obtain⟨m,rfl⟩:∃ m,n=k+1+m:=⟨n - (k+1),by omega⟩;unfold IX;rw [show k+1+m - k=m+1 by omega,show k+1+m - (k+1)=m by omega,Dn,D4 _ _ (by simp)];simp only [B8,Cq,List.set_cons_zero];rw [List.replicate_succ' (n:=k),A9];try rfl
theorem VI (n i:Nat):SubL ((List.replicate ((n:Int).toNat) (List.map AV.v [Value.slice none 0 0])).getD i []) (((IX n 0).map DY).getD i []):=by
 rw [Ac,IX,List.replicate_zero,B5,Nat.sub_zero,List.map_replicate];by_cases h:i<n
 ·rw [show (List.replicate n (List.map AV.v [Value.slice none 0 0])).getD i []=List.map AV.v [Value.slice none 0 0] by simp [h],show (List.replicate n (DY [])).getD i []=DY [] by simp [h]];exact⟨Bh 1 _,tv⟩
 ·rw [show (List.replicate n (List.map AV.v [Value.slice none 0 0])).getD i []=[] by simp [h],show (List.replicate n (DY [])).getD i []=[] by simp [h]];trivial
theorem zero8_sub:SubL [.sl 1 (Int.toNat 8) fun i=>(List.replicate (Int.toNat 8) (List.map AV.v [Value.int IntKind.u8 0])).getD i []] (DY zero8):=⟨E0 rfl rfl,tv⟩
theorem L6 (x:Int) : [AV.v (Value.int .u8 (IntKind.u8.wrap x))]=Ej (UInt8.ofNat (IntKind.u8.wrap x).toNat):=by
 rw [Ej,IntKind.wrap_u8];have h1:0<=x % 256/\x % 256<256:=by omega
 have h2:(UInt8.ofNat (x % 256).toNat).toNat=(x % 256).toNat:=BC (by show (x % 256).toNat<256;omega);rw [h2,DU h1.1]
theorem Zo (x0 x1 x2 x7:Int):∃ b:List UInt8,b.length=8/\ [[AV.v (Value.int .u8 (IntKind.u8.wrap x0))], [AV.v (Value.int .u8 (IntKind.u8.wrap x1))], [AV.v (Value.int .u8 (IntKind.u8.wrap x2))], [AV.v (Value.int .u8 1)], [AV.v (Value.int .u8 1)], [AV.v (Value.int .u8 1)], [AV.v (Value.int .u8 1)], [AV.v (Value.int .u8 (IntKind.u8.wrap x7))]]=b.map Ej:=
 ⟨[UInt8.ofNat (IntKind.u8.wrap x0).toNat,UInt8.ofNat (IntKind.u8.wrap x1).toNat,UInt8.ofNat (IntKind.u8.wrap x2).toNat,1,1,1,1,UInt8.ofNat (IntKind.u8.wrap x7).toNat],rfl,by rw [L6,L6,L6,L6];try rfl⟩
theorem be {m:Nat} (h:Nat.ble 13 m=true):∀ z∈ [7,8,9,10,11,12],z<m:=fun z hz=>by
 have:=Ag h;simp at hz;omega
theorem Vo.mono {g:Geo} {K K':Int} {M:Md} (h:Vo g K M) (hk:K<=K'):Vo g K' M:=⟨h.an,h.ring,Int.le_trans h.gen hk,Int.le_trans h.seq hk,h.one,h.fb,h.m⟩
theorem a8 {m:Nat} (h:Nat.ble 12 m=true):∀ z∈ [6,7,8,9,10,11],z<m:=fun z hz=>by
 have:=Ag h;simp at hz;omega
theorem YU {g:Geo} (hg:Bp g=true):1<=g.z*g.d/\g.z*g.d<=16:=by
 obtain⟨g1,g2,g3,g4,g5⟩:=As.1 hg;rcases(show g.z=1\/g.z=2\/g.z=3\/g.z=4 by omega) with h | h | h | h <;> rw [h] <;> omega
@[reducible] def stZ:List AV:= [iv 0,iv 0,iv 0,iv 0,iv 0, .v (.string ⟨#[]⟩), .v (.slice none 0 0), .v (.slice none 0 0), .v (.bool false),iv 0,iv 0,iv 0,iv 0, .v (.slice none 0 0)]
@[reducible] def dkZ:List AV:= [.v (.slice none 0 0), .v (.slice none 0 0),iv 0,iv 0]
@[reducible] def plH (g:Geo) (M:Md) (d:Dk):List AB:= [.box 23 (AT g), .box 39 stZ, .box 43 dkZ, .box 39 (EB (AJ M.a M.l)), .box 43 (EN d), .row 47 1 (M.m.map DY)]
theorem RE (g:Geo) (L:List Q2) (sn:Nat) (sg:Nat->List AV) (f:Dk->Dk) (hsp:∀ d,DkOk d->Fn Tryz.prog 41 [.ag (AT g), .ag (EN d), .sl 4 sn sg] fun r=>r = .ag (EN (f d))) (hg:Bp g=true) (hl:L.length<=1000000):ACalls Tryz.prog false 11 [.ag (AT g),RD L, .sl 4 sn sg] [] fun r H=>∃ M d,aU g L (min L.length 6) M/\Gd (Ay g) d M.F/\Vo g 14 M/\r = .tp [.ag (EB (AJ M.a M.l)), .ag (EN (f d)), .ow 0 M.m.length]/\H=[.row 47 1 (M.m.map DY)]:=by
 obtain⟨g1,g2,g3,g4,g5⟩:=As.1 hg;obtain⟨n1,n2⟩:=YU hg;obtain⟨n,hn⟩:∃ n:Nat,(n:Int)=g.z*g.d:=⟨(g.z*g.d).toNat,by omega⟩;have hon:=VM g hg;obtain⟨-, -, -, -, -,hvo⟩:=SO hg;refine zT tys_ok Tryz.func11 rfl rfl (Ag rfl) ?_;conv=>whnf
 refine zH hon rfl ?_;rintro _ ⟨D,rfl,hD⟩;conv=>whnf
 rw [wi (show -9223372036854775808<=g.z*g.d/\g.z*g.d<=9223372036854775807 by omega),<-hn];refine⟨⟨rfl,by omega,by omega⟩,?_⟩;conv=>whnf
 refine zU Nat (fun k=>([(1,RD L),(2, .sl 4 sn sg),(3, .bp 0 0),(6, .bp 1 0),(7, .bp 2 0),(9, .bp 3 0),(10, .bp 4 0),(11,iv (n:Nat)),(12, .ow 5 n),(13,iv (k:Nat))], [.box 23 (AT g), .box 39 stZ, .box 43 dkZ, .box 39 (EB (AJ (FY g).a (FY g).l)), .box 43 (EN D), .row 47 1 ((IX n k).map DY)])) (fun k=>k<=n) (fun k=>n - k) 0 (Aj _)
  (zF (zK (zE (k:=5) (es':=(IX n 0).map DY) rfl (by simp [IX]) fun i=>VI n i)) (s:= [0,1,2,3,4,5]) tA) ?_
 intro k hk;conv=>whnf
 refine A8 (fun h6=>?_) (fun h6=>?_) <;> (repeat rw [Ac] at h6) <;> conv=>whnf
 ·have hk2:k<n:=by omega
  have hkl:=VK hk;repeat' (refine z_ ?_;conv=>whnf)
  refine⟨⟨by omega,by omega⟩,?_⟩;refine⟨⟨by omega,by omega⟩,?_⟩;refine⟨rfl,?_⟩;conv=>whnf
  refine Af ⟨rfl,by rw [Ab,hkl],by show k<n;omega⟩ ?_;conv=>whnf
  rw [Ac,show ((IX n k).map DY).getD k []=DY ((IX n k).getD k []) from Bc (by omega)];exact⟨k+1,by omega,by omega,zF (zK (zE (k:=5) (es':=((IX n k).map DY).set k (DY zero8)) rfl (by simp) fun j=>XU zero8_sub j)) (s:= [0,1,2,3,4,5]) ⟨⟨rfl,rfl,rfl,rfl,rfl,rfl,rfl,rfl,rfl,AH (by omega),tv⟩,⟨rfl,rfl,rfl,rfl,rfl,congrArg (fun es=>some (AB.row 47 1 es)) (by rw [<-VJ hk2,Ca]),tv⟩,rfl,rfl,rfl,rfl,rfl⟩⟩
 have ek:k=n:=by omega
 subst ek;have hm0:IX k k=(FY g).m:=by
  show _=List.replicate (g.z*g.d).toNat zero8;unfold IX;rw [<-hn];simp
 rw [hm0];conv=>whnf
 refine zU (Nat × Md × Dk) (fun x=>([(1,RD L),(2, .sl 4 sn sg),(3, .bp 0 0),(6, .bp 1 0),(7, .bp 2 0),(9, .bp 3 0),(10, .bp 4 0),(11,iv (k:Nat)),(12, .ow 5 k),(14,iv (x.1:Nat))],plH g x.2.1 x.2.2)) (fun x=>x.1<=min L.length 6/\aU g L x.1 x.2.1/\Gd (Ay g) x.2.2 x.2.1.F/\Vo g (2+2*(x.1:Nat)) x.2.1) (fun x=>min L.length 6 - x.1) (0,FY g,D) ⟨Aj _,rfl,hD,hvo⟩
  (zR (s:= [0,1,2,3,4,5]) tA) ?_
 rintro⟨i,M,d⟩ ⟨hi,hpl,hd,hv⟩;simp only at hi hpl hd hv;by_cases him:i<min L.length 6
 ·have hiL:i<L.length:=by omega
  conv=>whnf
  rw [show decide ((i:Int)<(L.length:Nat))=true from decide_eq_true (by omega)];conv=>whnf
  rw [show decide ((i:Int)<6)=true from decide_eq_true (by omega)];conv=>whnf
  repeat' (refine z_ ?_;conv=>whnf)
  refine⟨⟨by omega,by omega⟩,?_⟩;refine⟨by decide,?_⟩;conv=>whnf
  have ek:IntKind.u64.wrap (k:Int)=k:=by rw [IntKind.wrap_u64];omega
  rw [ek];refine⟨by omega,?_⟩;conv=>whnf
  obtain⟨A,hA⟩:∃ A,A=Ki (L.getD (i:Int).toNat ⟨0,0⟩).a (k:Nat):=⟨_,rfl⟩;have hA2:0<=A/\A<(k:Nat):=by rw [hA];exact FI (by omega) (by omega)
  rw [show IntKind.i64.wrap ((IntKind.u64.wrap (L.getD (i:Int).toNat ⟨0,0⟩).a).tmod (k:Int))=A from hA.symm];refine aDraw.conv ?_;apply zW (0) tys_ok mixed (.o [0,1,2,3,4,5,6,7,8,9,10,11,12,13,14,15,16,17,18] .fin) (by kernel_rfl);conv=>whnf
  try (refine tI ?_;conv=>whnf)
  try (refine tI ?_;conv=>whnf)
  try (refine tI ?_;conv=>whnf)
  try (refine tI ?_;conv=>whnf)
  refine⟨by decide,?_⟩;conv=>whnf
  obtain⟨b,hb8,hbe⟩:=Zo (L.getD (i:Int).toNat ⟨0,0⟩).b ((L.getD (i:Int).toNat ⟨0,0⟩).b.fdiv (2 ^ min (Int.toNat 8) IntKind.i64.bits)) (i:Nat) A;refine⟨_,_,zQ (zL 16 6 rfl rfl) (zI 16 rfl (E0 (L:=b) hb8.symm hbe)),?_⟩;have e3:(3+2*(i:Nat):Int)=2+2*(i:Nat)+1:=by omega
  have hvol:=hv.vol hd;have hbeg:=LU g d (AJ M.a M.l) hd.ok (hvol.sm hg);have hcm:=R6 g M.a M.l d M.F (2+2*(i:Nat)) A b hg hvol (by omega) hd (fun q=>Bo (hv.fb q) (by decide)) (by omega) hb8;conv=>whnf
  refine zV hbeg rfl ?_;rintro _ _ ⟨rfl,rfl⟩;conv=>whnf
  refine zi (Md × Dk) (fun x=>([(1,RD L),(2, .sl 4 sn sg),(3, .bp 0 0),(6, .bp 1 0),(7, .bp 2 0),(9, .bp 3 0),(10, .bp 4 0),(11,iv (k:Nat)),(12, .ow 5 k),(14,iv (i:Nat))],plH g x.1 x.2)) (fun x=>br g M A b x.1/\Gd (Ay g) x.2 x.1.F/\Vo g (3+2*(i:Nat)) x.1) ?_ ?_
  ·conv=>whnf
   refine ACalls.sealArg 1 13 rfl rfl ?_;refine ACalls.sealArg 2 14 rfl rfl ?_;refine zX [.bp 7 0,iA [A],Ev [b]] ⟨ri,EJ (L:= [A]) rfl rfl,Ei (L:= [b]) rfl rfl,tv⟩ ?_;refine zd [7,8,9,10,11,12] hcm ?_;rintro _ _ (⟨rfl,ok1,ok2,d2,W,hd2,hW,hv2,rfl⟩ | ⟨e,he,rfl,hbad,d2,rfl⟩)
   ·conv=>whnf
    apply zW (1024) tys_ok mixed (.o [0,1,2,3,4,5,6,7,8,9] (.two 10 (.o [11,12] .fin) 11 (.o [10,12] .fin))) (by kernel_rfl);refine Af ?_ ?_;conv=>whnf
    try (refine tS ?_;conv=>whnf)
    try (refine tS ?_;conv=>whnf)
    rotate_left 1;conv=>whnf
    try (refine tS ?_;conv=>whnf)
    try (refine tS ?_;conv=>whnf)
    rotate_left 1;all_goals
     refine⟨⟨by omega,by omega⟩,?_⟩;conv=>whnf
     refine Af ⟨rfl,by rw [Ab];show k=M.m.length;have:=hv.m;omega,by omega⟩ ?_;conv=>whnf
     rw [show (M.m.map DY).getD A.toNat []=DY (M.m.getD A.toNat []) from Bc (by have:=hv.m;omega)];conv=>whnf
     exact⟨(⟨M.a,M.l ++ [H7 g M.a M.l M.F A b],IA M.F W,M.m.set A.toNat b⟩,d2),⟨.inl ⟨ok1,ok2,W,hW,rfl⟩,hd2,Vo.of (M:=⟨M.a,M.l ++ [H7 g M.a M.l M.F A b],IA M.F W,M.m.set A.toNat b⟩) (by rw [e3];exact hv2) (QW hv.fb fun w hw=>(hW w hw).2) (by show ((M.m.set A.toNat b).length:Int)=_;rw [AW];exact hv.m)⟩,zF (zK (zx (Zd (s:=AJ M.a (M.l ++ [H7 g M.a M.l M.F A b])) 3 11 12 rfl rfl rfl (by decide) (by decide) (by decide)) (Xf (d:=d2) 4 9 15 rfl rfl rfl (by decide) (by decide) (by decide)))) (s:= [0,1,2,3,4,5]) ⟨tA,⟨rfl,rfl,rfl,rfl,rfl,congrArg (fun es=>some (AB.row 47 1 es)) (Ca (f:=DY)).symm,tv⟩,rfl,rfl,rfl,rfl,rfl⟩⟩
   ·conv=>whnf
    rw [show (e == 0)=false from beq_eq_false_iff_ne.2 he];exact⟨(M,d),⟨.inr ⟨hbad,rfl⟩,hd,hv.mono (by omega)⟩,zR (s:= [0,1,2,3,4,5]) tA⟩
  rintro⟨M2,d2⟩ ⟨hcr,hd2,hv2⟩;simp only at hcr hd2 hv2;have hstep:∀ M3,M3=(if (L.getD i ⟨0,0⟩).b.tmod 3=0 then YL g M2 else M2)->aU g L (i+1) M3:=fun M3 h=>⟨M,M2,hpl,⟨A,b,by omega,hb8,hcr⟩,h⟩
  refine⟨⟨by omega,by omega⟩,?_⟩;refine⟨by decide,?_⟩;conv=>whnf
  rw [Ac];refine⟨by decide,?_⟩;conv=>whnf
  by_cases h3:(L.getD i ⟨0,0⟩).b.tmod 3=0;rotate_left 1
  ·rw [show ((L.getD i ⟨0,0⟩).b.tmod 3 == 0)=false from beq_eq_false_iff_ne.2 h3];conv=>whnf
   exact⟨(i+1,M2,d2),⟨by show i+1<=min L.length 6;omega,hstep M2 (if_neg h3).symm,hd2,hv2.mono (by omega)⟩,by show min L.length 6 - (i+1)<min L.length 6 - i;omega,zR (s:= [0,1,2,3,4,5]) ⟨⟨rfl,rfl,rfl,rfl,rfl,rfl,rfl,rfl,rfl,AH (by omega),tv⟩,tA,rfl,rfl,rfl,rfl,rfl⟩⟩
  rw [show ((L.getD i ⟨0,0⟩).b.tmod 3 == 0)=true from beq_iff_eq.2 h3];have hvol2:=hv2.vol hd2;have hbeg2:=LU g d2 (AJ M2.a M2.l) hd2.ok (hvol2.sm hg);obtain⟨a2,l2,F2,m2⟩:=M2;conv=>whnf
  refine zV hbeg2 rfl ?_;rintro _ _ ⟨rfl,rfl⟩;conv=>whnf
  cases l2 with
  | nil=>
   have hck:=R8 g a2 d2;refine zd [6,7,8,9,10,11] hck ?_;rintro _ _ ⟨rfl,rfl⟩;conv=>whnf
   apply zW (1024) tys_ok mixed (.o [0,1,2,3,4,5,6,7,8,9] (.two 10 (.o [11,12] .fin) 11 (.o [10,12] .fin))) (by kernel_rfl);refine Af ?_ ?_;conv=>whnf
   try (refine tS ?_;conv=>whnf)
   try (refine tS ?_;conv=>whnf)
   rotate_left 1;conv=>whnf
   try (refine tS ?_;conv=>whnf)
   try (refine tS ?_;conv=>whnf)
   rotate_left 1;all_goals
    exact⟨(i+1,⟨a2, [],F2,m2⟩,d2),⟨by show i+1<=min L.length 6;omega,hstep _ ((show (⟨a2, [],F2,m2⟩:Md)=YL g ⟨a2, [],F2,m2⟩ from rfl).trans (if_pos h3).symm),hd2,hv2.mono (by omega)⟩,by show min L.length 6 - (i+1)<min L.length 6 - i;omega,zF (zK (zx (Zd (s:=AJ a2 []) 3 10 11 rfl rfl rfl (by decide) (by decide) (by decide)) (Xf (d:=d2) 4 8 9 rfl rfl rfl (by decide) (by decide) (by decide)))) (s:= [0,1,2,3,4,5]) ⟨⟨rfl,rfl,rfl,rfl,rfl,rfl,rfl,rfl,rfl,AH (by omega),tv⟩,tA,rfl,rfl,rfl,rfl,rfl⟩⟩
  | cons x r=>
   have hck:=TS g a2 x r d2 F2 (3+2*(i:Nat)) hg hvol2 (by omega) hd2;refine zd [6,7,8,9,10,11] hck ?_;rintro _ _ ⟨rfl,d3,hd3,rfl⟩;conv=>whnf
   have hvc:=Vo.ck hg hv2 (by omega) hd2 (d':=d3) hd3;apply zW (1024) tys_ok mixed (.o [0,1,2,3,4,5,6,7,8,9] (.two 10 (.o [11,12] .fin) 11 (.o [10,12] .fin))) (by kernel_rfl);refine Af ?_ ?_;conv=>whnf
   try (refine tS ?_;conv=>whnf)
   try (refine tS ?_;conv=>whnf)
   rotate_left 1;conv=>whnf
   try (refine tS ?_;conv=>whnf)
   try (refine tS ?_;conv=>whnf)
   rotate_left 1;all_goals
    exact⟨(i+1,⟨D_ g a2 x,r,Gj g a2 x F2,m2⟩,d3),⟨by show i+1<=min L.length 6;omega,hstep _ ((show (⟨D_ g a2 x,r,Gj g a2 x F2,m2⟩:Md)=YL g ⟨a2,x::r,F2,m2⟩ from rfl).trans (if_pos h3).symm),hd3,hvc.mono (by omega)⟩,by show min L.length 6 - (i+1)<min L.length 6 - i;omega,zF (zK (Xf (d:=d3) 4 8 12 rfl rfl rfl (by decide) (by decide) (by decide))) (s:= [0,1,2,3,4,5]) ⟨⟨rfl,rfl,rfl,rfl,rfl,rfl,rfl,rfl,rfl,AH (by omega),tv⟩,tA,rfl,rfl,rfl,rfl,rfl⟩⟩
 ·have ei:i=min L.length 6:=by omega
  have hsp:=hsp d hd.ok;have ekm:k=M.m.length:=by have:=hv.m;omega
  conv=>whnf
  by_cases hiL:i<L.length;rw [show decide ((i:Int)<(L.length:Nat))=true from decide_eq_true (by omega)];conv=>whnf
  rw [show decide ((i:Int)<6)=false from decide_eq_false (by omega)];conv=>whnf
  rotate_left 1;rw [show decide ((i:Int)<(L.length:Nat))=false from decide_eq_false (by omega)];conv=>whnf
  all_goals
   apply zW (0) tys_ok mixed (.o [0,1,2,3,5,4,6,7,8] .fin) (by kernel_rfl);conv=>whnf
   refine zZ hsp ?_;conv=>whnf
   try (refine tS ?_;conv=>whnf)
   try (refine tS ?_;conv=>whnf)
  all_goals
   exact⟨.tp [.ag (EB (AJ M.a M.l)), .ag (EN (f d)), .ow 5 k], .tp [.ag (EB (AJ M.a M.l)), .ag (EN (f d)), .ow 0 k], [.row 47 1 (M.m.map DY)],fun _ _ h=>h,zR (s:= [5]) tA,M,d,ei ▸ hpl,hd,hv.mono (by omega),by rw [ekm],rfl⟩
def bl8:List UInt8:= [1,2,3,4,5,6,7,8]
theorem Gd.free {n:Int} {d:Dk} {F:Int->List UInt8} (h:Gd n d F) (q:Int):stuck d q=false:=by
 unfold stuck;refine decide_eq_false fun e=>?_
 by_cases hi:q.toNat<d.cells.length
 ·have:=(h.cell (q.toNat:Nat) (by omega) (by rw [<-h.len];omega)).1;rw [Ac,e] at this;cases this
 ·rw [Aa,AG (by omega)] at e;cases e
end
section
open Go.RowKit Go.Maps
theorem Yj {c0:Ctx} {W:World} {L:List Int} {a:Option Addr} {k i:Nat} (hB:Below c0.w.heap.size c0.w W) (h:Rd (iA L) c0 (.slice a L.length k)) (hi:i<=L.length):Rd (iA (L.take i)) { c0 with w:=W } (.slice a i k):=by
 simp only [iA,Rd] at h |-
 obtain⟨a',k',e,h1,h2,h3⟩:=h;injection e with e1 e2 e3
 subst e1 e3;refine⟨a,k,by rw [Aq,Di hi],by rw [Aq];omega,h2,?_⟩;rcases h3 with h3 | ⟨b,off,rfl,hm,hb,hc⟩
 ·exact .inl (by rw [Aq];omega)
 ·refine .inr ⟨b,off,rfl,hm,At hb hB.size,fun j hj=>⟨rfl,?_⟩⟩;rw [Aq] at hj;have:=(hc j (by omega)).2;simp only [RdAt,Rd,and_true] at this |-
  obtain⟨u,q1,q2,q3⟩:=this;refine⟨u,(hB.cell (p:=⟨b,off+j*1,none⟩) hb).trans q1,q2,?_⟩;rw [q3,Aa,Aa,List.getElem?_take,if_pos (by omega)]
def Oh (g:Geo) (L:List Int) (k:Nat):List Lit:=(L.take k).map fun x=> .int .i64 (x.tdiv g.d)
def Lu (g:Geo) (L:List Int) (k:Nat):DataW Unit:=setOf (.lit (.bool true)) (Oh g L k)
theorem Na (g:Geo) (L:List Int) (k:Nat) (hk:k<L.length):Lu g L (k+1)=(Lu g L k).put (.int .i64 ((L.getD k 0).tdiv g.d)) (.lit (.bool true)):=by
 have e:Oh g L (k+1)=Oh g L k ++ [.int .i64 ((L.getD k 0).tdiv g.d)]:=by
  unfold Oh;rw [AR,Az];simp [List.getD,Ae hk]
 unfold Lu;rw [e,setOf_snoc]
def Er (g:Geo) (L:List Int):Int:=(L.length:Int)+2*(Maps.size (Lu g L L.length):Nat)+1
theorem TE (g:Geo) (L:List Int) (hg:Bp g=true) (hne:0<L.length) (hl:L.length<=1000) (h:∀ i,i<L.length->0<=L.getD i 0/\L.getD i 0<g.z*g.d) (hri:∀ i j,i<j->j<L.length->L.getD i 0<L.getD j 0):Fn Tryz.prog 175 [.ag (AT g),iA L] fun r=>r = .tp [iv (Er g L),iv 0]:=by
 refine⟨⟨_,Tryz.func175,rfl,by decide⟩,fun c0 us hd hM hgl hr=>?_⟩;obtain⟨u1,u2,rfl,h1,h2⟩:=bc hr;have hu1:u1 = .agg #[.int .i64 g.z, .int .i64 g.d, .int .i64 g.sp, .int .i64 g.sl, .int .i64 g.an]:=by
  simp only [AT,Rd,RdL] at h1;obtain⟨xs,rfl,a1,_,rfl,rfl,a2,_,rfl,rfl,a3,_,rfl,rfl,a4,_,rfl,rfl,a5,_,rfl,rfl,rfl⟩:=h1;rfl
 have hs:=Ra h2;obtain⟨a,k,rfl⟩:=hs.form;subst hu1;have hC:Fn Tryz.prog 51 [.ag (AT g)] fun r=>r = .v (FQ (Bp g)):=DV g.z g.d g.sp g.sl g.an
 rw [hg] at hC;have hkb:k<=maxLen:=hs.cap.2.2;have hLk:L.length<=k:=hs.cap.2.1;obtain⟨b,o,rfl, -, -⟩:=Mh hs (k:=0) hne;have hxs:∀ i (hi:i<L.length),c0.w.cell? ⟨b,o+i,none⟩=some (.int .i64 (L.getD i 0)):=fun i hi=>by
  obtain⟨b',o',e, -,q⟩:=Mh hs hi;injection e with e
  injection e with e1 e2
  subst e1 e2;rw [q,Aa,Ae hi];try rfl
 have hbs:b<c0.w.heap.size:=World.block_lt_of_cell? c0.w _ (hxs 0 hne);have rg:∀ W,Rd (.ag (AT g)) { c0 with w:=W } (.agg #[.int .i64 g.z, .int .i64 g.d, .int .i64 g.sp, .int .i64 g.sl, .int .i64 g.an]):=fun W=>by
  simp [Rd,RdL,AT]
 have cC:∀ W,Below c0.w.heap.size c0.w W->Calls Tryz.prog 51 #[.agg #[.int .i64 g.z, .int .i64 g.d, .int .i64 g.sp, .int .i64 g.sl, .int .i64 g.an]] W fun e w'=>e = .returned (.int .i64 0)/\Below W.heap.size W w':=fun W hB=>(hC.at hd hM hgl hB (us:= [_]) (by simpa [RdL] using rg W)).mono fun e w' ⟨v,r,h1,h2,h3,h4⟩=>by
  subst h2;simp only [Rd] at h4;subst h4;exact⟨h1,h3⟩
 have cS:∀ W A,(0<=A/\A<g.z*g.d)->Below c0.w.heap.size c0.w W->Calls Tryz.prog 103 #[.agg #[.int .i64 g.z, .int .i64 g.d, .int .i64 g.sp, .int .i64 g.sl, .int .i64 g.an], .int .i64 A] W fun e w'=>e = .returned (.tuple #[.int .i64 (A.tdiv g.d), .int .i64 (A.tmod g.d), .int .i64 0])/\Below W.heap.size W w':=fun W A hA hB=>((NL g A hg hA).at hd hM hgl hB (us:= [_,_]) (by simpa [RdL,Rd] using rg W)).mono fun e w' ⟨v,r,h1,h2,h3,h4⟩=>by
  subst h2;simp only [Rd,RdL] at h4;obtain⟨xs,rfl,a1,_,rfl,rfl,a2,_,rfl,rfl,a3,_,rfl,rfl,rfl⟩:=h4;exact⟨h1,h3⟩
 have cX:∀ W i,i<L.length->Below c0.w.heap.size c0.w W->Calls Tryz.prog 115 #[.slice (some ⟨b,o,none⟩) i k, .int .i64 (L.getD i 0)] W fun e w'=>e = .returned (.bool false)/\Below W.heap.size W w':=fun W i hi hB=>by
  have hX:=Qa (L.take i) (L.getD i 0) (by rw [Aq];omega);have e:(L.take i).any (fun x=>L.getD i 0 == x)=false:=by
   rw [List.any_eq_false];intro x hx;obtain⟨j,hj,rfl⟩:=Do hx;rw [Aq] at hj;have:=hri j i (by omega) hi;rw [Aa (i:=j),Ae (by omega)] at this;rw [List.getElem_take];simp only [B4] at this;simp only [beq_iff_eq];omega
  rw [e] at hX;exact(hX.at hd hM hgl hB (us:= [_,_]) (by simpa [RdL,Rd] using Yj (i:=i) hB h2 (by omega))).mono fun e w' ⟨v,r,h1,h2,h3,h4⟩=>by
   subst h2;simp only [Rd] at h4;subst h4;exact⟨h1,h3⟩
 have hmm:=@run_makeMap Tryz.prog;clear hC hr h1 hs rg
 go_enter Tryz.func175,Tryz.ntmps175
 go_wp2_with fail
 have hB1:Below c0.w.heap.size c0.w (c0.w.alloc (.cells #[.int .i64 g.z, .int .i64 g.d, .int .i64 g.sp, .int .i64 g.sl, .int .i64 g.an] 23)):=(Below.refl _ _).alloc (Ah _) _;((with_reducible refine(cC _ hB1).mono ?_);rintro e w1 ⟨rfl,hBa⟩);have hs1:c0.w.heap.size+1<=w1.heap.size:=by have:=hBa.size;simpa using this
 have hBw:=Lib.hid (hB1.trans (hBa.mono (by simp)));have hbk:=Lib.hid ((hBa.block c0.w.heap.size (by simp)).trans (heap_alloc_new _ _));clear hB1 hBa cC
 go_wp2_with fail
 have hB2:=Lib.hid (hBw.out.alloc (by omega) (.map #[] 0));have hbk2:(w1.alloc (.map #[] 0)).heap[c0.w.heap.size]? = some (.cells #[.int .i64 g.z, .int .i64 g.d, .int .i64 g.sp, .int .i64 g.sl, .int .i64 g.an] 23):=(Below.heap_alloc _ _ _ (by omega)).trans hbk.out;have hown:(w1.alloc (.map #[] 0)).ownsMap Tryz.prog 3 (plainElem (H:=Unit) Tryz.prog 4) w1.heap.size 0 (.map []):=World.ownsMap_made _ _ _ _;have hms:w1.heap.size<(w1.alloc (.map #[] 0)).heap.size:=by simp
 generalize w1.alloc (.map #[] 0)=W2 at *
 generalize w1.heap.size=mb at *
 go_loopw [18] (fun i wr=>∃ n:Nat,n<=L.length/\i = .int .i64 n/\wr.ownsMap Tryz.prog 3 (plainElem (H:=Unit) Tryz.prog 4) mb n (Lu g L n)/\Below c0.w.heap.size c0.w wr/\wr.heap[c0.w.heap.size]? = some (.cells #[.int .i64 g.z, .int .i64 g.d, .int .i64 g.sp, .int .i64 g.sl, .int .i64 g.an] 23))
  (fun i _=>L.length - (intOf i).toNat)
 case atStart=>exact⟨0,Aj _,rfl,hown,hB2.out,hbk2⟩
 case round=>
  obtain⟨n,hn,rfl,hown,hnx,hbx⟩:=hrel;have hcell:∀ i,wr.cell? ⟨c0.w.heap.size,i,none⟩ = #[Value.int .i64 g.z, .int .i64 g.d, .int .i64 g.sp, .int .i64 g.sl, .int .i64 g.an][i]? :=fun i=>by
   simp only [World.cell?];rw [hbx];try rfl
  have hcx:n<L.length->wr.cell? ⟨b,o+n,none⟩=some (.int .i64 (L.getD n 0)):=fun hn=>(hnx.cell (by exact hbs)).trans (hxs n hn)
  by_cases hlt:n<L.length
  ·go_wp2_with fail
   have hnk:n<=k:=by omega
   have eL:L.getD n 0=L[n]:=by rw [Aa,Ae hlt];try rfl
   have hA:=h n hlt;have cXn:=fun W=>cX W n hlt
   have hsu:=Na g L n hlt;rw [eL] at hA cXn hsu;((with_reducible refine(cS _ _ hA hnx).mono ?_);rintro e w2 ⟨rfl,hBb⟩);have hB3:=Lib.hid (hnx.trans (hBb.mono hnx.size));have hown2:=N0 hown hBb;have hbx2:w2.heap[c0.w.heap.size]? = some (.cells #[.int .i64 g.z, .int .i64 g.d, .int .i64 g.sp, .int .i64 g.sl, .int .i64 g.an] 23):=(hBb.block _ (by have:=(Av.1 hbx).1;exact this)).trans hbx;clear hcell hcx hown cS hbx cX
   go_wp2_with fail
   ((with_reducible refine(cXn _ hB3.out).mono ?_);rintro e w3 ⟨rfl,hBc⟩);have hB4:=Lib.hid (hB3.out.trans (hBc.mono hB3.out.size));have hown3:=N0 hown2 hBc;have hbx3:w3.heap[c0.w.heap.size]? = some (.cells #[.int .i64 g.z, .int .i64 g.d, .int .i64 g.sp, .int .i64 g.sl, .int .i64 g.an] 23):=(hBc.block _ (by have:=(Av.1 hbx2).1;exact this)).trans hbx2;have hZ:(Lit.int .i64 (L[n].tdiv g.d)).wf=true:=by
    obtain⟨h1,h2,h3,h4,h5⟩:=As.1 hg;have hp:g.z*g.d<=16:=Int.le_trans (BF h1.2 (by omega)) (by omega);have hq:L[n].tdiv g.d=L[n] / g.d:=Bn hA.1;have hq2:0<=L[n] / g.d/\L[n] / g.d<=L[n]:=⟨DE hA.1 (by omega),Int.ediv_le_self _ hA.1⟩;have : -9223372036854775808<=L[n].tdiv g.d/\L[n].tdiv g.d<=9223372036854775807:=by omega
    simp only [Lit.wf];rw [Ad];exact⟨decide_eq_true this.1,decide_eq_true this.2⟩
   have hkey:keyOf Tryz.prog 3 (.int .i64 (L[n].tdiv g.d))=some (.int .i64 (L[n].tdiv g.d)):=keyOf_int_mk und_int hZ;clear hown2 cXn hbx2
   go_wp2_with (first
    | (at_mapUpdate;refine wpList_mapUpdate_own _ rfl _ _ _ 303 rfl 3 4 (int_keyed und_int) und_map (plainElem (H:=Unit) Tryz.prog 4) mb n _ rfl hown3 (by unfold maxLen;omega) _ _ _ rfl rfl hkey _ [] (plainElem_bool und_bool true) ?_;intro w4 hown4 hgrow4)
    | go_in)
   go_roundw
   case rel=>exact⟨n+1,by omega,by go_num,by rw [hsu];exact hown4,hB4.out.grown hgrow4 hB4.out.size (fun j hj=>by cases hj;omega),(hgrow4.block c0.w.heap.size (by have:=(Av.1 hbx3).1;exact this) (by simp;omega)).trans hbx3⟩
   case measure=>simp [intOf];omega
  ·have hen:n=L.length:=by omega
   subst hen
   go_wp2_with (first
    | (at_len;refine wpList_len_own _ rfl _ 303 rfl 3 4 und_map _ mb _ _ rfl hown ?_)
    | go_in)
   have hsz:=hown.size_le
   go_ret2
   refine⟨_,_,rfl,rfl,hnx,?_⟩;simp only [Rd,RdL];refine⟨_,rfl,_,_,rfl,?_,_,_,rfl,rfl,rfl⟩;have hq:(Maps.size (Lu g L L.length):Int)<=1000:=by omega
   have e:wrap64 (wrap64 ((L.length:Int)+wrap64 (2*(Maps.size (Lu g L L.length):Nat)))+1)=Er g L:=by
    rw [IntWalk.wrap64_in (2*(Maps.size (Lu g L L.length):Nat)) (by omega),IntWalk.wrap64_in ((L.length:Int)+2*(Maps.size (Lu g L L.length):Nat)) (by omega),IntWalk.wrap64_in _ (by omega)];try rfl
   exact congrArg (Value.int .i64) e
end
end Go.Proofs.YtepdhdfoipephaaGreatDoor.A
