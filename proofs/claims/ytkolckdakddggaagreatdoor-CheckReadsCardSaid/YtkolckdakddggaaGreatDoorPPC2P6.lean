/-
Several texts in one.
-/
import Derived.Test.YtkolckdakddggaaGreatDoorPPC2P5
import Derived.Test.YtkolckdakddggaaGreatDoorPPC2P4
import Derived.Test.YtkolckdakddggaaGreatDoorPPC2P2
import Derived.Test.YtkolckdakddggaaGreatDoorRows
import Derived.Below
import Derived.ChangeSame
import Derived.Carry
import Derived.Test.YtkolckdakddggaaGreatDoorPPC2P1
import Derived.Lib.LaidIn
import Derived.Lib.LaidU8T
import Derived.LaidHandle
import Derived.MakeChecks
import Derived.Handed
set_option linter.defProp false
set_option maxRecDepth 100000
set_option maxHeartbeats 8000000
set_option linter.unusedSimpArgs false
set_option linter.unusedVariables false
set_option linter.deprecated false
namespace Go.Proofs.YtkolckdakddggaaGreatDoor.A
section
open Go.RowKit
theorem VolV.far {g:Geo} (hg:Bt g=true) {a:An} (ha:Bg g a=true) {l:List Tx} {F F':Int->List UInt8} {V:Int->Int->List UInt8} (h:VolV g a l F V) (e:∀ q,g.an+2*g.sl<=q->F' q=F q):VolV g a l F' V:=by
 obtain⟨g1,g2,g3,g4,g5⟩:=As.1 hg
 intro z h0 h1
 obtain⟨t,hz⟩:=h z h0 h1
 refine⟨t,⟨?_,hz.len,hz.ent,fun w hw hw2=>?_,hz.par⟩⟩
 ·have:=hz.tab
  unfold E6 at this |-
  rw [e (AG g z 0) (by unfold AG;omega),e (AG g z 1) (by unfold AG;omega)]
  exact this
 ·have:=hz.val w hw hw2
  obtain⟨sl,e1,e2⟩:=D_ hg ha ⟨h0,h1⟩ (w:=w) ⟨hw,hw2⟩
  have hsl:=E_ hg ⟨h0,h1⟩ e2
  rw [e (Bw g a z w) (by omega)]
  exact this
theorem Yi {g:Geo} (hg:Bt g=true) {a:An} {l:List Tx} {F:Int->List UInt8} {lba:Int} {b:List UInt8} (himg:∀ t∈l,∀ x∈t.images,B9 g x=true) (hs:0<=a.seq+(l.length:Int)/\a.seq+(l.length:Int)<=4294967295) (hlba:0<=lba/\lba<g.z*g.d) (hb:b.length=8) (ht:(E6 g (AO a l) F (lba.tdiv g.d)).isSome=true):(Gx g a l F lba b).images.length=3/\(∀ x∈(Gx g a l F lba b).images,B9 g x=true)/\OneTab (Gx g a l F lba b).images:=by
 obtain⟨g1,g2,g3,g4,g5⟩:=As.1 hg
 obtain⟨t,ht⟩:=Cs.1 ht
 have ei:(Gx g a l F lba b).images=C4 (lba.tdiv g.d) (BJ g t (Dq g (AO a l) F t (lba.tdiv g.d)) [lba.tmod g.d] [b] (a.seq+(l.length:Int))) (EH g t (Dq g (AO a l) F t (lba.tdiv g.d)) [lba.tmod g.d] [b] g.d.toNat) [lba.tmod g.d] [b]:=by
  show G2 g (AO a l) F _ lba b=_
  unfold G2
  rw [ht]
 have htok:=Jt ht
 obtain⟨Z,hZ⟩:∃ Z,Z=lba.tdiv g.d:=⟨_,rfl⟩
 obtain⟨A,hA⟩:∃ A,A=lba.tmod g.d:=⟨_,rfl⟩
 have hZ2:0<=Z/\Z<g.z:=by
  rw [hZ,Bl hlba.1]
  exact⟨D3 hlba.1 (by omega),Cp (by omega) hlba.2⟩
 have hA2:0<=A/\A<g.d:=by
  rw [hA]
  exact⟨Bq _ hlba.1,Bb _ (by omega)⟩
 rw [<-hZ,<-hA] at ei
 have hadlen:∀ x∈Dq g (AO a l) F t Z,x.length=0\/x.length=8:=fun x hx=>by
  have himg:∀ t∈(AO a l).txns,∀ x∈t.images,B9 g x=true:=himg
  rcases A6.1 hx with q | q
  ·obtain⟨i,hi,rfl⟩:=AR.1 q
   exact GN himg (by have:=AU.1 hi;omega)
  ·rw [AE] at q
   rw [q]
   exact GN himg (by decide)
 have h01:∀ x∈ [b],x.length=8:=fun x hx=>by rw [AE] at hx;rw [hx];exact hb
 have hA3:∀ x∈ [A],0<=x/\x<g.d:=fun x hx=>by rw [AE] at hx;rw [hx];exact hA2
 rw [ei]
 refine⟨by rw [FJ];rfl,fun x hx=>?_,?_⟩
 ·exact(Mj hg hZ2 (Gz hg htok (by omega)) (Gg hadlen h01 (show [A].length<= [b].length from Ah 1) _) hA3 h01 (Ah 1) x hx).1
 ·exact KQ (l:= []) hg List.Pairwise.nil (fun x hx=>by cases hx) hA3
def Y5 (g:Geo) (M:Md):Prop:=(M.m.length:Int)=g.z*g.d/\∃ V,VolV g M.a M.l M.F V/\∀ z w,0<=z->z<g.z->0<=w->w<g.d->M.m.getD (z*g.d+w).toNat []=V z w
theorem aw {g:Geo} (hg:Bt g=true) {z w:Int} (h0:0<=z) (h1:z<g.z) (h2:0<=w) (h3:w<g.d):0<=z*g.d+w/\z*g.d+w<g.z*g.d:=by
 obtain⟨g1,g2,g3,g4,g5⟩:=As.1 hg
 have e1:0<=z*g.d:=CW h0 (by omega)
 have e2:(z+1)*g.d<=g.z*g.d:=BT (by omega) (by omega)
 rw [Int.add_mul,Int.one_mul] at e2
 omega
theorem Zd {g:Geo} (hg:Bt g=true):Y5 g (Fp g):=by
 obtain⟨g1,g2,g3,g4,g5⟩:=As.1 hg
 have hn:0<=g.z*g.d:=CW (by omega) (by omega)
 refine⟨?_,_,PJ hg,fun z w h0 h1 h2 h3=>?_⟩
 ·show (((List.replicate (g.z*g.d).toNat zero8).length:Nat):Int)=_
  rw [B4]
  omega
 ·have:=aw hg h0 h1 h2 h3
  show (List.replicate (g.z*g.d).toNat zero8).getD _ []=zero8
  rw [Aa,C3,if_pos (by omega)]
  rfl
theorem Y3 {g:Geo} (hg:Bt g=true) {K:Int} (hK:K<=4294967294) {D:Dk} {M:Md} (hv:Vol g K D (AO M.a M.l)) (h:Y5 g M):Y5 g (Xc g M)/\Vol g (K+1) D (AO (Xc g M).a (Xc g M).l):=by
 obtain⟨a,l,F,m⟩:=M
 cases l with
 | nil=>exact⟨h,⟨hv.gd,hv.an,hv.ring,hv.rest,by have q:a.gen<=K:=hv.gen;show a.gen<=K+1;omega,by have q:a.seq+(([]:List Tx).length:Int)<=K:=hv.seq;show a.seq+(([]:List Tx).length:Int)<=K+1;omega,hv.one⟩⟩
 | cons x r=>
  obtain⟨hm,V,hV,hr⟩:=h
  have hi:=(DU hv.ring x (by show x∈x::r;simp)).1
  have h2:=hv.home hg (x:=x) (r:=r) rfl hK (d':=D) hv.gd
  have ha:Bg g a=true:=hv.an
  obtain⟨a1,a2,a3,a4⟩:=EE ha
  have hr0:C5 g (x::r) a.seq a.pos g.sl=true:=hv.ring
  simp only [C5,Ad,decide_eq_true_eq] at hr0
  have hxs:x.seq=a.seq:=hr0.1.1
  have hseq:a.seq+(x::r).length<=K:=hv.seq
  have hl1:1<=(x::r).length:=by simp
  refine⟨⟨hm,V,SL hg ha (Aw.1 hi) (by omega) hV,hr⟩,h2⟩
theorem ZS {g:Geo} (hg:Bt g=true) {K:Int} (hK:K<=4294967294) {D:Dk} {M M':Md} {lba:Int} {b:List UInt8} (hlba:0<=lba/\lba<g.z*g.d) (hb:b.length=8) (hv:Vol g K D (AO M.a M.l)) (h:Y5 g M) (hc:ae g M lba b M'):Y5 g M'/\Vol g (K+1) D (AO M'.a M'.l):=by
 obtain⟨g1,g2,g3,g4,g5⟩:=As.1 hg
 rcases hc with ⟨hu,ht,W,hW,rfl⟩ | ⟨-,rfl⟩
 rotate_left 1
 ·exact⟨h,⟨hv.gd,hv.an,hv.ring,hv.rest,by have:=hv.gen;omega,by have:=hv.seq;omega,hv.one⟩⟩
 obtain⟨a,l,F,m⟩:=M
 obtain⟨hm,V,hV,hr⟩:=h
 simp only at hu ht hW hm hV hr
 have ha:Bg g a=true:=hv.an
 obtain⟨a1,a2,a3,a4⟩:=EE ha
 have hseq:a.seq+l.length<=K:=hv.seq
 have himg:∀ t∈l,∀ x∈t.images,B9 g x=true:=fun t ht=>Aw.1 (DU hv.ring t ht).1
 obtain⟨c1,c2,c3⟩:=Yi hg (F:=F) himg (by omega) hlba hb ht
 refine⟨⟨?_,SC V (Gx g a l F lba b),?_,fun z w h0 h1 h2 h3=>?_⟩,?_⟩
 ·show (((m.set lba.toNat b).length:Nat):Int)=_
  rw [Bh]
  exact hm
 ·have q:=WW hg (x:=Gx g a l F lba b) (by show 0<=a.seq+(l.length:Int)/\a.seq+(l.length:Int)<=4294967295;omega) himg hV (Zv hg hlba hb ht)
  exact q.far hg ha fun p hp=>Jn _ _ rfl fun w hw e=>by have:=(hW w hw).1;omega
 ·rw [Zt hg hlba ht V ⟨h2,h3⟩]
  show (m.set lba.toNat b).getD (z*g.d+w).toNat []=_
  have hz:=aw hg h0 h1 h2 h3
  have hdm:g.d*lba.tdiv g.d+lba.tmod g.d=lba:=Int.mul_tdiv_add_tmod lba g.d
  rw [Aa,List.getElem?_set]
  by_cases e:z=lba.tdiv g.d/\w=lba.tmod g.d
  ·rw [if_pos e,if_pos (by rw [e.1,e.2,Int.mul_comm,hdm]),if_pos (by omega)]
   rfl
  ·rw [if_neg e,if_neg fun q=>e ?_,<-Aa]
   ·exact hr z w h0 h1 h2 h3
   ·have q2:lba=z*g.d+w:=by omega
    have e1:lba.tdiv g.d=lba / g.d:=Bl hlba.1
    have e2:lba / g.d=z:=by
     rw [q2,Int.add_comm,Int.add_mul_ediv_right _ _ (by omega),Int.ediv_eq_zero_of_lt h2 h3,Int.zero_add]
    refine⟨by rw [e1,e2],?_⟩
    rw [e1,e2,Int.mul_comm] at hdm
    omega
 ·exact hv.add hg hK (d':=D) hv.gd (x:=Gx g a l F lba b) rfl rfl (by show (2:Int)<=4;omega) (by show (4:Int)<=g.sl - Ey l;omega) (by show (4:Int)=_;rw [c1];rfl) c2 c3
theorem YU {g:Geo} (hg:Bt g=true) (L:List Q2):∃ D,∀ (i:Nat) (M:Md),i<=1000->Z0 g L i M->Y5 g M/\Vol g (2+2*(i:Nat)) D (AO M.a M.l):=by
 obtain⟨D, -, -, -,hD,hvo⟩:=VC hg
 refine⟨D,fun i=>?_⟩
 induction i with
 | zero=>
  intro M _ hM
  obtain rfl:=hM
  exact⟨Zd hg,hvo.vol hD⟩
 | succ i ih=>
  rintro M hi ⟨M1,M2,h1,⟨lba,b,hl,hb,hc⟩,rfl⟩
  obtain⟨r1,v1⟩:=ih M1 (by omega) h1
  obtain⟨r2,v2⟩:=ZS hg (by omega) hl hb v1 r1 hc
  have e:(2+2*((i+1:Nat):Int))=2+2*(i:Int)+1+1:=by omega
  rw [e]
  split
  ·exact Y3 hg (by omega) v2 r2
  ·exact⟨r2,⟨v2.gd,v2.an,v2.ring,v2.rest,by have:=v2.gen;omega,by have:=v2.seq;omega,v2.one⟩⟩
theorem T9 {S:Stt} (h:StSm S):Fn Tryz.prog 18 [.ag (Fi S), .ag (Fi S)] fun r=>r = .v (.bool true):=by
 have:=TA S S (by have:=h.h.1;omega) (fun x hx=>by have:=h.h.2 x hx;omega) (by have:=h.o;omega) (by have:=h.t.1;omega) (fun x hx=>⟨by have:=(h.t.2 x hx).1;omega,fun i hi=>by have:=(h.t.2 x hx).2 i hi;omega⟩)
 rwa [decide_eq_true rfl] at this
theorem VT {d:Dk} (h:DkOk d):Fn Tryz.prog 19 [.ag (Fq d), .ag (Fq d)] fun r=>r = .v (.bool true):=by
 have:=VU d d (by have:=h.n;omega) (by have:=h.m;omega) (fun c hc=>by have:=(h.c c hc).2;omega) (fun w hw=>by have:=(h.w w hw).2;omega)
 rwa [decide_eq_true rfl] at this
theorem Ww {l:List Tx} {z w:Int} {p:Img × Int} (h:CL l z w=some p):∃ t∈l,p.1∈t.images:=by
 have e:CL l z w=_:=Lq l z w l.length
 rw [e] at h
 cases hA:GV l z w l.length with
 | none=>rw [hA] at h;cases h
 | some q=>
  obtain⟨k,i⟩:=q
  obtain⟨h1,h2⟩:=JO hA
  rw [hA] at h
  obtain rfl:=Option.some.inj h
  exact⟨_,A9 h1,A9 h2⟩
theorem Zu {g:Geo} {M M':Md} {lba:Int} {b:List UInt8} (h:ae g M lba b M'):M'.l.length<=M.l.length+1:=by
 rcases h with ⟨-, -,W, -,rfl⟩ | ⟨-,rfl⟩
 ·show (M.l ++ [_]).length<=_
  rw [Ai]
  exact Ah _
 ·omega
theorem Zw (g:Geo) (M:Md):(Xc g M).l.length<=M.l.length:=by
 obtain⟨a,l,F,m⟩:=M
 cases l with
 | nil=>exact Ah _
 | cons x r=>exact Nat.le_succ _
theorem Si {g:Geo} {L:List Q2}:∀ (i:Nat) (M:Md),Z0 g L i M->M.l.length<=i
 | 0,M,h=>by
  obtain rfl:=h
  exact Ah _
 | i+1,M,h=>by
  obtain⟨M1,M2,h1,⟨lba,b, -, -,hc⟩,rfl⟩:=h
  have q1:=Si i M1 h1
  have q2:=Zu hc
  have q3:=Zw g M2
  split <;> omega
theorem W9 (g:Geo) (M:Md) (d:Dk) (K:Int) (k:Nat) (hg:Bt g=true) (hv:Vol g K d (AO M.a M.l)) (fb:∀ q,(M.F q).length<=200) (hd:Gd (Av g) d M.F) (hr:Y5 g M) (hk:k<M.m.length):(M.m.getD k []).length=8/\Fn Tryz.prog 20 [.ag (AY g), .ag (Fq d), .ag (Fi (AO M.a M.l)), .v (.int .i64 (k:Nat))] fun r=>∃ d',r = .tp [bA (M.m.getD k []), .ag (Fq d'), .v (.int .i64 0)]:=by
 obtain⟨g1,g2,g3,g4,g5⟩:=As.1 hg
 obtain⟨hm,V,hV,hE⟩:=hr
 have hb:(0:Int)<=(k:Nat)/\((k:Nat):Int)<g.z*g.d:=by omega
 have hz:0<=((k:Nat):Int).tdiv g.d/\((k:Nat):Int).tdiv g.d<g.z:=by
  rw [Bl hb.1]
  exact⟨D3 hb.1 (by omega),Cp (by omega) hb.2⟩
 have hA:0<=((k:Nat):Int).tmod g.d/\((k:Nat):Int).tmod g.d<g.d:=⟨Bq _ hb.1,Bb _ (by omega)⟩
 obtain⟨t,ht⟩:=hV _ hz.1 hz.2
 have hsm:=hv.sm hg
 have hlb:LogB M.l:=⟨by have:=hsm.t.1;have q:(AO M.a M.l).txns=M.l:=rfl;rw [q] at this;omega,fun t ht=>⟨by have:=(hsm.t.2 t ht).1;omega,fun x hx=>by have:=(hsm.t.2 t ht).2 x hx;omega⟩⟩
 have hB:∀ p,CL M.l (((k:Nat):Int).tdiv g.d) 255=some p->p.1.bytes.length<=100000:=fun p hp=>by
  obtain⟨t,ht,hx⟩:=Ww hp
  have:=(hsm.t.2 t ht).2 _ hx
  omega
 have hc:=Uw g M.a M.l d M.F (k:Nat) t _ hg hlb (hv.st hg) hsm hv.an hd (fun q=>Bi (fb q) (by decide)) hb hB ht
 have e:=hE _ _ hz.1 hz.2 hA.1 hA.2
 rw [Int.mul_comm,Int.mul_tdiv_add_tmod,Ac] at e
 rw [<-e] at hc
 exact⟨by rw [e];exact ht.len _ (by omega) hA.2,hc⟩
@[reducible] def crH (g:Geo) (M:Md) (d:Dk):List AB:= [.box 23 (AY g), .box 34 (Fi (AO M.a M.l)), .box 38 (Fq d)]
theorem Ur (g:Geo) (l:List Q2):Fn Tryz.prog 4 [.ag (AY g),Rg l] fun r=>r = .v (.bool true):=by
 have h1:=Vw g
 have hw:=wakes24_fn
 cases hg:Bt g with
 | false=>
  rw [hg] at h1
  refine zT Tryz.func4 rfl ?_
  conv=>whnf
  refine z_ h1 ?_
  exact⟨_,ri,rfl⟩
 | true=>
  rw [hg] at h1
  obtain⟨g1,g2,g3,g4,g5⟩:=As.1 hg
  by_cases hl:l.length<=10
  rotate_left 1
  ·refine zT Tryz.func4 rfl ?_
   conv=>whnf
   refine z_ h1 ?_
   conv=>whnf
   rw [show decide ((l.length:Int) > 10)=true from decide_eq_true (by omega)]
   exact⟨_,ri,rfl⟩
  have hp:=Nw g l hg (by omega)
  have hcb:=Eu hg
  have hzd:=Yt hg
  refine zT Tryz.func4 rfl ?_
  conv=>whnf
  refine z_ h1 ?_
  conv=>whnf
  rw [show decide ((l.length:Int) > 10)=false from decide_eq_false (by omega)]
  conv=>whnf
  refine zI hp rfl ?_
  rintro _ ⟨M0,d0,hpl,hd0,hv0,rfl⟩
  have hlen0:=Si _ _ hpl
  obtain⟨D,hD⟩:=YU hg l
  obtain⟨hr0, -⟩:=hD _ _ (by omega) hpl
  conv=>whnf
  refine zV (Nat × Md × Dk) (fun x=>([(2, .bp 0 0),(5, .bp 1 0),(6, .bp 2 0),(7,Ji x.2.1.m),(8, .v (.int .i64 (x.1:Nat)))],crH g x.2.1 x.2.2)) (fun x=>x.1+x.2.1.l.length<=6/\Gd (Av g) x.2.2 x.2.1.F/\Vo g (14+(x.1:Nat)) x.2.1/\Y5 g x.2.1) (fun x=>7 - x.1) (0,M0,d0) ⟨by show 0+M0.l.length<=6;omega,hd0,hv0,hr0⟩
   (zR (s:= [0,1,2]) ⟨⟨rfl,rfl,rfl,rfl,rfl,tv⟩,⟨rfl,rfl,rfl,tv⟩,rfl,rfl,rfl,rfl,rfl⟩) ?_
  rintro⟨i,M,d⟩ ⟨hi,hd,hv,hr⟩
  simp only at hi hd hv hr
  conv=>whnf
  rw [show decide ((i:Int)<8)=true from decide_eq_true (by omega)]
  conv=>whnf
  repeat' (refine zX ?_;conv=>whnf)
  have hvol:=hv.vol hd
  obtain⟨a,L,F,m⟩:=M
  cases L with
  | nil=>
   have hsm:StSm (AO a []):=hvol.sm hg
   have c1:=NU g (AO a []) d rfl hsm hd.ok (hvol.st hg)
   have cb:=K3 g d (AO a []) (by have:=hd.ok.n;omega) (by have:=hd.ok.m;omega) hsm.big
   rw [show MT g d (AO a [])=true from hvol.st hg] at cb
   have k1:=T9 hsm
   have k2:=VT hd.ok
   have hcl:(d.cache.length:Int)=0:=by rw [hd.cache];rfl
   refine z_ c1 ?_
   conv=>whnf
   refine z_ cb ?_
   conv=>whnf
   rw [show ((d.cache.length:Int) != 0)=false from bne_eq_false_iff_eq.2 hcl]
   conv=>whnf
   refine z_ k1 ?_
   conv=>whnf
   refine z_ k2 ?_
   conv=>whnf
   refine z_ hw ?_
   exact⟨_,ri,rfl⟩
  | cons x r=>
   have hrl:i+r.length<=5:=by
    have q:i+(x::r).length<=6:=hi
    rw [Al] at q
    omega
   have c1:=NT g a x r d F (14+(i:Nat)) hg hvol (by omega) hd
   refine zI c1 rfl ?_
   rintro _ ⟨d',hd',rfl⟩
   conv=>whnf
   have hv2:Vol g (14+(i:Nat)+1) d' (AO (B8 g a x) r):=hvol.home hg (x:=x) (r:=r) rfl (by omega) (d':=d') ⟨_,hd'⟩
   have hsm2:=hv2.sm hg
   have cb:=K3 g d' (AO (B8 g a x) r) (by have:=hd'.ok.n;omega) (by have:=hd'.ok.m;omega) hsm2.big
   rw [show MT g d' (AO (B8 g a x) r)=true from hv2.st hg] at cb
   have hcl:(d'.cache.length:Int)=0:=by rw [hd'.cache];rfl
   refine z_ cb ?_
   conv=>whnf
   rw [show ((d'.cache.length:Int) != 0)=false from bne_eq_false_iff_eq.2 hcl]
   conv=>whnf
   rw [show (((AO (B8 g a x) r).txns.length:Int) != IntKind.i64.wrap (((AO a (x::r)).txns.length:Nat) - 1))=false from bne_eq_false_iff_eq.2 (by show ((r.length:Nat):Int)=IntKind.i64.wrap (((x::r).length:Nat) - 1);rw [Al,wi (by omega)];omega)]
   conv=>whnf
   refine Ae ⟨by decide,by show (0:Int)<((x::r).length:Nat);rw [Al];omega⟩ ?_
   conv=>whnf
   rw [show (((x.images.length:Nat):Int) != (((AO a (x::r)).txns.getD (Int.toNat 0) ⟨0,0,0, []⟩).images.length:Nat))=false from bne_eq_false_iff_eq.2 rfl]
   conv=>whnf
   apply zH 2 tys_ok mixed (.one 0 (.two 1 (.one 2 (.one 3 .fin)) 2 (.one 1 (.one 3 .fin)))) [97,98] (by kernel_rfl)
   ·refine Ae ?_ ?_
    ·exact⟨rfl,rfl⟩
    ·exact⟨rfl,rfl⟩
   conv=>whnf
   repeat' (refine zX ?_;conv=>whnf)
   obtain⟨hr2, -⟩:=Y3 hg (K:=14+(i:Nat)) (by omega) (D:=d) (M:=⟨a,x::r,F,m⟩) hvol hr
   have hv3:=Vo.ck hg hv (by omega) hd (d':=d') hd'
   refine zV Nat (fun k=>([(2, .bp 0 0),(5, .bp 1 0),(6, .bp 2 0),(7,Ji m),(8, .v (.int .i64 (i:Nat))),(14, .v (.int .i64 (k:Nat)))],crH g ⟨B8 g a x,r,EL g a x F,m⟩ d')) (fun k=>k<=m.length) (fun k=>m.length - k) 0 (Aj _)
    (zR (s:= [0,1,2]) ⟨⟨rfl,rfl,rfl,rfl,rfl,rfl,tv⟩,⟨rfl,rfl,rfl,tv⟩,rfl,rfl,rfl,rfl,rfl⟩) ?_
   intro k hk
   by_cases hkn:k<m.length
   ·obtain⟨h8,cr⟩:=W9 g ⟨B8 g a x,r,EL g a x F,m⟩ d' (14+(i:Nat)+1) k hg hv2 hv3.fb hd' hr2 hkn
    simp only at h8 cr
    have hb:=RB (m.getD k []) (by omega)
    have ixA:(0:Int)<=(k:Nat)/\((k:Nat):Int)<(m.length:Nat):=by omega
    conv=>whnf
    rw [show decide ((k:Int)<(m.length:Nat))=true from decide_eq_true (by omega)]
    conv=>whnf
    repeat' (refine zX ?_;conv=>whnf)
    refine zI cr rfl ?_
    rintro _ ⟨d2,rfl⟩
    refine⟨ixA,?_⟩
    conv=>whnf
    refine z_ hb ?_
    conv=>whnf
    repeat' (refine zX ?_;conv=>whnf)
    have hml:(m.length:Int)=g.z*g.d:=hr.1
    exact⟨k+1,by omega,by omega,zR (s:= [0,1,2]) ⟨⟨rfl,rfl,rfl,rfl,rfl,AS (by omega),tv⟩,⟨rfl,rfl,rfl,tv⟩,rfl,rfl,rfl,rfl,rfl⟩⟩
   ·conv=>whnf
    rw [show decide ((k:Int)<(m.length:Nat))=false from decide_eq_false (by omega)]
    conv=>whnf
    repeat' (refine zX ?_;conv=>whnf)
    have e14:(14+((i+1:Nat):Int))=14+(i:Nat)+1:=by omega
    exact⟨(i+1,⟨B8 g a x,r,EL g a x F,m⟩,d'),⟨by show i+1+r.length<=6;omega,hd',by show Vo g (14+((i+1:Nat):Int)) _;rw [e14];exact hv3,hr2⟩,by show 7 - (i+1)<7 - i;omega,zR (s:= [0,1,2]) ⟨⟨rfl,rfl,rfl,rfl,AS (by omega),tv⟩,⟨rfl,rfl,rfl,tv⟩,rfl,rfl,rfl,rfl,rfl⟩⟩
end
end Go.Proofs.YtkolckdakddggaaGreatDoor.A
namespace Go.Proofs.YtkolckdakddggaaGreatDoor
section
open Go.ChangeShapes Go.WideShapes Go.ChangeAt Go.RowKit
theorem own_none:ownKnob Tryz.prog.godebug=none:=by kernel_rfl
theorem laidOut:laidOutB Tryz.prog=true:=by kernel_rfl

section
variable {H:Type} {enc:TypeId × Value->H}
theorem VP {f:Func} {s:ChangeSpec} {apart fresh handsOn again:Bool} {W W':World} {args:Array Value} {ds:List (DataW H)} {before:List MemPlace}
  (hW:DataW.Whole enc Tryz.prog f.params.toList s.vars apart W args.toList ds [] before) (hv:s.vars=[]) (hvs:(s.fn H (ds ++ [])).vars=[])
  (hr:f.resultTypes = #[4]) (hfr:(s.fn H (ds ++ [])).results=[.lit (.bool true)]) (hfa:(s.fn H (ds ++ [])).args=ds)
  (hrow:∀ t∈f.params.toList,Tryz.prog.readableRec t=true/\t<Tryz.prog.types.size) (hb:Below W.heap.size W W') :
  s.post enc Tryz.prog f apart fresh handsOn again W args (.bool true) W':=by
 have hlt:∀ p∈before,p.block<W.heap.size:=fun p hp=>hW.lt p hp
 obtain⟨p,q,hA,hV,hpq,hz,hn⟩:=id hW
 rw [hv] at hV
 obtain⟨-,rfl⟩:=trodVars_none hV
 rw [AM] at hpq
 subst hpq
 have stay:∀ sp:Nat->Bool,(∀ x∈before,sp x.block=true)->DataW.TrodAll enc Tryz.prog W' 0 sp true f.params.toList args.toList ds before:=by
  intro sp hsp
  have go:∀ (ts:List TypeId) (vs:List Value) (es:List (DataW H)) (ps:List MemPlace),(∀ t∈ts,Tryz.prog.readableRec t=true/\t<Tryz.prog.types.size)->(∀ x∈ps,x∈before)->
    DataW.TrodAll enc Tryz.prog W 0 (fun _=>true) true ts vs es ps->DataW.TrodAll enc Tryz.prog W' 0 sp true ts vs es ps:=by
   intro ts
   induction ts with
   | nil=>
    intro vs es ps _ _ h
    cases vs <;> cases es <;> exact h
   | cons t ts ih=>
    intro vs es ps ht hin h
    cases vs with
    | nil=>cases es <;> exact h.elim
    | cons v vs=>
     cases es with
     | nil=>exact h.elim
     | cons e es=>
      obtain⟨p1,p2,h1,h2,rfl⟩:=h
      exact⟨p1,p2,WideElems.Trod_stays laidOut (ht t (by simp)).1 (ht t (by simp)).2 h1 (fun x hx=>hb.same (hlt x (hin x (by simp [hx])))) (fun x hx=>hsp x (hin x (by simp [hx]))),
       ih vs es p2 (fun t' ht'=>ht t' (by simp [ht'])) (fun x hx=>hin x (by simp [hx])) h2,rfl⟩
  exact go _ _ _ _ hrow (fun x hx=>hx) hA
 have hres:∀ (b:Nat) (sp:Nat->Bool) (hd:Bool),DataW.TrodAll enc Tryz.prog W' b sp hd f.resultTypes.toList ((Value.bool true).resultList f.resultTypes.size) (s.fn H (ds ++ [])).results []:=by
  intro b sp hd
  rw [hr,hfr]
  exact trodAll_mk1 ⟨1,by simp [DataW.trod,Value.cells,Tryz.underlying4]⟩
 have hold:∀ p∈before,(fun b=>decide (b<W.heap.size)) p.block=true:=fun p hp=>by simpa using hlt p hp
 have hvars:∀ sp:Nat->Bool,DataW.TrodVars enc Tryz.prog W' sp s.vars (s.fn H (ds ++ [])).vars []:=by
  intro sp;rw [hv,hvs];exact rfl
 refine⟨ds, [],before, [],before, [],hW,hres _ _ _,by rw [hfa];exact stay _ hold,hvars _,World.keptBut_mono (fun p hp=>⟨hp,?_⟩) (hb.frame (·∈before)),fun _=>?_⟩
 ·exact Or.inr (by simpa using hp)
 ·refine⟨ok_one hr rfl (by simp [Value.okWide,Tryz.underlying4,Cell.okWide,Cell.ok]),_,_,([] ++ before) ++ [],⟨[] ++ before, [],trodAll_append (stay _ (fun _ _=>rfl)) (hres _ _ _),hvars _,rfl,?_,?_⟩,?_⟩
  ·intro b off hp
   have hin:MemPlace.cell b off∈before:=by simpa using hp
   rw [hb.frozen (hlt _ hin)]
   exact hz b off hin
  ·intro ha
   have:=hn ha
   simpa using this
  ·intro p hp _
   simpa using hp
end
abbrev VS : List (String × DataW Unit) := [("unicode/utf8.acceptRanges", Rows.laid_unicode_utf8_acceptRanges), ("unicode/utf8.first", Rows.laid_unicode_utf8_first)]
noncomputable def Ks (os:Os):World:=
 let w0:=World.holding Tryz.prog os ⟨#[], #[], []⟩
 let put (h:Array Obj) (g:Nat) (cs:Array Value):Array Obj:=h.modify g fun
  | .cells _ t frozen=> .cells cs t frozen
  | o=>o
 let h1:=put w0.heap 0 (Lib.firstTab.map fun z=>Value.int .u8 z).toArray
 let h2:=put h1 1 ((List.range 16).flatMap fun i=> [Value.int .u8 (Lib.accLo i),Value.int .u8 (Lib.accHi i)]).toArray
 { w0 with heap:=h2 }
theorem VR (os:Os) (args:Array Value):laidMetH Tryz.prog VS ((Ks os).forCall (fun _ _=>0) ⟨#[],args, []⟩).memory:=by
 rw [MakeChecks.laidMetH_plain _ _ _ (by kernel_rfl)]
 exact(LaidIn.of_run (l:=VS) [1,0] 8 (by kernel_rfl) (by kernel_rfl) (by kernel_rfl) (by kernel_rfl)).met
theorem first_data:Rows.laid_unicode_utf8_first=Lib.firstData:=by kernel_rfl
theorem accept_data:(Rows.laid_unicode_utf8_acceptRanges:DataW Unit)=Lib.acceptData:=by kernel_rfl
theorem T6 {W:World} (h:laidMetH Tryz.prog VS W):A.globOk W:=by
 rw [MakeChecks.laidMetH_plain _ _ _ (by kernel_rfl)] at h
 have h1:=Lib.laidMet.reads h (.head _)
 have h2:=Lib.laidMet.reads h (.tail _ (.head _))
 rw [accept_data] at h1
 rw [first_data] at h2
 exact utf8Tabs_of_readsT (U8Types.of196 Tryz.laysValid) ⟨by kernel_rfl,by kernel_rfl,by kernel_rfl,by kernel_rfl,by kernel_rfl,by kernel_rfl,by kernel_rfl⟩ h2 h1
end
end Go.Proofs.YtkolckdakddggaaGreatDoor
