/-
Several texts in one.
-/
import Derived.Test.YtpjkcgacjjbikaaGreatDoorPPC4P4
import Derived.Test.YtpjkcgacjjbikaaGreatDoorPPC4P3
import Derived.Test.YtpjkcgacjjbikaaGreatDoorPPC4P2
import Derived.Maps.OwnSet
set_option maxRecDepth 100000
set_option maxHeartbeats 8000000
set_option linter.unusedSimpArgs false
set_option linter.unusedVariables false
set_option linter.deprecated false
namespace Go.Proofs.YtpjkcgacjjbikaaGreatDoor.A
section
open Go.RowKit
structure Md where
 a:An
 l:List Tx
 F:Int->List UInt8
 m:List (List UInt8)
def aX (g:Geo) (M:Md) (lba:Int) (b:List UInt8) (M':Md):Prop:=
 (Cw M.l+4<=g.sl/\(ER g (AF M.a M.l) M.F (lba.tdiv g.d)).isSome=true/\∃ W:List Wr,(∀ w∈W,(g.an<=w.addr/\w.addr<g.an+2*g.sl/\Cx w.bytes=w.addr)/\w.bytes.length<=200)/\M'=⟨M.a,M.l ++ [Gk g M.a M.l M.F lba b],ML M.F W,M.m.set lba.toNat b⟩)
 \/((g.sl<Cw M.l+4\/ER g (AF M.a M.l) M.F (lba.tdiv g.d)=none)/\M'=M)
def ZR (g:Geo) (M:Md):Md:=match M.l with
 | []=>M
 | x::r=>⟨Ch g M.a x,r,Jp g M.a x M.F,M.m⟩
def KR (n:Int) (F:Int->List UInt8) (q:Int):List UInt8:=if -n<=q/\q<n then F q else []
def Ee (g:Geo):Md:=⟨DN (Cc g ⟨#[]⟩) 0, [],KR (Ar g) (Rw g (DN (Cc g ⟨#[]⟩) 0)),List.replicate (g.z*g.d).toNat zero8⟩
def ZM (g:Geo) (L:List Q2):Nat->Md->Prop
 | 0,M=>M=Ee g
 | i+1,M=>∃ M1 M2,ZM g L i M1/\(∃ lba b,(0<=lba/\lba<g.z*g.d)/\b.length=8/\aX g M1 lba b M2)/\M=if (L.getD i ⟨0,0⟩).b.tmod 3=0 then ZR g M2 else M2
structure Vo (g:Geo) (K:Int) (M:Md):Prop where
 an:Bj g M.a=true
 ring:C0 g M.l M.a.seq M.a.pos g.sl=true
 gen:M.a.gen<=K
 seq:M.a.seq+M.l.length<=K
 one:∀ t∈M.l,OneTab t.images
 fb:∀ q,(M.F q).length<=200
 m:(M.m.length:Int)=g.z*g.d
theorem Vo.vol {g:Geo} {K:Int} {M:Md} (h:Vo g K M) {d:Dk} (hd:Gd (Ar g) d M.F):Vol g K d (AF M.a M.l):=⟨⟨_,hd⟩,h.an,h.ring,tA,h.gen,h.seq,h.one⟩
theorem Vo.of {g:Geo} {K:Int} {M:Md} {d:Dk} (h:Vol g K d (AF M.a M.l)) (hf:∀ q,(M.F q).length<=200) (hm:(M.m.length:Int)=g.z*g.d):Vo g K M:=⟨h.an,h.ring,h.gen,h.seq,h.one,hf,hm⟩
theorem Ny {a:Int}:∀ (n:Nat) (l:List Wr) (w:Wr),l.length=n->JD l a=some w->w∈l
 | 0,l,w,hn,h=>by
  obtain rfl:=AT.1 hn;rw [Nx] at h;cases h
 | n+1,l,w,hn,h=>by
  rcases CO l with rfl | ⟨m,x,rfl⟩
  ·cases hn
  ·rw [CP] at h |-
   rw [IU] at h;split at h
   ·obtain rfl:=Option.some.inj h;simp
   ·exact List.mem_append_left _ (Ny n m w (by simpa using hn) h)
theorem QG {F:Int->List UInt8} {n:Nat} (hF:∀ q,(F q).length<=n) {W:List Wr} (hW:∀ w∈W,w.bytes.length<=n) (q:Int):(ML F W q).length<=n:=by
 induction W generalizing F with
 | nil=>exact hF q
 | cons w W ih=>
  refine ih (F:=YP F w) (fun q=>?_) fun x hx=>hW x (Bh _ hx)
  unfold YP;split
  ·split
   ·exact hW w List.mem_cons_self
   ·exact hF q
  ·split
   ·exact hF _
   ·exact hF q
theorem Vk {g:Geo} (hg:Bq g=true) {a:An} {x:Tx} (ha:Bj g (Ch g a x)=true) {F:Int->List UInt8} (hF:∀ q,(F q).length<=200) (hx:∀ y∈x.images,Bn g y=true) (q:Int):(Jp g a x F q).length<=200:=by
 unfold Jp;refine QG (QG hF fun w hw=>?_) (fun w hw=>(FI hg ha w hw).2) q;obtain⟨y,hy,hw⟩:=Ho.1 hw;have:=Ez hg (hx y hy);unfold C7 at hw;split at hw
 ·simp only [Bd,List.not_mem_nil,or_false] at hw;rcases hw with rfl | rfl <;> exact DW (by omega)
 ·rw [A2] at hw;rw [hw];exact DW (by omega)
theorem Vo.ck {g:Geo} (hg:Bq g=true) {K:Int} {M:Md} (h:Vo g K M) (hK:K<=4294967294) {d d':Dk} (hd:Gd (Ar g) d M.F) (f:Gd (Ar g) d' (ZR g M).F):Vo g (K+1) (ZR g M):=by
 obtain⟨a,l,F,m⟩:=M;cases l with
 | nil=>exact⟨h.an,h.ring,by have q:a.gen<=K:=h.gen;show a.gen<=K+1;omega,by have q:a.seq+(([]:List Tx).length:Int)<=K:=h.seq;show a.seq+(([]:List Tx).length:Int)<=K+1;omega,h.one,h.fb,h.m⟩
 | cons x r=>
  have hv:=h.vol hd;have h2:=hv.home hg (x:=x) (r:=r) rfl hK (d':=d') ⟨_,f⟩;have hi:=(Dj h.ring x (List.mem_cons_self)).1;exact Vo.of (d:=d') h2 (Vk hg h2.an h.fb (Av.1 hi)) h.m
theorem Gd.clip {n:Int} {d:Dk} {F:Int->List UInt8} (h:Gd n d F):Gd n d (KR n F)/\∀ q,(KR n F q).length<=200:=by
 have hl:=h.len;refine⟨⟨h.ok,h.left,h.len,h.cache,fun q h0 h1=>?_,fun q h0 h1=>?_⟩,fun q=>?_⟩
 ·have:=h.cell q h0 h1;unfold KR;rw [if_pos ⟨by omega,h1⟩];exact this
 ·have:=h.old q h0 h1;unfold KR;rw [if_pos ⟨by omega,by omega⟩];exact this
 ·unfold KR;split
  ·rename_i hq;by_cases h0:0<=q
   ·have hc:=(h.cell q h0 hq.2).2;rw [<-hc];exact(h.ok.c _ (A3 (by omega))).2.1
   ·have hc:=h.old (-1 - q) (by omega) (by omega);rw [show -1 - (-1 - q)=q by omega] at hc;rw [<-hc];exact(h.ok.c _ (A3 (by omega))).2.2
  ·simp
theorem VT {g:Geo} (hg:Bq g=true):∃ D,DK g (Gi g ⟨#[]⟩)=(D,0,AF (Ee g).a (Ee g).l)/\DkOk (Gi g ⟨#[]⟩)/\((Gi g ⟨#[]⟩).cells.length:Int)=Ar g/\Gd (Ar g) D (Ee g).F/\Vo g 2 (Ee g):=by
 obtain⟨D,h1,h2,h3,h4,h5⟩:=Zq hg;obtain⟨q1,q2⟩:=h5.clip;refine⟨D,h1,h2,h3,q1,Vo.of (d:=D) (M:=Ee g) ⟨⟨_,q1⟩,h4.an,h4.ring,h4.rest,h4.gen,h4.seq,h4.one⟩ q2 ?_⟩;obtain⟨g1,g2,g3,g4,g5⟩:=Aq.1 hg;have:0<=g.z*g.d:=Da (by omega) (by omega);show (((List.replicate (g.z*g.d).toNat zero8).length:Nat):Int)=_;rw [BJ];omega
structure Gc (n:Int) (d:Dk) (F:Int->List UInt8) (l:List Wr):Prop where
 ok:DkOk d
 len:(d.cells.length:Int)=n
 cache:d.cache=l
 cell:∀ a:Int,0<=a->a<n->(d.cells.getD a.toNat cz).state=0/\(d.cells.getD a.toNat cz).bytes=F a
theorem Gw.gc {n:Int} {d:Dk} {F:Int->List UInt8} {l:List Wr} (h:Gw n d F l):Gc n d F l:=⟨h.ok,h.len,h.cache,h.cell⟩
theorem Gc.write {n:Int} {d:Dk} {F:Int->List UInt8} {l:List Wr} (h:Gc n d F l) (hl:l.length<2000) {a:Int} (h0:0<=a) (h1:a<n) {b:List UInt8} (hb:b.length<=200):(d.left=0/\d.write a b=(d,8))\/(d.left≠0/\(d.write a b).2=0/\Gc n (d.write a b).1 F (l ++ [⟨a,b⟩])):=by
 by_cases hz:d.left=0
 ·exact .inl ⟨hz,by unfold Dk.write;rw [if_pos hz]⟩
 ·have hw:=h.ok.write (a:=a) (b:=b) (by rw [<-h.len] at h1;omega) hb;have e:d.write a b=({ d.req with cache:=d.cache ++ [⟨a,b⟩] },0):=by
   unfold Dk.write;rw [if_neg hz,if_neg];rintro(h2 | h2)
   ·have:=(h.cell a h0 h1).1;unfold cz at this;omega
   ·rw [h.cache] at h2;omega
  rw [e] at hw |-
  exact .inr ⟨hz,rfl,hw,h.len,by rw [h.cache],h.cell⟩
theorem Gc.puts {n:Int} {d:Dk} {F:Int->List UInt8} {W l:List Wr} (h:Gc n d F W) (hl:∀ w∈l,(0<=w.addr/\w.addr<n)/\w.bytes.length<=200) (hn:W.length+l.length<=2000):∀ k:Nat,k<=l.length->(d.writes (l.take k)).2.2=false->(d.writes (l.take k)).2.1=k/\Gc n (d.writes (l.take k)).1 F (W ++ l.take k)
 | 0,_,_=>⟨rfl,by rw [List.take_zero,AR];exact h⟩
 | k+1,hk,hv=>by
  have i:=FC d (l:=l) (k:=k) (by omega);have f:(d.writes (l.take k)).2.2=false:=by
   cases hc:(d.writes (l.take k)).2.2 with
   | false=>rfl
   | true=>
    rw [i] at hv;unfold CR at hv;rw [hc] at hv;simp only [if_true] at hv;rw [hc] at hv;cases hv
  obtain⟨q1,q3⟩:=Gc.puts h hl hn k (by omega) f;have hx:=Ji (d:=d) (l:=l) (k:=k) (by omega) f;have hm:=hl _ (A3 (d:=(⟨0, []⟩:Wr)) (show k<l.length by omega));rcases q3.write (by rw [Ai,As];omega) hm.1.1 hm.1.2 hm.2 with ⟨-,e8⟩ | ⟨-,e0,hw⟩
  ·rw [hx,e8] at hv;cases hv
  ·rw [hx,e0];have e:l.take (k+1)=l.take k ++ [l.getD k ⟨0, []⟩]:=by
    rw [Ba,Ag (by omega),Ac,Ag (by omega)];try rfl
   refine⟨by simp only [q1];rfl,?_⟩;rw [e,<-A7];exact hw
theorem Gc.flush {n:Int} {d:Dk} {F:Int->List UInt8} {l:List Wr} (h:Gc n d F l):Gc n d.flush (ML F l) []:=by
 have e:d.flush=⟨CL d.cells l, [],d.req.reqs,d.req.left⟩:=by
  unfold Dk.flush;rw [allFin_cells,h.cache];try rfl
 have ho:=h.ok.flush;rw [e] at ho |-
 refine⟨ho,by show ((CL d.cells l).length:Int)=n;rw [finL_len];exact h.len,rfl,fun a h0 h1=>?_⟩;have hl:=h.len;refine OI h0 (by omega) (h.cell a h0 h1) _ l rfl fun w hw=>?_
 rw [<-h.cache] at hw;exact(h.ok.w w hw).1.1
theorem Gc.putAll {n:Int} {d:Dk} {F:Int->List UInt8} {l:List Wr} (h:Gc n d F []) (hl:∀ w∈l,(0<=w.addr/\w.addr<n)/\w.bytes.length<=200) (hn:l.length<=2000) (hv:(d.putAll l).2.2=false):(d.putAll l).2.1=l.length/\Gc n (d.putAll l).1 (ML F l) []:=by
 cases hw:(d.writes l).2.2 with
 | true=>rw [Es hw] at hv;cases hv
 | false=>
  have hp:=Gc.puts h hl (by simpa using hn) l.length (Ah _);rw [Aw] at hp;obtain⟨q1,q2⟩:=hp hw;have e:=DX hw;by_cases h0:(d.writes l).1.left=0
  ·rw [if_pos h0] at e;rw [e] at hv;cases hv
  ·rw [if_neg h0] at e;rw [e];exact⟨q1,by simpa using q2.flush⟩
theorem QE (d:Dk) (l m:List Wr) (h:(d.writes l).2.2=true):d.writes (l ++ m)=d.writes l:=by
 have hk:=K8 d (l:=l ++ m) (k:=l.length) (by simp) (by rw [List.take_left];exact h);rw [hk,List.take_left]
theorem FD (d:Dk) (n:Nat) (w:Wr):CR (d,n,false) w=((d.write w.addr w.bytes).1,(if (d.write w.addr w.bytes).2=8 then n else n+if (d.write w.addr w.bytes).2=0 then 1 else 0),decide ((d.write w.addr w.bytes).2=8)):=by
 unfold CR;rw [if_neg (by simp)];simp only;split
 ·rename_i h;rw [decide_eq_true h]
 ·rename_i h;rw [decide_eq_false h]
theorem wrs_dead:∀ (m:List Wr) (d:Dk) (n:Nat),m.foldl CR (d,n,true)=(d,n,true)
 | [],_,_=>rfl
 | w::m,d,n=>by rw [List.foldl_cons,HH w rfl];exact wrs_dead m d n
theorem writes_more:∀ (m:List Wr) (d:Dk) (n:Nat),m.foldl CR (d,n,false)=((d.writes m).1,n+(d.writes m).2.1,(d.writes m).2.2)
 | [],_,_=>rfl
 | w::m,d,n=>by
  show m.foldl CR (CR (d,n,false) w)=_;have e:d.writes (w::m)=m.foldl CR (CR (d,0,false) w):=rfl;rw [e,FD,FD];generalize d.write w.addr w.bytes=q;obtain⟨d1,e⟩:=q;simp only;by_cases h8:e=8
  ·rw [if_pos h8,if_pos h8,decide_eq_true h8,wrs_dead,wrs_dead];try rfl
  ·rw [if_neg h8,if_neg h8,decide_eq_false h8,writes_more m d1,writes_more m d1];simp only [A0,CV]
theorem OZ {d:Dk} {l:List Wr} (m:List Wr) (h:(d.writes l).2.2=false):d.writes (l ++ m)=(((d.writes l).1.writes m).1,(d.writes l).2.1+((d.writes l).1.writes m).2.1,((d.writes l).1.writes m).2.2):=by
 show (l ++ m).foldl CR (d,0,false)=_;rw [BR];have e:l.foldl CR (d,0,false)=d.writes l:=rfl;rw [e];generalize d.writes l=q at h |-
 obtain⟨d1,n,b⟩:=q;simp only at h |-
 rw [h,writes_more]
theorem PT {g:Geo} {a:An} {seq:Int} {x:Img} {l:List Img} {q:Int} (h:x.zone.toNat<a.homes.length):C7 g (BX a q l) seq x=C7 g a seq x:=by
 unfold C7;rw [In l h]
def FQ (g:Geo) (s:Stt) (x:Tx) (r:List Tx) (d:Dk):Stt × Dk × Int × Int:=
 match d.putAll (Cb g s.a x.seq x.images) with
 | (d1,_,true)=>(s,d1,0,8)
 | (d1,_,false)=>match d1.putAll (AD g (Ch g s.a x)) with
  | (d2,_,true)=>(s,d2,0,8)
  | (d2,_,false)=>({ s with a:=Ch g s.a x,txns:=r },d2,(x.images.length:Nat),0)
theorem NU (a:An) (hh:a.homes.length<=1000) (hp:∀ h∈a.homes,h.places.length<=1000000):ACalls Tryz.prog false 81 [.ag (Ek a)] [] fun r H=>r = .ag (Lt a (.ow 0 a.homes.length))/\H=[.row 108 3 (a.homes.map DL)]:=by
 have hc:=N7 a.homes (by omega);refine zT tys_ok Tryz.func81 rfl rfl (Ae rfl) ?_;conv=>whnf
 refine zW hc rfl ?_;rintro _ _ ⟨rfl,rfl⟩;conv=>whnf
 refine zU Nat (fun k=>([(1, .bp 0 0),(2, .bp 1 0),(10,iv a.homes.length),(11,iv k)], [.box 28 [iv a.gen,iv a.epoch,iv a.pos,iv a.seq,iv a.last, .v (.string a.label), .ow 2 a.homes.length], .box 28 [iv 0,iv 0,iv 0,iv 0,iv 0, .v (.string ⟨#[]⟩), .v (.slice none 0 0)], .row 108 3 (a.homes.map DL)])) (fun k=>k<=a.homes.length) (fun k=>a.homes.length - k) 0 (Aj _)
  (zS (s:= [0,1,2]) tA) ?_
 intro k hk;conv=>whnf
 refine A5 (fun h6=>?_) (fun h6=>?_) <;> (repeat rw [Aa] at h6) <;> conv=>whnf
 ·have f:k<a.homes.length:=by omega
  have hi:=JF (a.homes.getD k ⟨[],0,0⟩).places (by have:=hp _ (A3 (d:=(⟨[],0,0⟩:Hm)) f);omega);have hE:(a.homes.map DL).getD (k:Int).toNat []=DL (a.homes.getD k ⟨[],0,0⟩):=by rw [Aa];exact AY f
  apply zX (0) tys_ok mixed (.o [0,1,2,3,4,5,6,7,8,9,10,11,12] .fin) (by kernel_rfl);conv=>whnf
  try (first | (refine Ad ⟨rfl,(Ab _).symm,by omega⟩ ?_;(conv=>whnf);rw [hE]) | skip;conv=>whnf)
  try (first | (refine Ad ⟨rfl,(Ab _).symm,by omega⟩ ?_;(conv=>whnf);rw [hE]) | skip;conv=>whnf)
  try (refine tI ?_;conv=>whnf)
  try (first | (refine Ad ⟨rfl,(Ab _).symm,by omega⟩ ?_;(conv=>whnf);rw [hE]) | skip;conv=>whnf)
  (refine zW hi rfl ?_;rintro _ _ ⟨rfl,rfl⟩)
  conv=>whnf
  try (refine tI ?_;conv=>whnf)
  try (refine tS ?_;conv=>whnf)
  (refine Ad (Ab _).symm ?_;(conv=>whnf);refine Ad ⟨rfl,(Ab _).symm,by omega⟩ ?_;(conv=>whnf);rw [hE])
  refine⟨k+1,f,by omega,zI (zL (zD (k:=2) rfl (es':=a.homes.map DL) (by simp) ?_)) (s:= [0,1,2]) ⟨⟨rfl,rfl,rfl,AG (by omega),tv⟩,tA,rfl,rfl,rfl,rfl,rfl⟩⟩;rw [Aa];exact EZ (d:=(⟨[],0,0⟩:Hm)) f (Wl _)
 ·have ek:k=a.homes.length:=by omega
  exact⟨.ag (Lt a (.ow 2 a.homes.length)), .ag (Lt a (.ow 0 a.homes.length)), [.row 108 3 (a.homes.map DL)],fun _ _ h=>h,zS (s:= [2]) ⟨tA,⟨by subst ek;rfl,tv⟩,rfl,rfl,rfl,rfl,rfl⟩,rfl,rfl⟩
theorem Nn (g:Geo) (w:Int) (hw : -1<=w/\w<g.d):Fn Tryz.prog 242 [.ag (AK g),iv w] fun r=>r = .tp [iv (EJ g w), .v (.bool true)]:=by
 unfold EJ;by_cases h:w = -1
 ·rw [if_pos h];refine zR Tryz.func242 rfl ?_;conv=>whnf
  rw [show (w == -1)=true by simpa using h];exact⟨_,ri,rfl⟩
 ·rw [if_neg h];refine zR Tryz.func242 rfl ?_;conv=>whnf
  rw [show (w == -1)=false by simpa using h];refine zA tys_ok mixed [0,1,2,3,4,5,6,7,8,9,10] (by kernel_rfl) ?_;conv=>whnf
  rw [show decide (w>=0)=true from decide_eq_true (by omega)];conv=>whnf
  rw [show decide (w<g.d)=true from decide_eq_true (by omega)];exact⟨_,ri,rfl⟩
theorem MJ {g:Geo} {a:An} (hg:Bq g=true) (ha:Bj g a=true):a.label.size<=1000000/\a.homes.length<=1000/\∀ h∈a.homes,h.places.length<=1000000:=by
 have:=EG hg ha 0 (Aj _);exact⟨by have:=this.2.2.2.1;omega,by have:=this.2.1;omega,fun h hh=>KU hg ha h hh⟩
theorem Ki (g:Geo) (a:An) (z w:Int) (hg:Bq g=true) (ha:Bj g a=true) (hz:0<=z/\z<g.z) (hw : -1<=w/\w<g.d):Fn Tryz.prog 241 [.ag (AK g), .ag (Ek a),iv z,iv w] fun r=>r = iv 0:=by
 obtain⟨s1,s2, -⟩:=MJ hg ha;have c1:=K4 g a s1 (by omega);rw [hg,ha] at c1;have c2:=Nn g w hw;refine zR Tryz.func241 rfl ?_;conv=>whnf
 refine zY c1 ?_;conv=>whnf
 refine zY c2 ?_;conv=>whnf
 rw [show decide (z<0)=false from decide_eq_false (by omega)];conv=>whnf
 rw [show decide (z>=g.z)=false from decide_eq_false (by omega)];exact⟨_,ri,rfl⟩
theorem LT (g:Geo) (a:An) (z w:Int) (hg:Bq g=true) (ha:Bj g a=true) (hz:0<=z/\z<g.z) (hw : -1<=w/\w<g.d):Fn Tryz.prog 165 [.ag (AK g), .ag (Ek a),iv z,iv w] fun r=>r = .tp [iv (Br g a z w),iv 0]:=by
 obtain⟨g1,g2,g3,g4,g5⟩:=Aq.1 hg;obtain⟨hi,hh⟩:=KQ ha hz;simp only [Ed,Af,decide_eq_true_eq,AE] at hh;obtain⟨p1,p2,p3,p4⟩:=hh;have f:0<=EJ g w/\EJ g w<=g.d:=by unfold EJ;split <;> omega
 have hk:(EJ g w).toNat<(a.homes.getD z.toNat ⟨[],0,0⟩).places.length:=by omega
 have hp:=Av.1 p4 (EJ g w).toNat (by simpa using hk);simp only [Af,AE] at hp;have c1:=Ki g a z w hg ha hz hw;have c2:=Nn g w hw;have c3:=Wo g z ((a.homes.getD z.toNat ⟨[],0,0⟩).places.getD (EJ g w).toNat 0) hg hz (by unfold Cv;omega);refine zR Tryz.func165 rfl ?_;conv=>whnf
 refine zY c1 ?_;conv=>whnf
 refine zY c2 ?_;conv=>whnf
 apply zP tys_ok mixed (.o [0,1,2,3,4,5,6,7,8,9,10,11,12,13,14,15] .fin) [8,9,27,28,29,30,31,32,33,34,35,36,37,38,39,40] (by kernel_rfl)
 ·conv=>whnf
  try (refine Ad (by first | omega | exact ixA | exact ixB | (simp;done)) ?_;conv=>whnf)
  try (refine Ad (by first | omega | exact ixA | exact ixB | (simp;done)) ?_;conv=>whnf)
  refine zY c3 ?_;exact tA
 exact⟨_,ri,rfl⟩
theorem OP (g:Geo) (s:Stt) (d:Dk) (F:Int->List UInt8) (l:List Wr) (a stamp:Int) (b:List UInt8) (h:Gc (Ar g) d F l) (hl:l.length<2000) (ha:0<=a/\a<Ar g) (i:UW a stamp b) :
  ACalls Tryz.prog false 233 [.bp 0 0,iv a,iv stamp,bA b] (JU g s d) fun r H=>(d.left=0/\r = .tp [.v (.bool false),iv 8]/\H=JU g s d)\/(d.left≠0/\r = .tp [.v (.bool true),iv 0]/\Gc (Ar g) (d.write a (Bk a stamp b)).1 F (l ++ [⟨a,Bk a stamp b⟩])/\(d.write a (Bk a stamp b)).2=0/\H=JU g s (d.write a (Bk a stamp b)).1):=by
 have hs:=Jt a stamp b i;have f:(Bk a stamp b).length<=200:=by rw [DR];have:=i.2.2.2.2;omega
 have hc:=OL g s d a (Bk a stamp b) h.ok (by have:=h.len;omega) f;have hw:=h.write hl ha.1 ha.2 f;refine zT tys_ok Tryz.func233 rfl rfl (Ae rfl) ?_;conv=>whnf
 refine zY hs ?_;conv=>whnf
 refine ze9 [0,1,2,3] hc ?_;rintro _ _ ⟨rfl,rfl⟩;rcases hw with ⟨h0,e8⟩ | ⟨h0,e0,hw⟩
 ·rw [e8];exact⟨_, .tp [.v (.bool false),iv 8],JU g s d,fun _ _ h=>h,zS (s:= [0,1,2,3]) tA, .inl ⟨h0,rfl,rfl⟩⟩
 ·rw [e0];exact⟨_, .tp [.v (.bool true),iv 0],JU g s (d.write a (Bk a stamp b)).1,fun _ _ h=>h,zS (s:= [0,1,2,3]) tA, .inr ⟨h0,rfl,hw,rfl,rfl⟩⟩
theorem OQ (g:Geo) (d:Dk) (s:Stt) (h:DkOk d) (f:Jr g d s=true) (hs:StSm s):ACalls Tryz.prog false 35 [.ag (AK g), .ag (DV d), .ag (Eo s)] [] fun r H=>r = .tp [.bp 0 0,iv 0]/\H=JU g s d:=by
 have hN:=h.n;have hM:=h.m;have c1:=NT g d s (by omega) (by omega) hs.big;rw [f] at c1;have c2:=SK d (by omega) (by omega);have c3:=GS s hs;refine zT tys_ok Tryz.func35 rfl rfl (Ae rfl) ?_;conv=>whnf
 refine zY c1 ?_;conv=>whnf
 apply zX (0) tys_ok mixed (.o [0,1,3,2,4,5,6,7,8] .fin) (by kernel_rfl);conv=>whnf
 (refine zW c2 rfl ?_;rintro _ _ ⟨rfl,rfl⟩)
 conv=>whnf
 refine zY c3 ?_;conv=>whnf
 all_goals exact⟨_, .tp [.bp 0 0,iv 0],JU g s d,fun _ _ h=>h,zS (s:= [6,3,4,5]) tA,rfl,rfl⟩
@[reducible] def txZ:List AV:= [iv 0,iv 0,iv 0, .v (.slice none 0 0)]
theorem odrop0_fn:Fn Tryz.prog 84 [CS []] fun r=>r = .tp [.ag (CG ⟨0,0,0, []⟩), .v (.slice none 0 0),iv 10]:=by
 refine zR Tryz.func84 rfl ?_;exact⟨_,BN (m:= [.ag (CG ⟨0,0,0, []⟩), .v (.slice none 0 0),iv 10]) ⟨Bf ⟨ri,ri,ri,Bg 3 _,tv⟩,ri,ri,tv⟩,rfl⟩
theorem PH (x:Tx) (r:List Tx) (hl:(x::r).length<=1000000) (hi:∀ t∈x::r,t.images.length<=1000000/\∀ y∈t.images,y.bytes.length<=1000000000):Fn Tryz.prog 84 [CS (x::r)] fun v=>v = .tp [.ag (CG x),CS r,iv 0]:=by
 have c1:=Sx (x::r) hl hi;have c2:=JZ r (by rw [Ao] at hl;omega);have h1:1<=(x::r).length:=by simp
 have e0:(((x::r).length:Int) == 0)=false:=by rw [beq_eq_false_iff_ne,Ao];omega
 refine zR Tryz.func84 rfl ?_;conv=>whnf
 rw [e0];conv=>whnf
 refine zY c1 ?_;conv=>whnf
 apply zX (0) tys_ok mixed (.o [0,1,2,3,4,5,6,7,8] .fin) (by kernel_rfl);conv=>whnf
 try (refine tI ?_;conv=>whnf)
 try (refine tI ?_;conv=>whnf)
 (refine zV [CS r] ⟨Pg x r,tv⟩ ?_;refine zW c2 rfl ?_;rintro _ _ ⟨rfl,rfl⟩)
 conv=>whnf
 try (refine tS ?_;conv=>whnf)
 refine Ad (Ab _).symm ?_;exact⟨_,BN (m:= [.ag (CG x),CS r,iv 0]) ⟨ri,AU (f:=CG) r rfl rfl,ri,tv⟩,rfl⟩
@[reducible] def hoH (g:Geo) (s:Stt) (A:An) (d:Dk):List AB:= [.box 181 [.bp 1 0,iv A.gen,iv A.epoch,iv A.pos,iv A.seq,iv A.last, .v (.string A.label), .ow 5 A.homes.length,iv 0], .box 99 (Yz g (.bp 2 0) s), .box 119 (Gp (.ow 3 d.cells.length) (.ow 4 d.cache.length) d.reqs d.left), .row 68 3 (d.cells.map B4), .row 152 2 (d.cache.map Ei), .row 108 3 (A.homes.map DL)]
theorem Ic {m:Nat} (h:Nat.ble 5 m=true):∀ z∈ [1,2,3,4],z<m:=fun z hz=>by
 have:=Ae h;simp at hz;omega
theorem Lz (d:Dk) (w:Wr):d.writes [w]=((d.write w.addr w.bytes).1,(if (d.write w.addr w.bytes).2=8 then 0 else 0+if (d.write w.addr w.bytes).2=0 then 1 else 0),decide ((d.write w.addr w.bytes).2=8)):=FD d 0 w
theorem Ls (g:Geo) (A:An) (l:List AV):SubL ([.ag (AK g), .ag (Lt A (.sl 3 A.homes.length fun i=>(A.homes.map DL).getD i []))] ++ l) ([.ag (AK g), .ag (Ek A)] ++ l):=
 ⟨ri,Bf ⟨ri,ri,ri,ri,ri,ri,AU (f:=DL) A.homes rfl rfl,tv⟩,SubL.refl l⟩
theorem Uk (g:Geo) (s:Stt) (A:An) (d:Dk) (F:Int->List UInt8) (l:List Wr) (seq:Int) (x:Img) (hg:Bq g=true) (hA:Bj g A=true) (hx:Bn g x=true) (u:x.what≠255) (hs:0<=seq/\seq<=4294967295) (h:Gc (Ar g) d F l) (hl:l.length<1900) :
  ACalls Tryz.prog false 158 [.bp 0 0,iv seq, .ag (Dz x)] (hoH g s A d) fun r H=>(d.left=0/\r = .tp [.v (.bool false),iv 8]/\H=hoH g s A d)\/(d.left≠0/\r = .tp [.v (.bool true),iv 0]/\Gc (Ar g) (d.write (Br g A x.zone x.what) (Bk (Br g A x.zone x.what) seq x.bytes)).1 F (l ++ [⟨Br g A x.zone x.what,Bk (Br g A x.zone x.what) seq x.bytes⟩])/\(d.write (Br g A x.zone x.what) (Bk (Br g A x.zone x.what) seq x.bytes)).2=0/\H=hoH g s A (d.write (Br g A x.zone x.what) (Bk (Br g A x.zone x.what) seq x.bytes)).1):=by
 obtain⟨g1,g2,g3,g4,g5⟩:=Aq.1 hg;obtain⟨hz,hb⟩:=Dh hx;have hb:=hb u;have C:=EF hg;obtain⟨sl,e1,e2⟩:=FJ hg hA hz (w:=x.what) (by omega);have z:=EV hg hz e2;have j:=LT g A x.zone x.what hg hA hz (by omega);obtain⟨X,hX⟩:∃ X,X=Br g A x.zone x.what:=⟨_,rfl⟩;rw [<-hX] at j e1 |-
 have f:=OP g s d F l X seq x.bytes h (by omega) (by omega) ⟨by omega,by omega,hs.1,hs.2,by omega⟩;by_cases h0:d.left=0
 ·have f:=f.mono (K':=fun r H=>r = .tp [.v (.bool false),iv 8]/\H=JU g s d) fun r H hh=>by
   rcases hh with ⟨-,h1,h2⟩ | ⟨h1, -⟩
   ·exact⟨h1,h2⟩
   ·exact absurd h0 h1
  refine zT tys_ok Tryz.func158 rfl rfl (Ae rfl) ?_;conv=>whnf
  apply zP tys_ok mixed (.o [0,1,2,3,4,5,6,7,8,9,10,11,12,13,14,15,16,17] .fin) [9,10,18,19,20,21,22,23,24,25,26,27,28,29,30,31,32,33] (by kernel_rfl)
  ·conv=>whnf
   (refine zq (args':= [.ag (AK g), .ag (Lt A (.sl 3 A.homes.length fun i=>(A.homes.map DL).getD i [])),iv x.zone,iv x.what]) (j.subA (Ls g A [iv x.zone,iv x.what])) ⟨(Ab _).symm,rfl⟩ ?_;rintro _ rfl;refine⟨rfl,?_⟩)
   exact tA
  conv=>whnf
  refine zG 1 ?_;conv=>whnf
  repeat' (refine zZ ?_;conv=>whnf)
  apply zX (2 ^ 136) tys_ok mixed (.o [0,1,2,3,4,5,6,7,8,9,10,11,12,13] .fin) (by kernel_rfl);conv=>whnf
  (refine ze9 [1,2,3,4] f ?_;rintro _ _ ⟨rfl,rfl⟩)
  conv=>whnf
  repeat' (refine zZ ?_;conv=>whnf)
  exact⟨_, .tp [.v (.bool false),iv 8],hoH g s A d,fun _ _ h=>h,zS (s:= [0,1,2,3,4,5]) tA, .inl ⟨h0,rfl,rfl⟩⟩
 ·obtain⟨D,hD⟩:∃ D,D=(d.write X (Bk X seq x.bytes)).1:=⟨_,rfl⟩;rw [<-hD] at f |-
  have f:=f.mono (K':=fun r H=>(Gc (Ar g) D F (l ++ [⟨X,Bk X seq x.bytes⟩])/\(d.write X (Bk X seq x.bytes)).2=0)/\r = .tp [.v (.bool true),iv 0]/\H=JU g s D) fun r H hh=>by
   rcases hh with ⟨h1, -⟩ | ⟨-,h1,h2,h3,h4⟩
   ·exact absurd h1 h0
   ·exact⟨⟨h2,h3⟩,h1,h4⟩
  refine zT tys_ok Tryz.func158 rfl rfl (Ae rfl) ?_;conv=>whnf
  apply zP tys_ok mixed (.o [0,1,2,3,4,5,6,7,8,9,10,11,12,13,14,15,16,17] .fin) [9,10,18,19,20,21,22,23,24,25,26,27,28,29,30,31,32,33] (by kernel_rfl)
  ·conv=>whnf
   (refine zq (args':= [.ag (AK g), .ag (Lt A (.sl 3 A.homes.length fun i=>(A.homes.map DL).getD i [])),iv x.zone,iv x.what]) (j.subA (Ls g A [iv x.zone,iv x.what])) ⟨(Ab _).symm,rfl⟩ ?_;rintro _ rfl;refine⟨rfl,?_⟩)
   exact tA
  conv=>whnf
  refine zG 1 ?_;conv=>whnf
  repeat' (refine zZ ?_;conv=>whnf)
  apply zX (2 ^ 136) tys_ok mixed (.o [0,1,2,3,4,5,6,7,8,9,10,11,12,13] .fin) (by kernel_rfl);conv=>whnf
  (refine ze9 [1,2,3,4] f ?_;rintro _ _ ⟨⟨hw,e0⟩,rfl,rfl⟩)
  conv=>whnf
  repeat' (refine zZ ?_;conv=>whnf)
  exact⟨_, .tp [.v (.bool true),iv 0],hoH g s A D,fun _ _ h=>h,zS (s:= [0,1,2,3,4,5]) tA, .inr ⟨h0,rfl,hw,e0,rfl⟩⟩
theorem Ug (g:Geo) (s:Stt) (A:An) (d:Dk) (F:Int->List UInt8) (l:List Wr) (seq:Int) (x:Img) (hg:Bq g=true) (hA:Bj g A=true) (hx:Bn g x=true) (K:x.what=255) (hs:0<=seq/\seq<=4294967295) (h:Gc (Ar g) d F l) (hl:l.length<1900) :
  ACalls Tryz.prog false 157 [.bp 0 0,iv seq, .ag (Dz x)] (hoH g s A d) fun r H=>((d.writes (C7 g A seq x)).2.2=true/\r = .tp [.v (.bool false),iv 8]/\H=hoH g s A (d.writes (C7 g A seq x)).1)\/((d.writes (C7 g A seq x)).2.2=false/\r = .tp [.v (.bool true),iv 0]/\Gc (Ar g) (d.writes (C7 g A seq x)).1 F (l ++ C7 g A seq x)/\H=hoH g s (Cz A seq x) (d.writes (C7 g A seq x)).1):=by
 obtain⟨g1,g2,g3,g4,g5⟩:=Aq.1 hg;obtain⟨hz, -⟩:=Dh hx;have W:=Ez hg hx;have X:=EF hg;have U:=(KQ hA hz).1;have I:=Ks g x.zone 0 hg hz (by decide);have J:=Ks g x.zone 1 hg hz (by decide);obtain⟨u1,u2,u3⟩:=G7 hg hz (k:=0) (by decide);obtain⟨v1,v2,v3⟩:=G7 hg hz (k:=1) (by decide);have ei:C7 g A seq x=[⟨AM g x.zone 0,Bk (AM g x.zone 0) seq x.bytes⟩,⟨AM g x.zone 1,Bk (AM g x.zone 1) seq x.bytes⟩]:=if_pos K;obtain⟨P,hP⟩:∃ P,P=AM g x.zone 0:=⟨_,rfl⟩;obtain⟨Q,hQ⟩:∃ Q,Q=AM g x.zone 1:=⟨_,rfl⟩;rw [ei];rw [<-hP] at I u1 u2 u3 |-
 rw [<-hQ] at J v1 v2 v3 |-
 have j:=OP g s d F l P seq x.bytes h (by omega) (by omega) ⟨by omega,by omega,hs.1,hs.2,by omega⟩;have G:=h.write (a:=P) (b:=Bk P seq x.bytes) (by omega) (by omega) u3 (by rw [DR];omega);have ew:d.writes [⟨P,Bk P seq x.bytes⟩,⟨Q,Bk Q seq x.bytes⟩]=CR (CR (d,0,false) ⟨P,Bk P seq x.bytes⟩) ⟨Q,Bk Q seq x.bytes⟩:=rfl;have en:((d.writes [⟨P,Bk P seq x.bytes⟩]).2.2=decide ((d.write P (Bk P seq x.bytes)).2=8)):=by rw [Lz]
 obtain⟨S,hS⟩:∃ S,S=d.writes [⟨P,Bk P seq x.bytes⟩,⟨Q,Bk Q seq x.bytes⟩]:=⟨_,rfl⟩;rw [<-hS];by_cases h0:d.left=0
 ·have j:=j.mono (K':=fun r H=>r = .tp [.v (.bool false),iv 8]/\H=JU g s d) fun r H hh=>by
   rcases hh with ⟨-,h1,h2⟩ | ⟨h1, -⟩
   ·exact⟨h1,h2⟩
   ·exact absurd h0 h1
  have z:S=(d,0,true):=by
   rcases G with ⟨-,e8⟩ | ⟨h1, -⟩
   ·rw [hS,ew];unfold CR;simp only [e8];rfl
   ·exact absurd h0 h1
  rw [z];refine zT tys_ok Tryz.func157 rfl rfl (Ae rfl) ?_;conv=>whnf
  refine zG 1 ?_;conv=>whnf
  repeat' (refine zZ ?_;conv=>whnf)
  apply zP tys_ok mixed (.o [0,1,2,3,4,5,6,7,8,9,10,11,12,13,14,15] .fin) [10,11,17,18,19,20,21,22,23,24,25,26,27,28,29,30] (by kernel_rfl)
  ·conv=>whnf
   refine zY I ?_;exact tA
  conv=>whnf
  apply zX (2 ^ 136) tys_ok mixed (.o [0,1,2,3,4,5,6,7,8,9,10,11,12,13] .fin) (by kernel_rfl);conv=>whnf
  (refine ze9 [1,2,3,4] j ?_;rintro _ _ ⟨rfl,rfl⟩)
  conv=>whnf
  repeat' (refine zZ ?_;conv=>whnf)
  exact⟨_, .tp [.v (.bool false),iv 8],hoH g s A d,fun _ _ h=>h,zS (s:= [0,1,2,3,4,5]) tA, .inl tA⟩
 ·obtain⟨D,hD⟩:∃ D,D=(d.write P (Bk P seq x.bytes)).1:=⟨_,rfl⟩;have G:Gc (Ar g) D F (l ++ [⟨P,Bk P seq x.bytes⟩])/\(d.write P (Bk P seq x.bytes)).2=0:=by
   rcases G with ⟨h1, -⟩ | ⟨-,h1,h2⟩
   ·exact absurd h1 h0
   ·rw [hD];exact⟨h2,h1⟩
  obtain⟨N,e0⟩:=G;have j:=j.mono (K':=fun r H=>r = .tp [.v (.bool true),iv 0]/\H=JU g s D) fun r H hh=>by
   rcases hh with ⟨h1, -⟩ | ⟨-,h1,h2,h3,h4⟩
   ·exact absurd h1 h0
   ·rw [hD];exact⟨h1,h4⟩
  have u:=OP g s D F _ Q seq x.bytes N (by rw [Ai];show _+1<2000;omega) (by omega) ⟨by omega,by omega,hs.1,hs.2,by omega⟩;have C:=N.write (a:=Q) (b:=Bk Q seq x.bytes) (by rw [Ai];show _+1<2000;omega) (by omega) v3 (by rw [DR];omega);have O:S=CR (D,1,false) ⟨Q,Bk Q seq x.bytes⟩:=by
   rw [hS,ew,FD d 0];simp only [e0];rw [<-hD];try rfl
  by_cases h1:D.left=0
  ·have u:=u.mono (K':=fun r H=>r = .tp [.v (.bool false),iv 8]/\H=JU g s D) fun r H hh=>by
    rcases hh with ⟨-,q1,q2⟩ | ⟨q1, -⟩
    ·exact⟨q1,q2⟩
    ·exact absurd h1 q1
   have z:S=(D,1,true):=by
    rcases C with ⟨-,e8⟩ | ⟨q1, -⟩
    ·rw [O];unfold CR;simp only [e8];rfl
    ·exact absurd h1 q1
   rw [z];refine zT tys_ok Tryz.func157 rfl rfl (Ae rfl) ?_;conv=>whnf
   refine zG 2 ?_;conv=>whnf
   repeat' (refine zZ ?_;conv=>whnf)
   apply zP tys_ok mixed (.o [0,1,2,3,4,5,6,7,8,9,10,11,12,13,14,15] .fin) [10,11,17,18,19,20,21,22,23,24,25,26,27,28,29,30] (by kernel_rfl)
   ·conv=>whnf
    refine zY I ?_;exact tA
   conv=>whnf
   apply zX (2 ^ 136) tys_ok mixed (.o [0,1,2,3,4,5,6,7,8,9,10,11,12,13] .fin) (by kernel_rfl);conv=>whnf
   (refine ze9 [1,2,3,4] j ?_;rintro _ _ ⟨rfl,rfl⟩)
   conv=>whnf
   repeat' (refine zZ ?_;conv=>whnf)
   apply zP tys_ok mixed (.o [0,1,2,3,4,5,6,7,8,9,10,11,12,13,14,15] .fin) [10,11,17,18,19,20,21,22,23,24,25,26,27,28,29,30] (by kernel_rfl)
   ·conv=>whnf
    refine zY J ?_;exact tA
   conv=>whnf
   apply zX (2 ^ 136) tys_ok mixed (.o [0,1,2,3,4,5,6,7,8,9,10,11,12,13] .fin) (by kernel_rfl);conv=>whnf
   (refine ze9 [1,2,3,4] u ?_;rintro _ _ ⟨rfl,rfl⟩)
   conv=>whnf
   repeat' (refine zZ ?_;conv=>whnf)
   exact⟨_, .tp [.v (.bool false),iv 8],hoH g s A D,fun _ _ h=>h,zS (s:= [0,1,2,3,4,5]) tA, .inl tA⟩
  ·obtain⟨E,hE⟩:∃ E,E=(D.write Q (Bk Q seq x.bytes)).1:=⟨_,rfl⟩;have C:Gc (Ar g) E F (l ++ [⟨P,Bk P seq x.bytes⟩] ++ [⟨Q,Bk Q seq x.bytes⟩])/\(D.write Q (Bk Q seq x.bytes)).2=0:=by
    rcases C with ⟨q1, -⟩ | ⟨-,q1,q2⟩
    ·exact absurd q1 h1
    ·rw [hE];exact⟨q2,q1⟩
   obtain⟨L,e1⟩:=C;have u:=u.mono (K':=fun r H=>r = .tp [.v (.bool true),iv 0]/\H=JU g s E) fun r H hh=>by
    rcases hh with ⟨q1, -⟩ | ⟨-,q1,q2,q3,q4⟩
    ·exact absurd q1 h1
    ·rw [hE];exact⟨q1,q4⟩
   have z:S=(E,2,false):=by
    rw [O,FD D 1];simp only [e1];rw [<-hE];try rfl
   rw [z];refine zT tys_ok Tryz.func157 rfl rfl (Ae rfl) ?_;conv=>whnf
   refine zG 3 ?_;conv=>whnf
   repeat' (refine zZ ?_;conv=>whnf)
   apply zP tys_ok mixed (.o [0,1,2,3,4,5,6,7,8,9,10,11,12,13,14,15] .fin) [10,11,17,18,19,20,21,22,23,24,25,26,27,28,29,30] (by kernel_rfl)
   ·conv=>whnf
    refine zY I ?_;exact tA
   conv=>whnf
   apply zX (2 ^ 136) tys_ok mixed (.o [0,1,2,3,4,5,6,7,8,9,10,11,12,13] .fin) (by kernel_rfl);conv=>whnf
   (refine ze9 [1,2,3,4] j ?_;rintro _ _ ⟨rfl,rfl⟩)
   conv=>whnf
   repeat' (refine zZ ?_;conv=>whnf)
   apply zP tys_ok mixed (.o [0,1,2,3,4,5,6,7,8,9,10,11,12,13,14,15] .fin) [10,11,17,18,19,20,21,22,23,24,25,26,27,28,29,30] (by kernel_rfl)
   ·conv=>whnf
    refine zY J ?_;exact tA
   conv=>whnf
   apply zX (2 ^ 136) tys_ok mixed (.o [0,1,2,3,4,5,6,7,8,9,10,11,12,13] .fin) (by kernel_rfl);conv=>whnf
   (refine ze9 [1,2,3,4] u ?_;rintro _ _ ⟨rfl,rfl⟩)
   conv=>whnf
   repeat' (refine zZ ?_;conv=>whnf)
   apply zX (0) tys_ok mixed (.o [0,1,2,3,4,5,6,7,8,9,10] .fin) (by kernel_rfl);conv=>whnf
   try (refine tI ?_;conv=>whnf)
   try (refine tS ?_;conv=>whnf)
   rw [show (A.homes.map DL).getD x.zone.toNat []=DL (A.homes.getD x.zone.toNat ⟨[],0,0⟩) from AY U];conv=>whnf
   have eu:Cz A seq x={ A with homes:=A.homes.set x.zone.toNat { A.homes.getD x.zone.toNat ⟨[],0,0⟩ with root:=seq } }:=if_pos K;have V:(Cz A seq x).homes.length=A.homes.length:=Fq A seq x;refine⟨_, .tp [.v (.bool true),iv 0],hoH g s (Cz A seq x) E,fun _ _ h=>h,zS (s:= [0,1,2,3,4,5]) ⟨tA,⟨?_,rfl,rfl,rfl,rfl,?_,tv⟩,rfl,rfl,rfl,rfl,rfl⟩, .inr ⟨rfl,rfl,by rw [A7] at L;exact L,rfl⟩⟩
   ·rw [V,eu];try rfl
   ·rw [eu];exact congrArg (fun es=>some (AB.row 108 3 es)) (BI (f:=DL) (l:=A.homes) (i:=x.zone.toNat) (a:={ A.homes.getD x.zone.toNat ⟨[],0,0⟩ with root:=seq })).symm
theorem Uj (g:Geo) (s:Stt) (A:An) (d:Dk) (F:Int->List UInt8) (l:List Wr) (seq:Int) (x:Img) (hg:Bq g=true) (hA:Bj g A=true) (hx:Bn g x=true) (hs:0<=seq/\seq<=4294967295) (h:Gc (Ar g) d F l) (hl:l.length<1900) :
  ACalls Tryz.prog false 85 [.bp 0 0,iv seq, .ag (Dz x)] (hoH g s A d) fun r H=>((d.writes (C7 g A seq x)).2.2=true/\r = .tp [.v (.bool false),iv 8]/\H=hoH g s A (d.writes (C7 g A seq x)).1)\/((d.writes (C7 g A seq x)).2.2=false/\r = .tp [.v (.bool true),iv 0]/\Gc (Ar g) (d.writes (C7 g A seq x)).1 F (l ++ C7 g A seq x)/\H=hoH g s (Cz A seq x) (d.writes (C7 g A seq x)).1):=by
 by_cases f:x.what=255
 ·have hc:=Ug g s A d F l seq x hg hA hx f hs h hl;refine zT tys_ok Tryz.func85 rfl rfl (Ae rfl) ?_;conv=>whnf
  rw [show (x.what == 255)=true from beq_iff_eq.2 f];conv=>whnf
  refine ze9 [0,1,2,3,4,5] hc ?_;rintro _ _ (⟨q1,rfl,rfl⟩ | ⟨q1,rfl,q2,rfl⟩)
  ·exact⟨_, .tp [.v (.bool false),iv 8],hoH g s A (d.writes (C7 g A seq x)).1,fun _ _ h=>h,zS (s:= [0,1,2,3,4,5]) tA, .inl ⟨q1,rfl,rfl⟩⟩
  ·exact⟨_, .tp [.v (.bool true),iv 0],hoH g s (Cz A seq x) (d.writes (C7 g A seq x)).1,fun _ _ h=>h,zS (s:= [0,1,2,3,4,5]) tA, .inr ⟨q1,rfl,q2,rfl⟩⟩
 ·have hc:=Uk g s A d F l seq x hg hA hx f hs h hl;have ei:C7 g A seq x=[⟨Br g A x.zone x.what,Bk (Br g A x.zone x.what) seq x.bytes⟩]:=if_neg f;have eu:Cz A seq x=A:=if_neg f;have i:d.left=0->d.write (Br g A x.zone x.what) (Bk (Br g A x.zone x.what) seq x.bytes)=(d,8):=fun h0=>by unfold Dk.write;rw [if_pos h0]
  rw [ei,Lz,eu];simp only;generalize Bk (Br g A x.zone x.what) seq x.bytes=B at hc i |-
  generalize Br g A x.zone x.what=X at hc i |-
  refine zT tys_ok Tryz.func85 rfl rfl (Ae rfl) ?_;conv=>whnf
  rw [show (x.what == 255)=false from beq_eq_false_iff_ne.2 f];conv=>whnf
  refine ze9 [0,1,2,3,4,5] hc ?_;rintro _ _ (⟨q1,rfl,rfl⟩ | ⟨q1,rfl,q2,q3,rfl⟩)
  ·rw [i q1];exact⟨_, .tp [.v (.bool false),iv 8],hoH g s A d,fun _ _ h=>h,zS (s:= [0,1,2,3,4,5]) tA, .inl tA⟩
  ·rw [q3];exact⟨_, .tp [.v (.bool true),iv 0],hoH g s A (d.write X B).1,fun _ _ h=>h,zS (s:= [0,1,2,3,4,5]) tA, .inr ⟨rfl,rfl,q2,rfl⟩⟩
@[reducible] def aN (g:Geo) (s:Stt) (x:Tx) (A:An) (d:Dk):List AB:=JU g s d ++ ([.box 170 (CG x), .row 108 3 (A.homes.map DL), .box 181 [.bp 0 0,iv A.gen,iv A.epoch,iv A.pos,iv A.seq,iv A.last, .v (.string A.label), .ow 5 A.homes.length,iv 0]]:List AB)
theorem ai {m:Nat} (h:Nat.ble 7 m=true):∀ z∈ [6,0,1,2,3,5],z<m:=fun z hz=>by
 have:=Ae h;simp at hz;omega
theorem Zx {m:Nat} (h:Nat.ble 8 m=true):∀ z∈ [0,1,2,7],z<m:=fun z hz=>by
 have:=Ae h;simp at hz;omega
theorem ZB (g:Geo) (s:Stt) (x:Tx) (r:List Tx) (d:Dk) (F:Int->List UInt8) (hg:Bq g=true) (ha:Bj g s.a=true) (hs:s.txns=x::r) (G:StSm s) (X:s.only=false) (hh:s.a.gen<4294967295) (he:s.a.seq<4294967295) (hn:x.seq=s.a.seq) (ho:0<=x.pos/\x.pos<g.sl) (hq:x.n=(x.images.length:Nat)+1) (hb:∀ y∈x.images,Bn g y=true) (hu:s.moved=0) (h:Gc (Ar g) d F []) :
  ACalls Tryz.prog false 39 [.bp 0 0] (JU g s d) fun v H=>v = .tp [.v (.int .i64 (FQ g s x r d).2.2.1), .v (.int .i64 (FQ g s x r d).2.2.2)]/\H=bwG g (FQ g s x r d).1 (FQ g s x r d).2.1:=by
 obtain⟨g1,g2,g3,g4,g5⟩:=Aq.1 hg;obtain⟨a1,a2,a3,a4⟩:=DD ha;have h2:x.images.length<=30:=(G.t.2 x (by rw [hs];simp)).1;have J:=PH x r (by rw [<-hs];have:=G.t.1;omega) (fun t ht=>by
  have:=G.t.2 t (by rw [hs];exact ht);exact⟨by omega,fun y hy=>by have:=this.2 y hy;omega⟩)
 rw [<-hs] at J;have hk:=NU s.a (by have:=G.h.1;omega) G.h.2;refine zT tys_ok Tryz.func39 rfl rfl (Ae rfl) ?_;conv=>whnf
 refine zY J ?_;conv=>whnf
 rw [X];conv=>whnf
 rw [show (s.a.gen == 4294967295)=false from beq_eq_false_iff_ne.2 (by omega)];conv=>whnf
 rw [show (s.a.seq == 4294967295)=false from beq_eq_false_iff_ne.2 (by omega)];conv=>whnf
 refine zW hk rfl ?_;rintro _ _ ⟨rfl,rfl⟩;conv=>whnf
 have h1:=N1 hg ha hb (seq:=x.seq);refine zU (Nat × Dk) (fun y=>([(0, .bp 0 0),(4, .bp 4 0),(5,CS r),(7, .bp 6 0),(60,D2 x.images),(61,iv (x.images.length:Nat)),(62,iv (y.1:Nat))],aN g s x (BX s.a x.seq (x.images.take y.1)) y.2)) (fun y=>y.1<=x.images.length/\(d.writes (Cb g s.a x.seq (x.images.take y.1))).1=y.2/\(d.writes (Cb g s.a x.seq (x.images.take y.1))).2.2=false/\Gc (Ar g) y.2 F (Cb g s.a x.seq (x.images.take y.1))) (fun y=>x.images.length - y.1) (0,d) ⟨Aj _,rfl,rfl,h⟩
  (zS (s:= [0,1,2,3,4,5,6]) tA) ?_
 rintro⟨i,d1⟩ ⟨hi,L,I,u⟩;simp only at hi L I u;have W:=GY (g:=g) (seq:=x.seq) (by omega) (x.images.take i) ha;have hz:=HK x.seq (x.images.take i) s.a;obtain⟨A,hA⟩:∃ A,A=BX s.a x.seq (x.images.take i):=⟨_,rfl⟩;rw [<-hA] at W hz |-
 by_cases O:i<x.images.length
 ·obtain⟨y,hy⟩:∃ y,y=x.images.getD i ⟨0,0, []⟩:=⟨_,rfl⟩;have hm:y∈x.images:=by rw [hy];exact A3 O
  have Z:=hb y hm;have hd:x.images.take (i+1)=x.images.take i ++ [y]:=by
   rw [Ba,Ag O,hy,Ac,Ag O];try rfl
  have hr:BX s.a x.seq (x.images.take (i+1))=Cz A x.seq y:=by rw [hd,KA,<-hA]
  have h3:(Cb g s.a x.seq (x.images.take i)).length<=2*i:=Bo (GN _) (by rw [As];omega);have hl:y.zone.toNat<s.a.homes.length:=(KQ ha (Dh Z).1).1;have ewr:C7 g A x.seq y=C7 g s.a x.seq y:=by rw [hA];exact PT hl
  have eW:Cb g s.a x.seq (x.images.take (i+1))=Cb g s.a x.seq (x.images.take i) ++ C7 g s.a x.seq y:=by
   rw [hd,Gg];show _ ++ (C7 g s.a x.seq y ++ [])=_;rw [AR]
  have hc:=Uj g s A d1 F _ x.seq y hg W Z (by omega) u (by omega);rw [ewr] at hc;have j:=OZ (d:=d) (l:=Cb g s.a x.seq (x.images.take i)) (C7 g s.a x.seq y) I;rw [L,<-eW] at j;conv=>whnf
  rw [show decide ((i:Int)<(x.images.length:Nat))=true from decide_eq_true (by omega)];conv=>whnf
  repeat' (refine zZ ?_;conv=>whnf)
  refine⟨⟨by omega,by omega⟩,?_⟩;conv=>whnf
  rw [Aa,<-hy];refine ze9 [6,0,1,2,3,5] hc ?_;rintro _ _ (⟨q1,rfl,rfl⟩ | ⟨q1,rfl,q2,rfl⟩)
  ·conv=>whnf
   repeat' (refine zZ ?_;conv=>whnf)
   have K:(d.writes (Cb g s.a x.seq (x.images.take (i+1)))).2.2=true:=by rw [j];exact q1
   have V:d.writes (Cb g s.a x.seq x.images)=d.writes (Cb g s.a x.seq (x.images.take (i+1))):=by
    have:=QE d (Cb g s.a x.seq (x.images.take (i+1))) (Cb g s.a x.seq (x.images.drop (i+1))) K;rwa [<-Gg,Cj] at this
   have z:FQ g s x r d=(s,(d1.writes (C7 g s.a x.seq y)).1,0,8):=by
    unfold FQ;rw [Es (by rw [V];exact K),V,j]
   rw [z];exact⟨_, .tp [iv 0,iv 8],bwG g s (d1.writes (C7 g s.a x.seq y)).1,fun _ _ h=>h,zI (zL (z6 1 3 (by decide) rfl rfl)) (s:= [0,1,2,3,8]) tA,rfl,rfl⟩
  ·conv=>whnf
   repeat' (refine zZ ?_;conv=>whnf)
   refine⟨(i+1,(d1.writes (C7 g s.a x.seq y)).1),⟨by show i+1<=x.images.length;omega,?_,?_,?_⟩,by show x.images.length - (i+1)<x.images.length - i;omega,?_⟩
   ·show (d.writes (Cb g s.a x.seq (x.images.take (i+1)))).1=_;rw [j]
   ·show (d.writes (Cb g s.a x.seq (x.images.take (i+1)))).2.2=false;rw [j];exact q1
   ·show Gc (Ar g) _ F (Cb g s.a x.seq (x.images.take (i+1)));rw [eW];exact q2
   ·show WkR _ _ _ _ (aN g s x (BX s.a x.seq (x.images.take (i+1))) _);rw [hr];exact zS (s:= [0,1,2,3,4,5,6]) ⟨⟨rfl,rfl,rfl,rfl,rfl,rfl,AG (by omega),tv⟩,tA,rfl,rfl,rfl,rfl,rfl⟩
 ·have ei:i=x.images.length:=by omega
  rw [ei,Aw] at L I u hA;have N:=FN x.seq x.images s.a;rw [<-hA] at N;have hW:=GN (g:=g) (a:=s.a) (seq:=x.seq) x.images;have C:=u.ok;have hx:=Jc d1 C.l C.m fun w hw=>(C.w w hw).1
  have hp:=DX I;rw [L] at hp;conv=>whnf
  rw [show decide ((i:Int)<(x.images.length:Nat))=false from decide_eq_false (by omega)];conv=>whnf
  repeat' (refine zZ ?_;conv=>whnf)
  refine ze9 [1,2,3] hx ?_;rintro _ _ ⟨rfl,rfl⟩;by_cases h0:d1.left=0
  ·simp only [h0,if_true] at hp |-
   conv=>whnf
   repeat' (refine zZ ?_;conv=>whnf)
   have z:FQ g s x r d=(s,d1,0,8):=by
    unfold FQ;rw [hp]
   rw [z];exact⟨_, .tp [iv 0,iv 8],bwG g s d1,fun _ _ h=>h,zS (s:= [0,1,2,3,7]) tA,rfl,rfl⟩
  ·simp only [h0,if_false] at hp |-
   conv=>whnf
   repeat' (refine zZ ?_;conv=>whnf)
   apply aDraw.dag (4176) tys_ok mixed [([],23,(.o [0,1,2,3,5,8,9,10,11,14,15,16,17] (.alt 4 (.alt 6 (.jump 1) (.alt 12 (.jump 2) (.alt 18 (.jump 3) .non))) (.alt 6 (.alt 4 (.jump 1) (.alt 12 (.jump 4) (.alt 18 (.jump 5) .non))) (.alt 12 (.alt 4 (.jump 2) (.alt 6 (.jump 4) (.alt 18 (.jump 6) .non))) (.alt 18 (.alt 4 (.jump 3) (.alt 6 (.jump 5) (.alt 12 (.jump 6) .non))) .non)))))),([0,1,2,3,4,5,6,8,9,10,11,14,15,16,17],8,(.one 7 (.alt 12 (.o [13,18,19,20,21,22] .fin) (.alt 18 (.o [12,13,19,20,21,22] .fin) .non)))),([0,1,2,3,4,5,8,9,10,11,12,14,15,16,17],8,(.alt 6 (.jump 7) (.alt 18 (.jump 9) .non))),([0,1,2,3,4,5,8,9,10,11,14,15,16,17,18],8,(.alt 6 (.jump 8) (.alt 12 (.jump 9) .non))),([0,1,2,3,5,6,8,9,10,11,12,14,15,16,17],8,(.alt 4 (.jump 7) (.alt 18 (.jump 10) .non))),([0,1,2,3,5,6,8,9,10,11,14,15,16,17,18],8,(.alt 4 (.jump 8) (.alt 12 (.jump 10) .non))),([0,1,2,3,5,8,9,10,11,12,14,15,16,17,18],8,(.alt 4 (.jump 9) (.alt 6 (.jump 10) .non))),([0,1,2,3,4,5,6,8,9,10,11,12,14,15,16,17],7,(.o [7,13,18,19,20,21,22] .fin)),([0,1,2,3,4,5,6,8,9,10,11,14,15,16,17,18],7,(.o [7,12,13,19,20,21,22] .fin)),([0,1,2,3,4,5,8,9,10,11,12,14,15,16,17,18],7,(.o [6,7,13,19,20,21,22] .fin)),([0,1,2,3,5,6,8,9,10,11,12,14,15,16,17,18],7,(.o [4,7,13,19,20,21,22] .fin))] [94,95,96,97,98,99,100,101,102,103,104,105,106,107,108,109,110,111,112,113] [(_,_),(_,_),(_,_),(_,_),(_,_),(_,_),(_,_),(_,_),(_,_),(_,_)] (by kernel_rfl)
   ·refine Ad ?_ ?_
    ·refine Ad ?_ (Ad ?_ (Ad ?_ (Ad ?_ (trivial))))
     ·refine Ad ?_ (Ad ?_ (Ad ?_ (trivial)))
      ·exact tA
      ·exact tA
      ·conv=>whnf
       try (refine tS ?_;conv=>whnf)
       exact tA
     ·refine Ad ?_ (Ad ?_ (Ad ?_ (trivial)))
      ·exact tA
      ·exact tA
      ·conv=>whnf
       try (refine tS ?_;conv=>whnf)
       exact tA
     ·refine Ad ?_ (Ad ?_ (Ad ?_ (trivial)))
      ·exact tA
      ·exact tA
      ·conv=>whnf
       try (refine tS ?_;conv=>whnf)
       exact tA
     ·conv=>whnf
      try (refine tS ?_;conv=>whnf)
      refine Ad ?_ (Ad ?_ (Ad ?_ (trivial)))
      ·exact tA
      ·exact tA
      ·exact tA
    refine Ad ?_ ?_
    ·refine Ad ?_ (Ad ?_ (trivial))
     ·conv=>whnf
      try (refine tI ?_;conv=>whnf)
      try (refine tS ?_;conv=>whnf)
      try (refine tS ?_;conv=>whnf)
      try (refine tS ?_;conv=>whnf)
      exact tA
     ·conv=>whnf
      try (refine tS ?_;conv=>whnf)
      try (refine tI ?_;conv=>whnf)
      try (refine tS ?_;conv=>whnf)
      try (refine tS ?_;conv=>whnf)
      exact tA
    refine Ad ?_ ?_
    ·refine Ad ?_ (Ad ?_ (trivial))
     ·exact tA
     ·conv=>whnf
      try (refine tS ?_;conv=>whnf)
      exact tA
    refine Ad ?_ ?_
    ·refine Ad ?_ (Ad ?_ (trivial))
     ·exact tA
     ·exact tA
    refine Ad ?_ ?_
    ·refine Ad ?_ (Ad ?_ (trivial))
     ·exact tA
     ·conv=>whnf
      try (refine tS ?_;conv=>whnf)
      exact tA
    refine Ad ?_ ?_
    ·refine Ad ?_ (Ad ?_ (trivial))
     ·exact tA
     ·exact tA
    refine Ad ?_ ?_
    ·refine Ad ?_ (Ad ?_ (trivial))
     ·exact tA
     ·exact tA
    refine Ad ?_ ?_
    ·conv=>whnf
     try (refine tI ?_;conv=>whnf)
     try (refine tS ?_;conv=>whnf)
     try (refine tS ?_;conv=>whnf)
     try (refine tS ?_;conv=>whnf)
     exact tA
    refine Ad ?_ ?_
    ·conv=>whnf
     try (refine tI ?_;conv=>whnf)
     try (refine tS ?_;conv=>whnf)
     try (refine tS ?_;conv=>whnf)
     exact tA
    refine Ad ?_ ?_
    ·conv=>whnf
     try (refine tI ?_;conv=>whnf)
     try (refine tS ?_;conv=>whnf)
     try (refine tS ?_;conv=>whnf)
     exact tA
    refine Ad ?_ ?_
    ·conv=>whnf
     try (refine tI ?_;conv=>whnf)
     try (refine tS ?_;conv=>whnf)
     try (refine tS ?_;conv=>whnf)
     exact tA
    conv=>whnf
    exact trivial
   conv=>whnf
   have E1:IntKind.i64.wrap (A.gen+1)=(Ch g s.a x).gen:=by
    rw [N.1];exact wi (by omega)
   have E2:(IntKind.i64.wrap (x.pos+x.n)).tmod g.sl=(Ch g s.a x).pos:=by
    rw [wi (by omega)];try rfl
   have E3:IntKind.i64.wrap (A.seq+1)=(Ch g s.a x).seq:=by
    rw [N.2.2.2.1];exact wi (by omega)
   have E4:(if A.last<IntKind.i64.wrap ((Ch g s.a x).seq - 1) then IntKind.i64.wrap ((Ch g s.a x).seq - 1) else A.last)=(Ch g s.a x).last:=by
    show (if A.last<IntKind.i64.wrap (s.a.seq+1 - 1) then IntKind.i64.wrap (s.a.seq+1 - 1) else A.last)=max s.a.last s.a.seq;rw [N.2.2.2.2.1,wi (by omega)];split <;> omega
   dsimp only;rw [E1,E2,E3,E4];have hS:=Jq hg ha hh he hn ho.1 (by rw [hq];omega);have hf:=C.flush;have hv:=SE d1;have hj:=Q1 g s d1.flush (Ch g s.a x) hg hS hf (Je hg hS (by rw [hv];exact u.len));have U:=(Gc.flush u).putAll (l:=AD g (Ch g s.a x)) (FI hg hS) (by rw [CY];omega);rw [CY] at U;subst hA;obtain⟨M,hM⟩:∃ M:AV,M = .sl 3 ((BX s.a x.seq x.images).homes.map DL).length fun i=>((BX s.a x.seq x.images).homes.map DL).getD i []:=⟨_,rfl⟩
   have m1:∀ (c:Ctx) (v:Value),Rd M c v->Rd (HE (Ch g s.a x).homes) c v:=by rw [hM];exact AU (f:=DL) (BX s.a x.seq x.images).homes (Ab _) rfl
   refine ACalls.lendBox2 (cs2:=Lt (Ch g s.a x) M) (ar2:=Lt (Ch g s.a x) M) 8 5 rfl rfl ?_ ?_ ?_
   ·rw [<-hM];simp only [Az,Bx,EW (Ab _).symm];rfl
   ·rw [<-hM];simp only [Az,Bx,EW (Ab _).symm];rfl
   subst hM;refine zV [.bp 0 0, .ag (Ek (Ch g s.a x))] ⟨ri,Bf ⟨ri,ri,ri,ri,ri,ri,m1,tv⟩,tv⟩ ?_;refine ze9 [0,1,2,7] hj ?_;rintro _ _ ⟨rfl,rfl⟩;have z:FQ g s x r d=match d1.flush.putAll (AD g (Ch g s.a x)) with
     | (d2,_,true)=>(s,d2,0,8)
     | (d2,_,false)=>({ s with a:=Ch g s.a x,txns:=r },d2,(x.images.length:Nat),0):=by
    unfold FQ;rw [hp];try rfl
   generalize d1.flush.putAll (AD g (Ch g s.a x))=p at z U |-
   obtain⟨d2,n2,b2⟩:=p;rw [z];cases b2 with
   | true=>
    simp only [if_true];conv=>whnf
    repeat' (refine zZ ?_;conv=>whnf)
    exact⟨_, .tp [iv 0,iv 8],bwG g s d2,fun _ _ h=>h,zS (s:= [0,1,2,3,9]) tA,rfl,rfl⟩
   | false=>
    obtain⟨n2e, -⟩:=U rfl;simp only at n2e;simp only [Co,if_false];conv=>whnf
    repeat' (refine zZ ?_;conv=>whnf)
    rw [show ((n2:Int) == 0)=false from beq_eq_false_iff_ne.2 (by omega)];conv=>whnf
    repeat' (refine zZ ?_;conv=>whnf)
    apply zX (0) tys_ok mixed (.o [0,1,2,3,4,5,6,7,8,9,10,11,12,13,14,15] .fin) (by kernel_rfl);conv=>whnf
    try (refine tS ?_;conv=>whnf)
    rw [show IntKind.i64.wrap (s.moved+0)=s.moved by rw [hu];try rfl];exact⟨_, .tp [iv (x.images.length:Nat),iv 0],bwG g { s with a:=Ch g s.a x,txns:=r } d2,ri,zI (zL (zu (cs':=Yz g (.bp 1 0) { s with a:=Ch g s.a x,txns:=r }) 0 rfl ⟨ri,ri,ri,ri,ri,ri,ri,ri,ri,ri,ri,ri,m1,ri,ri,ri,ri,ri,ri,ri,tv⟩)) (s:= [0,1,2,3,9]) tA,rfl,rfl⟩
theorem JE {g:Geo} (hg:Bq g=true) {a:An} (ha:Bj g a=true) {l:List Img} (hl:∀ x∈l,Bn g x=true) {seq:Int}:∀ w∈Cb g a seq l,(0<=w.addr/\w.addr<Ar g)/\w.bytes.length<=200:=fun w hw=>by
 have hi:=N1 hg ha hl w hw;obtain⟨y,hy,f⟩:=Ho.1 hw;have h:=Ez hg (hl y hy);obtain⟨g1,g2,g3,g4,g5⟩:=Aq.1 hg;refine⟨⟨by omega,hi.2⟩,?_⟩;unfold C7 at f;split at f
 ·simp only [Bd,List.not_mem_nil,or_false] at f;rcases f with rfl | rfl <;> exact DW (by omega)
 ·rw [A2] at f;rw [f];exact DW (by omega)
theorem Yw {g:Geo} (hg:Bq g=true) {s:Stt} {x:Tx} {r:List Tx} {d:Dk} (ha:Bj g s.a=true) (i:Bj g (Ch g s.a x)=true) (f:∀ y∈x.images,Bn g y=true) (h:DkOk d) (hn:(d.cells.length:Int)=Ar g):DkOk (FQ g s x r d).2.1/\((FQ g s x r d).2.2.2=8\/(FQ g s x r d).2.2.2=0):=by
 have h1:=Kg h (l:=Cb g s.a x.seq x.images) fun w hw=>by
  have:=JE hg ha f w hw;exact⟨by omega,this.2⟩
 unfold FQ;generalize d.putAll (Cb g s.a x.seq x.images)=p at h1 |-
 obtain⟨d1,n1,b1⟩:=p;simp only at h1;have h2:=Kg h1.1 (l:=AD g (Ch g s.a x)) fun w hw=>by
  have:=FI hg i w hw;exact⟨by omega,this.2⟩
 cases b1 with
 | true=>exact⟨h1.1, .inl rfl⟩
 | false=>
  simp only;generalize d1.putAll (AD g (Ch g s.a x))=q at h2 |-
  obtain⟨d2,n2,b2⟩:=q;simp only at h2;cases b2 with
  | true=>exact⟨h2.1, .inl rfl⟩
  | false=>exact⟨h2.1, .inr rfl⟩
theorem Mf {m:Nat} (h:Nat.ble 9 m=true):∀ z∈ [5,6,7,8],z<m:=fun z hz=>by
 have:=Ae h;simp at hz;omega
theorem Me {m:Nat} (h:Nat.ble 10 m=true):∀ z∈ [5,6,7,8,9],z<m:=fun z hz=>by
 have:=Ae h;simp at hz;omega
theorem WK (g:Geo) (s:Stt) (x:Tx) (r:List Tx) (d:Dk) (F:Int->List UInt8) (hg:Bq g=true) (ha:Bj g s.a=true) (hs:s.txns=x::r) (K:StSm s) (z:s.only=false) (u:s.a.gen<4294967295) (i:s.a.seq<4294967295) (C:x.seq=s.a.seq) (G:0<=x.pos/\x.pos<g.sl) (I:x.n=(x.images.length:Nat)+1) (J:∀ y∈x.images,Bn g y=true) (N:s.moved=0) (h:Gc (Ar g) d F []) (L:Jr g d s=true) (f:StSm (FQ g s x r d).1) :
  Fn Tryz.prog 15 [.ag (AK g), .ag (DV d), .ag (Eo s)] fun v=>v = .tp [.ag (Eo (if (FQ g s x r d).2.2.2=8 then st0 else (FQ g s x r d).1)), .ag (DV (FQ g s x r d).2.1),iv (if (FQ g s x r d).2.2.2=8 then 0 else (FQ g s x r d).2.2.1), .v (.int .i64 (FQ g s x r d).2.2.2)]:=by
 have c1:=OQ g d s h.ok L K;have c2:=ZB g s x r d F hg ha hs K z u i C G I J N h;have O:=Jq hg ha u i C G.1 (by rw [I];omega);obtain⟨j,he⟩:=Yw (r:=r) hg ha O J h.ok h.len;generalize FQ g s x r d=R at c2 j he f |-
 obtain⟨S,D,n,e⟩:=R;simp only at c2 j he f |-
 have c3:=GS S f;have c4:=GU g S D j;rcases he with rfl | rfl
 ·rw [if_pos rfl,if_pos rfl];refine zR Tryz.func15 rfl ?_;conv=>whnf
  refine zW c1 rfl ?_;rintro _ _ ⟨rfl,rfl⟩;conv=>whnf
  refine ze9 [5,6,7,8] c2 ?_;rintro _ _ ⟨rfl,rfl⟩;conv=>whnf
  refine ze9 [5,6,7,8,9] c4 ?_;rintro _ _ ⟨rfl,rfl⟩;exact⟨.tp [.ag (Eo st0), .ag (DV D),iv 0,iv 8],BN ⟨Bf st0_sub,ri,ri,ri,tv⟩,rfl⟩
 ·rw [if_neg (by decide),if_neg (by decide)];refine zR Tryz.func15 rfl ?_;conv=>whnf
  refine zW c1 rfl ?_;rintro _ _ ⟨rfl,rfl⟩;conv=>whnf
  refine ze9 [5,6,7,8] c2 ?_;rintro _ _ ⟨rfl,rfl⟩;conv=>whnf
  refine zY c3 ?_;conv=>whnf
  refine ze9 [5,6,7,8,9] c4 ?_;rintro _ _ ⟨rfl,rfl⟩;exact⟨_,ri,rfl⟩
theorem Zw {m:Nat} (h:Nat.ble 8 m=true):∀ z∈ [4,5,6,7],z<m:=fun z hz=>by
 have:=Ae h;simp at hz;omega
theorem Pv (g:Geo) (d:Dk) (hg:Bq g=true) (h:DkOk d) (hn:(d.cells.length:Int)=Ar g) (j:ZN g d):Fn Tryz.prog 27 [.ag (AK g), .ag (DV d)] fun r=>r = .tp [.ag (Eo (DK g d).2.2), .ag (DV (DK g d).1), .v (.int .i64 (DK g d).2.1)]:=by
 have hb:=T6 g d st0 h st0_sm;have hm:=QZ g st0 d hg h hn j;have i:=Ry (g:=g) (d:=d);generalize DK g d=M at hm i |-
 obtain⟨D,e,S⟩:=M;simp only at i hm;refine zR Tryz.func27 rfl ?_;conv=>whnf
 refine zV [.ag (AK g), .ag (DV d), .ag (Eo st0)] ⟨ri,ri,Bf st0_sub,tv⟩ ?_;refine zW hb rfl ?_;rintro _ _ ⟨rfl,rfl⟩;conv=>whnf
 refine ze9 [4,5,6,7] hm ?_;rintro _ _ ⟨⟨S',rfl,hS⟩,rfl⟩;by_cases he:e=0
 ·subst he;have:=hS rfl;subst this;conv=>whnf
  apply aDraw.dag (144) tys_ok mixed [([],11,(.o [0,1,2,3] (.alt 4 (.o [5,6] (.alt 7 (.o [8,9,10] .fin) (.alt 8 (.o [7,9,10] .fin) .non))) (.alt 8 (.o [4,5,6,7,9,10] .fin) .non))))] [6,32,33,34,35,36,37,38,39] [] (by kernel_rfl)
  ·refine Ad ?_ ?_
   ·refine Ad ?_ (Ad ?_ (trivial))
    ·refine Ad ?_ (Ad ?_ (trivial))
     ·conv=>whnf
      try (refine tS ?_;conv=>whnf)
      try (refine tS ?_;conv=>whnf)
      exact tA
     ·conv=>whnf
      try (refine tS ?_;conv=>whnf)
      try (refine tS ?_;conv=>whnf)
      exact tA
    ·conv=>whnf
     try (refine tS ?_;conv=>whnf)
     try (refine tS ?_;conv=>whnf)
     exact tA
   conv=>whnf
   exact trivial
  refine Ad (Ab _).symm ?_;refine Ad (Ab _).symm ?_;exact⟨.tp [.ag (Eo S'), .ag (DV D),iv 0],BN ⟨ri,Bf ⟨AU (f:=B4) D.cells rfl rfl,AU (f:=Ei) D.cache rfl rfl,ri,ri,tv⟩,ri,tv⟩,rfl⟩
 ·have u:(e != 0)=true:=bne_iff_ne.2 he;have:=i he;subst this;conv=>whnf
  rw [u];conv=>whnf
  apply aDraw.dag (2192) tys_ok mixed [([],15,(.o [0,1,2,3,8,9,10] (.alt 4 (.o [5,6] (.alt 7 (.alt 11 (.jump 2) (.alt 12 (.jump 3) .non)) (.alt 11 (.alt 7 (.jump 2) (.alt 12 (.jump 4) .non)) (.alt 12 (.alt 7 (.jump 3) (.alt 11 (.jump 4) .non)) .non)))) (.alt 11 (.alt 4 (.o [5,6] (.alt 7 (.jump 2) (.alt 12 (.jump 4) .non))) (.alt 12 (.jump 1) .non)) (.alt 12 (.alt 4 (.o [5,6] (.alt 7 (.jump 3) (.alt 11 (.jump 4) .non))) (.alt 11 (.jump 1) .non)) .non))))),([0,1,2,3,8,9,10,11,12],6,(.o [4,5,6,7,13,14] .fin)),([0,1,2,3,4,5,6,7,8,9,10,11],3,(.o [12,13,14] .fin)),([0,1,2,3,4,5,6,7,8,9,10,12],3,(.alt 11 (.o [13,14] .fin) (.alt 13 (.o [11,14] .fin) .non))),([0,1,2,3,4,5,6,8,9,10,11,12],3,(.o [7,13,14] .fin))] [6,20,21,22,23,24,25,26,27,28,29,30,31] [(_,_),(_,_),(_,_),(_,_)] (by kernel_rfl)
  ·refine Ad ?_ ?_
   ·refine Ad ?_ (Ad ?_ (Ad ?_ (trivial)))
    ·refine Ad ?_ (Ad ?_ (Ad ?_ (trivial)))
     ·refine Ad ?_ (Ad ?_ (trivial))
      ·exact tA
      ·conv=>whnf
       try (refine tS ?_;conv=>whnf)
       exact tA
     ·refine Ad ?_ (Ad ?_ (trivial))
      ·exact tA
      ·conv=>whnf
       try (refine tS ?_;conv=>whnf)
       exact tA
     ·conv=>whnf
      try (refine tS ?_;conv=>whnf)
      refine Ad ?_ (Ad ?_ (trivial))
      ·exact tA
      ·exact tA
    ·refine Ad ?_ (Ad ?_ (trivial))
     ·refine Ad ?_ (Ad ?_ (trivial))
      ·exact tA
      ·conv=>whnf
       try (refine tS ?_;conv=>whnf)
       exact tA
     ·conv=>whnf
      try (refine tS ?_;conv=>whnf)
      exact tA
    ·conv=>whnf
     try (refine tS ?_;conv=>whnf)
     refine Ad ?_ (Ad ?_ (trivial))
     ·refine Ad ?_ (Ad ?_ (trivial))
      ·exact tA
      ·exact tA
     ·exact tA
   refine Ad ?_ ?_
   ·conv=>whnf
    try (refine tS ?_;conv=>whnf)
    exact tA
   refine Ad ?_ ?_
   ·conv=>whnf
    try (refine tS ?_;conv=>whnf)
    try (refine tS ?_;conv=>whnf)
    exact tA
   refine Ad ?_ ?_
   ·refine Ad ?_ (Ad ?_ (trivial))
    ·conv=>whnf
     try (refine tS ?_;conv=>whnf)
     exact tA
    ·conv=>whnf
     try (refine tS ?_;conv=>whnf)
     exact tA
   refine Ad ?_ ?_
   ·conv=>whnf
    try (refine tS ?_;conv=>whnf)
    exact tA
   conv=>whnf
   exact trivial
  refine Ad (Ab _).symm ?_;refine Ad (Ab _).symm ?_;exact⟨.tp [.ag (Eo st0), .ag (DV D),iv e],BN ⟨Bf st0_sub,Bf ⟨AU (f:=B4) D.cells rfl rfl,AU (f:=Ei) D.cache rfl rfl,ri,ri,tv⟩,ri,tv⟩,rfl⟩
theorem V6 (g:Geo) (hg:Bq g=true):Fn Tryz.prog 11 [.ag (AK g)] fun r=>∃ D,r = .tp [.ag (Eo (AF (Ee g).a (Ee g).l)), .ag (DV D)]/\Gd (Ar g) D (Ee g).F:=by
 obtain⟨D,h1,h2,h3,h4,h5⟩:=VT hg;have h:=Rb g ⟨#[]⟩ hg (by exact lab_nil);have f:=Pv g (Gi g ⟨#[]⟩) hg h2 h3 (Zt hg);rw [h1] at f;refine zR Tryz.func11 rfl ?_;conv=>whnf
 apply zX (0) tys_ok mixed (.o [0,1] (.three 2 (.three 3 (.o [4,5,6,7] (.two 8 (.o [9,10,11,12] .fin) 9 (.o [8,10,11,12] .fin))) 8 (.two 3 (.o [4,5,6,7,9,10,11,12] .fin) 9 (.o [3,4,5,6,7,10,11,12] .fin)) 9 (.two 3 (.o [4,5,6,7,8,10,11,12] .fin) 8 (.o [3,4,5,6,7,10,11,12] .fin))) 8 (.two 2 (.two 3 (.o [4,5,6,7,9,10,11,12] .fin) 9 (.o [3,4,5,6,7,10,11,12] .fin)) 9 (.o [2,3,4,5,6,7,10,11,12] .fin)) 9 (.two 2 (.two 3 (.o [4,5,6,7,8,10,11,12] .fin) 8 (.o [3,4,5,6,7,10,11,12] .fin)) 8 (.o [2,3,4,5,6,7,10,11,12] .fin)))) (by kernel_rfl);refine Ad ?_ (Ad ?_ ?_);conv=>whnf
 refine zY h ?_;refine Ad ?_ (Ad ?_ ?_);conv=>whnf
 refine zY f ?_;refine Ad ?_ ?_;conv=>whnf
 try (refine tS ?_;conv=>whnf)
 try (refine tS ?_;conv=>whnf)
 rotate_left 1;conv=>whnf
 try (refine tS ?_;conv=>whnf)
 try (refine tS ?_;conv=>whnf)
 rotate_left 1;refine Ad ?_ ?_;conv=>whnf
 refine zY f ?_;conv=>whnf
 try (refine tS ?_;conv=>whnf)
 try (refine tS ?_;conv=>whnf)
 rotate_left 1;conv=>whnf
 refine zY f ?_;conv=>whnf
 try (refine tS ?_;conv=>whnf)
 try (refine tS ?_;conv=>whnf)
 rotate_left 1;refine Ad ?_ ?_;conv=>whnf
 refine zY f ?_;conv=>whnf
 try (refine tS ?_;conv=>whnf)
 try (refine tS ?_;conv=>whnf)
 rotate_left 1;conv=>whnf
 refine zY f ?_;conv=>whnf
 try (refine tS ?_;conv=>whnf)
 try (refine tS ?_;conv=>whnf)
 rotate_left 1;refine Ad ?_ ?_;conv=>whnf
 refine zY h ?_;refine Ad ?_ ?_;conv=>whnf
 refine zY f ?_;conv=>whnf
 try (refine tS ?_;conv=>whnf)
 try (refine tS ?_;conv=>whnf)
 rotate_left 1;conv=>whnf
 refine zY f ?_;conv=>whnf
 try (refine tS ?_;conv=>whnf)
 try (refine tS ?_;conv=>whnf)
 rotate_left 1;conv=>whnf
 refine zY h ?_;conv=>whnf
 refine zY f ?_;conv=>whnf
 try (refine tS ?_;conv=>whnf)
 try (refine tS ?_;conv=>whnf)
 rotate_left 1;refine Ad ?_ ?_;conv=>whnf
 refine zY h ?_;refine Ad ?_ ?_;conv=>whnf
 refine zY f ?_;conv=>whnf
 try (refine tS ?_;conv=>whnf)
 try (refine tS ?_;conv=>whnf)
 rotate_left 1;conv=>whnf
 refine zY f ?_;conv=>whnf
 try (refine tS ?_;conv=>whnf)
 try (refine tS ?_;conv=>whnf)
 rotate_left 1;conv=>whnf
 refine zY h ?_;conv=>whnf
 refine zY f ?_;conv=>whnf
 try (refine tS ?_;conv=>whnf)
 try (refine tS ?_;conv=>whnf)
 rotate_left 1;all_goals
  apply zX (2) tys_ok mixed (.one 0 (.two 1 (.o [2,3] .fin) 2 (.o [1,3] .fin))) (by kernel_rfl);refine Ad ?_ ?_;conv=>whnf
  try (refine tS ?_;conv=>whnf)
  try (refine tS ?_;conv=>whnf)
  rotate_left 1;conv=>whnf
  try (refine tS ?_;conv=>whnf)
  try (refine tS ?_;conv=>whnf)
  rotate_left 1;all_goals
   exact⟨_,ri,D,rfl,h4⟩
theorem aDraw.conv {P:Program} {T:Tys} {n d0 id:Nat} {ops:Array Oper} {K:Fr->List AB->Prop} {fr:Fr} {H:List AB} (h:aDraw P T n d0 id ops (fun fr H=>∃ fr2 H2,ConvF fr H fr2 H2/\K fr2 H2) fr H):aDraw P T n d0 id ops K fr H:=
 ⟨fun w0 M0 ce c a hs hf he hd Q hq=>h.wp w0 M0 ce c a hs hf he hd Q fun c' fr' H' a' ⟨fr2,H2,hc,hk⟩ hs' hf' he'=>by
  obtain⟨c2,e,s2,f2,x2⟩:=hc _ _ _ _ _ hs' hf';have:=hq c2 fr2 H2 a' hk s2 f2 (he'.trans x2);rwa [e] at this⟩
theorem QP (g:Geo) (d:Dk) (e:Nat->List AV) (h:DkOk d):Fn Tryz.prog 96 [.ag (AK g), .ag (DV d), .sl 4 0 e] fun r=>r = .ag (DV d):=by
 obtain⟨q1,q2,q3,q4⟩:=h.big;have ho:=Om d q1 q2 q3 q4;refine zR Tryz.func96 rfl ?_;conv=>whnf
 refine zW ho rfl ?_;rintro _ _ ⟨rfl,rfl⟩;conv=>whnf
 refine zG 1 ?_;refine Ad (Ab _).symm ?_;refine Ad (Ab _).symm ?_;exact⟨.ag (DV d),Bf ⟨AU (f:=B4) _ rfl rfl,AU (f:=Ei) _ rfl rfl,ri,ri,tv⟩,rfl⟩
theorem RdL.seal1 {c c1:Ctx} (x1:Ext c c1) {x y:AV} (r1:∀ v,Rd x c v->Rd y c1 v):∀ {l:List AV} {us:List Value} {i:Nat},RdL l c us->l[i]? = some x->RdL (l.set i y) c1 us
 | [],us,i,h,hi=>by simp at hi
 | a::l,us,0,h,hi=>by
  simp only [Di,Option.some.injEq] at hi;subst hi;simp only [List.set_cons_zero,RdL] at h |-
  obtain⟨u,vs,rfl,h1,h2⟩:=h;exact⟨u,vs,rfl,r1 u h1,RdL.ext _ x1 h2⟩
 | a::l,us,i+1,h,hi=>by
  simp only [List.getElem?_cons_succ] at hi;simp only [List.set_cons_succ,RdL] at h |-
  obtain⟨u,vs,rfl,h1,h2⟩:=h;exact⟨u,vs,rfl,Rd.ext _ x1 h1,RdL.seal1 x1 r1 h2 hi⟩
theorem ACalls.sealArg {P:Program} {q:Bool} {f:FuncId} {args:List AV} {H:List AB} {K:AV->List AB->Prop} (i k:Nat) {t:TypeId} {sz:Nat} {es:List (List AV)} (hx:args[i]? = some (.ow k es.length)) (hk:H[k]? = some (.row t sz es))
  (hc:ACalls P q f (args.set i (.sl sz es.length fun j=>es.getD j [])) (H.set k .dead) K):ACalls P q f args H K:=by
 refine⟨hc.go,fun w0 M0 c us hs hr=>?_⟩;obtain⟨c1,e1,s1,x1,r1⟩:=hs.freeze hk;have:=hc.calls w0 M0 c1 us s1 (RdL.seal1 x1 r1 hr hx);rw [e1] at this;refine this.mono ?_;rintro e w' ⟨v,c',r,H2,rfl,rfl,q1,q2,q3,q4,q5⟩;exact⟨v,c',r,H2,rfl,rfl,q1,q2,x1.trans q3,q4,q5⟩
theorem YF {H:List AB} {s:Stt} {t tH tT:TypeId} (j a b:Nat) (hj:H[j]? = some (.box t (stX s (.ow a s.a.homes.length) (.ow b s.txns.length)))) (ha:H[a]? = some (.row tH 3 (s.a.homes.map DL))) (hb:H[b]? = some (.row tT 4 (s.txns.map CG))) (u:a≠b) (z:j≠b) (C:j≠a) :
  ConvH H (((((H.set a .dead).set j (.box t (stX s (.sl 3 (s.a.homes.map DL).length fun i=>(s.a.homes.map DL).getD i []) (.ow b s.txns.length)))).set b .dead).set j (.box t (stX s (.sl 3 (s.a.homes.map DL).length fun i=>(s.a.homes.map DL).getD i []) (.sl 4 (s.txns.map CG).length fun i=>(s.txns.map CG).getD i [])))).set j (.box t (Eo s))):=by
 have h:=(At.1 hj).1;obtain⟨T,hT⟩:∃ T:AV,T = .sl 4 (s.txns.map CG).length fun i=>(s.txns.map CG).getD i []:=⟨_,rfl⟩
 obtain⟨M,hM⟩:∃ M:AV,M = .sl 3 (s.a.homes.map DL).length fun i=>(s.a.homes.map DL).getD i []:=⟨_,rfl⟩
 have t1:∀ (c:Ctx) (v:Value),Rd T c v->Rd (CS s.txns) c v:=by rw [hT];exact AU (f:=CG) s.txns (Ab _) rfl
 have m1:∀ (c:Ctx) (v:Value),Rd M c v->Rd (HE s.a.homes) c v:=by rw [hM];exact AU (f:=DL) s.a.homes (Ab _) rfl
 rw [<-hT,<-hM];refine zr (zw j a (cs2:=stX s M (.ow b s.txns.length)) hj ha ?_) (zr (zw j b (cs2:=stX s M T) (t:=t) (cs:=stX s M (.ow b s.txns.length)) ?_ (es':=s.txns.map CG) (t':=tT) (sz':=4) ?_ ?_) (zu j (t:=t) (cs:=stX s M T) ?_ ⟨ri,ri,ri,ri,ri,ri,m1,t1,ri,ri,ri,ri,ri,ri,tv⟩))
 ·rw [<-hM];simp only [stX,Az,Bx,EW (Ab _).symm,Sg (show (b == a)=false by simpa using Ne.symm u)];rfl
 ·rw [AA (by simpa using h)]
 ·rw [A9 z,A9 u,hb]
 ·rw [<-hT];subst hM;simp only [stX,Az,Bx,EW (Ab _).symm];rfl
 ·rw [AA (by simpa using h)]
theorem WL {H:List AB} {d:Dk} {t tC tW:TypeId} (j a b:Nat) (hj:H[j]? = some (.box t (Gp (.ow a d.cells.length) (.ow b d.cache.length) d.reqs d.left))) (ha:H[a]? = some (.row tC 3 (d.cells.map B4))) (hb:H[b]? = some (.row tW 2 (d.cache.map Ei))) (u:a≠b) (z:j≠b) (C:j≠a) :
  ConvH H (((((H.set a .dead).set j (.box t (Gp (.sl 3 (d.cells.map B4).length fun i=>(d.cells.map B4).getD i []) (.ow b d.cache.length) d.reqs d.left))).set b .dead).set j (.box t (Gp (.sl 3 (d.cells.map B4).length fun i=>(d.cells.map B4).getD i []) (.sl 2 (d.cache.map Ei).length fun i=>(d.cache.map Ei).getD i []) d.reqs d.left))).set j (.box t (DV d))):=by
 have h:=(At.1 hj).1;obtain⟨T,hT⟩:∃ T:AV,T = .sl 2 (d.cache.map Ei).length fun i=>(d.cache.map Ei).getD i []:=⟨_,rfl⟩
 obtain⟨M,hM⟩:∃ M:AV,M = .sl 3 (d.cells.map B4).length fun i=>(d.cells.map B4).getD i []:=⟨_,rfl⟩
 have t1:∀ (c:Ctx) (v:Value),Rd T c v->Rd (Ly d.cache) c v:=by rw [hT];exact AU (f:=Ei) d.cache (Ab _) rfl
 have m1:∀ (c:Ctx) (v:Value),Rd M c v->Rd (NP d.cells) c v:=by rw [hM];exact AU (f:=B4) d.cells (Ab _) rfl
 rw [<-hT,<-hM];refine zr (zw j a (cs2:=Gp M (.ow b d.cache.length) d.reqs d.left) hj ha ?_) (zr (zw j b (cs2:=Gp M T d.reqs d.left) (t:=t) (cs:=Gp M (.ow b d.cache.length) d.reqs d.left) ?_ (es':=d.cache.map Ei) (t':=tW) (sz':=2) ?_ ?_) (zu j (t:=t) (cs:=Gp M T d.reqs d.left) ?_ ⟨m1,t1,ri,ri,tv⟩))
 ·rw [<-hM];simp only [Gp,Az,Bx,EW (Ab _).symm,Sg (show (b == a)=false by simpa using Ne.symm u)];rfl
 ·rw [AA (by simpa using h)]
 ·rw [A9 z,A9 u,hb]
 ·rw [<-hT];subst hM;simp only [Gp,Az,Bx,EW (Ab _).symm];rfl
 ·rw [AA (by simpa using h)]
theorem X6 {es:List (List AV)} {k:Nat} {e e':List AV} (h:SubL e e') (i:Nat):SubL ((es.set k e).getD i []) ((es.set k e').getD i []):=by
 rw [Ac,Ac,List.getElem?_set,List.getElem?_set];split
 ·split
  ·exact h
  ·exact SubL.refl _
 ·exact SubL.refl _
def IK (n k:Nat):List (List UInt8):=List.replicate k zero8 ++ List.replicate (n - k) []
theorem V4 {n k:Nat} (h:k<=n):(IK n k).length=n:=by simp [IK];omega
theorem V3 {n k:Nat} (h:k<n):(IK n k).set k zero8=IK n (k+1):=by
 obtain⟨m,rfl⟩:∃ m,n=k+1+m:=⟨n - (k+1),by omega⟩;unfold IK;rw [show k+1+m - k=m+1 by omega,show k+1+m - (k+1)=m by omega,Dn,Dy _ _ (by simp)];simp only [BJ,CH,List.set_cons_zero];rw [List.replicate_succ' (n:=k),A7];try rfl
theorem V2 (n i:Nat):SubL ((List.replicate ((n:Int).toNat) (List.map AV.v [Value.slice none 0 0])).getD i []) (((IK n 0).map Fm).getD i []):=by
 rw [Aa,IK,List.replicate_zero,B7,Nat.sub_zero,List.map_replicate];by_cases h:i<n
 ·rw [show (List.replicate n (List.map AV.v [Value.slice none 0 0])).getD i []=List.map AV.v [Value.slice none 0 0] by simp [h],show (List.replicate n (Fm [])).getD i []=Fm [] by simp [h]];exact⟨Bg 1 _,tv⟩
 ·rw [show (List.replicate n (List.map AV.v [Value.slice none 0 0])).getD i []=[] by simp [h],show (List.replicate n (Fm [])).getD i []=[] by simp [h]];trivial
theorem zero8_sub:SubL [.sl 1 (Int.toNat 8) fun i=>(List.replicate (Int.toNat 8) (List.map AV.v [Value.int IntKind.u8 0])).getD i []] (Fm zero8):=⟨F8 rfl rfl,tv⟩
theorem R_ (x:Int) : [AV.v (Value.int .u8 (IntKind.u8.wrap x))]=Ef (UInt8.ofNat (IntKind.u8.wrap x).toNat):=by
 rw [Ef,IntKind.wrap_u8];have h1:0<=x % 256/\x % 256<256:=by omega
 have h2:(UInt8.ofNat (x % 256).toNat).toNat=(x % 256).toNat:=B8 (by show (x % 256).toNat<256;omega);rw [h2,Int.toNat_of_nonneg h1.1]
theorem YQ (x0 x1 x2 x7:Int):∃ b:List UInt8,b.length=8/\ [[AV.v (Value.int .u8 (IntKind.u8.wrap x0))], [AV.v (Value.int .u8 (IntKind.u8.wrap x1))], [AV.v (Value.int .u8 (IntKind.u8.wrap x2))], [AV.v (Value.int .u8 1)], [AV.v (Value.int .u8 1)], [AV.v (Value.int .u8 1)], [AV.v (Value.int .u8 1)], [AV.v (Value.int .u8 (IntKind.u8.wrap x7))]]=b.map Ef:=
 ⟨[UInt8.ofNat (IntKind.u8.wrap x0).toNat,UInt8.ofNat (IntKind.u8.wrap x1).toNat,UInt8.ofNat (IntKind.u8.wrap x2).toNat,1,1,1,1,UInt8.ofNat (IntKind.u8.wrap x7).toNat],rfl,by rw [R_,R_,R_,R_];try rfl⟩
theorem aM {m:Nat} (h:Nat.ble 13 m=true):∀ z∈ [7,8,9,10,11,12],z<m:=fun z hz=>by
 have:=Ae h;simp at hz;omega
theorem Vo.mono {g:Geo} {K K':Int} {M:Md} (h:Vo g K M) (hk:K<=K'):Vo g K' M:=⟨h.an,h.ring,Int.le_trans h.gen hk,Int.le_trans h.seq hk,h.one,h.fb,h.m⟩
theorem aj {m:Nat} (h:Nat.ble 12 m=true):∀ z∈ [6,7,8,9,10,11],z<m:=fun z hz=>by
 have:=Ae h;simp at hz;omega
theorem Y7 {g:Geo} (hg:Bq g=true):1<=g.z*g.d/\g.z*g.d<=16:=by
 obtain⟨g1,g2,g3,g4,g5⟩:=Aq.1 hg;rcases(show g.z=1\/g.z=2\/g.z=3\/g.z=4 by omega) with h | h | h | h <;> rw [h] <;> omega
@[reducible] def stZ:List AV:= [iv 0,iv 0,iv 0,iv 0,iv 0, .v (.string ⟨#[]⟩), .v (.slice none 0 0), .v (.slice none 0 0), .v (.bool false),iv 0,iv 0,iv 0,iv 0, .v (.slice none 0 0)]
@[reducible] def dkZ:List AV:= [.v (.slice none 0 0), .v (.slice none 0 0),iv 0,iv 0]
@[reducible] def plH (g:Geo) (M:Md) (d:Dk):List AB:= [.box 24 (AK g), .box 34 stZ, .box 38 dkZ, .box 34 (Eo (AF M.a M.l)), .box 38 (DV d), .row 22 1 (M.m.map Fm)]
theorem Rs (g:Geo) (L:List Q2) (sn:Nat) (sg:Nat->List AV) (f:Dk->Dk) (K:∀ d,DkOk d->Fn Tryz.prog 96 [.ag (AK g), .ag (DV d), .sl 4 sn sg] fun r=>r = .ag (DV (f d))) (hg:Bq g=true) (hl:L.length<=1000000):ACalls Tryz.prog false 41 [.ag (AK g),Rr L, .sl 4 sn sg] [] fun r H=>∃ M d,ZM g L (min L.length 6) M/\Gd (Ar g) d M.F/\Vo g 14 M/\r = .tp [.ag (Eo (AF M.a M.l)), .ag (DV (f d)), .ow 0 M.m.length]/\H=[.row 22 1 (M.m.map Fm)]:=by
 obtain⟨g1,g2,g3,g4,g5⟩:=Aq.1 hg;obtain⟨n1,n2⟩:=Y7 hg;obtain⟨n,hn⟩:∃ n:Nat,(n:Int)=g.z*g.d:=⟨(g.z*g.d).toNat,by omega⟩;have hh:=V6 g hg;obtain⟨-, -, -, -, -,hc⟩:=VT hg;refine zT tys_ok Tryz.func41 rfl rfl (Ae rfl) ?_;conv=>whnf
 refine zH hh rfl ?_;rintro _ ⟨D,rfl,hD⟩;conv=>whnf
 rw [wi (show -9223372036854775808<=g.z*g.d/\g.z*g.d<=9223372036854775807 by omega),<-hn];refine⟨⟨rfl,by omega,by omega⟩,?_⟩;conv=>whnf
 refine zU Nat (fun k=>([(1,Rr L),(2, .sl 4 sn sg),(3, .bp 0 0),(6, .bp 1 0),(7, .bp 2 0),(9, .bp 3 0),(10, .bp 4 0),(11,iv (n:Nat)),(12, .ow 5 n),(13,iv (k:Nat))], [.box 24 (AK g), .box 34 stZ, .box 38 dkZ, .box 34 (Eo (AF (Ee g).a (Ee g).l)), .box 38 (DV D), .row 22 1 ((IK n k).map Fm)])) (fun k=>k<=n) (fun k=>n - k) 0 (Aj _)
  (zI (zL (zD (k:=5) (es':=(IK n 0).map Fm) rfl (by simp [IK]) fun i=>V2 n i)) (s:= [0,1,2,3,4,5]) tA) ?_
 intro k hk;conv=>whnf
 refine A5 (fun h6=>?_) (fun h6=>?_) <;> (repeat rw [Aa] at h6) <;> conv=>whnf
 ·have ho:k<n:=by omega
  have hm:=V4 hk;repeat' (refine zZ ?_;conv=>whnf)
  refine⟨⟨by omega,by omega⟩,?_⟩;refine⟨⟨by omega,by omega⟩,?_⟩;refine⟨rfl,?_⟩;conv=>whnf
  refine Ad ⟨rfl,by rw [Ab,hm],by show k<n;omega⟩ ?_;conv=>whnf
  rw [Aa,show ((IK n k).map Fm).getD k []=Fm ((IK n k).getD k []) from AY (by omega)];exact⟨k+1,by omega,by omega,zI (zL (zD (k:=5) (es':=((IK n k).map Fm).set k (Fm zero8)) rfl (by simp) fun j=>X6 zero8_sub j)) (s:= [0,1,2,3,4,5]) ⟨⟨rfl,rfl,rfl,rfl,rfl,rfl,rfl,rfl,rfl,AG (by omega),tv⟩,⟨rfl,rfl,rfl,rfl,rfl,congrArg (fun es=>some (AB.row 22 1 es)) (by rw [<-V3 ho,BI]),tv⟩,rfl,rfl,rfl,rfl,rfl⟩⟩
 have ek:k=n:=by omega
 subst ek;have hj:IK k k=(Ee g).m:=by
  show _=List.replicate (g.z*g.d).toNat zero8;unfold IK;rw [<-hn];simp
 rw [hj];conv=>whnf
 refine zU (Nat × Md × Dk) (fun x=>([(1,Rr L),(2, .sl 4 sn sg),(3, .bp 0 0),(6, .bp 1 0),(7, .bp 2 0),(9, .bp 3 0),(10, .bp 4 0),(11,iv (k:Nat)),(12, .ow 5 k),(14,iv (x.1:Nat))],plH g x.2.1 x.2.2)) (fun x=>x.1<=min L.length 6/\ZM g L x.1 x.2.1/\Gd (Ar g) x.2.2 x.2.1.F/\Vo g (2+2*(x.1:Nat)) x.2.1) (fun x=>min L.length 6 - x.1) (0,Ee g,D) ⟨Aj _,rfl,hD,hc⟩
  (zS (s:= [0,1,2,3,4,5]) tA) ?_
 rintro⟨i,M,d⟩ ⟨hi,N,hd,hv⟩;simp only at hi N hd hv;by_cases hs:i<min L.length 6
 ·have hp:i<L.length:=by omega
  conv=>whnf
  rw [show decide ((i:Int)<(L.length:Nat))=true from decide_eq_true (by omega)];conv=>whnf
  rw [show decide ((i:Int)<6)=true from decide_eq_true (by omega)];conv=>whnf
  repeat' (refine zZ ?_;conv=>whnf)
  refine⟨⟨by omega,by omega⟩,?_⟩;refine⟨by decide,?_⟩;conv=>whnf
  have ek:IntKind.u64.wrap (k:Int)=k:=by rw [IntKind.wrap_u64];omega
  rw [ek];refine⟨by omega,?_⟩;conv=>whnf
  obtain⟨A,hA⟩:∃ A,A=IR (L.getD (i:Int).toNat ⟨0,0⟩).a (k:Nat):=⟨_,rfl⟩;have ht:0<=A/\A<(k:Nat):=by rw [hA];exact Fb (by omega) (by omega)
  rw [show IntKind.i64.wrap ((IntKind.u64.wrap (L.getD (i:Int).toNat ⟨0,0⟩).a).tmod (k:Int))=A from hA.symm];refine aDraw.conv ?_;apply zX (0) tys_ok mixed (.o [0,1,2,3,4,5,6,7,8,9,10,11,12,13,14,15,16,17,18] .fin) (by kernel_rfl);conv=>whnf
  try (refine tI ?_;conv=>whnf)
  try (refine tI ?_;conv=>whnf)
  try (refine tI ?_;conv=>whnf)
  try (refine tI ?_;conv=>whnf)
  refine⟨by decide,?_⟩;conv=>whnf
  obtain⟨b,U,hr⟩:=YQ (L.getD (i:Int).toNat ⟨0,0⟩).b ((L.getD (i:Int).toNat ⟨0,0⟩).b.fdiv (2 ^ min (Int.toNat 8) IntKind.i64.bits)) (i:Nat) A;refine⟨_,_,zQ (zN 16 6 rfl rfl) (zK 16 rfl (F8 (L:=b) U.symm hr)),?_⟩;have e3:(3+2*(i:Nat):Int)=2+2*(i:Nat)+1:=by omega
  have J:=hv.vol hd;have ha:=LP g d (AF M.a M.l) hd.ok (J.sm hg);have hq:=Rk g M.a M.l d M.F (2+2*(i:Nat)) A b hg J (by omega) hd (fun q=>Bo (hv.fb q) (by decide)) (by omega) U;conv=>whnf
  refine zW ha rfl ?_;rintro _ _ ⟨rfl,rfl⟩;conv=>whnf
  refine aSeq.cutR (Md × Dk) (fun x=>([(1,Rr L),(2, .sl 4 sn sg),(3, .bp 0 0),(6, .bp 1 0),(7, .bp 2 0),(9, .bp 3 0),(10, .bp 4 0),(11,iv (k:Nat)),(12, .ow 5 k),(14,iv (i:Nat))],plH g x.1 x.2)) (fun x=>aX g M A b x.1/\Gd (Ar g) x.2 x.1.F/\Vo g (3+2*(i:Nat)) x.1) ?_ ?_
  ·conv=>whnf
   refine ACalls.sealArg 1 13 rfl rfl ?_;refine ACalls.sealArg 2 14 rfl rfl ?_;refine zV [.bp 7 0,iA [A],E7 [b]] ⟨ri,DB (L:= [A]) rfl rfl,D6 (L:= [b]) rfl rfl,tv⟩ ?_;refine ze9 [7,8,9,10,11,12] hq ?_;rintro _ _ (⟨rfl,ok1,ok2,d2,W,u,hW,C,rfl⟩ | ⟨e,he,rfl,hb,d2,rfl⟩)
   ·conv=>whnf
    apply zX (1024) tys_ok mixed (.o [0,1,2,3,4,5,6,7,8,9] (.two 10 (.o [11,12] .fin) 11 (.o [10,12] .fin))) (by kernel_rfl);refine Ad ?_ ?_;conv=>whnf
    try (refine tS ?_;conv=>whnf)
    try (refine tS ?_;conv=>whnf)
    rotate_left 1;conv=>whnf
    try (refine tS ?_;conv=>whnf)
    try (refine tS ?_;conv=>whnf)
    rotate_left 1;all_goals
     refine⟨⟨by omega,by omega⟩,?_⟩;conv=>whnf
     refine Ad ⟨rfl,by rw [Ab];show k=M.m.length;have:=hv.m;omega,by omega⟩ ?_;conv=>whnf
     rw [show (M.m.map Fm).getD A.toNat []=Fm (M.m.getD A.toNat []) from AY (by have:=hv.m;omega)];conv=>whnf
     exact⟨(⟨M.a,M.l ++ [Gk g M.a M.l M.F A b],ML M.F W,M.m.set A.toNat b⟩,d2),⟨.inl ⟨ok1,ok2,W,hW,rfl⟩,u,Vo.of (M:=⟨M.a,M.l ++ [Gk g M.a M.l M.F A b],ML M.F W,M.m.set A.toNat b⟩) (by rw [e3];exact C) (QG hv.fb fun w hw=>(hW w hw).2) (by show ((M.m.set A.toNat b).length:Int)=_;rw [AX];exact hv.m)⟩,zI (zL (zr (YF (s:=AF M.a (M.l ++ [Gk g M.a M.l M.F A b])) 3 11 12 rfl rfl rfl (by decide) (by decide) (by decide)) (WL (d:=d2) 4 9 15 rfl rfl rfl (by decide) (by decide) (by decide)))) (s:= [0,1,2,3,4,5]) ⟨tA,⟨rfl,rfl,rfl,rfl,rfl,congrArg (fun es=>some (AB.row 22 1 es)) (BI (f:=Fm)).symm,tv⟩,rfl,rfl,rfl,rfl,rfl⟩⟩
   ·conv=>whnf
    rw [show (e == 0)=false from beq_eq_false_iff_ne.2 he];exact⟨(M,d),⟨.inr ⟨hb,rfl⟩,hd,hv.mono (by omega)⟩,zS (s:= [0,1,2,3,4,5]) tA⟩
  rintro⟨M2,d2⟩ ⟨Z,u,C⟩;simp only at Z u C;have G:∀ M3,M3=(if (L.getD i ⟨0,0⟩).b.tmod 3=0 then ZR g M2 else M2)->ZM g L (i+1) M3:=fun M3 h=>⟨M,M2,N,⟨A,b,by omega,U,Z⟩,h⟩
  refine⟨⟨by omega,by omega⟩,?_⟩;refine⟨by decide,?_⟩;conv=>whnf
  rw [Aa];refine⟨by decide,?_⟩;conv=>whnf
  by_cases h3:(L.getD i ⟨0,0⟩).b.tmod 3=0;rotate_left 1
  ·rw [show ((L.getD i ⟨0,0⟩).b.tmod 3 == 0)=false from beq_eq_false_iff_ne.2 h3];conv=>whnf
   exact⟨(i+1,M2,d2),⟨by show i+1<=min L.length 6;omega,G M2 (if_neg h3).symm,u,C.mono (by omega)⟩,by show min L.length 6 - (i+1)<min L.length 6 - i;omega,zS (s:= [0,1,2,3,4,5]) ⟨⟨rfl,rfl,rfl,rfl,rfl,rfl,rfl,rfl,rfl,AG (by omega),tv⟩,tA,rfl,rfl,rfl,rfl,rfl⟩⟩
  rw [show ((L.getD i ⟨0,0⟩).b.tmod 3 == 0)=true from beq_iff_eq.2 h3];have I:=C.vol u;have V:=LP g d2 (AF M2.a M2.l) u.ok (I.sm hg);obtain⟨a2,l2,F2,m2⟩:=M2;conv=>whnf
  refine zW V rfl ?_;rintro _ _ ⟨rfl,rfl⟩;conv=>whnf
  cases l2 with
  | nil=>
   have O:=Rl g a2 d2;refine ze9 [6,7,8,9,10,11] O ?_;rintro _ _ ⟨rfl,rfl⟩;conv=>whnf
   apply zX (1024) tys_ok mixed (.o [0,1,2,3,4,5,6,7,8,9] (.two 10 (.o [11,12] .fin) 11 (.o [10,12] .fin))) (by kernel_rfl);refine Ad ?_ ?_;conv=>whnf
   try (refine tS ?_;conv=>whnf)
   try (refine tS ?_;conv=>whnf)
   rotate_left 1;conv=>whnf
   try (refine tS ?_;conv=>whnf)
   try (refine tS ?_;conv=>whnf)
   rotate_left 1;all_goals
    exact⟨(i+1,⟨a2, [],F2,m2⟩,d2),⟨by show i+1<=min L.length 6;omega,G _ ((show (⟨a2, [],F2,m2⟩:Md)=ZR g ⟨a2, [],F2,m2⟩ from rfl).trans (if_pos h3).symm),u,C.mono (by omega)⟩,by show min L.length 6 - (i+1)<min L.length 6 - i;omega,zI (zL (zr (YF (s:=AF a2 []) 3 10 11 rfl rfl rfl (by decide) (by decide) (by decide)) (WL (d:=d2) 4 8 9 rfl rfl rfl (by decide) (by decide) (by decide)))) (s:= [0,1,2,3,4,5]) ⟨⟨rfl,rfl,rfl,rfl,rfl,rfl,rfl,rfl,rfl,AG (by omega),tv⟩,tA,rfl,rfl,rfl,rfl,rfl⟩⟩
  | cons x r=>
   have O:=T3 g a2 x r d2 F2 (3+2*(i:Nat)) hg I (by omega) u;refine ze9 [6,7,8,9,10,11] O ?_;rintro _ _ ⟨rfl,d3,X,rfl⟩;conv=>whnf
   have hf:=Vo.ck hg C (by omega) u (d':=d3) X;apply zX (1024) tys_ok mixed (.o [0,1,2,3,4,5,6,7,8,9] (.two 10 (.o [11,12] .fin) 11 (.o [10,12] .fin))) (by kernel_rfl);refine Ad ?_ ?_;conv=>whnf
   try (refine tS ?_;conv=>whnf)
   try (refine tS ?_;conv=>whnf)
   rotate_left 1;conv=>whnf
   try (refine tS ?_;conv=>whnf)
   try (refine tS ?_;conv=>whnf)
   rotate_left 1;all_goals
    exact⟨(i+1,⟨Ch g a2 x,r,Jp g a2 x F2,m2⟩,d3),⟨by show i+1<=min L.length 6;omega,G _ ((show (⟨Ch g a2 x,r,Jp g a2 x F2,m2⟩:Md)=ZR g ⟨a2,x::r,F2,m2⟩ from rfl).trans (if_pos h3).symm),X,hf.mono (by omega)⟩,by show min L.length 6 - (i+1)<min L.length 6 - i;omega,zI (zL (WL (d:=d3) 4 8 12 rfl rfl rfl (by decide) (by decide) (by decide))) (s:= [0,1,2,3,4,5]) ⟨⟨rfl,rfl,rfl,rfl,rfl,rfl,rfl,rfl,rfl,AG (by omega),tv⟩,tA,rfl,rfl,rfl,rfl,rfl⟩⟩
 ·have ei:i=min L.length 6:=by omega
  have K:=K d hd.ok;have ekm:k=M.m.length:=by have:=hv.m;omega
  conv=>whnf
  by_cases hp:i<L.length;rw [show decide ((i:Int)<(L.length:Nat))=true from decide_eq_true (by omega)];conv=>whnf
  rw [show decide ((i:Int)<6)=false from decide_eq_false (by omega)];conv=>whnf
  rotate_left 1;rw [show decide ((i:Int)<(L.length:Nat))=false from decide_eq_false (by omega)];conv=>whnf
  all_goals
   apply zX (0) tys_ok mixed (.o [0,1,2,3,5,4,6,7,8] .fin) (by kernel_rfl);conv=>whnf
   refine zY K ?_;conv=>whnf
   try (refine tS ?_;conv=>whnf)
   try (refine tS ?_;conv=>whnf)
  all_goals
   exact⟨.tp [.ag (Eo (AF M.a M.l)), .ag (DV (f d)), .ow 5 k], .tp [.ag (Eo (AF M.a M.l)), .ag (DV (f d)), .ow 0 k], [.row 22 1 (M.m.map Fm)],fun _ _ h=>h,zS (s:= [5]) tA,M,d,ei ▸ N,hd,hv.mono (by omega),by rw [ekm],rfl⟩
theorem TC (g:Geo) (L:List Q2) (sn:Nat) (sg:Nat->List AV) (f:Dk->Dk) (h:∀ d,DkOk d->Fn Tryz.prog 96 [.ag (AK g), .ag (DV d), .sl 4 sn sg] fun r=>r = .ag (DV (f d))) (hg:Bq g=true) (hl:L.length<=1000000):Fn Tryz.prog 41 [.ag (AK g),Rr L, .sl 4 sn sg] fun r=>∃ M d,ZM g L (min L.length 6) M/\Gd (Ar g) d M.F/\Vo g 14 M/\r = .tp [.ag (Eo (AF M.a M.l)), .ag (DV (f d)),E7 M.m]:=by
 refine ACalls.fn (Rs g L sn sg f h hg hl) ?_;rintro _ _ ⟨M,d,h1,h2,h3,rfl,rfl⟩;refine⟨_,zy _,?_⟩;refine Ad (Ab _).symm ?_;exact⟨.tp [.ag (Eo (AF M.a M.l)), .ag (DV (f d)),E7 M.m],BN (m:= [.ag (Eo (AF M.a M.l)), .ag (DV (f d)),E7 M.m]) ⟨ri,ri,D6 rfl rfl,tv⟩,M,d,h1,h2,h3,rfl⟩
theorem TE (g:Geo) (L:List Q2) (hg:Bq g=true) (hl:L.length<=1000000):Fn Tryz.prog 41 [.ag (AK g),Rr L, .v (.slice none 0 0)] fun r=>∃ M d,ZM g L (min L.length 6) M/\Gd (Ar g) d M.F/\Vo g 14 M/\r = .tp [.ag (Eo (AF M.a M.l)), .ag (DV d),E7 M.m]:=
 (TC g L 0 (fun _=> []) id (fun d h=>QP g d _ h) hg hl).subA ⟨fun _ _ h=>h,fun _ _ h=>h,Bg 4 _,tv⟩
theorem M4 (l:List Tx) (x:Tx) (z w:Int):∀ k,k<=l.length->E6 (l ++ [x]) z w k=E6 l z w k
 | 0,_=>rfl
 | k+1,hk=>by
  have e:(l ++ [x]).getD k tz=l.getD k tz:=by
   grind
  rw [E6,E6,e,M4 l x z w k (by omega)]
theorem Hs (l:List Tx) (x:Tx) (z w:Int):CB (l ++ [x]) z w=match Dp x.images z w x.images.length with
  | some i=>some (i,x.seq)
  | none=>CB l z w:=by
 unfold CB;rw [Ai,Ao,Bv,A0,E6,M4 l x z w _ (Ah _),show (l ++ [x]).getD l.length tz=x by simp];try rfl
theorem RB (x:Tx) (r:List Tx) (z w:Int):∀ k,E6 (x::r) z w (k+1)=match E6 r z w k with
  | some p=>some p
  | none=>match Dp x.images z w x.images.length with
   | some i=>some (i,x.seq)
   | none=>none
 | 0=>rfl
 | k+1=>by
  rw [E6,RB x r z w k,E6,show (x::r).getD (k+1) tz=r.getD k tz from rfl]
  grind
theorem Pm {x:Gt} {a s:Int} {p:List UInt8} (he:x.err=0) (hx:x.bytes=Bk a s p) (h:UW a s p):BY x a=some ⟨a,s,p⟩:=by
 obtain⟨h1,h2,h3,h4⟩:=GD h;unfold BY
 grind
theorem UO {a s:Int} {p:List UInt8} {e:Ent} (h:UW a s p) (h8:p.length=8) (h1:e.stamp=s) (h2:((C3 p:Nat):Int)=e.sum):D5 ⟨0,Bk a s p⟩ a e=some p:=by
 unfold D5;rw [Pm rfl rfl h]
 grind
theorem S_ {g:Geo} {a s:Int} {p:List UInt8} (h:UW a s p):BT g ⟨0,Bk a s p⟩ a s=Ce g p:=by
 unfold BT;rw [Pm rfl rfl h]
 grind
def NA (v:Int->List UInt8):Nat->List UInt8
 | 0=>zero8
 | k+1=>EP (NA v k) (v (k:Nat))
structure ZoneV (g:Geo) (a:An) (l:List Tx) (F:Int->List UInt8) (z:Int) (t:List Ent) (v:Int->List UInt8):Prop where
 tab:ER g (AF a l) F z=some t
 len:∀ w, -1<=w->w<g.d->(v w).length=8
 ent:∀ w, -1<=w->w<g.d->(t.getD (EJ g w).toNat ez).lost=false/\((C3 (v w):Nat):Int)=(t.getD (EJ g w).toNat ez).sum
 val:∀ w, -1<=w->w<g.d->match CB l z w with
  | some p=>p.1.bytes=v w/\(t.getD (EJ g w).toNat ez).stamp=p.2
  | none=>D5 ⟨0,F (Br g a z w)⟩ (Br g a z w) (t.getD (EJ g w).toNat ez)=some (v w)
 par:v (-1)=NA v g.d.toNat
def VolV (g:Geo) (a:An) (l:List Tx) (F:Int->List UInt8) (V:Int->Int->List UInt8):Prop:=∀ z,0<=z->z<g.z->∃ t,ZoneV g a l F z t (V z)
theorem ZoneV.one {g:Geo} {a:An} {l:List Tx} {F:Int->List UInt8} {z:Int} {t:List Ent} {v:Int->List UInt8} (h:ZoneV g a l F z t v) {w:Int} (hw : -1<=w/\w<g.d):KZ g (AF a l) F t z w=v w:=by
 have:=h.val w hw.1 hw.2;unfold KZ;show (match CB l z w with | some p=>p.1.bytes | none=>_)=_;cases hf:CB l z w with
 | some p=>rw [hf] at this;exact this.1
 | none=>
  rw [hf] at this;simp only at this |-
  show (D5 ⟨0,F (Br g a z w)⟩ (Br g a z w) (t.getD (EJ g w).toNat ez)).getD []=_
  grind
theorem Yv {n:Int} {F:Int->List UInt8} {q:Int} (h0:0<=q) (h1:q<n):KR n F q=F q:=if_pos ⟨by omega,h1⟩
theorem fold_zero:∀ k,NA (fun _=>zero8) k=zero8
 | 0=>rfl
 | k+1=>by rw [NA,fold_zero k];rfl
theorem Mc {g:Geo} (hg:Bq g=true):VolV g (Ee g).a (Ee g).l (Ee g).F fun _ _=>zero8:=by
 obtain⟨g1,g2,g3,g4,g5⟩:=Aq.1 hg;intro z h0 h1;obtain⟨k,rfl⟩:∃ k:Nat,z=(k:Nat):=⟨z.toNat,by omega⟩;have L:=EF hg;have K:=Hi hg;have C:=Xv hg;have J:((Ee g).a.homes.getD k ⟨[],0,0⟩)=⟨(List.range (g.d+1).toNat).map Int.ofNat,g.d+1,0⟩:=by
  show (List.replicate g.z.toNat _).getD k _=_
  grind
 have hF:∀ q,g.an+2*g.sl<=q->q<Ar g->(Ee g).F q=G9 g ⟨#[]⟩ q:=fun q hq hq2=>by
  show KR (Ar g) (Rw g _) q=_;rw [Yv (by omega) hq2];unfold Rw;rw [if_neg (by omega)];exact if_neg (by omega)
 have i:=G7 hg (z:=(k:Nat)) (k:=0) ⟨h0,h1⟩ (by omega);have j:ER g (AF (Ee g).a (Ee g).l) (Ee g).F (k:Nat)=some (ES g):=by
  have h:CN (Ee g).a (Ee g).l (k:Nat)=0:=by
   show ((Ee g).a.homes.getD ((k:Nat):Int).toNat ⟨[],0,0⟩).root=0
   grind
  show (match BT g ⟨0,(Ee g).F (AM g (k:Nat) 0)⟩ (AM g (k:Nat) 0) (CN (Ee g).a (Ee g).l (k:Nat)) with | some t=>some t | none=>_)=_;have e:=P_ (g:=g) (s:=⟨#[]⟩) (z:=k) (k:=0) (by omega) h1 (by omega);rw [h,hF _ i.1 i.2.2,show AM g ((k:Nat):Int) (0:Int)=AM g (k:Nat) ((0:Nat):Int) from rfl,e,S_ ⟨by show 0<=AM g (k:Nat) 0;omega,by show AM g (k:Nat) 0<=65535;omega,by omega,by omega,by rw [EQ];unfold ES;rw [BJ];omega⟩,Hf C]
 have f:∀ w, -1<=w->w<g.d->(ES g).getD (EJ g w).toNat ez=ent0:=fun w hw hw2=>by
  have I:0<=EJ g w/\EJ g w<=g.d:=by unfold EJ;split <;> omega
  unfold ES
  grind
 refine⟨ES g,j,fun _ _ _=>rfl,fun w hw hw2=>?_,fun w hw hw2=>?_,(fold_zero _).symm⟩
 ·rw [f w hw hw2];exact tA
 ·show D5 ⟨0,(Ee g).F (Br g (Ee g).a (k:Nat) w)⟩ (Br g (Ee g).a (k:Nat) w) ((ES g).getD (EJ g w).toNat ez)=some zero8;have I:0<=EJ g w/\EJ g w<=g.d:=by unfold EJ;split <;> omega
  have u:Br g (Ee g).a (k:Nat) w=Cm g (k:Nat) ((EJ g w).toNat:Nat):=by
   unfold Br
   grind
  have G:=EV hg (z:=(k:Nat)) (s:=((EJ g w).toNat:Nat)) ⟨h0,h1⟩ (by unfold Cv;omega);rw [u,hF _ (by omega) G.2,NC (by omega) (by omega) (by omega),f w hw hw2];exact UO ⟨by omega,by omega,by omega,by omega,by decide⟩ rfl rfl rfl
theorem M5 (l m:List Img) (z w:Int):∀ k,k<=l.length->Dp (l ++ m) z w k=Dp l z w k
 | 0,_=>rfl
 | k+1,hk=>by
  have e:(l ++ m).getD k iz=l.getD k iz:=by
   grind
  rw [Dp,Dp,e,M5 l m z w k (by omega)]
theorem Uu (l m:List Img) (z w:Int):∀ k,k<=m.length->Dp (l ++ m) z w (l.length+k)=match Dp m z w k with
  | some i=>some i
  | none=>Dp l z w l.length
 | 0,_=>M5 l m z w _ (Ah _)
 | k+1,hk=>by
  have e:(l ++ m).getD (l.length+k) iz=m.getD k iz:=by
   grind
  rw [<-CV,Dp,Dp,e];split
  ·rfl
  ·exact Uu l m z w k (by omega)
theorem Ja {l:List Img} {z w:Int} (h:∀ x∈l,x.zone≠z):∀ k,k<=l.length->Dp l z w k=none
 | 0,_=>rfl
 | k+1,hk=>by
  rw [Dp,if_neg (fun q=>h _ (A3 (by omega)) q.1),Ja h k (by omega)]
def Ue (z:Int) (ats:List Int) (bs:List (List UInt8)) (w:Int):Option Img:=(Eh ats bs w.toNat ats.length).map fun b=>⟨z,w,b⟩
theorem NH (z:Int) (ats:List Int) (bs:List (List UInt8)) (m:List Img) {w:Int} (hw:0<=w):∀ k,k<=ats.length->Dp (((List.range ats.length).map fun i=>(⟨z,ats.getD i 0,bs.getD i []⟩:Img)) ++ m) z w k=(Eh ats bs w.toNat k).map fun b=>⟨z,w,b⟩
 | 0,_=>rfl
 | k+1,hk=>by
  have e:(((List.range ats.length).map fun i=>(⟨z,ats.getD i 0,bs.getD i []⟩:Img)) ++ m).getD k iz=⟨z,ats.getD k 0,bs.getD k []⟩:=by
   grind
  rw [Dp,e,Eh,NH z ats bs m hw k (by omega)]
  grind
theorem Ht (z:Int) (t:List Ent) (par:List UInt8) (ats:List Int) (bs:List (List UInt8)) (ha:∀ a∈ats,0<=a/\a<255) (w:Int) (hw:w=255\/(-1<=w/\w<255)):Dp (B_ z t par ats bs) z w (B_ z t par ats bs).length=if w=255 then some ⟨z,255,CM t⟩ else if w = -1 then some ⟨z, -1,par⟩ else Ue z ats bs w:=by
 have hl:=DY z t par ats bs;have e1:(B_ z t par ats bs).getD (ats.length+1) iz=⟨z,255,CM t⟩:=by
  unfold B_
  grind
 have e0:(B_ z t par ats bs).getD ats.length iz=⟨z, -1,par⟩:=by
  unfold B_
  grind
 rw [hl,Dp,Dp,e1,e0];by_cases h1:w=255
 ·grind
 ·rw [if_neg (fun q=>h1 q.2.symm),if_neg h1];by_cases h2:w = -1
  ·grind
  ·rw [if_neg (fun q=>h2 q.2.symm),if_neg h2];exact NH z ats bs _ (by omega) _ (Ah _)
def ST (V:Int->Int->List UInt8) (x:Tx) (z w:Int):List UInt8:=match Dp x.images z w x.images.length with
 | some i=>i.bytes
 | none=>V z w
def aF (g:Geo) (a:An) (l:List Tx) (F:Int->List UInt8) (x:Tx) (z:Int):Prop:=
 (∀ w,Dp x.images z w x.images.length=none)
 \/∃ t ats bs,ER g (AF a l) F z=some t/\ats.length=bs.length/\(∀ b∈bs,b.length=8)/\∀ w,w=255\/(-1<=w/\w<g.d)->Dp x.images z w x.images.length=if w=255 then some ⟨z,255,CM (Bl g t (D0 g (AF a l) F t z) ats bs x.seq)⟩ else if w = -1 then some ⟨z, -1,D3 g t (D0 g (AF a l) F t z) ats bs g.d.toNat⟩ else Ue z ats bs w
theorem Z1 {g:Geo} (hg:Bq g=true) {s:Stt} {F:Int->List UInt8} {t:List Ent} {z:Int} {i:Nat} (hi:(i:Int)<g.d):(D0 g s F t z).getD i []=KZ g s F t z (i:Nat):=by
 unfold D0 La
 grind
theorem Xm {g:Geo} (hg:Bq g=true) {a:An} {l:List Tx} {x:Tx} (I:0<=x.seq/\x.seq<=4294967295) (hl:∀ t∈l,∀ y∈t.images,Bn g y=true) {F:Int->List UInt8} {V:Int->Int->List UInt8} (h:VolV g a l F V) (hx:∀ z,0<=z->z<g.z->aF g a l F x z):VolV g a (l ++ [x]) F (ST V x):=by
 obtain⟨g1,g2,g3,g4,g5⟩:=Aq.1 hg;intro z h0 h1;obtain⟨t,ht⟩:=h z h0 h1;rcases hx z h0 h1 with hn | ⟨t',ats,bs,e1,e2,e3,e4⟩
 ·have hv:∀ w,ST V x z w=V z w:=fun w=>by unfold ST;rw [hn w]
  have hf:∀ w,CB (l ++ [x]) z w=CB l z w:=fun w=>by rw [Hs,hn w]
  have L:ST V x z=V z:=funext hv;refine⟨t,?_,fun w q1 q2=>by rw [hv];exact ht.len w q1 q2,fun w q1 q2=>by rw [hv];exact ht.ent w q1 q2,fun w q1 q2=>?_,by rw [L];exact ht.par⟩
  ·have:=ht.tab;unfold ER CN at this |-
   show (match CB (l ++ [x]) z 255 with | some p=>_ | none=>match BT g _ _ (match CB (l ++ [x]) z 255 with | some p=>p.2 | none=>_) with | some t=>some t | none=>BT g _ _ (match CB (l ++ [x]) z 255 with | some p=>p.2 | none=>_))=_;rw [hf 255];exact this
  ·rw [hf w,hv];exact ht.val w q1 q2
 ·have et:t'=t:=by
   have:=ht.tab
   grind
  subst et;have u:=Jm ht.tab;have Z:=Gy u;have J:∀ i:Nat,(i:Int)<g.d->(D0 g (AF a l) F t' z).getD i []=V z (i:Nat):=fun i hi=>by
   rw [Z1 hg hi];exact ht.one ⟨by omega,hi⟩
  have f:∀ i:Nat,(i:Int)<g.d->(EJ g (i:Nat)).toNat=i:=fun i hi=>by unfold EJ;rw [if_neg (by omega)];omega
  have N:∀ i:Nat,(i:Int)<g.d->BO g t' (D0 g (AF a l) F t' z) i=V z (i:Nat):=fun i hi=>by
   have:=(ht.ent (i:Nat) (by omega) hi).1;rw [f i hi] at this;unfold BO;rw [this,if_neg (by decide),J i hi,if_pos (by rw [ht.len (i:Nat) (by omega) hi];decide)]
  have j:∀ i:Nat,(i:Int)<g.d->ST V x z (i:Nat)=Fk g t' (D0 g (AF a l) F t' z) ats bs i:=fun i hi=>by
   have e:=e4 (i:Nat) (.inr ⟨by omega,hi⟩);rw [if_neg (by omega),if_neg (by omega)] at e;unfold ST Fk;rw [e,Ue,Aa]
   grind
  have U:∀ i:Nat,(i:Int)<g.d->(Fk g t' (D0 g (AF a l) F t' z) ats bs i).length=8:=fun i hi=>by
   unfold Fk;cases hp:Eh ats bs i ats.length with
   | some b=>exact Kh e3 (by omega) _ b (Ah _) hp
   | none=>
    show (BO g t' _ i).length=8;rw [N i hi];exact ht.len (i:Nat) (by omega) hi
  have X:∀ k:Nat,(k:Int)<=g.d->D3 g t' (D0 g (AF a l) F t' z) ats bs k=NA (ST V x z) k:=by
   intro k;induction k with
   | zero=>intro _;rfl
   | succ k ih=>
    intro hk;rw [D3,if_neg (by rw [U k (by omega)];decide),ih (by omega),NA,j k (by omega)]
  have ha:ST V x z (-1)=D3 g t' (D0 g (AF a l) F t' z) ats bs g.d.toNat:=by
   have e:=e4 (-1) (.inr ⟨by omega,by omega⟩);rw [if_neg (by omega),if_pos rfl] at e;unfold ST;rw [e]
  have O:∀ b∈D0 g (AF a l) F t' z,b.length=0\/b.length=8:=fun b hb=>by
   unfold D0 La at hb;rcases A6.1 hb with q | q
   ·obtain⟨i,hi,rfl⟩:=AQ.1 q;exact GJ (s:=AF a l) hl (by have:=AS.1 hi;omega)
   ·rw [A2] at q;subst q;exact GJ (s:=AF a l) (w:= -1) hl (by decide)
  have hc:(D3 g t' (D0 g (AF a l) F t' z) ats bs g.d.toNat).length=8:=EB O e3 (by omega) _;have K:=En (g:=g) (t:=t') (had:=D0 g (AF a l) F t' z) (ats:=ats) (bs:=bs) hg u (stamp:=x.seq) I;have G:ER g (AF a (l ++ [x])) F z=some (Bl g t' (D0 g (AF a l) F t' z) ats bs x.seq):=by
   have e:=e4 255 (.inl rfl);rw [if_pos rfl] at e;unfold ER;show (match CB (l ++ [x]) z 255 with | some p=>Ce g p.1.bytes | none=>_)=_;rw [Hs,e];exact Hf K
  have C:∀ i:Nat,(i:Int)<g.d->(Bl g t' (D0 g (AF a l) F t' z) ats bs x.seq).getD i ez=match Eh ats bs i ats.length with
    | some b=>⟨x.seq,(C3 b:Nat),false⟩
    | none=>t'.getD i ez:=fun i hi=>by
   unfold Bl;rw [Ac,AH (by simp;omega),Bb,Bz (by omega)];show Ia g t' _ ats bs x.seq i=_;unfold Ia
   grind
  have W:(Bl g t' (D0 g (AF a l) F t' z) ats bs x.seq).getD (EJ g (-1)).toNat ez=⟨x.seq,(C3 (ST V x z (-1)):Nat),false⟩:=by
   rw [show (EJ g (-1)).toNat=g.d.toNat by unfold EJ;rw [if_pos rfl]];unfold Bl
   grind
  refine⟨_,G,fun w q1 q2=>?_,fun w q1 q2=>?_,fun w q1 q2=>?_,?_⟩
  ·by_cases hw:w = -1
   ·grind
   ·obtain⟨i,rfl⟩:∃ i:Nat,w=(i:Nat):=⟨w.toNat,by omega⟩
    grind
  ·by_cases hw:w = -1
   ·grind
   ·obtain⟨i,rfl⟩:∃ i:Nat,w=(i:Nat):=⟨w.toNat,by omega⟩;rw [f i q2,C i q2,j i q2];unfold Fk;cases hp:Eh ats bs i ats.length with
    | some b=>exact tA
    | none=>
     have:=ht.ent (i:Nat) q1 q2
     grind
  ·rw [Hs];have e:=e4 w (.inr ⟨q1,q2⟩);rw [if_neg (by omega)] at e;by_cases hw:w = -1
   ·grind
   ·obtain⟨i,rfl⟩:∃ i:Nat,w=(i:Nat):=⟨w.toNat,by omega⟩;rw [if_neg hw,Ue,Aa] at e;rw [e,f i q2,C i q2,j i q2];unfold Fk;cases hp:Eh ats bs i ats.length with
    | some b=>exact tA
    | none=>
     have:=ht.val (i:Nat) q1 q2
     grind
  ·grind
theorem ZE {g:Geo} (hg:Bq g=true) {a:An} {l:List Tx} {F:Int->List UInt8} {lba:Int} {b:List UInt8} (f:0<=lba/\lba<g.z*g.d) (hb:b.length=8) (ht:(ER g (AF a l) F (lba.tdiv g.d)).isSome=true):∀ z,0<=z->z<g.z->aF g a l F (Gk g a l F lba b) z:=by
 obtain⟨g1,g2,g3,g4,g5⟩:=Aq.1 hg;intro z h0 h1;obtain⟨t,ht⟩:=Cg.1 ht;have hm:0<=lba.tmod g.d/\lba.tmod g.d<g.d:=⟨Bw _ f.1,AZ _ (by omega)⟩;have ei:(Gk g a l F lba b).images=B_ (lba.tdiv g.d) (Bl g t (D0 g (AF a l) F t (lba.tdiv g.d)) [lba.tmod g.d] [b] (a.seq+(l.length:Int))) (D3 g t (D0 g (AF a l) F t (lba.tdiv g.d)) [lba.tmod g.d] [b] g.d.toNat) [lba.tmod g.d] [b]:=by
  show G0 g (AF a l) F _ lba b=_;unfold G0;rw [ht]
 by_cases hz:z=lba.tdiv g.d
 ·refine .inr ⟨t, [lba.tmod g.d], [b],by rw [hz];exact ht,rfl,fun x hx=>by rw [A2] at hx;rw [hx];exact hb,fun w hw=>?_⟩;rw [ei,hz];exact Ht _ _ _ _ _ (fun x hx=>by rw [A2] at hx;omega) w (by omega)
 ·refine .inl fun w=>?_
  rw [ei];refine Ja (fun y hy=>?_) _ (Ah _);have:y.zone=lba.tdiv g.d:=by
   unfold B_ at hy
   grind
  omega
theorem ZC {g:Geo} (hg:Bq g=true) {a:An} {l:List Tx} {F:Int->List UInt8} {lba:Int} {b:List UInt8} (f:0<=lba/\lba<g.z*g.d) (ht:(ER g (AF a l) F (lba.tdiv g.d)).isSome=true) (V:Int->Int->List UInt8) {z w:Int} (hw:0<=w/\w<g.d):ST V (Gk g a l F lba b) z w=if z=lba.tdiv g.d/\w=lba.tmod g.d then b else V z w:=by
 obtain⟨g1,g2,g3,g4,g5⟩:=Aq.1 hg;obtain⟨t,ht⟩:=Cg.1 ht;have hm:0<=lba.tmod g.d/\lba.tmod g.d<g.d:=⟨Bw _ f.1,AZ _ (by omega)⟩;have ei:(Gk g a l F lba b).images=B_ (lba.tdiv g.d) (Bl g t (D0 g (AF a l) F t (lba.tdiv g.d)) [lba.tmod g.d] [b] (a.seq+(l.length:Int))) (D3 g t (D0 g (AF a l) F t (lba.tdiv g.d)) [lba.tmod g.d] [b] g.d.toNat) [lba.tmod g.d] [b]:=by
  show G0 g (AF a l) F _ lba b=_;unfold G0;rw [ht]
 unfold ST;rw [ei];by_cases hz:z=lba.tdiv g.d
 ·rw [hz,Ht _ _ _ _ _ (fun x hx=>by rw [A2] at hx;omega) w (by omega),if_neg (by omega),if_neg (by omega)];have ep:Ue (lba.tdiv g.d) [lba.tmod g.d] [b] w=if lba.tmod g.d=((w.toNat:Nat):Int) then some ⟨lba.tdiv g.d,w,b⟩ else none:=by
   show ((if lba.tmod g.d=((w.toNat:Nat):Int) then some b else none:Option (List UInt8)).map fun b=>(⟨lba.tdiv g.d,w,b⟩:Img))=_
   grind
  grind
 ·rw [if_neg (fun q=>hz q.1),Ja (fun y hy=>?_) _ (Ah _)];have:y.zone=lba.tdiv g.d:=by
   unfold B_ at hy
   grind
  omega
theorem K7 {n:Int} {d:Dk} {F:Int->List UInt8} {l:List Wr} (h:Gd n d F) (hl:∀ w∈l,(0<=w.addr/\w.addr<n)/\w.bytes.length<=200) (hn:l.length<=2000):(d.putAll l).2.2=false/\Gd n (d.putAll l).1 (ML F l):=
 ⟨(h.putAll hl hn).2.2.1,(h.putAll hl hn).2.2.2⟩
theorem UH {g:Geo} (hg:Bq g=true) {a:An} {x:Tx} {r:List Tx} {d:Dk} {F:Int->List UInt8} (ha:Bj g a=true) (i:Bj g (Ch g a x)=true) (f:∀ y∈x.images,Bn g y=true) (hn:x.images.length<=30) (h:Gd (Ar g) d F):∃ d',Gd (Ar g) d' (Jp g a x F)/\FQ g (AF a (x::r)) x r d=(AF (Ch g a x) r,d',((x.images.length:Nat):Int),0):=by
 have h1:=K7 h (JE hg ha f (seq:=x.seq)) (by have:=GN (g:=g) (a:=a) (seq:=x.seq) x.images;omega);have h2:=K7 h1.2 (FI hg i) (by rw [CY];have:=(Aq.1 hg).2.2.2.2;omega);refine⟨_,h2.2,?_⟩;unfold FQ;show (match d.putAll (Cb g a x.seq x.images) with | (d1,_,true)=>_ | (d1,_,false)=>match d1.putAll (AD g (Ch g a x)) with | (d2,_,true)=>_ | (d2,_,false)=>(_,d2,_,(0:Int)):Stt × Dk × Int × Int)=_;generalize d.putAll (Cb g a x.seq x.images)=p at h1 h2 |-
 obtain⟨d1,n1,b1⟩:=p;simp only at h1 h2 |-
 rw [h1.1];simp only;generalize d1.putAll (AD g (Ch g a x))=q at h2 |-
 obtain⟨d2,n2,b2⟩:=q;simp only at h2 |-
 rw [h2.1];try rfl
theorem Vol.stepOk {g:Geo} {K:Int} {a:An} {x:Tx} {r:List Tx} {d:Dk} (hg:Bq g=true) (h:Vol g K d (AF a (x::r))) (hK:K<=4294967294):Bj g (Ch g a x)=true:=
 (h.home hg (x:=x) (r:=r) rfl hK h.gd).an
theorem UE (g:Geo) (a:An) (x:Tx) (r:List Tx) (d:Dk) (F:Int->List UInt8) (K:Int) (hg:Bq g=true) (hv:Vol g K d (AF a (x::r))) (hK:K<=4294967294) (h:Gd (Ar g) d F):Fn Tryz.prog 15 [.ag (AK g), .ag (DV d), .ag (Eo (AF a (x::r)))] fun v=>∃ d',Gd (Ar g) d' (Jp g a x F)/\v = .tp [.ag (Eo (AF (Ch g a x) r)), .ag (DV d'),iv (x.images.length:Nat),iv 0]:=by
 have j:=hv.sm hg;have ha:Bj g a=true:=hv.an;have f:C0 g (x::r) a.seq a.pos g.sl=true:=hv.ring;obtain⟨a1,a2,a3,a4⟩:=DD ha;have C:a.seq+(x::r).length<=K:=hv.seq;have G:a.gen<=K:=hv.gen;obtain⟨p1,p2,p3,p4⟩:=Dj f x (by simp);have u:=f;simp only [C0,Af,decide_eq_true_eq] at u;obtain⟨⟨r1,r2,r3,r4,r5,r6,r7⟩,r8⟩:=u;have z:x.images.length<=30:=(j.t.2 x (by show x∈x::r;simp)).1;have i:∀ y∈x.images,Bn g y=true:=fun y hy=>Av.1 p1 y hy
 obtain⟨d',q1,q2⟩:=UH (r:=r) hg ha (hv.stepOk hg hK) i z h;have hc:=WK g (AF a (x::r)) x r d F hg ha rfl j rfl (show a.gen<4294967295 by omega) (show a.seq<4294967295 by rw [Ao] at C;omega) r1 (by rw [r3];exact a3) r6 i rfl h.gc (hv.st hg) (by rw [q2];exact(hv.home hg (x:=x) (r:=r) rfl hK (d':=d') ⟨_,q1⟩).sm hg);rw [q2] at hc;simp only at hc;rw [if_neg (by decide),if_neg (by decide)] at hc;exact hc.mono fun v hv=>⟨d',q1,hv⟩
theorem Ys (g:Geo) (s:Stt) (d:Dk) (hs:s.txns=[]):ACalls Tryz.prog false 39 [.bp 0 0] (JU g s d) fun v H=>v = .tp [iv 0,iv 0]/\H=bwG g s d:=by
 have f:=odrop0_fn;rw [<-hs] at f;refine zT tys_ok Tryz.func39 rfl rfl (Ae rfl) ?_;conv=>whnf
 refine zY f ?_;exact⟨_, .tp [iv 0,iv 0],bwG g s d,fun _ _ h=>h,zI (zL (z6 1 3 (by decide) rfl rfl)) (s:= [0,1,2,3,5]) tA,rfl,rfl⟩
theorem UF (g:Geo) (s:Stt) (d:Dk) (hs:s.txns=[]) (f:StSm s) (h:DkOk d) (i:Jr g d s=true):Fn Tryz.prog 15 [.ag (AK g), .ag (DV d), .ag (Eo s)] fun v=>v = .tp [.ag (Eo s), .ag (DV d),iv 0,iv 0]:=by
 have c1:=OQ g d s h i f;have c2:=Ys g s d hs;have c3:=GS s f;have c4:=GU g s d h;refine zR Tryz.func15 rfl ?_;conv=>whnf
 refine zW c1 rfl ?_;rintro _ _ ⟨rfl,rfl⟩;conv=>whnf
 refine ze9 [5,6,7,8] c2 ?_;rintro _ _ ⟨rfl,rfl⟩;conv=>whnf
 refine zY c3 ?_;conv=>whnf
 refine ze9 [5,6,7,8,9] c4 ?_;rintro _ _ ⟨rfl,rfl⟩;exact⟨_,ri,rfl⟩
theorem XM {g:Geo} (hg:Bq g=true) {M:Md} (h:ZM g [⟨1,1⟩] 1 M):∃ lba b,(0<=lba/\lba<g.z*g.d)/\M.a=(Ee g).a/\M.l=[Gk g (Ee g).a [] (Ee g).F lba b]/\(Gk g (Ee g).a [] (Ee g).F lba b).images.length=3/\∃ y∈(Gk g (Ee g).a [] (Ee g).F lba b).images,y.what=255/\y.zone=lba.tdiv g.d:=by
 obtain⟨g1,g2,g3,g4,g5⟩:=Aq.1 hg;obtain⟨M1,M2,rfl,⟨lba,b,hl,hb,hc⟩,hM⟩:=h;rw [if_neg (by decide)] at hM;subst hM;have f:0<=lba.tdiv g.d/\lba.tdiv g.d<g.z:=by
  rw [AO hl.1];exact⟨C6 hl.1 (by omega),BZ (by omega) hl.2⟩
 obtain⟨t,ht⟩:=Mc hg _ f.1 f.2;have ht:=ht.tab;rcases hc with ⟨-, -,W, -,rfl⟩ | ⟨i, -⟩
 ·refine⟨lba,b,hl,rfl,rfl,?_,?_⟩
  ·show (G0 g (AF (Ee g).a []) (Ee g).F _ lba b).length=3;unfold G0;rw [show ER g (AF (Ee g).a []) (Ee g).F (lba.tdiv g.d)=some t from ht];exact DY _ _ _ _ _
  ·show ∃ y∈G0 g (AF (Ee g).a []) (Ee g).F _ lba b,_;unfold G0;rw [show ER g (AF (Ee g).a []) (Ee g).F (lba.tdiv g.d)=some t from ht];exact⟨⟨lba.tdiv g.d,255,CM (Bl g t (D0 g (AF (Ee g).a []) (Ee g).F t (lba.tdiv g.d)) [lba.tmod g.d] [b] ((Ee g).a.seq+(([]:List Tx).length:Int)))⟩,by unfold B_;simp,rfl,rfl⟩
 ·rcases i with hb | hb
  ·have:Cw (Ee g).l=0:=rfl;omega
  ·rw [show ER g (AF (Ee g).a (Ee g).l) (Ee g).F (lba.tdiv g.d)=some t from ht] at hb;cases hb
theorem wakes24_fn:Fn Tryz.prog 18 [] fun r=>r = .v (.bool true):=by
 have h1:=Sf 0 1 0 0 1;have hg:=Pi 0 1 0 0 1;have hz:(Js 0 1 0 0 1).z=1:=by decide
 have u:(Js 0 1 0 0 1).sl=14:=by decide
 generalize Js 0 1 0 0 1=g at h1 hg hz u;have hp:=TE g [⟨1,1⟩] hg (by decide);refine zR Tryz.func18 rfl ?_;conv=>whnf
 refine zY h1 ?_;conv=>whnf
 refine zO hp.go ?_;refine⟨rfl,?_⟩;conv=>whnf
 refine zV [.ag (AK g),Rr [⟨1,1⟩], .v (.slice none 0 0)] ⟨ri,AU (f:=bc) [⟨1,1⟩] rfl rfl,ri,tv⟩ ?_;refine zH hp rfl ?_;rintro _ ⟨M,d,W,hd,hv,rfl⟩;obtain⟨lba,b,hl,e1,e2,e3,y,hy,N,Z⟩:=XM hg W;obtain⟨a,l,F,m⟩:=M;simp only at e1 e2;obtain⟨x,hx⟩:∃ x,x=Gk g (Ee g).a [] (Ee g).F lba b:=⟨_,rfl⟩;have O:x.seq=1:=by rw [hx];try rfl
 have U:x.pos=0:=by rw [hx];show (0+Cw []).tmod g.sl=0;rw [u];try rfl
 have V:x.n=4:=by rw [hx];try rfl
 have ha:a.seq=1:=by rw [e1];try rfl
 rw [<-hx] at e2 e3 hy;clear hx;subst e2;have h:Vol g 14 d (AF a [x]):=hv.vol hd;have c1:=UE g a x [] d F 14 hg h (by decide) hd;conv=>whnf
 refine zH c1 rfl ?_;rintro _ ⟨d1,K,rfl⟩;have C:=h.stepOk hg (by decide);have j:Vol g 15 d1 (AF (Ch g a x) []):=h.home hg (x:=x) (r:= []) rfl (by decide) (d':=d1) ⟨_,K⟩;have X:Bj g a=true:=h.an;have i:=QN X (t:=x) (fun y hy=>Av.1 (Dj h.ring x (by show x∈ [x];simp)).1 y hy) hy N;have J:=(DD C).2.2.2;have I:(Ch g a x).seq=2:=by show a.seq+1=2;omega
 have G:(Ch g a x).pos=4:=by show (x.pos+x.n).tmod g.sl=4;rw [U,V,u];try rfl
 obtain⟨S,hS⟩:∃ S,S=Ch g a x:=⟨_,rfl⟩;rw [<-hS] at C j i J I G |-
 have c2:=UF g (AF S []) d1 rfl (j.sm hg) K.ok (j.st hg);conv=>whnf
 refine zY c2 ?_;conv=>whnf
 rw [show (((x.images.length:Nat):Int) == 3)=true by rw [e3];try rfl];conv=>whnf
 rw [show ((AF S []).a.seq == 2)=true by show (S.seq == 2)=true;rw [I];try rfl];conv=>whnf
 rw [show ((AF S []).a.pos == 4)=true by show (S.pos == 4)=true;rw [G];try rfl];conv=>whnf
 rw [show (((AF S []).a.homes.length:Int) == 1)=true by show ((S.homes.length:Int) == 1)=true;rw [J,hz];try rfl];conv=>whnf
 refine Ad ⟨by decide,by show (0:Int)<(S.homes.length:Nat);omega⟩ ?_;conv=>whnf
 have L:y.zone.toNat=0:=by
  have:lba.tdiv g.d<g.z:=by
   rw [AO hl.1];exact BZ (by have:=Aq.1 hg;omega) hl.2
  omega
 rw [L,O] at i;rw [show (((AF S []).a.homes.getD (Int.toNat 0) ⟨[],0,0⟩).root == 1)=true by show ((S.homes.getD 0 ⟨[],0,0⟩).root == 1)=true;rw [i];try rfl];exact⟨_,ri,rfl⟩
theorem Nk (l:List Tx) (hl:l.length<=1000000):Fn Tryz.prog 144 [CS l] fun r=>r = iv (Cw l):=by
 refine zR Tryz.func144 rfl ?_;conv=>whnf
 refine zU Nat (fun k=>([(0,CS l),(3,iv (FX l k)),(6,CS l),(7,iv (l.length:Nat)),(8,iv k)], [])) (fun k=>k<=l.length) (fun k=>l.length - k) 0 (Aj _)
  (zS (s:= []) tA) ?_
 intro k hk;conv=>whnf
 refine A5 (fun h6=>?_) (fun h6=>?_) <;> (repeat rw [Aa] at h6) <;> conv=>whnf
 ·have f:k<l.length:=by omega
  have hb:=E8 l k;have hs:FX l (k+1)=FX l k+Gu (l.getD (k:Int).toNat ⟨0,0,0, []⟩).n:=rfl;have hn:=L1 (l.getD (k:Int).toNat ⟨0,0,0, []⟩).n;repeat' (refine zZ ?_;conv=>whnf)
  refine⟨⟨by omega,by omega⟩,?_⟩;conv=>whnf
  by_cases h0:(l.getD (k:Int).toNat ⟨0,0,0, []⟩).n>=0
  ·rw [show decide ((l.getD (k:Int).toNat ⟨0,0,0, []⟩).n>=0)=true from decide_eq_true h0];conv=>whnf
   by_cases h1:(l.getD (k:Int).toNat ⟨0,0,0, []⟩).n<=30
   ·rw [show decide ((l.getD (k:Int).toNat ⟨0,0,0, []⟩).n<=30)=true from decide_eq_true h1];have hu:Gu (l.getD (k:Int).toNat ⟨0,0,0, []⟩).n=(l.getD (k:Int).toNat ⟨0,0,0, []⟩).n:=if_pos ⟨h0,h1⟩;conv=>whnf
    exact⟨k+1,f,by omega,zS (s:= []) ⟨⟨rfl,congrArg (fun n:Int=>AV.v (.int .i64 n)) (by rw [hs,hu,wi (by rw [<-hu];omega)]),rfl,rfl,AG (by omega),tv⟩,tv,rfl,rfl,rfl,rfl,rfl⟩⟩
   ·rw [show decide ((l.getD (k:Int).toNat ⟨0,0,0, []⟩).n<=30)=false from decide_eq_false h1];have hu:Gu (l.getD (k:Int).toNat ⟨0,0,0, []⟩).n=0:=if_neg fun h=>h1 h.2
    exact⟨k+1,f,by omega,zS (s:= []) ⟨⟨rfl,congrArg (fun n:Int=>AV.v (.int .i64 n)) (by rw [hs,hu,Int.add_zero]),rfl,rfl,AG (by omega),tv⟩,tv,rfl,rfl,rfl,rfl,rfl⟩⟩
  ·rw [show decide ((l.getD (k:Int).toNat ⟨0,0,0, []⟩).n>=0)=false from decide_eq_false h0];have hu:Gu (l.getD (k:Int).toNat ⟨0,0,0, []⟩).n=0:=if_neg fun h=>h0 h.1
   exact⟨k+1,f,by omega,zS (s:= []) ⟨⟨rfl,congrArg (fun n:Int=>AV.v (.int .i64 n)) (by rw [hs,hu,Int.add_zero]),rfl,rfl,AG (by omega),tv⟩,tv,rfl,rfl,rfl,rfl,rfl⟩⟩
 ·have ek:k=l.length:=by omega
  subst ek;exact⟨_,ri,rfl⟩
theorem Tt (g:Geo) (a:An) (l:List Tx) (hg:Bq g=true) (ha:Bj g a=true) (hr:C0 g l a.seq a.pos g.sl=true) (hl:l.length<=1000000) (hi:∀ t∈l,t.images.length<=1000000/\∀ x∈t.images,x.bytes.length<=100000) (f:a.label.size<=1000000) (hh:a.homes.length<=1000000) (hs:a.seq+(l.length:Int)<=4294967295):Fn Tryz.prog 73 [.ag (AK g), .ag (Ek a),CS l] fun r=>r = .tp [iv ((a.pos+Cw l).tmod g.sl),iv (a.seq+l.length),iv 0]:=by
 obtain⟨g1,g2,g3,g4,g5⟩:=Aq.1 hg;have hu:=Nk l hl;have hb:=E8 l l.length;have hc:=J2 g a l f hh hl hi;rw [hg,ha,hr] at hc;have hp:(1<=a.seq/\a.seq<=4294967295)/\(0<=a.pos/\a.pos<g.sl):=by
  simp only [Bj,A_,BB,B3,Af,decide_eq_true_eq,AE] at ha;omega
 have hw:IntKind.i64.wrap (a.seq+(l.length:Int))=a.seq+l.length:=wi (by omega);have ixA:g.sl≠0:=by omega
 refine zR Tryz.func73 rfl ?_;conv=>whnf
 refine zY hc ?_;conv=>whnf
 apply zP tys_ok mixed (.o [0,1,2,5,6,8,9,10,11,12,3,4,7,13,14] .fin) [6,7,16,17,18,19,20,21,22,23,24,25,26,27,28] (by kernel_rfl)
 ·conv=>whnf
  refine zY hu ?_;conv=>whnf
  try (refine Ad (by first | omega | exact ixA | exact ixB | (simp;done)) ?_;conv=>whnf)
  exact tA
 conv=>whnf
 rw [hw];rw [show decide (a.seq+(l.length:Int) > 4294967295)=false from decide_eq_false (by omega)];conv=>whnf
 exact⟨_,ri,by rw [wi (n:=a.pos+Cw l) (by unfold Cw;omega)]⟩
theorem SR (b:List UInt8):Fn Tryz.prog 306 [bA b] fun r=>r = .v (.bool (((b.length:Nat):Int) != 8)):=by
 refine zR Tryz.func306 rfl ?_;exact⟨_,ri,rfl⟩
theorem YU (l:List (List UInt8))  (hl:l.length<=1000000):Fn Tryz.prog 316 [E7 l, .v (.func (.func 306) #[] #[])] fun r=>r = iv (UX (fun b=>(((b.length:Nat):Int) != 8)) l):=by
 refine zR Tryz.func316 rfl ?_;conv=>whnf
 refine zM Nat (fun k=>([(0,E7 l),(1, .v (.func (.func 306) #[] #[])),(7,iv l.length),(8,iv k)], [])) (fun k=>k<=l.length/\(l.take k).any (fun b=>(((b.length:Nat):Int) != 8))=false) (fun k=>l.length - k) 0 ⟨Aj _,by simp⟩ ⟨[],tv,tA,tv,rfl,rfl,rfl⟩ ?_;rintro k ⟨hk,hI⟩;conv=>whnf
 refine Am (fun h2=>?_) (fun h2=>?_) <;> simp at h2 <;> conv=>whnf
 ·refine⟨by first | omega | (refine⟨rfl,?_,?_⟩ <;> first | omega | (simp only [Ab];done) | (simp only [Ab];omega)) | (simp only [Ab];omega),?_⟩;conv=>whnf
  refine zY (SR (l.getD k [])) ?_;conv=>whnf
  refine Am (fun h3=>?_) (fun h3=>?_) <;> conv=>whnf
  ·exact⟨_,ri,by rw [I1 (d:= []) h2 hI (by first | exact h3 | (rw [Aa] at h3;exact h3) | simpa using h3)]⟩
  ·refine⟨k+1,⟨by omega,Ej (d:= []) h2 hI (by first | exact h3 | (rw [Aa] at h3;exact h3) | simpa using h3)⟩,by omega, [],tv,⟨rfl,rfl,rfl,AG (by omega),tv⟩,tv,rfl,rfl,rfl⟩
 ·exact⟨_,ri,by rw [A4 h2] at hI;rw [GM hI]⟩
theorem YV (l:List (List UInt8))  (hl:l.length<=1000000):Fn Tryz.prog 244 [E7 l, .v (.func (.func 306) #[] #[])] fun r=>r = .v (.bool (l.any (fun b=>(((b.length:Nat):Int) != 8)))):=by
 refine zR Tryz.func244 rfl ?_;conv=>whnf
 refine zY (YU l  hl) ?_;exact⟨_,ri,by rw [Kp]⟩

theorem J_ (l:List (List UInt8)) (hl:l.length<=1000000) (h:∀ b∈l,b.length=8):Fn Tryz.prog 228 [E7 l] fun r=>r = .v (.bool true):=by
 have hc:=YV l hl;have e:(l.any fun b=>(((b.length:Nat):Int) != 8))=false:=by
  rw [List.any_eq_false];intro b hb;rw [h b hb];decide
 rw [e] at hc;refine zR Tryz.func228 rfl ?_;conv=>whnf
 refine zY hc ?_;exact⟨_,ri,rfl⟩
theorem SO (b:List UInt8):Fn Tryz.prog 243 [bA b] fun r=>r = .v (.bool ((((b.length:Nat):Int) != 0)&&(((b.length:Nat):Int) != 8))):=by
 refine zR Tryz.func243 rfl ?_;conv=>whnf
 by_cases h:((b.length:Nat):Int)=0
 ·rw [show (((b.length:Nat):Int) != 0)=false from bne_eq_false_iff_eq.2 h];exact⟨_,ri,rfl⟩
 ·rw [show (((b.length:Nat):Int) != 0)=true from bne_iff_ne.2 h];exact⟨_,ri,by rw [BW]⟩
theorem YJ (l:List (List UInt8))  (hl:l.length<=1000000):Fn Tryz.prog 316 [E7 l, .v (.func (.func 243) #[] #[])] fun r=>r = iv (UX (fun b=>((((b.length:Nat):Int) != 0)&&(((b.length:Nat):Int) != 8))) l):=by
 refine zR Tryz.func316 rfl ?_;conv=>whnf
 refine zM Nat (fun k=>([(0,E7 l),(1, .v (.func (.func 243) #[] #[])),(7,iv l.length),(8,iv k)], [])) (fun k=>k<=l.length/\(l.take k).any (fun b=>((((b.length:Nat):Int) != 0)&&(((b.length:Nat):Int) != 8)))=false) (fun k=>l.length - k) 0 ⟨Aj _,by simp⟩ ⟨[],tv,tA,tv,rfl,rfl,rfl⟩ ?_;rintro k ⟨hk,hI⟩;conv=>whnf
 refine Am (fun h2=>?_) (fun h2=>?_) <;> simp at h2 <;> conv=>whnf
 ·refine⟨by first | omega | (refine⟨rfl,?_,?_⟩ <;> first | omega | (simp only [Ab];done) | (simp only [Ab];omega)) | (simp only [Ab];omega),?_⟩;conv=>whnf
  refine zY (SO (l.getD k [])) ?_;conv=>whnf
  refine Am (fun h3=>?_) (fun h3=>?_) <;> conv=>whnf
  ·exact⟨_,ri,by rw [I1 (d:= []) h2 hI (by first | exact h3 | (rw [Aa] at h3;exact h3) | simpa using h3)]⟩
  ·refine⟨k+1,⟨by omega,Ej (d:= []) h2 hI (by first | exact h3 | (rw [Aa] at h3;exact h3) | simpa using h3)⟩,by omega, [],tv,⟨rfl,rfl,rfl,AG (by omega),tv⟩,tv,rfl,rfl,rfl⟩
 ·exact⟨_,ri,by rw [A4 h2] at hI;rw [GM hI]⟩
theorem YK (l:List (List UInt8))  (hl:l.length<=1000000):Fn Tryz.prog 244 [E7 l, .v (.func (.func 243) #[] #[])] fun r=>r = .v (.bool (l.any (fun b=>((((b.length:Nat):Int) != 0)&&(((b.length:Nat):Int) != 8))))):=by
 refine zR Tryz.func244 rfl ?_;conv=>whnf
 refine zY (YJ l  hl) ?_;exact⟨_,ri,by rw [Kp]⟩

@[reducible] def zlH (g:Geo) (t:List Ent) (had:List (List UInt8)):List AB:= [.box 348 [iv g.d,Bm t,E7 had]]
def Gz (L b:List UInt8) (k:Nat):List UInt8:=EP (L.take k) (b.take k) ++ L.drop k
theorem Ub {L b:List UInt8} (h:L.length<=b.length) (k:Nat):(Gz L b k).length=L.length:=by
 simp only [Gz,Ai,FU,As,Ak];omega
theorem Uc {L b:List UInt8} {k:Nat} (h:k<L.length) (h2:L.length<=b.length):(Gz L b k).getD k 0=L.getD k 0:=by
 have e:(EP (L.take k) (b.take k)).length=k:=by rw [FU,As,As];omega
 rw [Gz,Ac,AN (by omega),e,CH,BC,CU,<-Ac]
theorem Ua {L b:List UInt8} {k:Nat} (h:k<L.length) (h2:L.length<=b.length):(Gz L b k).set k (L.getD k 0 ^^^ b.getD k 0)=Gz L b (k+1):=by
 have e:(EP (L.take k) (b.take k)).length=k:=by rw [FU,As,As];omega
 have e2:EP (L.take (k+1)) (b.take (k+1))=EP (L.take k) (b.take k) ++ [L.getD k 0 ^^^ b.getD k 0]:=by
  rw [Ba,Ba,Ag h,Ag (by omega),EP,List.zipWith_append (by rw [As,As];omega),Ac,Ac,Ag h,Ag (show k<b.length by omega)];try rfl
 rw [Gz,Gz,Dy _ _ (by omega),e,CH,Bt h,e2,A7];try rfl
theorem Ud {L b:List UInt8} (h:L.length=b.length):Gz L b L.length=EP L b:=by
 rw [Gz,List.drop_length,AR,Aw,h,Aw]
theorem SM {l:List UInt8} {k:Nat} (h:k<l.length):(l.map Ef).getD k []=Ef (l.getD k 0):=AY h
theorem U_ (L b:List UInt8) (h:L.length=b.length) (hl:L.length<=1000000):ACalls Tryz.prog false 309 [.ow 0 L.length,bA b] [.row 5 1 (L.map Ef)] fun r H=>r = .tp []/\H=[.row 5 1 ((EP L b).map Ef)]:=by
 refine zT tys_ok Tryz.func309 rfl rfl (Ae rfl) ?_;conv=>whnf
 refine zU Nat (fun k=>([(0, .ow 0 L.length),(6,bA b),(7,iv (b.length:Nat)),(8,iv (k:Nat))], [.row 5 1 ((Gz L b k).map Ef)])) (fun k=>k<=b.length) (fun k=>b.length - k) 0 (Aj _)
  (zS (s:= [0]) tA) ?_
 intro k hk;conv=>whnf
 refine A5 (fun h6=>?_) (fun h6=>?_) <;> (repeat rw [Aa] at h6) <;> conv=>whnf
 ·have i:k<b.length:=by omega
  have f:=Ub (L:=L) (b:=b) (by omega) k;repeat' (refine zZ ?_;conv=>whnf)
  refine⟨⟨by omega,by omega⟩,?_⟩;conv=>whnf
  repeat' (refine zZ ?_;conv=>whnf)
  refine⟨⟨by omega,by omega⟩,?_⟩;refine⟨⟨rfl,by rw [Ab,f],by omega⟩,?_⟩;rw [Aa,SM (by omega),Uc (by omega) (by omega)];refine⟨⟨by omega,by omega⟩,?_⟩;refine⟨⟨rfl,by rw [Ab,f],by omega⟩,?_⟩;rw [Aa,SM (by omega)];refine⟨k+1,i,by omega,zS (s:= [0]) ⟨⟨rfl,rfl,rfl,AG (by omega),tv⟩,⟨?_,tv⟩,rfl,rfl,rfl,rfl,rfl⟩⟩;have e:((Gz L b k).map Ef).set k (Ef (L.getD k 0 ^^^ b.getD k 0))=(Gz L b (k+1)).map Ef:=by rw [<-BI,Ua (by omega) (by omega)]
  have ex:=QH (L.getD k 0) (b.getD k 0).toNat (b.getD k 0).toNat_lt;rw [UInt8.ofNat_toNat] at ex;rw [<-e];show some (AB.row _ _ _)=some (AB.row _ _ _);rw [show Ef (L.getD k 0 ^^^ b.getD k 0)=[AV.v (.int .u8 ((L.getD k 0 ^^^ b.getD k 0).toNat:Nat))] from rfl,<-ex]
 ·have ek:k=b.length:=by omega
  subst ek;exact⟨_, .tp [], [.row 5 1 ((EP L b).map Ef)],fun _ _ h=>h,zS (s:= [0]) ⟨tA,⟨congrArg (fun z=>some (AB.row 5 1 (List.map Ef z))) (show Gz L b b.length=EP L b by rw [<-h];exact Ud h),tv⟩,rfl,rfl,rfl,rfl,rfl⟩,rfl,rfl⟩
theorem SQ (l:List (List UInt8)) (hl:l.length<=1000000) (h:∀ b∈l,b.length=8):Fn Tryz.prog 308 [iv 8,E7 l] fun r=>r = .v (.bool true):=by
 refine zR Tryz.func308 rfl ?_;conv=>whnf
 refine zU Nat (fun k=>([(0,iv 8),(7,E7 l),(8,iv (l.length:Nat)),(9,iv (k:Nat))], [])) (fun k=>k<=l.length) (fun k=>l.length - k) 0 (Aj _)
  (zS (s:= []) tA) ?_
 intro k hk;conv=>whnf
 refine A5 (fun h6=>?_) (fun h6=>?_) <;> (repeat rw [Aa] at h6) <;> conv=>whnf
 ·have f:k<l.length:=by omega
  have h8:=h _ (A3 (d:=([]:List UInt8)) f);repeat' (refine zZ ?_;conv=>whnf)
  refine⟨⟨by omega,by omega⟩,?_⟩;conv=>whnf
  repeat' (refine zZ ?_;conv=>whnf)
  rw [show (((l.getD (k:Int).toNat []).length:Int) != 8)=false from bne_eq_false_iff_eq.2 (by rw [Aa,h8];try rfl)];exact⟨k+1,f,by omega,zS (s:= []) ⟨⟨rfl,rfl,rfl,AG (by omega),tv⟩,tv,rfl,rfl,rfl,rfl,rfl⟩⟩
 ·exact⟨_,ri,rfl⟩
def Gn (l:List (List UInt8)):List UInt8:=l.foldl EP zero8
theorem xorL_len:∀ (l:List (List UInt8)) (a:List UInt8),a.length=8->(∀ b∈l,b.length=8)->(l.foldl EP a).length=8
 | [],_,h,_=>h
 | b::l,a,h,hl=>xorL_len l _ (by rw [FU,h,hl b (by simp)];rfl) fun c hc=>hl c (by simp [hc])
theorem NY (l:List (List UInt8)) (hl:l.length<=1000000) (h:∀ b∈l,b.length=8):Fn Tryz.prog 231 [E7 l,iv 8] fun r=>r = .tp [bA (Gn l),iv 0]:=by
 have ha:=SQ l hl h;refine zR Tryz.func231 rfl ?_;conv=>whnf
 refine zY ha ?_;refine⟨⟨rfl,by decide,by decide⟩,?_⟩;conv=>whnf
 refine zU Nat (fun k=>([(0,E7 l),(6, .ow 0 8),(23,E7 l),(24,iv (l.length:Nat)),(25,iv (k:Nat))], [.row 5 1 ((Gn (l.take k)).map Ef)])) (fun k=>k<=l.length) (fun k=>l.length - k) 0 (Aj _)
  (zS (s:= [0]) tA) ?_
 intro k hk;conv=>whnf
 refine A5 (fun h6=>?_) (fun h6=>?_) <;> (repeat rw [Aa] at h6) <;> conv=>whnf
 ·have f:k<l.length:=by omega
  have h8:=h _ (A3 (d:=([]:List UInt8)) f);have hx:(Gn (l.take k)).length=8:=xorL_len _ _ rfl fun b hb=>h b (Cn hb)
  have hi:=U_ (Gn (l.take k)) (l.getD k []) (by omega) (by omega);rw [hx] at hi;have hs:EP (Gn (l.take k)) (l.getD k [])=Gn (l.take (k+1)):=by
   unfold Gn;rw [Ba,BR,Ac,Ag f];try rfl
  rw [hs] at hi;repeat' (refine zZ ?_;conv=>whnf)
  refine⟨⟨by omega,by omega⟩,?_⟩;conv=>whnf
  rw [Aa];repeat' (refine zZ ?_;conv=>whnf)
  refine hi.mono ?_;rintro _ _ ⟨rfl,rfl⟩;exact⟨k+1,f,by omega,zS (s:= [0]) ⟨⟨rfl,rfl,rfl,rfl,AG (by omega),tv⟩,tA,rfl,rfl,rfl,rfl,rfl⟩⟩
 ·have ek:k=l.length:=by omega
  subst ek;have hx:(Gn l).length=8:=xorL_len _ _ rfl h;rw [Aw];refine⟨(by rw [Ab,hx]),?_⟩;exact⟨.tp [bA (Gn l),iv 0],BN (m:= [bA (Gn l),iv 0]) ⟨F8 hx.symm rfl,ri,tv⟩,rfl⟩
theorem Qg (stamp:Int) (b:List UInt8) (hs:0<=stamp/\stamp<=4294967295) (hb:b.length=8):Fn Tryz.prog 230 [iv stamp,bA b] fun r=>r = .tp [.ag (Cf ⟨stamp,(C3 b:Nat),false⟩),iv 0]:=by
 have h1:=Jo b;refine zR Tryz.func230 rfl ?_;conv=>whnf
 rw [show decide (stamp<0)=false from decide_eq_false (by omega)];conv=>whnf
 rw [show decide (stamp > 4294967295)=false from decide_eq_false (by omega)];conv=>whnf
 rw [show ((b.length:Int) != 8)=false from bne_eq_false_iff_eq.2 (by rw [hb];try rfl)];conv=>whnf
 refine zY h1 ?_;exact⟨_,ri,rfl⟩
theorem WB (l:List Ent) (hl:l.length<=1000000000):ACalls Tryz.prog false 307 [Bm l] [] fun r H=>r = .ow 0 l.length/\H=[.row 189 3 (l.map Cf)]:=by
 refine zx tys_ok Tryz.func307 rfl rfl (by show 1<=_;decide) ?_;refine Ad (fun h=>?_) ?_
 ·conv=>whnf
  have h0:=AT.1 h;subst h0;exact⟨_, .ow 0 0, [.row 189 3 []],fun _ _ h=>h,zE ⟨[(0,189,3)],tA,tA,tA,rfl,rfl,rfl⟩,rfl,rfl⟩
 ·refine⟨⟨rfl,by omega⟩,?_⟩;exact⟨.ow 0 l.length, .ow 0 l.length, [.row 189 3 (l.map Cf)],fun _ _ h=>by rwa [A0] at h,zE ⟨[],tv,tA,⟨(congrArg (AB.row _ _) (Hh (d:=(⟨0,0,false⟩:Ent)) Cf l)).symm,tv⟩,rfl,rfl,rfl⟩,rfl,rfl⟩
theorem SX (t:List Ent) (ht:t.length<=1000000):ACalls Tryz.prog false 229 [.ag [Bm t]] [] fun r H=>r = .ag [.ow 0 t.length]/\H=[.row 189 3 (t.map Cf)]:=by
 have h1:=WB t (by omega);refine zT tys_ok Tryz.func229 rfl rfl (Ae rfl) ?_;conv=>whnf
 refine zW h1 rfl ?_;rintro _ _ ⟨rfl,rfl⟩;exact⟨.ag [.ow 2 t.length], .ag [.ow 0 t.length], [.row 189 3 (t.map Cf)],fun _ _ h=>h,zS (s:= [2]) tA,rfl,rfl⟩
def ZH (b:Bool):List AV:= [.v (.bool b)]
def aA (l:List Bool):AV:= .sl 1 l.length fun i=>ZH (l.getD i false)
theorem ZG {L:List Bool} {n:Nat} {es:List (List AV)} (hn:n=L.length) (he:es=L.map ZH) (c:Ctx) (v:Value) (h:Rd (.sl 1 n fun i=>es.getD i []) c v):Rd (aA L) c v:=AU (f:=ZH) L hn he c v h
theorem Cs {l:List Nat} {m:Nat} (h:(l.all fun z=>Nat.ble (z+1) m)=true):∀ z∈l,z<m:=fun z hz=>Ae (Av.1 h z hz)
section
variable {g:Geo} {t:List Ent} {had:List (List UInt8)} {A:Int} {b:List UInt8} {stamp:Int}
end

end
section
open Go.RowKit Go.Shelf
attribute [local go_sem] Oper.semAt_some

theorem WW (F:Fence) (n:Nat) (h7:F.fn 314) (hro:F.round=none) (hn:1<=n) (l Bs n₀ b off len cap:Nat) (X0 X1 X2 X3:Nat->Value) (hlen:len<=1000000000) (hb:b<n₀) (hBn:Bs<n₀) (J Jx:List Nat->World->Prop)
  (hY:∀ pre x W,J pre W->pre.length<len->x<len->YieldAt F (n - 1) Tryz.prog l #[.int .i64 (x:Nat), .agg #[X0 x,X1 x,X2 x,X3 x]] W fun e W'=>
   (e = .returned (.bool true)/\J (pre ++ [x]) W'/\Below n₀ W W')\/(e = .returned (.bool false)/\Jx (pre ++ [x]) W'))
  (W:World) (hBs:W.cell? ⟨Bs,0,none⟩=some (.slice (some ⟨b,off,none⟩) len cap)) (hc0:∀ j,j<len->W.cell? ⟨b,off+j*4,none⟩=some (X0 j)) (hc1:∀ j,j<len->W.cell? ⟨b,off+j*4+1,none⟩=some (X1 j)) (hc2:∀ j,j<len->W.cell? ⟨b,off+j*4+2,none⟩=some (X2 j)) (hc3:∀ j,j<len->W.cell? ⟨b,off+j*4+3,none⟩=some (X3 j)) (h0:J [] W) :
  CallsIn F n Tryz.prog 314 #[.func (.yield l) #[] #[], .pointer (some ⟨Bs,0,none⟩)] W fun e W'=>(∃ v,e = .returned v)/\
   ((∃ ys,ys=Dq len len/\J ys W')\/(∃ pre,(∃ k,k<=len/\pre=Dq len k)/\Jx pre W')):=by
 have Hc0:=Lib.hid hc0;have Hc1:=Lib.hid hc1;have Hc2:=Lib.hid hc2;have Hc3:=Lib.hid hc3;clear hc0 hc1 hc2 hc3;refine callsIn_of_wp Tryz.func314 rfl h7 ?_ hro;simp only [Tryz.ntmps314,BP,Ao,Bv,Nat.reduceAdd,Nat.reduceSub,Dd,Dc,DE,Do,B7,B6]
 gi_wp2
 gi_loopw [3] (fun i wr=>∃ k:Nat,k<=len/\i = .int .i64 ((len:Int) - 1 - k)/\J (Dq len k) wr/\Below n₀ W wr)
  (fun i _=>(intOf i+1).toNat)
 case atStart=>exact⟨0,Aj _,by simp,h0,Below.refl _ _⟩
 case round=>
  obtain⟨k,hk,rfl,hJs,hnx⟩:=hrel;by_cases hlt:k<len
  ·obtain⟨m,hmk⟩:∃ m,len=k+1+m:=⟨len - (k+1),by omega⟩;rw [show (len:Int) - 1 - k=(m:Int) by omega];obtain⟨fn,tmps,assign,body,hy,hR⟩:=hY _ m wr hJs (by rw [Hw];exact hlt) (by omega);have e0:=(hnx.cell (p:=⟨b,off+m*4,none⟩) hb).trans (Hc0.out m (by omega));have e1:=(hnx.cell (p:=⟨b,off+m*4+1,none⟩) hb).trans (Hc1.out m (by omega));have e2:=(hnx.cell (p:=⟨b,off+m*4+2,none⟩) hb).trans (Hc2.out m (by omega));have e3:=(hnx.cell (p:=⟨b,off+m*4+3,none⟩) hb).trans (Hc3.out m (by omega));have eb:=(hnx.cell (p:=⟨Bs,0,none⟩) hBn).trans hBs;have hm:(m:Int)<(len:Int):=by omega
   have Hm:=Lib.hid hmk;clear hmk
   gi_wp2
   refine hR.mono ?_;rintro e W3 (⟨rfl,hJ3,hk3⟩ | ⟨rfl,hJx3⟩)
   ·gi_wp2
    go_roundw
    case rel=>exact⟨k+1,by omega,congrArg (Value.int .i64) (by have:=Hm.out;omega),by rw [F5,show len - 1 - k=m by have:=Hm.out;omega];exact hJ3,hnx.trans hk3⟩
    case measure=>simp [intOf]
   ·gi_wp2
    refine bodyPost_ret (results_none rfl _ _ _) rfl ?_;exact⟨⟨_,rfl⟩, .inr ⟨_,⟨k+1,by omega,by rw [F5,show len - 1 - k=m by have:=Hm.out;omega]⟩,hJx3⟩⟩
  ·obtain rfl:k=len:=by omega
   rw [show ((k:Nat):Int) - 1 - k = -1 by omega]
   gi_wp2
   go_end0
   exact⟨⟨_,rfl⟩, .inl ⟨_,rfl,hJs⟩⟩

theorem WX (F:Fence) (n:Nat) (h7:F.fn 314) (hro:F.round=none) (l Bs:Nat) (a:Option Addr) (cap:Nat) (J:List Nat->World->Prop) (W:World) (hBs:W.cell? ⟨Bs,0,none⟩=some (.slice a 0 cap)) (h0:J [] W) :
  CallsIn F n Tryz.prog 314 #[.func (.yield l) #[] #[], .pointer (some ⟨Bs,0,none⟩)] W fun e W'=>(∃ v,e = .returned v)/\J [] W':=by
 refine callsIn_of_wp Tryz.func314 rfl h7 ?_ hro;simp only [Tryz.ntmps314,BP,Ao,Bv,Nat.reduceAdd,Nat.reduceSub,Dd,Dc,DE,Do,B7,B6]
 gi_wp2
 gi_loopw [3] (fun i wr=>i = .int .i64 (-1)/\J [] wr) (fun _ _=>0)
 case atStart=>exact⟨rfl,h0⟩
 case round=>
  obtain⟨rfl,hJs⟩:=hrel
  gi_wp2
  go_end0
  exact⟨⟨_,rfl⟩,hJs⟩

theorem RN (F:Fence) (n:Nat) (h7:F.fn 314) (f:F.round=none) (hn:1<=n) (Bs n₀:Nat) (a:Option Addr) (len cap:Nat) (X0 X1 X2 X3:Nat->Value) (z:len<=1000000000) (w:World) (C:Bs<n₀) (G:n₀<=w.heap.size)
  (hc:w.cell? ⟨Bs,0,none⟩=some (.slice a len cap)) (hI:0<len->∃ b off,a=some ⟨b,off,none⟩/\b<n₀/\∀ j,j<len->w.cell? ⟨b,off+j*4,none⟩=some (X0 j)/\w.cell? ⟨b,off+j*4+1,none⟩=some (X1 j)/\w.cell? ⟨b,off+j*4+2,none⟩=some (X2 j)/\w.cell? ⟨b,off+j*4+3,none⟩=some (X3 j)) :
  SeqStopsK F n Tryz.prog 314 #[.pointer (some ⟨Bs,0,none⟩)] (fun x:Fin len=> #[Value.int .i64 x.val, .agg #[X0 x,X1 x,X2 x,X3 x]]) (Below n₀) (fun ys=>ys.map Fin.val=Dq len len) (fun pre=>∃ k,k<=len/\pre.map Fin.val=Dq len k) len w:=fun l J Jx W hW _ _ hY h0=>by
 have u:=(hW.cell (p:=⟨Bs,0,none⟩) (by show Bs<_;omega)).trans hc;rcases Dv len with rfl | hp
 ·exact(WX F n h7 f l Bs a cap (fun _ W=>J [] W) W u h0).mono fun e W' ⟨he,hj⟩=>⟨he, .inl ⟨[],rfl,hj⟩⟩
 ·obtain⟨b,off,rfl,hb,hj⟩:=hI hp;refine(WW F n h7 f hn l Bs n₀ b off len cap X0 X1 X2 X3 z hb C (fun pre W=>∃ q:List (Fin len),q.map Fin.val=pre/\J q W) (fun pre W=>∃ q:List (Fin len),q.map Fin.val=pre/\Jx q W) ?_ W u (fun j h=>(hW.cell (p:=⟨b,off+j*4,none⟩) (by show b<_;omega)).trans (hj j h).1) (fun j h=>(hW.cell (p:=⟨b,off+j*4+1,none⟩) (by show b<_;omega)).trans (hj j h).2.1) (fun j h=>(hW.cell (p:=⟨b,off+j*4+2,none⟩) (by show b<_;omega)).trans (hj j h).2.2.1) (fun j h=>(hW.cell (p:=⟨b,off+j*4+3,none⟩) (by show b<_;omega)).trans (hj j h).2.2.2) ⟨[],rfl,h0⟩).mono ?_
  ·rintro pre x W1 ⟨q,hq,hJ⟩ i hx;obtain⟨fn,tmps,assign,body,hy,hR⟩:=hY q ⟨x,hx⟩ W1 hJ (by rw [<-hq,Ab] at i;exact i);refine⟨fn,tmps,assign,body,hy,hR.mono ?_⟩;rintro e W' (⟨he,h1,h2⟩ | ⟨he,h1⟩)
   ·exact .inl ⟨he,⟨_,by simp [hq],h1⟩,h2⟩
   ·exact .inr ⟨he,⟨_,by simp [hq],h1⟩⟩
  ·rintro e W' ⟨he,⟨ys,rfl,q,hq,hJ⟩ | ⟨pre,⟨k,hk,rfl⟩,q,hq,hJ⟩⟩
   ·exact⟨he, .inl ⟨q,hq,hJ⟩⟩
   ·exact⟨he, .inr ⟨q,⟨k,hk,hq⟩,hJ⟩⟩

theorem bktx_is:IsBack Tryz.prog 314 4:=by
 refine⟨enters_of Tryz.func314 (by kernel_rfl) rfl,fun m hm B a len cap X w hlen hc hl hI=>?_⟩;have e:(fun x:Fin len=>(#[Value.int .i64 x.val, .agg (X x.val).toArray]:Array Value))=fun x:Fin len=> #[Value.int .i64 x.val, .agg #[(X x.val).getD 0 undef,(X x.val).getD 1 undef,(X x.val).getD 2 undef,(X x.val).getD 3 undef]]:=by
  funext x;have:=hl x.val;match h:X x.val with
  | [u0,u1,u2,u3]=>rfl
  | []=>rw [h] at this;simp at this
  | [_]=>rw [h] at this;simp at this
  | [_,_]=>rw [h] at this;simp at this
  | [_,_,_]=>rw [h] at this;simp at this
  | _::_::_::_::_::_=>rw [h] at this;simp at this
 rw [e];refine RN Fence.wide m trivial rfl hm B w.heap.size a len cap (fun j=>(X j).getD 0 undef) (fun j=>(X j).getD 1 undef) (fun j=>(X j).getD 2 undef) (fun j=>(X j).getD 3 undef) hlen w (World.block_lt_of_cell? w _ hc) (Ah _) hc fun hp=>?_
 obtain⟨b,off,h1,h2,h3⟩:=hI hp;refine⟨b,off,h1,h2,fun j hj=>?_⟩;have h4:=hl j;match h:X j with
 | [u0,u1,u2,u3]=>exact⟨h3 j hj 0 u0 (by rw [h];rfl),h3 j hj 1 u1 (by rw [h];rfl),h3 j hj 2 u2 (by rw [h];rfl),h3 j hj 3 u3 (by rw [h];rfl)⟩
 | []=>rw [h] at h4;simp at h4
 | [_]=>rw [h] at h4;simp at h4
 | [_,_]=>rw [h] at h4;simp at h4
 | [_,_,_]=>rw [h] at h4;simp at h4
 | _::_::_::_::_::_=>rw [h] at h4;simp at h4

theorem WY (F:Fence) (n:Nat) (h7:F.fn 315) (hro:F.round=none) (hn:1<=n) (l Bs n₀ b off len cap:Nat) (X0 X1 X2:Nat->Value) (hlen:len<=1000000000) (hb:b<n₀) (hBn:Bs<n₀) (J Jx:List Nat->World->Prop)
  (hY:∀ pre x W,J pre W->pre.length<len->x<len->YieldAt F (n - 1) Tryz.prog l #[.int .i64 (x:Nat), .agg #[X0 x,X1 x,X2 x]] W fun e W'=>
   (e = .returned (.bool true)/\J (pre ++ [x]) W'/\Below n₀ W W')\/(e = .returned (.bool false)/\Jx (pre ++ [x]) W'))
  (W:World) (hBs:W.cell? ⟨Bs,0,none⟩=some (.slice (some ⟨b,off,none⟩) len cap)) (hc0:∀ j,j<len->W.cell? ⟨b,off+j*3,none⟩=some (X0 j)) (hc1:∀ j,j<len->W.cell? ⟨b,off+j*3+1,none⟩=some (X1 j)) (hc2:∀ j,j<len->W.cell? ⟨b,off+j*3+2,none⟩=some (X2 j)) (h0:J [] W) :
  CallsIn F n Tryz.prog 315 #[.func (.yield l) #[] #[], .pointer (some ⟨Bs,0,none⟩)] W fun e W'=>(∃ v,e = .returned v)/\
   ((∃ ys,ys=Dq len len/\J ys W')\/(∃ pre,(∃ k,k<=len/\pre=Dq len k)/\Jx pre W')):=by
 have Hc0:=Lib.hid hc0;have Hc1:=Lib.hid hc1;have Hc2:=Lib.hid hc2;clear hc0 hc1 hc2;refine callsIn_of_wp Tryz.func315 rfl h7 ?_ hro;simp only [Tryz.ntmps315,BP,Ao,Bv,Nat.reduceAdd,Nat.reduceSub,Dd,Dc,DE,Do,B7,B6]
 gi_wp2
 gi_loopw [3] (fun i wr=>∃ k:Nat,k<=len/\i = .int .i64 ((len:Int) - 1 - k)/\J (Dq len k) wr/\Below n₀ W wr)
  (fun i _=>(intOf i+1).toNat)
 case atStart=>exact⟨0,Aj _,by simp,h0,Below.refl _ _⟩
 case round=>
  obtain⟨k,hk,rfl,hJs,hnx⟩:=hrel;by_cases hlt:k<len
  ·obtain⟨m,hmk⟩:∃ m,len=k+1+m:=⟨len - (k+1),by omega⟩;rw [show (len:Int) - 1 - k=(m:Int) by omega];obtain⟨fn,tmps,assign,body,hy,hR⟩:=hY _ m wr hJs (by rw [Hw];exact hlt) (by omega);have e0:=(hnx.cell (p:=⟨b,off+m*3,none⟩) hb).trans (Hc0.out m (by omega));have e1:=(hnx.cell (p:=⟨b,off+m*3+1,none⟩) hb).trans (Hc1.out m (by omega));have e2:=(hnx.cell (p:=⟨b,off+m*3+2,none⟩) hb).trans (Hc2.out m (by omega));have eb:=(hnx.cell (p:=⟨Bs,0,none⟩) hBn).trans hBs;have hm:(m:Int)<(len:Int):=by omega
   have Hm:=Lib.hid hmk;clear hmk
   gi_wp2
   refine hR.mono ?_;rintro e W3 (⟨rfl,hJ3,hk3⟩ | ⟨rfl,hJx3⟩)
   ·gi_wp2
    go_roundw
    case rel=>exact⟨k+1,by omega,congrArg (Value.int .i64) (by have:=Hm.out;omega),by rw [F5,show len - 1 - k=m by have:=Hm.out;omega];exact hJ3,hnx.trans hk3⟩
    case measure=>simp [intOf]
   ·gi_wp2
    refine bodyPost_ret (results_none rfl _ _ _) rfl ?_;exact⟨⟨_,rfl⟩, .inr ⟨_,⟨k+1,by omega,by rw [F5,show len - 1 - k=m by have:=Hm.out;omega]⟩,hJx3⟩⟩
  ·obtain rfl:k=len:=by omega
   rw [show ((k:Nat):Int) - 1 - k = -1 by omega]
   gi_wp2
   go_end0
   exact⟨⟨_,rfl⟩, .inl ⟨_,rfl,hJs⟩⟩

theorem WZ (F:Fence) (n:Nat) (h7:F.fn 315) (hro:F.round=none) (l Bs:Nat) (a:Option Addr) (cap:Nat) (J:List Nat->World->Prop) (W:World) (hBs:W.cell? ⟨Bs,0,none⟩=some (.slice a 0 cap)) (h0:J [] W) :
  CallsIn F n Tryz.prog 315 #[.func (.yield l) #[] #[], .pointer (some ⟨Bs,0,none⟩)] W fun e W'=>(∃ v,e = .returned v)/\J [] W':=by
 refine callsIn_of_wp Tryz.func315 rfl h7 ?_ hro;simp only [Tryz.ntmps315,BP,Ao,Bv,Nat.reduceAdd,Nat.reduceSub,Dd,Dc,DE,Do,B7,B6]
 gi_wp2
 gi_loopw [3] (fun i wr=>i = .int .i64 (-1)/\J [] wr) (fun _ _=>0)
 case atStart=>exact⟨rfl,h0⟩
 case round=>
  obtain⟨rfl,hJs⟩:=hrel
  gi_wp2
  go_end0
  exact⟨⟨_,rfl⟩,hJs⟩

theorem RO (F:Fence) (n:Nat) (h7:F.fn 315) (f:F.round=none) (hn:1<=n) (Bs n₀:Nat) (a:Option Addr) (len cap:Nat) (X0 X1 X2:Nat->Value) (z:len<=1000000000) (w:World) (C:Bs<n₀) (G:n₀<=w.heap.size)
  (hc:w.cell? ⟨Bs,0,none⟩=some (.slice a len cap)) (hI:0<len->∃ b off,a=some ⟨b,off,none⟩/\b<n₀/\∀ j,j<len->w.cell? ⟨b,off+j*3,none⟩=some (X0 j)/\w.cell? ⟨b,off+j*3+1,none⟩=some (X1 j)/\w.cell? ⟨b,off+j*3+2,none⟩=some (X2 j)) :
  SeqStopsK F n Tryz.prog 315 #[.pointer (some ⟨Bs,0,none⟩)] (fun x:Fin len=> #[Value.int .i64 x.val, .agg #[X0 x,X1 x,X2 x]]) (Below n₀) (fun ys=>ys.map Fin.val=Dq len len) (fun pre=>∃ k,k<=len/\pre.map Fin.val=Dq len k) len w:=fun l J Jx W hW _ _ hY h0=>by
 have u:=(hW.cell (p:=⟨Bs,0,none⟩) (by show Bs<_;omega)).trans hc;rcases Dv len with rfl | hp
 ·exact(WZ F n h7 f l Bs a cap (fun _ W=>J [] W) W u h0).mono fun e W' ⟨he,hj⟩=>⟨he, .inl ⟨[],rfl,hj⟩⟩
 ·obtain⟨b,off,rfl,hb,hj⟩:=hI hp;refine(WY F n h7 f hn l Bs n₀ b off len cap X0 X1 X2 z hb C (fun pre W=>∃ q:List (Fin len),q.map Fin.val=pre/\J q W) (fun pre W=>∃ q:List (Fin len),q.map Fin.val=pre/\Jx q W) ?_ W u (fun j h=>(hW.cell (p:=⟨b,off+j*3,none⟩) (by show b<_;omega)).trans (hj j h).1) (fun j h=>(hW.cell (p:=⟨b,off+j*3+1,none⟩) (by show b<_;omega)).trans (hj j h).2.1) (fun j h=>(hW.cell (p:=⟨b,off+j*3+2,none⟩) (by show b<_;omega)).trans (hj j h).2.2) ⟨[],rfl,h0⟩).mono ?_
  ·rintro pre x W1 ⟨q,hq,hJ⟩ i hx;obtain⟨fn,tmps,assign,body,hy,hR⟩:=hY q ⟨x,hx⟩ W1 hJ (by rw [<-hq,Ab] at i;exact i);refine⟨fn,tmps,assign,body,hy,hR.mono ?_⟩;rintro e W' (⟨he,h1,h2⟩ | ⟨he,h1⟩)
   ·exact .inl ⟨he,⟨_,by simp [hq],h1⟩,h2⟩
   ·exact .inr ⟨he,⟨_,by simp [hq],h1⟩⟩
  ·rintro e W' ⟨he,⟨ys,rfl,q,hq,hJ⟩ | ⟨pre,⟨k,hk,rfl⟩,q,hq,hJ⟩⟩
   ·exact⟨he, .inl ⟨q,hq,hJ⟩⟩
   ·exact⟨he, .inr ⟨q,⟨k,hk,hq⟩,hJ⟩⟩

theorem bkim_is:IsBack Tryz.prog 315 3:=by
 refine⟨enters_of Tryz.func315 (by kernel_rfl) rfl,fun m hm B a len cap X w hlen hc hl hI=>?_⟩;have e:(fun x:Fin len=>(#[Value.int .i64 x.val, .agg (X x.val).toArray]:Array Value))=fun x:Fin len=> #[Value.int .i64 x.val, .agg #[(X x.val).getD 0 undef,(X x.val).getD 1 undef,(X x.val).getD 2 undef]]:=by
  funext x;have:=hl x.val;match h:X x.val with
  | [u0,u1,u2]=>rfl
  | []=>rw [h] at this;simp at this
  | [_]=>rw [h] at this;simp at this
  | [_,_]=>rw [h] at this;simp at this
  | _::_::_::_::_=>rw [h] at this;simp at this
 rw [e];refine RO Fence.wide m trivial rfl hm B w.heap.size a len cap (fun j=>(X j).getD 0 undef) (fun j=>(X j).getD 1 undef) (fun j=>(X j).getD 2 undef) hlen w (World.block_lt_of_cell? w _ hc) (Ah _) hc fun hp=>?_
 obtain⟨b,off,h1,h2,h3⟩:=hI hp;refine⟨b,off,h1,h2,fun j hj=>?_⟩;have h4:=hl j;match h:X j with
 | [u0,u1,u2]=>exact⟨h3 j hj 0 u0 (by rw [h];rfl),h3 j hj 1 u1 (by rw [h];rfl),h3 j hj 2 u2 (by rw [h];rfl)⟩
 | []=>rw [h] at h4;simp at h4
 | [_]=>rw [h] at h4;simp at h4
 | [_,_]=>rw [h] at h4;simp at h4
 | _::_::_::_::_=>rw [h] at h4;simp at h4

end
section
open Go.RowKit
def FH (l:List Img) (z w:Int):Nat->Option Nat
 | 0=>none
 | k+1=>if (l.getD k iz).zone=z/\(l.getD k iz).what=w then some k else FH l z w k
def H7 (l:List Tx) (z w:Int):Nat->Option (Nat × Nat)
 | 0=>none
 | k+1=>match FH (l.getD k tz).images z w (l.getD k tz).images.length with
  | some i=>some (k,i)
  | none=>H7 l z w k
theorem SG (l:List Img) (z w:Int):∀ k,Dp l z w k=(FH l z w k).map fun i=>l.getD i iz
 | 0=>rfl
 | k+1=>by
  rw [Dp,FH,SG l z w k];split <;> rfl
theorem OH (l:List Tx) (z w:Int):∀ k,E6 l z w k=(H7 l z w k).map fun p=>((l.getD p.1 tz).images.getD p.2 iz,(l.getD p.1 tz).seq)
 | 0=>rfl
 | k+1=>by
  rw [E6,H7,SG];cases FH (l.getD k tz).images z w (l.getD k tz).images.length with
  | some i=>rfl
  | none=>exact OH l z w k
theorem M6 {l:List Img} {z w:Int}:∀ {k:Nat},FH l z w k=none->∀ j,j<k->¬((l.getD j iz).zone=z/\(l.getD j iz).what=w)
 | k+1,h,j,hj=>by
  rw [FH] at h;split at h
  ·cases h
  ·rename_i hc;rcases Nat.lt_succ_iff_lt_or_eq.1 hj with q | rfl
   ·exact M6 h j q
   ·exact hc
theorem NI {l:List Img} {z w:Int} {j:Nat} (h:(l.getD j iz).zone=z/\(l.getD j iz).what=w):∀ (k:Nat),j<k->(∀ i,j<i->i<k->¬((l.getD i iz).zone=z/\(l.getD i iz).what=w))->FH l z w k=some j
 | k+1,hj,hn=>by
  rw [FH];by_cases e:j=k
  ·subst e;rw [if_pos h]
  ·rw [if_neg (hn k (by omega) (by omega))];exact NI h k (by omega) fun i q1 q2=>hn i q1 (by omega)
theorem M7 {l:List Img} {z w:Int} {j:Nat}:∀ {k:Nat},FH l z w k=some j->j<k/\(l.getD j iz).zone=z/\(l.getD j iz).what=w
 | k+1,h=>by
  rw [FH] at h;split at h
  ·rename_i hc;obtain rfl:=Option.some.inj h;exact⟨by omega,hc⟩
  ·have:=M7 h;exact⟨by omega,this.2⟩
theorem NJ {l:List Tx} {z w:Int} {j i:Nat} (h:FH (l.getD j tz).images z w (l.getD j tz).images.length=some i):∀ (k:Nat),j<k->(∀ q,j<q->q<k->FH (l.getD q tz).images z w (l.getD q tz).images.length=none)->H7 l z w k=some (j,i)
 | k+1,hj,hn=>by
  rw [H7];by_cases e:j=k
  ·subst e;rw [h]
  ·rw [hn k (by omega) (by omega)];exact NJ h k (by omega) fun q q1 q2=>hn q q1 (by omega)
theorem M8 {l:List Tx} {z w:Int}:∀ (k:Nat),(∀ q,q<k->FH (l.getD q tz).images z w (l.getD q tz).images.length=none)->H7 l z w k=none
 | 0,_=>rfl
 | k+1,hn=>by
  rw [H7,hn k (by omega)];exact M8 k fun q hq=>hn q (by omega)
theorem M9 {l:List Tx} {z w:Int} {p:Nat × Nat}:∀ {k:Nat},H7 l z w k=some p->p.1<k/\p.2<(l.getD p.1 tz).images.length
 | k+1,h=>by
  rw [H7] at h;split at h
  ·rename_i i hi;obtain rfl:=Option.some.inj h;exact⟨Nat.lt_succ_self k,(M7 hi).1⟩
  ·have:=M9 h;exact⟨by omega,this.2⟩
theorem WV (a:Option Addr) (len cap:Nat) (w:World) :
  Calls Tryz.prog 239 #[.slice a len cap] w fun e w'=>e = .returned (.func (.func 314) #[] #[.pointer (some ⟨w.heap.size,0,none⟩)])/\w.alloc (.cells #[.slice a len cap] 29)=w':=by
 go_enter Tryz.func239,Tryz.ntmps239
 go_wp2
 go_ret
 exact tA
theorem Qz (a:Option Addr) (len cap:Nat) (w:World) :
  Calls Tryz.prog 240 #[.slice a len cap] w fun e w'=>e = .returned (.func (.func 315) #[] #[.pointer (some ⟨w.heap.size,0,none⟩)])/\w.alloc (.cells #[.slice a len cap] 160)=w':=by
 go_enter Tryz.func240,Tryz.ntmps240
 go_wp2
 go_ret
 exact tA
theorem OR {P:Program} {f g:FuncId} {t:TypeId} (hg:Xo P f) (h:∀ a len cap w,Calls P f #[.slice a len cap] w fun e w'=>e = .returned (.func (.func g) #[] #[.pointer (some ⟨w.heap.size,0,none⟩)])/\w.alloc (.cells #[.slice a len cap] t)=w') (x:AV) (Hin:List AB) (hx:∀ c u,Rd x c u->∃ a len cap,u = .slice a len cap):ACalls P false f [x] Hin fun r H=>r = .fn g [.bp Hin.length 0]/\H=Hin ++ [.box t [x]]:=by
 refine⟨hg,fun w0 M0 c us hs hr=>?_⟩;have i:=hr;simp only [RdL] at hr;obtain⟨u,_,rfl,hu,rfl⟩:=hr;obtain⟨a,len,cap,rfl⟩:=hx _ _ hu;obtain⟨c',e1,e2,e3,e4⟩:=hs.box t i (by simp [Value.oneCell']);refine(h a len cap c.w).mono ?_;rintro e w' ⟨rfl,rfl⟩;refine⟨_,c',_,_,rfl,by rw [e1],tA,e2,e3,?_,fun e=>by cases e⟩;simp only [Rd,RdL];exact⟨_,rfl,_,_,rfl,by simpa only [Rd] using e4,rfl⟩
theorem Od {sz n:Nat} {get:Nat->List AV} (c:Ctx) (u:Value) (hu:Rd (.sl sz n get) c u):∃ a len cap,u = .slice a len cap:=by
 simp only [Rd] at hu;obtain⟨a,p,h, -⟩:=hu;exact⟨_,_,_,h⟩
theorem PG (l:List Tx) (z w:Int) (hl:l.length<=1000000) (hi:∀ t∈l,t.images.length<=1000000):Fn Tryz.prog 164 [CS l,iv z,iv w] fun r=>r=(match H7 l z w l.length with | some p=> .tp [iv (p.1:Nat),iv (p.2:Nat), .v (.bool true)] | none=> .tp [iv 0,iv 0, .v (.bool false)]):=by
 refine zR Tryz.func164 rfl ?_;conv=>whnf
 refine(OR ⟨_,Tryz.func239,rfl,by decide⟩ WV (CS l) _ Od).mono ?_;rintro _ _ ⟨rfl,rfl⟩;conv=>whnf
 refine aRF.back tys_ok bktx_is (B:=5) (len:=l.length) (E:=fun i=>CG (l.getD i ⟨0,0,0, []⟩)) rfl rfl tA (by omega) rfl (by decide) rfl [(4, .rp [iv z]),(5, .rp [iv w])] ⟨.inr ⟨0,_,_,rfl,rfl,rfl,rfl⟩, .inr ⟨1,_,_,rfl,rfl,rfl,rfl⟩,tv⟩ (fun i=>(FH (l.getD i tz).images z w (l.getD i tz).images.length).isSome) ?_ ?_ ?_
 ·intro i u hh;have hn:FH (l.getD i tz).images z w (l.getD i tz).images.length=none:=by simpa using hh
  have C:=hi _ (A3 (d:=tz) u);obtain⟨t,ht⟩:∃ t,t=l.getD i tz:=⟨_,rfl⟩;rw [show l.getD i ⟨0,0,0, []⟩=t from ht.symm];rw [<-ht] at hn C;refine⟨rfl,?_⟩;conv=>whnf
  refine(OR ⟨_,Tryz.func240,rfl,by decide⟩ Qz (D2 t.images) _ Od).mono ?_;rintro _ _ ⟨rfl,rfl⟩;conv=>whnf
  refine aRF.back tys_ok bkim_is (B:=2) (len:=t.images.length) (E:=fun j=>Dz (t.images.getD j ⟨0,0, []⟩)) rfl rfl tA (by omega) rfl (by decide) rfl [(4, .rp [iv z]),(5, .rp [iv w])] ⟨.inl tA, .inl tA,tv⟩ (fun _=>false) ?_ ?_ ?_
  ·intro j hj _;have f:=M6 hn j hj;refine⟨rfl,?_⟩;conv=>whnf
   by_cases hz:(t.images.getD j ⟨0,0, []⟩).zone=z
   ·rw [show ((t.images.getD j ⟨0,0, []⟩).zone == z)=true from beq_iff_eq.2 hz];conv=>whnf
    rw [show ((t.images.getD j ⟨0,0, []⟩).what == w)=false from beq_eq_false_iff_ne.2 fun e=>f ⟨hz,e⟩];conv=>whnf
   ·rw [show ((t.images.getD j ⟨0,0, []⟩).zone == z)=false from beq_eq_false_iff_ne.2 hz];conv=>whnf
  ·intro j hj h;cases h
  ·intro _;conv=>whnf
 ·intro i u hh;obtain⟨i0,F⟩:=Cg.1 hh;have C:=hi _ (A3 (d:=tz) u);obtain⟨t,ht⟩:∃ t,t=l.getD i tz:=⟨_,rfl⟩;rw [show l.getD i ⟨0,0,0, []⟩=t from ht.symm];rw [<-ht] at F C;refine⟨rfl,?_⟩;conv=>whnf
  refine(OR ⟨_,Tryz.func240,rfl,by decide⟩ Qz (D2 t.images) _ Od).mono ?_;rintro _ _ ⟨rfl,rfl⟩;conv=>whnf
  refine aRF.back tys_ok bkim_is (B:=8) (len:=t.images.length) (E:=fun j=>Dz (t.images.getD j ⟨0,0, []⟩)) rfl rfl tA (by omega) rfl (by decide) rfl [(4, .rp [iv z]),(5, .rp [iv w])] ⟨.inr ⟨0,_,_,rfl,rfl,rfl,rfl⟩, .inr ⟨1,_,_,rfl,rfl,rfl,rfl⟩,tv⟩ (fun j=>decide ((t.images.getD j iz).zone=z/\(t.images.getD j iz).what=w)) ?_ ?_ ?_
  ·intro j hj f;have f:=of_decide_eq_false f;refine⟨rfl,?_⟩;conv=>whnf
   by_cases hz:(t.images.getD j ⟨0,0, []⟩).zone=z
   ·rw [show ((t.images.getD j ⟨0,0, []⟩).zone == z)=true from beq_iff_eq.2 hz];conv=>whnf
    rw [show ((t.images.getD j ⟨0,0, []⟩).what == w)=false from beq_eq_false_iff_ne.2 fun e=>f ⟨hz,e⟩];conv=>whnf
   ·rw [show ((t.images.getD j ⟨0,0, []⟩).zone == z)=false from beq_eq_false_iff_ne.2 hz];conv=>whnf
  ·intro j hj hy;have hy:=of_decide_eq_true hy;refine⟨rfl,?_⟩;conv=>whnf
   rw [show ((t.images.getD j ⟨0,0, []⟩).zone == z)=true from beq_iff_eq.2 hy.1];conv=>whnf
   rw [show ((t.images.getD j ⟨0,0, []⟩).what == w)=true from beq_iff_eq.2 hy.2];refine⟨by simp,rfl,fun hord=>?_⟩;refine⟨by simp,rfl,fun hord2=>?_⟩;conv=>whnf
   have hJ:FH (l.getD i tz).images z w (l.getD i tz).images.length=some j:=by
    rw [<-ht];exact NI hy _ hj fun q q1 q2=>of_decide_eq_false (hord q q1 q2)
   rw [NJ hJ l.length u fun q q1 q2=>by simpa using hord2 q q1 q2];exact⟨_,ri,rfl⟩
  ·intro G;exfalso;have:=M7 F;exact of_decide_eq_false (G i0 this.1) this.2
 ·intro hh;have hn:=M8 (l:=l) (z:=z) (w:=w) l.length fun q hq=>by simpa using hh q hq
  conv=>whnf
  rw [hn];exact⟨_,ri,rfl⟩
def GH (x:Gt) (addr stamp:Int):Option (List UInt8):=match BY x addr with
 | some s=>if s.stamp=stamp then some s.pay else none
 | none=>none
theorem VM {x:Gt} {addr stamp:Int} {b:List UInt8} (h:GH x addr stamp=some b):b.length<=x.bytes.length:=by
 unfold GH BY at h;split at h
 ·rename_i s hs;split at hs
  ·obtain rfl:=Option.some.inj hs;split at h
   ·obtain rfl:=Option.some.inj h;simp [CE];omega
   ·cases h
  ·cases hs
 ·cases h
theorem Gb (b:Bool):∀ (c:Ctx) (v:Value),Rd (.tp [.v (.slice none 0 0), .v (.bool b)]) c v->Rd (.tp [bA [], .v (.bool b)]) c v:=BN ⟨Bg 1 _,ri,tv⟩
theorem SI (x:Gt) (addr stamp:Int) (hl:x.bytes.length<=100000):Fn Tryz.prog 238 [.ag (Dt x),iv addr,iv stamp] fun r=>r = .tp [bA ((GH x addr stamp).getD []), .v (.bool (GH x addr stamp).isSome)]:=by
 have ho:=Vn x.bytes hl;by_cases h0:x.err=0;rotate_left 1
 ·have e:GH x addr stamp=none:=by
   unfold GH BY;rw [if_neg (fun h=>h0 h.1)]
  rw [e];refine zR Tryz.func238 rfl ?_;conv=>whnf
  rw [show (x.err != 0)=true from bne_iff_ne.2 h0];exact⟨_,Gb false,rfl⟩
 by_cases h1:Df x.bytes=0;rotate_left 1
 ·have e:GH x addr stamp=none:=by
   unfold GH BY;rw [if_neg (fun h=>h1 h.2.1)]
  rw [e];rw [if_neg h1] at ho;refine zR Tryz.func238 rfl ?_;conv=>whnf
  rw [show (x.err != 0)=false from bne_eq_false_iff_eq.2 h0];conv=>whnf
  refine zY ho ?_;conv=>whnf
  rw [show (Df x.bytes != 0)=true from bne_iff_ne.2 h1];exact⟨_,Gb false,rfl⟩
 rw [if_pos h1,h1] at ho;by_cases h2:Cx x.bytes=addr;rotate_left 1
 ·have e:GH x addr stamp=none:=by
   unfold GH BY;rw [if_neg (fun h=>h2 h.2.2)]
  rw [e];refine zR Tryz.func238 rfl ?_;conv=>whnf
  rw [show (x.err != 0)=false from bne_eq_false_iff_eq.2 h0];conv=>whnf
  refine zY ho ?_;conv=>whnf
  rw [show ((⟨Cx x.bytes,Cr x.bytes,CE x.bytes⟩:Sec).addr != addr)=true from bne_iff_ne.2 h2];exact⟨_,Gb false,rfl⟩
 have es:BY x addr=some ⟨Cx x.bytes,Cr x.bytes,CE x.bytes⟩:=by unfold BY;rw [if_pos ⟨h0,h1,h2⟩]
 by_cases h3:Cr x.bytes=stamp
 ·have e:GH x addr stamp=some (CE x.bytes):=by unfold GH;rw [es];simp only;rw [if_pos h3]
  rw [e];refine zR Tryz.func238 rfl ?_;conv=>whnf
  rw [show (x.err != 0)=false from bne_eq_false_iff_eq.2 h0];conv=>whnf
  refine zY ho ?_;conv=>whnf
  rw [show ((⟨Cx x.bytes,Cr x.bytes,CE x.bytes⟩:Sec).addr != addr)=false from bne_eq_false_iff_eq.2 h2];conv=>whnf
  rw [show ((⟨Cx x.bytes,Cr x.bytes,CE x.bytes⟩:Sec).stamp != stamp)=false from bne_eq_false_iff_eq.2 h3];exact⟨_,ri,rfl⟩
 ·have e:GH x addr stamp=none:=by unfold GH;rw [es];simp only;rw [if_neg h3]
  rw [e];refine zR Tryz.func238 rfl ?_;conv=>whnf
  rw [show (x.err != 0)=false from bne_eq_false_iff_eq.2 h0];conv=>whnf
  refine zY ho ?_;conv=>whnf
  rw [show ((⟨Cx x.bytes,Cr x.bytes,CE x.bytes⟩:Sec).addr != addr)=false from bne_eq_false_iff_eq.2 h2];conv=>whnf
  rw [show ((⟨Cx x.bytes,Cr x.bytes,CE x.bytes⟩:Sec).stamp != stamp)=true from bne_iff_ne.2 h3];exact⟨_,Gb false,rfl⟩
theorem RL (x:Gt) (addr:Int) (e:Ent):D5 x addr e=match GH x addr e.stamp with
  | some b=>if b.length=8/\((C3 b:Nat):Int)=e.sum then some b else none
  | none=>none:=by
 unfold D5 GH;cases BY x addr with
 | none=>rfl
 | some s=>
  simp only;by_cases h:s.stamp=e.stamp
  ·rw [if_pos h];simp only;by_cases h2:s.pay.length=8/\((C3 s.pay:Nat):Int)=e.sum
   ·rw [if_pos h2,if_pos ⟨h,h2⟩]
   ·rw [if_neg h2,if_neg (fun q=>h2 q.2)]
  ·rw [if_neg h,if_neg (fun q=>h q.1)]
theorem U1 (x:Gt) (addr:Int) (e:Ent) (hl:x.bytes.length<=100000):Fn Tryz.prog 166 [.ag (Dt x),iv addr, .ag (Cf e)] fun r=>r = .tp [bA ((D5 x addr e).getD []), .v (.bool (D5 x addr e).isSome)]:=by
 have hp:=SI x addr e.stamp hl;rw [RL];cases hq:GH x addr e.stamp with
 | none=>
  rw [hq] at hp;refine zR Tryz.func166 rfl ?_;conv=>whnf
  refine zY hp ?_;conv=>whnf
  apply zX (0) tys_ok mixed (.o [0,1,2,3,4,5,6,7,8,10,11,9,12,13] .fin) (by kernel_rfl);conv=>whnf
  (skip)
  exact⟨_,Gb false,rfl⟩
 | some b=>
  rw [hq] at hp;replace hp:Fn Tryz.prog 238 [.ag (Dt x),iv addr,iv e.stamp] fun r=>r = .tp [bA b, .v (.bool true)]:=hp
  have hs:=Jo b;simp only;by_cases h8:b.length=8;rotate_left 1
  ·rw [if_neg (fun h=>h8 h.1)];refine zR Tryz.func166 rfl ?_;conv=>whnf
   refine zY hp ?_;conv=>whnf
   apply zX (0) tys_ok mixed (.o [0,1,2,3,4,5,6,7,8,10,11,9,12,13] .fin) (by kernel_rfl);conv=>whnf
   (rw [show ((b.length:Int) != 8)=true from bne_iff_ne.2 (by omega)])
   conv=>whnf
   all_goals
    exact⟨_,Gb false,rfl⟩
  by_cases hE:((C3 b:Nat):Int)=e.sum
  ·rw [if_pos ⟨h8,hE⟩];refine zR Tryz.func166 rfl ?_;conv=>whnf
   refine zY hp ?_;conv=>whnf
   apply zX (0) tys_ok mixed (.o [0,1,2,3,4,5,6,7,8,10,11,9,12,13] .fin) (by kernel_rfl);conv=>whnf
   (rw [show ((b.length:Int) != 8)=false from bne_eq_false_iff_eq.2 (by omega)];(conv=>whnf);refine zY hs ?_)
   conv=>whnf
   all_goals
    rw [show (((C3 b:Nat):Int) != e.sum)=false from bne_eq_false_iff_eq.2 hE];exact⟨_,ri,rfl⟩
  ·rw [if_neg (fun h=>hE h.2)];refine zR Tryz.func166 rfl ?_;conv=>whnf
   refine zY hp ?_;conv=>whnf
   apply zX (0) tys_ok mixed (.o [0,1,2,3,4,5,6,7,8,10,11,9,12,13] .fin) (by kernel_rfl);conv=>whnf
   (rw [show ((b.length:Int) != 8)=false from bne_eq_false_iff_eq.2 (by omega)];(conv=>whnf);refine zY hs ?_)
   conv=>whnf
   all_goals
    rw [show (((C3 b:Nat):Int) != e.sum)=true from bne_iff_ne.2 hE];exact⟨_,Gb false,rfl⟩
theorem L8 (g:Geo) (x:Gt) (addr root:Int):BT g x addr root=match GH x addr root with
  | some b=>Ce g b
  | none=>none:=by
 unfold BT GH;cases BY x addr with
 | none=>rfl
 | some s=>
  simp only;by_cases h:s.stamp=root
  ·rw [if_pos h,if_pos h]
  ·rw [if_neg h,if_neg h]
theorem QJ {g:Geo} {b:List UInt8} (hg:Bq g=true):(DZ g b=0↔(Ce g b).isSome=true):=by
 unfold DZ;rw [hg,if_neg (by decide)];split <;> simp_all
theorem Ux (g:Geo) (x:Gt) (addr root:Int) (hg:Bq g=true) (hl:x.bytes.length<=100000):Fn Tryz.prog 163 [.ag (AK g), .ag (Dt x),iv addr,iv root] fun r=>r = .tp [.ag [Bm ((BT g x addr root).getD [])], .v (.bool (BT g x addr root).isSome)]:=by
 have hp:=SI x addr root hl;have hG:Fn Tryz.prog 118 [.ag (AK g)] fun r=>r = .v (F1 (Bq g)):=DS g.z g.d g.sp g.sl g.an
 rw [hg] at hG;rw [L8];cases hq:GH x addr root with
 | none=>
  rw [hq] at hp;refine zR Tryz.func163 rfl ?_;conv=>whnf
  refine zY hp ?_;exact⟨_,BN (m:= [.ag [Bm []], .v (.bool false)]) ⟨Bf ⟨Bg 3 _,tv⟩,ri,tv⟩,rfl⟩
 | some b=>
  rw [hq] at hp;replace hp:Fn Tryz.prog 238 [.ag (Dt x),iv addr,iv root] fun r=>r = .tp [bA b, .v (.bool true)]:=hp
  have f:=VM hq;have hr:=L6 g b (by omega);rw [hg,if_pos rfl] at hr;have hz:=QJ (b:=b) hg;simp only;refine zR Tryz.func163 rfl ?_;conv=>whnf
  refine zY hp ?_;conv=>whnf
  refine zY hG ?_;conv=>whnf
  refine zY hr ?_;conv=>whnf
  cases hR:Ce g b with
  | none=>
   rw [hR] at hz;rw [show (DZ g b == 0)=false from beq_eq_false_iff_ne.2 fun e=>by have:=hz.1 e;cases this];exact⟨_,ri,rfl⟩
  | some t=>
   rw [hR] at hz;rw [show (DZ g b == 0)=true from beq_iff_eq.2 (hz.2 rfl)];exact⟨_,ri,rfl⟩
theorem VQ (a:An) (l:List Tx) (z:Int) (hz:0<=z/\z<a.homes.length) (hl:l.length<=1000000) (hi:∀ t∈l,t.images.length<=1000000):Fn Tryz.prog 161 [.ag (Ek a),CS l,iv z] fun r=>r = .tp [iv (CN a l z),iv 0]:=by
 have hf:=PG l z 255 hl hi;have e:CB l z 255=_:=OH l z 255 l.length;unfold CN;rw [e];cases hA:H7 l z 255 l.length with
 | none=>
  rw [hA] at hf;refine zR Tryz.func161 rfl ?_;conv=>whnf
  rw [show decide (z<0)=false from decide_eq_false (by omega)];conv=>whnf
  rw [show decide (z>=(a.homes.length:Nat))=false from decide_eq_false (by omega)];conv=>whnf
  refine zY hf ?_;refine⟨⟨by omega,by omega⟩,?_⟩;exact⟨_,ri,rfl⟩
 | some p=>
  obtain⟨k,i⟩:=p;rw [hA] at hf;obtain⟨hk,f⟩:=M9 hA;simp only at hk f;replace hf:Fn Tryz.prog 164 [CS l,iv z,iv 255] fun r=>r = .tp [iv (k:Nat),iv (i:Nat), .v (.bool true)]:=hf
  have ixA:(0:Int)<=(k:Nat)/\((k:Nat):Int)<(l.length:Nat):=by omega
  refine zR Tryz.func161 rfl ?_;conv=>whnf
  rw [show decide (z<0)=false from decide_eq_false (by omega)];conv=>whnf
  rw [show decide (z>=(a.homes.length:Nat))=false from decide_eq_false (by omega)];conv=>whnf
  refine zY hf ?_;refine⟨ixA,?_⟩;exact⟨_,ri,rfl⟩
theorem N8 (g:Geo) (lba:Int) (hg:Bq g=true) (h:0<=lba/\lba<g.z*g.d):Fn Tryz.prog 88 [.ag (AK g),iv lba] fun r=>r = .tp [iv (lba.tdiv g.d),iv (lba.tmod g.d),iv 0]:=by
 obtain⟨h1,h2,h3,h4,h5⟩:=Aq.1 hg;have hG:Fn Tryz.prog 118 [.ag (AK g)] fun r=>r = .v (F1 (Bq g)):=DS g.z g.d g.sp g.sl g.an
 rw [hg] at hG;have hp:g.z*g.d<=16:=Int.le_trans (Cq h1.2 (by omega)) (by omega);have hw:IntKind.i64.wrap (IntKind.i64.wrap (g.z*g.d) - 1)=g.z*g.d - 1:=by rw [wi (n:=g.z*g.d) (by omega),wi (by omega)]
 have hn:=Ik lba 0 (IntKind.i64.wrap (IntKind.i64.wrap (g.z*g.d) - 1));rw [show CQ lba 0 (IntKind.i64.wrap (IntKind.i64.wrap (g.z*g.d) - 1))=true from AE.2 (by rw [hw];omega)] at hn;have hq:lba.tdiv g.d=lba / g.d:=AO h.1;have i:0<=lba / g.d/\lba / g.d<=lba:=⟨C6 h.1 (by omega),Int.ediv_le_self _ h.1⟩;refine zR Tryz.func88 rfl ?_;conv=>whnf
 refine zY hG ?_;conv=>whnf
 refine zY hn ?_;conv=>whnf
 have f:g.d≠0:=by omega
 refine zA tys_ok mixed [0,1,2,3,4,5,6,7,8,9,10] (by kernel_rfl) ?_;refine⟨f,?_⟩;refine⟨f,?_⟩;exact⟨_,ri,by rw [wi (n:=lba.tdiv g.d) (by omega)]⟩
theorem UI (g:Geo) (w:Int):Fn Tryz.prog 167 [.ag (AK g),iv w] fun r=>r = iv (EJ g w):=by
 unfold EJ;by_cases h:w = -1
 ·rw [if_pos h];refine zR Tryz.func167 rfl ?_;conv=>whnf
  rw [show (w == -1)=true by simpa using h];exact⟨_,ri,rfl⟩
 ·rw [if_neg h];refine zR Tryz.func167 rfl ?_;conv=>whnf
  rw [show (w == -1)=false by simpa using h];exact⟨_,ri,rfl⟩
end
section
open Go.RowKit Go.Maps
theorem Fn.at {P:Program} {f:FuncId} {args:List AV} {K:AV->Prop} (h:Fn P f args K) {c0:Ctx} (hd:c0.dom=0) (hM:∀ b,c0.M b->b<c0.w.heap.size) (hg:globOk c0.w) {W:World} (hB:Below c0.w.heap.size c0.w W) {us:List Value} (hr:RdL args { c0 with w:=W } us) :
  Calls P f us.toArray W fun e w'=>∃ v r,e = .returned v/\K r/\Below W.heap.size W w'/\Rd r { c0 with w:=w' } v:=
 h.2 { c0 with w:=W } us hd (fun b hb=>Au (hM b hb) hB.size) (hg.keep hB.size hB.block) hr
theorem No {w w':World} {P:Program} {k:TypeId} {R:Value->Option (DataW Unit × List MemPlace)} {b n:Nat} {D:DataW Unit} (h:w.ownsMap P k R b n D) (hB:Below w.heap.size w w'):w'.ownsMap P k R b n D:=by
 have hl:=h.lt;obtain⟨es,clock,hb,r⟩:=h;exact⟨es,clock,(hB.block b hl).trans hb,r⟩
theorem und_map:Tryz.prog.underlying 319=some (.map 3 4):=by kernel_rfl
theorem und_int:Tryz.prog.underlying 3=some (.int .i64):=by kernel_rfl
theorem und_bool:Tryz.prog.underlying 4=some .bool:=by kernel_rfl
theorem Tn (g:Geo) (A:Int) (hg:Bq g=true) (h:0<=A/\A<g.z*g.d):Fn Tryz.prog 143 [.ag (AK g),iA [A]] fun r=>r = .tp [iv 4,iv 0]:=by
 refine⟨⟨_,Tryz.func143,rfl,by decide⟩,fun c0 us hd hM hgl hr=>?_⟩;obtain⟨u1,u2,rfl,h1,h2⟩:=aL hr;have hu1:u1 = .agg #[.int .i64 g.z, .int .i64 g.d, .int .i64 g.sp, .int .i64 g.sl, .int .i64 g.an]:=by
  simp only [AK,Rd,RdL] at h1;obtain⟨xs,rfl,a1,_,rfl,rfl,a2,_,rfl,rfl,a3,_,rfl,rfl,a4,_,rfl,rfl,a5,_,rfl,rfl,rfl⟩:=h1;rfl
 have hs:=QK h2;obtain⟨a,k,rfl⟩:=hs.form;subst hu1;have hC:Fn Tryz.prog 118 [.ag (AK g)] fun r=>r = .v (F1 (Bq g)):=DS g.z g.d g.sp g.sl g.an
 rw [hg] at hC;have hS:=N8 g A hg h;have hX:=PR [] A (by decide);have hkb:k<=maxLen:=hs.cap.2.2;obtain⟨b,o,rfl, -,hx⟩:=O8 hs (k:=0) (show 0<1 by decide);have rg:∀ W,Rd (.ag (AK g)) { c0 with w:=W } (.agg #[.int .i64 g.z, .int .i64 g.d, .int .i64 g.sp, .int .i64 g.sl, .int .i64 g.an]):=fun W=>by
  simp [Rd,RdL,AK]
 have cC:∀ W,Below c0.w.heap.size c0.w W->Calls Tryz.prog 118 #[.agg #[.int .i64 g.z, .int .i64 g.d, .int .i64 g.sp, .int .i64 g.sl, .int .i64 g.an]] W fun e w'=>e = .returned (.int .i64 0)/\Below W.heap.size W w':=fun W hB=>(hC.at hd hM hgl hB (us:= [_]) (by simpa [RdL] using rg W)).mono fun e w' ⟨v,r,h1,h2,h3,h4⟩=>by
  subst h2;simp only [Rd] at h4;subst h4;exact⟨h1,h3⟩
 have cS:∀ W,Below c0.w.heap.size c0.w W->Calls Tryz.prog 88 #[.agg #[.int .i64 g.z, .int .i64 g.d, .int .i64 g.sp, .int .i64 g.sl, .int .i64 g.an], .int .i64 A] W fun e w'=>e = .returned (.tuple #[.int .i64 (A.tdiv g.d), .int .i64 (A.tmod g.d), .int .i64 0])/\Below W.heap.size W w':=fun W hB=>(hS.at hd hM hgl hB (us:= [_,_]) (by simpa [RdL,Rd] using rg W)).mono fun e w' ⟨v,r,h1,h2,h3,h4⟩=>by
  subst h2;simp only [Rd,RdL] at h4;obtain⟨xs,rfl,a1,_,rfl,rfl,a2,_,rfl,rfl,a3,_,rfl,rfl,rfl⟩:=h4;exact⟨h1,h3⟩
 have cX:∀ W v,Below c0.w.heap.size c0.w W->Rd (iA []) { c0 with w:=W } v->Calls Tryz.prog 80 #[v, .int .i64 A] W fun e w'=>e = .returned (.bool false)/\Below W.heap.size W w':=fun W v hB hv=>(hX.at hd hM hgl hB (us:= [v,_]) (by simpa [RdL,Rd] using hv)).mono fun e w' ⟨v,r,h1,h2,h3,h4⟩=>by
  subst h2;simp only [Rd] at h4;subst h4;exact⟨h1,h3⟩
 have hmm:=@run_makeMap Tryz.prog;clear hC hS hX hr h2 h1 hs rg
 go_enter Tryz.func143,Tryz.ntmps143
 go_wp2_with fail
 have hB1:Below c0.w.heap.size c0.w (c0.w.alloc (.cells #[.int .i64 g.z, .int .i64 g.d, .int .i64 g.sp, .int .i64 g.sl, .int .i64 g.an] 24)):=(Below.refl _ _).alloc (Ah _) _;((with_reducible refine(cC _ hB1).mono ?_);rintro e w1 ⟨rfl,hBa⟩);have hs1:c0.w.heap.size+1<=w1.heap.size:=by have:=hBa.size;simpa using this
 have hBw:=Lib.hid (hB1.trans (hBa.mono (by simp)));have hbk:=Lib.hid ((hBa.block c0.w.heap.size (by simp)).trans (heap_alloc_new _ _));clear hB1 hBa cC
 go_wp2_with fail
 refine wp_loop_rounds 2 ?_;rw [rounds_succ];have hB2:=Lib.hid (hBw.out.alloc (by omega) (.map #[] 0));have hcell:∀ i,(w1.alloc (.map #[] 0)).cell? ⟨c0.w.heap.size,i,none⟩ = #[Value.int .i64 g.z, .int .i64 g.d, .int .i64 g.sp, .int .i64 g.sl, .int .i64 g.an][i]? :=fun i=>by
  simp only [World.cell?];rw [Below.heap_alloc _ _ _ (by omega),hbk.out];try rfl
 have hx2:(w1.alloc (.map #[] 0)).cell? ⟨b,o,none⟩=some (.int .i64 A):=by
  have q:=World.block_lt_of_cell? c0.w _ hx;exact(hB2.out.cell (by exact q)).trans hx
 have hown:(w1.alloc (.map #[] 0)).ownsMap Tryz.prog 3 (plainElem (H:=Unit) Tryz.prog 4) w1.heap.size 0 (.map []):=World.ownsMap_made _ _ _ _;generalize hW:w1.alloc (.map #[] 0)=W2 at *
 go_wp2_with fail
 ((with_reducible refine(cS _ hB2.out).mono ?_);rintro e w2 ⟨rfl,hBb⟩);have hB3:=Lib.hid (hB2.out.trans (hBb.mono hB2.out.size));have hown2:=No hown hBb;have hs2:=hBb.size;have hs3:c0.w.heap.size<W2.heap.size:=by rw [<-hW];simp;omega
 have hcell2:∀ i,w2.cell? ⟨c0.w.heap.size,i,none⟩ = #[Value.int .i64 g.z, .int .i64 g.d, .int .i64 g.sp, .int .i64 g.sl, .int .i64 g.an][i]? :=fun i=>(hBb.cell (p:=⟨c0.w.heap.size,i,none⟩) hs3).trans (hcell i)
 clear hcell hx2 hown cS
 go_wp2_with fail
 ((with_reducible refine(cX _ _ hB3.out ?_).mono ?_))
 ·simp only [iA,Rd];exact⟨_,k,rfl,Aj _,hkb, .inl rfl⟩
 rintro e w3 ⟨rfl,hBc⟩;have hB4:=Lib.hid (hB3.out.trans (hBc.mono hB3.out.size));have hown3:=No hown2 hBc;have hs4:=hBc.size;have hZ:(Lit.int .i64 (A.tdiv g.d)).wf=true:=by
  obtain⟨h1,h2,h3,h4,h5⟩:=Aq.1 hg;have hp:g.z*g.d<=16:=Int.le_trans (Cq h1.2 (by omega)) (by omega);have hq:A.tdiv g.d=A / g.d:=AO h.1;have hq2:0<=A / g.d/\A / g.d<=A:=⟨C6 h.1 (by omega),Int.ediv_le_self _ h.1⟩;have : -9223372036854775808<=A.tdiv g.d/\A.tdiv g.d<=9223372036854775807:=by omega
  simp only [Lit.wf];rw [Af];exact⟨decide_eq_true this.1,decide_eq_true this.2⟩
 have hkey:keyOf Tryz.prog 3 (.int .i64 (A.tdiv g.d))=some (.int .i64 (A.tdiv g.d)):=keyOf_int_mk und_int hZ;clear hcell2 hown2 cX
 go_wp2_with (first
  | (at_mapUpdate;refine wpList_mapUpdate_own _ rfl _ _ _ 319 rfl 3 4 (int_keyed und_int) und_map (plainElem (H:=Unit) Tryz.prog 4) w1.heap.size 0 _ rfl hown3 (by unfold maxLen;omega) _ _ _ rfl rfl hkey _ [] (plainElem_bool und_bool true) ?_;intro w4 hown4 hgrow4)
  | go_in)
 rw [rounds_succ];have hsz:Maps.size ((DataW.map (H:=Unit) []).put (Lit.int .i64 (A.tdiv g.d)) (.lit (.bool true)))=1:=rfl;have hB5:=Lib.hid (hB4.out.grown hgrow4 (by have:=hB4.out.size;omega) (fun j hj=>by cases hj;omega))
 go_wp2_with (first
  | (at_len;refine wpList_len_own _ rfl _ 319 rfl 3 4 und_map _ w1.heap.size (0+1) _ rfl hown4 ?_)
  | go_in)
 go_ret2
 refine⟨_,_,rfl,rfl,hB5.out,?_⟩;simp only [Rd,RdL];exact⟨_,rfl,_,_,rfl,rfl,_,_,rfl,rfl,rfl⟩
end
section
open Go.RowKit
theorem I0 (l:List Tx) (z w:Int) (hl:l.length<=1000000) (hi:∀ t∈l,t.images.length<=1000000/\∀ x∈t.images,x.bytes.length<=1000000000):ACalls Tryz.prog false 90 [.ow 0 l.length,iv z,iv w] [.row 170 4 (l.map CG)] fun r H=>r=(match CB l z w with | some p=> .tp [bA p.1.bytes,iv p.2, .v (.bool true)] | none=> .tp [bA [],iv 0, .v (.bool false)])/\H=[.row 170 4 (l.map CG)]:=by
 have hf:=PG l z w hl (fun t ht=>(hi t ht).1);have e:CB l z w=_:=OH l z w l.length;rw [e];have tsub:SubL [.sl 4 l.length fun i=>(l.map CG).getD i [],iv z,iv w] [CS l,iv z,iv w]:=⟨AU (f:=CG) l rfl rfl,ri,ri,tv⟩;cases hA:H7 l z w l.length with
 | none=>
  rw [hA] at hf;refine zT tys_ok Tryz.func90 rfl rfl (Ae rfl) ?_;conv=>whnf
  refine zq (args':= [.sl 4 l.length fun i=>(l.map CG).getD i [],iv z,iv w]) (hf.subA tsub) ⟨(Ab _).symm,rfl⟩ ?_;rintro _ rfl;refine⟨rfl,?_⟩;exact⟨_, .tp [bA [],iv 0, .v (.bool false)], [.row 170 4 (l.map CG)],BN (m:= [bA [],iv 0, .v (.bool false)]) ⟨Bg 1 _,ri,ri,tv⟩,zS (s:= [0]) tA,rfl,rfl⟩
 | some p=>
  obtain⟨k,i⟩:=p;rw [hA] at hf;obtain⟨hk,j⟩:=M9 hA;simp only at hk j;have hm:=hi _ (A3 (d:=tz) hk);have hc:=BL ((l.getD k tz).images.getD i iz).bytes (hm.2 _ (A3 j));replace hf:Fn Tryz.prog 164 [CS l,iv z,iv w] fun r=>r = .tp [iv (k:Nat),iv (i:Nat), .v (.bool true)]:=hf
  have ixA:(0:Int)<=(k:Nat)/\((k:Nat):Int)<(l.length:Nat):=by omega
  have ixB:(0:Int)<=(i:Nat)/\((i:Nat):Int)<((l.getD k tz).images.length:Nat):=⟨Int.natCast_nonneg _,Int.ofNat_lt.2 j⟩;have hE:(l.map CG).getD (k:Int).toNat []=CG (l.getD k tz):=by rw [Aa];exact AY hk
  refine zT tys_ok Tryz.func90 rfl rfl (Ae rfl) ?_;conv=>whnf
  refine zq (args':= [.sl 4 l.length fun i=>(l.map CG).getD i [],iv z,iv w]) (hf.subA tsub) ⟨(Ab _).symm,rfl⟩ ?_;rintro _ rfl;refine⟨rfl,?_⟩;conv=>whnf
  apply zX (0) tys_ok mixed (.o [0,1,2,3,4,5,6,7,8,10,11,12,13,14,9,15,16,17] .fin) (by kernel_rfl);conv=>whnf
  try (refine tI ?_;conv=>whnf)
  try (first | (refine Ad ⟨rfl,(Ab _).symm,by rw [Aa];exact hk⟩ ?_;(conv=>whnf);rw [hE]) | skip;conv=>whnf)
  try (refine tI ?_;conv=>whnf)
  try (first | (refine Ad ⟨rfl,(Ab _).symm,by rw [Aa];exact hk⟩ ?_;(conv=>whnf);rw [hE]) | skip;conv=>whnf)
  try (refine tI ?_;conv=>whnf)
  try (first | (refine Ad ⟨rfl,(Ab _).symm,by rw [Aa];exact hk⟩ ?_;(conv=>whnf);rw [hE]) | skip;conv=>whnf)
  refine zY hc ?_;conv=>whnf
  all_goals exact⟨_, .tp [bA ((l.getD k tz).images.getD i iz).bytes, .v (.int .i64 (l.getD k tz).seq), .v (.bool true)], [.row 170 4 (l.map CG)],fun _ _ h=>h,zS (s:= [0]) tA,rfl,rfl⟩
theorem VO (l:List Tx) (hl:l.length<=1000000) (hi:∀ t∈l,t.images.length<=1000000/\∀ x∈t.images,x.bytes.length<=1000000000):ACalls Tryz.prog false 82 [CS l] [] fun r H=>r = .ow 0 l.length/\H=[.row 170 4 (l.map CG)]:=by
 have hc:=JZ l (by omega);refine zT tys_ok Tryz.func82 rfl rfl (Ae rfl) ?_;conv=>whnf
 refine zW hc rfl ?_;rintro _ _ ⟨rfl,rfl⟩;conv=>whnf
 refine zU Nat (fun k=>([(0, .ow 0 l.length),(9,iv l.length),(10,iv k)], [.row 170 4 (l.map CG)])) (fun k=>k<=l.length) (fun k=>l.length - k) 0 (Aj _)
  (zS (s:= [0]) tA) ?_
 intro k hk;conv=>whnf
 refine A5 (fun h6=>?_) (fun h6=>?_) <;> (repeat rw [Aa] at h6) <;> conv=>whnf
 ·have u:k<l.length:=by omega
  have hm:=hi _ (A3 (d:=(⟨0,0,0, []⟩:Tx)) u);have hE:(l.map CG).getD (k:Int).toNat []=CG (l.getD k ⟨0,0,0, []⟩):=by rw [Aa];exact AY u
  have ho:=N4 (l.getD k ⟨0,0,0, []⟩).images (by omega);repeat' (refine zZ ?_;conv=>whnf)
  refine⟨⟨by omega,by omega⟩,?_⟩;conv=>whnf
  refine Ad ⟨rfl,(Ab _).symm,by rw [Aa];exact u⟩ ?_;conv=>whnf
  rw [hE];conv=>whnf
  refine zf (ConvH.rowo (k:=0) rfl) ?_;refine zW ho rfl ?_;rintro _ _ ⟨rfl,rfl⟩;refine⟨⟨by omega,by omega⟩,?_⟩;conv=>whnf
  refine Ad ⟨rfl,(Ab _).symm,by rw [Aa];exact u⟩ ?_;conv=>whnf
  rw [hE];refine⟨⟨by omega,by omega⟩,?_⟩;conv=>whnf
  refine Ad ⟨rfl,by rw [AX,Ab],by rw [Aa];exact u⟩ ?_;conv=>whnf
  rw [Bu (by rw [Aa,Ab];exact u)];conv=>whnf
  obtain⟨t,ht⟩:∃ t,t=l.getD k ⟨0,0,0, []⟩:=⟨_,rfl⟩;rw [<-ht] at hm hE |-
  have hS:∀ x∈l.map CG,AV.ltL x 0=true:=Vh l;have C:AV.ltL ((l.map CG).set k (UV t 1)).flatten 2=true:=LE hS rfl;refine zU Nat (fun j=>([(0, .ow 0 l.length),(3,iv k),(9,iv l.length),(10,iv k),(27, .ow 1 t.images.length),(28,iv t.images.length),(29,iv j)], [.rowo 170 4 ((l.map CG).set k (UV t 1)) 2, .row 139 3 (t.images.map Dz)])) (fun j=>j<=t.images.length) (fun j=>t.images.length - j) 0 (Aj _)
   (zS (s:= [0,1]) ⟨tA,⟨⟨C,_,by rw [It hS rfl];try rfl⟩,rfl,tv⟩,rfl,rfl,rfl,rfl,rfl⟩) ?_
  intro j hj;conv=>whnf
  refine A5 (fun h7=>?_) (fun h7=>?_) <;> (repeat rw [Aa] at h7) <;> conv=>whnf
  ·have z:j<t.images.length:=by omega
   have hF:(t.images.map Dz).getD (j:Int).toNat []=Dz (t.images.getD j ⟨0,0, []⟩):=by rw [Aa];exact AY z
   have hG:((l.map CG).set k (UV t 1)).getD (k:Int).toNat []=UV t 1:=by rw [Aa];exact Bu (by rw [Ab];exact u)
   have b1:=BL (t.images.getD j ⟨0,0, []⟩).bytes (hm.2 _ (A3 z));refine⟨⟨by omega,by omega⟩,?_⟩;conv=>whnf
   refine Ad ⟨rfl,(Ab _).symm,by rw [Aa];exact z⟩ ?_;conv=>whnf
   rw [hF];conv=>whnf
   apply zX (0) tys_ok mixed (.o [0,1,2,3,4,5,6,7,8,9,10,11] .fin) (by kernel_rfl);conv=>whnf
   try (refine tI ?_;conv=>whnf)
   try (first | (refine Ad ⟨rfl,by rw [AX,Ab],by rw [Aa];exact u⟩ ?_;(conv=>whnf);rw [hG]) | skip;conv=>whnf)
   try (first | (refine Ad ⟨rfl,by rw [AX,Ab],by rw [Aa];exact u⟩ ?_;(conv=>whnf);rw [hG]) | skip;conv=>whnf)
   refine zY b1 ?_;conv=>whnf
   try (refine tI ?_;conv=>whnf)
   try (refine tS ?_;conv=>whnf)
   (first | rw [hF] | skip)
   conv=>whnf
   all_goals refine⟨j+1,z,by omega,zI (zL (zD (k:=1) rfl (es':=t.images.map Dz) (by simp) ?_)) (s:= [0,1]) ⟨⟨rfl,rfl,rfl,rfl,rfl,rfl,AG (by omega),tv⟩,⟨⟨C,_,by rw [It hS rfl];try rfl⟩,rfl,tv⟩,rfl,rfl,rfl,rfl,rfl⟩⟩
   all_goals
    intro i;rw [Aa];refine EZ (f:=Dz) (d:=(⟨0,0, []⟩:Img)) z ?_ i;exact⟨fun _ _ h=>h,fun _ _ h=>h,fun _ _ h=>h,tv⟩
  ·exact⟨k+1,u,by omega,zI (zL (Np u ht)) (s:= [0]) ⟨⟨rfl,rfl,AG (by omega),tv⟩,tA,rfl,rfl,rfl,rfl,rfl⟩⟩
 ·exact⟨.ow 0 l.length, .ow 0 l.length, [.row 170 4 (l.map CG)],fun _ _ h=>h,zS (s:= [0]) tA,rfl,rfl⟩
@[reducible] def stT (s:Stt) (tx lo:AV):List AV:= [iv s.a.gen,iv s.a.epoch,iv s.a.pos,iv s.a.seq,iv s.a.last, .v (.string s.a.label),HE s.a.homes,tx, .v (.bool s.only),iv s.cursor,iv s.found,iv s.fixed,iv s.moved,lo]
theorem UN (s:Stt) (h:StSm s):ACalls Tryz.prog false 37 [.ag (Eo s)] [] fun r H=>r = .ag (stT s (.ow 0 s.txns.length) (.ow 1 s.lost.length))/\H=[.row 170 4 (s.txns.map CG), .row 3 1 (s.lost.map OX)]:=by
 have c1:=Q5 s.a (by have:=h.h.1;omega) h.h.2;have c2:=VO s.txns (by have:=h.t.1;omega) (fun t ht=>⟨by have:=(h.t.2 t ht).1;omega,fun x hx=>by have:=(h.t.2 t ht).2 x hx;omega⟩);have c3:=JF s.lost (by have:=h.o;omega);refine zT tys_ok Tryz.func37 rfl rfl (Ae rfl) ?_;conv=>whnf
 apply zX (0) tys_ok mixed (.o [0,1,3,4,6,7,8,2,10,5,9,11,12,13,14,15,16] .fin) (by kernel_rfl);conv=>whnf
 refine zY c1 ?_;conv=>whnf
 (refine zW c2 rfl ?_;rintro _ _ ⟨rfl,rfl⟩)
 conv=>whnf
 (refine zW c3 rfl ?_;rintro _ _ ⟨rfl,rfl⟩)
 conv=>whnf
 try (refine tS ?_;conv=>whnf)
 try (refine tS ?_;conv=>whnf)
 try (refine tS ?_;conv=>whnf)
 all_goals exact⟨_, .ag (stT s (.ow 0 s.txns.length) (.ow 1 s.lost.length)), [.row 170 4 (s.txns.map CG), .row 3 1 (s.lost.map OX)],fun _ _ h=>h,zS (s:= [2,3]) tA,rfl,rfl⟩
@[reducible] def YG (g:Geo) (x tx lo:AV) (s:Stt):List AV:= [iv g.z,iv g.d,iv g.sp,iv g.sl,iv g.an,x,iv s.a.gen,iv s.a.epoch,iv s.a.pos,iv s.a.seq,iv s.a.last, .v (.string s.a.label),HE s.a.homes,tx, .v (.bool s.only),iv s.cursor,iv s.found,iv s.fixed,iv s.moved,lo]
@[reducible] def FM (g:Geo) (s:Stt) (d:Dk):List AB:= [.box 99 (YG g (.bp 1 0) (.ow 4 s.txns.length) (iA s.lost) s), .box 119 (Gp (.ow 2 d.cells.length) (.ow 3 d.cache.length) d.reqs d.left), .row 68 3 (d.cells.map B4), .row 152 2 (d.cache.map Ei), .row 170 4 (s.txns.map CG)]
@[reducible] def bwM (g:Geo) (s:Stt) (d:Dk):List AB:= [.box 24 (AK g), .box 38 (DV d), .box 34 (Eo s), .box 119 (Gp (.ow 4 d.cells.length) (.ow 5 d.cache.length) d.reqs d.left), .row 68 3 (d.cells.map B4), .row 152 2 (d.cache.map Ei), .row 170 4 (s.txns.map CG)]
theorem SN (g:Geo) (d:Dk) (s:Stt) (h:DkOk d) (j:Jr g d s=true) (hs:StSm s):ACalls Tryz.prog false 35 [.ag (AK g), .ag (DV d), .ag (Eo s)] [] fun r H=>r = .tp [.bp 0 0,iv 0]/\H=FM g s d:=by
 have hN:=h.n;have hM:=h.m;have c1:=NT g d s (by omega) (by omega) hs.big;rw [j] at c1;have c2:=SK d (by omega) (by omega);have c3:=UN s hs;refine zT tys_ok Tryz.func35 rfl rfl (Ae rfl) ?_;conv=>whnf
 refine zY c1 ?_;conv=>whnf
 apply zX (0) tys_ok mixed (.o [0,1,3,2,4,5,6,7,8] .fin) (by kernel_rfl);conv=>whnf
 (refine zW c2 rfl ?_;rintro _ _ ⟨rfl,rfl⟩)
 conv=>whnf
 (refine zW c3 rfl ?_;rintro _ _ ⟨rfl,rfl⟩)
 conv=>whnf
 have hx:ConvH (bwM g s d ++ [.row 3 1 (s.lost.map OX), .box 99 (YG g (.bp 3 0) (.ow 6 s.txns.length) (.ow 7 s.lost.length) s)]) (bwM g s d ++ [.dead, .box 99 (YG g (.bp 3 0) (.ow 6 s.txns.length) (iA s.lost) s)]):=by
  refine zr (zw 8 7 (cs2:=YG g (.bp 3 0) (.ow 6 s.txns.length) (.sl 1 (s.lost.map OX).length fun i=>(s.lost.map OX).getD i []) s) rfl rfl ?_) (zu 8 rfl ⟨ri,ri,ri,ri,ri,ri,ri,ri,ri,ri,ri,ri,ri,ri,ri,ri,ri,ri,ri,AU (f:=OX) (d:=0) s.lost (Ab _) rfl,tv⟩);simp only [Az,Bx,EW (Ab _).symm];rfl
 all_goals exact⟨_, .tp [.bp 0 0,iv 0],FM g s d,fun _ _ h=>h,zI (zL hx) (s:= [8,3,4,5,6]) tA,rfl,rfl⟩
theorem St {g:Geo} {b:List UInt8} {t:List Ent} (h:Ce g b=some t):t.length=(g.d+1).toNat:=by
 unfold Ce at h;split at h
 ·rw [<-Option.some.inj h,entsOf_len]
 ·cases h
theorem Ph {g:Geo} {x:Gt} {q r:Int} {t:List Ent} (h:BT g x q r=some t):t.length=(g.d+1).toNat:=by
 rw [L8] at h;split at h
 ·exact St h
 ·cases h
def Z3 (g:Geo) (i:Nat):Int:=if (i:Int)=g.d then -1 else (i:Nat)
theorem Yg (g:Geo) (s:Stt) (d:Dk) (a:Int) (h:DkOk d) (ha:0<=a/\a<d.cells.length) :
  ACalls Tryz.prog false 162 [.bp 0 0,iv a] (FM g s d) fun r H=>r = .ag (Dt ⟨(d.read a).2.2,(d.read a).2.1⟩)/\H=FM g s (d.read a).1:=by
 have hr:=WC BL d a h.l ha h.m (fun c hc=>by have:=(h.c c hc).2.1;omega) (fun w hw=>by have:=(h.w w hw).2;omega);refine zT tys_ok Tryz.func162 rfl rfl (Ae rfl) ?_;conv=>whnf
 refine ze9 [1,2,3] hr ?_;rintro _ _ ⟨rfl,rfl⟩;exact⟨_, .ag (Dt ⟨(d.read a).2.2,(d.read a).2.1⟩),FM g s (d.read a).1,fun _ _ h=>h,zS (s:= [0,1,2,3,4]) tA,rfl,rfl⟩
theorem Qt (g:Geo) (s:Stt) (d:Dk) (a:Int) (b:List UInt8) (h:DkOk d) (ha:0<=a/\a<d.cells.length) (hb:b.length<=200) :
  ACalls Tryz.prog false 149 [.bp 0 0,iv a,bA b] (FM g s d) fun r H=>r = .tp [.v (.bool (decide ((d.write a b).2=0))),iv (if (d.write a b).2=8 then 8 else 0)]/\H=FM g s (d.write a b).1:=by
 have hr:=NL BL d a b h.l ha h.m (by omega);have he:(d.write a b).2=8\/(d.write a b).2=7\/(d.write a b).2=0:=by
  unfold Dk.write;split
  ·exact .inl rfl
  ·split
   ·exact .inr (.inl rfl)
   ·exact .inr (.inr rfl)
 generalize d.write a b=q at hr he |-
 obtain⟨d',e⟩:=q;simp only at hr he |-
 refine zT tys_ok Tryz.func149 rfl rfl (Ae rfl) ?_;conv=>whnf
 refine ze9 [1,2,3] hr ?_;rintro _ _ ⟨rfl,rfl⟩;rcases he with rfl | rfl | rfl
 all_goals
  exact⟨_,_,FM g s d',fun _ _ h=>h,zS (s:= [0,1,2,3,4]) tA,rfl,rfl⟩
structure Gr where
 f:Int->Gt
 cells:List Cel
 cache:List Wr
instance:CoeFun Gr fun _=>Int->Gt:=⟨Gr.f⟩
structure Gs (n:Int) (d:Dk) (G:Gr):Prop where
 ok:DkOk d
 left:d.left = -1
 len:(d.cells.length:Int)=n
 got:∀ a:Int,0<=a->a<n->d.got a=((G a).bytes,(G a).err)
 cells:d.cells=G.cells
 cache:d.cache=G.cache
theorem Gs.req {n:Int} {d:Dk} {G:Gr} (h:Gs n d G):Gs n d.req G:=⟨h.ok.req,by unfold Dk.req;rw [h.left];try rfl,h.len,h.got,h.cells,h.cache⟩
theorem Gs.read {n:Int} {d:Dk} {G:Gr} (h:Gs n d G) {a:Int} (h0:0<=a) (h1:a<n):d.read a=(d.req,(G a).bytes,(G a).err):=by
 unfold Dk.read;rw [if_neg (by rw [h.left];decide),h.got a h0 h1]
def E0 (d:Dk):Gr:=⟨fun a=>⟨(d.got a).2,(d.got a).1⟩,d.cells,d.cache⟩
theorem Gs.of {n:Int} {d:Dk} (h:DkOk d) (hl:d.left = -1) (hn:(d.cells.length:Int)=n):Gs n d (E0 d):=⟨h,hl,hn,fun _ _ _=>rfl,rfl,rfl⟩
def FO (g:Geo) (s:Stt) (G:Gr) (z:Int):Option (List Ent):=match CB s.txns z 255 with
 | some p=>Ce g p.1.bytes
 | none=>match BT g (G (AM g z 0)) (AM g z 0) (CN s.a s.txns z) with
  | some t=>some t
  | none=>BT g (G (AM g z 1)) (AM g z 1) (CN s.a s.txns z)
def Fu (g:Geo) (s:Stt) (G:Gr) (t:List Ent) (z w:Int):List UInt8:=match CB s.txns z w with
 | some p=>p.1.bytes
 | none=>(D5 (G (Br g s.a z w)) (Br g s.a z w) (t.getD (EJ g w).toNat ez)).getD []
def Ff (g:Geo) (s:Stt) (G:Gr) (t:List Ent) (z:Int):List (List UInt8):=(List.range (g.d.toNat+1)).map fun i=>Fu g s G t z (Z3 g i)
theorem YS {g:Geo} (hg:Bq g=true) {s:Stt} {G:Gr} {z:Int} {t:List Ent} (h:FO g s G z=some t):(t.length:Int)=g.d+1:=by
 have g5:=Aq.1 hg;have:t.length=(g.d+1).toNat:=by
  unfold FO at h;split at h
  ·exact St h
  ·split at h
   ·rename_i q;rw [<-Option.some.inj h];exact Ph q
   ·exact Ph h
 omega
theorem SA (g:Geo) (s:Stt) (d:Dk) (G:Gr) (a:Int) (h:Gs (Ar g) d G) (ha:0<=a/\a<Ar g) :
  ACalls Tryz.prog false 162 [.bp 0 0,iv a] (FM g s d) fun r H=>r = .ag (Dt (G a))/\∃ d',Gs (Ar g) d' G/\H=FM g s d':=by
 have hr:=Yg g s d a h.ok (by rw [h.len];exact ha);rw [h.read ha.1 ha.2] at hr;exact hr.mono fun r H hh=>⟨hh.1,d.req,h.req,hh.2⟩
theorem Qp (g:Geo) (s:Stt) (d:Dk) (G:Gr) (z:Int) (hg:Bq g=true) (hl:LogB s.txns) (ha:Bj g s.a=true) (h:Gs (Ar g) d G) (hF:∀ a,(G a).bytes.length<=100000) (h8:∀ a,(G a).err≠8) (hz:0<=z/\z<g.z) (hB:∀ p,CB s.txns z 255=some p->p.1.bytes.length<=100000/\(Ce g p.1.bytes).isSome=true) :
    ACalls Tryz.prog false 89 [.bp 0 0,iv z] (FM g s d) fun r H=>r=(match FO g s G z with | some t=>AV.tp [.ag [Bm t],iv 0] | none=> .tp [.ag [Bm []],iv 13])/\∃ d',Gs (Ar g) d' G/\H=FM g s d':=by
  have hf:=I0 s.txns z 255 hl.n hl.i;obtain⟨O,hO⟩:∃ O,O=FO g s G z:=⟨_,rfl⟩;rw [<-hO];unfold FO at hO;cases hL:CB s.txns z 255 with
  | some p=>
    obtain⟨x,q⟩:=p;rw [hL] at hf hO;simp only at hf hO;obtain⟨hx,ht⟩:=hB _ hL;obtain⟨t,ht⟩:=Cg.1 ht;have ht:Ce g x.bytes=some t:=ht;rw [ht] at hO;subst hO;have hr:=L6 g x.bytes hx;rw [hg,if_pos rfl,ht] at hr;refine zT tys_ok Tryz.func89 rfl rfl (Ae rfl) ?_;conv=>whnf
    refine ze9 [4] hf ?_;rintro _ _ ⟨rfl,rfl⟩;conv=>whnf
    refine zY hr ?_;exact⟨.tp [.ag [Bm t],iv 0], .tp [.ag [Bm t],iv 0],FM g s d,fun _ _ h=>h,zS (s:= [0,1,2,3,4]) tA,rfl,d,h,rfl⟩
  | none=>
    rw [hL] at hf hO;simp only at hf hO;have hR:=VQ s.a s.txns z (by have:=(KQ ha hz).1;omega) hl.n (fun t ht=>(hl.i t ht).1);refine zT tys_ok Tryz.func89 rfl rfl (Ae rfl) ?_;conv=>whnf
    refine ze9 [4] hf ?_;rintro _ _ ⟨rfl,rfl⟩;conv=>whnf
    apply zP tys_ok mixed (.o [0,1,2,3,4,5,6,7,8,9,10,11,12,13,14,15,16] .fin) [11,12,41,42,43,44,45,46,47,48,49,50,51,52,53,54,55] (by kernel_rfl)
    · conv=>whnf
      (refine zq (args':= [.ag (Ek s.a), .sl 4 s.txns.length fun i=>(s.txns.map CG).getD i [],iv z]) (hR.subA ⟨fun _ _ h=>h,AU (f:=CG) s.txns rfl rfl,fun _ _ h=>h,tv⟩) ⟨(Ab _).symm,rfl⟩ ?_;rintro _ rfl;refine⟨rfl,?_⟩)
      exact tA
    conv=>whnf
    have L:∀ k:Nat,k<2->g.an+2*g.sl<=AM g z (k:Nat)/\AM g z (k:Nat)<Ar g:=fun k hk=>by have:=G7 hg hz (k:=(k:Nat)) (by omega);omega
    refine zU (Nat × Dk) (fun x=>([(0, .bp 0 0),(1,iv z),(4, .bp 5 0),(11,iv (CN s.a s.txns z)),(56,iv (x.1:Nat))],FM g s x.2 ++ ([.box 145 [.v (.slice none 0 0)]]:List AB))) (fun x=>x.1<=2/\Gs (Ar g) x.2 G/\∀ j:Nat,j<x.1->BT g (G (AM g z (j:Nat))) (AM g z (j:Nat)) (CN s.a s.txns z)=none) (fun x=>2 - x.1) (0,d) ⟨Aj _,h,fun j hj=>absurd hj (Ap j)⟩
      (zS (s:= [0,1,2,3,4,5]) tA) ?_
    rintro⟨k,d1⟩ ⟨hk,F,C⟩;simp only at hk F C;conv=>whnf
    refine A5 (fun h6=>?_) (fun h6=>?_) <;> (repeat rw [Aa] at h6) <;> conv=>whnf
    · have J:k<2:=by omega
      have N:=Ks g z (k:Nat) hg hz (by omega);obtain⟨q1,q2⟩:=L k J;have W:=Aq.1 hg;have U:=SA g s d1 G (AM g z (k:Nat)) F (by omega);have I:=Ux g (G (AM g z (k:Nat))) (AM g z (k:Nat)) (CN s.a s.txns z) hg (hF _);repeat' (refine zZ ?_;conv=>whnf)
      refine zY N ?_;conv=>whnf
      repeat' (refine zZ ?_;conv=>whnf)
      refine ze9 [0,1,2,3,4] U ?_;rintro _ _ ⟨rfl,d2,K,rfl⟩;conv=>whnf
      rw [show ((G (AM g z (k:Nat))).err == 8)=false from beq_eq_false_iff_ne.2 (h8 _)];conv=>whnf
      repeat' (refine zZ ?_;conv=>whnf)
      have V:∀ u,BT g (G (AM g z (k:Nat))) (AM g z (k:Nat)) (CN s.a s.txns z)=some u->O=some u:=fun u hu=>by
        match k,J with
        | 0,_=>
          have hu:BT g (G (AM g z 0)) (AM g z 0) (CN s.a s.txns z)=some u:=hu;rw [hO,hu]
        | 1,_=>
          have h0:BT g (G (AM g z 0)) (AM g z 0) (CN s.a s.txns z)=none:=C 0 (by decide);have hu:BT g (G (AM g z 1)) (AM g z 1) (CN s.a s.txns z)=some u:=hu;rw [hO,h0];exact hu
      apply zX (0) tys_ok mixed (.o [0,1,2,3,4,5,6] (.two 7 (.o [8,9,10,11,12,13] .fin) 11 (.o [7,8,9,10,12,13] .fin))) (by kernel_rfl);refine Ad ?_ ?_;conv=>whnf
      refine zY I ?_;conv=>whnf
      try (refine tS ?_;conv=>whnf)
      rotate_left 1;conv=>whnf
      refine zY I ?_;conv=>whnf
      try (refine tS ?_;conv=>whnf)
      rotate_left 1;all_goals
        cases hT:BT g (G (AM g z (k:Nat))) (AM g z (k:Nat)) (CN s.a s.txns z)
      all_goals
        conv=>whnf
        first
        | exact⟨(k+1,d2),⟨by show k+1<=2;omega,K,fun j hj=>by by_cases e:j=k;exact e ▸ hT;exact C j (by have:j<k+1:=hj;omega)⟩,by show 2 - (k+1)<2 - k;omega,zS (s:= [0,1,2,3,4,5]) ⟨⟨rfl,rfl,rfl,rfl,AG (by omega),tv⟩,tA,rfl,rfl,rfl,rfl,rfl⟩⟩
        | (rename_i u
           rw [V _ hT];exact⟨.tp [.ag [Bm u],iv 0], .tp [.ag [Bm u],iv 0],FM g s d2,fun _ _ h=>h,zS (s:= [0,1,2,3,4]) tA,rfl,d2,K,rfl⟩)
    · have ek:k=2:=by omega
      subst ek;have h0:BT g (G (AM g z 0)) (AM g z 0) (CN s.a s.txns z)=none:=C 0 (by decide);have h1:BT g (G (AM g z 1)) (AM g z 1) (CN s.a s.txns z)=none:=C 1 (by decide);rw [h0] at hO;simp only at hO;rw [h1] at hO;subst hO;repeat' (refine zZ ?_;conv=>whnf)
      exact⟨_, .tp [.ag [Bm []],iv 13],FM g s d1,BN (m:= [.ag [Bm []],iv 13]) ⟨Bf ⟨Bg 3 _,tv⟩,ri,tv⟩,zS (s:= [0,1,2,3,4]) tA,rfl,d1,F,rfl⟩
theorem Ky (g:Geo) (s:Stt) (d:Dk) (G:Gr) (z w:Int) (t:List Ent) (hg:Bq g=true) (ha:Bj g s.a=true) (h:Gs (Ar g) d G) (hF:∀ a,(G a).bytes.length<=100000) (h8:∀ a,(G a).err≠8) (hz:0<=z/\z<g.z) (hw : -1<=w/\w<g.d) (ht:(t.length:Int)=g.d+1) :
  ACalls Tryz.prog false 91 [.bp 0 0,iv z,iv w, .ag [Bm t]] (FM g s d) fun r H=>r = .tp [bA ((D5 (G (Br g s.a z w)) (Br g s.a z w) (t.getD (EJ g w).toNat ez)).getD []),iv 0]/\∃ d',Gs (Ar g) d' G/\H=FM g s d':=by
 have f:=LT g s.a z w hg ha hz hw;obtain⟨sl,e1,e2⟩:=FJ hg ha hz (w:=w) hw;have I:=EV hg hz e2;have K:0<=EJ g w/\EJ g w<=g.d:=by have:=Aq.1 hg;unfold EJ;split <;> omega
 have C:=UI g w;obtain⟨X,hX⟩:∃ X,X=Br g s.a z w:=⟨_,rfl⟩;rw [<-hX] at f e1 |-
 have J:=EF hg;have i:=SA g s d G X h (by have:=Aq.1 hg;omega);have j:=U1 (G X) X (t.getD (EJ g w).toNat ez) (hF _);have ixA:0<=EJ g w/\EJ g w<(t.length:Nat):=by omega
 refine zT tys_ok Tryz.func91 rfl rfl (Ae rfl) ?_;conv=>whnf
 apply zP tys_ok mixed (.o [0,1,2,3,4,5,6,7,8,9,10,11,12,13,14,15,16] .fin) [10,11,15,16,17,18,19,20,21,22,23,24,25,26,27,28,29] (by kernel_rfl)
 ·conv=>whnf
  refine zY f ?_;exact tA
 conv=>whnf
 refine ze9 [0,1,2,3,4] i ?_;rintro _ _ ⟨rfl,d2,u,rfl⟩;conv=>whnf
 rw [show ((G X).err == 8)=false from beq_eq_false_iff_ne.2 (h8 X)];conv=>whnf
 repeat' (refine zZ ?_;conv=>whnf)
 apply zP tys_ok mixed (.o [0,1,2,3,4,5,6,7,8,9,10,11,12,13,14,15,16,17] .fin) [13,14,36,37,38,39,40,41,42,43,44,45,46,47,48,49,50,51] (by kernel_rfl)
 ·conv=>whnf
  refine zY C ?_;conv=>whnf
  try (refine Ad (by first | omega | exact ixA | exact ixB | (simp;done)) ?_;conv=>whnf)
  refine zY j ?_;exact tA
 conv=>whnf
 obtain⟨B,F⟩:∃ B,B=(D5 (G X) X (t.getD (EJ g w).toNat ez)).getD []:=⟨_,rfl⟩;rw [<-F];exact⟨.tp [bA B,iv 0], .tp [bA B,iv 0],FM g s d2,fun _ _ h=>h,zS (s:= [0,1,2,3,4]) tA,rfl,d2,u,rfl⟩
def Ws (g:Geo) (s:Stt) (G:Gr) (t:List Ent) (z:Int) (k:Nat):List (List UInt8):=(List.range k).map fun i=>Fu g s G t z (Z3 g i)
theorem KS (g:Geo) (s:Stt) (d:Dk) (G:Gr) (z:Int) (hg:Bq g=true) (hl:LogB s.txns) (ha:Bj g s.a=true) (h:Gs (Ar g) d G) (hF:∀ a,(G a).bytes.length<=100000) (h8:∀ a,(G a).err≠8) (hz:0<=z/\z<g.z) (hB:∀ p,CB s.txns z 255=some p->p.1.bytes.length<=100000/\(Ce g p.1.bytes).isSome=true) (t:List Ent) (ht:FO g s G z=some t) :
  ACalls Tryz.prog false 92 [.bp 0 0,iv z] (FM g s d) fun r H=>r = .tp [.ag [Bm t],E7 (Ff g s G t z),iv 0]/\∃ d',Gs (Ar g) d' G/\H=FM g s d':=by
 obtain⟨g1,g2,g3,g4,g5⟩:=Aq.1 hg;have hT:=Qp g s d G z hg hl ha h hF h8 hz hB;rw [ht] at hT;have F:=YS hg ht;have f:IntKind.i64.wrap (g.d+1)=g.d+1:=wi (by omega);refine zT tys_ok Tryz.func92 rfl rfl (Ae rfl) ?_;conv=>whnf
 refine ze9 [0,1,2,3,4] hT ?_;rintro _ _ ⟨rfl,d2,K,rfl⟩;conv=>whnf
 rw [f];refine zU (Nat × Dk) (fun x=>([(0, .bp 0 0),(1,iv z),(4, .bp 5 0),(5, .ow 6 x.1),(27,iv (g.d+1)),(28,iv (x.1:Nat))],FM g s x.2 ++ ([.box 145 [Bm t], .row 22 1 ((Ws g s G t z x.1).map Fm)]:List AB))) (fun x=>(x.1:Int)<=g.d+1/\Gs (Ar g) x.2 G) (fun x=>g.d.toNat+1 - x.1) (0,d2) ⟨by show ((0:Nat):Int)<=g.d+1;omega,K⟩
  ⟨_,_,zC _ _, [(5,22,1)],tA, [0,1,2,3,4,5,6],tA,tA,rfl,rfl,rfl,rfl,rfl⟩ ?_
 rintro⟨k,d1⟩ ⟨hk,f⟩;simp only at hk f;by_cases I:(k:Int)<g.d+1;rotate_left 1
 ·have ek:k=g.d.toNat+1:=by omega
  conv=>whnf
  rw [show decide ((k:Int)<g.d+1)=false from decide_eq_false I];conv=>whnf
  repeat' (refine zZ ?_;conv=>whnf)
  have J:(Ff g s G t z).length=g.d.toNat+1:=by simp [Ff]
  subst ek;exact⟨.tp [.ag [Bm t], .ow 6 (Ff g s G t z).length,iv 0], .tp [.ag [Bm t],E7 (Ff g s G t z),iv 0],FM g s d1,BN (m:= [.ag [Bm t], .ow 6 (Ff g s G t z).length,iv 0]) ⟨ri,by rw [J];exact fun _ _ h=>h,ri,tv⟩,zI (zQ (ConvF.sealTp 0 6 (es:=(Ff g s G t z).map Fm) (by rw [Ab];try rfl) (congrArg (fun L=>some (AB.row 22 1 (List.map Fm L))) rfl)) (zK 0 rfl (BN (m:= [.ag [Bm t],E7 (Ff g s G t z),iv 0]) ⟨ri,D6 (Ab _) rfl,ri,tv⟩))) (s:= [0,1,2,3,4]) tA,rfl,d1,f,rfl⟩
 ·conv=>whnf
  rw [show decide ((k:Int)<g.d+1)=true from decide_eq_true I];conv=>whnf
  repeat' (refine zZ ?_;conv=>whnf)
  by_cases j:(k:Int)=g.d
  ·rw [show (((k:Nat):Int) == g.d)=true by rw [j];simp];have e1:Z3 g k=(-1):=by unfold Z3;first | rw [if_pos j] | rw [if_neg j]
   have e2:(Ws g s G t z k).map Fm ++ [Fm (Fu g s G t z (-1))]=(Ws g s G t z (k+1)).map Fm:=by rw [<-e1];simp [Ws,Bp]
   have hf:=I0 s.txns z (-1) hl.n hl.i;have u:(Ws g s G t z k).length=k:=by simp [Ws]
   cases hL:CB s.txns z (-1) with
   | some p=>
    rw [hL] at hf;simp only at hf;have e3:Fu g s G t z (-1)=p.1.bytes:=by unfold Fu;rw [hL]
    rw [e3] at e2;conv=>whnf
    repeat' (refine zZ ?_;conv=>whnf)
    refine ze9 [4] hf ?_;rintro _ _ ⟨rfl,rfl⟩;conv=>whnf
    repeat' (refine zZ ?_;conv=>whnf)
    refine⟨rfl,?_⟩;refine⟨⟨by rw [Ab,u],by omega⟩,?_⟩;conv=>whnf
    exact⟨(k+1,d1),⟨by show ((k+1:Nat):Int)<=g.d+1;omega,f⟩,by show g.d.toNat+1 - (k+1)<g.d.toNat+1 - k;omega,zS (s:= [0,1,2,3,4,5,6]) ⟨⟨rfl,rfl,rfl,rfl,rfl,AG (by omega),tv⟩,⟨rfl,rfl,rfl,rfl,rfl,rfl,congrArg (fun es=>some (AB.row 22 1 es)) e2,tv⟩,rfl,rfl,rfl,rfl,rfl⟩⟩
   | none=>
    rw [hL] at hf;simp only at hf;have e3:Fu g s G t z (-1)=(D5 (G (Br g s.a z (-1))) (Br g s.a z (-1)) (t.getD (EJ g (-1)).toNat ez)).getD []:=by unfold Fu;rw [hL]
    have hh:=Ky g s d1 G z (-1) t hg ha f hF h8 hz (by omega) F;rw [<-e3] at hh;conv=>whnf
    repeat' (refine zZ ?_;conv=>whnf)
    refine ze9 [4] hf ?_;rintro _ _ ⟨rfl,rfl⟩;conv=>whnf
    repeat' (refine zZ ?_;conv=>whnf)
    refine ze9 [0,1,2,3,4] hh ?_;rintro _ _ ⟨rfl,d3,C,rfl⟩;conv=>whnf
    repeat' (refine zZ ?_;conv=>whnf)
    refine⟨rfl,?_⟩;refine⟨⟨by rw [Ab,u],by omega⟩,?_⟩;conv=>whnf
    exact⟨(k+1,d3),⟨by show ((k+1:Nat):Int)<=g.d+1;omega,C⟩,by show g.d.toNat+1 - (k+1)<g.d.toNat+1 - k;omega,zS (s:= [0,1,2,3,4,5,6]) ⟨⟨rfl,rfl,rfl,rfl,rfl,AG (by omega),tv⟩,⟨rfl,rfl,rfl,rfl,rfl,rfl,congrArg (fun es=>some (AB.row 22 1 es)) e2,tv⟩,rfl,rfl,rfl,rfl,rfl⟩⟩
  ·rw [show (((k:Nat):Int) == g.d)=false from beq_eq_false_iff_ne.2 j];have e1:Z3 g k=((k:Nat):Int):=by unfold Z3;first | rw [if_pos j] | rw [if_neg j]
   have e2:(Ws g s G t z k).map Fm ++ [Fm (Fu g s G t z ((k:Nat):Int))]=(Ws g s G t z (k+1)).map Fm:=by rw [<-e1];simp [Ws,Bp]
   have hf:=I0 s.txns z ((k:Nat):Int) hl.n hl.i;have u:(Ws g s G t z k).length=k:=by simp [Ws]
   cases hL:CB s.txns z ((k:Nat):Int) with
   | some p=>
    rw [hL] at hf;simp only at hf;have e3:Fu g s G t z ((k:Nat):Int)=p.1.bytes:=by unfold Fu;rw [hL]
    rw [e3] at e2;conv=>whnf
    repeat' (refine zZ ?_;conv=>whnf)
    refine ze9 [4] hf ?_;rintro _ _ ⟨rfl,rfl⟩;conv=>whnf
    repeat' (refine zZ ?_;conv=>whnf)
    refine⟨rfl,?_⟩;refine⟨⟨by rw [Ab,u],by omega⟩,?_⟩;conv=>whnf
    exact⟨(k+1,d1),⟨by show ((k+1:Nat):Int)<=g.d+1;omega,f⟩,by show g.d.toNat+1 - (k+1)<g.d.toNat+1 - k;omega,zS (s:= [0,1,2,3,4,5,6]) ⟨⟨rfl,rfl,rfl,rfl,rfl,AG (by omega),tv⟩,⟨rfl,rfl,rfl,rfl,rfl,rfl,congrArg (fun es=>some (AB.row 22 1 es)) e2,tv⟩,rfl,rfl,rfl,rfl,rfl⟩⟩
   | none=>
    rw [hL] at hf;simp only at hf;have e3:Fu g s G t z ((k:Nat):Int)=(D5 (G (Br g s.a z ((k:Nat):Int))) (Br g s.a z ((k:Nat):Int)) (t.getD (EJ g ((k:Nat):Int)).toNat ez)).getD []:=by unfold Fu;rw [hL]
    have hh:=Ky g s d1 G z ((k:Nat):Int) t hg ha f hF h8 hz (by omega) F;rw [<-e3] at hh;conv=>whnf
    repeat' (refine zZ ?_;conv=>whnf)
    refine ze9 [4] hf ?_;rintro _ _ ⟨rfl,rfl⟩;conv=>whnf
    repeat' (refine zZ ?_;conv=>whnf)
    refine ze9 [0,1,2,3,4] hh ?_;rintro _ _ ⟨rfl,d3,C,rfl⟩;conv=>whnf
    repeat' (refine zZ ?_;conv=>whnf)
    refine⟨rfl,?_⟩;refine⟨⟨by rw [Ab,u],by omega⟩,?_⟩;conv=>whnf
    exact⟨(k+1,d3),⟨by show ((k+1:Nat):Int)<=g.d+1;omega,C⟩,by show g.d.toNat+1 - (k+1)<g.d.toNat+1 - k;omega,zS (s:= [0,1,2,3,4,5,6]) ⟨⟨rfl,rfl,rfl,rfl,rfl,AG (by omega),tv⟩,⟨rfl,rfl,rfl,rfl,rfl,rfl,congrArg (fun es=>some (AB.row 22 1 es)) e2,tv⟩,rfl,rfl,rfl,rfl,rfl⟩⟩
def IA (t:List Ent) (had:List (List UInt8)) (but:Nat):Nat->Option (List (List UInt8))
 | 0=>some []
 | k+1=>match IA t had but k with
  | none=>none
  | some l=>if k=but\/(t.getD k ez).lost=true then some l else if (had.getD k []).length=0 then none else some (l ++ [had.getD k []])
theorem Sy (t:List Ent) (had:List (List UInt8)) (but:Nat):∀ k,DA t had but k=(IA t had but k).map Gn
 | 0=>rfl
 | k+1=>by
  rw [DA,IA,Sy t had but k];cases IA t had but k with
  | none=>rfl
  | some l=>
   simp only [Option.map_some];split
   ·rfl
   ·split
    ·rfl
    ·simp [Gn]
theorem Nq {t:List Ent} {had:List (List UInt8)} {but k:Nat} (h:IA t had but k=none):∀ m,k<=m->IA t had but m=none
 | 0,hm=>by rwa [show k=0 by omega] at h
 | m+1,hm=>by
  by_cases e:k=m+1
  ·rw [<-e];exact h
  ·rw [IA,Nq h m (by omega)]
theorem LU {t:List Ent} {had:List (List UInt8)} {but:Nat} (h8:∀ b∈had,b.length=0\/b.length=8):∀ k l,k<=had.length->IA t had but k=some l->l.length<=k/\∀ b∈l,b.length=8
 | 0,l,_,h=>by
  obtain rfl:=Option.some.inj h;exact⟨Ah _,fun b hb=>by cases hb⟩
 | k+1,l,hk,h=>by
  rw [IA] at h;cases ho:IA t had but k with
  | none=>rw [ho] at h;cases h
  | some m=>
   rw [ho] at h;simp only at h;obtain⟨q1,q2⟩:=LU h8 k m (by omega) ho;split at h
   ·obtain rfl:=Option.some.inj h;exact⟨by omega,q2⟩
   ·split at h
    ·cases h
    ·rename_i hz;obtain rfl:=Option.some.inj h;refine⟨by rw [Ai,List.length_singleton];omega,fun b hb=>?_⟩;rcases A6.1 hb with q | q
     ·exact q2 b q
     ·rw [A2] at q;rw [q];rcases h8 _ (A3 (d:=([]:List UInt8)) (show k<had.length by omega)) with e | e
      ·exact absurd e hz
      ·exact e
@[reducible] def zlR (g:Geo) (t:List Ent) (had l:List (List UInt8)):List AB:= [.box 348 [iv g.d,Bm t,E7 had], .row 22 1 (l.map Fm)]
theorem QB (g:Geo) (t:List Ent) (had:List (List UInt8)) (but:Nat) (hg:Bq g=true) (j:(t.length:Int)=g.d+1) (hh:(had.length:Int)=g.d+1) (C:(but:Int)<=g.d) (h8:∀ b∈had,b.length=0\/b.length=8):ACalls Tryz.prog false 245 [.bp 0 0,iv (but:Nat)] (zlH g t had) fun r H=>match IA t had but g.d.toNat with
  | some l=>r = .tp [.ow 1 l.length, .v (.bool true)]/\H=zlR g t had l
  | none=>r = .tp [.v (.slice none 0 0), .v (.bool false)]/\H=zlH g t had:=by
 obtain⟨g1,g2,g3,g4,g5⟩:=Aq.1 hg;refine zT tys_ok Tryz.func245 rfl rfl (Ae rfl) ?_;conv=>whnf
 refine zU (Nat × List (List UInt8)) (fun x=>([(0, .bp 0 0),(1,iv (but:Nat)),(6, .ow 1 x.2.length),(11,iv g.d),(12,iv (x.1:Nat))],zlR g t had x.2)) (fun x=>x.1<=g.d.toNat/\IA t had but x.1=some x.2) (fun x=>g.d.toNat - x.1) (0, []) ⟨Aj _,rfl⟩
  ⟨_,_,zC _ _, [(6,22,1)],tA, [0,1],tA,tA,rfl,rfl,rfl,rfl,rfl⟩ ?_
 rintro⟨k,l⟩ ⟨hk,hl⟩;simp only at hk hl;obtain⟨u, -⟩:=LU h8 k l (by omega) hl;by_cases i:k<g.d.toNat;rotate_left 1
 ·have ek:k=g.d.toNat:=by omega
  subst ek;rw [hl];conv=>whnf
  rw [show decide (((g.d.toNat:Nat):Int)<g.d)=false from decide_eq_false (by omega)];conv=>whnf
  repeat' (refine zZ ?_;conv=>whnf)
  exact⟨_, .tp [.ow 1 l.length, .v (.bool true)],zlR g t had l,fun _ _ h=>h,zS (s:= [0,1]) tA,rfl,rfl⟩
 ·have hs:IA t had but (k+1)=if k=but\/(t.getD k ez).lost=true then some l else if (had.getD k []).length=0 then none else some (l ++ [had.getD k []]):=by rw [IA,hl]
  have ixA:(0:Int)<=(k:Nat)/\((k:Nat):Int)<(t.length:Nat):=by omega
  have ixB:(0:Int)<=(k:Nat)/\((k:Nat):Int)<(had.length:Nat):=by omega
  conv=>whnf
  rw [show decide ((k:Int)<g.d)=true from decide_eq_true (by omega)];conv=>whnf
  repeat' (refine zZ ?_;conv=>whnf)
  by_cases he:k=but
  ·rw [if_pos (.inl he)] at hs;rw [show (((k:Nat):Int) == ((but:Nat):Int))=true from beq_iff_eq.2 (by rw [he])];conv=>whnf
   repeat' (refine zZ ?_;conv=>whnf)
   exact⟨(k+1,l),⟨i,hs⟩,by show g.d.toNat - (k+1)<g.d.toNat - k;omega,zS (s:= [0,1]) ⟨⟨rfl,rfl,rfl,rfl,AG (by omega),tv⟩,tA,rfl,rfl,rfl,rfl,rfl⟩⟩
  ·rw [show (((k:Nat):Int) == ((but:Nat):Int))=false from beq_eq_false_iff_ne.2 (by omega)];refine⟨ixA,?_⟩;conv=>whnf
   rw [Aa];by_cases f:(t.getD k ez).lost=true
   ·rw [if_pos (.inr f)] at hs;rw [show (t.getD k ⟨0,0,false⟩).lost=true from f];conv=>whnf
    repeat' (refine zZ ?_;conv=>whnf)
    exact⟨(k+1,l),⟨i,hs⟩,by show g.d.toNat - (k+1)<g.d.toNat - k;omega,zS (s:= [0,1]) ⟨⟨rfl,rfl,rfl,rfl,AG (by omega),tv⟩,tA,rfl,rfl,rfl,rfl,rfl⟩⟩
   ·rw [if_neg (fun q=>q.elim he f)] at hs;rw [show (t.getD k ⟨0,0,false⟩).lost=false from Bool.eq_false_iff.2 f];conv=>whnf
    repeat' (refine zZ ?_;conv=>whnf)
    refine⟨ixB,?_⟩;conv=>whnf
    rw [Aa];by_cases h0:(had.getD k []).length=0
    ·rw [if_pos h0] at hs;rw [show (((had.getD k []).length:Int) == 0)=true by rw [h0];try rfl];rw [Nq hs g.d.toNat (by omega)];exact⟨_, .tp [.v (.slice none 0 0), .v (.bool false)],zlH g t had,fun _ _ h=>h,zS (s:= [0]) tA,rfl,rfl⟩
    ·rw [if_neg h0] at hs;rw [show (((had.getD k []).length:Int) == 0)=false from beq_eq_false_iff_ne.2 (by omega)];conv=>whnf
     repeat' (refine zZ ?_;conv=>whnf)
     refine⟨ixB,?_⟩;conv=>whnf
     rw [Aa];refine⟨rfl,?_⟩;conv=>whnf
     refine Ad ⟨by rw [Ab],by show l.length+1<=1000000000;omega⟩ ?_;conv=>whnf
     exact⟨(k+1,l ++ [had.getD k []]),⟨i,hs⟩,by show g.d.toNat - (k+1)<g.d.toNat - k;omega,zS (s:= [0,1]) ⟨⟨rfl,rfl,congrArg (AV.ow 1) (show l.length+1=(l ++ [had.getD k []]).length by rw [Ai];try rfl),rfl,AG (by omega),tv⟩,⟨rfl,congrArg (fun z=>some (AB.row 22 1 z)) (show l.map Fm ++ [Fm (had.getD k [])]=(l ++ [had.getD k []]).map Fm by rw [A8];try rfl),tv⟩,rfl,rfl,rfl,rfl,rfl⟩⟩
theorem OY (g:Geo) (t:List Ent) (had:List (List UInt8)) (b:List UInt8) (i:Nat) (hi:i<t.length):ACalls Tryz.prog false 246 [.bp 0 0,bA b,iv (i:Nat)] (zlH g t had) fun r H=>(if ((C3 b:Nat):Int)=(t.getD i ez).sum then r = .tp [bA b, .v (.bool true)] else r = .tp [bA [], .v (.bool false)])/\H=zlH g t had:=by
 have h1:=Jo b;have ixA:(0:Int)<=(i:Nat)/\((i:Nat):Int)<(t.length:Nat):=by omega
 by_cases he:((C3 b:Nat):Int)=(t.getD i ez).sum
 ·simp only [if_pos he];refine zT tys_ok Tryz.func246 rfl rfl (Ae rfl) ?_;conv=>whnf
  apply zX (0) tys_ok mixed (.o [0,2,3,4,5,6,7,8,9,10,1,11] .fin) (by kernel_rfl);conv=>whnf
  try (refine tI ?_;conv=>whnf)
  refine zY h1 ?_;conv=>whnf
  all_goals
   rw [Aa,show (((C3 b:Nat):Int) != (t.getD i ⟨0,0,false⟩).sum)=false from bne_eq_false_iff_eq.2 he];exact⟨_, .tp [bA b, .v (.bool true)],zlH g t had,fun _ _ h=>h,zS (s:= [0]) tA,rfl,rfl⟩
 ·simp only [if_neg he];refine zT tys_ok Tryz.func246 rfl rfl (Ae rfl) ?_;conv=>whnf
  apply zX (0) tys_ok mixed (.o [0,2,3,4,5,6,7,8,9,10,1,11] .fin) (by kernel_rfl);conv=>whnf
  try (refine tI ?_;conv=>whnf)
  refine zY h1 ?_;conv=>whnf
  all_goals
   rw [Aa,show (((C3 b:Nat):Int) != (t.getD i ⟨0,0,false⟩).sum)=true from bne_iff_ne.2 he];exact⟨_, .tp [bA [], .v (.bool false)],zlH g t had,BN (m:= [bA [], .v (.bool false)]) ⟨Bg 1 _,ri,tv⟩,zS (s:= [0]) tA,rfl,rfl⟩
theorem Lu (g:Geo) (t:List Ent) (had:List (List UInt8)) (i:Nat) (hg:Bq g=true) (ht:FK g t=true) (hh:(had.length:Int)=g.d+1) (h8:∀ b∈had,b.length=0\/b.length=8) (hi:(i:Int)<=g.d):ACalls Tryz.prog false 169 [.bp 0 0,iv (i:Nat)] (zlH g t had) fun r H=>r = .tp [bA (BO g t had i), .v (.bool (decide (0<(BO g t had i).length)))]/\H=zlH g t had:=by
 obtain⟨g1,g2,g3,g4,g5⟩:=Aq.1 hg;have L:=Gy ht;have ixA:(0:Int)<=(i:Nat)/\((i:Nat):Int)<(t.length:Nat):=by omega
 have ixB:(0:Int)<=(i:Nat)/\((i:Nat):Int)<(had.length:Nat):=by omega
 have O:(t.getD g.d.toNat ez).lost=false:=by
  have K:g.d.toNat<t.length:=by omega
  have:=ht;simp only [FK,G8,Ag K,Option.map_some,BH,Af] at this;rw [Ac,Ag K];simpa using this.2
 by_cases j:(t.getD i ez).lost=true
 ·have hk:BO g t had i=[]:=by unfold BO;rw [if_pos j]
  rw [hk];refine zT tys_ok Tryz.func169 rfl rfl (Ae rfl) ?_;refine⟨ixA,?_⟩;conv=>whnf
  rw [Aa,show (t.getD i ⟨0,0,false⟩).lost=true from j];exact⟨_, .tp [bA [], .v (.bool false)],zlH g t had,BN (m:= [bA [], .v (.bool false)]) ⟨Bg 1 _,ri,tv⟩,zS (s:= [0]) tA,rfl,rfl⟩
 have j:(t.getD i ez).lost=false:=Bool.eq_false_iff.2 j;by_cases h0:0<(had.getD i []).length
 ·have hb:(had.getD i []).length=8:=by
   rcases h8 _ (A3 (d:=([]:List UInt8)) (show i<had.length by omega)) with e | e <;> omega
  have hk:BO g t had i=had.getD i []:=by unfold BO;rw [j,if_neg (by decide),if_pos h0]
  have hc:=BL (had.getD i []) (by omega);rw [hk,decide_eq_true h0];refine zT tys_ok Tryz.func169 rfl rfl (Ae rfl) ?_;refine⟨ixA,?_⟩;conv=>whnf
  rw [Aa,show (t.getD i ⟨0,0,false⟩).lost=false from j];refine⟨ixB,?_⟩;conv=>whnf
  rw [show decide ((((had.getD (((i:Nat):Int)).toNat []).length:Nat):Int) > 0)=true from decide_eq_true (by rw [Aa];omega)];refine⟨ixB,?_⟩;conv=>whnf
  refine zY hc ?_;exact⟨_, .tp [bA (had.getD i []), .v (.bool true)],zlH g t had,fun _ _ h=>h,zS (s:= [0]) tA,rfl,rfl⟩
 have z:=QB g t had i hg L hh hi h8;have f:BO g t had i=match DA t had i (g.d.toNat+1) with
   | none=> []
   | some b=>if ((C3 b:Nat):Int)=(t.getD i ez).sum then b else []:=by
  unfold BO;rw [j,if_neg (by decide),if_neg h0];try rfl
 rw [Sy,IA] at f;have ixC:(0:Int)<=g.d/\g.d<(had.length:Nat):=by omega
 cases hO:IA t had i g.d.toNat with
 | none=>
  rw [hO] at z f;simp only at z;have hk:BO g t had i=[]:=f;rw [hk];refine zT tys_ok Tryz.func169 rfl rfl (Ae rfl) ?_;refine⟨ixA,?_⟩;conv=>whnf
  rw [Aa,show (t.getD i ⟨0,0,false⟩).lost=false from j];refine⟨ixB,?_⟩;conv=>whnf
  rw [show decide ((((had.getD (((i:Nat):Int)).toNat []).length:Nat):Int) > 0)=false from decide_eq_false (by rw [Aa];omega)];conv=>whnf
  refine ze9 [0] z ?_;rintro _ _ ⟨rfl,rfl⟩;conv=>whnf
  repeat' (refine zZ ?_;conv=>whnf)
  by_cases u:(i:Int)<g.d
  ·rw [show decide (((i:Nat):Int)<g.d)=true from decide_eq_true u];conv=>whnf
   apply zX (0) tys_ok mixed (.o [0,1,2,3,4,5,6,7,8,9,10,11,12,13] .fin) (by kernel_rfl);conv=>whnf
   try (refine tI ?_;conv=>whnf)
   try (refine tJ ?_;conv=>whnf)
   try (refine tK ?_;conv=>whnf)
   all_goals
    conv=>whnf
    repeat' (refine zZ ?_;conv=>whnf)
    apply zX (0) tys_ok mixed (.o [0,1,2,3,4,5,6,7,8,9,10,11,12,13,14,15,16,17,18,19,20,21,22,23] .fin) (by kernel_rfl);conv=>whnf
    try (refine tI ?_;conv=>whnf)
    all_goals exact⟨_, .tp [bA [], .v (.bool false)],zlH g t had,BN (m:= [bA [], .v (.bool false)]) ⟨Bg 1 _,ri,tv⟩,zS (s:= [0]) tA,rfl,rfl⟩
  ·rw [show decide (((i:Nat):Int)<g.d)=false from decide_eq_false u];conv=>whnf
   apply zX (0) tys_ok mixed (.o [0,1,2,3,4,5,6,7,8,9,10,11,12,13,14,15,16,17,18,19,20,21,22,23] .fin) (by kernel_rfl);conv=>whnf
   try (refine tI ?_;conv=>whnf)
   all_goals exact⟨_, .tp [bA [], .v (.bool false)],zlH g t had,BN (m:= [bA [], .v (.bool false)]) ⟨Bg 1 _,ri,tv⟩,zS (s:= [0]) tA,rfl,rfl⟩
 | some l=>
  rw [hO] at z f;simp only at z f;obtain⟨U,I⟩:=LU h8 _ l (by omega) hO;have fin:∀ m:List (List UInt8),(∀ b∈m,b.length=8)->BO g t had i=(if ((C3 (Gn m):Nat):Int)=(t.getD i ez).sum then Gn m else [])->∀ r H,((if ((C3 (Gn m):Nat):Int)=(t.getD i ez).sum then r=AV.tp [bA (Gn m), .v (.bool true)] else r = .tp [bA [], .v (.bool false)])/\H=zlH g t had)->r = .tp [bA (BO g t had i), .v (.bool (decide (0<(BO g t had i).length)))]/\H=zlH g t had:=fun m hm e r H hh=>by
   rw [e];by_cases hq:((C3 (Gn m):Nat):Int)=(t.getD i ez).sum
   ·rw [if_pos hq] at hh |-
    rw [hh.1,show (Gn m).length=8 from xorL_len _ _ rfl hm];exact⟨rfl,hh.2⟩
   ·rw [if_neg hq] at hh |-
    exact⟨hh.1,hh.2⟩
  by_cases u:(i:Int)<g.d;rotate_left 1
  ·have ei:g.d.toNat=i:=by omega
   rw [if_pos (.inl ei)] at f;have F:=NY l (by omega) I;have G:=(OY g t had (Gn l) i (by omega)).mono (fin l I f);refine zT tys_ok Tryz.func169 rfl rfl (Ae rfl) ?_;refine⟨ixA,?_⟩;conv=>whnf
   rw [Aa,show (t.getD i ⟨0,0,false⟩).lost=false from j];refine⟨ixB,?_⟩;conv=>whnf
   rw [show decide ((((had.getD (((i:Nat):Int)).toNat []).length:Nat):Int) > 0)=false from decide_eq_false (by rw [Aa];omega)];conv=>whnf
   refine ze9 [0] z ?_;rintro _ _ ⟨rfl,rfl⟩;conv=>whnf
   repeat' (refine zZ ?_;conv=>whnf)
   rw [show decide (((i:Nat):Int)<g.d)=false from decide_eq_false u];conv=>whnf
   apply zX (0) tys_ok mixed (.o [0,1,2,3,4,5,6,7,8,9,10,11,12,13,14,15,16,17,18,19,20,21,22,23] .fin) (by kernel_rfl);conv=>whnf
   try (refine tI ?_;conv=>whnf)
   all_goals
    rw [show decide (((i:Nat):Int)<g.d)=false from decide_eq_false u];conv=>whnf
    repeat' (refine zZ ?_;conv=>whnf)
    refine Fn.shut (args':= [.sl 1 l.length fun i=>(l.map Fm).getD i [],iv 8]) (F.subA ⟨D6 rfl rfl,fun _ _ h=>h,tv⟩) ⟨by rw [Ab],rfl,?_⟩;rintro _ rfl;conv=>whnf
    repeat' (refine zZ ?_;conv=>whnf)
    refine ze9 [0] G ?_;rintro _ _ ⟨rfl,rfl⟩;exact⟨_, .tp [bA (BO g t had i), .v (.bool (decide (0<(BO g t had i).length)))],zlH g t had,fun _ _ h=>h,zS (s:= [0]) tA,rfl,rfl⟩
  ·have ne:¬(g.d.toNat=i\/(t.getD g.d.toNat ez).lost=true):=fun q=>q.elim (by omega) (by rw [O];decide)
   rw [if_neg ne] at f;by_cases C:(had.getD g.d.toNat []).length=0
   ·rw [if_pos C] at f;have hk:BO g t had i=[]:=f;rw [hk];refine zT tys_ok Tryz.func169 rfl rfl (Ae rfl) ?_;refine⟨ixA,?_⟩;conv=>whnf
    rw [Aa,show (t.getD i ⟨0,0,false⟩).lost=false from j];refine⟨ixB,?_⟩;conv=>whnf
    rw [show decide ((((had.getD (((i:Nat):Int)).toNat []).length:Nat):Int) > 0)=false from decide_eq_false (by rw [Aa];omega)];conv=>whnf
    refine ze9 [0] z ?_;rintro _ _ ⟨rfl,rfl⟩;conv=>whnf
    repeat' (refine zZ ?_;conv=>whnf)
    rw [show decide (((i:Nat):Int)<g.d)=true from decide_eq_true u];conv=>whnf
    apply zX (0) tys_ok mixed (.o [0,1,2,3,4,5,6,7,8,9,10,11,12,13] .fin) (by kernel_rfl);conv=>whnf
    try (refine tI ?_;conv=>whnf)
    try (refine tJ ?_;conv=>whnf)
    try (refine tK ?_;conv=>whnf)
    all_goals
     conv=>whnf
     repeat' (refine zZ ?_;conv=>whnf)
     apply zX (0) tys_ok mixed (.o [0,1,2,3,4,5,6,7,8,9,10,11,12,13,14,15,16,17,18,19,20,21,22,23] .fin) (by kernel_rfl);conv=>whnf
     try (refine tI ?_;conv=>whnf)
     all_goals
      rw [show decide (((i:Nat):Int)<g.d)=true from decide_eq_true u];refine⟨ixC,?_⟩;conv=>whnf
      rw [show (((had.getD g.d.toNat []).length:Int) == 0)=true by rw [C];try rfl];conv=>whnf
      repeat' (refine zZ ?_;conv=>whnf)
      exact⟨_, .tp [bA [], .v (.bool false)],zlH g t had,BN (m:= [bA [], .v (.bool false)]) ⟨Bg 1 _,ri,tv⟩,zS (s:= [0]) tA,rfl,rfl⟩
   ·rw [if_neg C] at f;have N:(had.getD g.d.toNat []).length=8:=by
     rcases h8 _ (A3 (d:=([]:List UInt8)) (show g.d.toNat<had.length by omega)) with e | e
     ·exact absurd e C
     ·exact e
    have J:∀ b∈l ++ [had.getD g.d.toNat []],b.length=8:=fun b hb=>by
     rcases A6.1 hb with q | q
     ·exact I b q
     ·rw [A2] at q;rw [q];exact N
    have F:=NY (l ++ [had.getD g.d.toNat []]) (by rw [Ai,List.length_singleton];omega) J;have G:=(OY g t had (Gn (l ++ [had.getD g.d.toNat []])) i (by omega)).mono (fin _ J f);refine zT tys_ok Tryz.func169 rfl rfl (Ae rfl) ?_;refine⟨ixA,?_⟩;conv=>whnf
    rw [Aa,show (t.getD i ⟨0,0,false⟩).lost=false from j];refine⟨ixB,?_⟩;conv=>whnf
    rw [show decide ((((had.getD (((i:Nat):Int)).toNat []).length:Nat):Int) > 0)=false from decide_eq_false (by rw [Aa];omega)];conv=>whnf
    refine ze9 [0] z ?_;rintro _ _ ⟨rfl,rfl⟩;conv=>whnf
    repeat' (refine zZ ?_;conv=>whnf)
    rw [show decide (((i:Nat):Int)<g.d)=true from decide_eq_true u];conv=>whnf
    apply zX (0) tys_ok mixed (.o [0,1,2,3,4,5,6,7,8,9,10,11,12,13] .fin) (by kernel_rfl);conv=>whnf
    try (refine tI ?_;conv=>whnf)
    try (refine tJ ?_;conv=>whnf)
    try (refine tK ?_;conv=>whnf)
    all_goals
     conv=>whnf
     repeat' (refine zZ ?_;conv=>whnf)
     apply zX (0) tys_ok mixed (.o [0,1,2,3,4,5,6,7,8,9,10,11,12,13,14,15,16,17,18,19,20,21,22,23] .fin) (by kernel_rfl);conv=>whnf
     try (refine tI ?_;conv=>whnf)
     all_goals
      rw [show decide (((i:Nat):Int)<g.d)=true from decide_eq_true u];refine⟨ixC,?_⟩;conv=>whnf
      rw [show (((had.getD g.d.toNat []).length:Int) == 0)=false from beq_eq_false_iff_ne.2 (by omega)];conv=>whnf
      repeat' (refine zZ ?_;conv=>whnf)
      refine Fn.shut (args':= [.sl 1 (l.length+1) fun i=>(l.map Fm ++ [Fm (had.getD g.d.toNat [])]).getD i [],iv 8]) (F.subA ⟨D6 (by rw [Ai];try rfl) (by rw [A8];try rfl),fun _ _ h=>h,tv⟩) ⟨by rw [Ai,Ab];try rfl,rfl,?_⟩;rintro _ rfl;conv=>whnf
      repeat' (refine zZ ?_;conv=>whnf)
      refine ze9 [0] G ?_;rintro _ _ ⟨rfl,rfl⟩;exact⟨_, .tp [bA (BO g t had i), .v (.bool (decide (0<(BO g t had i).length)))],zlH g t had,fun _ _ h=>h,zS (s:= [0]) tA,rfl,rfl⟩
theorem Lw (g:Geo) (t:List Ent) (had:List (List UInt8)) (hg:Bq g=true) (ht:FK g t=true) (hh:(had.length:Int)=g.d+1) (h8:∀ b∈had,b.length=0\/b.length=8):ACalls Tryz.prog false 168 [.ag (AK g), .ag [Bm t],E7 had] [] fun r H=>r = .tp [.bp 0 0,iv 0]/\H=zlH g t had:=by
 obtain⟨g1,g2,g3,g4,g5⟩:=Aq.1 hg;have f:=Gy ht;have hc:=M_ g t (by omega);rw [ht] at hc;have hz:=YK had (by omega);have e:(had.any fun b=>((((b.length:Nat):Int) != 0)&&(((b.length:Nat):Int) != 8)))=false:=by
  rw [List.any_eq_false];intro b hb;rcases h8 b hb with e | e <;> rw [e] <;> decide
 rw [e] at hz;refine zT tys_ok Tryz.func168 rfl rfl (Ae rfl) ?_;conv=>whnf
 refine zY hc ?_;conv=>whnf
 rw [show (((had.length:Nat):Int) != IntKind.i64.wrap (g.d+1))=false from bne_eq_false_iff_eq.2 (by rw [wi (by omega)];exact hh)];conv=>whnf
 refine zY hz ?_;exact⟨_, .tp [.bp 0 0,iv 0],zlH g t had,fun _ _ h=>h,zS (s:= [2]) tA,rfl,rfl⟩
theorem QC (g:Geo) (t:List Ent) (had:List (List UInt8)) (i:Nat) (hg:Bq g=true) (ht:FK g t=true) (hh:(had.length:Int)=g.d+1) (h8:∀ b∈had,b.length=0\/b.length=8) (hi:(i:Int)<g.d):Fn Tryz.prog 93 [.ag (AK g), .ag [Bm t],E7 had,iv (i:Nat)] fun r=>r=if 0<(BO g t had i).length then .tp [bA (BO g t had i),iv 0] else .tp [bA [],iv 13]:=by
 obtain⟨g1,g2,g3,g4,g5⟩:=Aq.1 hg;have hb:=Lw g t had hg ht hh h8;have hk:=Lu g t had i hg ht hh h8 (by omega);have t1:decide (((i:Nat):Int) < -1)=false:=decide_eq_false (by omega);have t2:decide (((i:Nat):Int)>=g.d)=false:=decide_eq_false (by omega);have t3:(((i:Nat):Int) == -1)=false:=beq_eq_false_iff_ne.2 (by omega);by_cases hq:0<(BO g t had i).length
 ·rw [decide_eq_true hq] at hk;rw [if_pos hq];refine zR Tryz.func93 rfl ?_;conv=>whnf
  refine zW hb rfl ?_;rintro _ _ ⟨rfl,rfl⟩;conv=>whnf
  repeat' (refine zZ ?_;conv=>whnf)
  rw [t1];conv=>whnf
  rw [t2];conv=>whnf
  repeat' (refine zZ ?_;conv=>whnf)
  rw [t3];conv=>whnf
  repeat' (refine zZ ?_;conv=>whnf)
  refine ze9 [2] hk ?_;rintro _ _ ⟨rfl,rfl⟩;conv=>whnf
  repeat' (refine zZ ?_;conv=>whnf)
  exact⟨_,ri,rfl⟩
 ·rw [decide_eq_false hq] at hk;rw [if_neg hq];refine zR Tryz.func93 rfl ?_;conv=>whnf
  refine zW hb rfl ?_;rintro _ _ ⟨rfl,rfl⟩;conv=>whnf
  repeat' (refine zZ ?_;conv=>whnf)
  rw [t1];conv=>whnf
  rw [t2];conv=>whnf
  repeat' (refine zZ ?_;conv=>whnf)
  rw [t3];conv=>whnf
  repeat' (refine zZ ?_;conv=>whnf)
  refine ze9 [2] hk ?_;rintro _ _ ⟨rfl,rfl⟩;conv=>whnf
  repeat' (refine zZ ?_;conv=>whnf)
  exact⟨.tp [bA [],iv 13],BN (m:= [bA [],iv 13]) ⟨Bg 1 _,ri,tv⟩,rfl⟩
def JR (g:Geo) (t:List Ent) (had:List (List UInt8)) (k:Nat):List (List UInt8):=(List.range k).map (BO g t had)
def JQ (g:Geo) (t:List Ent) (had:List (List UInt8)) (k:Nat):List Bool:=(List.range k).map fun i=>decide (0<(BO g t had i).length)
theorem UY (g:Geo) (t:List Ent) (had:List (List UInt8)) (hg:Bq g=true) (ht:FK g t=true) (hh:(had.length:Int)=g.d+1) (h8:∀ b∈had,b.length=0\/b.length=8):Fn Tryz.prog 226 [.ag (AK g), .ag [Bm t],E7 had] fun r=>r = .tp [E7 (JR g t had had.length),aA (JQ g t had had.length),iv 0]:=by
 obtain⟨g1,g2,g3,g4,g5⟩:=Aq.1 hg;have i:=Gy ht;have hb:=Lw g t had hg ht hh h8;have h:IntKind.i64.wrap (g.d+1)=g.d+1:=wi (by omega);have l1:∀ k,(JR g t had k).length=k:=fun k=>by simp [JR]
 have l2:∀ k,(JQ g t had k).length=k:=fun k=>by simp [JQ]
 refine zR Tryz.func226 rfl ?_;conv=>whnf
 refine zW hb rfl ?_;rintro _ _ ⟨rfl,rfl⟩;conv=>whnf
 rw [h];refine zU Nat (fun k=>([(6, .ow 3 k),(7, .ow 4 k),(9, .bp 2 0),(25,iv (g.d+1)),(26,iv (k:Nat))], [.box 24 (AK g), .box 145 [Bm t], .box 348 [iv g.d,Bm t,E7 had], .row 22 1 ((JR g t had k).map Fm), .row 4 1 ((JQ g t had k).map ZH)])) (fun k=>k<=had.length) (fun k=>had.length - k) 0 (Aj _)
  ⟨_,_,zC _ _, [(6,22,1),(7,4,1)],tA, [0,1,2,3,4],tA,tA,rfl,rfl,rfl,rfl,rfl⟩ ?_
 intro k hk;by_cases j:k<had.length
 ·have f:=Lu g t had k hg ht hh h8 (by omega);have e1:(JR g t had k).map Fm ++ [Fm (BO g t had k)]=(JR g t had (k+1)).map Fm:=by simp [JR,Bp]
  have e2:(JQ g t had k).map ZH ++ [ZH (decide (0<(BO g t had k).length))]=(JQ g t had (k+1)).map ZH:=by simp [JQ,Bp]
  conv=>whnf
  rw [show decide ((k:Int)<g.d+1)=true from decide_eq_true (by omega)];conv=>whnf
  repeat' (refine zZ ?_;conv=>whnf)
  refine ze9 [2] f ?_;rintro _ _ ⟨rfl,rfl⟩;conv=>whnf
  repeat' (refine zZ ?_;conv=>whnf)
  refine⟨rfl,?_⟩;refine⟨⟨by rw [Ab,l1],by omega⟩,?_⟩;refine⟨rfl,?_⟩;refine⟨⟨by rw [Ab,l2],by omega⟩,?_⟩;exact⟨k+1,by omega,by omega,zS (s:= [0,1,2,3,4]) ⟨⟨rfl,rfl,rfl,rfl,AG (by omega),tv⟩,⟨rfl,rfl,rfl,congrArg (fun es=>some (AB.row 22 1 es)) e1,congrArg (fun es=>some (AB.row 4 1 es)) e2,tv⟩,rfl,rfl,rfl,rfl,rfl⟩⟩
 ·have ek:k=had.length:=by omega
  subst ek;conv=>whnf
  rw [show decide (((had.length:Nat):Int)<g.d+1)=false from decide_eq_false (by omega)];conv=>whnf
  repeat' (refine zZ ?_;conv=>whnf)
  refine⟨(by rw [Ab,l1]),?_⟩;refine⟨(by rw [Ab,l2]),?_⟩;exact⟨.tp [E7 (JR g t had had.length),aA (JQ g t had had.length),iv 0],BN (m:= [E7 (JR g t had had.length),aA (JQ g t had had.length),iv 0]) ⟨D6 (l1 _).symm rfl,ZG (l2 _).symm rfl,ri,tv⟩,rfl⟩
theorem Lg {g:Geo} {s:Stt} {G:Gr} {z:Int} {t:List Ent} (h:FO g s G z=some t):FK g t=true:=by
 have hr:∀ {b:List UInt8} {t:List Ent},Ce g b=some t->FK g t=true:=fun {b t} h=>by
  unfold Ce at h;split at h
  ·rename_i hh;obtain rfl:=Option.some.inj h;exact hh.1
  ·cases h
 have ho:∀ {x:Gt} {a r:Int} {t:List Ent},BT g x a r=some t->FK g t=true:=fun {x a r t} h=>by
  unfold BT at h;split at h
  ·split at h
   ·exact hr h
   ·cases h
  ·cases h
 unfold FO at h;split at h
 ·exact hr h
 ·split at h
  ·rename_i hh;obtain rfl:=Option.some.inj h;exact ho hh
  ·exact ho h
theorem VS {g:Geo} {s:Stt} {G:Gr} {t:List Ent} {z w:Int} (hi:∀ t∈s.txns,∀ x∈t.images,Bn g x=true) (hw:w≠255):(Fu g s G t z w).length=0\/(Fu g s G t z w).length=8:=by
 unfold Fu;split
 ·rename_i p hp;obtain⟨x,q⟩:=p;obtain⟨t',ht, -,hx, -,e⟩:=GP (Ah _) hp;exact .inr ((Dh (hi t' ht x hx)).2 (by rw [e];exact hw)).2.2
 ·unfold D5;split
  ·split
   ·rename_i h;exact .inr h.2.1
   ·exact .inl rfl
  ·exact .inl rfl
theorem Mn {g:Geo} (hg:Bq g=true) {s:Stt} {G:Gr} {t:List Ent} {z:Int} (hi:∀ t∈s.txns,∀ x∈t.images,Bn g x=true):((Ff g s G t z).length:Int)=g.d+1/\∀ b∈Ff g s G t z,b.length=0\/b.length=8:=by
 have g5:=Aq.1 hg;refine⟨by unfold Ff;rw [Ab,BQ];omega,fun b hb=>?_⟩;obtain⟨i,f,rfl⟩:=AQ.1 hb;have:=AS.1 f;exact VS hi (by unfold Z3;split <;> omega)
def Qy (g:Geo) (s:Stt) (G:Gr) (z A:Int):Option (List UInt8):=match FO g s G z with
 | none=>none
 | some t=>if (t.getD A.toNat ez).lost=true then none else if 0<(Fu g s G t z A).length then some (Fu g s G t z A) else if 0<(BO g t (Ff g s G t z) A.toNat).length then some (BO g t (Ff g s G t z) A.toNat) else none
def RM (o:Option (List UInt8)):AV:=match o with
 | some b=> .tp [bA b,iv 0]
 | none=> .tp [bA [],iv 13]
theorem ON (g:Geo) (s:Stt) (d:Dk) (G:Gr) (lba:Int) (hg:Bq g=true) (hl:LogB s.txns) (C:∀ t∈s.txns,∀ x∈t.images,Bn g x=true) (ha:Bj g s.a=true) (h:Gs (Ar g) d G) (hF:∀ a,(G a).bytes.length<=100000) (h8:∀ a,(G a).err≠8) (hb:0<=lba/\lba<g.z*g.d) (hB:∀ p,CB s.txns (lba.tdiv g.d) 255=some p->p.1.bytes.length<=100000/\(Ce g p.1.bytes).isSome=true) :
  ACalls Tryz.prog false 40 [.bp 0 0,iv lba] (FM g s d) fun r H=>r=RM (Qy g s G (lba.tdiv g.d) (lba.tmod g.d))/\∃ d',Gs (Ar g) d' G/\H=FM g s d':=by
 have g5:=Aq.1 hg;have h1:=N8 g lba hg hb;have hz:0<=lba.tdiv g.d/\lba.tdiv g.d<g.z:=by
  rw [AO hb.1];exact⟨C6 hb.1 (by omega),BZ (by omega) hb.2⟩
 have hA:0<=lba.tmod g.d/\lba.tmod g.d<g.d:=⟨Bw _ hb.1,AZ _ (by omega)⟩;obtain⟨Z,hZ⟩:∃ Z,Z=lba.tdiv g.d:=⟨_,rfl⟩;obtain⟨A,K⟩:∃ A,A=lba.tmod g.d:=⟨_,rfl⟩;rw [<-hZ] at h1 hz hB |-
 rw [<-K] at h1 hA |-
 have h2:=Qp g s d G Z hg hl ha h hF h8 hz hB;have h3:=I0 s.txns Z A hl.n hl.i;obtain⟨O,hO⟩:∃ O,O=Qy g s G Z A:=⟨_,rfl⟩;rw [<-hO];unfold Qy at hO;cases hT:FO g s G Z with
 | none=>
  rw [hT] at h2 hO;simp only at h2 hO;subst hO;refine zT tys_ok Tryz.func40 rfl rfl (Ae rfl) ?_;conv=>whnf
  refine zY h1 ?_;conv=>whnf
  refine ze9 [0,1,2,3,4] h2 ?_;rintro _ _ ⟨rfl,d2,j,rfl⟩;conv=>whnf
  repeat' (refine zZ ?_;conv=>whnf)
  exact⟨_,RM none,FM g s d2,BN (m:= [bA [],iv 13]) ⟨Bg 1 _,ri,tv⟩,zS (s:= [0,1,2,3,4]) tA,rfl,d2,j,rfl⟩
 | some t=>
  rw [hT] at h2 hO;simp only at h2 hO;have u:=Lg hT;have J:=Gy u;have ixA:0<=A/\A<(t.length:Nat):=by omega
  by_cases f:(t.getD A.toNat ez).lost=true
  ·rw [if_pos f] at hO;subst hO;refine zT tys_ok Tryz.func40 rfl rfl (Ae rfl) ?_;conv=>whnf
   refine zY h1 ?_;conv=>whnf
   refine ze9 [0,1,2,3,4] h2 ?_;rintro _ _ ⟨rfl,d2,j,rfl⟩;conv=>whnf
   repeat' (refine zZ ?_;conv=>whnf)
   refine⟨ixA,?_⟩;conv=>whnf
   rw [show (t.getD A.toNat ⟨0,0,false⟩).lost=true from f];exact⟨_,RM none,FM g s d2,BN (m:= [bA [],iv 13]) ⟨Bg 1 _,ri,tv⟩,zS (s:= [0,1,2,3,4]) tA,rfl,d2,j,rfl⟩
  rw [if_neg f] at hO;have f:(t.getD A.toNat ⟨0,0,false⟩).lost=false:=Bool.eq_false_iff.2 f;cases hL:CB s.txns Z A with
  | some p=>
   have e1:Fu g s G t Z A=p.1.bytes:=by unfold Fu;rw [hL]
   have L:p.1.bytes.length=8:=by
    obtain⟨x,q⟩:=p;obtain⟨t',ht, -,hx, -,e⟩:=GP (Ah _) hL;exact((Dh (C t' ht x hx)).2 (by rw [e];omega)).2.2
   rw [e1,if_pos (by omega)] at hO;subst hO;rw [hL] at h3;simp only at h3;refine zT tys_ok Tryz.func40 rfl rfl (Ae rfl) ?_;conv=>whnf
   refine zY h1 ?_;conv=>whnf
   refine ze9 [0,1,2,3,4] h2 ?_;rintro _ _ ⟨rfl,d2,j,rfl⟩;conv=>whnf
   repeat' (refine zZ ?_;conv=>whnf)
   refine⟨ixA,?_⟩;conv=>whnf
   rw [f];conv=>whnf
   refine ze9 [4] h3 ?_;rintro _ _ ⟨rfl,rfl⟩;exact⟨_,RM (some p.1.bytes),FM g s d2,fun _ _ h=>h,zS (s:= [0,1,2,3,4]) tA,rfl,d2,j,rfl⟩
  | none=>
   have e1:Fu g s G t Z A=(D5 (G (Br g s.a Z A)) (Br g s.a Z A) (t.getD (EJ g A).toNat ez)).getD []:=by unfold Fu;rw [hL]
   rw [hL] at h3;simp only at h3;refine zT tys_ok Tryz.func40 rfl rfl (Ae rfl) ?_;conv=>whnf
   refine zY h1 ?_;conv=>whnf
   refine ze9 [0,1,2,3,4] h2 ?_;rintro _ _ ⟨rfl,d2,j,rfl⟩;have h4:=Ky g s d2 G Z A t hg ha j hF h8 hz (by omega) J;rw [<-e1] at h4;conv=>whnf
   repeat' (refine zZ ?_;conv=>whnf)
   refine⟨ixA,?_⟩;conv=>whnf
   rw [f];conv=>whnf
   refine ze9 [4] h3 ?_;rintro _ _ ⟨rfl,rfl⟩;conv=>whnf
   repeat' (refine zZ ?_;conv=>whnf)
   refine ze9 [0,1,2,3,4] h4 ?_;rintro _ _ ⟨rfl,d3,I,rfl⟩;conv=>whnf
   repeat' (refine zZ ?_;conv=>whnf)
   by_cases hq:0<(Fu g s G t Z A).length
   ·rw [if_pos hq] at hO;subst hO;rw [show decide ((((Fu g s G t Z A).length:Nat):Int) > 0)=true from decide_eq_true (by omega)];exact⟨_,RM (some (Fu g s G t Z A)),FM g s d3,fun _ _ h=>h,zS (s:= [0,1,2,3,4]) tA,rfl,d3,I,rfl⟩
   ·rw [if_neg hq] at hO;have h5:=KS g s d3 G Z hg hl ha I hF h8 hz hB t hT;obtain⟨k1,k2⟩:=Mn hg (s:=s) (G:=G) (t:=t) (z:=Z) C;have h6:=QC g t (Ff g s G t Z) A.toNat hg u k1 k2 (by omega);rw [show ((A.toNat:Nat):Int)=A by omega] at h6;rw [show decide ((((Fu g s G t Z A).length:Nat):Int) > 0)=false from decide_eq_false (by omega)];conv=>whnf
    refine ze9 [0,1,2,3,4] h5 ?_;rintro _ _ ⟨rfl,d4,F,rfl⟩;conv=>whnf
    repeat' (refine zZ ?_;conv=>whnf)
    by_cases hk:0<(BO g t (Ff g s G t Z) A.toNat).length
    ·rw [if_pos hk] at hO h6;subst hO;apply zX (0) tys_ok mixed (.o [0,1,2,3,4,5,6,7,8,9,10,11] .fin) (by kernel_rfl);conv=>whnf
     refine zY h6 ?_;conv=>whnf
     all_goals exact⟨_,RM (some (BO g t (Ff g s G t Z) A.toNat)),FM g s d4,fun _ _ h=>h,zS (s:= [0,1,2,3,4]) tA,rfl,d4,F,rfl⟩
    ·rw [if_neg hk] at hO h6;subst hO;apply zX (0) tys_ok mixed (.o [0,1,2,3,4,5,6,7,8,9,10,11] .fin) (by kernel_rfl);conv=>whnf
     refine zY h6 ?_;conv=>whnf
     all_goals exact⟨_,RM none,FM g s d4,fun _ _ h=>h,zS (s:= [0,1,2,3,4]) tA,rfl,d4,F,rfl⟩
structure AtsOk (g:Geo) (l:List Int):Prop where
 pos:0<l.length
 len:l.length<=1000
 at_:∀ i:Nat,i<l.length->0<=l.getD i 0/\l.getD i 0<g.d
 up:∀ i:Nat,i+1<l.length->l.getD i 0<l.getD (i+1) 0
theorem AtsOk.lt {g:Geo} {l:List Int} (h:AtsOk g l):∀ {j k:Nat},j<k->k<l.length->l.getD j 0<l.getD k 0:=fun {j k} hjk hk=>by
 induction k with
 | zero=>omega
 | succ k ih=>
  by_cases e:j=k
  ·rw [e];exact h.up k hk
  ·exact Int.lt_trans (ih (by omega) (by omega)) (h.up k hk)
theorem AtsOk.inj {g:Geo} {l:List Int} (h:AtsOk g l) {j k:Nat} (hj:j<l.length) (hk:k<l.length) (e:l.getD j 0=l.getD k 0):j=k:=by
 rcases Nat.lt_trichotomy j k with q | q | q
 ·have:=h.lt q hk;omega
 ·exact q
 ·have:=h.lt q hj;omega
theorem KC (g:Geo) (l:List Int) (h:AtsOk g l):Fn Tryz.prog 227 [.ag (AK g),iA l] fun r=>r = .v (.bool true):=by
 have hp:=h.pos;have i:=h.len;refine zR Tryz.func227 rfl ?_;conv=>whnf
 refine zU Nat (fun k=>([(1,iA l),(2, .bp 0 0),(7,iA l),(8,iv (l.length:Nat)),(9,iv (k:Nat))], [.box 24 (AK g)])) (fun k=>k<=l.length) (fun k=>l.length - k) 0 (Aj _)
  (zS (s:= [0]) tA) ?_
 intro k hk;conv=>whnf
 refine A5 (fun h6=>?_) (fun h6=>?_) <;> (repeat rw [Aa] at h6) <;> conv=>whnf
 ·have f:k<l.length:=by omega
  obtain⟨q1,q2⟩:=h.at_ k f;repeat' (refine zZ ?_;conv=>whnf)
  refine⟨⟨by omega,by omega⟩,?_⟩;conv=>whnf
  repeat' (refine zZ ?_;conv=>whnf)
  rw [Aa,show decide (l.getD k 0<0)=false from decide_eq_false (by omega)];conv=>whnf
  rw [show decide (l.getD k 0>=g.d)=false from decide_eq_false (by omega)];conv=>whnf
  by_cases j:k=0
  ·rw [show decide (((k:Nat):Int) > 0)=false from decide_eq_false (by omega)];conv=>whnf
   repeat' (refine zZ ?_;conv=>whnf)
   exact⟨k+1,f,by omega,zS (s:= [0]) ⟨⟨rfl,rfl,rfl,rfl,AG (by omega),tv⟩,tA,rfl,rfl,rfl,rfl,rfl⟩⟩
  ·have hu:=h.up (k - 1) (by omega);have ew:IntKind.i64.wrap (((k:Nat):Int) - 1)=((k - 1:Nat):Int):=by rw [wi (by omega)];omega
   rw [show decide (((k:Nat):Int) > 0)=true from decide_eq_true (by omega)];conv=>whnf
   rw [ew];refine⟨⟨by omega,by omega⟩,?_⟩;conv=>whnf
   rw [Aa,show decide (l.getD k 0<=l.getD (k - 1) 0)=false from decide_eq_false (by rw [Nat.sub_add_cancel (by omega)] at hu;omega)];conv=>whnf
   repeat' (refine zZ ?_;conv=>whnf)
   exact⟨k+1,f,by omega,zS (s:= [0]) ⟨⟨rfl,rfl,rfl,rfl,AG (by omega),tv⟩,tA,rfl,rfl,rfl,rfl,rfl⟩⟩
 ·repeat' (refine zZ ?_;conv=>whnf)
  exact⟨_,ri,by rw [show decide (((l.length:Nat):Int) > 0)=true from decide_eq_true (by omega)]⟩
theorem X5 (l:List Int) (p:Int) (hl:l.length<=1000000):Fn Tryz.prog 153 [iA l,iv p] fun r=>∃ n:Int,r = iv n/\((n = -1/\∀ j:Nat,j<l.length->l.getD j 0≠p)\/∃ k:Nat,k<l.length/\n=(k:Nat)/\l.getD k 0=p):=by
 refine zR Tryz.func153 rfl ?_;conv=>whnf
 refine zU Nat (fun k=>([(0,iA l),(1,iv p),(7,iv (l.length:Nat)),(8,iv (k:Nat))], [])) (fun k=>k<=l.length/\∀ j:Nat,j<k->l.getD j 0≠p) (fun k=>l.length - k) 0 ⟨Aj _,fun j hj=>absurd hj (Ap j)⟩
  (zS (s:= []) tA) ?_
 rintro k ⟨hk,hI⟩;conv=>whnf
 refine A5 (fun h6=>?_) (fun h6=>?_) <;> (repeat rw [Aa] at h6) <;> conv=>whnf
 ·have f:k<l.length:=by omega
  repeat' (refine zZ ?_;conv=>whnf)
  refine⟨⟨by omega,by omega⟩,?_⟩;conv=>whnf
  rw [Aa];by_cases e:l.getD k 0=p
  ·rw [show (p == l.getD k 0)=true from beq_iff_eq.2 e.symm];exact⟨_,ri,_,rfl, .inr ⟨k,f,rfl,e⟩⟩
  ·rw [show (p == l.getD k 0)=false from beq_eq_false_iff_ne.2 (Ne.symm e)];conv=>whnf
   repeat' (refine zZ ?_;conv=>whnf)
   exact⟨k+1,⟨f,fun j hj=>by by_cases q:j=k;exact q ▸ e;exact hI j (by omega)⟩,by omega,zS (s:= []) ⟨⟨rfl,rfl,rfl,AG (by omega),tv⟩,tv,rfl,rfl,rfl,rfl,rfl⟩⟩
 ·have ek:k=l.length:=by omega
  subst ek;exact⟨_,ri,_,rfl, .inl ⟨rfl,hI⟩⟩
theorem PA {ats:List Int} {bs:List (List UInt8)} {i:Nat}:∀ m,(∀ j:Nat,j<m->ats.getD j 0≠(i:Int))->Eh ats bs i m=none
 | 0,_=>rfl
 | m+1,h=>by rw [Eh,if_neg (h m (by omega)),PA m fun j hj=>h j (by omega)]
theorem PB {g:Geo} {ats:List Int} (h:AtsOk g ats) {bs:List (List UInt8)} {i k:Nat} (hk:k<ats.length) (e:ats.getD k 0=(i:Int)):∀ m,k<m->m<=ats.length->Eh ats bs i m=some (bs.getD k [])
 | 0,q,_=>absurd q (Ap k)
 | m+1,q,hm=>by
  rw [Eh];by_cases hq:k=m
  ·rw [<-hq,if_pos e]
  ·rw [if_neg fun q2=>hq (h.inj hk (by omega) (e.trans q2.symm)),PB h hk e m (by omega) (by omega)]
end
end Go.Proofs.YtpjkcgacjjbikaaGreatDoor.A
