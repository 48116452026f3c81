/-
Several texts in one.
-/
import Derived.Test.YtepdhdfoipephaaGreatDoorPPD5P3
import Derived.Test.YtepdhdfoipephaaGreatDoorPPD5P2
import Derived.Test.YtepdhdfoipephaaGreatDoorPPD5P4
import Derived.Maps.OwnSet
set_option maxRecDepth 100000
set_option maxHeartbeats 8000000
set_option linter.unusedSimpArgs false
set_option linter.unusedVariables false
set_option linter.deprecated false
namespace Go.Proofs.YtepdhdfoipephaaGreatDoor.A
section
open Go.RowKit
def flatY:AV->Bool
 | .v _=>true
 | .top=>true
 | _=>false
def flatP:AV->Bool
 | .v _=>true
 | .ow _ _=>true
 | .sl _ 0 _=>true
 | _=>false
def flatQ:AV->Bool
 | .v _=>true
 | .ow _ _=>true
 | .ag l=>l.all flatP
 | _=>false
def flatS:List AB->Bool
 | []=>true
 | .row _ _ es::r=>es.flatten.all flatY&&flatS r
 | _::_=>false
theorem Qo {c c':Ctx}:∀ {l:List AV} {us:List Value},l.all flatY=true->RdL l c us->RdL l c' us
 | [],us,_,h=>by simpa only [RdL] using h
 | x::l,us,hf,h=>by
  rw [A_,Ad] at hf;simp only [RdL] at h |-
  obtain⟨u,vs,rfl,h1,h2⟩:=h;refine⟨u,vs,rfl,?_,Qo hf.2 h2⟩;cases x <;> simp [flatY] at hf
  ·simp only [Rd]
  ·simpa only [Rd] using h1
theorem MB {c c':Ctx} (hr:c'.rho=c.rho) (hl:c'.len=c.len) (hd:c'.dom=c.dom) {x:AV} (hx:flatP x=true) {u:Value} (h:Rd x c u):Rd x c' u:=by
 cases x with
 | v y=>simpa only [Rd] using h
 | ow k n=>
  simp only [Rd] at h |-
  rw [hr,hl,hd];exact h
 | sl sz n get=>
  cases n with
  | zero=>
   simp only [Rd] at h |-
   obtain⟨a,k,h1,h2,h3, -⟩:=h;exact⟨a,k,h1,h2,h3, .inl trivial⟩
  | succ n=>cases hx
 | _=>simp [flatP] at hx
theorem Xd {c c':Ctx} (hr:c'.rho=c.rho) (hl:c'.len=c.len) (hd:c'.dom=c.dom) {x:AV} (hx:flatQ x=true) {u:Value} (h:Rd x c u):Rd x c' u:=by
 cases x with
 | v y=>exact MB hr hl hd rfl h
 | ow k n=>exact MB hr hl hd rfl h
 | ag l=>
  simp only [Rd] at h |-
  obtain⟨xs,rfl,hxs⟩:=h;refine⟨xs,rfl,?_⟩;simp only [flatQ] at hx;induction l generalizing xs with
  | nil=>simpa only [RdL] using hxs
  | cons y l ih=>
   rw [A_,Ad] at hx;simp only [RdL] at hxs |-
   obtain⟨u,us,rfl,h1,h2⟩:=hxs;exact⟨u,us,rfl,MB hr hl hd hx.1 h1,ih hx.2 us h2⟩
 | _=>simp [flatQ] at hx
theorem flatS_mem:∀ {R:List AB} {y:AB},flatS R=true->y∈R->∃ t sz es,y = .row t sz es/\es.flatten.all flatY=true
 | .row t sz es::r,y,h,hy=>by
  rw [flatS,Ad] at h;rcases AK.1 hy with rfl | hy
  ·exact⟨t,sz,es,rfl,h.1⟩
  ·exact flatS_mem h.2 hy
theorem ACalls.fnO {P:Program} {q:Bool} {f:FuncId} {args:List AV} {K:AV->List AB->Prop} (h:ACalls P q f args [] K) (hK:∀ r R,K r R->∀ y∈R,∃ t sz es,y = .row t sz es):FnO P f args K:=by
 refine⟨h.go,fun c0 us hg hd hM hr=>?_⟩;let ce:Ctx:={ c0 with base:=0 };have hce:Ext c0 ce:=⟨rfl,rfl,rfl,Ah _,fun _ _ h=>⟨h,rfl⟩,Ah _,fun _ _=>Ah _,fun _ _ _=>rfl,fun _ _ _ h=>h⟩;have hHS:HS (Fl.all c0.w hg) c0.M ce []:=⟨zj _ hg,rfl,hd,fun _ _=>Iff.rfl,hM,by simp,by simp,by simp⟩;refine(h.calls (Fl.all c0.w hg) c0.M ce us hHS (RdL.ext _ hce hr)).mono ?_;rintro e w' ⟨v,c',r,H',rfl,q1,q2,q3,q4,q5, -⟩;exact⟨v,r,c',H',rfl,q2,q1,q3,q5,hK r H' q2⟩
theorem FnO.lendC {P:Program} {f:FuncId} {args args':List AV} {H:List AB} {K:AV->List AB->Prop} {q:Bool} {k:AV->List AB->Prop} (h:FnO P f args' K) (hs:sealA args H fun a _=>a=args') (hk:∀ r R,K r R->∃ R',ConvH R R'/\(flatQ r=true/\flatS R'=true)/\appK H R' 0 fun d H=>DK (r.shift d) fun r=>k r H):ACalls P q f args H k:=by
 refine⟨h.go,fun w0 M0 c us hs0 hr=>?_⟩;obtain⟨l',H',c',rfl,h2,h3,h4,h5,_⟩:=sealA_sound hs0 hr hs;have hglob:globOk c'.closed.w:=h3.glob;have hc:=h.calls c'.closed us hglob rfl h3.lt h5;have ew:c'.closed.w=c.w:=h2
 suffices hh:Calls P f us.toArray c'.closed.w fun e w'=>∃ v c1 r H1,e = .returned v/\c1.w=w'/\k r H1/\HS w0 M0 c1 H1/\Ext c c1/\Rd r c1 v/\(q=true->Old c.w w') by
  rw [ew] at hh;exact hh
 refine hc.mono ?_;rintro e w' ⟨v,r,c1,R1,rfl,q1,rfl,q21,q31, -⟩;obtain⟨R,hconv,⟨f1,f2⟩,hkk⟩:=hk r R1 q1;obtain⟨c2,ew2,q2,x2⟩:=hconv _ _ _ q21;have q3:Rd r c2 v:=Rd.ext _ x2 q31;have q4:∀ y∈R,∃ t sz es,y = .row t sz es:=fun y hy=>by
  obtain⟨t,sz,es,e, -⟩:=flatS_mem f2 hy;exact⟨t,sz,es,e⟩
 -- the same memory;what the caller holds is not read
 obtain⟨c3,e3⟩:∃ c3:Ctx,c3={ c2 with M:=fun b=>c2.M b\/c.M b }:=⟨_,rfl⟩;have hsub:∀ b,b<c.w.heap.size->c'.M b->c.M b:=fun b hb hm=>by
  by_cases hx:c.M b
  ·exact hx
  ·exact absurd hm (h4.keep b hb hx).1
 have hlow:=q2.low;have q2':HS (Fl.all c.w hs0.glob) c.M c3 R:=by
  subst e3;refine⟨⟨?_,?_,?_,?_,?_⟩,q2.base,q2.dom,fun b hb=>?_,fun b hb=>?_,fun i y hi=>?_,fun i y g hi hl ho=>?_,q2.dis⟩
  ·have:=hlow.os;rw [show (Fl.all c'.closed.w hglob).w=c.w from ew] at this;exact this
  ·have:=hlow.tape;rw [show (Fl.all c'.closed.w hglob).w=c.w from ew] at this;exact this
  ·have:=hlow.output;rw [show (Fl.all c'.closed.w hglob).w=c.w from ew] at this;exact this
  ·have:=hlow.size;rw [show (Fl.all c'.closed.w hglob).w=c.w from ew] at this;exact this
  ·intro b hb;have:=hlow.block b (by show b<c'.closed.w.heap.size;rw [ew];exact hb);rw [show (Fl.all c'.closed.w hglob).w=c.w from ew] at this;exact this
  ·have hb':b<c.w.heap.size:=hb;have:=q2.foreign b (by show b<c'.closed.w.heap.size;rw [ew];exact hb');exact⟨fun hx=>hx.elim (fun hx=>hsub b hb' (this.1 hx)) (fun hx=>hx),fun hx=> .inr hx⟩
  ·have hsz:c.w.heap.size<=c2.w.heap.size:=by
    have:=hlow.size;rw [show (Fl.all c'.closed.w hglob).w=c.w from ew] at this;exact this
   rcases hb with hb | hb
   ·exact q2.lt b hb
   ·exact At (hs0.lt b hb) hsz
  ·obtain⟨t,sz,es,rfl,hfl⟩:=flatS_mem f2 (DW hi);obtain⟨a1,a2,a3,xs,a4,a5,a6⟩:=q2.blk i _ hi;exact⟨a1,a2,a3,xs,a4,Qo hfl a5,a6⟩
  ·have:=q2.own i y g hi hl ho;refine⟨.inl this.1,fun hx=>this.2 ?_⟩;show g<c'.closed.w.heap.size;rw [ew];exact hx
 have q3':Rd r c3 v:=Xd (by rw [e3]) (by rw [e3]) (by rw [e3]) f1 q3;have q5:c3.w=c2.w:=by rw [e3]
 obtain⟨p1,p2⟩:=hs0.beside (c':=c3) q2' q4;have h1:=BT (appK_iff hkk);rw [A3,<-hs0.dom] at h1;exact⟨v,c.beside c3,_,_,rfl,by show c3.w=_;rw [q5,ew2],h1,p1,p2,Rd.shift r q3',fun _=>by have:=q2'.low.below.old;rw [q5,ew2] at this;exact this⟩
theorem NV (n:Nat) (l:List AV) (h:l.all flatY=true):(List.replicate n l).flatten.all flatY=true:=by
 induction n with
 | zero=>rfl
 | succ n ih=>rw [Du,AL,Dt,h,ih];rfl
theorem SubL.tops:∀ (l:List AV),SubL l (List.replicate l.length .top)
 | []=>trivial
 | x::l=>⟨fun _ _ _=>by simp [Rd],SubL.tops l⟩
def Hd (x:Gt) (addr stamp:Int):Option (List UInt8):=match BF x addr with
 | some s=>if s.stamp=stamp then some s.pay else none
 | none=>none
theorem Wu {x:Gt} {addr stamp:Int} {b:List UInt8} (h:Hd x addr stamp=some b):b.length<=x.bytes.length:=by
 unfold Hd BF at h;split at h
 ·rename_i s hs;split at hs
  ·obtain rfl:=Option.some.inj hs;split at h
   ·obtain rfl:=Option.some.inj h;simp [Cc];omega
   ·cases h
  ·cases hs
 ·cases h
theorem G4 (b:Bool):∀ (c:Ctx) (v:Value),Rd (.tp [.v (.slice none 0 0), .v (.bool b)]) c v->Rd (.tp [bA [], .v (.bool b)]) c v:=Cf ⟨Bo 1 _,ri,tv⟩
theorem SX (x:Gt) (addr stamp:Int) (hl:x.bytes.length<=100000):Fn Tryz.prog 209 [.ag (D7 x),iv addr,iv stamp] fun r=>r = .tp [bA ((Hd x addr stamp).getD []), .v (.bool (Hd x addr stamp).isSome)]:=by
 have ho:=VA x.bytes hl;by_cases h0:x.err=0;rotate_left 1
 ·have e:Hd x addr stamp=none:=by
   unfold Hd BF;rw [if_neg (fun h=>h0 h.1)]
  rw [e];refine zR Tryz.func209 rfl ?_;conv=>whnf
  rw [show (x.err != 0)=true from bne_iff_ne.2 h0];exact⟨_,G4 false,rfl⟩
 by_cases h1:Cn x.bytes=0;rotate_left 1
 ·have e:Hd x addr stamp=none:=by
   unfold Hd BF;rw [if_neg (fun h=>h1 h.2.1)]
  rw [e];rw [if_neg h1] at ho;refine zR Tryz.func209 rfl ?_;conv=>whnf
  rw [show (x.err != 0)=false from bne_eq_false_iff_eq.2 h0];conv=>whnf
  refine zZ ho ?_;conv=>whnf
  rw [show (Cn x.bytes != 0)=true from bne_iff_ne.2 h1];exact⟨_,G4 false,rfl⟩
 rw [if_pos h1,h1] at ho;by_cases h2:BZ x.bytes=addr;rotate_left 1
 ·have e:Hd x addr stamp=none:=by
   unfold Hd BF;rw [if_neg (fun h=>h2 h.2.2)]
  rw [e];refine zR Tryz.func209 rfl ?_;conv=>whnf
  rw [show (x.err != 0)=false from bne_eq_false_iff_eq.2 h0];conv=>whnf
  refine zZ ho ?_;conv=>whnf
  rw [show ((⟨BZ x.bytes,Bi x.bytes,Cc x.bytes⟩:Sec).addr != addr)=true from bne_iff_ne.2 h2];exact⟨_,G4 false,rfl⟩
 have es:BF x addr=some ⟨BZ x.bytes,Bi x.bytes,Cc x.bytes⟩:=by unfold BF;rw [if_pos ⟨h0,h1,h2⟩]
 by_cases h3:Bi x.bytes=stamp
 ·have e:Hd x addr stamp=some (Cc x.bytes):=by unfold Hd;rw [es];simp only;rw [if_pos h3]
  rw [e];refine zR Tryz.func209 rfl ?_;conv=>whnf
  rw [show (x.err != 0)=false from bne_eq_false_iff_eq.2 h0];conv=>whnf
  refine zZ ho ?_;conv=>whnf
  rw [show ((⟨BZ x.bytes,Bi x.bytes,Cc x.bytes⟩:Sec).addr != addr)=false from bne_eq_false_iff_eq.2 h2];conv=>whnf
  rw [show ((⟨BZ x.bytes,Bi x.bytes,Cc x.bytes⟩:Sec).stamp != stamp)=false from bne_eq_false_iff_eq.2 h3];exact⟨_,ri,rfl⟩
 ·have e:Hd x addr stamp=none:=by unfold Hd;rw [es];simp only;rw [if_neg h3]
  rw [e];refine zR Tryz.func209 rfl ?_;conv=>whnf
  rw [show (x.err != 0)=false from bne_eq_false_iff_eq.2 h0];conv=>whnf
  refine zZ ho ?_;conv=>whnf
  rw [show ((⟨BZ x.bytes,Bi x.bytes,Cc x.bytes⟩:Sec).addr != addr)=false from bne_eq_false_iff_eq.2 h2];conv=>whnf
  rw [show ((⟨BZ x.bytes,Bi x.bytes,Cc x.bytes⟩:Sec).stamp != stamp)=true from bne_iff_ne.2 h3];exact⟨_,G4 false,rfl⟩
theorem Sa (x:Gt) (addr:Int) (e:Ent):CY x addr e=match Hd x addr e.stamp with
  | some b=>if b.length=8/\((Cz b:Nat):Int)=e.sum then some b else none
  | none=>none:=by
 unfold CY Hd;cases BF x addr with
 | none=>rfl
 | some s=>
  simp only;by_cases h:s.stamp=e.stamp
  ·rw [if_pos h];simp only;by_cases h2:s.pay.length=8/\((Cz s.pay:Nat):Int)=e.sum
   ·rw [if_pos h2,if_pos ⟨h,h2⟩]
   ·rw [if_neg h2,if_neg (fun q=>h2 q.2)]
  ·rw [if_neg h,if_neg (fun q=>h q.1)]
theorem UC (x:Gt) (addr:Int) (e:Ent) (hl:x.bytes.length<=100000):Fn Tryz.prog 171 [.ag (D7 x),iv addr, .ag (Cg e)] fun r=>r = .tp [bA ((CY x addr e).getD []), .v (.bool (CY x addr e).isSome)]:=by
 have hp:=SX x addr e.stamp hl;rw [Sa];cases hq:Hd x addr e.stamp with
 | none=>
  rw [hq] at hp;refine zR Tryz.func171 rfl ?_;conv=>whnf
  refine zZ hp ?_;conv=>whnf
  apply zW (0) tys_ok mixed (.o [0,1,2,3,4,5,6,7,8,10,11,9,12,13] .fin) (by kernel_rfl);conv=>whnf
  (skip)
  exact⟨_,G4 false,rfl⟩
 | some b=>
  rw [hq] at hp;replace hp:Fn Tryz.prog 209 [.ag (D7 x),iv addr,iv e.stamp] fun r=>r = .tp [bA b, .v (.bool true)]:=hp
  have hs:=JA b;simp only;by_cases h8:b.length=8;rotate_left 1
  ·rw [if_neg (fun h=>h8 h.1)];refine zR Tryz.func171 rfl ?_;conv=>whnf
   refine zZ hp ?_;conv=>whnf
   apply zW (0) tys_ok mixed (.o [0,1,2,3,4,5,6,7,8,10,11,9,12,13] .fin) (by kernel_rfl);conv=>whnf
   (rw [show ((b.length:Int) != 8)=true from bne_iff_ne.2 (by omega)])
   conv=>whnf
   all_goals
    exact⟨_,G4 false,rfl⟩
  by_cases hE:((Cz b:Nat):Int)=e.sum
  ·rw [if_pos ⟨h8,hE⟩];refine zR Tryz.func171 rfl ?_;conv=>whnf
   refine zZ hp ?_;conv=>whnf
   apply zW (0) tys_ok mixed (.o [0,1,2,3,4,5,6,7,8,10,11,9,12,13] .fin) (by kernel_rfl);conv=>whnf
   (rw [show ((b.length:Int) != 8)=false from bne_eq_false_iff_eq.2 (by omega)];(conv=>whnf);refine zZ hs ?_)
   conv=>whnf
   all_goals
    rw [show (((Cz b:Nat):Int) != e.sum)=false from bne_eq_false_iff_eq.2 hE];exact⟨_,ri,rfl⟩
  ·rw [if_neg (fun h=>hE h.2)];refine zR Tryz.func171 rfl ?_;conv=>whnf
   refine zZ hp ?_;conv=>whnf
   apply zW (0) tys_ok mixed (.o [0,1,2,3,4,5,6,7,8,10,11,9,12,13] .fin) (by kernel_rfl);conv=>whnf
   (rw [show ((b.length:Int) != 8)=false from bne_eq_false_iff_eq.2 (by omega)];(conv=>whnf);refine zZ hs ?_)
   conv=>whnf
   all_goals
    rw [show (((Cz b:Nat):Int) != e.sum)=true from bne_iff_ne.2 hE];exact⟨_,G4 false,rfl⟩
theorem LI (g:Geo) (x:Gt) (addr root:Int):BH g x addr root=match Hd x addr root with
  | some b=>BW g b
  | none=>none:=by
 unfold BH Hd;cases BF x addr with
 | none=>rfl
 | some s=>
  simp only;by_cases h:s.stamp=root
  ·rw [if_pos h,if_pos h]
  ·rw [if_neg h,if_neg h]
theorem QS {g:Geo} {b:List UInt8} (hg:Bm g=true):(Ep g b=0↔(BW g b).isSome=true):=by
 unfold Ep;rw [hg,if_neg (by decide)];split <;> simp_all
theorem U9 (g:Geo) (x:Gt) (addr root:Int) (hg:Bm g=true) (hl:x.bytes.length<=100000):Fn Tryz.prog 139 [.ag (AU g), .ag (D7 x),iv addr,iv root] fun r=>r = .tp [.ag [Bp ((BH g x addr root).getD [])], .v (.bool (BH g x addr root).isSome)]:=by
 have hp:=SX x addr root hl;have hG:Fn Tryz.prog 51 [.ag (AU g)] fun r=>r = .v (Ge (Bm g)):=Ei g.z g.d g.sp g.sl g.an
 rw [hg] at hG;rw [LI];cases hq:Hd x addr root with
 | none=>
  rw [hq] at hp;refine zR Tryz.func139 rfl ?_;conv=>whnf
  refine zZ hp ?_;exact⟨_,Cf (m:= [.ag [Bp []], .v (.bool false)]) ⟨Bk ⟨Bo 3 _,tv⟩,ri,tv⟩,rfl⟩
 | some b=>
  rw [hq] at hp;replace hp:Fn Tryz.prog 209 [.ag (D7 x),iv addr,iv root] fun r=>r = .tp [bA b, .v (.bool true)]:=hp
  have hbl:=Wu hq;have hr:=LG g b (by omega);rw [hg,if_pos rfl] at hr;have hz:=QS (b:=b) hg;simp only;refine zR Tryz.func139 rfl ?_;conv=>whnf
  refine zZ hp ?_;conv=>whnf
  refine zZ hG ?_;conv=>whnf
  refine zZ hr ?_;conv=>whnf
  cases hR:BW g b with
  | none=>
   rw [hR] at hz;rw [show (Ep g b == 0)=false from beq_eq_false_iff_ne.2 fun e=>by have:=hz.1 e;cases this];exact⟨_,ri,rfl⟩
  | some t=>
   rw [hR] at hz;rw [show (Ep g b == 0)=true from beq_iff_eq.2 (hz.2 rfl)];exact⟨_,ri,rfl⟩
theorem Wz (a:An) (l:List Tx) (z:Int) (hz:0<=z/\z<a.homes.length) (hl:l.length<=1000000) (hi:∀ t∈l,t.images.length<=1000000):Fn Tryz.prog 136 [.ag (Ft a),DH l,iv z] fun r=>r = .tp [iv (Cm a l z),iv 0]:=by
 have hf:=PX l z 255 hl hi;have e:Cr l z 255=_:=Pc l z 255 l.length;unfold Cm;rw [e];cases hA:HW l z 255 l.length with
 | none=>
  rw [hA] at hf;refine zR Tryz.func136 rfl ?_;conv=>whnf
  rw [show decide (z<0)=false from decide_eq_false (by omega)];conv=>whnf
  rw [show decide (z>=(a.homes.length:Nat))=false from decide_eq_false (by omega)];conv=>whnf
  refine zZ hf ?_;refine⟨⟨by omega,by omega⟩,?_⟩;exact⟨_,ri,rfl⟩
 | some p=>
  obtain⟨k,i⟩:=p;rw [hA] at hf;obtain⟨hk,hi2⟩:=MJ hA;simp only at hk hi2;replace hf:Fn Tryz.prog 169 [DH l,iv z,iv 255] fun r=>r = .tp [iv (k:Nat),iv (i:Nat), .v (.bool true)]:=hf
  have ixA:(0:Int)<=(k:Nat)/\((k:Nat):Int)<(l.length:Nat):=by omega
  refine zR Tryz.func136 rfl ?_;conv=>whnf
  rw [show decide (z<0)=false from decide_eq_false (by omega)];conv=>whnf
  rw [show decide (z>=(a.homes.length:Nat))=false from decide_eq_false (by omega)];conv=>whnf
  refine zZ hf ?_;refine⟨ixA,?_⟩;exact⟨_,ri,rfl⟩
theorem ACalls.lendBox2 {P:Program} {q:Bool} {f:FuncId} {x:AV} {H:List AB} {K:AV->List AB->Prop} (j k:Nat) {t t':TypeId} {sz':Nat} {ar ar2 cs cs2:List AV} {es':List (List AV)} (hj:H[j]? = some (.box t cs)) (hk:H[k]? = some (.row t' sz' es'))
  (he:cs.map (AV.slIn k es'.length (.sl sz' es'.length fun i=>es'.getD i []))=cs2) (ha:ar.map (AV.slIn k es'.length (.sl sz' es'.length fun i=>es'.getD i []))=ar2) (hc:ACalls P q f [x, .ag ar2] ((H.set k .dead).set j (.box t cs2)) K):ACalls P q f [x, .ag ar] H K:=by
 refine⟨hc.go,fun w0 M0 c us hs hr=>?_⟩;subst he;subst ha;have hjk:j≠k:=by rintro rfl;rw [hj] at hk;cases hk
 obtain⟨c1,e1,s1,x1,r1⟩:=hs.freeze hk;have hj1:(H.set k .dead)[j]? = some (.box t cs):=by rw [AA (Ne.symm hjk)];exact hj
 have h8:∀ (l:List AV) (us:List Value),RdL l c us->RdL (l.map (AV.slIn k es'.length (.sl sz' es'.length fun i=>es'.getD i []))) c1 us:=by
  intro l;induction l with
  | nil=>intro us h;simp only [RdL] at h;subst h;simp [RdL]
  | cons x l ih=>
   intro us h;simp only [RdL] at h;obtain⟨u,vs,rfl,a1,a2⟩:=h;simp only [A4,RdL];refine⟨u,vs,rfl,?_,ih vs a2⟩;unfold AV.slIn;split
   ·rename_i i n;split
    ·rename_i hik;subst hik;split
     ·grind
     ·simp [Rd]
    ·exact Rd.ext _ x1 a1
   ·exact Rd.ext _ x1 a1
 have s2:HS w0 M0 c1 ((H.set k .dead).set j (.box t (cs.map (AV.slIn k es'.length (.sl sz' es'.length fun i=>es'.getD i []))))):=by
  refine s1.recell hj1 rfl ?_;rintro⟨g,xs,h1,h2,_,h4⟩;obtain⟨g0,ys,q1,q2,q3,_⟩:=hs.blk j _ hj;have hg:=x1.box j _ (hs.klt hj) q1;rw [h1] at hg;injection hg with hg
  injection hg with hg
  injection hg with hg
  subst hg;rw [e1,q2] at h2;injection h2 with h2
  have hxy:ys.toArray=xs.toArray:=by injection h2
  have hxy:ys=xs:=by simpa using hxy
  subst hxy;exact⟨g,ys,h1,by rw [e1];exact q2,h8 _ _ q3,h4⟩
 have hr2:RdL [x, .ag (ar.map (AV.slIn k es'.length (.sl sz' es'.length fun i=>es'.getD i [])))] c1 us:=by
  simp only [RdL] at hr;obtain⟨u1,_,rfl,p1,u2,_,rfl,p2,rfl⟩:=hr;simp only [Rd] at p2;obtain⟨zs,rfl,p3⟩:=p2;simp only [RdL];exact⟨u1,_,rfl,Rd.ext _ x1 p1,_,_,rfl,by simp only [Rd];exact⟨zs,rfl,h8 _ _ p3⟩,rfl⟩
 have:=hc.calls w0 M0 c1 us s2 hr2;rw [e1] at this;refine this.mono ?_;rintro e w' ⟨v,c',r,H2,rfl,rfl,q1,q2,q3,q4,q5⟩;exact⟨v,c',r,H2,rfl,rfl,q1,q2,x1.trans q3,q4,q5⟩
theorem FX {a s:Int} {p:List UInt8} (h:p.length<=96):(Ce a s p).length<=200:=by rw [FE];omega
theorem Wf (g:Geo) (s:Stt) (d:Dk) (F:Int->List UInt8) (l:List Wr) (z w stamp:Int) (b:List UInt8) (hg:Bm g=true) (ha:Bn g s.a=true) (hz:0<=z/\z<g.z) (hw : -1<=w/\w<g.d) (h:Gw (Aq g) d F l) (hl:l.length<2000) (hst:0<=stamp/\stamp<=4294967295) (hb:b.length<=96) :
  ACalls Tryz.prog false 98 [.bp 0 0,iv z,iv w,iv stamp,bA b] (FB g s 0 d) fun r H=>r = .v (.bool true)/\∃ d',Gw (Aq g) d' F (l ++ [⟨B4 g s.a z w,Ce (B4 g s.a z w) stamp b⟩])/\H=FB g s 0 d':=by
 have hA:=Mb g s.a z w hg ha hz hw;obtain⟨sl,e1,e2,e3⟩:=Em hg ha hz hw;obtain⟨q1,q2⟩:=E0 hg hz ⟨e2,e3⟩;obtain⟨g1,g2,g3,g4,g5⟩:=Ar.1 hg;have hcb:=D9 hg;obtain⟨X,hX⟩:∃ X,X=B4 g s.a z w:=⟨_,rfl⟩;rw [<-hX] at hA e1 |-
 have hc:=FF X stamp b ⟨by omega,by omega,hst.1,hst.2,hb⟩;have hwr:=aM g s (Aq g) d F l X (Ce X stamp b) h hl (by omega) (FX hb);refine zT tys_ok Tryz.func98 rfl rfl (Ag rfl) ?_;conv=>whnf
 apply zO tys_ok mixed (.o [0,1,2,3,4,5,6,7,8,9,10,11,12] .fin) [11,12,13,14,15,16,17,18,19,20,21,22,23] (by kernel_rfl)
 ·conv=>whnf
  (refine zp (args':= [.ag (AU g), .ag (Te s.a (.sl 3 s.a.homes.length fun i=>(s.a.homes.map ES).getD i [])),iv z,iv w]) (hA.subA ⟨ri,Bk ⟨ri,ri,ri,ri,ri,ri,Bc (f:=ES) s.a.homes rfl rfl,tv⟩,ri,ri,tv⟩) ⟨(Ac _).symm,rfl⟩ ?_;rintro _ rfl;refine⟨rfl,?_⟩)
  exact tA
 conv=>whnf
 refine zx 1 ?_;conv=>whnf
 refine zZ hc ?_;conv=>whnf
 refine ze9 [0,1,2,3,4,5] hwr ?_;rintro _ _ ⟨rfl,d2,hd2,rfl⟩;exact⟨.v (.bool true), .v (.bool true),FB g s 0 d2,fun _ _ h=>h,zS (s:= [0,1,2,3,4,5]) tA,rfl,d2,hd2,rfl⟩
theorem Gw.puts {n:Int} {d:Dk} {F:Int->List UInt8} {W l:List Wr} (h:Gw n d F W) (hl:∀ w∈l,(0<=w.addr/\w.addr<n)/\w.bytes.length<=200) (hn:W.length+l.length<=2000):∀ k:Nat,k<=l.length->(d.writes (l.take k)).2.1=k/\(d.writes (l.take k)).2.2=false/\Gw n (d.writes (l.take k)).1 F (W ++ l.take k)
 | 0,_=>⟨rfl,rfl,by rw [List.take_zero,AT];exact h⟩
 | k+1,hk=>by
  obtain⟨q1,q2,q3⟩:=Gw.puts h hl hn k (by omega);have hx:=Lo (d:=d) (l:=l) (k:=k) (by omega) q2;have hm:=hl _ (A5 (d:=(⟨0, []⟩:Wr)) (show k<l.length by omega));obtain⟨e0,hw⟩:=q3.write (by rw [Ai,Au];omega) hm.1.1 hm.1.2 hm.2;rw [hx,e0];refine⟨by simp only [q1];rfl,rfl,?_⟩;have e:l.take (k+1)=l.take k ++ [l.getD k ⟨0, []⟩]:=by
   rw [AZ,Af (by omega),Aa,Af (by omega)];try rfl
  rw [e,<-AE];exact hw
theorem Gd.putAll {n:Int} {d:Dk} {F:Int->List UInt8} {l:List Wr} (h:Gd n d F) (hl:∀ w∈l,(0<=w.addr/\w.addr<n)/\w.bytes.length<=200) (hn:l.length<=2000):(d.writes l).2.1=l.length/\(d.putAll l).2.1=l.length/\(d.putAll l).2.2=false/\Gd n (d.putAll l).1 (FU F l):=by
 obtain⟨q1,q2,q3⟩:=Gw.puts h hl (by simpa using hn) l.length (Ah _);rw [Aw] at q1 q2 q3;have e:=Fq q2;rw [if_neg (by rw [q3.left];decide)] at e;rw [e];exact⟨q1,q1,rfl,by simpa using q3.flush⟩
theorem Lf {g:Geo} {a:An} (hg:Bm g=true) (ha:Bn g a=true):∀ w∈Ba g a,(0<=w.addr/\w.addr<Aq g)/\w.bytes.length<=200:=fun w hw=>by
 obtain⟨g1,g2,g3,g4,g5⟩:=Ar.1 hg;have hcb:=Ey hg;obtain⟨i,hi,rfl⟩:=DR hw;exact⟨⟨by show 0<=((i:Nat):Int);omega,by show ((i:Nat):Int)<Aq g;omega⟩,JZ hg ha _⟩
theorem TY (g:Geo) (s:Stt) (d:Dk) (a:An) (F:Int->List UInt8) (hg:Bm g=true) (ha:Bn g a=true) (h:Gd (Aq g) d F) :
  ACalls Tryz.prog false 100 [.bp 0 0, .ag (Ft a)] (JC g s 0 d) fun r H=>r = iv (g.an.toNat:Nat)/\∃ d',Gd (Aq g) d' (FU F (Ba g a))/\H=Nw g s 0 d':=by
 have hin:=Lf hg ha;have hlen:=h.len;have hr:=KP g s d a hg ha h.ok fun w hw=>⟨by have:=(hin w hw).1;omega,(hin w hw).2⟩
 obtain⟨q1,q2,q3,q4⟩:=h.putAll hin (by rw [ED];have:=(Ar.1 hg).2.2.2.2;omega);rw [q1,q3,ED] at hr;exact hr.mono fun r H ⟨e1,e2⟩=>⟨e1,_,q4,e2⟩
@[reducible] def rwZ (g:Geo) (s:Stt) (d:Dk):List AB:= [.box 83 (ZG g (.bp 1 0) s 0), .box 85 (GX (.ow 2 d.cells.length) (.ow 6 d.cache.length) d.reqs d.left), .row 128 3 (d.cells.map B7), .dead, .dead, .dead, .row 134 2 (d.cache.map EE)]
theorem Gl {k:Nat} {m:Nat} {x:AV} {n:Nat} (h:n=m):AV.slIn k m x (.ow k n)=x:=by
 subst h;simp [AV.slIn]
theorem Sw {k j:Nat} {m n:Nat} {x:AV} (h:(j == k)=false):AV.slIn k m x (.ow j n) = .ow j n:=by
 have:j≠k:=by simpa using h
 simp [AV.slIn,this]
theorem TX (g:Geo) (s:Stt) (d:Dk) (F:Int->List UInt8) (hg:Bm g=true) (ha:Bn g s.a=true) (h:Gd (Aq g) d F) :
  ACalls Tryz.prog false 100 [.bp 0 0, .ag (Te s.a (.ow 4 s.a.homes.length))] (FB g s 0 d) fun r H=>r = iv (g.an.toNat:Nat)/\∃ d',Gd (Aq g) d' (FU F (Ba g s.a))/\H=rwZ g s d':=by
 have hr:=TY g s d s.a F hg ha h;obtain⟨T,hT⟩:∃ T:AV,T = .sl 4 (s.txns.map CV).length fun i=>(s.txns.map CV).getD i []:=⟨_,rfl⟩
 obtain⟨M,hM⟩:∃ M:AV,M = .sl 3 (s.a.homes.map ES).length fun i=>(s.a.homes.map ES).getD i []:=⟨_,rfl⟩
 have t1:∀ (c:Ctx) (v:Value),Rd T c v->Rd (DH s.txns) c v:=by rw [hT];exact Bc (f:=CV) s.txns (Ac _) rfl
 have m1:∀ (c:Ctx) (v:Value),Rd M c v->Rd (Jr s.a.homes) c v:=by rw [hM];exact Bc (f:=ES) s.a.homes (Ac _) rfl
 refine zd (zy (H:=FB g s 0 d) 0 5 (cs2:=ZC g (.bp 1 0) (.ow 4 s.a.homes.length) T s 0) rfl rfl ?_) ?_
 ·rw [<-hT];simp only [ZC,A4,Bz,Gl (Ac _).symm];rfl
 refine ACalls.lendBox2 (cs2:=ZC g (.bp 1 0) M T s 0) (ar2:=Te s.a M) 0 4 rfl rfl ?_ ?_ ?_
 ·rw [<-hM];subst hT;simp only [ZC,A4,Bz,Gl (Ac _).symm];rfl
 ·rw [<-hM];simp only [Te,A4,Bz,Gl (Ac _).symm];rfl
 refine zd (zr (cs':=ZG g (.bp 1 0) s 0) 0 rfl ⟨ri,ri,ri,ri,ri,ri,ri,ri,ri,ri,ri,ri,m1,t1,ri,ri,ri,ri,ri,ri,ri,tv⟩) ?_;refine zX [.bp 0 0, .ag (Ft s.a)] ⟨ri,Bk ⟨ri,ri,ri,ri,ri,ri,m1,tv⟩,tv⟩ ?_;refine ze9 [0,1,2,3] hr ?_;rintro _ _ ⟨rfl,d',hd',rfl⟩;exact⟨rfl,d',hd',rfl⟩
theorem G8 {g:Geo} {a:An} {seq:Int}:∀ (l m:List Img),CR g a seq (l ++ m)=CR g a seq l ++ CR g a seq m
 | [],m=>rfl
 | x::l,m=>by
  show EM g a seq x ++ CR g a seq (l ++ m)=(EM g a seq x ++ CR g a seq l) ++ CR g a seq m;rw [G8 l m,AE]
theorem NI {g:Geo} {a:An} {seq:Int}:∀ (l:List Img),(CR g a seq l).length<=2*l.length
 | []=>Ah _
 | x::l=>by
  have:=NI (g:=g) (a:=a) (seq:=seq) l;have h2:(EM g a seq x).length<=2:=by unfold EM;split <;> simp
  show (EM g a seq x ++ CR g a seq l).length<=2*(x::l).length;rw [Ai,Am];omega
theorem Pv (a:An) (seq:Int) (l:List Img) (x:Img):Cq a seq (l ++ [x])=Dw (Cq a seq l) seq x:=by
 unfold Cq;rw [BJ];try rfl
theorem aV {m:Nat} (h:Nat.ble 7 m=true):∀ z∈ [0,1,2,6,4,5],z<m:=fun z hz=>by
 have:=Ag h;simp at hz;omega
theorem V4 (x:Tx) (r:List Tx) (c:Ctx) (v:Value) (h:Rd (.sl 4 ((((x::r).length:Nat):Int).toNat - Int.toNat 1) fun i=>CV ((x::r).getD (i+Int.toNat 1) ⟨0,0,0, []⟩)) c v):Rd (DH r) c v:=
 zD (by simp) (fun i _=>by show CV ((x::r).getD (i+1) _)=_;simp) h
def hmT:List AV:= [.top, .top, .top]
def txT:List AV:= [.top, .top, .top, .top]
theorem Tq (s:Stt):∀ (r:AV) (R:List AB),(r = .ag (stX s (.ow 0 s.a.homes.length) (.ow 1 s.txns.length))/\R=[.row 177 3 (s.a.homes.map ES), .row 112 4 (s.txns.map CV)])->ConvH R [.row 177 3 (List.replicate s.a.homes.length hmT), .row 112 4 (List.replicate s.txns.length txT)]:=by
 rintro _ _ ⟨-,rfl⟩;refine zu (zA (k:=0) (es':=List.replicate s.a.homes.length hmT) rfl (by simp) fun i=>?_) (zA (k:=1) (es':=List.replicate s.txns.length txT) rfl (by simp) fun i=>?_)
 ·by_cases hi:i<s.a.homes.length
  ·have e1:(s.a.homes.map ES).getD i []=ES (s.a.homes.getD i ⟨[],0,0⟩):=Bd hi;have e2:(List.replicate s.a.homes.length hmT).getD i []=hmT:=by simp [hi]
   rw [e1,e2];exact SubL.tops (ES _)
  ·rw [Aa,AG (by simpa using hi),Aa,AG (by simpa using hi)];trivial
 ·by_cases hi:i<s.txns.length
  ·have e1:(s.txns.map CV).getD i []=CV (s.txns.getD i ⟨0,0,0, []⟩):=Bd hi;have e2:(List.replicate s.txns.length txT).getD i []=txT:=by simp [hi]
   rw [e1,e2];exact SubL.tops (CV _)
  ·rw [Aa,AG (by simpa using hi),Aa,AG (by simpa using hi)];trivial
theorem Rx (g:Geo) (a:An) (d:Dk) :
  ACalls Tryz.prog false 40 [.bp 0 0] (FB g (AJ a []) 0 d) fun r H=>r = .tp [iv 0,iv 0]/\H=FB g (AJ a []) 0 d:=by
 refine zT tys_ok Tryz.func40 rfl rfl (Ag rfl) ?_;exact⟨.tp [ze 0,ze 0], .tp [ze 0,ze 0],FB g (AJ a []) 0 d,fun _ _ h=>h,zS (s:= [0,1,2,3,4,5]) tA,rfl,rfl⟩
theorem TT (g:Geo) (a:An) (x:Tx) (r:List Tx) (d:Dk) (F:Int->List UInt8) (K:Int) (hg:Bm g=true) (hv:Vol g K d (AJ a (x::r))) (hK:K<=4294967294) (h:Gd (Aq g) d F) :
  ACalls Tryz.prog false 40 [.bp 0 0] (FB g (AJ a (x::r)) 0 d) fun v H=>v = .tp [iv (x.images.length:Nat),iv 0]/\∃ d',Gd (Aq g) d' (DJ g a x F)/\H=rwZ g (AJ (Eb g a x) r) d':=by
 obtain⟨g1,g2,g3,g4,g5⟩:=Ar.1 hg;have hsm:=hv.sm hg;have ha:Bn g a=true:=hv.an;have hring:Cw g (x::r) a.seq a.pos g.sl=true:=hv.ring;obtain⟨a1,a2,a3,a4⟩:=Ej ha;have hseq:a.seq+(x::r).length<=K:=hv.seq;have hgen:a.gen<=K:=hv.gen;obtain⟨p1,p2,p3,p4⟩:=Dp hring x (by simp);have hr0:=hring;simp only [Cw,Ad,decide_eq_true_eq] at hr0;obtain⟨⟨r1,r2,r3,r4,r5,r6,r7⟩,r8⟩:=hr0;have htw:=(IR (AJ a (x::r)) hsm).fnO fun q R hq y hy=>by
  rw [hq.2] at hy;simp only [AK,D3,or_false] at hy;rcases hy with rfl | rfl
  ·exact⟨_,_,_,rfl⟩
  ·exact⟨_,_,_,rfl⟩
 have htt:=Tq (AJ a (x::r));have ssub:SubL [.ag (stX (AJ a (x::r)) (.sl 3 a.homes.length fun i=>(a.homes.map ES).getD i []) (.sl 4 (x::r).length fun i=>((x::r).map CV).getD i []))] [.ag (Fe (AJ a (x::r)))]:=⟨Bk ⟨ri,ri,ri,ri,ri,ri,Bc (f:=ES) a.homes rfl rfl,Bc (f:=CV) (x::r) rfl rfl,ri,ri,ri,ri,ri,ri,tv⟩,tv⟩;have e0:(((x::r).length:Int) == 0)=false:=by rw [beq_eq_false_iff_ne,Am];omega
 refine zT tys_ok Tryz.func40 rfl rfl (Ag rfl) ?_;conv=>whnf
 rw [show (((AJ a (x::r)).txns.length:Int) == 0)=false from e0];conv=>whnf
 rw [show decide ((AJ a (x::r)).a.gen>=4294967295)=false from decide_eq_false (by show ¬a.gen>=4294967295;omega)];conv=>whnf
 rw [show decide ((AJ a (x::r)).a.seq>=4294967295)=false from decide_eq_false (by show ¬a.seq>=4294967295;rw [Am] at hseq;omega)];conv=>whnf
 refine FnO.lendC (htw.subA ssub) ⟨(Ac _).symm,(Ac _).symm,rfl⟩ ?_;intro q R hq;refine⟨_,htt q R hq,?_,?_⟩
 ·rw [hq.1];exact⟨rfl,by rw [flatS,flatS,flatS,NV _ _ rfl,NV _ _ rfl];try rfl⟩
 rw [hq.1];conv=>whnf
 refine Ae ⟨by omega,by show (0:Int)<((x::r).length:Nat);rw [Am];omega⟩ ?_;conv=>whnf
 refine Ae ⟨rfl,(Ac _).symm,by show 0<(x::r).length;rw [Am];omega⟩ ?_;conv=>whnf
 have hx30:x.images.length<=30:=by omega
 have hxi:∀ i:Nat,i<x.images.length->B3 g (x.images.getD i ⟨0,0, []⟩)=true:=fun i hi=>Av.1 p1 _ (A5 (d:=⟨0,0, []⟩) hi)
 refine zU (Nat × Dk) (fun y=>([(0, .bp 0 0),(4, .bp 8 0),(5, .bp 9 0),(6, .v (.bool true)),(7,ze 0),(8,ze (y.1:Nat))],FB g (AJ (Cq a x.seq (x.images.take y.1)) (x::r)) 0 y.2 ++ ([.row 177 3 (List.replicate a.homes.length hmT), .row 112 4 (List.replicate (x::r).length txT), .box 39 (stX (AJ a (x::r)) (.ow 6 a.homes.length) (.ow 7 (x::r).length)), .box 112 (CV x)]:List AB))) (fun y=>y.1<=x.images.length/\Gw (Aq g) y.2 F (CR g a x.seq (x.images.take y.1))) (fun y=>x.images.length - y.1) (0,d) ⟨Aj _,h⟩
  (zS (s:= [0,1,2,3,4,5,6,7,8,9]) tA) ?_
 rintro⟨i,d1⟩ ⟨hi,hd1⟩;simp only at hi hd1;have hAok:=Ja (g:=g) (seq:=x.seq) (by omega) (x.images.take i) ha;have hAl:=KA x.seq (x.images.take i) a;have hAs:=Hw x.seq (x.images.take i) a;obtain⟨A,hA⟩:∃ A,A=Cq a x.seq (x.images.take i):=⟨_,rfl⟩;rw [<-hA] at hAok hAl hAs |-
 by_cases hin:i<x.images.length
 ·obtain⟨y,hy⟩:∃ y,y=x.images.getD i ⟨0,0, []⟩:=⟨_,rfl⟩;have hyk:=hxi i hin;rw [<-hy] at hyk;obtain⟨hz,hyw⟩:=D0 hyk;have hyl:=Eg hg hyk;have htk:x.images.take (i+1)=x.images.take i ++ [y]:=by
   rw [AZ,Af hin,hy,Aa,Af hin];try rfl
  have hup:Cq a x.seq (x.images.take (i+1))=Dw A x.seq y:=by rw [htk,Pv,<-hA]
  have hwl:(CR g a x.seq (x.images.take i)).length<=2*i:=Br (NI _) (by rw [Au];omega);have hzl:y.zone.toNat<a.homes.length:=by omega
  have had:∀ w,B4 g A y.zone w=B4 g a y.zone w:=fun w=>by rw [hA];exact Iz _ hzl
  conv=>whnf
  rw [show decide ((i:Int)<(x.images.length:Nat))=true from decide_eq_true (by omega)];conv=>whnf
  repeat' (refine z_ ?_;conv=>whnf)
  refine⟨⟨by omega,by omega⟩,?_⟩;conv=>whnf
  repeat' (refine z_ ?_;conv=>whnf)
  rw [Ab,<-hy];by_cases h255:y.what=255
  ·rw [show (y.what != 255)=false by rw [h255];try rfl];conv=>whnf
   repeat' (refine z_ ?_;conv=>whnf)
   have ht0:=I5 g y.zone 0 hg hz (by decide);have ht1:=I5 g y.zone 1 hg hz (by decide);obtain⟨u1,u2⟩:=D5 hg hz (k:=0) (by decide);obtain⟨u3,u4⟩:=D5 hg hz (k:=1) (by decide);have hcb:=D9 hg;have hc0:=FF (A6 g y.zone 0) x.seq y.bytes ⟨by omega,by omega,by omega,by omega,by omega⟩;have hc1:=FF (A6 g y.zone 1) x.seq y.bytes ⟨by omega,by omega,by omega,by omega,by omega⟩;have hw0:=aM g (AJ A (x::r)) (Aq g) d1 F _ (A6 g y.zone 0) (Ce (A6 g y.zone 0) x.seq y.bytes) hd1 (by omega) (by omega) (FX (by omega));refine zx 3 ?_;conv=>whnf
   repeat' (refine z_ ?_;conv=>whnf)
   apply zO tys_ok mixed (.o [0,1,2,3,4,5,6,7,8] .fin) [13,128,129,130,131,132,133,134,135] (by kernel_rfl)
   ·conv=>whnf
    refine zZ ht0 ?_;exact tA
   conv=>whnf
   conv=>whnf
   refine zZ hc0 ?_;conv=>whnf
   refine ze9 [0,1,2,3,4,5] hw0 ?_;rintro _ _ ⟨rfl,d2,hd2,rfl⟩;have hw1:=aM g (AJ A (x::r)) (Aq g) d2 F _ (A6 g y.zone 1) (Ce (A6 g y.zone 1) x.seq y.bytes) hd2 (by rw [Ai];show _+1<2000;omega) (by omega) (FX (by omega));conv=>whnf
   repeat' (refine z_ ?_;conv=>whnf)
   apply zO tys_ok mixed (.o [0,1,2,3,4,5,6,7,8] .fin) [13,128,129,130,131,132,133,134,135] (by kernel_rfl)
   ·conv=>whnf
    refine zZ ht1 ?_;exact tA
   conv=>whnf
   conv=>whnf
   refine zZ hc1 ?_;conv=>whnf
   refine ze9 [0,1,2,3,4,5] hw1 ?_;rintro _ _ ⟨rfl,d3,hd3,rfl⟩;conv=>whnf
   repeat' (refine z_ ?_;conv=>whnf)
   apply zW (0) tys_ok mixed (.o [0,1,2,3,4,5,6,7,8,9,10,11,12] .fin) (by kernel_rfl);conv=>whnf
   try (refine tI ?_;conv=>whnf)
   try (refine tS ?_;conv=>whnf)
   have hzA:y.zone.toNat<A.homes.length:=by omega
   refine Ae ⟨by omega,by show y.zone<(A.homes.length:Nat);omega⟩ ?_;refine⟨⟨rfl,(Ac _).symm,hzA⟩,?_⟩;conv=>whnf
   rw [show ((AJ A (x::r)).a.homes.map ES).getD y.zone.toNat []=ES (A.homes.getD y.zone.toNat ⟨[],0,0⟩) from Bd hzA];conv=>whnf
   refine⟨(i+1,d3),⟨by show i+1<=x.images.length;omega,?_⟩,by show x.images.length - (i+1)<x.images.length - i;omega,?_⟩
   ·show Gw (Aq g) d3 F (CR g a x.seq (x.images.take (i+1)));rw [htk,G8];show Gw (Aq g) d3 F (_ ++ (EM g a x.seq y ++ []));rw [EM,if_pos h255,AT];simpa using hd3
   ·show WkR _ _ _ _ (FB g (AJ (Cq a x.seq (x.images.take (i+1))) (x::r)) 0 d3 ++ _);rw [hup,show Dw A x.seq y={ A with homes:=A.homes.set y.zone.toNat { A.homes.getD y.zone.toNat ⟨[],0,0⟩ with root:=x.seq } } from if_pos h255];have hl2:(AJ { A with homes:=A.homes.set y.zone.toNat { A.homes.getD y.zone.toNat ⟨[],0,0⟩ with root:=x.seq } } (x::r)).a.homes.length=A.homes.length:=AO;exact zS (s:= [0,1,2,3,4,5,6,7,8,9]) ⟨⟨rfl,rfl,rfl,rfl,rfl,AI (by omega),tv⟩,⟨by rw [hl2];try rfl,rfl,rfl,rfl,congrArg (fun es=>some (AB.row 177 3 es)) (BM (f:=ES) (l:=A.homes) (i:=y.zone.toNat) (a:={ A.homes.getD y.zone.toNat ⟨[],0,0⟩ with root:=x.seq })).symm,rfl,rfl,rfl,rfl,rfl,tv⟩,rfl,rfl,rfl,rfl,rfl⟩
  ·rw [show (y.what != 255)=true from bne_iff_ne.2 h255];obtain⟨w1,w2,w3⟩:=hyw h255;have hadr:=Mb g A y.zone y.what hg hAok hz ⟨w1,w2⟩;have hho:=Wf g (AJ A (x::r)) d1 F _ y.zone y.what x.seq y.bytes hg hAok hz ⟨w1,w2⟩ hd1 (by omega) (by omega) (by omega);have asub:SubL [.ag (AU g), .ag (Te A (.sl 3 A.homes.length fun i=>(A.homes.map ES).getD i [])),iv y.zone,iv y.what] [.ag (AU g), .ag (Ft A),iv y.zone,iv y.what]:=⟨ri,Bk ⟨ri,ri,ri,ri,ri,ri,Bc (f:=ES) A.homes rfl rfl,tv⟩,ri,ri,tv⟩;conv=>whnf
   repeat' (refine z_ ?_;conv=>whnf)
   apply zO tys_ok mixed (.o [0,1,2,3,4,5,6,7,8,9,10,11,12,13,14] .fin) [10,79,80,81,82,83,84,85,86,87,88,89,90,91,92] (by kernel_rfl)
   ·conv=>whnf
    (refine zp (args':= [.ag (AU g), .ag (Te A (.sl 3 A.homes.length fun i=>(A.homes.map ES).getD i [])),iv y.zone,iv y.what]) (hadr.subA asub) ⟨(Ac _).symm,rfl⟩ ?_;rintro _ rfl;refine⟨rfl,?_⟩)
    exact tA
   conv=>whnf
   conv=>whnf
   refine ze9 [0,1,2,3,4,5] hho ?_;rintro _ _ ⟨rfl,d2,hd2,rfl⟩;conv=>whnf
   repeat' (refine z_ ?_;conv=>whnf)
   apply zO tys_ok mixed (.o [0,1,2,3,4,5,6,7,8,9,10,11,12,13,14,16,15,17,18] .fin) [103,104,105,106,107,108,109,110,111,112,113,114,115,116,117,118,119,120,121] (by kernel_rfl)
   ·conv=>whnf
    (refine zp (args':= [.ag (AU g), .ag (Te A (.sl 3 A.homes.length fun i=>(A.homes.map ES).getD i [])),iv y.zone,iv y.what]) (hadr.subA asub) ⟨(Ac _).symm,rfl⟩ ?_;rintro _ rfl;refine⟨rfl,?_⟩)
    exact tA
   conv=>whnf
   conv=>whnf
   rw [show (B4 g A y.zone y.what != B4 g A y.zone y.what)=false by simp];conv=>whnf
   refine⟨(i+1,d2),⟨by show i+1<=x.images.length;omega,?_⟩,by show x.images.length - (i+1)<x.images.length - i;omega,?_⟩
   ·show Gw (Aq g) d2 F (CR g a x.seq (x.images.take (i+1)));rw [htk,G8];show Gw (Aq g) d2 F (_ ++ (EM g a x.seq y ++ []));rw [EM,if_neg h255,AT,<-had];exact hd2
   ·show WkR _ _ _ _ (FB g (AJ (Cq a x.seq (x.images.take (i+1))) (x::r)) 0 d2 ++ _);rw [hup,show Dw A x.seq y=A from if_neg h255];exact zS (s:= [0,1,2,3,4,5,6,7,8,9]) ⟨⟨rfl,rfl,rfl,rfl,rfl,AI (by omega),tv⟩,tA,rfl,rfl,rfl,rfl,rfl⟩
 ·have ei:i=x.images.length:=by omega
  rw [ei,Aw] at hd1 hA;have hfl:=bZ g (AJ A (x::r)) (Aq g) d1 F _ hd1;conv=>whnf
  rw [show decide ((i:Int)<(x.images.length:Nat))=false from decide_eq_false (by omega)];conv=>whnf
  refine zi Dk (fun d2=>([(0, .bp 0 0),(5, .bp 7 0),(6, .v (.bool true)),(7,ze 0)],rwP g (AJ A (x::r)) 0 d2 ++ ([.box 112 (CV x)]:List AB))) (fun d2=>Gd (Aq g) d2 (FU F (CR g a x.seq x.images))) ?_ ?_
  ·conv=>whnf
   refine ze9 [0,1,2,3,4,5] hfl ?_;rintro _ _ ⟨rfl,d2,hd2,rfl⟩;exact⟨d2,hd2,zS (s:= [0,1,2,3,4,5,10,9]) tA⟩
  intro d2 hd2;clear hi hin hd1 hfl;conv=>whnf
  refine zi Dk (fun d3=>([(0, .bp 0 0),(5, .bp 7 0),(6, .v (.bool true)),(7,ze 0)],rwZ g (AJ (Eb g a x) (x::r)) d3 ++ ([.box 112 (CV x)]:List AB))) (fun d3=>Gd (Aq g) d3 (DJ g a x F)) ?_ ?_
  ·conv=>whnf
   apply aDraw.dag (67239936) tys_ok mixed [([],43,(.o [0,1,2,3,4,5,6,7,8,9,10,11,12,13,14,15,16,19,20,21,22,23,25,28,29,30,31] (.alt 17 (.o [18,24] (.alt 26 (.o [27,32,33,34,35,36,37,38,39,40,41,42] .fin) (.alt 32 (.o [33,34,35,36] (.alt 26 (.jump 1) (.alt 37 (.jump 2) .non))) .non))) (.alt 26 (.one 27 (.alt 17 (.o [18,24,32,33,34,35,36,37,38,39,40,41,42] .fin) (.alt 32 (.o [17,18,24,33,34,35,36,37,38,39,40,41,42] .fin) .non))) (.alt 32 (.alt 17 (.o [18,24,33,34,35,36] (.alt 26 (.jump 1) (.alt 37 (.jump 2) .non))) (.alt 26 (.o [27,17,18,24,33,34,35,36,37,38,39,40,41,42] .fin) .non)) .non))))),([0,1,2,3,4,5,6,7,8,9,10,11,12,13,14,15,16,17,18,19,20,21,22,23,24,25,26,28,29,30,31,32,33,34,35,36],7,(.o [27,37,38,39,40,41,42] .fin)),([0,1,2,3,4,5,6,7,8,9,10,11,12,13,14,15,16,17,18,19,20,21,22,23,24,25,28,29,30,31,32,33,34,35,36,37],7,(.o [26,27,38,39,40,41,42] .fin))] [172,173,174,175,176,177,178,179,180,181,182,183,184,185,186,187,188,189,190,191,192,193,194,195,196,197,198,199,200,201,202,203,204,205,206,207,208,209,210,211] [(_,_),(_,_)] (by kernel_rfl)
   ·refine Ae ?_ ?_
    ·refine Ae ?_ (Ae ?_ (Ae ?_ (trivial)))
     ·conv=>whnf
      try (refine tI ?_;conv=>whnf)
      refine Ae ?_ (Ae ?_ (trivial))
      ·conv=>whnf
       try (refine tS ?_;conv=>whnf)
       try (refine tS ?_;conv=>whnf)
       try (refine tS ?_;conv=>whnf)
       exact tA
      ·conv=>whnf
       try (refine tS ?_;conv=>whnf)
       refine Ae ?_ (Ae ?_ (trivial))
       ·exact tA
       ·conv=>whnf
        try (refine tS ?_;conv=>whnf)
        exact tA
     ·refine Ae ?_ (Ae ?_ (trivial))
      ·conv=>whnf
       try (refine tI ?_;conv=>whnf)
       try (refine tS ?_;conv=>whnf)
       try (refine tS ?_;conv=>whnf)
       try (refine tS ?_;conv=>whnf)
       exact tA
      ·conv=>whnf
       try (refine tS ?_;conv=>whnf)
       try (refine tI ?_;conv=>whnf)
       try (refine tS ?_;conv=>whnf)
       try (refine tS ?_;conv=>whnf)
       exact tA
     ·conv=>whnf
      try (refine tS ?_;conv=>whnf)
      refine Ae ?_ (Ae ?_ (trivial))
      ·conv=>whnf
       try (refine tI ?_;conv=>whnf)
       refine Ae ?_ (Ae ?_ (trivial))
       ·exact tA
       ·conv=>whnf
        try (refine tS ?_;conv=>whnf)
        exact tA
      ·conv=>whnf
       try (refine tI ?_;conv=>whnf)
       try (refine tS ?_;conv=>whnf)
       try (refine tS ?_;conv=>whnf)
       exact tA
    refine Ae ?_ ?_
    ·conv=>whnf
     try (refine tS ?_;conv=>whnf)
     try (refine tS ?_;conv=>whnf)
     exact tA
    refine Ae ?_ ?_
    ·conv=>whnf
     try (refine tS ?_;conv=>whnf)
     exact tA
    conv=>whnf
    exact trivial
   conv=>whnf
   conv=>whnf
   apply z8 (0) tys_ok mixed (.o [0,1,2,3,4,5,6,7,8,9,10,11,12,13,14] .fin) [212,213,214,215,216,217,218,219,220,221,222,223,224,225] (by kernel_rfl)
   ·conv=>whnf
    try (refine tS ?_;conv=>whnf)
    exact tA
   conv=>whnf
   conv=>whnf
   have hsx:x.seq=a.seq:=r1;have hpx:x.pos=a.pos:=r3;have E1:IntKind.i64.wrap ((AJ A (x::r)).a.gen+1)=(Eb g a x).gen:=by
    show IntKind.i64.wrap (A.gen+1)=a.gen+1;rw [hAs.1];exact wi (by omega)
   have E2:(IntKind.i64.wrap ((AJ A (x::r)).a.pos+x.n)).tmod g.sl=(Eb g a x).pos:=by
    show (IntKind.i64.wrap (A.pos+x.n)).tmod g.sl=(x.pos+x.n).tmod g.sl;rw [hAs.2.2.1,hpx,wi (by omega)]
   have E3:IntKind.i64.wrap (x.seq+1)=(Eb g a x).seq:=by
    show IntKind.i64.wrap (x.seq+1)=a.seq+1;rw [hsx];exact wi (by omega)
   have E4:(if (AJ A (x::r)).a.last<x.seq then x.seq else (AJ A (x::r)).a.last)=(Eb g a x).last:=by
    show (if A.last<x.seq then x.seq else A.last)=max a.last a.seq;rw [hAs.2.2.2.2.1,hsx];split <;> omega
   have hok2:=P0 (x:=x) hg ha (by omega) (by omega) hsx (by omega) (by omega);have hran:=TX g (AJ (Eb g a x) (x::r)) d2 _ hg hok2 hd2;dsimp only;rw [E1,E2,E3,E4];subst hA;refine ze9 [0,1,2,6,4,5] hran ?_;rintro _ _ ⟨rfl,d3,hd3,rfl⟩;conv=>whnf
   rw [show decide (((g.an.toNat:Nat):Int) > 0)=true from decide_eq_true (by omega)];exact⟨d3,hd3,zS (s:= [0,1,2,3,4,5,8,7]) tA⟩
  intro d3 hd3;have hl1:1<=((AJ (Eb g a x) (x::r)).txns.length:Int):=by show 1<=((x::r).length:Int);rw [Am];omega
  conv=>whnf
  repeat' (refine z_ ?_;conv=>whnf)
  apply zW (0) tys_ok mixed (.o [0,1,2,3,4,5,6,7,8,9,10,11,12,13,14,15,16,17,18,19,20,21,22,23,24] .fin) (by kernel_rfl);conv=>whnf
  try (refine tI ?_;conv=>whnf)
  try (refine tS ?_;conv=>whnf)
  try (refine tS ?_;conv=>whnf)
  all_goals
   exact⟨.tp [ze (x.images.length:Nat),ze 0], .tp [ze (x.images.length:Nat),ze 0],rwZ g (AJ (Eb g a x) r) d3,ri,zG (zJ (zr (cs':=ZG g (.bp 1 0) (AJ (Eb g a x) r) 0) 0 rfl ⟨ri,ri,ri,ri,ri,ri,ri,ri,ri,ri,ri,ri,ri,V4 x r,ri,ri,ri,ri,ri,ri,ri,tv⟩)) (s:= [0,1,2,3,4,5,6]) tA,rfl,d3,hd3,rfl⟩
def F5 (d:Dk) (a:Int) (c:Cel):Dk:={ d with cells:=d.cells.set a.toNat c }
def Dk.fault (d:Dk) (kind a frm bit bits:Int):Dk × Int:=
 if CQ a 0 ((d.cells.length:Int) - 1)=false then (d,1) else if 0<d.cache.length then (d,9) else
 let c:=d.cells.getD a.toNat cz
 if kind=11 then (F5 d a { c with state:=if c.state=0 then 1 else c.state },0)
 else if kind=12 then (F5 d a { c with state:=2 },0)
 else if kind=13 then (if bit<0\/bits<0 then (d,1) else (F5 d a { c with bytes:=GO c.bytes bit bits },0))
 else if kind=14 then (F5 d a { c with bytes:=c.old },0)
 else if kind=15 then (if CQ frm 0 ((d.cells.length:Int) - 1)=false then (d,1) else (F5 d a { c with bytes:=(d.cells.getD frm.toNat cz).bytes },0))
 else (d,1)
theorem YY (d:Dk) (a:Int) (c:Cel):rkH (F5 d a c)=[.box 85 (GX (.ow 1 d.cells.length) (.ow 2 d.cache.length) d.reqs d.left), .row 128 3 ((d.cells.map B7).set a.toNat (B7 c)), .row 134 2 (d.cache.map EE)]:=by
 unfold rkH F5;simp only [AO,BM]
theorem Xw {d:Dk} {a:Int} (ha:0<=a/\a<d.cells.length):(d.cells.map B7).getD a.toNat []=B7 (d.cells.getD a.toNat cz):=Bd (by omega)
theorem Xv {d:Dk} {a:Int} (ha:0<=a/\a<d.cells.length):F5 d a (d.cells.getD a.toNat cz)=d:=by
 unfold F5;obtain⟨c,w,r,l⟩:=d;simp only [Dk.mk.injEq,and_true];simp only at ha;rw [Aa,Af (by omega),B8,List.set_getElem_self]
theorem TL (d:Dk) (kind a frm bit bits:Int) (h:DkOk d):ACalls Tryz.prog false 101 [.bp 0 0,iv kind,iv a,iv frm,iv bit,iv bits] (rkH d) fun r H=>r = .v (.int .i64 (d.fault kind a frm bit bits).2)/\H=rkH (d.fault kind a frm bit bits).1:=by
 have hn:=h.n;have w1:IntKind.i64.wrap ((d.cells.length:Int) - 1)=d.cells.length - 1:=wi (by omega);have i1:=WM a 0 ((d.cells.length:Int) - 1);have i2:=WM frm 0 ((d.cells.length:Int) - 1);refine zT tys_ok Tryz.func101 rfl rfl (Ag rfl) ?_;conv=>whnf
 rw [w1];refine zZ i1 ?_;cases hA:CQ a 0 ((d.cells.length:Int) - 1) with
 | false=>
  exact⟨_,iv 1,rkH d,fun _ _ h=>h,zS (s:= [0,1,2]) tA,by rw [Dk.fault,if_pos hA],by rw [Dk.fault,if_pos hA]⟩
 | true=>
  have ha:0<=a/\a<d.cells.length:=by rw [AF] at hA;omega
  have hmem:a.toNat<d.cells.length:=by omega
  have hgc:=Xw ha;have hA':¬CQ a 0 ((d.cells.length:Int) - 1)=false:=by rw [hA];simp
  conv=>whnf
  by_cases hc:0<d.cache.length
  ·rw [show decide ((d.cache.length:Int) > 0)=true from decide_eq_true (by omega)];exact⟨_,iv 9,rkH d,fun _ _ h=>h,zS (s:= [0,1,2]) tA,by rw [Dk.fault,if_neg hA',if_pos hc],by rw [Dk.fault,if_neg hA',if_pos hc]⟩
  ·rw [show decide ((d.cache.length:Int) > 0)=false from decide_eq_false (by omega)];have hE:∀ {D:Dk} {e:Int},(D,e)=d.fault kind a frm bit bits->(d.fault kind a frm bit bits).2=e/\(d.fault kind a frm bit bits).1=D:=fun q=>by rw [<-q];exact tA
   refine⟨ha,?_⟩;conv=>whnf
   have hb:(d.cells.getD a.toNat cz).bytes.length<=200:=(h.c _ (A5 (d:=cz) hmem)).2.1;have ho:(d.cells.getD a.toNat cz).old.length<=200:=(h.c _ (A5 (d:=cz) hmem)).2.2;have c1:=Wh (d.cells.getD a.toNat cz).bytes bit bits (by omega);have c2:=Eo (d.cells.getD a.toNat cz).old (by omega);have hget:d.fault kind a frm bit bits=d.fault kind a frm bit bits:=rfl;conv at hget=>rhs;rw [Dk.fault,if_neg hA',if_neg hc]
   simp only at hget;generalize hq:d.cells.getD a.toNat cz=c at hget hgc hb ho c1 c2;have LDB:(d.cells.map B7).length=d.cells.length:=Ac _;repeat' (refine z_ ?_;conv=>whnf)
   have EL:=fun(c':Cel)=>YY d a c'
   have RW:∀ c':Cel,((d.cells.map B7).set a.toNat (B7 c'))=((F5 d a c').cells.map B7):=fun c'=>by rw [F5];simp only [BM]
   have FIN:∀ c':Cel,d.fault kind a frm bit bits=(F5 d a c',0)->∀ es:List (List AV),es=(d.cells.map B7).set a.toNat (B7 c')->∃ y r H2,(∀ (x:Ctx) (v:Value),Rd (AV.v (Value.int IntKind.i64 0)) x v->Rd y x v)/\WkR (rkH d).length [(0,y)] [AB.box 85 (GX (.ow 1 d.cells.length) (.ow 2 d.cache.length) d.reqs d.left), .row 128 3 es, .row 134 2 (d.cache.map EE)] [(0,r)] H2/\(fun r H=>r=AV.v (Value.int IntKind.i64 (d.fault kind a frm bit bits).2)/\H=rkH (d.fault kind a frm bit bits).1) r H2:=fun c' hf es he=>by
    refine⟨_,iv 0,rkH (F5 d a c'),fun _ _ h=>h,zS (s:= [0,1,2]) ?_,by rw [hf],by rw [hf]⟩;rw [EL,he];exact tA
   have ONE:d.fault kind a frm bit bits=(d,1)->∃ y r H2,(∀ (x:Ctx) (v:Value),Rd (AV.v (Value.int IntKind.i64 1)) x v->Rd y x v)/\WkR (rkH d).length [(0,y)] (rkH d) [(0,r)] H2/\(fun r H=>r=AV.v (Value.int IntKind.i64 (d.fault kind a frm bit bits).2)/\H=rkH (d.fault kind a frm bit bits).1) r H2:=fun hf=>
    ⟨_,iv 1,rkH d,fun _ _ h=>h,zS (s:= [0,1,2]) tA,by rw [hf],by rw [hf]⟩
   have LSET:∀ e:List AV,((d.cells.map B7).set a.toNat e).length=d.cells.length:=fun e=>by rw [AO,Ac]
   have GSET:∀ e:List AV,((d.cells.map B7).set a.toNat e).getD a.toNat []=e:=fun e=>BN (by simpa using hmem)
   refine A7 (fun k1=>?_) (fun k1=>?_) <;> (repeat rw [Ab] at k1) <;> conv=>whnf
   ·rw [if_pos k1] at hget;refine⟨⟨rfl,LDB.symm,hmem⟩,?_⟩;conv=>whnf
    rw [hgc];conv=>whnf
    refine A7 (fun k2=>?_) (fun k2=>?_) <;> (repeat rw [Ab] at k2) <;> conv=>whnf
    ·rw [if_pos k2] at hget;refine⟨⟨rfl,LDB.symm,hmem⟩,?_⟩;conv=>whnf
     rw [hgc];conv=>whnf
     exact FIN _ hget _ rfl
    ·rw [if_neg k2] at hget;refine⟨_,iv 0,rkH d,fun _ _ h=>h,zS (s:= [0,1,2]) tA,by rw [hget],?_⟩;rw [hget];show _=rkH (F5 d a c);rw [<-hq,Xv ha]
   ·rw [if_neg k1] at hget;refine A7 (fun k2=>?_) (fun k2=>?_) <;> (repeat rw [Ab] at k2) <;> conv=>whnf
    ·rw [if_pos k2] at hget;refine⟨⟨rfl,LDB.symm,hmem⟩,?_⟩;conv=>whnf
     rw [hgc];conv=>whnf
     exact FIN _ hget _ rfl
    ·rw [if_neg k2] at hget;refine A7 (fun k3=>?_) (fun k3=>?_) <;> (repeat rw [Ab] at k3) <;> conv=>whnf
     ·rw [if_pos k3] at hget;refine A7 (fun k4=>?_) (fun k4=>?_) <;> (repeat rw [Ab] at k4) <;> conv=>whnf
      ·rw [if_pos (.inl k4)] at hget;exact ONE hget
      ·refine A7 (fun k5=>?_) (fun k5=>?_) <;> (repeat rw [Ab] at k5) <;> conv=>whnf
       ·rw [if_pos (.inr k5)] at hget;exact ONE hget
       ·rw [if_neg (by omega)] at hget;refine⟨⟨rfl,LDB.symm,hmem⟩,?_⟩;conv=>whnf
        rw [hgc];conv=>whnf
        refine zZ c1 ?_;refine⟨⟨rfl,LDB.symm,hmem⟩,?_⟩;conv=>whnf
        rw [hgc];conv=>whnf
        exact FIN _ hget _ rfl
     ·rw [if_neg k3] at hget;refine A7 (fun k4=>?_) (fun k4=>?_) <;> (repeat rw [Ab] at k4) <;> conv=>whnf
      ·rw [if_pos k4] at hget;refine⟨⟨rfl,LDB.symm,hmem⟩,?_⟩;conv=>whnf
       rw [hgc];conv=>whnf
       refine zZ c2 ?_;refine⟨⟨rfl,LDB.symm,hmem⟩,?_⟩;conv=>whnf
       rw [hgc];conv=>whnf
       exact FIN _ hget _ rfl
      ·rw [if_neg k4] at hget;refine A7 (fun k5=>?_) (fun k5=>?_) <;> (repeat rw [Ab] at k5) <;> conv=>whnf
       ·rw [if_pos k5] at hget;rw [w1];refine zZ i2 ?_;cases hF:CQ frm 0 ((d.cells.length:Int) - 1) with
        | false=>
         rw [if_pos hF] at hget;conv=>whnf
         exact ONE hget
        | true=>
         rw [if_neg (by rw [hF];simp)] at hget;have hf:0<=frm/\frm<d.cells.length:=by rw [AF] at hF;omega
         have c3:=Eo (d.cells.getD frm.toNat cz).bytes (by have:=(h.c _ (A5 (d:=cz) (show frm.toNat<d.cells.length by omega))).2.1;omega);refine⟨hf,?_⟩;refine⟨⟨rfl,LDB.symm,show frm.toNat<d.cells.length by omega⟩,?_⟩;conv=>whnf
         rw [Xw hf];conv=>whnf
         refine zZ c3 ?_;refine⟨⟨rfl,LDB.symm,hmem⟩,?_⟩;conv=>whnf
         rw [hgc];conv=>whnf
         exact FIN _ hget _ rfl
       ·rw [if_neg k5] at hget;exact ONE hget
structure Q4 where
 a:Int
 b:Int
 c:Int
 d:Int
def aI (x:Q4):List AV:= [iv x.a,iv x.b,iv x.c,iv x.d]
def q4z:Q4:=⟨0,0,0,0⟩
def TZ (l:List Q4):AV:= .sl 4 l.length fun i=>aI (l.getD i ⟨0,0,0,0⟩)
def EQ (n:Int) (d:Dk) (x:Q4):Dk:=(d.fault (11+DO x.a 5) (DO x.b n) (DO x.c n) (DO x.c 1000) (DO x.d 1000)).1
def Ff (d:Dk) (l:List Q4):Dk:=(l.take 20).foldl (EQ d.cells.length) d
theorem YZ {d:Dk} {a:Int} {c:Cel} (h:DkOk d) (hc:(0<=c.state/\c.state<=2)/\c.bytes.length<=200/\c.old.length<=200):DkOk (F5 d a c):=by
 refine⟨by simpa [F5] using h.n,h.m,h.r,h.l,fun x hx=>?_,fun w hw=>by simpa [F5] using h.w w hw⟩;rcases C3 hx with hx | rfl
 ·exact h.c x hx
 ·exact hc
theorem SS {d:Dk} (h:DkOk d) (i:Nat):(0<=(d.cells.getD i cz).state/\(d.cells.getD i cz).state<=2)/\(d.cells.getD i cz).bytes.length<=200/\(d.cells.getD i cz).old.length<=200:=by
 by_cases hi:i<d.cells.length
 ·exact h.c _ (A5 (d:=cz) hi)
 ·rw [Aa,AG (by omega)];exact⟨⟨Dg _,show (0:Int)<=2 by decide⟩,by simp [cz],by simp [cz]⟩
theorem DkOk.fault {d:Dk} (h:DkOk d) (kind a frm bit bits:Int):DkOk (d.fault kind a frm bit bits).1/\(d.fault kind a frm bit bits).1.cells.length=d.cells.length/\(d.fault kind a frm bit bits).1.cache=d.cache/\(d.fault kind a frm bit bits).1.left=d.left/\(d.fault kind a frm bit bits).1.reqs=d.reqs:=by
 have hc:=SS h a.toNat;have hf:=SS h frm.toNat;have go:∀ c:Cel,((0<=c.state/\c.state<=2)/\c.bytes.length<=200/\c.old.length<=200)->DkOk (F5 d a c)/\(F5 d a c).cells.length=d.cells.length/\(F5 d a c).cache=d.cache/\(F5 d a c).left=d.left/\(F5 d a c).reqs=d.reqs:=fun c h1=>⟨YZ h h1,by simp [F5],rfl,rfl,rfl⟩
 have st:DkOk d/\d.cells.length=d.cells.length/\d.cache=d.cache/\d.left=d.left/\d.reqs=d.reqs:=⟨h,rfl,rfl,rfl,rfl⟩;unfold Dk.fault;split
 ·exact st
 ·split
  ·exact st
  ·simp only;split
   ·refine go _ ⟨?_,hc.2⟩;simp only;split
    ·exact⟨by decide,by decide⟩
    ·exact hc.1
   ·split
    ·exact go _ ⟨⟨show (0:Int)<=2 by decide,Dg 2⟩,hc.2⟩
    ·split
     ·split
      ·exact st
      ·exact go _ ⟨hc.1,by simp only [EK];exact hc.2.1,hc.2.2⟩
     ·split
      ·exact go _ ⟨hc.1,hc.2.2,hc.2.2⟩
      ·split
       ·split
        ·exact st
        ·exact go _ ⟨hc.1,hf.2.1,hc.2.2⟩
       ·exact st
theorem Kj {n:Int}:∀ (l:List Q4) {d:Dk},DkOk d->DkOk (l.foldl (EQ n) d)/\(l.foldl (EQ n) d).cells.length=d.cells.length/\(l.foldl (EQ n) d).cache=d.cache/\(l.foldl (EQ n) d).left=d.left/\(l.foldl (EQ n) d).reqs=d.reqs
 | [],d,h=>⟨h,rfl,rfl,rfl,rfl⟩
 | x::l,d,h=>by
  obtain⟨h1,h2,h3,h4,h5⟩:=h.fault (11+DO x.a 5) (DO x.b n) (DO x.c n) (DO x.c 1000) (DO x.d 1000);obtain⟨k1,k2,k3,k4,k5⟩:=Kj l (d:=EQ n d x) h1;exact⟨k1,k2.trans h2,k3.trans h3,k4.trans h4,k5.trans h5⟩
theorem KE (n:Int) (d:Dk) {l:List Q4} {k:Nat} (h:k<l.length):(l.take (k+1)).foldl (EQ n) d=EQ n ((l.take k).foldl (EQ n) d) (l.getD k q4z):=by
 rw [AZ,BJ,Af h];simp [Aa,Af h]
theorem aU {m:Nat} (h:Nat.ble 6 m=true):∀ z∈ [3,4,5],z<m:=fun z hz=>by
 have:=Ag h;simp at hz;omega
def Vk (d:Dk) (l:List Q4) (k:Nat):Dk:=(l.take k).foldl (EQ d.cells.length) d
theorem T1 (g:Geo) (d:Dk) (l:List Q4) (h:DkOk d) (hl:l.length<=1000000):Fn Tryz.prog 41 [.ag (AU g), .ag (EP d),TZ l] fun r=>r = .ag (EP (Ff d l)):=by
 have hn:=h.n;have hm:=h.m;have ho:=O9 d (by omega) (by omega) (fun c hc=>by have:=(h.c c hc).2;omega) (fun w hw=>by have:=(h.w w hw).2;omega);have wn:IntKind.u64.wrap (d.cells.length:Int)=d.cells.length:=by rw [IntKind.wrap_u64];omega
 refine zR Tryz.func41 rfl ?_;conv=>whnf
 refine zV ho rfl ?_;rintro _ _ ⟨rfl,rfl⟩;conv=>whnf
 refine zU Nat (fun k=>([(2,TZ l),(4, .bp 1 0),(6, .bp 2 0),(7, .bp 3 0),(8,iv k)], [.box 23 (AU g), .box 43 (EP d), .box 43 [.v (.slice none 0 0), .v (.slice none 0 0),iv 0,iv 0], .box 85 (GX (.ow 4 (Vk d l k).cells.length) (.ow 5 (Vk d l k).cache.length) (Vk d l k).reqs (Vk d l k).left), .row 128 3 ((Vk d l k).cells.map B7), .row 134 2 ((Vk d l k).cache.map EE)])) (fun k=>k<=l.length/\k<=20) (fun k=>20 - k) 0 ⟨Aj _,Aj _⟩
  (zS (s:= [0,1,2,3,4,5]) tA) ?_
 rintro k ⟨hk,hk2⟩;have hD:DkOk (Vk d l k)/\_:=Kj (n:=d.cells.length) (l.take k) h;have hsx:k<l.length->Vk d l (k+1)=EQ d.cells.length (Vk d l k) (l.getD k q4z):=fun hk=>KE d.cells.length d (l:=l) (k:=k) hk
 have hend:¬(k<l.length/\k<20)->Vk d l k=Ff d l:=fun hq=>by
  unfold Ff Vk;by_cases e:k=20
  ·subst e;rfl
  ·rw [Az (show l.length<=k by omega),Az (show l.length<=20 by omega)]
 generalize hX:Vk d l k=D at hD hsx hend |-
 obtain⟨hD1,hD2,hD3,hD4,hD5⟩:=hD;have w1:IntKind.i64.wrap ((k:Int)+1)=k+1:=wi (by omega);conv=>whnf
 refine A7 (fun h6=>?_) (fun h6=>?_) <;> (repeat rw [Ab] at h6) <;> conv=>whnf
 ·refine A7 (fun h7=>?_) (fun h7=>?_) <;> (repeat rw [Ab] at h7) <;> conv=>whnf
  ·rw [show decide ((k:Int)<20)=true from decide_eq_true (by omega)];conv=>whnf
   repeat' (refine z_ ?_;conv=>whnf)
   rw [show l.getD k q4z=l.getD ((k:Nat):Int).toNat ⟨0,0,0,0⟩ by rw [Ab];try rfl] at hsx;generalize hx:l.getD ((k:Nat):Int).toNat ⟨0,0,0,0⟩=x at hsx;have hf:=TL D (11+DO x.a 5) (DO x.b d.cells.length) (DO x.c d.cells.length) (DO x.c 1000) (DO x.d 1000) hD1;have hsx:=hsx h6;have b5:0<=DO x.a 5/\DO x.a 5<5:=DN (by decide) (by decide);have w11:IntKind.i64.wrap (11+IntKind.i64.wrap ((IntKind.u64.wrap x.a).tmod 5))=11+DO x.a 5:=by
    show IntKind.i64.wrap (11+DO x.a 5)=_;exact wi (by omega)
   apply zW (2 ^ 172) tys_ok mixed (.o [0,1,2,3,4,5,6,7,8,9,10,11,12,13,14,15,16,17,18,19,20,21,22,23,24,25,26,27,28,29,30,31,32,33,34,35,36,37,38,39,40,41,42,43,44] .fin) (by kernel_rfl);conv=>whnf
   try (refine tI ?_;conv=>whnf)
   try (refine tI ?_;conv=>whnf)
   try (refine tI ?_;conv=>whnf)
   try (refine tI ?_;conv=>whnf)
   try (refine tI ?_;conv=>whnf)
   try (refine tI ?_;conv=>whnf)
   try (refine tI ?_;conv=>whnf)
   try (refine tI ?_;conv=>whnf)
   try (refine tI ?_;conv=>whnf)
   try (refine tI ?_;conv=>whnf)
   try (refine tI ?_;conv=>whnf)
   try (refine tI ?_;conv=>whnf)
   try (refine tI ?_;conv=>whnf)
   try (refine tI ?_;conv=>whnf)
   try (refine tI ?_;conv=>whnf)
   (rw [hx,wn,w11];refine ze9 [3,4,5] hf ?_;rintro _ _ ⟨rfl,rfl⟩)
   conv=>whnf
   repeat' (refine z_ ?_;conv=>whnf)
   refine⟨k+1,⟨by omega,by omega⟩,by omega,?_⟩;rw [hsx];exact zS (s:= [0,1,2,3,4,5]) ⟨⟨rfl,rfl,rfl,rfl,AI (by omega),tv⟩,tA,rfl,rfl,rfl,rfl,rfl⟩
  ·rw [hend (by omega)];refine Ae (Ac _).symm ?_;refine Ae (Ac _).symm ?_;exact⟨.ag (EP (Ff d l)),Bk ⟨Bc (f:=B7) _ rfl rfl,Bc (f:=EE) _ rfl rfl,ri,ri,tv⟩,rfl⟩
 ·rw [hend (by omega)];refine Ae (Ac _).symm ?_;refine Ae (Ac _).symm ?_;exact⟨.ag (EP (Ff d l)),Bk ⟨Bc (f:=B7) _ rfl rfl,Bc (f:=EE) _ rfl rfl,ri,ri,tv⟩,rfl⟩
end
section
open Go.RowKit Go.ChangeShapes Go.WideShapes Go.ChangeAt Go.Deep
section
variable {H:Type} {enc:TypeId × Value->H} {w:World}
theorem oQ4:OpenE enc w 30 4 fun L=>∃ x,L=aI x:=
 (W7 Tryz.underlying30 (by kernel_rfl)).mono fun L h=>by
  obtain⟨l,hl,rfl, -⟩:=h;match l,hl with
  | [a,b,c,d],_=>exact⟨⟨a,b,c,d⟩,rfl⟩
def bD (L:List AV):Prop:=∃ l,L=[TZ l]
theorem oQ4s:OpenE enc w 25 1 bD:=
 (Zl (α:=Q4) (sz:=4) (f:=aI) (d:=⟨0,0,0,0⟩) Tryz.underlying25 (by kernel_rfl) (by decide) oQ4).mono fun L ⟨l,h⟩=>⟨l,h⟩
end
end
section
open Go.RowKit
structure Q2 where
 a:Int
 b:Int
def bB (x:Q2):List AV:= [iv x.a,iv x.b]
def OF (l:List Q2):AV:= .sl 2 l.length fun i=>bB (l.getD i ⟨0,0⟩)
section
open Go.ChangeShapes Go.WideShapes Go.ChangeAt Go.Deep
variable {H:Type} {enc:TypeId × Value->H} {w:World}
theorem oQ2:OpenE enc w 100 2 fun L=>∃ x,L=bB x:=
 (W7 Tryz.underlying100 (by kernel_rfl)).mono fun L h=>by
  obtain⟨l,hl,rfl, -⟩:=h;match l,hl with
  | [a,b],_=>exact⟨⟨a,b⟩,rfl⟩
def bE (L:List AV):Prop:=∃ l,L=[OF l]
theorem oQ2s:OpenE enc w 24 1 bE:=
 (Zl (α:=Q2) (sz:=2) (f:=bB) (d:=⟨0,0⟩) Tryz.underlying24 (by kernel_rfl) (by decide) oQ2).mono fun L ⟨l,h⟩=>⟨l,h⟩
end
structure Md where
 a:An
 l:List Tx
 F:Int->List UInt8
 m:List (List UInt8)
def b8 (g:Geo) (M:Md) (lba:Int) (b:List UInt8) (M':Md):Prop:=
 (C6 M.l+4<=g.sl/\(EW g (AJ M.a M.l) M.F (lba.tdiv g.d)).isSome=true/\∃ W:List Wr,(∀ w∈W,(g.an<=w.addr/\w.addr<g.an+2*g.sl/\BZ w.bytes=w.addr)/\w.bytes.length<=200)/\M'=⟨M.a,M.l ++ [GD g M.a M.l M.F lba b],FU M.F W,M.m.set lba.toNat b⟩)
 \/((g.sl<C6 M.l+4\/EW g (AJ M.a M.l) M.F (lba.tdiv g.d)=none)/\M'=M)
def XV (g:Geo) (M:Md):Md:=match M.l with
 | []=>M
 | x::r=>⟨Eb g M.a x,r,DJ g M.a x M.F,M.m⟩
def Iy (n:Int) (F:Int->List UInt8) (q:Int):List UInt8:=if -n<=q/\q<n then F q else []
def Gn (g:Geo):Md:=⟨De (BO g ⟨#[]⟩) 0, [],Iy (Aq g) (Mg g (De (BO g ⟨#[]⟩) 0)),List.replicate (g.z*g.d).toNat zero8⟩
def aE (g:Geo) (L:List Q2):Nat->Md->Prop
 | 0,M=>M=Gn g
 | i+1,M=>∃ M1 M2,aE g L i M1/\(∃ lba b,(0<=lba/\lba<g.z*g.d)/\b.length=8/\b8 g M1 lba b M2)/\M=if (L.getD i ⟨0,0⟩).b.tmod 3=0 then XV g M2 else M2
structure Vo (g:Geo) (K:Int) (M:Md):Prop where
 an:Bn g M.a=true
 ring:Cw g M.l M.a.seq M.a.pos g.sl=true
 gen:M.a.gen<=K
 seq:M.a.seq+M.l.length<=K
 one:∀ t∈M.l,OneTab t.images
 fb:∀ q,(M.F q).length<=200
 m:(M.m.length:Int)=g.z*g.d
theorem Vo.vol {g:Geo} {K:Int} {M:Md} (h:Vo g K M) {d:Dk} (hd:Gd (Aq g) d M.F):Vol g K d (AJ M.a M.l):=⟨⟨_,hd⟩,h.an,h.ring,tA,h.gen,h.seq,h.one⟩
theorem Vo.of {g:Geo} {K:Int} {M:Md} {d:Dk} (h:Vol g K d (AJ M.a M.l)) (hf:∀ q,(M.F q).length<=200) (hm:(M.m.length:Int)=g.z*g.d):Vo g K M:=⟨h.an,h.ring,h.gen,h.seq,h.one,hf,hm⟩
theorem NF {a:Int}:∀ (n:Nat) (l:List Wr) (w:Wr),l.length=n->IX l a=some w->w∈l
 | 0,l,w,hn,h=>by
  obtain rfl:=AN.1 hn;rw [NE] at h;cases h
 | n+1,l,w,hn,h=>by
  rcases BX l with rfl | ⟨m,x,rfl⟩
  ·cases hn
  ·rw [BY] at h |-
   rw [Jl] at h;split at h
   ·obtain rfl:=Option.some.inj h;simp
   ·exact List.mem_append_left _ (NF n m w (by simpa using hn) h)
theorem QO {F:Int->List UInt8} {n:Nat} (hF:∀ q,(F q).length<=n) {W:List Wr} (hW:∀ w∈W,w.bytes.length<=n) (q:Int):(FU F W q).length<=n:=by
 induction W generalizing F with
 | nil=>exact hF q
 | cons w W ih=>
  refine ih (F:=Sq F w) (fun q=>?_) fun x hx=>hW x (AM _ hx)
  unfold Sq;split
  ·split
   ·exact hW w DC
   ·exact hF q
  ·split
   ·exact hF _
   ·exact hF q
theorem V6 {g:Geo} (hg:Bm g=true) {a:An} {x:Tx} (ha:Bn g (Eb g a x)=true) {F:Int->List UInt8} (hF:∀ q,(F q).length<=200) (hx:∀ y∈x.images,B3 g y=true) (q:Int):(DJ g a x F q).length<=200:=by
 unfold DJ;refine QO (QO hF fun w hw=>?_) (fun w hw=>(Lf hg ha w hw).2) q;obtain⟨y,hy,hw⟩:=G7.1 hw;have:=Eg hg (hx y hy);unfold EM at hw;split at hw
 ·simp only [AK,D3,or_false] at hw;rcases hw with rfl | rfl <;> exact FX (by omega)
 ·rw [Ay] at hw;rw [hw];exact FX (by omega)
theorem Vo.ck {g:Geo} (hg:Bm g=true) {K:Int} {M:Md} (h:Vo g K M) (hK:K<=4294967294) {d d':Dk} (hd:Gd (Aq g) d M.F) (hd':Gd (Aq g) d' (XV g M).F):Vo g (K+1) (XV g M):=by
 obtain⟨a,l,F,m⟩:=M;cases l with
 | nil=>exact⟨h.an,h.ring,by have q:a.gen<=K:=h.gen;show a.gen<=K+1;omega,by have q:a.seq+(([]:List Tx).length:Int)<=K:=h.seq;show a.seq+(([]:List Tx).length:Int)<=K+1;omega,h.one,h.fb,h.m⟩
 | cons x r=>
  have hv:=h.vol hd;have h2:=hv.home hg (x:=x) (r:=r) rfl hK (d':=d') ⟨_,hd'⟩;have hi:=(Dp h.ring x (DC)).1;exact Vo.of (d:=d') h2 (V6 hg h2.an h.fb (Av.1 hi)) h.m
theorem Gd.clip {n:Int} {d:Dk} {F:Int->List UInt8} (h:Gd n d F):Gd n d (Iy n F)/\∀ q,(Iy n F q).length<=200:=by
 have hl:=h.len;refine⟨⟨h.ok,h.left,h.len,h.cache,fun q h0 h1=>?_,fun q h0 h1=>?_⟩,fun q=>?_⟩
 ·have:=h.cell q h0 h1;unfold Iy;rw [if_pos ⟨by omega,h1⟩];exact this
 ·have:=h.old q h0 h1;unfold Iy;rw [if_pos ⟨by omega,by omega⟩];exact this
 ·unfold Iy;split
  ·rename_i hq;by_cases h0:0<=q
   ·have hc:=(h.cell q h0 hq.2).2;rw [<-hc];exact(h.ok.c _ (A5 (by omega))).2.1
   ·have hc:=h.old (-1 - q) (by omega) (by omega);rw [show -1 - (-1 - q)=q by omega] at hc;rw [<-hc];exact(h.ok.c _ (A5 (by omega))).2.2
  ·simp
theorem PV {g:Geo} (hg:Bm g=true):∃ D,D_ g (G9 g ⟨#[]⟩)=(D,0,AJ (Gn g).a (Gn g).l)/\DkOk (G9 g ⟨#[]⟩)/\((G9 g ⟨#[]⟩).cells.length:Int)=Aq g/\Gd (Aq g) D (Gn g).F/\Vo g 2 (Gn g):=by
 obtain⟨D,h1,h2,h3,h4,h5⟩:=ZS hg;obtain⟨q1,q2⟩:=h5.clip;refine⟨D,h1,h2,h3,q1,Vo.of (d:=D) (M:=Gn g) ⟨⟨_,q1⟩,h4.an,h4.ring,h4.rest,h4.gen,h4.seq,h4.one⟩ q2 ?_⟩;obtain⟨g1,g2,g3,g4,g5⟩:=Ar.1 hg;have:0<=g.z*g.d:=Df (by omega) (by omega);show (((List.replicate (g.z*g.d).toNat zero8).length:Nat):Int)=_;rw [Bw];omega
structure Gc (n:Int) (d:Dk) (F:Int->List UInt8) (l:List Wr):Prop where
 ok:DkOk d
 len:(d.cells.length:Int)=n
 cache:d.cache=l
 cell:∀ a:Int,0<=a->a<n->(d.cells.getD a.toNat cz).state=0/\(d.cells.getD a.toNat cz).bytes=F a
theorem Gw.gc {n:Int} {d:Dk} {F:Int->List UInt8} {l:List Wr} (h:Gw n d F l):Gc n d F l:=⟨h.ok,h.len,h.cache,h.cell⟩
theorem Gc.write {n:Int} {d:Dk} {F:Int->List UInt8} {l:List Wr} (h:Gc n d F l) (hl:l.length<2000) {a:Int} (h0:0<=a) (h1:a<n) {b:List UInt8} (hb:b.length<=200):(d.left=0/\d.write a b=(d,8))\/(d.left≠0/\(d.write a b).2=0/\Gc n (d.write a b).1 F (l ++ [⟨a,b⟩])):=by
 by_cases hz:d.left=0
 ·exact .inl ⟨hz,by unfold Dk.write;rw [if_pos hz]⟩
 ·have hw:=h.ok.write (a:=a) (b:=b) (by rw [<-h.len] at h1;omega) hb;have e:d.write a b=({ d.req with cache:=d.cache ++ [⟨a,b⟩] },0):=by
   unfold Dk.write;rw [if_neg hz,if_neg];rintro(h2 | h2)
   ·have:=(h.cell a h0 h1).1;unfold cz at this;omega
   ·rw [h.cache] at h2;omega
  rw [e] at hw |-
  exact .inr ⟨hz,rfl,hw,h.len,by rw [h.cache],h.cell⟩
theorem Gc.puts {n:Int} {d:Dk} {F:Int->List UInt8} {W l:List Wr} (h:Gc n d F W) (hl:∀ w∈l,(0<=w.addr/\w.addr<n)/\w.bytes.length<=200) (hn:W.length+l.length<=2000):∀ k:Nat,k<=l.length->(d.writes (l.take k)).2.2=false->(d.writes (l.take k)).2.1=k/\Gc n (d.writes (l.take k)).1 F (W ++ l.take k)
 | 0,_,_=>⟨rfl,by rw [List.take_zero,AT];exact h⟩
 | k+1,hk,hv=>by
  have hx0:=GE d (l:=l) (k:=k) (by omega);have hv0:(d.writes (l.take k)).2.2=false:=by
   cases hc:(d.writes (l.take k)).2.2 with
   | false=>rfl
   | true=>
    rw [hx0] at hv;unfold Gg at hv;rw [hc] at hv;simp only [if_true] at hv;rw [hc] at hv;cases hv
  obtain⟨q1,q3⟩:=Gc.puts h hl hn k (by omega) hv0;have hx:=Lo (d:=d) (l:=l) (k:=k) (by omega) hv0;have hm:=hl _ (A5 (d:=(⟨0, []⟩:Wr)) (show k<l.length by omega));rcases q3.write (by rw [Ai,Au];omega) hm.1.1 hm.1.2 hm.2 with ⟨-,e8⟩ | ⟨-,e0,hw⟩
  ·rw [hx,e8] at hv;cases hv
  ·rw [hx,e0];have e:l.take (k+1)=l.take k ++ [l.getD k ⟨0, []⟩]:=by
    rw [AZ,Af (by omega),Aa,Af (by omega)];try rfl
   refine⟨by simp only [q1];rfl,?_⟩;rw [e,<-AE];exact hw
theorem Gc.flush {n:Int} {d:Dk} {F:Int->List UInt8} {l:List Wr} (h:Gc n d F l):Gc n d.flush (FU F l) []:=by
 have e:d.flush=⟨CX d.cells l, [],d.req.reqs,d.req.left⟩:=by
  unfold Dk.flush;rw [allFin_cells,h.cache];try rfl
 have ho:=h.ok.flush;rw [e] at ho |-
 refine⟨ho,by show ((CX d.cells l).length:Int)=n;rw [finL_len];exact h.len,rfl,fun a h0 h1=>?_⟩;have hl:=h.len;refine Pd h0 (by omega) (h.cell a h0 h1) _ l rfl fun w hw=>?_
 rw [<-h.cache] at hw;exact(h.ok.w w hw).1.1
theorem Gc.putAll {n:Int} {d:Dk} {F:Int->List UInt8} {l:List Wr} (h:Gc n d F []) (hl:∀ w∈l,(0<=w.addr/\w.addr<n)/\w.bytes.length<=200) (hn:l.length<=2000) (hv:(d.putAll l).2.2=false):(d.putAll l).2.1=l.length/\Gc n (d.putAll l).1 (FU F l) []:=by
 cases hw:(d.writes l).2.2 with
 | true=>rw [FZ hw] at hv;cases hv
 | false=>
  have hp:=Gc.puts h hl (by simpa using hn) l.length (Ah _);rw [Aw] at hp;obtain⟨q1,q2⟩:=hp hw;have e:=Fq hw;by_cases h0:(d.writes l).1.left=0
  ·rw [if_pos h0] at e;rw [e] at hv;cases hv
  ·rw [if_neg h0] at e;rw [e];exact⟨q1,by simpa using q2.flush⟩

theorem N4 (g:Geo) (w:Int) (hw : -1<=w/\w<g.d):Fn Tryz.prog 223 [.ag (AU g),iv w] fun r=>r = .tp [iv (Ev g w), .v (.bool true)]:=by
 unfold Ev;by_cases h:w = -1
 ·rw [if_pos h];refine zR Tryz.func223 rfl ?_;conv=>whnf
  rw [show (w == -1)=true by simpa using h];exact⟨_,ri,rfl⟩
 ·rw [if_neg h];refine zR Tryz.func223 rfl ?_;conv=>whnf
  rw [show (w == -1)=false by simpa using h];refine zC tys_ok mixed [0,1,2,3,4,5,6,7,8,9,10] (by kernel_rfl) ?_;conv=>whnf
  rw [show decide (w>=0)=true from decide_eq_true (by omega)];conv=>whnf
  rw [show decide (w<g.d)=true from decide_eq_true (by omega)];exact⟨_,ri,rfl⟩
theorem MS {g:Geo} {a:An} (hg:Bm g=true) (ha:Bn g a=true):a.label.size<=1000000/\a.homes.length<=1000/\∀ h∈a.homes,h.places.length<=1000000:=by
 have:=Ht hg ha 0 (Aj _);exact⟨by have:=this.2.2.2.1;omega,by have:=this.2.1;omega,fun h hh=>Le hg ha h hh⟩
theorem Uc (g:Geo) (a:An) (z w:Int) (hg:Bm g=true) (ha:Bn g a=true) (hz:0<=z/\z<g.z) (hw : -1<=w/\w<g.d):Fn Tryz.prog 222 [.ag (AU g), .ag (Ft a),iv z,iv w] fun r=>r = iv 0:=by
 obtain⟨s1,s2, -⟩:=MS hg ha;have c1:=Oj g a s1 (by omega);rw [hg,ha] at c1;have c2:=N4 g w hw;refine zR Tryz.func222 rfl ?_;conv=>whnf
 refine zZ c1 ?_;conv=>whnf
 refine zZ c2 ?_;conv=>whnf
 rw [show decide (z<0)=false from decide_eq_false (by omega)];conv=>whnf
 rw [show decide (z>=g.z)=false from decide_eq_false (by omega)];exact⟨_,ri,rfl⟩
theorem Ww (g:Geo) (a:An) (z w:Int) (hg:Bm g=true) (ha:Bn g a=true) (hz:0<=z/\z<g.z) (hw : -1<=w/\w<g.d):Fn Tryz.prog 170 [.ag (AU g), .ag (Ft a),iv z,iv w] fun r=>r = .tp [iv (B4 g a z w),iv 0]:=by
 obtain⟨g1,g2,g3,g4,g5⟩:=Ar.1 hg;obtain⟨hi,hh⟩:=NP ha hz;simp only [En,Ad,decide_eq_true_eq,AF] at hh;obtain⟨p1,p2,p3,p4⟩:=hh;have hat:0<=Ev g w/\Ev g w<=g.d:=by unfold Ev;split <;> omega
 have hk:(Ev g w).toNat<(a.homes.getD z.toNat ⟨[],0,0⟩).places.length:=by omega
 have hp:=Av.1 p4 (Ev g w).toNat (by simpa using hk);simp only [Ad,AF] at hp;have c1:=Uc g a z w hg ha hz hw;have c2:=N4 g w hw;have c3:=WR g z ((a.homes.getD z.toNat ⟨[],0,0⟩).places.getD (Ev g w).toNat 0) hg hz (by unfold CK;omega);refine zR Tryz.func170 rfl ?_;conv=>whnf
 refine zZ c1 ?_;conv=>whnf
 refine zZ c2 ?_;conv=>whnf
 apply zO tys_ok mixed (.o [0,1,2,3,4,5,6,7,8,9,10,11,12,13,14,15] .fin) [8,9,27,28,29,30,31,32,33,34,35,36,37,38,39,40] (by kernel_rfl)
 ·conv=>whnf
  try (refine Ae (by first | omega | exact ixA | exact ixB | (simp;done)) ?_;conv=>whnf)
  try (refine Ae (by first | omega | exact ixA | exact ixB | (simp;done)) ?_;conv=>whnf)
  refine zZ c3 ?_;exact tA
 exact⟨_,ri,rfl⟩
theorem NQ (g:Geo) (lba:Int) (hg:Bm g=true) (h:0<=lba/\lba<g.z*g.d):Fn Tryz.prog 103 [.ag (AU g),iv lba] fun r=>r = .tp [iv (lba.tdiv g.d),iv (lba.tmod g.d),iv 0]:=by
 obtain⟨h1,h2,h3,h4,h5⟩:=Ar.1 hg;have hG:Fn Tryz.prog 51 [.ag (AU g)] fun r=>r = .v (Ge (Bm g)):=Ei g.z g.d g.sp g.sl g.an
 rw [hg] at hG;have hp:g.z*g.d<=16:=Int.le_trans (BI h1.2 (by omega)) (by omega);have hw:IntKind.i64.wrap (IntKind.i64.wrap (g.z*g.d) - 1)=g.z*g.d - 1:=by rw [wi (n:=g.z*g.d) (by omega),wi (by omega)]
 have hn:=Jt lba 0 (IntKind.i64.wrap (IntKind.i64.wrap (g.z*g.d) - 1));rw [show CQ lba 0 (IntKind.i64.wrap (IntKind.i64.wrap (g.z*g.d) - 1))=true from AF.2 (by rw [hw];omega)] at hn;have hq:lba.tdiv g.d=lba / g.d:=AX h.1;have hq2:0<=lba / g.d/\lba / g.d<=lba:=⟨CT h.1 (by omega),Int.ediv_le_self _ h.1⟩;refine zR Tryz.func103 rfl ?_;conv=>whnf
 refine zZ hG ?_;conv=>whnf
 refine zZ hn ?_;conv=>whnf
 have hd0:g.d≠0:=by omega
 refine zC tys_ok mixed [0,1,2,3,4,5,6,7,8,9,10] (by kernel_rfl) ?_;refine⟨hd0,?_⟩;refine⟨hd0,?_⟩;exact⟨_,ri,by rw [wi (n:=lba.tdiv g.d) (by omega)]⟩
theorem UW (g:Geo) (w:Int):Fn Tryz.prog 172 [.ag (AU g),iv w] fun r=>r = iv (Ev g w):=by
 unfold Ev;by_cases h:w = -1
 ·rw [if_pos h];refine zR Tryz.func172 rfl ?_;conv=>whnf
  rw [show (w == -1)=true by simpa using h];exact⟨_,ri,rfl⟩
 ·rw [if_neg h];refine zR Tryz.func172 rfl ?_;conv=>whnf
  rw [show (w == -1)=false by simpa using h];exact⟨_,ri,rfl⟩
end
section
open Go.RowKit Go.Maps
theorem Fn.at {P:Program} {f:FuncId} {args:List AV} {K:AV->Prop} (h:Fn P f args K) {c0:Ctx} (hd:c0.dom=0) (hM:∀ b,c0.M b->b<c0.w.heap.size) (hg:globOk c0.w) {W:World} (hB:Below c0.w.heap.size c0.w W) {us:List Value} (hr:RdL args { c0 with w:=W } us) :
  Calls P f us.toArray W fun e w'=>∃ v r,e = .returned v/\K r/\Below W.heap.size W w'/\Rd r { c0 with w:=w' } v:=
 h.2 { c0 with w:=W } us hd (fun b hb=>At (hM b hb) hB.size) (hg.keep hB.size hB.block) hr
theorem N5 {w w':World} {P:Program} {k:TypeId} {R:Value->Option (DataW Unit × List MemPlace)} {b n:Nat} {D:DataW Unit} (h:w.ownsMap P k R b n D) (hB:Below w.heap.size w w'):w'.ownsMap P k R b n D:=by
 have hl:=h.lt;obtain⟨es,clock,hb,r⟩:=h;exact⟨es,clock,(hB.block b hl).trans hb,r⟩
theorem und_map:Tryz.prog.underlying 303=some (.map 3 4):=by kernel_rfl
theorem und_int:Tryz.prog.underlying 3=some (.int .i64):=by kernel_rfl
theorem und_bool:Tryz.prog.underlying 4=some .bool:=by kernel_rfl
theorem TE (g:Geo) (A:Int) (hg:Bm g=true) (h:0<=A/\A<g.z*g.d):Fn Tryz.prog 175 [.ag (AU g),iA [A]] fun r=>r = .tp [iv 4,iv 0]:=by
 refine⟨⟨_,Tryz.func175,rfl,by decide⟩,fun c0 us hd hM hgl hr=>?_⟩;obtain⟨u1,u2,rfl,h1,h2⟩:=b9 hr;have hu1:u1 = .agg #[.int .i64 g.z, .int .i64 g.d, .int .i64 g.sp, .int .i64 g.sl, .int .i64 g.an]:=by
  simp only [AU,Rd,RdL] at h1;obtain⟨xs,rfl,a1,_,rfl,rfl,a2,_,rfl,rfl,a3,_,rfl,rfl,a4,_,rfl,rfl,a5,_,rfl,rfl,rfl⟩:=h1;rfl
 have hs:=QT h2;obtain⟨a,k,rfl⟩:=hs.form;subst hu1;have hC:Fn Tryz.prog 51 [.ag (AU g)] fun r=>r = .v (Ge (Bm g)):=Ei g.z g.d g.sp g.sl g.an
 rw [hg] at hC;have hS:=NQ g A hg h;have hX:=Qe [] A (by decide);have hkb:k<=maxLen:=hs.cap.2.2;obtain⟨b,o,rfl, -,hx⟩:=OU hs (k:=0) (show 0<1 by decide);have rg:∀ W,Rd (.ag (AU g)) { c0 with w:=W } (.agg #[.int .i64 g.z, .int .i64 g.d, .int .i64 g.sp, .int .i64 g.sl, .int .i64 g.an]):=fun W=>by
  simp [Rd,RdL,AU]
 have cC:∀ W,Below c0.w.heap.size c0.w W->Calls Tryz.prog 51 #[.agg #[.int .i64 g.z, .int .i64 g.d, .int .i64 g.sp, .int .i64 g.sl, .int .i64 g.an]] W fun e w'=>e = .returned (.int .i64 0)/\Below W.heap.size W w':=fun W hB=>(hC.at hd hM hgl hB (us:= [_]) (by simpa [RdL] using rg W)).mono fun e w' ⟨v,r,h1,h2,h3,h4⟩=>by
  subst h2;simp only [Rd] at h4;subst h4;exact⟨h1,h3⟩
 have cS:∀ W,Below c0.w.heap.size c0.w W->Calls Tryz.prog 103 #[.agg #[.int .i64 g.z, .int .i64 g.d, .int .i64 g.sp, .int .i64 g.sl, .int .i64 g.an], .int .i64 A] W fun e w'=>e = .returned (.tuple #[.int .i64 (A.tdiv g.d), .int .i64 (A.tmod g.d), .int .i64 0])/\Below W.heap.size W w':=fun W hB=>(hS.at hd hM hgl hB (us:= [_,_]) (by simpa [RdL,Rd] using rg W)).mono fun e w' ⟨v,r,h1,h2,h3,h4⟩=>by
  subst h2;simp only [Rd,RdL] at h4;obtain⟨xs,rfl,a1,_,rfl,rfl,a2,_,rfl,rfl,a3,_,rfl,rfl,rfl⟩:=h4;exact⟨h1,h3⟩
 have cX:∀ W v,Below c0.w.heap.size c0.w W->Rd (iA []) { c0 with w:=W } v->Calls Tryz.prog 115 #[v, .int .i64 A] W fun e w'=>e = .returned (.bool false)/\Below W.heap.size W w':=fun W v hB hv=>(hX.at hd hM hgl hB (us:= [v,_]) (by simpa [RdL,Rd] using hv)).mono fun e w' ⟨v,r,h1,h2,h3,h4⟩=>by
  subst h2;simp only [Rd] at h4;subst h4;exact⟨h1,h3⟩
 have hmm:=@run_makeMap Tryz.prog;clear hC hS hX hr h2 h1 hs rg
 go_enter Tryz.func175,Tryz.ntmps175
 go_wp2_with fail
 have hB1:Below c0.w.heap.size c0.w (c0.w.alloc (.cells #[.int .i64 g.z, .int .i64 g.d, .int .i64 g.sp, .int .i64 g.sl, .int .i64 g.an] 23)):=(Below.refl _ _).alloc (Ah _) _;((with_reducible refine(cC _ hB1).mono ?_);rintro e w1 ⟨rfl,hBa⟩);have hs1:c0.w.heap.size+1<=w1.heap.size:=by have:=hBa.size;simpa using this
 have hBw:=Lib.hid (hB1.trans (hBa.mono (by simp)));have hbk:=Lib.hid ((hBa.block c0.w.heap.size (by simp)).trans (heap_alloc_new _ _));clear hB1 hBa cC
 go_wp2_with fail
 refine wp_loop_rounds 2 ?_;rw [rounds_succ];have hB2:=Lib.hid (hBw.out.alloc (by omega) (.map #[] 0));have hcell:∀ i,(w1.alloc (.map #[] 0)).cell? ⟨c0.w.heap.size,i,none⟩ = #[Value.int .i64 g.z, .int .i64 g.d, .int .i64 g.sp, .int .i64 g.sl, .int .i64 g.an][i]? :=fun i=>by
  simp only [World.cell?];rw [Below.heap_alloc _ _ _ (by omega),hbk.out];try rfl
 have hx2:(w1.alloc (.map #[] 0)).cell? ⟨b,o,none⟩=some (.int .i64 A):=by
  have q:=World.block_lt_of_cell? c0.w _ hx;exact(hB2.out.cell (by exact q)).trans hx
 have hown:(w1.alloc (.map #[] 0)).ownsMap Tryz.prog 3 (plainElem (H:=Unit) Tryz.prog 4) w1.heap.size 0 (.map []):=World.ownsMap_made _ _ _ _;generalize hW:w1.alloc (.map #[] 0)=W2 at *
 go_wp2_with fail
 ((with_reducible refine(cS _ hB2.out).mono ?_);rintro e w2 ⟨rfl,hBb⟩);have hB3:=Lib.hid (hB2.out.trans (hBb.mono hB2.out.size));have hown2:=N5 hown hBb;have hs2:=hBb.size;have hs3:c0.w.heap.size<W2.heap.size:=by rw [<-hW];simp;omega
 have hcell2:∀ i,w2.cell? ⟨c0.w.heap.size,i,none⟩ = #[Value.int .i64 g.z, .int .i64 g.d, .int .i64 g.sp, .int .i64 g.sl, .int .i64 g.an][i]? :=fun i=>(hBb.cell (p:=⟨c0.w.heap.size,i,none⟩) hs3).trans (hcell i)
 clear hcell hx2 hown cS
 go_wp2_with fail
 ((with_reducible refine(cX _ _ hB3.out ?_).mono ?_))
 ·simp only [iA,Rd];exact⟨_,k,rfl,Aj _,hkb, .inl rfl⟩
 rintro e w3 ⟨rfl,hBc⟩;have hB4:=Lib.hid (hB3.out.trans (hBc.mono hB3.out.size));have hown3:=N5 hown2 hBc;have hs4:=hBc.size;have hZ:(Lit.int .i64 (A.tdiv g.d)).wf=true:=by
  obtain⟨h1,h2,h3,h4,h5⟩:=Ar.1 hg;have hp:g.z*g.d<=16:=Int.le_trans (BI h1.2 (by omega)) (by omega);have hq:A.tdiv g.d=A / g.d:=AX h.1;have hq2:0<=A / g.d/\A / g.d<=A:=⟨CT h.1 (by omega),Int.ediv_le_self _ h.1⟩;have : -9223372036854775808<=A.tdiv g.d/\A.tdiv g.d<=9223372036854775807:=by omega
  simp only [Lit.wf];rw [Ad];exact⟨decide_eq_true this.1,decide_eq_true this.2⟩
 have hkey:keyOf Tryz.prog 3 (.int .i64 (A.tdiv g.d))=some (.int .i64 (A.tdiv g.d)):=keyOf_int_mk und_int hZ;clear hcell2 hown2 cX
 go_wp2_with (first
  | (at_mapUpdate;refine wpList_mapUpdate_own _ rfl _ _ _ 303 rfl 3 4 (int_keyed und_int) und_map (plainElem (H:=Unit) Tryz.prog 4) w1.heap.size 0 _ rfl hown3 (by unfold maxLen;omega) _ _ _ rfl rfl hkey _ [] (plainElem_bool und_bool true) ?_;intro w4 hown4 hgrow4)
  | go_in)
 rw [rounds_succ];have hsz:Maps.size ((DataW.map (H:=Unit) []).put (Lit.int .i64 (A.tdiv g.d)) (.lit (.bool true)))=1:=rfl;have hB5:=Lib.hid (hB4.out.grown hgrow4 (by have:=hB4.out.size;omega) (fun j hj=>by cases hj;omega))
 go_wp2_with (first
  | (at_len;refine wpList_len_own _ rfl _ 303 rfl 3 4 und_map _ w1.heap.size (0+1) _ rfl hown4 ?_)
  | go_in)
 go_ret2
 refine⟨_,_,rfl,rfl,hB5.out,?_⟩;simp only [Rd,RdL];exact⟨_,rfl,_,_,rfl,rfl,_,_,rfl,rfl,rfl⟩
end
section
open Go.RowKit
theorem I9 (l:List Tx) (z w:Int) (hl:l.length<=1000000) (hi:∀ t∈l,t.images.length<=1000000/\∀ x∈t.images,x.bytes.length<=1000000000):ACalls Tryz.prog false 104 [.ow 0 l.length,iv z,iv w] [.row 112 4 (l.map CV)] fun r H=>r=(match Cr l z w with | some p=> .tp [bA p.1.bytes,iv p.2, .v (.bool true)] | none=> .tp [bA [],iv 0, .v (.bool false)])/\H=[.row 112 4 (l.map CV)]:=by
 have hf:=PX l z w hl (fun t ht=>(hi t ht).1);have e:Cr l z w=_:=Pc l z w l.length;rw [e];have tsub:SubL [.sl 4 l.length fun i=>(l.map CV).getD i [],iv z,iv w] [DH l,iv z,iv w]:=⟨Bc (f:=CV) l rfl rfl,ri,ri,tv⟩;cases hA:HW l z w l.length with
 | none=>
  rw [hA] at hf;refine zT tys_ok Tryz.func104 rfl rfl (Ag rfl) ?_;conv=>whnf
  refine zp (args':= [.sl 4 l.length fun i=>(l.map CV).getD i [],iv z,iv w]) (hf.subA tsub) ⟨(Ac _).symm,rfl⟩ ?_;rintro _ rfl;refine⟨rfl,?_⟩;exact⟨_, .tp [bA [],iv 0, .v (.bool false)], [.row 112 4 (l.map CV)],Cf (m:= [bA [],iv 0, .v (.bool false)]) ⟨Bo 1 _,ri,ri,tv⟩,zS (s:= [0]) tA,rfl,rfl⟩
 | some p=>
  obtain⟨k,i⟩:=p;rw [hA] at hf;obtain⟨hk,hi2⟩:=MJ hA;simp only at hk hi2;have hm:=hi _ (A5 (d:=tz) hk);have hc:=Cx ((l.getD k tz).images.getD i iz).bytes (hm.2 _ (A5 hi2));replace hf:Fn Tryz.prog 169 [DH l,iv z,iv w] fun r=>r = .tp [iv (k:Nat),iv (i:Nat), .v (.bool true)]:=hf
  have ixA:(0:Int)<=(k:Nat)/\((k:Nat):Int)<(l.length:Nat):=by omega
  have ixB:(0:Int)<=(i:Nat)/\((i:Nat):Int)<((l.getD k tz).images.length:Nat):=⟨Int.natCast_nonneg _,Int.ofNat_lt.2 hi2⟩;have hE:(l.map CV).getD (k:Int).toNat []=CV (l.getD k tz):=by rw [Ab];exact Bd hk
  refine zT tys_ok Tryz.func104 rfl rfl (Ag rfl) ?_;conv=>whnf
  refine zp (args':= [.sl 4 l.length fun i=>(l.map CV).getD i [],iv z,iv w]) (hf.subA tsub) ⟨(Ac _).symm,rfl⟩ ?_;rintro _ rfl;refine⟨rfl,?_⟩;conv=>whnf
  apply zW (0) tys_ok mixed (.o [0,1,2,3,4,5,6,7,8,10,11,12,13,14,9,15,16,17] .fin) (by kernel_rfl);conv=>whnf
  try (refine tI ?_;conv=>whnf)
  try (first | (refine Ae ⟨rfl,(Ac _).symm,by rw [Ab];exact hk⟩ ?_;(conv=>whnf);rw [hE]) | skip;conv=>whnf)
  try (refine tI ?_;conv=>whnf)
  try (first | (refine Ae ⟨rfl,(Ac _).symm,by rw [Ab];exact hk⟩ ?_;(conv=>whnf);rw [hE]) | skip;conv=>whnf)
  try (refine tI ?_;conv=>whnf)
  try (first | (refine Ae ⟨rfl,(Ac _).symm,by rw [Ab];exact hk⟩ ?_;(conv=>whnf);rw [hE]) | skip;conv=>whnf)
  refine zZ hc ?_;conv=>whnf
  all_goals exact⟨_, .tp [bA ((l.getD k tz).images.getD i iz).bytes, .v (.int .i64 (l.getD k tz).seq), .v (.bool true)], [.row 112 4 (l.map CV)],fun _ _ h=>h,zS (s:= [0]) tA,rfl,rfl⟩
theorem Wx (l:List Tx) (hl:l.length<=1000000) (hi:∀ t∈l,t.images.length<=1000000/\∀ x∈t.images,x.bytes.length<=1000000000):ACalls Tryz.prog false 117 [DH l] [] fun r H=>r = .ow 0 l.length/\H=[.row 112 4 (l.map CV)]:=by
 have hc:=Nl l (by omega);refine zT tys_ok Tryz.func117 rfl rfl (Ag rfl) ?_;conv=>whnf
 refine zV hc rfl ?_;rintro _ _ ⟨rfl,rfl⟩;conv=>whnf
 refine zU Nat (fun k=>([(0, .ow 0 l.length),(9,iv l.length),(10,iv k)], [.row 112 4 (l.map CV)])) (fun k=>k<=l.length) (fun k=>l.length - k) 0 (Aj _)
  (zS (s:= [0]) tA) ?_
 intro k hk;conv=>whnf
 refine A7 (fun h6=>?_) (fun h6=>?_) <;> (repeat rw [Ab] at h6) <;> conv=>whnf
 ·have hk':k<l.length:=by omega
  have hm:=hi _ (A5 (d:=(⟨0,0,0, []⟩:Tx)) hk');have hE:(l.map CV).getD (k:Int).toNat []=CV (l.getD k ⟨0,0,0, []⟩):=by rw [Ab];exact Bd hk'
  have ho:=NM (l.getD k ⟨0,0,0, []⟩).images (by omega);repeat' (refine z_ ?_;conv=>whnf)
  refine⟨⟨by omega,by omega⟩,?_⟩;conv=>whnf
  refine Ae ⟨rfl,(Ac _).symm,by rw [Ab];exact hk'⟩ ?_;conv=>whnf
  rw [hE];conv=>whnf
  refine zd (ConvH.rowo (k:=0) rfl) ?_;refine zV ho rfl ?_;rintro _ _ ⟨rfl,rfl⟩;refine⟨⟨by omega,by omega⟩,?_⟩;conv=>whnf
  refine Ae ⟨rfl,(Ac _).symm,by rw [Ab];exact hk'⟩ ?_;conv=>whnf
  rw [hE];refine⟨⟨by omega,by omega⟩,?_⟩;conv=>whnf
  refine Ae ⟨rfl,by rw [AO,Ac],by rw [Ab];exact hk'⟩ ?_;conv=>whnf
  rw [BN (by rw [Ab,Ac];exact hk')];conv=>whnf
  obtain⟨t,ht⟩:∃ t,t=l.getD k ⟨0,0,0, []⟩:=⟨_,rfl⟩;rw [<-ht] at hm hE |-
  have hS:∀ x∈l.map CV,AV.ltL x 0=true:=V1 l;have hro:AV.ltL ((l.map CV).set k (Vj t 1)).flatten 2=true:=LO hS rfl;refine zU Nat (fun j=>([(0, .ow 0 l.length),(3,iv k),(9,iv l.length),(10,iv k),(27, .ow 1 t.images.length),(28,iv t.images.length),(29,iv j)], [.rowo 112 4 ((l.map CV).set k (Vj t 1)) 2, .row 166 3 (t.images.map Eh)])) (fun j=>j<=t.images.length) (fun j=>t.images.length - j) 0 (Aj _)
   (zS (s:= [0,1]) ⟨tA,⟨⟨hro,_,by rw [I3 hS rfl];try rfl⟩,rfl,tv⟩,rfl,rfl,rfl,rfl,rfl⟩) ?_
  intro j hj;conv=>whnf
  refine A7 (fun h7=>?_) (fun h7=>?_) <;> (repeat rw [Ab] at h7) <;> conv=>whnf
  ·have hj':j<t.images.length:=by omega
   have hF:(t.images.map Eh).getD (j:Int).toNat []=Eh (t.images.getD j ⟨0,0, []⟩):=by rw [Ab];exact Bd hj'
   have hG:((l.map CV).set k (Vj t 1)).getD (k:Int).toNat []=Vj t 1:=by rw [Ab];exact BN (by rw [Ac];exact hk')
   have b1:=Cx (t.images.getD j ⟨0,0, []⟩).bytes (hm.2 _ (A5 hj'));refine⟨⟨by omega,by omega⟩,?_⟩;conv=>whnf
   refine Ae ⟨rfl,(Ac _).symm,by rw [Ab];exact hj'⟩ ?_;conv=>whnf
   rw [hF];conv=>whnf
   apply zW (0) tys_ok mixed (.o [0,1,2,3,4,5,6,7,8,9,10,11] .fin) (by kernel_rfl);conv=>whnf
   try (refine tI ?_;conv=>whnf)
   try (first | (refine Ae ⟨rfl,by rw [AO,Ac],by rw [Ab];exact hk'⟩ ?_;(conv=>whnf);rw [hG]) | skip;conv=>whnf)
   try (first | (refine Ae ⟨rfl,by rw [AO,Ac],by rw [Ab];exact hk'⟩ ?_;(conv=>whnf);rw [hG]) | skip;conv=>whnf)
   refine zZ b1 ?_;conv=>whnf
   try (refine tI ?_;conv=>whnf)
   try (refine tS ?_;conv=>whnf)
   (first | rw [hF] | skip)
   conv=>whnf
   all_goals refine⟨j+1,hj',by omega,zG (zJ (zA (k:=1) rfl (es':=t.images.map Eh) (by simp) ?_)) (s:= [0,1]) ⟨⟨rfl,rfl,rfl,rfl,rfl,rfl,AI (by omega),tv⟩,⟨⟨hro,_,by rw [I3 hS rfl];try rfl⟩,rfl,tv⟩,rfl,rfl,rfl,rfl,rfl⟩⟩
   all_goals
    intro i;rw [Ab];refine Ha (f:=Eh) (d:=(⟨0,0, []⟩:Img)) hj' ?_ i;exact⟨fun _ _ h=>h,fun _ _ h=>h,fun _ _ h=>h,tv⟩
  ·exact⟨k+1,hk',by omega,zG (zJ (N6 hk' ht)) (s:= [0]) ⟨⟨rfl,rfl,AI (by omega),tv⟩,tA,rfl,rfl,rfl,rfl,rfl⟩⟩
 ·exact⟨.ow 0 l.length, .ow 0 l.length, [.row 112 4 (l.map CV)],fun _ _ h=>h,zS (s:= [0]) tA,rfl,rfl⟩
@[reducible] def stT (s:Stt) (tx lo:AV):List AV:= [iv s.a.gen,iv s.a.epoch,iv s.a.pos,iv s.a.seq,iv s.a.last, .v (.string s.a.label),Jr s.a.homes,tx, .v (.bool s.only),iv s.cursor,iv s.found,iv s.fixed,iv s.moved,lo]
theorem Va (s:Stt) (h:StSm s):ACalls Tryz.prog false 47 [.ag (Fe s)] [] fun r H=>r = .ag (stT s (.ow 0 s.txns.length) (.ow 1 s.lost.length))/\H=[.row 112 4 (s.txns.map CV), .row 3 1 (s.lost.map Pn)]:=by
 have c1:=QE s.a (by have:=h.h.1;omega) h.h.2;have c2:=Wx s.txns (by have:=h.t.1;omega) (fun t ht=>⟨by have:=(h.t.2 t ht).1;omega,fun x hx=>by have:=(h.t.2 t ht).2 x hx;omega⟩);have c3:=Mu s.lost (by have:=h.o;omega);refine zT tys_ok Tryz.func47 rfl rfl (Ag rfl) ?_;conv=>whnf
 apply zW (0) tys_ok mixed (.o [0,1,3,4,6,7,8,2,10,5,9,11,12,13,14,15,16] .fin) (by kernel_rfl);conv=>whnf
 refine zZ c1 ?_;conv=>whnf
 (refine zV c2 rfl ?_;rintro _ _ ⟨rfl,rfl⟩)
 conv=>whnf
 (refine zV c3 rfl ?_;rintro _ _ ⟨rfl,rfl⟩)
 conv=>whnf
 try (refine tS ?_;conv=>whnf)
 try (refine tS ?_;conv=>whnf)
 try (refine tS ?_;conv=>whnf)
 all_goals exact⟨_, .ag (stT s (.ow 0 s.txns.length) (.ow 1 s.lost.length)), [.row 112 4 (s.txns.map CV), .row 3 1 (s.lost.map Pn)],fun _ _ h=>h,zS (s:= [2,3]) tA,rfl,rfl⟩
@[reducible] def Zr (g:Geo) (x tx lo:AV) (s:Stt):List AV:= [iv g.z,iv g.d,iv g.sp,iv g.sl,iv g.an,x,iv s.a.gen,iv s.a.epoch,iv s.a.pos,iv s.a.seq,iv s.a.last, .v (.string s.a.label),Jr s.a.homes,tx, .v (.bool s.only),iv s.cursor,iv s.found,iv s.fixed,iv s.moved,lo]
@[reducible] def Gk (g:Geo) (s:Stt) (d:Dk):List AB:= [.box 116 (Zr g (.bp 1 0) (.ow 4 s.txns.length) (iA s.lost) s), .box 185 (GX (.ow 2 d.cells.length) (.ow 3 d.cache.length) d.reqs d.left), .row 128 3 (d.cells.map B7), .row 134 2 (d.cache.map EE), .row 112 4 (s.txns.map CV)]
@[reducible] def bwM (g:Geo) (s:Stt) (d:Dk):List AB:= [.box 23 (AU g), .box 43 (EP d), .box 39 (Fe s), .box 185 (GX (.ow 4 d.cells.length) (.ow 5 d.cache.length) d.reqs d.left), .row 128 3 (d.cells.map B7), .row 134 2 (d.cache.map EE), .row 112 4 (s.txns.map CV)]
theorem Ta (g:Geo) (d:Dk) (s:Stt) (h:DkOk d) (hst:Ox g d s=true) (hs:StSm s):ACalls Tryz.prog false 42 [.ag (AU g), .ag (EP d), .ag (Fe s)] [] fun r H=>r = .tp [.bp 0 0,iv 0]/\H=Gk g s d:=by
 have hN:=h.n;have hM:=h.m;have c1:=Ve g d s (by omega) (by omega) hs.big;rw [hst] at c1;have c2:=YR d (by omega) (by omega);have c3:=Va s hs;refine zT tys_ok Tryz.func42 rfl rfl (Ag rfl) ?_;conv=>whnf
 refine zZ c1 ?_;conv=>whnf
 apply zW (0) tys_ok mixed (.o [0,1,3,2,4,5,6,7,8] .fin) (by kernel_rfl);conv=>whnf
 (refine zV c2 rfl ?_;rintro _ _ ⟨rfl,rfl⟩)
 conv=>whnf
 (refine zV c3 rfl ?_;rintro _ _ ⟨rfl,rfl⟩)
 conv=>whnf
 have hx:ConvH (bwM g s d ++ [.row 3 1 (s.lost.map Pn), .box 116 (Zr g (.bp 3 0) (.ow 6 s.txns.length) (.ow 7 s.lost.length) s)]) (bwM g s d ++ [.dead, .box 116 (Zr g (.bp 3 0) (.ow 6 s.txns.length) (iA s.lost) s)]):=by
  refine zu (zy 8 7 (cs2:=Zr g (.bp 3 0) (.ow 6 s.txns.length) (.sl 1 (s.lost.map Pn).length fun i=>(s.lost.map Pn).getD i []) s) rfl rfl ?_) (zr 8 rfl ⟨ri,ri,ri,ri,ri,ri,ri,ri,ri,ri,ri,ri,ri,ri,ri,ri,ri,ri,ri,Bc (f:=Pn) (d:=0) s.lost (Ac _) rfl,tv⟩);simp only [A4,Bz,Gl (Ac _).symm];rfl
 all_goals exact⟨_, .tp [.bp 0 0,iv 0],Gk g s d,fun _ _ h=>h,zG (zJ hx) (s:= [8,3,4,5,6]) tA,rfl,rfl⟩
theorem MC (l:List Tx) (x:Tx) (z w:Int):∀ k,k<=l.length->EO (l ++ [x]) z w k=EO l z w k
 | 0,_=>rfl
 | k+1,hk=>by
  have e:(l ++ [x]).getD k tz=l.getD k tz:=by
   rw [Aa,Aa,AC (by omega)]
  rw [EO,EO,e,MC l x z w k (by omega)]
theorem Jv (l:List Tx) (x:Tx) (z w:Int):Cr (l ++ [x]) z w=match Cv x.images z w x.images.length with
  | some i=>some (i,x.seq)
  | none=>Cr l z w:=by
 unfold Cr;rw [Ai,Am,Bf,A3,EO,MC l x z w _ (Ah _),show (l ++ [x]).getD l.length tz=x by simp];cases Cv x.images z w x.images.length <;> rfl
theorem MD (x:Tx) (r:List Tx) (z w:Int):∀ k,EO (x::r) z w (k+1)=match EO r z w k with
  | some p=>some p
  | none=>match Cv x.images z w x.images.length with
   | some i=>some (i,x.seq)
   | none=>none
 | 0=>rfl
 | k+1=>by
  rw [EO,MD x r z w k,EO,show (x::r).getD (k+1) tz=r.getD k tz from rfl];cases Cv (r.getD k tz).images z w (r.getD k tz).images.length <;> rfl
theorem ME (x:Tx) (r:List Tx) (z w:Int):Cr (x::r) z w=match Cr r z w with
  | some p=>some p
  | none=>match Cv x.images z w x.images.length with
   | some i=>some (i,x.seq)
   | none=>none:=MD x r z w r.length
theorem QZ {g:Geo} (hg:Bm g=true) {z z' s s':Int} (hz:0<=z/\z<g.z) (hz':0<=z'/\z'<g.z) (hs:0<=s/\s<CK g) (hs':0<=s'/\s'<CK g) (h:Co g z s=Co g z' s'):z=z'/\s=s':=by
 obtain⟨g1,g2,g3,g4,g5⟩:=Ar.1 hg;have hp:=GU hg;unfold Co at h;have e:z*CK g+s=z'*CK g+s':=by omega
 have key:z=z':=by
  rcases Int.lt_trichotomy z z' with q | q | q
  ·have:=BI (show z+1<=z' by omega) (show 0<=CK g by omega);rw [Int.add_mul,Int.one_mul] at this;omega
  ·exact q
  ·have:=BI (show z'+1<=z by omega) (show 0<=CK g by omega);rw [Int.add_mul,Int.one_mul] at this;omega
 subst key;exact⟨rfl,by omega⟩
theorem Ws {l:List Int} {n:Int} (h:OH l n=true) {i j:Nat} (hi:i<l.length) (hj:j<l.length) (e:l.getD i 0=l.getD j 0):i=j:=by
 have key:∀ i j:Nat,i<j->j<l.length->l.getD i 0≠l.getD j 0:=fun i j hij hj e=>by
  have h1:=Av.1 h j (by simpa using hj);simp only [Ad,Bt,List.any_eq_false] at h1;refine h1.2 (l.getD i 0) ?_ (by rw [e];simp);rw [Aa,Af (by omega),B8];exact List.mem_take_iff_getElem.2 ⟨i,by omega,rfl⟩
 rcases Nat.lt_trichotomy i j with q | q | q
 ·exact absurd e (key i j q hj)
 ·exact q
 ·exact absurd e.symm (key j i q hi)
theorem Oi {g:Geo} (hg:Bm g=true) {a:An} (ha:Bn g a=true) {z z' w w':Int} (hz:0<=z/\z<g.z) (hz':0<=z'/\z'<g.z) (hw : -1<=w/\w<g.d) (hw' : -1<=w'/\w'<g.d) (h:B4 g a z w=B4 g a z' w'):z=z'/\w=w':=by
 obtain⟨g1,g2,g3,g4,g5⟩:=Ar.1 hg;obtain⟨s,e1,e2⟩:=Em hg ha hz hw;obtain⟨s',e1',e2'⟩:=Em hg ha hz' hw';have hz0:=(QZ hg hz hz' e2 e2' (by rw [<-e1,<-e1'];exact h)).1;subst hz0;obtain⟨hi,hh⟩:=NP ha hz;simp only [En,Ad,decide_eq_true_eq,AF] at hh;obtain⟨p1,p2,p3,p4⟩:=hh;have hat:∀ w,(-1<=w/\w<g.d)->0<=Ev g w/\Ev g w<=g.d:=fun w hw=>by unfold Ev;split <;> omega
 unfold B4 Co at h;have:=Ws p4 (i:=(Ev g w).toNat) (j:=(Ev g w').toNat) (by have:=hat w hw;omega) (by have:=hat w' hw';omega) (by omega);refine⟨rfl,?_⟩;have h1:=hat w hw;have h2:=hat w' hw';have h3:Ev g w=Ev g w':=by omega
 unfold Ev at h3;split at h3 <;> split at h3 <;> omega
theorem Oo {F:Int->List UInt8} (l m:List Wr) (a:Int):FU F (l ++ m) a=FU (FU F l) m a:=by
 unfold FU;rw [BJ]
theorem Lp {F:Int->List UInt8} (w:Wr) {a:Int} (h0:0<=a):FU F [w] a=if w.addr=a then w.bytes else F a:=by
 show Sq F w a=_;unfold Sq;rw [if_pos h0]
theorem Nr {α:Type} {d:α} {l:List α} {k:Nat} (h:k<l.length):l.take (k+1)=l.take k ++ [l.getD k d]:=by
 rw [AZ,Af h,Aa,Af h];try rfl
theorem Vv {g:Geo} (hg:Bm g=true) {a:An} (ha:Bn g a=true) {l:List Img} (hl:∀ x∈l,B3 g x=true) {seq:Int} {F:Int->List UInt8} {z w:Int} (hz:0<=z/\z<g.z) (hw : -1<=w/\w<g.d):∀ k,k<=l.length->FU F (CR g a seq (l.take k)) (B4 g a z w)=match Cv l z w k with
  | some i=>Ce (B4 g a z w) seq i.bytes
  | none=>F (B4 g a z w)
 | 0,_=>rfl
 | k+1,hk=>by
  obtain⟨g1,g2,g3,g4,g5⟩:=Ar.1 hg;have ih:=Vv hg ha hl (seq:=seq) (F:=F) hz hw k (by omega);have hy:=hl _ (A5 (d:=iz) (show k<l.length by omega));obtain⟨hyz,hyb⟩:=D0 hy;rw [Nr (d:=iz) (show k<l.length by omega),G8,Oo,Cv];obtain⟨y,ey⟩:∃ y,y=l.getD k iz:=⟨_,rfl⟩;rw [<-ey] at hy hyz hyb |-
  show FU (FU F (CR g a seq (l.take k))) (EM g a seq y ++ []) (B4 g a z w)=_;rw [AT];obtain⟨s,e1,e2⟩:=Em hg ha hz hw;have hsl:=E0 hg hz e2;by_cases h255:y.what=255
  ·rw [if_neg (by omega),EU (show 0<=B4 g a z w by omega) _ _ rfl fun v hv e=>?_]
   ·exact ih
   ·unfold EM at hv;rw [if_pos h255] at hv;have t0:=D5 hg hyz (k:=0) (by omega);have t1:=D5 hg hyz (k:=1) (by omega);rw [e1] at e;rcases AK.1 hv with rfl | hv
    ·simp only at e;omega
    ·rw [Ay] at hv;subst hv;simp only at e;omega
  ·have hb:=hyb h255;unfold EM;rw [if_neg h255,Lp _ (show 0<=B4 g a z w by omega)];by_cases hyw:y.zone=z/\y.what=w
   ·rw [if_pos hyw,if_pos (by rw [hyw.1,hyw.2])];show Ce (B4 g a y.zone y.what) seq y.bytes=Ce (B4 g a z w) seq y.bytes;rw [hyw.1,hyw.2]
   ·rw [if_neg hyw,if_neg (fun e=>hyw (Oi hg ha hyz hz (by omega) hw e))];exact ih
theorem Om {g:Geo} (hg:Bm g=true) {a:An} (ha:Bn g a=true) {l:List Img} (hl:∀ x∈l,B3 g x=true) {seq:Int} {F:Int->List UInt8} {z c:Int} (hz:0<=z/\z<g.z) (hc:0<=c/\c<=1):∀ k,k<=l.length->FU F (CR g a seq (l.take k)) (A6 g z c)=match Cv l z 255 k with
  | some i=>Ce (A6 g z c) seq i.bytes
  | none=>F (A6 g z c)
 | 0,_=>rfl
 | k+1,hk=>by
  obtain⟨g1,g2,g3,g4,g5⟩:=Ar.1 hg;have ih:=Om hg ha hl (seq:=seq) (F:=F) hz hc k (by omega);have hy:=hl _ (A5 (d:=iz) (show k<l.length by omega));obtain⟨hyz,hyb⟩:=D0 hy;rw [Nr (d:=iz) (show k<l.length by omega),G8,Oo,Cv];obtain⟨y,ey⟩:∃ y,y=l.getD k iz:=⟨_,rfl⟩;rw [<-ey] at hy hyz hyb |-
  show FU (FU F (CR g a seq (l.take k))) (EM g a seq y ++ []) (A6 g z c)=_;rw [AT];have ht:=D5 hg hz hc;by_cases h255:y.what=255
  ·have e2:EM g a seq y=[⟨A6 g y.zone 0,Ce (A6 g y.zone 0) seq y.bytes⟩] ++ [⟨A6 g y.zone 1,Ce (A6 g y.zone 1) seq y.bytes⟩]:=by unfold EM;rw [if_pos h255];try rfl
   rw [e2,Oo,Lp _ (show 0<=A6 g z c by omega),Lp _ (show 0<=A6 g z c by omega),ih];by_cases hyw:y.zone=z
   ·rw [hyw];have h01:¬A6 g z 1=A6 g z 0:=by unfold A6;omega
    rcases(show c=0\/c=1 by omega) with rfl | rfl
    ·rw [if_neg h01,if_pos rfl,if_pos ⟨rfl,h255⟩]
    ·rw [if_pos rfl,if_pos ⟨rfl,h255⟩]
   ·have n0:¬A6 g y.zone 0=A6 g z c:=by unfold A6;omega
    have n1:¬A6 g y.zone 1=A6 g z c:=by unfold A6;omega
    rw [if_neg n1,if_neg n0,if_neg (fun h:y.zone=z/\y.what=255=>hyw h.1)]
  ·have hb:=hyb h255;obtain⟨s,e1,e2⟩:=Em hg ha hyz (show -1<=y.what/\y.what<g.d by omega);have hsl:=E0 hg hyz e2;have n0:¬B4 g a y.zone y.what=A6 g z c:=by omega
   unfold EM;rw [if_neg h255,Lp _ (show 0<=A6 g z c by omega),if_neg n0,if_neg (fun h:y.zone=z/\y.what=255=>h255 h.2)];exact ih
theorem Td {g:Geo} (hg:Bm g=true) {a:An} {F:Int->List UInt8} {q:Int} (hq:g.an<=q):FU F (Ba g a) q=F q:=by
 obtain⟨g1,g2,g3,g4,g5⟩:=Ar.1 hg;refine EU (by omega) _ _ rfl fun w hw e=>?_
 obtain⟨j,hj,rfl⟩:=DR hw;have e':(j:Int)=q:=e;omega
theorem P3 {x:Gt} {a s:Int} {p:List UInt8} (he:x.err=0) (hx:x.bytes=Ce a s p) (h:Vl a s p):BF x a=some ⟨a,s,p⟩:=by
 obtain⟨h1,h2,h3,h4⟩:=C8 h;unfold BF;rw [he,hx,h1,h2,h3,h4,if_pos tA]
theorem Oe {a s:Int} {p:List UInt8} {e:Ent} (h:Vl a s p) (h8:p.length=8) (h1:e.stamp=s) (h2:((Cz p:Nat):Int)=e.sum):CY ⟨0,Ce a s p⟩ a e=some p:=by
 unfold CY;rw [P3 rfl rfl h];simp only;rw [if_pos ⟨h1.symm,h8,h2⟩]
theorem Ns {g:Geo} {a s:Int} {p:List UInt8} (h:Vl a s p):BH g ⟨0,Ce a s p⟩ a s=BW g p:=by
 unfold BH;rw [P3 rfl rfl h];simp only [if_true]
def Iw (v:Int->List UInt8):Nat->List UInt8
 | 0=>zero8
 | k+1=>Do (Iw v k) (v (k:Nat))
structure ZoneV (g:Geo) (a:An) (l:List Tx) (F:Int->List UInt8) (z:Int) (t:List Ent) (v:Int->List UInt8):Prop where
 tab:EW g (AJ a l) F z=some t
 len:∀ w, -1<=w->w<g.d->(v w).length=8
 ent:∀ w, -1<=w->w<g.d->(t.getD (Ev g w).toNat ez).lost=false/\((Cz (v w):Nat):Int)=(t.getD (Ev g w).toNat ez).sum
 val:∀ w, -1<=w->w<g.d->match Cr l z w with
  | some p=>p.1.bytes=v w/\(t.getD (Ev g w).toNat ez).stamp=p.2
  | none=>CY ⟨0,F (B4 g a z w)⟩ (B4 g a z w) (t.getD (Ev g w).toNat ez)=some (v w)
 par:v (-1)=Iw v g.d.toNat
def VolV (g:Geo) (a:An) (l:List Tx) (F:Int->List UInt8) (V:Int->Int->List UInt8):Prop:=∀ z,0<=z->z<g.z->∃ t,ZoneV g a l F z t (V z)
theorem ZoneV.one {g:Geo} {a:An} {l:List Tx} {F:Int->List UInt8} {z:Int} {t:List Ent} {v:Int->List UInt8} (h:ZoneV g a l F z t v) {w:Int} (hw : -1<=w/\w<g.d):JL g (AJ a l) F t z w=v w:=by
 have:=h.val w hw.1 hw.2;unfold JL;show (match Cr l z w with | some p=>p.1.bytes | none=>_)=_;cases hf:Cr l z w with
 | some p=>rw [hf] at this;exact this.1
 | none=>
  rw [hf] at this;simp only at this |-
  show (CY ⟨0,F (B4 g a z w)⟩ (B4 g a z w) (t.getD (Ev g w).toNat ez)).getD []=_;rw [this];try rfl
theorem SY {n:Int} {F:Int->List UInt8} {q:Int} (h0:0<=q) (h1:q<n):Iy n F q=F q:=if_pos ⟨by omega,h1⟩
theorem fold_zero:∀ k,Iw (fun _=>zero8) k=zero8
 | 0=>rfl
 | k+1=>by rw [Iw,fold_zero k];rfl
theorem WE {g:Geo} (hg:Bm g=true):VolV g (Gn g).a (Gn g).l (Gn g).F fun _ _=>zero8:=by
 obtain⟨g1,g2,g3,g4,g5⟩:=Ar.1 hg;intro z h0 h1;obtain⟨k,rfl⟩:∃ k:Nat,z=(k:Nat):=⟨z.toNat,by omega⟩;have hcb:=D9 hg;have hpb:=GU hg;have ht0:=Ya hg;have hzh:((Gn g).a.homes.getD k ⟨[],0,0⟩)=⟨(List.range (g.d+1).toNat).map Int.ofNat,g.d+1,0⟩:=by
  show (List.replicate g.z.toNat _).getD k _=_;rw [Aa,CO,if_pos (by omega)];try rfl
 have hF:∀ q,g.an+2*g.sl<=q->q<Aq g->(Gn g).F q=Ga g ⟨#[]⟩ q:=fun q hq hq2=>by
  show Iy (Aq g) (Mg g _) q=_;rw [SY (by omega) hq2];unfold Mg;rw [if_neg (by omega)];exact if_neg (by omega)
 have hti:=D5 hg (z:=(k:Nat)) (k:=0) ⟨h0,h1⟩ (by omega);have htab:EW g (AJ (Gn g).a (Gn g).l) (Gn g).F (k:Nat)=some (Fd g):=by
  have hroot:Cm (Gn g).a (Gn g).l (k:Nat)=0:=by
   show ((Gn g).a.homes.getD ((k:Nat):Int).toNat ⟨[],0,0⟩).root=0;rw [Ab,hzh]
  show (match BH g ⟨0,(Gn g).F (A6 g (k:Nat) 0)⟩ (A6 g (k:Nat) 0) (Cm (Gn g).a (Gn g).l (k:Nat)) with | some t=>some t | none=>_)=_;have e:=Qm (g:=g) (s:=⟨#[]⟩) (z:=k) (k:=0) (by omega) h1 (by omega);rw [hroot,hF _ hti.1 hti.2.2,show A6 g ((k:Nat):Int) (0:Int)=A6 g (k:Nat) ((0:Nat):Int) from rfl,e,Ns ⟨by show 0<=A6 g (k:Nat) 0;omega,by show A6 g (k:Nat) 0<=65535;omega,by omega,by omega,by rw [EV];unfold Fd;rw [Bw];omega⟩,Jf ht0]
 have hent:∀ w, -1<=w->w<g.d->(Fd g).getD (Ev g w).toNat ez=ent0:=fun w hw hw2=>by
  have hat:0<=Ev g w/\Ev g w<=g.d:=by unfold Ev;split <;> omega
  unfold Fd;rw [Aa,CO,if_pos (by omega)];try rfl
 refine⟨Fd g,htab,fun _ _ _=>rfl,fun w hw hw2=>?_,fun w hw hw2=>?_,(fold_zero _).symm⟩
 ·rw [hent w hw hw2];exact tA
 ·show CY ⟨0,(Gn g).F (B4 g (Gn g).a (k:Nat) w)⟩ (B4 g (Gn g).a (k:Nat) w) ((Fd g).getD (Ev g w).toNat ez)=some zero8;have hat:0<=Ev g w/\Ev g w<=g.d:=by unfold Ev;split <;> omega
  have hadr:B4 g (Gn g).a (k:Nat) w=Co g (k:Nat) ((Ev g w).toNat:Nat):=by
   unfold B4;rw [Ab,hzh];congr 1;rw [Bd (d:=0) (by simp;omega),Aa,Bl (by omega)];try rfl
  have hsl:=E0 hg (z:=(k:Nat)) (s:=((Ev g w).toNat:Nat)) ⟨h0,h1⟩ (by unfold CK;omega);rw [hadr,hF _ (by omega) hsl.2,NT (by omega) (by omega) (by omega),hent w hw hw2];exact Oe ⟨by omega,by omega,by omega,by omega,by decide⟩ rfl rfl rfl
theorem Tv {g:Geo} (hg:Bm g=true) {a:An} (ha:Bn g a=true) {x:Tx} {r:List Tx} (hx:∀ y∈x.images,B3 g y=true) (hseq:0<=x.seq/\x.seq<=4294967295) {F:Int->List UInt8} {V:Int->Int->List UInt8} (h:VolV g a (x::r) F V):VolV g (Eb g a x) r (DJ g a x F) V:=by
 obtain⟨g1,g2,g3,g4,g5⟩:=Ar.1 hg;have hcb:=D9 hg;intro z h0 h1;obtain⟨t,ht⟩:=h z h0 h1;obtain⟨hi, -⟩:=NP ha ⟨h0,h1⟩;have hadr:∀ w,B4 g (Eb g a x) z w=B4 g a z w:=fun w=>by
  show B4 g { Cq a x.seq x.images with gen:=_,pos:=_,seq:=_,last:=_ } z w=_;exact Iz (g:=g) (seq:=x.seq) (z:=z) (w:=w) x.images hi
 have hFb:∀ w, -1<=w->w<g.d->DJ g a x F (B4 g a z w)=match Cv x.images z w x.images.length with
   | some i=>Ce (B4 g a z w) x.seq i.bytes
   | none=>F (B4 g a z w):=fun w hw hw2=>by
  obtain⟨s,e1,e2⟩:=Em hg ha ⟨h0,h1⟩ ⟨hw,hw2⟩;have hsl:=E0 hg ⟨h0,h1⟩ e2;unfold DJ;rw [Td hg (by omega)];have:=Vv hg ha hx (seq:=x.seq) (F:=F) ⟨h0,h1⟩ ⟨hw,hw2⟩ _ (Ah _);rwa [Aw] at this
 have hFt:∀ c,(0<=c/\c<=1)->DJ g a x F (A6 g z c)=match Cv x.images z 255 x.images.length with
   | some i=>Ce (A6 g z c) x.seq i.bytes
   | none=>F (A6 g z c):=fun c hc=>by
  have hti:=D5 hg ⟨h0,h1⟩ hc;unfold DJ;rw [Td hg (by omega)];have:=Om hg ha hx (seq:=x.seq) (F:=F) ⟨h0,h1⟩ hc _ (Ah _);rwa [Aw] at this
 have hok:∀ {q:Int} {p:List UInt8},(0<=q/\q<Aq g)->p.length<=45->Vl q x.seq p:=fun hq hp=>⟨by omega,by omega,by omega,by omega,by omega⟩
 have htab:EW g (AJ (Eb g a x) r) (DJ g a x F) z=some t:=by
  have h2:=ht.tab;unfold EW at h2 |-
  have ec:=ME x r z 255;show (match Cr r z 255 with | some p=>BW g p.1.bytes | none=>_)=_;replace h2:(match Cr (x::r) z 255 with | some p=>BW g p.1.bytes | none=>match BH g ⟨0,F (A6 g z 0)⟩ (A6 g z 0) (Cm a (x::r) z) with | some t=>some t | none=>BH g ⟨0,F (A6 g z 1)⟩ (A6 g z 1) (Cm a (x::r) z))=some t:=h2;cases hr:Cr r z 255 with
  | some p=>
   rw [hr] at ec;rw [ec] at h2;exact h2
  | none=>
   rw [hr] at ec;simp only at ec |-
   show (match BH g ⟨0,DJ g a x F (A6 g z 0)⟩ (A6 g z 0) (Cm (Eb g a x) r z) with | some t=>some t | none=>BH g ⟨0,DJ g a x F (A6 g z 1)⟩ (A6 g z 1) (Cm (Eb g a x) r z))=some t;have ero:Cm (Eb g a x) r z=((Eb g a x).homes.getD z.toNat ⟨[],0,0⟩).root:=by unfold Cm;rw [hr]
   cases hk:Cv x.images z 255 x.images.length with
   | some i=>
    rw [hk] at ec;rw [ec] at h2;simp only at h2;obtain⟨m1,m2,m3⟩:=Hp (Ah _) hk;have hroot:Cm (Eb g a x) r z=x.seq:=by
     rw [ero];exact KB x.images hi ⟨i,m1,m3,by rw [m2]⟩
    have hti:=D5 hg ⟨h0,h1⟩ (k:=0) (by omega);have hf:=hFt 0 (by omega);rw [hk] at hf;rw [hroot,hf];simp only;rw [Ns (hok (by omega) (Eg hg (hx i m1))),h2]
   | none=>
    rw [hk] at ec;rw [ec] at h2;have hf0:=hFt 0 (by omega);have hf1:=hFt 1 (by omega);rw [hk] at hf0 hf1;have er2:Cm a (x::r) z=(a.homes.getD z.toNat ⟨[],0,0⟩).root:=by unfold Cm;rw [ec]
    have hroot:Cm (Eb g a x) r z=Cm a (x::r) z:=by
     rw [ero,er2];have:=GR (seq:=x.seq) (z:=z.toNat) x.images hi (fun y hy y255 ey=>?_)
     ·show ((Cq a x.seq x.images).homes.getD z.toNat _).root=_;rw [this]
     ·have hyz:=(D0 (hx y hy)).1;have hn:∀ k,k<=x.images.length->Cv x.images z 255 k=none->∀ j,j<k->¬((x.images.getD j iz).zone=z/\(x.images.getD j iz).what=255):=by
       intro k;induction k with
       | zero=>intro _ _ j hj;omega
       | succ k ih=>
        intro hk2 hfk j hj;rw [Cv] at hfk;split at hfk
        ·cases hfk
        ·rename_i hc;rcases Nat.lt_succ_iff_lt_or_eq.1 hj with q | rfl
         ·exact ih (by omega) hfk j q
         ·exact hc
      obtain⟨j,hj,rfl⟩:=Ef hy;refine hn _ (Ah _) hk j hj ?_;rw [Aa,Af hj,B8];exact⟨by omega,y255⟩
    rw [hroot,hf0,hf1];exact h2
 refine⟨t,htab,ht.len,ht.ent,fun w hw hw2=>?_,ht.par⟩;have h2:=ht.val w hw hw2;rw [ME] at h2;rw [hadr,hFb w hw hw2];cases hr:Cr r z w with
 | some p=>
  rw [hr] at h2;exact h2
 | none=>
  rw [hr] at h2;simp only at h2 |-
  cases hk:Cv x.images z w x.images.length with
  | some i=>
   rw [hk] at h2;simp only at h2 |-
   obtain⟨m1,m2,m3⟩:=Hp (Ah _) hk;obtain⟨s,e1,e2⟩:=Em hg ha ⟨h0,h1⟩ ⟨hw,hw2⟩;have hsl:=E0 hg ⟨h0,h1⟩ e2;rw [<-h2.1];exact Oe (hok (by omega) (Eg hg (hx i m1))) (by rw [h2.1];exact ht.len w hw hw2) h2.2 (by rw [h2.1];exact(ht.ent w hw hw2).2)
  | none=>
   rw [hk] at h2;exact h2
theorem MF (l m:List Img) (z w:Int):∀ k,k<=l.length->Cv (l ++ m) z w k=Cv l z w k
 | 0,_=>rfl
 | k+1,hk=>by
  have e:(l ++ m).getD k iz=l.getD k iz:=by
   rw [Aa,Aa,AC (by omega)]
  rw [Cv,Cv,e,MF l m z w k (by omega)]
theorem U6 (l m:List Img) (z w:Int):∀ k,k<=m.length->Cv (l ++ m) z w (l.length+k)=match Cv m z w k with
  | some i=>some i
  | none=>Cv l z w l.length
 | 0,_=>MF l m z w _ (Ah _)
 | k+1,hk=>by
  have e:(l ++ m).getD (l.length+k) iz=m.getD k iz:=by
   rw [Aa,Aa,A9 (by omega),Nat.add_sub_cancel_left]
  rw [<-Dz,Cv,Cv,e];split
  ·rfl
  ·exact U6 l m z w k (by omega)
theorem Jw {l:List Img} {z w:Int} (h:∀ x∈l,x.zone≠z):∀ k,k<=l.length->Cv l z w k=none
 | 0,_=>rfl
 | k+1,hk=>by
  rw [Cv,if_neg (fun q=>h _ (A5 (by omega)) q.1),Jw h k (by omega)]
def WN (z:Int) (ats:List Int) (bs:List (List UInt8)) (w:Int):Option Img:=(Ex ats bs w.toNat ats.length).map fun b=>⟨z,w,b⟩
theorem NW (z:Int) (ats:List Int) (bs:List (List UInt8)) (m:List Img) {w:Int} (hw:0<=w):∀ k,k<=ats.length->Cv (((List.range ats.length).map fun i=>(⟨z,ats.getD i 0,bs.getD i []⟩:Img)) ++ m) z w k=(Ex ats bs w.toNat k).map fun b=>⟨z,w,b⟩
 | 0,_=>rfl
 | k+1,hk=>by
  have e:(((List.range ats.length).map fun i=>(⟨z,ats.getD i 0,bs.getD i []⟩:Img)) ++ m).getD k iz=⟨z,ats.getD k 0,bs.getD k []⟩:=by
   rw [Aa,AC (by simp;omega),AS,Bl (by omega)];try rfl
  rw [Cv,e,Ex,NW z ats bs m hw k (by omega)];by_cases h:ats.getD k 0=w
  ·rw [if_pos ⟨rfl,h⟩,if_pos (by rw [h];omega)];simp only [Dr,h]
  ·rw [if_neg (fun q=>h q.2),if_neg (by omega)]
theorem JU (z:Int) (t:List Ent) (par:List UInt8) (ats:List Int) (bs:List (List UInt8)) (ha:∀ a∈ats,0<=a/\a<255) (w:Int) (hw:w=255\/(-1<=w/\w<255)):Cv (Ch z t par ats bs) z w (Ch z t par ats bs).length=if w=255 then some ⟨z,255,Da t⟩ else if w = -1 then some ⟨z, -1,par⟩ else WN z ats bs w:=by
 have hl:=EA z t par ats bs;have e1:(Ch z t par ats bs).getD (ats.length+1) iz=⟨z,255,Da t⟩:=by
  unfold Ch;rw [Aa,A9 (by simp),show ats.length+1 - ((List.range ats.length).map fun i=>(⟨z,ats.getD i 0,bs.getD i []⟩:Img)).length=1 by simp];try rfl
 have e0:(Ch z t par ats bs).getD ats.length iz=⟨z, -1,par⟩:=by
  unfold Ch;rw [Aa,A9 (by simp),show ats.length - ((List.range ats.length).map fun i=>(⟨z,ats.getD i 0,bs.getD i []⟩:Img)).length=0 by simp];try rfl
 rw [hl,Cv,Cv,e1,e0];by_cases h1:w=255
 ·rw [if_pos ⟨rfl,h1.symm⟩,if_pos h1]
 ·rw [if_neg (fun q=>h1 q.2.symm),if_neg h1];by_cases h2:w = -1
  ·rw [if_pos ⟨rfl,h2.symm⟩,if_pos h2]
  ·rw [if_neg (fun q=>h2 q.2.symm),if_neg h2];exact NW z ats bs _ (by omega) _ (Ah _)
def Tm (V:Int->Int->List UInt8) (x:Tx) (z w:Int):List UInt8:=match Cv x.images z w x.images.length with
 | some i=>i.bytes
 | none=>V z w
def bq (g:Geo) (a:An) (l:List Tx) (F:Int->List UInt8) (x:Tx) (z:Int):Prop:=
 (∀ w,Cv x.images z w x.images.length=none)
 \/∃ t ats bs,EW g (AJ a l) F z=some t/\ats.length=bs.length/\(∀ b∈bs,b.length=8)/\∀ w,w=255\/(-1<=w/\w<g.d)->Cv x.images z w x.images.length=if w=255 then some ⟨z,255,Da (By g t (D1 g (AJ a l) F t z) ats bs x.seq)⟩ else if w = -1 then some ⟨z, -1,DM g t (D1 g (AJ a l) F t z) ats bs g.d.toNat⟩ else WN z ats bs w
theorem ac {g:Geo} (hg:Bm g=true) {s:Stt} {F:Int->List UInt8} {t:List Ent} {z:Int} {i:Nat} (hi:(i:Int)<g.d):(D1 g s F t z).getD i []=JL g s F t z (i:Nat):=by
 unfold D1 Kz;rw [Aa,AC (by simp;omega),AS,Bl (by omega)];try rfl
theorem XR {g:Geo} (hg:Bm g=true) {a:An} {l:List Tx} {x:Tx} (hseq:0<=x.seq/\x.seq<=4294967295) (hl:∀ t∈l,∀ y∈t.images,B3 g y=true) {F:Int->List UInt8} {V:Int->Int->List UInt8} (h:VolV g a l F V) (hx:∀ z,0<=z->z<g.z->bq g a l F x z):VolV g a (l ++ [x]) F (Tm V x):=by
 obtain⟨g1,g2,g3,g4,g5⟩:=Ar.1 hg;intro z h0 h1;obtain⟨t,ht⟩:=h z h0 h1;rcases hx z h0 h1 with hn | ⟨t',ats,bs,e1,e2,e3,e4⟩
 ·have hv:∀ w,Tm V x z w=V z w:=fun w=>by unfold Tm;rw [hn w]
  have hf:∀ w,Cr (l ++ [x]) z w=Cr l z w:=fun w=>by rw [Jv,hn w]
  have hvz:Tm V x z=V z:=funext hv;refine⟨t,?_,fun w q1 q2=>by rw [hv];exact ht.len w q1 q2,fun w q1 q2=>by rw [hv];exact ht.ent w q1 q2,fun w q1 q2=>?_,by rw [hvz];exact ht.par⟩
  ·have:=ht.tab;unfold EW Cm at this |-
   show (match Cr (l ++ [x]) z 255 with | some p=>_ | none=>match BH g _ _ (match Cr (l ++ [x]) z 255 with | some p=>p.2 | none=>_) with | some t=>some t | none=>BH g _ _ (match Cr (l ++ [x]) z 255 with | some p=>p.2 | none=>_))=_;rw [hf 255];exact this
  ·rw [hf w,hv];exact ht.val w q1 q2
 ·have et:t'=t:=by
   have:=ht.tab;rw [e1] at this;exact Option.some.inj this
  subst et;have htok:=J9 ht.tab;have htl:=GJ htok;have hhad:∀ i:Nat,(i:Int)<g.d->(D1 g (AJ a l) F t' z).getD i []=V z (i:Nat):=fun i hi=>by
   rw [ac hg hi];exact ht.one ⟨by omega,hi⟩
  have hatN:∀ i:Nat,(i:Int)<g.d->(Ev g (i:Nat)).toNat=i:=fun i hi=>by unfold Ev;rw [if_neg (by omega)];omega
  have hkn:∀ i:Nat,(i:Int)<g.d->BK g t' (D1 g (AJ a l) F t' z) i=V z (i:Nat):=fun i hi=>by
   have:=(ht.ent (i:Nat) (by omega) hi).1;rw [hatN i hi] at this;unfold BK;rw [this,if_neg (by decide),hhad i hi,if_pos (by rw [ht.len (i:Nat) (by omega) hi];decide)]
  have hup:∀ i:Nat,(i:Int)<g.d->Tm V x z (i:Nat)=F_ g t' (D1 g (AJ a l) F t' z) ats bs i:=fun i hi=>by
   have e:=e4 (i:Nat) (.inr ⟨by omega,hi⟩);rw [if_neg (by omega),if_neg (by omega)] at e;unfold Tm F_;rw [e,WN,Ab];cases Ex ats bs i ats.length with
   | some b=>rfl
   | none=>exact(hkn i hi).symm
  have hbn:∀ i:Nat,(i:Int)<g.d->(F_ g t' (D1 g (AJ a l) F t' z) ats bs i).length=8:=fun i hi=>by
   unfold F_;cases hp:Ex ats bs i ats.length with
   | some b=>exact Ko e3 (by omega) _ b (Ah _) hp
   | none=>
    show (BK g t' _ i).length=8;rw [hkn i hi];exact ht.len (i:Nat) (by omega) hi
  have hpar:∀ k:Nat,(k:Int)<=g.d->DM g t' (D1 g (AJ a l) F t' z) ats bs k=Iw (Tm V x z) k:=by
   intro k;induction k with
   | zero=>intro _;rfl
   | succ k ih=>
    intro hk;rw [DM,if_neg (by rw [hbn k (by omega)];decide),ih (by omega),Iw,hup k (by omega)]
  have hpv:Tm V x z (-1)=DM g t' (D1 g (AJ a l) F t' z) ats bs g.d.toNat:=by
   have e:=e4 (-1) (.inr ⟨by omega,by omega⟩);rw [if_neg (by omega),if_pos rfl] at e;unfold Tm;rw [e]
  have hhb:∀ b∈D1 g (AJ a l) F t' z,b.length=0\/b.length=8:=fun b hb=>by
   unfold D1 Kz at hb;rcases A2.1 hb with q | q
   ·obtain⟨i,hi,rfl⟩:=AQ.1 q;exact Hf (s:=AJ a l) hl (by have:=AR.1 hi;omega)
   ·rw [Ay] at q;subst q;exact Hf (s:=AJ a l) (w:= -1) hl (by decide)
  have hpl:(DM g t' (D1 g (AJ a l) F t' z) ats bs g.d.toNat).length=8:=E_ hhb e3 (by omega) _;have hwt:=Fk (g:=g) (t:=t') (had:=D1 g (AJ a l) F t' z) (ats:=ats) (bs:=bs) hg htok (stamp:=x.seq) hseq;have htab:EW g (AJ a (l ++ [x])) F z=some (By g t' (D1 g (AJ a l) F t' z) ats bs x.seq):=by
   have e:=e4 255 (.inl rfl);rw [if_pos rfl] at e;unfold EW;show (match Cr (l ++ [x]) z 255 with | some p=>BW g p.1.bytes | none=>_)=_;rw [Jv,e];exact Jf hwt
  have hent:∀ i:Nat,(i:Int)<g.d->(By g t' (D1 g (AJ a l) F t' z) ats bs x.seq).getD i ez=match Ex ats bs i ats.length with
    | some b=>⟨x.seq,(Cz b:Nat),false⟩
    | none=>t'.getD i ez:=fun i hi=>by
   unfold By;rw [Aa,AC (by simp;omega),AS,Bl (by omega)];show IN g t' _ ats bs x.seq i=_;unfold IN;rw [if_neg (by rw [hbn i hi];decide)];cases Ex ats bs i ats.length <;> rfl
  have hentp:(By g t' (D1 g (AJ a l) F t' z) ats bs x.seq).getD (Ev g (-1)).toNat ez=⟨x.seq,(Cz (Tm V x z (-1)):Nat),false⟩:=by
   rw [show (Ev g (-1)).toNat=g.d.toNat by unfold Ev;rw [if_pos rfl]];unfold By;rw [Aa,A9 (by simp),show g.d.toNat - ((List.range g.d.toNat).map (IN g t' (D1 g (AJ a l) F t' z) ats bs x.seq)).length=0 by simp,hpv];try rfl
  refine⟨_,htab,fun w q1 q2=>?_,fun w q1 q2=>?_,fun w q1 q2=>?_,?_⟩
  ·by_cases hw:w = -1
   ·rw [hw,hpv];exact hpl
   ·obtain⟨i,rfl⟩:∃ i:Nat,w=(i:Nat):=⟨w.toNat,by omega⟩;rw [hup i q2];exact hbn i q2
  ·by_cases hw:w = -1
   ·rw [hw,hentp];exact tA
   ·obtain⟨i,rfl⟩:∃ i:Nat,w=(i:Nat):=⟨w.toNat,by omega⟩;rw [hatN i q2,hent i q2,hup i q2];unfold F_;cases hp:Ex ats bs i ats.length with
    | some b=>exact tA
    | none=>
     have:=ht.ent (i:Nat) q1 q2;rw [hatN i q2] at this;simp only;rw [hkn i q2];exact this
  ·rw [Jv];have e:=e4 w (.inr ⟨q1,q2⟩);rw [if_neg (by omega)] at e;by_cases hw:w = -1
   ·subst hw;rw [if_pos rfl] at e;rw [e,hentp,hpv];exact tA
   ·obtain⟨i,rfl⟩:∃ i:Nat,w=(i:Nat):=⟨w.toNat,by omega⟩;rw [if_neg hw,WN,Ab] at e;rw [e,hatN i q2,hent i q2,hup i q2];unfold F_;cases hp:Ex ats bs i ats.length with
    | some b=>exact tA
    | none=>
     have:=ht.val (i:Nat) q1 q2;rw [hatN i q2] at this;simp only [Option.map_none];rw [hkn i q2];exact this
  ·rw [hpv];exact hpar _ (by omega)
theorem aq {g:Geo} (hg:Bm g=true) {a:An} {l:List Tx} {F:Int->List UInt8} {lba:Int} {b:List UInt8} (hlba:0<=lba/\lba<g.z*g.d) (hb:b.length=8) (ht:(EW g (AJ a l) F (lba.tdiv g.d)).isSome=true):∀ z,0<=z->z<g.z->bq g a l F (GD g a l F lba b) z:=by
 obtain⟨g1,g2,g3,g4,g5⟩:=Ar.1 hg;intro z h0 h1;obtain⟨t,ht⟩:=Ci.1 ht;have hm:0<=lba.tmod g.d/\lba.tmod g.d<g.d:=⟨Bx _ hlba.1,Bb _ (by omega)⟩;have ei:(GD g a l F lba b).images=Ch (lba.tdiv g.d) (By g t (D1 g (AJ a l) F t (lba.tdiv g.d)) [lba.tmod g.d] [b] (a.seq+(l.length:Int))) (DM g t (D1 g (AJ a l) F t (lba.tdiv g.d)) [lba.tmod g.d] [b] g.d.toNat) [lba.tmod g.d] [b]:=by
  show GM g (AJ a l) F _ lba b=_;unfold GM;rw [ht]
 by_cases hz:z=lba.tdiv g.d
 ·refine .inr ⟨t, [lba.tmod g.d], [b],by rw [hz];exact ht,rfl,fun x hx=>by rw [Ay] at hx;rw [hx];exact hb,fun w hw=>?_⟩;rw [ei,hz];exact JU _ _ _ _ _ (fun x hx=>by rw [Ay] at hx;omega) w (by omega)
 ·refine .inl fun w=>?_
  rw [ei];refine Jw (fun y hy=>?_) _ (Ah _);have:y.zone=lba.tdiv g.d:=by
   unfold Ch at hy;rcases A2.1 hy with q | q
   ·obtain⟨i, -,rfl⟩:=AQ.1 q;rfl
   ·simp only [AK,D3,or_false] at q;rcases q with rfl | rfl <;> rfl
  rw [this];exact fun e=>hz e.symm
theorem ap {g:Geo} (hg:Bm g=true) {a:An} {l:List Tx} {F:Int->List UInt8} {lba:Int} {b:List UInt8} (hlba:0<=lba/\lba<g.z*g.d) (ht:(EW g (AJ a l) F (lba.tdiv g.d)).isSome=true) (V:Int->Int->List UInt8) {z w:Int} (hw:0<=w/\w<g.d):Tm V (GD g a l F lba b) z w=if z=lba.tdiv g.d/\w=lba.tmod g.d then b else V z w:=by
 obtain⟨g1,g2,g3,g4,g5⟩:=Ar.1 hg;obtain⟨t,ht⟩:=Ci.1 ht;have hm:0<=lba.tmod g.d/\lba.tmod g.d<g.d:=⟨Bx _ hlba.1,Bb _ (by omega)⟩;have ei:(GD g a l F lba b).images=Ch (lba.tdiv g.d) (By g t (D1 g (AJ a l) F t (lba.tdiv g.d)) [lba.tmod g.d] [b] (a.seq+(l.length:Int))) (DM g t (D1 g (AJ a l) F t (lba.tdiv g.d)) [lba.tmod g.d] [b] g.d.toNat) [lba.tmod g.d] [b]:=by
  show GM g (AJ a l) F _ lba b=_;unfold GM;rw [ht]
 unfold Tm;rw [ei];by_cases hz:z=lba.tdiv g.d
 ·rw [hz,JU _ _ _ _ _ (fun x hx=>by rw [Ay] at hx;omega) w (by omega),if_neg (by omega),if_neg (by omega)];have ep:WN (lba.tdiv g.d) [lba.tmod g.d] [b] w=if lba.tmod g.d=((w.toNat:Nat):Int) then some ⟨lba.tdiv g.d,w,b⟩ else none:=by
   show ((if lba.tmod g.d=((w.toNat:Nat):Int) then some b else none:Option (List UInt8)).map fun b=>(⟨lba.tdiv g.d,w,b⟩:Img))=_;split <;> rfl
  rw [ep];by_cases e:lba.tmod g.d=((w.toNat:Nat):Int)
  ·rw [if_pos e,if_pos ⟨rfl,by omega⟩]
  ·rw [if_neg e,if_neg (fun q:_/\_=>e (by omega))]
 ·rw [if_neg (fun q=>hz q.1),Jw (fun y hy=>?_) _ (Ah _)];have:y.zone=lba.tdiv g.d:=by
   unfold Ch at hy;rcases A2.1 hy with q | q
   ·obtain⟨i, -,rfl⟩:=AQ.1 q;rfl
   ·simp only [AK,D3,or_false] at q;rcases q with rfl | rfl <;> rfl
  rw [this];exact fun e=>hz e.symm
theorem S8 {g:Geo} {b:List UInt8} {t:List Ent} (h:BW g b=some t):t.length=(g.d+1).toNat:=by
 unfold BW at h;split at h
 ·rw [<-Option.some.inj h,entsOf_len]
 ·cases h
theorem Pz {g:Geo} {x:Gt} {q r:Int} {t:List Ent} (h:BH g x q r=some t):t.length=(g.d+1).toNat:=by
 rw [LI] at h;split at h
 ·exact S8 h
 ·cases h
def QJ (g:Geo) (i:Nat):Int:=if (i:Int)=g.d then -1 else (i:Nat)
theorem YK (g:Geo) (s:Stt) (d:Dk) (a:Int) (h:DkOk d) (ha:0<=a/\a<d.cells.length) :
  ACalls Tryz.prog false 138 [.bp 0 0,iv a] (Gk g s d) fun r H=>r = .ag (D7 ⟨(d.read a).2.2,(d.read a).2.1⟩)/\H=Gk g s (d.read a).1:=by
 have hr:=Xm Cx d a h.l ha h.m (fun c hc=>by have:=(h.c c hc).2.1;omega) (fun w hw=>by have:=(h.w w hw).2;omega);refine zT tys_ok Tryz.func138 rfl rfl (Ag rfl) ?_;conv=>whnf
 refine ze9 [1,2,3] hr ?_;rintro _ _ ⟨rfl,rfl⟩;exact⟨_, .ag (D7 ⟨(d.read a).2.2,(d.read a).2.1⟩),Gk g s (d.read a).1,fun _ _ h=>h,zS (s:= [0,1,2,3,4]) tA,rfl,rfl⟩
theorem Q5 (g:Geo) (s:Stt) (d:Dk) (a:Int) (b:List UInt8) (h:DkOk d) (ha:0<=a/\a<d.cells.length) (hb:b.length<=200) :
  ACalls Tryz.prog false 182 [.bp 0 0,iv a,bA b] (Gk g s d) fun r H=>r = .tp [.v (.bool (decide ((d.write a b).2=0))),iv (if (d.write a b).2=8 then 8 else 0)]/\H=Gk g s (d.write a b).1:=by
 have hr:=UE Cx d a b h.l ha h.m (by omega);have he:(d.write a b).2=8\/(d.write a b).2=7\/(d.write a b).2=0:=by
  unfold Dk.write;split
  ·exact .inl rfl
  ·split
   ·exact .inr (.inl rfl)
   ·exact .inr (.inr rfl)
 generalize d.write a b=q at hr he |-
 obtain⟨d',e⟩:=q;simp only at hr he |-
 refine zT tys_ok Tryz.func182 rfl rfl (Ag rfl) ?_;conv=>whnf
 refine ze9 [1,2,3] hr ?_;rintro _ _ ⟨rfl,rfl⟩;rcases he with rfl | rfl | rfl
 all_goals
  exact⟨_,_,Gk g s d',fun _ _ h=>h,zS (s:= [0,1,2,3,4]) tA,rfl,rfl⟩
structure Gr where
 f:Int->Gt
 cells:List Cel
 cache:List Wr
instance:CoeFun Gr fun _=>Int->Gt:=⟨Gr.f⟩
structure Gs (n:Int) (d:Dk) (G:Gr):Prop where
 ok:DkOk d
 left:d.left = -1
 len:(d.cells.length:Int)=n
 got:∀ a:Int,0<=a->a<n->d.got a=((G a).bytes,(G a).err)
 cells:d.cells=G.cells
 cache:d.cache=G.cache
theorem Gs.req {n:Int} {d:Dk} {G:Gr} (h:Gs n d G):Gs n d.req G:=⟨h.ok.req,by unfold Dk.req;rw [h.left];try rfl,h.len,h.got,h.cells,h.cache⟩
theorem Gs.read {n:Int} {d:Dk} {G:Gr} (h:Gs n d G) {a:Int} (h0:0<=a) (h1:a<n):d.read a=(d.req,(G a).bytes,(G a).err):=by
 unfold Dk.read;rw [if_neg (by rw [h.left];decide),h.got a h0 h1]
def Fu (d:Dk):Gr:=⟨fun a=>⟨(d.got a).2,(d.got a).1⟩,d.cells,d.cache⟩
theorem Gs.of {n:Int} {d:Dk} (h:DkOk d) (hl:d.left = -1) (hn:(d.cells.length:Int)=n):Gs n d (Fu d):=⟨h,hl,hn,fun _ _ _=>rfl,rfl,rfl⟩
def G0 (g:Geo) (s:Stt) (G:Gr) (z:Int):Option (List Ent):=match Cr s.txns z 255 with
 | some p=>BW g p.1.bytes
 | none=>match BH g (G (A6 g z 0)) (A6 g z 0) (Cm s.a s.txns z) with
  | some t=>some t
  | none=>BH g (G (A6 g z 1)) (A6 g z 1) (Cm s.a s.txns z)
def Fi (g:Geo) (s:Stt) (G:Gr) (t:List Ent) (z w:Int):List UInt8:=match Cr s.txns z w with
 | some p=>p.1.bytes
 | none=>(CY (G (B4 g s.a z w)) (B4 g s.a z w) (t.getD (Ev g w).toNat ez)).getD []
def EI (g:Geo) (s:Stt) (G:Gr) (t:List Ent) (z:Int):List (List UInt8):=(List.range (g.d.toNat+1)).map fun i=>Fi g s G t z (QJ g i)
theorem Z5 {g:Geo} (hg:Bm g=true) {s:Stt} {G:Gr} {z:Int} {t:List Ent} (h:G0 g s G z=some t):(t.length:Int)=g.d+1:=by
 have g5:=Ar.1 hg;have:t.length=(g.d+1).toNat:=by
  unfold G0 at h;split at h
  ·exact S8 h
  ·split at h
   ·rename_i q;rw [<-Option.some.inj h];exact Pz q
   ·exact Pz h
 omega
theorem SQ (g:Geo) (s:Stt) (d:Dk) (G:Gr) (a:Int) (h:Gs (Aq g) d G) (ha:0<=a/\a<Aq g) :
  ACalls Tryz.prog false 138 [.bp 0 0,iv a] (Gk g s d) fun r H=>r = .ag (D7 (G a))/\∃ d',Gs (Aq g) d' G/\H=Gk g s d':=by
 have hr:=YK g s d a h.ok (by rw [h.len];exact ha);rw [h.read ha.1 ha.2] at hr;exact hr.mono fun r H hh=>⟨hh.1,d.req,h.req,hh.2⟩
theorem Qy (g:Geo) (s:Stt) (d:Dk) (G:Gr) (z:Int) (hg:Bm g=true) (hl:LogB s.txns) (ha:Bn g s.a=true) (h:Gs (Aq g) d G) (hF:∀ a,(G a).bytes.length<=100000) (h8:∀ a,(G a).err≠8) (hz:0<=z/\z<g.z) (hB:∀ p,Cr s.txns z 255=some p->p.1.bytes.length<=100000/\(BW g p.1.bytes).isSome=true) :
    ACalls Tryz.prog false 66 [.bp 0 0,iv z] (Gk g s d) fun r H=>r=(match G0 g s G z with | some t=>AV.tp [.ag [Bp t],iv 0] | none=> .tp [.ag [Bp []],iv 13])/\∃ d',Gs (Aq g) d' G/\H=Gk g s d':=by
  have hf:=I9 s.txns z 255 hl.n hl.i;obtain⟨O,hO⟩:∃ O,O=G0 g s G z:=⟨_,rfl⟩;rw [<-hO];unfold G0 at hO;cases hL:Cr s.txns z 255 with
  | some p=>
    obtain⟨x,q⟩:=p;rw [hL] at hf hO;simp only at hf hO;obtain⟨hx,ht⟩:=hB _ hL;obtain⟨t,ht⟩:=Ci.1 ht;have ht:BW g x.bytes=some t:=ht;rw [ht] at hO;subst hO;have hr:=LG g x.bytes hx;rw [hg,if_pos rfl,ht] at hr;refine zT tys_ok Tryz.func66 rfl rfl (Ag rfl) ?_;conv=>whnf
    refine ze9 [4] hf ?_;rintro _ _ ⟨rfl,rfl⟩;conv=>whnf
    refine zZ hr ?_;exact⟨.tp [.ag [Bp t],iv 0], .tp [.ag [Bp t],iv 0],Gk g s d,fun _ _ h=>h,zS (s:= [0,1,2,3,4]) tA,rfl,d,h,rfl⟩
  | none=>
    rw [hL] at hf hO;simp only at hf hO;have hR:=Wz s.a s.txns z (by have:=(NP ha hz).1;omega) hl.n (fun t ht=>(hl.i t ht).1);refine zT tys_ok Tryz.func66 rfl rfl (Ag rfl) ?_;conv=>whnf
    refine ze9 [4] hf ?_;rintro _ _ ⟨rfl,rfl⟩;conv=>whnf
    apply zO tys_ok mixed (.o [0,1,2,3,4,5,6,7,8,9,10,11,12,13,14,15,16] .fin) [11,12,41,42,43,44,45,46,47,48,49,50,51,52,53,54,55] (by kernel_rfl)
    · conv=>whnf
      (refine zp (args':= [.ag (Ft s.a), .sl 4 s.txns.length fun i=>(s.txns.map CV).getD i [],iv z]) (hR.subA ⟨fun _ _ h=>h,Bc (f:=CV) s.txns rfl rfl,fun _ _ h=>h,tv⟩) ⟨(Ac _).symm,rfl⟩ ?_;rintro _ rfl;refine⟨rfl,?_⟩)
      exact tA
    conv=>whnf
    have htab:∀ k:Nat,k<2->g.an+2*g.sl<=A6 g z (k:Nat)/\A6 g z (k:Nat)<Aq g:=fun k hk=>by have:=D5 hg hz (k:=(k:Nat)) (by omega);omega
    refine zU (Nat × Dk) (fun x=>([(0, .bp 0 0),(1,iv z),(4, .bp 5 0),(11,iv (Cm s.a s.txns z)),(56,iv (x.1:Nat))],Gk g s x.2 ++ ([.box 70 [.v (.slice none 0 0)]]:List AB))) (fun x=>x.1<=2/\Gs (Aq g) x.2 G/\∀ j:Nat,j<x.1->BH g (G (A6 g z (j:Nat))) (A6 g z (j:Nat)) (Cm s.a s.txns z)=none) (fun x=>2 - x.1) (0,d) ⟨Aj _,h,fun j hj=>absurd hj (Ap j)⟩
      (zS (s:= [0,1,2,3,4,5]) tA) ?_
    rintro⟨k,d1⟩ ⟨hk,hd1,hno⟩;simp only at hk hd1 hno;conv=>whnf
    refine A7 (fun h6=>?_) (fun h6=>?_) <;> (repeat rw [Ab] at h6) <;> conv=>whnf
    · have hk2:k<2:=by omega
      have hta:=Ux g z (k:Nat) hg hz (by omega);obtain⟨q1,q2⟩:=htab k hk2;have hz2:=Ar.1 hg;have hrd:=SQ g s d1 G (A6 g z (k:Nat)) hd1 (by omega);have hto:=U9 g (G (A6 g z (k:Nat))) (A6 g z (k:Nat)) (Cm s.a s.txns z) hg (hF _);repeat' (refine z_ ?_;conv=>whnf)
      refine zZ hta ?_;conv=>whnf
      repeat' (refine z_ ?_;conv=>whnf)
      refine ze9 [0,1,2,3,4] hrd ?_;rintro _ _ ⟨rfl,d2,hd2,rfl⟩;conv=>whnf
      rw [show ((G (A6 g z (k:Nat))).err == 8)=false from beq_eq_false_iff_ne.2 (h8 _)];conv=>whnf
      repeat' (refine z_ ?_;conv=>whnf)
      have hGk:∀ u,BH g (G (A6 g z (k:Nat))) (A6 g z (k:Nat)) (Cm s.a s.txns z)=some u->O=some u:=fun u hu=>by
        match k,hk2 with
        | 0,_=>
          have hu:BH g (G (A6 g z 0)) (A6 g z 0) (Cm s.a s.txns z)=some u:=hu;rw [hO,hu]
        | 1,_=>
          have h0:BH g (G (A6 g z 0)) (A6 g z 0) (Cm s.a s.txns z)=none:=hno 0 (by decide);have hu:BH g (G (A6 g z 1)) (A6 g z 1) (Cm s.a s.txns z)=some u:=hu;rw [hO,h0];exact hu
      apply zW (0) tys_ok mixed (.o [0,1,2,3,4,5,6] (.two 7 (.o [8,9,10,11,12,13] .fin) 11 (.o [7,8,9,10,12,13] .fin))) (by kernel_rfl);refine Ae ?_ ?_;conv=>whnf
      refine zZ hto ?_;conv=>whnf
      try (refine tS ?_;conv=>whnf)
      rotate_left 1;conv=>whnf
      refine zZ hto ?_;conv=>whnf
      try (refine tS ?_;conv=>whnf)
      rotate_left 1;all_goals
        cases hT:BH g (G (A6 g z (k:Nat))) (A6 g z (k:Nat)) (Cm s.a s.txns z)
      all_goals
        conv=>whnf
        first
        | exact⟨(k+1,d2),⟨by show k+1<=2;omega,hd2,fun j hj=>by by_cases e:j=k;exact e ▸ hT;exact hno j (by have:j<k+1:=hj;omega)⟩,by show 2 - (k+1)<2 - k;omega,zS (s:= [0,1,2,3,4,5]) ⟨⟨rfl,rfl,rfl,rfl,AI (by omega),tv⟩,tA,rfl,rfl,rfl,rfl,rfl⟩⟩
        | (rename_i u
           rw [hGk _ hT];exact⟨.tp [.ag [Bp u],iv 0], .tp [.ag [Bp u],iv 0],Gk g s d2,fun _ _ h=>h,zS (s:= [0,1,2,3,4]) tA,rfl,d2,hd2,rfl⟩)
    · have ek:k=2:=by omega
      subst ek;have h0:BH g (G (A6 g z 0)) (A6 g z 0) (Cm s.a s.txns z)=none:=hno 0 (by decide);have h1:BH g (G (A6 g z 1)) (A6 g z 1) (Cm s.a s.txns z)=none:=hno 1 (by decide);rw [h0] at hO;simp only at hO;rw [h1] at hO;subst hO;repeat' (refine z_ ?_;conv=>whnf)
      exact⟨_, .tp [.ag [Bp []],iv 13],Gk g s d1,Cf (m:= [.ag [Bp []],iv 13]) ⟨Bk ⟨Bo 3 _,tv⟩,ri,tv⟩,zS (s:= [0,1,2,3,4]) tA,rfl,d1,hd1,rfl⟩
theorem K4 (g:Geo) (s:Stt) (d:Dk) (G:Gr) (z w:Int) (t:List Ent) (hg:Bm g=true) (ha:Bn g s.a=true) (h:Gs (Aq g) d G) (hF:∀ a,(G a).bytes.length<=100000) (h8:∀ a,(G a).err≠8) (hz:0<=z/\z<g.z) (hw : -1<=w/\w<g.d) (ht:(t.length:Int)=g.d+1) :
  ACalls Tryz.prog false 105 [.bp 0 0,iv z,iv w, .ag [Bp t]] (Gk g s d) fun r H=>r = .tp [bA ((CY (G (B4 g s.a z w)) (B4 g s.a z w) (t.getD (Ev g w).toNat ez)).getD []),iv 0]/\∃ d',Gs (Aq g) d' G/\H=Gk g s d':=by
 have hadr:=Ww g s.a z w hg ha hz hw;obtain⟨sl,e1,e2⟩:=Em hg ha hz (w:=w) hw;have hsl:=E0 hg hz e2;have hat:0<=Ev g w/\Ev g w<=g.d:=by have:=Ar.1 hg;unfold Ev;split <;> omega
 have hci:=UW g w;obtain⟨X,hX⟩:∃ X,X=B4 g s.a z w:=⟨_,rfl⟩;rw [<-hX] at hadr e1 |-
 have hcb:=D9 hg;have hrd:=SQ g s d G X h (by have:=Ar.1 hg;omega);have heb:=UC (G X) X (t.getD (Ev g w).toNat ez) (hF _);have ixA:0<=Ev g w/\Ev g w<(t.length:Nat):=by omega
 refine zT tys_ok Tryz.func105 rfl rfl (Ag rfl) ?_;conv=>whnf
 apply zO tys_ok mixed (.o [0,1,2,3,4,5,6,7,8,9,10,11,12,13,14,15,16] .fin) [10,11,15,16,17,18,19,20,21,22,23,24,25,26,27,28,29] (by kernel_rfl)
 ·conv=>whnf
  refine zZ hadr ?_;exact tA
 conv=>whnf
 refine ze9 [0,1,2,3,4] hrd ?_;rintro _ _ ⟨rfl,d2,hd2,rfl⟩;conv=>whnf
 rw [show ((G X).err == 8)=false from beq_eq_false_iff_ne.2 (h8 X)];conv=>whnf
 repeat' (refine z_ ?_;conv=>whnf)
 apply zO tys_ok mixed (.o [0,1,2,3,4,5,6,7,8,9,10,11,12,13,14,15,16,17] .fin) [13,14,36,37,38,39,40,41,42,43,44,45,46,47,48,49,50,51] (by kernel_rfl)
 ·conv=>whnf
  refine zZ hci ?_;conv=>whnf
  try (refine Ae (by first | omega | exact ixA | exact ixB | (simp;done)) ?_;conv=>whnf)
  refine zZ heb ?_;exact tA
 conv=>whnf
 obtain⟨B,hBe⟩:∃ B,B=(CY (G X) X (t.getD (Ev g w).toNat ez)).getD []:=⟨_,rfl⟩;rw [<-hBe];exact⟨.tp [bA B,iv 0], .tp [bA B,iv 0],Gk g s d2,fun _ _ h=>h,zS (s:= [0,1,2,3,4]) tA,rfl,d2,hd2,rfl⟩
def WU (g:Geo) (s:Stt) (G:Gr) (t:List Ent) (z:Int) (k:Nat):List (List UInt8):=(List.range k).map fun i=>Fi g s G t z (QJ g i)
theorem La (g:Geo) (s:Stt) (d:Dk) (G:Gr) (z:Int) (hg:Bm g=true) (hl:LogB s.txns) (ha:Bn g s.a=true) (h:Gs (Aq g) d G) (hF:∀ a,(G a).bytes.length<=100000) (h8:∀ a,(G a).err≠8) (hz:0<=z/\z<g.z) (hB:∀ p,Cr s.txns z 255=some p->p.1.bytes.length<=100000/\(BW g p.1.bytes).isSome=true) (t:List Ent) (ht:G0 g s G z=some t) :
  ACalls Tryz.prog false 67 [.bp 0 0,iv z] (Gk g s d) fun r H=>r = .tp [.ag [Bp t],ER (EI g s G t z),iv 0]/\∃ d',Gs (Aq g) d' G/\H=Gk g s d':=by
 obtain⟨g1,g2,g3,g4,g5⟩:=Ar.1 hg;have hT:=Qy g s d G z hg hl ha h hF h8 hz hB;rw [ht] at hT;have htn:=Z5 hg ht;have hd1:IntKind.i64.wrap (g.d+1)=g.d+1:=wi (by omega);refine zT tys_ok Tryz.func67 rfl rfl (Ag rfl) ?_;conv=>whnf
 refine ze9 [0,1,2,3,4] hT ?_;rintro _ _ ⟨rfl,d2,hd2,rfl⟩;conv=>whnf
 rw [hd1];refine zU (Nat × Dk) (fun x=>([(0, .bp 0 0),(1,iv z),(4, .bp 5 0),(5, .ow 6 x.1),(27,iv (g.d+1)),(28,iv (x.1:Nat))],Gk g s x.2 ++ ([.box 70 [Bp t], .row 47 1 ((WU g s G t z x.1).map F9)]:List AB))) (fun x=>(x.1:Int)<=g.d+1/\Gs (Aq g) x.2 G) (fun x=>g.d.toNat+1 - x.1) (0,d2) ⟨by show ((0:Nat):Int)<=g.d+1;omega,hd2⟩
  ⟨_,_,zF _ _, [(5,47,1)],tA, [0,1,2,3,4,5,6],tA,tA,rfl,rfl,rfl,rfl,rfl⟩ ?_
 rintro⟨k,d1⟩ ⟨hk,hd1⟩;simp only at hk hd1;by_cases hkn:(k:Int)<g.d+1;rotate_left 1
 ·have ek:k=g.d.toNat+1:=by omega
  conv=>whnf
  rw [show decide ((k:Int)<g.d+1)=false from decide_eq_false hkn];conv=>whnf
  repeat' (refine z_ ?_;conv=>whnf)
  have hlen:(EI g s G t z).length=g.d.toNat+1:=by simp [EI]
  subst ek;exact⟨.tp [.ag [Bp t], .ow 6 (EI g s G t z).length,iv 0], .tp [.ag [Bp t],ER (EI g s G t z),iv 0],Gk g s d1,Cf (m:= [.ag [Bp t], .ow 6 (EI g s G t z).length,iv 0]) ⟨ri,by rw [hlen];exact fun _ _ h=>h,ri,tv⟩,zG (zQ (ConvF.sealTp 0 6 (es:=(EI g s G t z).map F9) (by rw [Ac];try rfl) (congrArg (fun L=>some (AB.row 47 1 (List.map F9 L))) rfl)) (zL 0 rfl (Cf (m:= [.ag [Bp t],ER (EI g s G t z),iv 0]) ⟨ri,DL (Ac _) rfl,ri,tv⟩))) (s:= [0,1,2,3,4]) tA,rfl,d1,hd1,rfl⟩
 ·conv=>whnf
  rw [show decide ((k:Int)<g.d+1)=true from decide_eq_true hkn];conv=>whnf
  repeat' (refine z_ ?_;conv=>whnf)
  by_cases hkd:(k:Int)=g.d
  ·rw [show (((k:Nat):Int) == g.d)=true by rw [hkd];simp];have e1:QJ g k=(-1):=by unfold QJ;first | rw [if_pos hkd] | rw [if_neg hkd]
   have e2:(WU g s G t z k).map F9 ++ [F9 (Fi g s G t z (-1))]=(WU g s G t z (k+1)).map F9:=by rw [<-e1];simp [WU,Bj]
   have hf:=I9 s.txns z (-1) hl.n hl.i;have hlk:(WU g s G t z k).length=k:=by simp [WU]
   cases hL:Cr s.txns z (-1) with
   | some p=>
    rw [hL] at hf;simp only at hf;have e3:Fi g s G t z (-1)=p.1.bytes:=by unfold Fi;rw [hL]
    rw [e3] at e2;conv=>whnf
    repeat' (refine z_ ?_;conv=>whnf)
    refine ze9 [4] hf ?_;rintro _ _ ⟨rfl,rfl⟩;conv=>whnf
    repeat' (refine z_ ?_;conv=>whnf)
    refine⟨rfl,?_⟩;refine⟨⟨by rw [Ac,hlk],by omega⟩,?_⟩;conv=>whnf
    exact⟨(k+1,d1),⟨by show ((k+1:Nat):Int)<=g.d+1;omega,hd1⟩,by show g.d.toNat+1 - (k+1)<g.d.toNat+1 - k;omega,zS (s:= [0,1,2,3,4,5,6]) ⟨⟨rfl,rfl,rfl,rfl,rfl,AI (by omega),tv⟩,⟨rfl,rfl,rfl,rfl,rfl,rfl,congrArg (fun es=>some (AB.row 47 1 es)) e2,tv⟩,rfl,rfl,rfl,rfl,rfl⟩⟩
   | none=>
    rw [hL] at hf;simp only at hf;have e3:Fi g s G t z (-1)=(CY (G (B4 g s.a z (-1))) (B4 g s.a z (-1)) (t.getD (Ev g (-1)).toNat ez)).getD []:=by unfold Fi;rw [hL]
    have hh:=K4 g s d1 G z (-1) t hg ha hd1 hF h8 hz (by omega) htn;rw [<-e3] at hh;conv=>whnf
    repeat' (refine z_ ?_;conv=>whnf)
    refine ze9 [4] hf ?_;rintro _ _ ⟨rfl,rfl⟩;conv=>whnf
    repeat' (refine z_ ?_;conv=>whnf)
    refine ze9 [0,1,2,3,4] hh ?_;rintro _ _ ⟨rfl,d3,hd3,rfl⟩;conv=>whnf
    repeat' (refine z_ ?_;conv=>whnf)
    refine⟨rfl,?_⟩;refine⟨⟨by rw [Ac,hlk],by omega⟩,?_⟩;conv=>whnf
    exact⟨(k+1,d3),⟨by show ((k+1:Nat):Int)<=g.d+1;omega,hd3⟩,by show g.d.toNat+1 - (k+1)<g.d.toNat+1 - k;omega,zS (s:= [0,1,2,3,4,5,6]) ⟨⟨rfl,rfl,rfl,rfl,rfl,AI (by omega),tv⟩,⟨rfl,rfl,rfl,rfl,rfl,rfl,congrArg (fun es=>some (AB.row 47 1 es)) e2,tv⟩,rfl,rfl,rfl,rfl,rfl⟩⟩
  ·rw [show (((k:Nat):Int) == g.d)=false from beq_eq_false_iff_ne.2 hkd];have e1:QJ g k=((k:Nat):Int):=by unfold QJ;first | rw [if_pos hkd] | rw [if_neg hkd]
   have e2:(WU g s G t z k).map F9 ++ [F9 (Fi g s G t z ((k:Nat):Int))]=(WU g s G t z (k+1)).map F9:=by rw [<-e1];simp [WU,Bj]
   have hf:=I9 s.txns z ((k:Nat):Int) hl.n hl.i;have hlk:(WU g s G t z k).length=k:=by simp [WU]
   cases hL:Cr s.txns z ((k:Nat):Int) with
   | some p=>
    rw [hL] at hf;simp only at hf;have e3:Fi g s G t z ((k:Nat):Int)=p.1.bytes:=by unfold Fi;rw [hL]
    rw [e3] at e2;conv=>whnf
    repeat' (refine z_ ?_;conv=>whnf)
    refine ze9 [4] hf ?_;rintro _ _ ⟨rfl,rfl⟩;conv=>whnf
    repeat' (refine z_ ?_;conv=>whnf)
    refine⟨rfl,?_⟩;refine⟨⟨by rw [Ac,hlk],by omega⟩,?_⟩;conv=>whnf
    exact⟨(k+1,d1),⟨by show ((k+1:Nat):Int)<=g.d+1;omega,hd1⟩,by show g.d.toNat+1 - (k+1)<g.d.toNat+1 - k;omega,zS (s:= [0,1,2,3,4,5,6]) ⟨⟨rfl,rfl,rfl,rfl,rfl,AI (by omega),tv⟩,⟨rfl,rfl,rfl,rfl,rfl,rfl,congrArg (fun es=>some (AB.row 47 1 es)) e2,tv⟩,rfl,rfl,rfl,rfl,rfl⟩⟩
   | none=>
    rw [hL] at hf;simp only at hf;have e3:Fi g s G t z ((k:Nat):Int)=(CY (G (B4 g s.a z ((k:Nat):Int))) (B4 g s.a z ((k:Nat):Int)) (t.getD (Ev g ((k:Nat):Int)).toNat ez)).getD []:=by unfold Fi;rw [hL]
    have hh:=K4 g s d1 G z ((k:Nat):Int) t hg ha hd1 hF h8 hz (by omega) htn;rw [<-e3] at hh;conv=>whnf
    repeat' (refine z_ ?_;conv=>whnf)
    refine ze9 [4] hf ?_;rintro _ _ ⟨rfl,rfl⟩;conv=>whnf
    repeat' (refine z_ ?_;conv=>whnf)
    refine ze9 [0,1,2,3,4] hh ?_;rintro _ _ ⟨rfl,d3,hd3,rfl⟩;conv=>whnf
    repeat' (refine z_ ?_;conv=>whnf)
    refine⟨rfl,?_⟩;refine⟨⟨by rw [Ac,hlk],by omega⟩,?_⟩;conv=>whnf
    exact⟨(k+1,d3),⟨by show ((k+1:Nat):Int)<=g.d+1;omega,hd3⟩,by show g.d.toNat+1 - (k+1)<g.d.toNat+1 - k;omega,zS (s:= [0,1,2,3,4,5,6]) ⟨⟨rfl,rfl,rfl,rfl,rfl,AI (by omega),tv⟩,⟨rfl,rfl,rfl,rfl,rfl,rfl,congrArg (fun es=>some (AB.row 47 1 es)) e2,tv⟩,rfl,rfl,rfl,rfl,rfl⟩⟩
def IM (t:List Ent) (had:List (List UInt8)) (but:Nat):Nat->Option (List (List UInt8))
 | 0=>some []
 | k+1=>match IM t had but k with
  | none=>none
  | some l=>if k=but\/(t.getD k ez).lost=true then some l else if (had.getD k []).length=0 then none else some (l ++ [had.getD k []])
theorem SE (t:List Ent) (had:List (List UInt8)) (but:Nat):∀ k,Dl t had but k=(IM t had but k).map GC
 | 0=>rfl
 | k+1=>by
  rw [Dl,IM,SE t had but k];cases IM t had but k with
  | none=>rfl
  | some l=>
   simp only [Dr];split
   ·rfl
   ·split
    ·rfl
    ·simp [GC]
theorem N7 {t:List Ent} {had:List (List UInt8)} {but k:Nat} (h:IM t had but k=none):∀ m,k<=m->IM t had but m=none
 | 0,hm=>by rwa [show k=0 by omega] at h
 | m+1,hm=>by
  by_cases e:k=m+1
  ·rw [<-e];exact h
  ·rw [IM,N7 h m (by omega)]
theorem Me {t:List Ent} {had:List (List UInt8)} {but:Nat} (h8:∀ b∈had,b.length=0\/b.length=8):∀ k l,k<=had.length->IM t had but k=some l->l.length<=k/\∀ b∈l,b.length=8
 | 0,l,_,h=>by
  obtain rfl:=Option.some.inj h;exact⟨Ah _,fun b hb=>by cases hb⟩
 | k+1,l,hk,h=>by
  rw [IM] at h;cases ho:IM t had but k with
  | none=>rw [ho] at h;cases h
  | some m=>
   rw [ho] at h;simp only at h;obtain⟨q1,q2⟩:=Me h8 k m (by omega) ho;split at h
   ·obtain rfl:=Option.some.inj h;exact⟨by omega,q2⟩
   ·split at h
    ·cases h
    ·rename_i hz;obtain rfl:=Option.some.inj h;refine⟨by rw [Ai,C9];omega,fun b hb=>?_⟩;rcases A2.1 hb with q | q
     ·exact q2 b q
     ·rw [Ay] at q;rw [q];rcases h8 _ (A5 (d:=([]:List UInt8)) (show k<had.length by omega)) with e | e
      ·exact absurd e hz
      ·exact e
@[reducible] def zlR (g:Geo) (t:List Ent) (had l:List (List UInt8)):List AB:= [.box 298 [iv g.d,Bp t,ER had], .row 47 1 (l.map F9)]
theorem QK (g:Geo) (t:List Ent) (had:List (List UInt8)) (but:Nat) (hg:Bm g=true) (htl:(t.length:Int)=g.d+1) (hh:(had.length:Int)=g.d+1) (hbt:(but:Int)<=g.d) (h8:∀ b∈had,b.length=0\/b.length=8):ACalls Tryz.prog false 229 [.bp 0 0,iv (but:Nat)] (zlH g t had) fun r H=>match IM t had but g.d.toNat with
  | some l=>r = .tp [.ow 1 l.length, .v (.bool true)]/\H=zlR g t had l
  | none=>r = .tp [.v (.slice none 0 0), .v (.bool false)]/\H=zlH g t had:=by
 obtain⟨g1,g2,g3,g4,g5⟩:=Ar.1 hg;refine zT tys_ok Tryz.func229 rfl rfl (Ag rfl) ?_;conv=>whnf
 refine zU (Nat × List (List UInt8)) (fun x=>([(0, .bp 0 0),(1,iv (but:Nat)),(6, .ow 1 x.2.length),(11,iv g.d),(12,iv (x.1:Nat))],zlR g t had x.2)) (fun x=>x.1<=g.d.toNat/\IM t had but x.1=some x.2) (fun x=>g.d.toNat - x.1) (0, []) ⟨Aj _,rfl⟩
  ⟨_,_,zF _ _, [(6,47,1)],tA, [0,1],tA,tA,rfl,rfl,rfl,rfl,rfl⟩ ?_
 rintro⟨k,l⟩ ⟨hk,hl⟩;simp only at hk hl;obtain⟨hll, -⟩:=Me h8 k l (by omega) hl;by_cases hkd:k<g.d.toNat;rotate_left 1
 ·have ek:k=g.d.toNat:=by omega
  subst ek;rw [hl];conv=>whnf
  rw [show decide (((g.d.toNat:Nat):Int)<g.d)=false from decide_eq_false (by omega)];conv=>whnf
  repeat' (refine z_ ?_;conv=>whnf)
  exact⟨_, .tp [.ow 1 l.length, .v (.bool true)],zlR g t had l,fun _ _ h=>h,zS (s:= [0,1]) tA,rfl,rfl⟩
 ·have hs:IM t had but (k+1)=if k=but\/(t.getD k ez).lost=true then some l else if (had.getD k []).length=0 then none else some (l ++ [had.getD k []]):=by rw [IM,hl]
  have ixA:(0:Int)<=(k:Nat)/\((k:Nat):Int)<(t.length:Nat):=by omega
  have ixB:(0:Int)<=(k:Nat)/\((k:Nat):Int)<(had.length:Nat):=by omega
  conv=>whnf
  rw [show decide ((k:Int)<g.d)=true from decide_eq_true (by omega)];conv=>whnf
  repeat' (refine z_ ?_;conv=>whnf)
  by_cases he:k=but
  ·rw [if_pos (.inl he)] at hs;rw [show (((k:Nat):Int) == ((but:Nat):Int))=true from beq_iff_eq.2 (by rw [he])];conv=>whnf
   repeat' (refine z_ ?_;conv=>whnf)
   exact⟨(k+1,l),⟨hkd,hs⟩,by show g.d.toNat - (k+1)<g.d.toNat - k;omega,zS (s:= [0,1]) ⟨⟨rfl,rfl,rfl,rfl,AI (by omega),tv⟩,tA,rfl,rfl,rfl,rfl,rfl⟩⟩
  ·rw [show (((k:Nat):Int) == ((but:Nat):Int))=false from beq_eq_false_iff_ne.2 (by omega)];refine⟨ixA,?_⟩;conv=>whnf
   rw [Ab];by_cases hlo:(t.getD k ez).lost=true
   ·rw [if_pos (.inr hlo)] at hs;rw [show (t.getD k ⟨0,0,false⟩).lost=true from hlo];conv=>whnf
    repeat' (refine z_ ?_;conv=>whnf)
    exact⟨(k+1,l),⟨hkd,hs⟩,by show g.d.toNat - (k+1)<g.d.toNat - k;omega,zS (s:= [0,1]) ⟨⟨rfl,rfl,rfl,rfl,AI (by omega),tv⟩,tA,rfl,rfl,rfl,rfl,rfl⟩⟩
   ·rw [if_neg (fun q=>q.elim he hlo)] at hs;rw [show (t.getD k ⟨0,0,false⟩).lost=false from Bool.eq_false_iff.2 hlo];conv=>whnf
    repeat' (refine z_ ?_;conv=>whnf)
    refine⟨ixB,?_⟩;conv=>whnf
    rw [Ab];by_cases h0:(had.getD k []).length=0
    ·rw [if_pos h0] at hs;rw [show (((had.getD k []).length:Int) == 0)=true by rw [h0];try rfl];rw [N7 hs g.d.toNat (by omega)];exact⟨_, .tp [.v (.slice none 0 0), .v (.bool false)],zlH g t had,fun _ _ h=>h,zS (s:= [0]) tA,rfl,rfl⟩
    ·rw [if_neg h0] at hs;rw [show (((had.getD k []).length:Int) == 0)=false from beq_eq_false_iff_ne.2 (by omega)];conv=>whnf
     repeat' (refine z_ ?_;conv=>whnf)
     refine⟨ixB,?_⟩;conv=>whnf
     rw [Ab];refine⟨rfl,?_⟩;conv=>whnf
     refine Ae ⟨by rw [Ac],by show l.length+1<=1000000000;omega⟩ ?_;conv=>whnf
     exact⟨(k+1,l ++ [had.getD k []]),⟨hkd,hs⟩,by show g.d.toNat - (k+1)<g.d.toNat - k;omega,zS (s:= [0,1]) ⟨⟨rfl,rfl,congrArg (AV.ow 1) (show l.length+1=(l ++ [had.getD k []]).length by rw [Ai];try rfl),rfl,AI (by omega),tv⟩,⟨rfl,congrArg (fun z=>some (AB.row 47 1 z)) (show l.map F9 ++ [F9 (had.getD k [])]=(l ++ [had.getD k []]).map F9 by rw [A8];try rfl),tv⟩,rfl,rfl,rfl,rfl,rfl⟩⟩
theorem Po (g:Geo) (t:List Ent) (had:List (List UInt8)) (b:List UInt8) (i:Nat) (hi:i<t.length):ACalls Tryz.prog false 231 [.bp 0 0,bA b,iv (i:Nat)] (zlH g t had) fun r H=>(if ((Cz b:Nat):Int)=(t.getD i ez).sum then r = .tp [bA b, .v (.bool true)] else r = .tp [bA [], .v (.bool false)])/\H=zlH g t had:=by
 have h1:=JA b;have ixA:(0:Int)<=(i:Nat)/\((i:Nat):Int)<(t.length:Nat):=by omega
 by_cases he:((Cz b:Nat):Int)=(t.getD i ez).sum
 ·simp only [if_pos he];refine zT tys_ok Tryz.func231 rfl rfl (Ag rfl) ?_;conv=>whnf
  apply zW (0) tys_ok mixed (.o [0,2,3,4,5,6,7,8,9,10,1,11] .fin) (by kernel_rfl);conv=>whnf
  try (refine tI ?_;conv=>whnf)
  refine zZ h1 ?_;conv=>whnf
  all_goals
   rw [Ab,show (((Cz b:Nat):Int) != (t.getD i ⟨0,0,false⟩).sum)=false from bne_eq_false_iff_eq.2 he];exact⟨_, .tp [bA b, .v (.bool true)],zlH g t had,fun _ _ h=>h,zS (s:= [0]) tA,rfl,rfl⟩
 ·simp only [if_neg he];refine zT tys_ok Tryz.func231 rfl rfl (Ag rfl) ?_;conv=>whnf
  apply zW (0) tys_ok mixed (.o [0,2,3,4,5,6,7,8,9,10,1,11] .fin) (by kernel_rfl);conv=>whnf
  try (refine tI ?_;conv=>whnf)
  refine zZ h1 ?_;conv=>whnf
  all_goals
   rw [Ab,show (((Cz b:Nat):Int) != (t.getD i ⟨0,0,false⟩).sum)=true from bne_iff_ne.2 he];exact⟨_, .tp [bA [], .v (.bool false)],zlH g t had,Cf (m:= [bA [], .v (.bool false)]) ⟨Bo 1 _,ri,tv⟩,zS (s:= [0]) tA,rfl,rfl⟩
theorem L7 (g:Geo) (t:List Ent) (had:List (List UInt8)) (i:Nat) (hg:Bm g=true) (ht:Gi g t=true) (hh:(had.length:Int)=g.d+1) (h8:∀ b∈had,b.length=0\/b.length=8) (hi:(i:Int)<=g.d):ACalls Tryz.prog false 174 [.bp 0 0,iv (i:Nat)] (zlH g t had) fun r H=>r = .tp [bA (BK g t had i), .v (.bool (decide (0<(BK g t had i).length)))]/\H=zlH g t had:=by
 obtain⟨g1,g2,g3,g4,g5⟩:=Ar.1 hg;have htl:=GJ ht;have ixA:(0:Int)<=(i:Nat)/\((i:Nat):Int)<(t.length:Nat):=by omega
 have ixB:(0:Int)<=(i:Nat)/\((i:Nat):Int)<(had.length:Nat):=by omega
 have hlp:(t.getD g.d.toNat ez).lost=false:=by
  have hlt:g.d.toNat<t.length:=by omega
  have:=ht;simp only [Gi,GW,Af hlt,Dr,B8,Ad] at this;rw [Aa,Af hlt];simpa using this.2
 by_cases hlo:(t.getD i ez).lost=true
 ·have hk:BK g t had i=[]:=by unfold BK;rw [if_pos hlo]
  rw [hk];refine zT tys_ok Tryz.func174 rfl rfl (Ag rfl) ?_;refine⟨ixA,?_⟩;conv=>whnf
  rw [Ab,show (t.getD i ⟨0,0,false⟩).lost=true from hlo];exact⟨_, .tp [bA [], .v (.bool false)],zlH g t had,Cf (m:= [bA [], .v (.bool false)]) ⟨Bo 1 _,ri,tv⟩,zS (s:= [0]) tA,rfl,rfl⟩
 have hlo:(t.getD i ez).lost=false:=Bool.eq_false_iff.2 hlo;by_cases h0:0<(had.getD i []).length
 ·have hb:(had.getD i []).length=8:=by
   rcases h8 _ (A5 (d:=([]:List UInt8)) (show i<had.length by omega)) with e | e <;> omega
  have hk:BK g t had i=had.getD i []:=by unfold BK;rw [hlo,if_neg (by decide),if_pos h0]
  have hc:=Cx (had.getD i []) (by omega);rw [hk,decide_eq_true h0];refine zT tys_ok Tryz.func174 rfl rfl (Ag rfl) ?_;refine⟨ixA,?_⟩;conv=>whnf
  rw [Ab,show (t.getD i ⟨0,0,false⟩).lost=false from hlo];refine⟨ixB,?_⟩;conv=>whnf
  rw [show decide ((((had.getD (((i:Nat):Int)).toNat []).length:Nat):Int) > 0)=true from decide_eq_true (by rw [Ab];omega)];refine⟨ixB,?_⟩;conv=>whnf
  refine zZ hc ?_;exact⟨_, .tp [bA (had.getD i []), .v (.bool true)],zlH g t had,fun _ _ h=>h,zS (s:= [0]) tA,rfl,rfl⟩
 have hzo:=QK g t had i hg htl hh hi h8;have hkn:BK g t had i=match Dl t had i (g.d.toNat+1) with
   | none=> []
   | some b=>if ((Cz b:Nat):Int)=(t.getD i ez).sum then b else []:=by
  unfold BK;rw [hlo,if_neg (by decide),if_neg h0];try rfl
 rw [SE,IM] at hkn;have ixC:(0:Int)<=g.d/\g.d<(had.length:Nat):=by omega
 cases hO:IM t had i g.d.toNat with
 | none=>
  rw [hO] at hzo hkn;simp only at hzo;have hk:BK g t had i=[]:=hkn;rw [hk];refine zT tys_ok Tryz.func174 rfl rfl (Ag rfl) ?_;refine⟨ixA,?_⟩;conv=>whnf
  rw [Ab,show (t.getD i ⟨0,0,false⟩).lost=false from hlo];refine⟨ixB,?_⟩;conv=>whnf
  rw [show decide ((((had.getD (((i:Nat):Int)).toNat []).length:Nat):Int) > 0)=false from decide_eq_false (by rw [Ab];omega)];conv=>whnf
  refine ze9 [0] hzo ?_;rintro _ _ ⟨rfl,rfl⟩;conv=>whnf
  repeat' (refine z_ ?_;conv=>whnf)
  by_cases hid:(i:Int)<g.d
  ·rw [show decide (((i:Nat):Int)<g.d)=true from decide_eq_true hid];conv=>whnf
   apply zW (0) tys_ok mixed (.o [0,1,2,3,4,5,6,7,8,9,10,11,12,13] .fin) (by kernel_rfl);conv=>whnf
   try (refine tI ?_;conv=>whnf)
   try (refine tJ ?_;conv=>whnf)
   try (refine tK ?_;conv=>whnf)
   all_goals
    conv=>whnf
    repeat' (refine z_ ?_;conv=>whnf)
    apply zW (0) tys_ok mixed (.o [0,1,2,3,4,5,6,7,8,9,10,11,12,13,14,15,16,17,18,19,20,21,22,23] .fin) (by kernel_rfl);conv=>whnf
    try (refine tI ?_;conv=>whnf)
    all_goals exact⟨_, .tp [bA [], .v (.bool false)],zlH g t had,Cf (m:= [bA [], .v (.bool false)]) ⟨Bo 1 _,ri,tv⟩,zS (s:= [0]) tA,rfl,rfl⟩
  ·rw [show decide (((i:Nat):Int)<g.d)=false from decide_eq_false hid];conv=>whnf
   apply zW (0) tys_ok mixed (.o [0,1,2,3,4,5,6,7,8,9,10,11,12,13,14,15,16,17,18,19,20,21,22,23] .fin) (by kernel_rfl);conv=>whnf
   try (refine tI ?_;conv=>whnf)
   all_goals exact⟨_, .tp [bA [], .v (.bool false)],zlH g t had,Cf (m:= [bA [], .v (.bool false)]) ⟨Bo 1 _,ri,tv⟩,zS (s:= [0]) tA,rfl,rfl⟩
 | some l=>
  rw [hO] at hzo hkn;simp only at hzo hkn;obtain⟨hll,hl8⟩:=Me h8 _ l (by omega) hO;have fin:∀ m:List (List UInt8),(∀ b∈m,b.length=8)->BK g t had i=(if ((Cz (GC m):Nat):Int)=(t.getD i ez).sum then GC m else [])->∀ r H,((if ((Cz (GC m):Nat):Int)=(t.getD i ez).sum then r=AV.tp [bA (GC m), .v (.bool true)] else r = .tp [bA [], .v (.bool false)])/\H=zlH g t had)->r = .tp [bA (BK g t had i), .v (.bool (decide (0<(BK g t had i).length)))]/\H=zlH g t had:=fun m hm e r H hh=>by
   rw [e];by_cases hq:((Cz (GC m):Nat):Int)=(t.getD i ez).sum
   ·rw [if_pos hq] at hh |-
    rw [hh.1,show (GC m).length=8 from xorL_len _ _ rfl hm];exact⟨rfl,hh.2⟩
   ·rw [if_neg hq] at hh |-
    exact⟨hh.1,hh.2⟩
  by_cases hid:(i:Int)<g.d;rotate_left 1
  ·have ei:g.d.toNat=i:=by omega
   rw [if_pos (.inl ei)] at hkn;have hxa:=Ok l (by omega) hl8;have hto:=(Po g t had (GC l) i (by omega)).mono (fin l hl8 hkn);refine zT tys_ok Tryz.func174 rfl rfl (Ag rfl) ?_;refine⟨ixA,?_⟩;conv=>whnf
   rw [Ab,show (t.getD i ⟨0,0,false⟩).lost=false from hlo];refine⟨ixB,?_⟩;conv=>whnf
   rw [show decide ((((had.getD (((i:Nat):Int)).toNat []).length:Nat):Int) > 0)=false from decide_eq_false (by rw [Ab];omega)];conv=>whnf
   refine ze9 [0] hzo ?_;rintro _ _ ⟨rfl,rfl⟩;conv=>whnf
   repeat' (refine z_ ?_;conv=>whnf)
   rw [show decide (((i:Nat):Int)<g.d)=false from decide_eq_false hid];conv=>whnf
   apply zW (0) tys_ok mixed (.o [0,1,2,3,4,5,6,7,8,9,10,11,12,13,14,15,16,17,18,19,20,21,22,23] .fin) (by kernel_rfl);conv=>whnf
   try (refine tI ?_;conv=>whnf)
   all_goals
    rw [show decide (((i:Nat):Int)<g.d)=false from decide_eq_false hid];conv=>whnf
    repeat' (refine z_ ?_;conv=>whnf)
    refine Fn.shut (args':= [.sl 1 l.length fun i=>(l.map F9).getD i [],iv 8]) (hxa.subA ⟨DL rfl rfl,fun _ _ h=>h,tv⟩) ⟨by rw [Ac],rfl,?_⟩;rintro _ rfl;conv=>whnf
    repeat' (refine z_ ?_;conv=>whnf)
    refine ze9 [0] hto ?_;rintro _ _ ⟨rfl,rfl⟩;exact⟨_, .tp [bA (BK g t had i), .v (.bool (decide (0<(BK g t had i).length)))],zlH g t had,fun _ _ h=>h,zS (s:= [0]) tA,rfl,rfl⟩
  ·have ne:¬(g.d.toNat=i\/(t.getD g.d.toNat ez).lost=true):=fun q=>q.elim (by omega) (by rw [hlp];decide)
   rw [if_neg ne] at hkn;by_cases hp0:(had.getD g.d.toNat []).length=0
   ·rw [if_pos hp0] at hkn;have hk:BK g t had i=[]:=hkn;rw [hk];refine zT tys_ok Tryz.func174 rfl rfl (Ag rfl) ?_;refine⟨ixA,?_⟩;conv=>whnf
    rw [Ab,show (t.getD i ⟨0,0,false⟩).lost=false from hlo];refine⟨ixB,?_⟩;conv=>whnf
    rw [show decide ((((had.getD (((i:Nat):Int)).toNat []).length:Nat):Int) > 0)=false from decide_eq_false (by rw [Ab];omega)];conv=>whnf
    refine ze9 [0] hzo ?_;rintro _ _ ⟨rfl,rfl⟩;conv=>whnf
    repeat' (refine z_ ?_;conv=>whnf)
    rw [show decide (((i:Nat):Int)<g.d)=true from decide_eq_true hid];conv=>whnf
    apply zW (0) tys_ok mixed (.o [0,1,2,3,4,5,6,7,8,9,10,11,12,13] .fin) (by kernel_rfl);conv=>whnf
    try (refine tI ?_;conv=>whnf)
    try (refine tJ ?_;conv=>whnf)
    try (refine tK ?_;conv=>whnf)
    all_goals
     conv=>whnf
     repeat' (refine z_ ?_;conv=>whnf)
     apply zW (0) tys_ok mixed (.o [0,1,2,3,4,5,6,7,8,9,10,11,12,13,14,15,16,17,18,19,20,21,22,23] .fin) (by kernel_rfl);conv=>whnf
     try (refine tI ?_;conv=>whnf)
     all_goals
      rw [show decide (((i:Nat):Int)<g.d)=true from decide_eq_true hid];refine⟨ixC,?_⟩;conv=>whnf
      rw [show (((had.getD g.d.toNat []).length:Int) == 0)=true by rw [hp0];try rfl];conv=>whnf
      repeat' (refine z_ ?_;conv=>whnf)
      exact⟨_, .tp [bA [], .v (.bool false)],zlH g t had,Cf (m:= [bA [], .v (.bool false)]) ⟨Bo 1 _,ri,tv⟩,zS (s:= [0]) tA,rfl,rfl⟩
   ·rw [if_neg hp0] at hkn;have hpl:(had.getD g.d.toNat []).length=8:=by
     rcases h8 _ (A5 (d:=([]:List UInt8)) (show g.d.toNat<had.length by omega)) with e | e
     ·exact absurd e hp0
     ·exact e
    have hm8:∀ b∈l ++ [had.getD g.d.toNat []],b.length=8:=fun b hb=>by
     rcases A2.1 hb with q | q
     ·exact hl8 b q
     ·rw [Ay] at q;rw [q];exact hpl
    have hxa:=Ok (l ++ [had.getD g.d.toNat []]) (by rw [Ai,C9];omega) hm8;have hto:=(Po g t had (GC (l ++ [had.getD g.d.toNat []])) i (by omega)).mono (fin _ hm8 hkn);refine zT tys_ok Tryz.func174 rfl rfl (Ag rfl) ?_;refine⟨ixA,?_⟩;conv=>whnf
    rw [Ab,show (t.getD i ⟨0,0,false⟩).lost=false from hlo];refine⟨ixB,?_⟩;conv=>whnf
    rw [show decide ((((had.getD (((i:Nat):Int)).toNat []).length:Nat):Int) > 0)=false from decide_eq_false (by rw [Ab];omega)];conv=>whnf
    refine ze9 [0] hzo ?_;rintro _ _ ⟨rfl,rfl⟩;conv=>whnf
    repeat' (refine z_ ?_;conv=>whnf)
    rw [show decide (((i:Nat):Int)<g.d)=true from decide_eq_true hid];conv=>whnf
    apply zW (0) tys_ok mixed (.o [0,1,2,3,4,5,6,7,8,9,10,11,12,13] .fin) (by kernel_rfl);conv=>whnf
    try (refine tI ?_;conv=>whnf)
    try (refine tJ ?_;conv=>whnf)
    try (refine tK ?_;conv=>whnf)
    all_goals
     conv=>whnf
     repeat' (refine z_ ?_;conv=>whnf)
     apply zW (0) tys_ok mixed (.o [0,1,2,3,4,5,6,7,8,9,10,11,12,13,14,15,16,17,18,19,20,21,22,23] .fin) (by kernel_rfl);conv=>whnf
     try (refine tI ?_;conv=>whnf)
     all_goals
      rw [show decide (((i:Nat):Int)<g.d)=true from decide_eq_true hid];refine⟨ixC,?_⟩;conv=>whnf
      rw [show (((had.getD g.d.toNat []).length:Int) == 0)=false from beq_eq_false_iff_ne.2 (by omega)];conv=>whnf
      repeat' (refine z_ ?_;conv=>whnf)
      refine Fn.shut (args':= [.sl 1 (l.length+1) fun i=>(l.map F9 ++ [F9 (had.getD g.d.toNat [])]).getD i [],iv 8]) (hxa.subA ⟨DL (by rw [Ai];try rfl) (by rw [A8];try rfl),fun _ _ h=>h,tv⟩) ⟨by rw [Ai,Ac];try rfl,rfl,?_⟩;rintro _ rfl;conv=>whnf
      repeat' (refine z_ ?_;conv=>whnf)
      refine ze9 [0] hto ?_;rintro _ _ ⟨rfl,rfl⟩;exact⟨_, .tp [bA (BK g t had i), .v (.bool (decide (0<(BK g t had i).length)))],zlH g t had,fun _ _ h=>h,zS (s:= [0]) tA,rfl,rfl⟩
theorem L8 (g:Geo) (t:List Ent) (had:List (List UInt8)) (hg:Bm g=true) (ht:Gi g t=true) (hh:(had.length:Int)=g.d+1) (h8:∀ b∈had,b.length=0\/b.length=8):ACalls Tryz.prog false 173 [.ag (AU g), .ag [Bp t],ER had] [] fun r H=>r = .tp [.bp 0 0,iv 0]/\H=zlH g t had:=by
 obtain⟨g1,g2,g3,g4,g5⟩:=Ar.1 hg;have htl:=GJ ht;have hc:=No g t (by omega);rw [ht] at hc;have hz:=Zx had (by omega);have e:(had.any fun b=>((((b.length:Nat):Int) != 0)&&(((b.length:Nat):Int) != 8)))=false:=by
  rw [List.any_eq_false];intro b hb;rcases h8 b hb with e | e <;> rw [e] <;> decide
 rw [e] at hz;refine zT tys_ok Tryz.func173 rfl rfl (Ag rfl) ?_;conv=>whnf
 refine zZ hc ?_;conv=>whnf
 rw [show (((had.length:Nat):Int) != IntKind.i64.wrap (g.d+1))=false from bne_eq_false_iff_eq.2 (by rw [wi (by omega)];exact hh)];conv=>whnf
 refine zZ hz ?_;exact⟨_, .tp [.bp 0 0,iv 0],zlH g t had,fun _ _ h=>h,zS (s:= [2]) tA,rfl,rfl⟩
theorem QL (g:Geo) (t:List Ent) (had:List (List UInt8)) (i:Nat) (hg:Bm g=true) (ht:Gi g t=true) (hh:(had.length:Int)=g.d+1) (h8:∀ b∈had,b.length=0\/b.length=8) (hi:(i:Int)<g.d):Fn Tryz.prog 106 [.ag (AU g), .ag [Bp t],ER had,iv (i:Nat)] fun r=>r=if 0<(BK g t had i).length then .tp [bA (BK g t had i),iv 0] else .tp [bA [],iv 13]:=by
 obtain⟨g1,g2,g3,g4,g5⟩:=Ar.1 hg;have hb:=L8 g t had hg ht hh h8;have hk:=L7 g t had i hg ht hh h8 (by omega);have t1:decide (((i:Nat):Int) < -1)=false:=decide_eq_false (by omega);have t2:decide (((i:Nat):Int)>=g.d)=false:=decide_eq_false (by omega);have t3:(((i:Nat):Int) == -1)=false:=beq_eq_false_iff_ne.2 (by omega);by_cases hq:0<(BK g t had i).length
 ·rw [decide_eq_true hq] at hk;rw [if_pos hq];refine zR Tryz.func106 rfl ?_;conv=>whnf
  refine zV hb rfl ?_;rintro _ _ ⟨rfl,rfl⟩;conv=>whnf
  repeat' (refine z_ ?_;conv=>whnf)
  rw [t1];conv=>whnf
  rw [t2];conv=>whnf
  repeat' (refine z_ ?_;conv=>whnf)
  rw [t3];conv=>whnf
  repeat' (refine z_ ?_;conv=>whnf)
  refine ze9 [2] hk ?_;rintro _ _ ⟨rfl,rfl⟩;conv=>whnf
  repeat' (refine z_ ?_;conv=>whnf)
  exact⟨_,ri,rfl⟩
 ·rw [decide_eq_false hq] at hk;rw [if_neg hq];refine zR Tryz.func106 rfl ?_;conv=>whnf
  refine zV hb rfl ?_;rintro _ _ ⟨rfl,rfl⟩;conv=>whnf
  repeat' (refine z_ ?_;conv=>whnf)
  rw [t1];conv=>whnf
  rw [t2];conv=>whnf
  repeat' (refine z_ ?_;conv=>whnf)
  rw [t3];conv=>whnf
  repeat' (refine z_ ?_;conv=>whnf)
  refine ze9 [2] hk ?_;rintro _ _ ⟨rfl,rfl⟩;conv=>whnf
  repeat' (refine z_ ?_;conv=>whnf)
  exact⟨.tp [bA [],iv 13],Cf (m:= [bA [],iv 13]) ⟨Bo 1 _,ri,tv⟩,rfl⟩
def Ka (g:Geo) (t:List Ent) (had:List (List UInt8)) (k:Nat):List (List UInt8):=(List.range k).map (BK g t had)
def J_ (g:Geo) (t:List Ent) (had:List (List UInt8)) (k:Nat):List Bool:=(List.range k).map fun i=>decide (0<(BK g t had i).length)
theorem Vn (g:Geo) (t:List Ent) (had:List (List UInt8)) (hg:Bm g=true) (ht:Gi g t=true) (hh:(had.length:Int)=g.d+1) (h8:∀ b∈had,b.length=0\/b.length=8):Fn Tryz.prog 232 [.ag (AU g), .ag [Bp t],ER had] fun r=>r = .tp [ER (Ka g t had had.length),bh (J_ g t had had.length),iv 0]:=by
 obtain⟨g1,g2,g3,g4,g5⟩:=Ar.1 hg;have htl:=GJ ht;have hb:=L8 g t had hg ht hh h8;have hd1:IntKind.i64.wrap (g.d+1)=g.d+1:=wi (by omega);have l1:∀ k,(Ka g t had k).length=k:=fun k=>by simp [Ka]
 have l2:∀ k,(J_ g t had k).length=k:=fun k=>by simp [J_]
 refine zR Tryz.func232 rfl ?_;conv=>whnf
 refine zV hb rfl ?_;rintro _ _ ⟨rfl,rfl⟩;conv=>whnf
 rw [hd1];refine zU Nat (fun k=>([(6, .ow 3 k),(7, .ow 4 k),(9, .bp 2 0),(25,iv (g.d+1)),(26,iv (k:Nat))], [.box 23 (AU g), .box 70 [Bp t], .box 298 [iv g.d,Bp t,ER had], .row 47 1 ((Ka g t had k).map F9), .row 4 1 ((J_ g t had k).map az)])) (fun k=>k<=had.length) (fun k=>had.length - k) 0 (Aj _)
  ⟨_,_,zF _ _, [(6,47,1),(7,4,1)],tA, [0,1,2,3,4],tA,tA,rfl,rfl,rfl,rfl,rfl⟩ ?_
 intro k hk;by_cases hkn:k<had.length
 ·have hkk:=L7 g t had k hg ht hh h8 (by omega);have e1:(Ka g t had k).map F9 ++ [F9 (BK g t had k)]=(Ka g t had (k+1)).map F9:=by simp [Ka,Bj]
  have e2:(J_ g t had k).map az ++ [az (decide (0<(BK g t had k).length))]=(J_ g t had (k+1)).map az:=by simp [J_,Bj]
  conv=>whnf
  rw [show decide ((k:Int)<g.d+1)=true from decide_eq_true (by omega)];conv=>whnf
  repeat' (refine z_ ?_;conv=>whnf)
  refine ze9 [2] hkk ?_;rintro _ _ ⟨rfl,rfl⟩;conv=>whnf
  repeat' (refine z_ ?_;conv=>whnf)
  refine⟨rfl,?_⟩;refine⟨⟨by rw [Ac,l1],by omega⟩,?_⟩;refine⟨rfl,?_⟩;refine⟨⟨by rw [Ac,l2],by omega⟩,?_⟩;exact⟨k+1,by omega,by omega,zS (s:= [0,1,2,3,4]) ⟨⟨rfl,rfl,rfl,rfl,AI (by omega),tv⟩,⟨rfl,rfl,rfl,congrArg (fun es=>some (AB.row 47 1 es)) e1,congrArg (fun es=>some (AB.row 4 1 es)) e2,tv⟩,rfl,rfl,rfl,rfl,rfl⟩⟩
 ·have ek:k=had.length:=by omega
  subst ek;conv=>whnf
  rw [show decide (((had.length:Nat):Int)<g.d+1)=false from decide_eq_false (by omega)];conv=>whnf
  repeat' (refine z_ ?_;conv=>whnf)
  refine⟨(by rw [Ac,l1]),?_⟩;refine⟨(by rw [Ac,l2]),?_⟩;exact⟨.tp [ER (Ka g t had had.length),bh (J_ g t had had.length),iv 0],Cf (m:= [ER (Ka g t had had.length),bh (J_ g t had had.length),iv 0]) ⟨DL (l1 _).symm rfl,ay (l2 _).symm rfl,ri,tv⟩,rfl⟩
theorem Ov {g:Geo} {s:Stt} {G:Gr} {z:Int} {t:List Ent} (h:G0 g s G z=some t):Gi g t=true:=by
 have hr:∀ {b:List UInt8} {t:List Ent},BW g b=some t->Gi g t=true:=fun {b t} h=>by
  unfold BW at h;split at h
  ·rename_i hh;obtain rfl:=Option.some.inj h;exact hh.1
  ·cases h
 have ho:∀ {x:Gt} {a r:Int} {t:List Ent},BH g x a r=some t->Gi g t=true:=fun {x a r t} h=>by
  unfold BH at h;split at h
  ·split at h
   ·exact hr h
   ·cases h
  ·cases h
 unfold G0 at h;split at h
 ·exact hr h
 ·split at h
  ·rename_i hh;obtain rfl:=Option.some.inj h;exact ho hh
  ·exact ho h
theorem W5 {g:Geo} {s:Stt} {G:Gr} {t:List Ent} {z w:Int} (hi:∀ t∈s.txns,∀ x∈t.images,B3 g x=true) (hw:w≠255):(Fi g s G t z w).length=0\/(Fi g s G t z w).length=8:=by
 unfold Fi;split
 ·rename_i p hp;obtain⟨x,q⟩:=p;obtain⟨t',ht, -,hx, -,e⟩:=Ho (Ah _) hp;exact .inr ((D0 (hi t' ht x hx)).2 (by rw [e];exact hw)).2.2
 ·unfold CY;split
  ·split
   ·rename_i h;exact .inr h.2.1
   ·exact .inl rfl
  ·exact .inl rfl
theorem Mw {g:Geo} (hg:Bm g=true) {s:Stt} {G:Gr} {t:List Ent} {z:Int} (hi:∀ t∈s.txns,∀ x∈t.images,B3 g x=true):((EI g s G t z).length:Int)=g.d+1/\∀ b∈EI g s G t z,b.length=0\/b.length=8:=by
 have g5:=Ar.1 hg;refine⟨by unfold EI;rw [Ac,BQ];omega,fun b hb=>?_⟩;obtain⟨i,hi2,rfl⟩:=AQ.1 hb;have:=AR.1 hi2;exact W5 hi (by unfold QJ;split <;> omega)
def MR (g:Geo) (s:Stt) (G:Gr) (z A:Int):Option (List UInt8):=match G0 g s G z with
 | none=>none
 | some t=>if (t.getD A.toNat ez).lost=true then none else if 0<(Fi g s G t z A).length then some (Fi g s G t z A) else if 0<(BK g t (EI g s G t z) A.toNat).length then some (BK g t (EI g s G t z) A.toNat) else none
def Sb (o:Option (List UInt8)):AV:=match o with
 | some b=> .tp [bA b,iv 0]
 | none=> .tp [bA [],iv 13]
theorem Pg (g:Geo) (s:Stt) (d:Dk) (G:Gr) (lba:Int) (hg:Bm g=true) (hl:LogB s.txns) (himg:∀ t∈s.txns,∀ x∈t.images,B3 g x=true) (ha:Bn g s.a=true) (h:Gs (Aq g) d G) (hF:∀ a,(G a).bytes.length<=100000) (h8:∀ a,(G a).err≠8) (hb:0<=lba/\lba<g.z*g.d) (hB:∀ p,Cr s.txns (lba.tdiv g.d) 255=some p->p.1.bytes.length<=100000/\(BW g p.1.bytes).isSome=true) :
  ACalls Tryz.prog false 43 [.bp 0 0,iv lba] (Gk g s d) fun r H=>r=Sb (MR g s G (lba.tdiv g.d) (lba.tmod g.d))/\∃ d',Gs (Aq g) d' G/\H=Gk g s d':=by
 have g5:=Ar.1 hg;have h1:=NQ g lba hg hb;have hz:0<=lba.tdiv g.d/\lba.tdiv g.d<g.z:=by
  rw [AX hb.1];exact⟨CT hb.1 (by omega),CB (by omega) hb.2⟩
 have hA:0<=lba.tmod g.d/\lba.tmod g.d<g.d:=⟨Bx _ hb.1,Bb _ (by omega)⟩;obtain⟨Z,hZ⟩:∃ Z,Z=lba.tdiv g.d:=⟨_,rfl⟩;obtain⟨A,hAe⟩:∃ A,A=lba.tmod g.d:=⟨_,rfl⟩;rw [<-hZ] at h1 hz hB |-
 rw [<-hAe] at h1 hA |-
 have h2:=Qy g s d G Z hg hl ha h hF h8 hz hB;have h3:=I9 s.txns Z A hl.n hl.i;obtain⟨O,hO⟩:∃ O,O=MR g s G Z A:=⟨_,rfl⟩;rw [<-hO];unfold MR at hO;cases hT:G0 g s G Z with
 | none=>
  rw [hT] at h2 hO;simp only at h2 hO;subst hO;refine zT tys_ok Tryz.func43 rfl rfl (Ag rfl) ?_;conv=>whnf
  refine zZ h1 ?_;conv=>whnf
  refine ze9 [0,1,2,3,4] h2 ?_;rintro _ _ ⟨rfl,d2,hd2,rfl⟩;conv=>whnf
  repeat' (refine z_ ?_;conv=>whnf)
  exact⟨_,Sb none,Gk g s d2,Cf (m:= [bA [],iv 13]) ⟨Bo 1 _,ri,tv⟩,zS (s:= [0,1,2,3,4]) tA,rfl,d2,hd2,rfl⟩
 | some t=>
  rw [hT] at h2 hO;simp only at h2 hO;have htok:=Ov hT;have htl:=GJ htok;have ixA:0<=A/\A<(t.length:Nat):=by omega
  by_cases hlo:(t.getD A.toNat ez).lost=true
  ·rw [if_pos hlo] at hO;subst hO;refine zT tys_ok Tryz.func43 rfl rfl (Ag rfl) ?_;conv=>whnf
   refine zZ h1 ?_;conv=>whnf
   refine ze9 [0,1,2,3,4] h2 ?_;rintro _ _ ⟨rfl,d2,hd2,rfl⟩;conv=>whnf
   repeat' (refine z_ ?_;conv=>whnf)
   refine⟨ixA,?_⟩;conv=>whnf
   rw [show (t.getD A.toNat ⟨0,0,false⟩).lost=true from hlo];exact⟨_,Sb none,Gk g s d2,Cf (m:= [bA [],iv 13]) ⟨Bo 1 _,ri,tv⟩,zS (s:= [0,1,2,3,4]) tA,rfl,d2,hd2,rfl⟩
  rw [if_neg hlo] at hO;have hlo:(t.getD A.toNat ⟨0,0,false⟩).lost=false:=Bool.eq_false_iff.2 hlo;cases hL:Cr s.txns Z A with
  | some p=>
   have e1:Fi g s G t Z A=p.1.bytes:=by unfold Fi;rw [hL]
   have hp8:p.1.bytes.length=8:=by
    obtain⟨x,q⟩:=p;obtain⟨t',ht, -,hx, -,e⟩:=Ho (Ah _) hL;exact((D0 (himg t' ht x hx)).2 (by rw [e];omega)).2.2
   rw [e1,if_pos (by omega)] at hO;subst hO;rw [hL] at h3;simp only at h3;refine zT tys_ok Tryz.func43 rfl rfl (Ag rfl) ?_;conv=>whnf
   refine zZ h1 ?_;conv=>whnf
   refine ze9 [0,1,2,3,4] h2 ?_;rintro _ _ ⟨rfl,d2,hd2,rfl⟩;conv=>whnf
   repeat' (refine z_ ?_;conv=>whnf)
   refine⟨ixA,?_⟩;conv=>whnf
   rw [hlo];conv=>whnf
   refine ze9 [4] h3 ?_;rintro _ _ ⟨rfl,rfl⟩;exact⟨_,Sb (some p.1.bytes),Gk g s d2,fun _ _ h=>h,zS (s:= [0,1,2,3,4]) tA,rfl,d2,hd2,rfl⟩
  | none=>
   have e1:Fi g s G t Z A=(CY (G (B4 g s.a Z A)) (B4 g s.a Z A) (t.getD (Ev g A).toNat ez)).getD []:=by unfold Fi;rw [hL]
   rw [hL] at h3;simp only at h3;refine zT tys_ok Tryz.func43 rfl rfl (Ag rfl) ?_;conv=>whnf
   refine zZ h1 ?_;conv=>whnf
   refine ze9 [0,1,2,3,4] h2 ?_;rintro _ _ ⟨rfl,d2,hd2,rfl⟩;have h4:=K4 g s d2 G Z A t hg ha hd2 hF h8 hz (by omega) htl;rw [<-e1] at h4;conv=>whnf
   repeat' (refine z_ ?_;conv=>whnf)
   refine⟨ixA,?_⟩;conv=>whnf
   rw [hlo];conv=>whnf
   refine ze9 [4] h3 ?_;rintro _ _ ⟨rfl,rfl⟩;conv=>whnf
   repeat' (refine z_ ?_;conv=>whnf)
   refine ze9 [0,1,2,3,4] h4 ?_;rintro _ _ ⟨rfl,d3,hd3,rfl⟩;conv=>whnf
   repeat' (refine z_ ?_;conv=>whnf)
   by_cases hq:0<(Fi g s G t Z A).length
   ·rw [if_pos hq] at hO;subst hO;rw [show decide ((((Fi g s G t Z A).length:Nat):Int) > 0)=true from decide_eq_true (by omega)];exact⟨_,Sb (some (Fi g s G t Z A)),Gk g s d3,fun _ _ h=>h,zS (s:= [0,1,2,3,4]) tA,rfl,d3,hd3,rfl⟩
   ·rw [if_neg hq] at hO;have h5:=La g s d3 G Z hg hl ha hd3 hF h8 hz hB t hT;obtain⟨k1,k2⟩:=Mw hg (s:=s) (G:=G) (t:=t) (z:=Z) himg;have h6:=QL g t (EI g s G t Z) A.toNat hg htok k1 k2 (by omega);rw [show ((A.toNat:Nat):Int)=A by omega] at h6;rw [show decide ((((Fi g s G t Z A).length:Nat):Int) > 0)=false from decide_eq_false (by omega)];conv=>whnf
    refine ze9 [0,1,2,3,4] h5 ?_;rintro _ _ ⟨rfl,d4,hd4,rfl⟩;conv=>whnf
    repeat' (refine z_ ?_;conv=>whnf)
    by_cases hk:0<(BK g t (EI g s G t Z) A.toNat).length
    ·rw [if_pos hk] at hO h6;subst hO;apply zW (0) tys_ok mixed (.o [0,1,2,3,4,5,6,7,8,9,10,11] .fin) (by kernel_rfl);conv=>whnf
     refine zZ h6 ?_;conv=>whnf
     all_goals exact⟨_,Sb (some (BK g t (EI g s G t Z) A.toNat)),Gk g s d4,fun _ _ h=>h,zS (s:= [0,1,2,3,4]) tA,rfl,d4,hd4,rfl⟩
    ·rw [if_neg hk] at hO h6;subst hO;apply zW (0) tys_ok mixed (.o [0,1,2,3,4,5,6,7,8,9,10,11] .fin) (by kernel_rfl);conv=>whnf
     refine zZ h6 ?_;conv=>whnf
     all_goals exact⟨_,Sb none,Gk g s d4,fun _ _ h=>h,zS (s:= [0,1,2,3,4]) tA,rfl,d4,hd4,rfl⟩
structure AtsOk (g:Geo) (l:List Int):Prop where
 pos:0<l.length
 len:l.length<=1000
 at_:∀ i:Nat,i<l.length->0<=l.getD i 0/\l.getD i 0<g.d
 up:∀ i:Nat,i+1<l.length->l.getD i 0<l.getD (i+1) 0
theorem AtsOk.lt {g:Geo} {l:List Int} (h:AtsOk g l):∀ {j k:Nat},j<k->k<l.length->l.getD j 0<l.getD k 0:=fun {j k} hjk hk=>by
 induction k with
 | zero=>omega
 | succ k ih=>
  by_cases e:j=k
  ·rw [e];exact h.up k hk
  ·exact Int.lt_trans (ih (by omega) (by omega)) (h.up k hk)
theorem AtsOk.inj {g:Geo} {l:List Int} (h:AtsOk g l) {j k:Nat} (hj:j<l.length) (hk:k<l.length) (e:l.getD j 0=l.getD k 0):j=k:=by
 rcases Nat.lt_trichotomy j k with q | q | q
 ·have:=h.lt q hk;omega
 ·exact q
 ·have:=h.lt q hj;omega
theorem KD (g:Geo) (l:List Int) (h:AtsOk g l):Fn Tryz.prog 233 [.ag (AU g),iA l] fun r=>r = .v (.bool true):=by
 have hp:=h.pos;have hln:=h.len;refine zR Tryz.func233 rfl ?_;conv=>whnf
 refine zU Nat (fun k=>([(1,iA l),(2, .bp 0 0),(7,iA l),(8,iv (l.length:Nat)),(9,iv (k:Nat))], [.box 23 (AU g)])) (fun k=>k<=l.length) (fun k=>l.length - k) 0 (Aj _)
  (zS (s:= [0]) tA) ?_
 intro k hk;conv=>whnf
 refine A7 (fun h6=>?_) (fun h6=>?_) <;> (repeat rw [Ab] at h6) <;> conv=>whnf
 ·have hk':k<l.length:=by omega
  obtain⟨q1,q2⟩:=h.at_ k hk';repeat' (refine z_ ?_;conv=>whnf)
  refine⟨⟨by omega,by omega⟩,?_⟩;conv=>whnf
  repeat' (refine z_ ?_;conv=>whnf)
  rw [Ab,show decide (l.getD k 0<0)=false from decide_eq_false (by omega)];conv=>whnf
  rw [show decide (l.getD k 0>=g.d)=false from decide_eq_false (by omega)];conv=>whnf
  by_cases hk0:k=0
  ·rw [show decide (((k:Nat):Int) > 0)=false from decide_eq_false (by omega)];conv=>whnf
   repeat' (refine z_ ?_;conv=>whnf)
   exact⟨k+1,hk',by omega,zS (s:= [0]) ⟨⟨rfl,rfl,rfl,rfl,AI (by omega),tv⟩,tA,rfl,rfl,rfl,rfl,rfl⟩⟩
  ·have hu:=h.up (k - 1) (by omega);have ew:IntKind.i64.wrap (((k:Nat):Int) - 1)=((k - 1:Nat):Int):=by rw [wi (by omega)];omega
   rw [show decide (((k:Nat):Int) > 0)=true from decide_eq_true (by omega)];conv=>whnf
   rw [ew];refine⟨⟨by omega,by omega⟩,?_⟩;conv=>whnf
   rw [Ab,show decide (l.getD k 0<=l.getD (k - 1) 0)=false from decide_eq_false (by rw [Nat.sub_add_cancel (by omega)] at hu;omega)];conv=>whnf
   repeat' (refine z_ ?_;conv=>whnf)
   exact⟨k+1,hk',by omega,zS (s:= [0]) ⟨⟨rfl,rfl,rfl,rfl,AI (by omega),tv⟩,tA,rfl,rfl,rfl,rfl,rfl⟩⟩
 ·repeat' (refine z_ ?_;conv=>whnf)
  exact⟨_,ri,by rw [show decide (((l.length:Nat):Int) > 0)=true from decide_eq_true (by omega)]⟩
theorem Yi (l:List Int) (p:Int) (hl:l.length<=1000000):Fn Tryz.prog 186 [iA l,iv p] fun r=>∃ n:Int,r = iv n/\((n = -1/\∀ j:Nat,j<l.length->l.getD j 0≠p)\/∃ k:Nat,k<l.length/\n=(k:Nat)/\l.getD k 0=p):=by
 refine zR Tryz.func186 rfl ?_;conv=>whnf
 refine zU Nat (fun k=>([(0,iA l),(1,iv p),(7,iv (l.length:Nat)),(8,iv (k:Nat))], [])) (fun k=>k<=l.length/\∀ j:Nat,j<k->l.getD j 0≠p) (fun k=>l.length - k) 0 ⟨Aj _,fun j hj=>absurd hj (Ap j)⟩
  (zS (s:= []) tA) ?_
 rintro k ⟨hk,hI⟩;conv=>whnf
 refine A7 (fun h6=>?_) (fun h6=>?_) <;> (repeat rw [Ab] at h6) <;> conv=>whnf
 ·have hk':k<l.length:=by omega
  repeat' (refine z_ ?_;conv=>whnf)
  refine⟨⟨by omega,by omega⟩,?_⟩;conv=>whnf
  rw [Ab];by_cases e:l.getD k 0=p
  ·rw [show (p == l.getD k 0)=true from beq_iff_eq.2 e.symm];exact⟨_,ri,_,rfl, .inr ⟨k,hk',rfl,e⟩⟩
  ·rw [show (p == l.getD k 0)=false from beq_eq_false_iff_ne.2 (Ne.symm e)];conv=>whnf
   repeat' (refine z_ ?_;conv=>whnf)
   exact⟨k+1,⟨hk',fun j hj=>by by_cases q:j=k;exact q ▸ e;exact hI j (by omega)⟩,by omega,zS (s:= []) ⟨⟨rfl,rfl,rfl,AI (by omega),tv⟩,tv,rfl,rfl,rfl,rfl,rfl⟩⟩
 ·have ek:k=l.length:=by omega
  subst ek;exact⟨_,ri,_,rfl, .inl ⟨rfl,hI⟩⟩
theorem PO {ats:List Int} {bs:List (List UInt8)} {i:Nat}:∀ m,(∀ j:Nat,j<m->ats.getD j 0≠(i:Int))->Ex ats bs i m=none
 | 0,_=>rfl
 | m+1,h=>by rw [Ex,if_neg (h m (by omega)),PO m fun j hj=>h j (by omega)]
theorem PP {g:Geo} {ats:List Int} (h:AtsOk g ats) {bs:List (List UInt8)} {i k:Nat} (hk:k<ats.length) (e:ats.getD k 0=(i:Int)):∀ m,k<m->m<=ats.length->Ex ats bs i m=some (bs.getD k [])
 | 0,q,_=>absurd q (Ap k)
 | m+1,q,hm=>by
  rw [Ex];by_cases hq:k=m
  ·rw [<-hq,if_pos e]
  ·rw [if_neg fun q2=>hq (h.inj hk (by omega) (e.trans q2.symm)),PP h hk e m (by omega) (by omega)]
def Ew (g:Geo) (t:List Ent) (had:List (List UInt8)) (ats:List Int) (bs:List (List UInt8)) (k:Nat):List (List UInt8):=((List.range k).map (F_ g t had ats bs)).filter fun b=>decide (b.length≠0)
section
variable {g:Geo} {t:List Ent} {had:List (List UInt8)} {ats:List Int} {bs:List (List UInt8)}
theorem LM (k:Nat):Ew g t had ats bs (k+1)=Ew g t had ats bs k ++ if (F_ g t had ats bs k).length=0 then [] else [F_ g t had ats bs k]:=by
 unfold Ew;rw [Bj,A8,List.filter_append,List.map_singleton];congr 1;by_cases h:(F_ g t had ats bs k).length=0
 ·rw [if_pos h,List.filter_cons,if_neg (by simp [Bg h])];try rfl
 ·rw [if_neg h,List.filter_cons,if_pos (decide_eq_true h)];try rfl
theorem stayG_xor:∀ k,GC (Ew g t had ats bs k)=DM g t had ats bs k
 | 0=>rfl
 | k+1=>by
  have ih:=stayG_xor k;rw [LM,DM];unfold GC at ih |-
  rw [BJ,ih];split <;> rfl
theorem Yd (h8:∀ b∈had,b.length=0\/b.length=8) (hb:∀ b∈bs,b.length=8) (hl:ats.length<=bs.length) (k:Nat):(Ew g t had ats bs k).length<=k/\∀ b∈Ew g t had ats bs k,b.length=8:=by
 refine⟨by unfold Ew;exact Br (List.length_filter_le _ _) (by simp),fun b hq=>?_⟩;unfold Ew at hq;obtain⟨h1,h2⟩:=List.mem_filter.1 hq;obtain⟨i, -,rfl⟩:=AQ.1 h1;rcases Ml (g:=g) (t:=t) (had:=had) (ats:=ats) (bs:=bs) h8 hb hl i with e | e
 ·exact absurd e (of_decide_eq_true h2)
 ·exact e
end
theorem QV (g:Geo) (t:List Ent) (had:List (List UInt8)) (ats:List Int) (bs:List (List UInt8)) (stamp:Int) (hg:Bm g=true) (ht:Gi g t=true) (hh:(had.length:Int)=g.d+1) (h8:∀ b∈had,b.length=0\/b.length=8) (hA:AtsOk g ats) (hn:ats.length=bs.length) (hb:∀ b∈bs,b.length=8) (hs:0<=stamp/\stamp<=4294967295) :
  Fn Tryz.prog 177 [.ag (AU g), .ag [Bp t],ER had,iA ats,ER bs,iv stamp] fun r=>r = .tp [.ag [Bp (By g t had ats bs stamp)],bA (DM g t had ats bs g.d.toNat),iv 0]:=by
 obtain⟨g1,g2,g3,g4,g5⟩:=Ar.1 hg;have htl:=GJ ht;have hal:=hA.len;have hz:=Vn g t had hg ht hh h8;have hr:=KD g ats hA;have hw:=Kh bs (by omega) hb;have htw:=Ts t (by omega);have l1:(Ka g t had had.length).length=had.length:=by simp [Ka]
 have l2:(J_ g t had had.length).length=had.length:=by simp [J_]
 refine zR Tryz.func177 rfl ?_;conv=>whnf
 refine zZ hz ?_;conv=>whnf
 refine zZ hr ?_;conv=>whnf
 rw [show decide (stamp<0)=false from decide_eq_false (by omega)];conv=>whnf
 rw [show decide (stamp > 4294967295)=false from decide_eq_false (by omega)];conv=>whnf
 rw [show (((bs.length:Nat):Int) != ((ats.length:Nat):Int))=false from bne_eq_false_iff_eq.2 (by rw [hn])];conv=>whnf
 refine zZ hw ?_;conv=>whnf
 refine zV htw rfl ?_;rintro _ _ ⟨rfl,rfl⟩;conv=>whnf
 refine zU Nat (fun i=>([(3,iA ats),(4,ER bs),(5,iv stamp),(6, .bp 0 0),(12, .bp 2 0),(15,ER (Ka g t had had.length)),(16,bh (J_ g t had had.length)),(17, .ow 4 (Ew g t had ats bs i).length),(62,iv g.d),(63,iv (i:Nat))], [.box 23 (AU g), .box 70 [Bp t], .box 70 [.ow 3 t.length], .row 97 3 ((DY g t had ats bs stamp i).map Cg), .row 47 1 ((Ew g t had ats bs i).map F9)])) (fun i=>i<=g.d.toNat) (fun i=>g.d.toNat - i) 0 (Aj _)
  ⟨_,_,zF _ _, [(17,47,1)],tA, [0,1,2,3,4],tA,tA,rfl,rfl,rfl,rfl,rfl⟩ ?_
 intro i hi;obtain⟨hsl,hs8⟩:=Yd (g:=g) (t:=t) (had:=had) (ats:=ats) (bs:=bs) h8 hb (by omega) i;by_cases hin:i<g.d.toNat
 ·have hit:i<t.length:=by omega
  have hih:i<had.length:=by omega
  have hix:=Yi ats (i:Nat) (by omega);have hlo2:=JI g t had ats bs stamp (Nat.le_of_lt hit);have hst:=LM (g:=g) (t:=t) (had:=had) (ats:=ats) (bs:=bs) i;conv=>whnf
  rw [show decide ((i:Int)<g.d)=true from decide_eq_true (by omega)];conv=>whnf
  repeat' (refine z_ ?_;conv=>whnf)
  refine zI hix rfl ?_;rintro _ ⟨n,rfl,⟨rfl,hno⟩ | ⟨k,hk,rfl,hk2⟩⟩
  ·have hp:=PO (bs:=bs) ats.length hno;have hN:F_ g t had ats bs i=BK g t had i:=by unfold F_;rw [hp]
   have hE:IN g t had ats bs stamp i=if (BK g t had i).length=0 then { t.getD i ez with lost:=true } else t.getD i ez:=by unfold IN;rw [hN,hp]
   rw [hN] at hst;conv=>whnf
   repeat' (refine z_ ?_;conv=>whnf)
   refine Ae ⟨by omega,by rw [l2];omega⟩ ?_;conv=>whnf
   rw [show (J_ g t had had.length).getD ((i:Nat):Int).toNat false=decide (0<(BK g t had i).length) by rw [Ab,J_,Aa,AS,Bl (by omega)];try rfl];by_cases hq:0<(BK g t had i).length
   ·rw [decide_eq_true hq];rw [if_neg (by omega)] at hE hst;conv=>whnf
    repeat' (refine z_ ?_;conv=>whnf)
    refine Ae ⟨by omega,by rw [l1];omega⟩ ?_;conv=>whnf
    rw [show (Ka g t had had.length).getD ((i:Nat):Int).toNat []=BK g t had i by rw [Ab,Ka,Aa,AS,Bl (by omega)];try rfl];refine⟨rfl,?_⟩;refine⟨⟨by rw [Ac],by omega⟩,?_⟩;conv=>whnf
    exact⟨i+1,by omega,by omega,zS (s:= [0,1,2,3,4]) ⟨⟨rfl,rfl,rfl,rfl,rfl,rfl,rfl,congrArg (AV.ow 4) (show (Ew g t had ats bs i).length+1=(Ew g t had ats bs (i+1)).length by rw [hst,Ai];try rfl),rfl,AI (by omega),tv⟩,⟨rfl,rfl,rfl,congrArg (fun z=>some (AB.row 97 3 z)) (show (DY g t had ats bs stamp i).map Cg=(DY g t had ats bs stamp (i+1)).map Cg by rw [<-He g t had ats bs stamp hit,hE,Wy g t had ats bs stamp hit]),congrArg (fun z=>some (AB.row 47 1 z)) (show (Ew g t had ats bs i).map F9 ++ [F9 (BK g t had i)]=(Ew g t had ats bs (i+1)).map F9 by rw [hst,A8];try rfl),tv⟩,rfl,rfl,rfl,rfl,rfl⟩⟩
   ·rw [decide_eq_false hq];rw [if_pos (by omega)] at hE hst;conv=>whnf
    repeat' (refine z_ ?_;conv=>whnf)
    refine⟨⟨by omega,by omega⟩,?_⟩;refine⟨⟨rfl,by rw [Ac,hlo2],by omega⟩,?_⟩;rw [Ab,show ((DY g t had ats bs stamp i).map Cg).getD i []=Cg ((DY g t had ats bs stamp i).getD i ez) from Bd (by omega),show (DY g t had ats bs stamp i).getD i ez=t.getD i ez by rw [DY,Aa,A9 (by simp),Ac,BQ,CE,BL,CF,<-Aa]];conv=>whnf
    repeat' (refine z_ ?_;conv=>whnf)
    exact⟨i+1,by omega,by omega,zS (s:= [0,1,2,3,4]) ⟨⟨rfl,rfl,rfl,rfl,rfl,rfl,rfl,congrArg (AV.ow 4) (show (Ew g t had ats bs i).length=(Ew g t had ats bs (i+1)).length by rw [hst,AT]),rfl,AI (by omega),tv⟩,⟨rfl,rfl,rfl,congrArg (fun z=>some (AB.row 97 3 z)) (show ((DY g t had ats bs stamp i).map Cg).set i (Cg { t.getD i ez with lost:=true })=(DY g t had ats bs stamp (i+1)).map Cg by rw [<-BM,<-hE,He g t had ats bs stamp hit]),congrArg (fun z=>some (AB.row 47 1 (List.map F9 z))) (show Ew g t had ats bs i=Ew g t had ats bs (i+1) by rw [hst,AT]),tv⟩,rfl,rfl,rfl,rfl,rfl⟩⟩
  ·have hp:=PP hA (bs:=bs) hk hk2 ats.length hk (Ah _);have hN:F_ g t had ats bs i=bs.getD k []:=by unfold F_;rw [hp]
   have hb8:=hb _ (A5 (d:=([]:List UInt8)) (show k<bs.length by omega));have hE:IN g t had ats bs stamp i=⟨stamp,(Cz (bs.getD k []):Nat),false⟩:=by unfold IN;rw [hN,hp,if_neg (by omega)]
   have em:=Qr stamp (bs.getD k []) hs hb8;have ixA:(0:Int)<=(k:Nat)/\((k:Nat):Int)<(bs.length:Nat):=by omega
   rw [hN,if_neg (by omega)] at hst;conv=>whnf
   repeat' (refine z_ ?_;conv=>whnf)
   rw [show decide (((k:Nat):Int)>=0)=true from decide_eq_true (by omega)];conv=>whnf
   apply zW (0) tys_ok mixed (.o [0,1,2,3,4,5,6,7,8,9,10,11,12,13] .fin) (by kernel_rfl);conv=>whnf
   try (refine tI ?_;conv=>whnf)
   (rw [Ab];refine zZ em ?_)
   conv=>whnf
   try (refine tI ?_;conv=>whnf)
   try (refine tS ?_;conv=>whnf)
   all_goals rw [show ((DY g t had ats bs stamp i).map Cg).getD (((i:Nat):Int)).toNat []=Cg ((DY g t had ats bs stamp i).getD i ez) by rw [Ab];exact Bd (by omega)]
   all_goals
    conv=>whnf
    repeat' (refine z_ ?_;conv=>whnf)
    refine⟨ixA,?_⟩;conv=>whnf
    rw [Ab k];refine⟨rfl,?_⟩;refine⟨⟨by rw [Ac],by omega⟩,?_⟩;conv=>whnf
    exact⟨i+1,by omega,by omega,zS (s:= [0,1,2,3,4]) ⟨⟨rfl,rfl,rfl,rfl,rfl,rfl,rfl,congrArg (AV.ow 4) (show (Ew g t had ats bs i).length+1=(Ew g t had ats bs (i+1)).length by rw [hst,Ai];try rfl),rfl,AI (by omega),tv⟩,⟨rfl,rfl,rfl,congrArg (fun z=>some (AB.row 97 3 z)) (show ((DY g t had ats bs stamp i).map Cg).set (((i:Nat):Int)).toNat (Cg ⟨stamp,(Cz (bs.getD k []):Nat),false⟩)=(DY g t had ats bs stamp (i+1)).map Cg by rw [Ab,<-BM,<-hE,He g t had ats bs stamp hit]),congrArg (fun z=>some (AB.row 47 1 z)) (show (Ew g t had ats bs i).map F9 ++ [F9 (bs.getD k [])]=(Ew g t had ats bs (i+1)).map F9 by rw [hst,A8];try rfl),tv⟩,rfl,rfl,rfl,rfl,rfl⟩⟩
 ·have ei:i=g.d.toNat:=by omega
  subst ei;have hxa:=Ok (Ew g t had ats bs g.d.toNat) (by omega) hs8;rw [stayG_xor] at hxa;have hp8:(DM g t had ats bs g.d.toNat).length=8:=E_ h8 hb (by omega) _;have he:=Qr stamp (DM g t had ats bs g.d.toNat) hs hp8;conv=>whnf
  rw [show decide (((g.d.toNat:Nat):Int)<g.d)=false from decide_eq_false (by omega)];conv=>whnf
  repeat' (refine z_ ?_;conv=>whnf)
  refine Fn.shut (args':= [.sl 1 (Ew g t had ats bs g.d.toNat).length fun i=>((Ew g t had ats bs g.d.toNat).map F9).getD i [],iv 8]) (hxa.subA ⟨DL rfl rfl,fun _ _ h=>h,tv⟩) ⟨by rw [Ac],rfl,?_⟩;rintro _ rfl;conv=>whnf
  apply zW (0) tys_ok mixed (.o [0,1,2,3,4,5,6,7,8,9,10,11] .fin) (by kernel_rfl);conv=>whnf
  refine zZ he ?_;conv=>whnf
  try (refine tI ?_;conv=>whnf)
  try (refine tS ?_;conv=>whnf)
  have hdl:g.d.toNat<t.length:=by omega
  have hlo2:=JI g t had ats bs stamp (Nat.le_of_lt hdl);have eW:(DY g t had ats bs stamp g.d.toNat).set g.d.toNat ⟨stamp,(Cz (DM g t had ats bs g.d.toNat):Nat),false⟩=By g t had ats bs stamp:=by
   rw [JH g t had ats bs stamp hdl,By,AH (by omega)]
  have hgl:((DY g t had ats bs stamp g.d.toNat).map Cg).getD g.d.toNat []=Cg ((DY g t had ats bs stamp g.d.toNat).getD g.d.toNat ez):=Bd (by omega);have eR:((DY g t had ats bs stamp g.d.toNat).map Cg).set g.d.toNat (Cg ⟨stamp,(Cz (DM g t had ats bs g.d.toNat):Nat),false⟩)=(By g t had ats bs stamp).map Cg:=by rw [<-BM,eW]
  have eN:(By g t had ats bs stamp).length=t.length:=by simp [By];omega
  all_goals
   refine⟨⟨rfl,by rw [Ac,hlo2],hdl⟩,?_⟩;rw [hgl];refine⟨(by rw [AO,Ac,hlo2]),?_⟩;exact⟨.tp [.ag [Bp (By g t had ats bs stamp)],bA (DM g t had ats bs g.d.toNat),iv 0],Cf ⟨Bk ⟨Bc (f:=Cg) (By g t had ats bs stamp) eN.symm eR,tv⟩,ri,ri,tv⟩,rfl⟩
theorem P2 (g:Geo) (z:Int) (t:List Ent) (par:List UInt8) (ats:List Int) (bs:List (List UInt8)) (hg:Bm g=true) (hz:0<=z/\z<g.z) (ht:Gi g t=true) (hp:par.length=8) (hA:AtsOk g ats) (hn:ats.length=bs.length) (hb:∀ b∈bs,b.length=8) :
  Fn Tryz.prog 178 [.ag (AU g),iv z, .ag [Bp t],bA par,iA ats,ER bs] fun r=>r = .tp [Ec (Ch z t par ats bs),iv 0]:=by
 obtain⟨g1,g2,g3,g4,g5⟩:=Ar.1 hg;have htl:=GJ ht;have hal:=hA.len;have h1:=Cx par (by omega);have h3:=Np g t (by omega);rw [ht,if_pos rfl] at h3;have hr:=KD g ats hA;have hw:=Kh bs (by omega) hb;have hwp:=Kh [par] (show 1<=1000000 by decide) (fun x hx=>by rw [Ay] at hx;rw [hx];exact hp);obtain⟨I,hI⟩:∃ I:List Img,I=(List.range ats.length).map fun i=>⟨z,ats.getD i 0,bs.getD i []⟩:=⟨_,rfl⟩
 have hIl:I.length=ats.length:=by rw [hI,Ac,BQ]
 refine zR Tryz.func178 rfl ?_;conv=>whnf
 refine zZ h3 ?_;conv=>whnf
 rw [show decide (z<0)=false from decide_eq_false (by omega)];conv=>whnf
 rw [show decide (z>=g.z)=false from decide_eq_false (by omega)];conv=>whnf
 refine zZ hr ?_;conv=>whnf
 rw [show (((bs.length:Nat):Int) != ((ats.length:Nat):Int))=false from bne_eq_false_iff_eq.2 (by rw [hn])];conv=>whnf
 refine zZ hw ?_;conv=>whnf
 refine zp (args':= [.sl 1 1 fun i=>([F9 par]:List (List AV)).getD i []]) (hwp.subA ⟨DL (L:= [par]) rfl rfl,tv⟩) tA ?_;rintro _ rfl;refine⟨rfl,?_⟩;conv=>whnf
 refine zU Nat (fun k=>([(1,iv z),(3,bA par),(5,ER bs),(14,bA (Da t)),(16, .ow 2 k),(61,iA ats),(62,iv (ats.length:Nat)),(63,iv (k:Nat))], [.box 23 (AU g), .box 70 [Bp t], .row 166 3 ((I.take k).map Eh)])) (fun k=>k<=ats.length) (fun k=>ats.length - k) 0 (Aj _)
  ⟨_,_,zF _ _, [(16,166,3)],tA, [0,1,3],tA,tA,rfl,rfl,rfl,rfl,rfl⟩ ?_
 intro k hk;by_cases hk1:k<ats.length
 ·have h2:=Cx (bs.getD k []) (by have:=hb _ (A5 (d:=([]:List UInt8)) (show k<bs.length by omega));omega);have e1:(I.take k).map Eh ++ [Eh ⟨z,ats.getD k 0,bs.getD k []⟩]=(I.take (k+1)).map Eh:=by
   have e:I[k]? = some ⟨z,ats.getD k 0,bs.getD k []⟩:=by rw [hI,AS,Bl hk1];try rfl
   rw [AZ,e,A8];try rfl
  conv=>whnf
  rw [show decide (((k:Nat):Int)<((ats.length:Nat):Int))=true from decide_eq_true (by omega)];conv=>whnf
  repeat' (refine z_ ?_;conv=>whnf)
  refine⟨⟨by omega,by omega⟩,?_⟩;conv=>whnf
  repeat' (refine z_ ?_;conv=>whnf)
  refine⟨⟨by omega,by omega⟩,?_⟩;conv=>whnf
  rw [Ab];refine zZ h2 ?_;refine⟨rfl,?_⟩;conv=>whnf
  refine Ae ⟨by rw [Ac,Au,hIl];omega,by omega⟩ ?_;exact⟨k+1,by omega,by omega,zS (s:= [0,1,2]) ⟨⟨rfl,rfl,rfl,rfl,rfl,rfl,rfl,AI (by omega),tv⟩,⟨rfl,rfl,congrArg (fun es=>some (AB.row 166 3 es)) e1,tv⟩,rfl,rfl,rfl,rfl,rfl⟩⟩
 ·have ek:k=ats.length:=by omega
  subst ek;conv=>whnf
  rw [show decide (((ats.length:Nat):Int)<((ats.length:Nat):Int))=false from decide_eq_false (by omega)];conv=>whnf
  repeat' (refine z_ ?_;conv=>whnf)
  rw [show I.take ats.length=I by rw [<-hIl,Aw]];refine zZ h1 ?_;refine⟨rfl,?_⟩;refine⟨⟨by rw [Ac,hIl],by omega⟩,?_⟩;conv=>whnf
  refine Ae (by rw [Ai,Ac,hIl];try rfl) ?_;conv=>whnf
  exact⟨.tp [Ec (Ch z t par ats bs),iv 0],Cf ⟨Bc (f:=Eh) (Ch z t par ats bs) (EA z t par ats bs).symm (by unfold Ch;rw [<-hI,A8];try rfl),ri,tv⟩,rfl⟩
theorem Xx (g:Geo) (s:Stt) (d:Dk) (x:Rc) (Q:Int) (hg:Bm g=true) (hx:Fz g x=true) (hxl:x.img.bytes.length<=100000) (hQ:0<=Q/\Q<g.sl) (h:DkOk d) (hn:(d.cells.length:Int)=Aq g) (h1:(d.write (Bh g 0 Q) (BG g x 0 Q)).2≠8) (h2:((d.write (Bh g 0 Q) (BG g x 0 Q)).1.write (Bh g 1 Q) (BG g x 1 Q)).2≠8) :
  ACalls Tryz.prog false 111 [.bp 0 0, .ag (Kd x),iv Q] (Gk g s d) fun r H=>r = .tp [.v (.bool (decide ((d.write (Bh g 0 Q) (BG g x 0 Q)).2=0) || decide (((d.write (Bh g 0 Q) (BG g x 0 Q)).1.write (Bh g 1 Q) (BG g x 1 Q)).2=0))),iv 0]/\H=Gk g s ((d.write (Bh g 0 Q) (BG g x 0 Q)).1.write (Bh g 1 Q) (BG g x 1 Q)).1:=by
 have q0:=Im (g:=g) (.inl rfl) hQ (c:=0);have q1:=Im (g:=g) (.inr rfl) hQ (c:=1);have l0:=RC g 0 Q;have l1:=RC g 1 Q;have r0:=PK g x 0 Q hxl;have r1:=PK g x 1 Q hxl;rw [hg,q0] at l0;rw [hg,q1] at l1;rw [hx,q0] at r0;rw [hx,q1] at r1;have b0:=F0 hg hn (.inl rfl) hQ (c:=0);have b1:=F0 hg hn (.inr rfl) hQ (c:=1);have c0:=Q5 g s d (Bh g 0 Q) (BG g x 0 Q) h (by omega) (CD hx 0 Q);have hok:=h.write (a:=Bh g 0 Q) (b:=BG g x 0 Q) (by omega) (CD hx 0 Q);have hlen:(d.write (Bh g 0 Q) (BG g x 0 Q)).1.cells.length=d.cells.length:=Ln d _ _;have c1:=Q5 g s (d.write (Bh g 0 Q) (BG g x 0 Q)).1 (Bh g 1 Q) (BG g x 1 Q) hok (by omega) (CD hx 1 Q);rw [if_neg h1] at c0;rw [if_neg h2] at c1;generalize (d.write (Bh g 0 Q) (BG g x 0 Q)).1.write (Bh g 1 Q) (BG g x 1 Q)=W2 at c1 |-
 generalize d.write (Bh g 0 Q) (BG g x 0 Q)=W1 at c0 c1 |-
 generalize decide (W1.2=0)=p1 at c0 |-
 generalize decide (W2.2=0)=p2 at c1 |-
 simp only [Bool.and_self,if_true,if_pos] at l0 l1 r0 r1;cases p1 with
 | true=>
  refine zT tys_ok Tryz.func111 rfl rfl (Ag rfl) ?_;conv=>whnf
  refine zx 3 ?_;conv=>whnf
  repeat' (refine z_ ?_;conv=>whnf)
  refine zZ l0 ?_;conv=>whnf
  repeat' (refine z_ ?_;conv=>whnf)
  apply zW (0) tys_ok mixed (.o [0,1,2,3,4,5,6,7,8,9,10,11,12] .fin) (by kernel_rfl);conv=>whnf
  refine zZ r0 ?_;conv=>whnf
  repeat' (refine z_ ?_;conv=>whnf)
  refine ze9 [0,1,2,3,4] c0 ?_;rintro _ _ ⟨rfl,rfl⟩;conv=>whnf
  repeat' (refine z_ ?_;conv=>whnf)
  refine zZ l1 ?_;conv=>whnf
  repeat' (refine z_ ?_;conv=>whnf)
  apply zW (0) tys_ok mixed (.o [0,1,2,3,4,5,6,7,8,9,10,11,12] .fin) (by kernel_rfl);conv=>whnf
  refine zZ r1 ?_;conv=>whnf
  repeat' (refine z_ ?_;conv=>whnf)
  refine ze9 [0,1,2,3,4] c1 ?_;rintro _ _ ⟨rfl,rfl⟩;conv=>whnf
  repeat' (refine z_ ?_;conv=>whnf)
  exact⟨_, .tp [.v (.bool true),iv 0],Gk g s W2.1,fun _ _ h=>h,zS (s:= [0,1,2,3,4]) tA,rfl,rfl⟩
 | false=>
  refine zT tys_ok Tryz.func111 rfl rfl (Ag rfl) ?_;conv=>whnf
  refine zx 3 ?_;conv=>whnf
  repeat' (refine z_ ?_;conv=>whnf)
  refine zZ l0 ?_;conv=>whnf
  repeat' (refine z_ ?_;conv=>whnf)
  apply zW (0) tys_ok mixed (.o [0,1,2,3,4,5,6,7,8,9,10,11,12] .fin) (by kernel_rfl);conv=>whnf
  refine zZ r0 ?_;conv=>whnf
  repeat' (refine z_ ?_;conv=>whnf)
  refine ze9 [0,1,2,3,4] c0 ?_;rintro _ _ ⟨rfl,rfl⟩;conv=>whnf
  repeat' (refine z_ ?_;conv=>whnf)
  refine zZ l1 ?_;conv=>whnf
  repeat' (refine z_ ?_;conv=>whnf)
  apply zW (0) tys_ok mixed (.o [0,1,2,3,4,5,6,7,8,9,10,11,12] .fin) (by kernel_rfl);conv=>whnf
  refine zZ r1 ?_;conv=>whnf
  repeat' (refine z_ ?_;conv=>whnf)
  refine ze9 [0,1,2,3,4] c1 ?_;rintro _ _ ⟨rfl,rfl⟩;conv=>whnf
  repeat' (refine z_ ?_;conv=>whnf)
  exact⟨_, .tp [.v (.bool p2),iv 0],Gk g s W2.1,fun _ _ h=>h,zS (s:= [0,1,2,3,4]) tA,rfl,rfl⟩
theorem YV (g:Geo) (s:Stt) (d:Dk) (lba:Int) (b:List UInt8) (hg:Bm g=true) (hl:s.txns.length<=1000) (hlba:0<=lba/\lba<g.z*g.d) (hb:b.length=8) :
  ACalls Tryz.prog false 107 [.bp 0 0,iA [lba],ER [b]] (Gk g s d) fun r H=>r = iv (if s.only then 15 else if 4 > g.sl - C6 s.txns then 21 else 0)/\H=Gk g s d:=by
 obtain⟨g1,g2,g3,g4,g5⟩:=Ar.1 hg;have hun:=ET s.txns s.txns.length;have hn:=TE g lba hg hlba;have hu:=N1 s.txns (by omega);have tsub:SubL [.sl 4 s.txns.length fun i=>(s.txns.map CV).getD i []] [DH s.txns]:=⟨Bc (f:=CV) s.txns rfl rfl,tv⟩;refine zT tys_ok Tryz.func107 rfl rfl (Ag rfl) ?_;conv=>whnf
 refine zx 2 ?_;conv=>whnf
 repeat' (refine z_ ?_;conv=>whnf)
 refine⟨in01,?_⟩;conv=>whnf
 repeat' (refine z_ ?_;conv=>whnf)
 refine zC tys_ok mixed [0,1,2,3,4,5,6,7,8,9,10,11,12,13,14,15,16,17,18] (by kernel_rfl) ?_;conv=>whnf
 rw [show ((([b].getD (Int.toNat 0) []).length:Int) != 8)=false from bne_eq_false_iff_eq.2 (by show ((b.length:Nat):Int)=8;omega)];conv=>whnf
 repeat' (refine z_ ?_;conv=>whnf)
 refine zZ hn ?_;conv=>whnf
 cases ho:s.only with
 | true=>
  exact⟨_,iv 15,Gk g s d,fun _ _ h=>h,zS (s:= [0,1,2,3,4]) tA,rfl,rfl⟩
 | false=>
  conv=>whnf
  apply zO tys_ok mixed (.o [0,1,2,3,4,5,6,7,8,9,10,11,12,13,14] .fin) [72,73,74,75,76,77,78,79,80,81,82,83,84,85,86] (by kernel_rfl)
  ·conv=>whnf
   (refine zp (args':= [.sl 4 s.txns.length fun i=>(s.txns.map CV).getD i []]) (hu.subA tsub) ⟨(Ac _).symm,rfl⟩ ?_;rintro _ rfl;refine⟨rfl,?_⟩)
   exact tA
  conv=>whnf
  rw [wi (show -9223372036854775808<=g.sl - C6 s.txns/\g.sl - C6 s.txns<=9223372036854775807 by unfold C6;omega)];by_cases hfull:(4:Int) > g.sl - C6 s.txns
  ·rw [decide_eq_true hfull,if_pos hfull];exact⟨_,iv 21,Gk g s d,fun _ _ h=>h,zS (s:= [0,1,2,3,4]) tA,rfl,rfl⟩
  ·rw [decide_eq_false hfull,if_neg hfull];exact⟨_,iv 0,Gk g s d,fun _ _ h=>h,zS (s:= [0,1,2,3,4]) tA,rfl,rfl⟩
theorem aA {g:Geo} {A:Int} (h:0<=A/\A<g.d):AtsOk g [A]:=⟨Nat.zero_lt_one,(by show 1<=1000;decide),fun i hi=>by
 obtain rfl:i=0:=Nat.lt_one_iff.1 hi;exact h,fun i hi=>absurd hi (by show ¬i+1<1;omega)⟩
def F3 (g:Geo) (s:Stt) (G:Gr) (seq lba:Int) (b:List UInt8):List Img:=match G0 g s G (lba.tdiv g.d) with
 | some t=>Ch (lba.tdiv g.d) (By g t (EI g s G t (lba.tdiv g.d)) [lba.tmod g.d] [b] seq) (DM g t (EI g s G t (lba.tdiv g.d)) [lba.tmod g.d] [b] g.d.toNat) [lba.tmod g.d] [b]
 | none=> []
theorem Q3 (g:Geo) (s:Stt) (d:Dk) (G:Gr) (lba S:Int) (b:List UInt8) (hg:Bm g=true) (hl:LogB s.txns) (ha:Bn g s.a=true) (h:Gs (Aq g) d G) (himg:∀ t∈s.txns,∀ x∈t.images,B3 g x=true) (hF:∀ a,(G a).bytes.length<=100000) (h8:∀ a,(G a).err≠8) (hlba:0<=lba/\lba<g.z*g.d) (hb:b.length=8) (hS:0<=S/\S<=4294967295) (hB:∀ p,Cr s.txns (lba.tdiv g.d) 255=some p->p.1.bytes.length<=100000/\(BW g p.1.bytes).isSome=true) (t:List Ent) (ht:G0 g s G (lba.tdiv g.d)=some t) :
  ACalls Tryz.prog false 109 [.bp 0 0,iA [lba],ER [b],iv S] (Gk g s d) fun r H=>r = .tp [Ec (F3 g s G S lba b),iv 0]/\∃ d',Gs (Aq g) d' G/\H=Gk g s d':=by
 obtain⟨g1,g2,g3,g4,g5⟩:=Ar.1 hg;obtain⟨Z,hZ⟩:∃ Z,Z=lba.tdiv g.d:=⟨_,rfl⟩;obtain⟨A,hA⟩:∃ A,A=lba.tmod g.d:=⟨_,rfl⟩;have hZ2:0<=Z/\Z<g.z:=by
  rw [hZ,AX hlba.1];exact⟨CT hlba.1 (by omega),CB (by omega) hlba.2⟩
 have hA2:0<=A/\A<g.d:=by
  rw [hA];exact⟨Bx _ hlba.1,Bb _ (by omega)⟩
 have hdiv:IntKind.i64.wrap (([lba].getD (Int.toNat 0) 0).tdiv g.d)=Z:=by
  rw [hZ];exact wi (by have:=hZ2;rw [hZ] at this;show -9223372036854775808<=lba.tdiv g.d/\lba.tdiv g.d<=9223372036854775807;omega)
 have hL:F3 g s G S lba b=Ch Z (By g t (EI g s G t Z) [A] [b] S) (DM g t (EI g s G t Z) [A] [b] g.d.toNat) [A] [b]:=by
  rw [F3,<-hZ,<-hA];rw [<-hZ] at ht;rw [ht]
 rw [hL];rw [<-hZ] at ht hB;obtain⟨L,hL⟩:∃ L,L=Ch Z (By g t (EI g s G t Z) [A] [b] S) (DM g t (EI g s G t Z) [A] [b] g.d.toNat) [A] [b]:=⟨_,rfl⟩;rw [<-hL];have hL3:L.length=3:=by rw [hL,EA];try rfl
 have htok:=Ov ht;have h01:∀ x∈ [b],x.length=8:=fun x hx=>by rw [Ay] at hx;rw [hx];exact hb
 obtain⟨k1,k2⟩:=Mw hg (s:=s) (G:=G) (t:=t) (z:=Z) himg;have hAt:AtsOk g [A]:=aA hA2;have hpl:(DM g t (EI g s G t Z) [A] [b] g.d.toNat).length=8:=E_ k2 h01 (show [A].length<= [b].length from Ah 1) _;have hwr:=QV g t (EI g s G t Z) [A] [b] S hg htok k1 k2 hAt rfl h01 hS;have him:=P2 g Z (By g t (EI g s G t Z) [A] [b] S) (DM g t (EI g s G t Z) [A] [b] g.d.toNat) [A] [b] hg hZ2 (Fk hg htok hS) hpl hAt rfl h01;rw [<-hL] at him;refine zT tys_ok Tryz.func109 rfl rfl (Ag rfl) ?_;conv=>whnf
 refine zU (Nat × Dk × Bool) (fun x=>([(0, .bp 0 0),(1,iA [lba]),(2,ER [b]),(3,iv S),(10,Zn L x.2.2),(27,iv g.z),(28,iv (x.1:Nat))],Gk g s x.2.1)) (fun x=>(x.1:Int)<=g.z/\Gs (Aq g) x.2.1 G/\(x.2.2=true↔Z<(x.1:Int))) (fun x=>g.z.toNat - x.1) (0,d,false) ⟨by show ((0:Nat):Int)<=g.z;omega,h,⟨fun q=>(by cases q),fun q=>absurd q (by show ¬Z<((0:Nat):Int);omega)⟩⟩
  (zS (s:= [0,1,2,3,4]) tA) ?_
 rintro⟨k,d1,p⟩ ⟨hk,hd1,hpz⟩;simp only at hk hd1 hpz;by_cases hkz:(k:Int)<g.z;rotate_left 1
 ·obtain rfl:p=true:=hpz.2 (by omega);conv=>whnf
  rw [decide_eq_false hkz];conv=>whnf
  repeat' (refine z_ ?_;conv=>whnf)
  exact⟨_, .tp [Ec L,iv 0],Gk g s d1,fun _ _ h=>h,zS (s:= [0,1,2,3,4]) tA,rfl,d1,hd1,rfl⟩
 by_cases he:(k:Int)=Z;rotate_left 1
 ·conv=>whnf
  rw [decide_eq_true hkz];conv=>whnf
  repeat' (refine z_ ?_;conv=>whnf)
  refine zx 2 ?_;conv=>whnf
  repeat' (refine z_ ?_;conv=>whnf)
  refine⟨in01,?_⟩;conv=>whnf
  repeat' (refine z_ ?_;conv=>whnf)
  refine⟨by omega,?_⟩;conv=>whnf
  rw [hdiv,show (Z == (k:Int))=false from beq_eq_false_iff_ne.2 fun q=>he q.symm];conv=>whnf
  repeat' (refine z_ ?_;conv=>whnf)
  cases p
  ·exact⟨(k+1,d1,false),⟨by show ((k+1:Nat):Int)<=g.z;omega,hd1,⟨fun q=>by have:=hpz.1 q;show Z<((k+1:Nat):Int);omega,fun q=>hpz.2 (by have:Z<((k+1:Nat):Int):=q;omega)⟩⟩,by show g.z.toNat - (k+1)<g.z.toNat - k;omega,zS (s:= [0,1,2,3,4]) ⟨⟨rfl,rfl,rfl,rfl,rfl,rfl,AI (by omega),tv⟩,tA,rfl,rfl,rfl,rfl,rfl⟩⟩
  ·exact⟨(k+1,d1,true),⟨by show ((k+1:Nat):Int)<=g.z;omega,hd1,⟨fun q=>by have:=hpz.1 q;show Z<((k+1:Nat):Int);omega,fun q=>hpz.2 (by have:Z<((k+1:Nat):Int):=q;omega)⟩⟩,by show g.z.toNat - (k+1)<g.z.toNat - k;omega,zS (s:= [0,1,2,3,4]) ⟨⟨rfl,rfl,rfl,rfl,rfl,rfl,AI (by omega),tv⟩,tA,rfl,rfl,rfl,rfl,rfl⟩⟩
 ·obtain rfl:p=false:=by
   cases p with
   | false=>rfl
   | true=>exact absurd (hpz.1 rfl) (by omega)
  have hgat:=La g s d1 G Z hg hl ha hd1 hF h8 hZ2 hB t ht;conv=>whnf
  rw [decide_eq_true hkz];conv=>whnf
  repeat' (refine z_ ?_;conv=>whnf)
  refine zU (Nat × Bool) (fun i=>([(0, .bp 0 0),(1,iA [lba]),(2,ER [b]),(3,iv S),(10, .v (.slice none 0 0)),(11,iv (k:Nat)),(12,bi A i.2),(13,b_ b i.2),(27,iv g.z),(28,iv (k:Nat)),(31,iA [lba]),(32,iv 1),(33,iv (i.1:Nat))],Gk g s d1)) (fun i=>i.1<=1/\(i.2=true↔i.1=1)) (fun i=>1 - i.1) (0,false) ⟨by show 0<=1;omega,by decide⟩
   (zS (s:= [0,1,2,3,4]) tA) ?_
  rintro⟨i,q⟩ ⟨hi,hq⟩;simp only at hi hq;by_cases hi1:i=1;rotate_left 1
  ·obtain rfl:i=0:=by omega
   obtain rfl:q=false:=by
    cases q with
    | false=>rfl
    | true=>exact absurd (hq.1 rfl) (by decide)
   have ixA:(0:Int)<=0/\(0:Int)<(([b]:List (List UInt8)).length:Nat):=in01;conv=>whnf
   repeat' (refine z_ ?_;conv=>whnf)
   refine⟨in01,?_⟩;conv=>whnf
   repeat' (refine z_ ?_;conv=>whnf)
   refine⟨by omega,?_⟩;conv=>whnf
   rw [show IntKind.i64.wrap (([lba].getD (((0:Nat):Int)).toNat 0).tdiv g.d)=Z from hdiv,show (Z == (k:Int))=true from beq_iff_eq.2 he.symm];conv=>whnf
   repeat' (refine z_ ?_;conv=>whnf)
   apply zW (16384) tys_ok mixed (.o [0,1,2,3,4,5,6,7,10,11,12,13] (.two 8 (.two 9 (.o [14,15,16,17,18] .fin) 14 (.two 9 (.o [15,16,17,18] .fin) 15 (.o [9,16,17,18] .fin))) 14 (.two 8 (.two 9 (.o [15,16,17,18] .fin) 15 (.o [9,16,17,18] .fin)) 15 (.o [8,9,16,17,18] .fin)))) (by kernel_rfl);conv=>whnf
   try (refine tI ?_;conv=>whnf)
   try (refine tI ?_;conv=>whnf)
   refine Ae ?_ ?_;refine Ae ?_ ?_;conv=>whnf
   try (refine tJ ?_;conv=>whnf)
   try (refine tK ?_;conv=>whnf)
   try (refine tJ ?_;conv=>whnf)
   try (refine tK ?_;conv=>whnf)
   rotate_left 1;refine Ae ?_ ?_;conv=>whnf
   try (refine tJ ?_;conv=>whnf)
   try (refine tK ?_;conv=>whnf)
   try (refine tJ ?_;conv=>whnf)
   try (refine tK ?_;conv=>whnf)
   rotate_left 1;conv=>whnf
   try (refine tJ ?_;conv=>whnf)
   try (refine tK ?_;conv=>whnf)
   try (refine tJ ?_;conv=>whnf)
   try (refine tK ?_;conv=>whnf)
   rotate_left 1;refine Ae ?_ ?_;refine Ae ?_ ?_;conv=>whnf
   try (refine tJ ?_;conv=>whnf)
   try (refine tK ?_;conv=>whnf)
   try (refine tJ ?_;conv=>whnf)
   try (refine tK ?_;conv=>whnf)
   rotate_left 1;conv=>whnf
   try (refine tJ ?_;conv=>whnf)
   try (refine tK ?_;conv=>whnf)
   try (refine tJ ?_;conv=>whnf)
   try (refine tK ?_;conv=>whnf)
   rotate_left 1;conv=>whnf
   try (refine tJ ?_;conv=>whnf)
   try (refine tK ?_;conv=>whnf)
   try (refine tJ ?_;conv=>whnf)
   try (refine tK ?_;conv=>whnf)
   rotate_left 1;all_goals
    conv=>whnf
    first
    | exact⟨(1,true),⟨by show 1<=1;omega,by decide⟩,by show 1 - 1<1 - 0;omega,zG (zQ (zP 12 6 rfl rfl) (zQ (zL 12 rfl (DP (L:= [A]) rfl (by rw [hA];rfl))) (zQ (zP 13 7 rfl rfl) (zL 13 rfl (DL (L:= [b]) rfl rfl))))) (s:= [0,1,2,3,4]) tA⟩
    | exact⟨(1,true),⟨by show 1<=1;omega,by decide⟩,by show 1 - 1<1 - 0;omega,zG (zQ (zP 12 6 rfl rfl) (zQ (zL 12 rfl (DP (L:= [A]) rfl (by rw [hA];rfl))) (zQ (zP 13 8 rfl rfl) (zL 13 rfl (DL (L:= [b]) rfl rfl))))) (s:= [0,1,2,3,4]) tA⟩
    | exact⟨(1,true),⟨by show 1<=1;omega,by decide⟩,by show 1 - 1<1 - 0;omega,zG (zQ (zP 12 7 rfl rfl) (zQ (zL 12 rfl (DP (L:= [A]) rfl (by rw [hA];rfl))) (zQ (zP 13 6 rfl rfl) (zL 13 rfl (DL (L:= [b]) rfl rfl))))) (s:= [0,1,2,3,4]) tA⟩
    | exact⟨(1,true),⟨by show 1<=1;omega,by decide⟩,by show 1 - 1<1 - 0;omega,zG (zQ (zP 12 7 rfl rfl) (zQ (zL 12 rfl (DP (L:= [A]) rfl (by rw [hA];rfl))) (zQ (zP 13 8 rfl rfl) (zL 13 rfl (DL (L:= [b]) rfl rfl))))) (s:= [0,1,2,3,4]) tA⟩
    | exact⟨(1,true),⟨by show 1<=1;omega,by decide⟩,by show 1 - 1<1 - 0;omega,zG (zQ (zP 12 8 rfl rfl) (zQ (zL 12 rfl (DP (L:= [A]) rfl (by rw [hA];rfl))) (zQ (zP 13 6 rfl rfl) (zL 13 rfl (DL (L:= [b]) rfl rfl))))) (s:= [0,1,2,3,4]) tA⟩
    | exact⟨(1,true),⟨by show 1<=1;omega,by decide⟩,by show 1 - 1<1 - 0;omega,zG (zQ (zP 12 8 rfl rfl) (zQ (zL 12 rfl (DP (L:= [A]) rfl (by rw [hA];rfl))) (zQ (zP 13 7 rfl rfl) (zL 13 rfl (DL (L:= [b]) rfl rfl))))) (s:= [0,1,2,3,4]) tA⟩
    | fail
  subst hi1;obtain rfl:q=true:=hq.2 rfl;conv=>whnf
  repeat' (refine z_ ?_;conv=>whnf)
  rw [he];refine ze9 [0,1,2,3,4] hgat ?_;rintro _ _ ⟨rfl,d2,hd2,rfl⟩;conv=>whnf
  repeat' (refine z_ ?_;conv=>whnf)
  apply zW (0) tys_ok mixed (.o [0,1,2,3,4,5,6,7,8] (.two 9 (.o [10,11,12,13,14,15,16,17] .fin) 14 (.o [9,10,11,12,13,15,16,17] .fin))) (by kernel_rfl);refine Ae ?_ ?_;conv=>whnf
  refine zZ hwr ?_;conv=>whnf
  try (refine tS ?_;conv=>whnf)
  rotate_left 1;conv=>whnf
  refine zZ hwr ?_;conv=>whnf
  try (refine tS ?_;conv=>whnf)
  rotate_left 1;all_goals
   conv=>whnf
   repeat' (refine z_ ?_;conv=>whnf)
   apply zW (0) tys_ok mixed (.o [0,1,2,3,4,5,6,7,8,9,10,11,12,13,14] .fin) (by kernel_rfl);conv=>whnf
   refine zZ him ?_;conv=>whnf
   all_goals
    conv=>whnf
    repeat' (refine z_ ?_;conv=>whnf)
    refine⟨by omega,?_⟩;conv=>whnf
    exact⟨(k+1,d2,true),⟨by show ((k+1:Nat):Int)<=g.z;omega,hd2,⟨fun _=>by show Z<((k+1:Nat):Int);omega,fun _=>rfl⟩⟩,by show g.z.toNat - (k+1)<g.z.toNat - k;omega,zG (zQ (zP 10 7 (congrArg (AV.ow 7) (by rw [Ac,BQ])) rfl) (zL 10 rfl (S5 rfl (by rw [Ac,BQ])))) (s:= [0,1,2,3,4]) ⟨⟨rfl,rfl,rfl,rfl,rfl,rfl,by rw [<-he];exact AI (by omega),tv⟩,tA,rfl,rfl,rfl,rfl,rfl⟩⟩
theorem VolV.far {g:Geo} (hg:Bm g=true) {a:An} (ha:Bn g a=true) {l:List Tx} {F F':Int->List UInt8} {V:Int->Int->List UInt8} (h:VolV g a l F V) (e:∀ q,g.an+2*g.sl<=q->F' q=F q):VolV g a l F' V:=by
 obtain⟨g1,g2,g3,g4,g5⟩:=Ar.1 hg;intro z h0 h1;obtain⟨t,hz⟩:=h z h0 h1;refine⟨t,⟨?_,hz.len,hz.ent,fun w hw hw2=>?_,hz.par⟩⟩
 ·have:=hz.tab;unfold EW at this |-
  rw [e (A6 g z 0) (by unfold A6;omega),e (A6 g z 1) (by unfold A6;omega)];exact this
 ·have:=hz.val w hw hw2;obtain⟨sl,e1,e2⟩:=Em hg ha ⟨h0,h1⟩ (w:=w) ⟨hw,hw2⟩;have hsl:=E0 hg ⟨h0,h1⟩ e2;rw [e (B4 g a z w) (by omega)];exact this
theorem YW {g:Geo} (hg:Bm g=true) {a:An} {l:List Tx} {F:Int->List UInt8} {lba:Int} {b:List UInt8} (himg:∀ t∈l,∀ x∈t.images,B3 g x=true) (hs:0<=a.seq+(l.length:Int)/\a.seq+(l.length:Int)<=4294967295) (hlba:0<=lba/\lba<g.z*g.d) (hb:b.length=8) (ht:(EW g (AJ a l) F (lba.tdiv g.d)).isSome=true):(GD g a l F lba b).images.length=3/\(∀ x∈(GD g a l F lba b).images,B3 g x=true)/\OneTab (GD g a l F lba b).images:=by
 obtain⟨g1,g2,g3,g4,g5⟩:=Ar.1 hg;obtain⟨t,ht⟩:=Ci.1 ht;have ei:(GD g a l F lba b).images=Ch (lba.tdiv g.d) (By g t (D1 g (AJ a l) F t (lba.tdiv g.d)) [lba.tmod g.d] [b] (a.seq+(l.length:Int))) (DM g t (D1 g (AJ a l) F t (lba.tdiv g.d)) [lba.tmod g.d] [b] g.d.toNat) [lba.tmod g.d] [b]:=by
  show GM g (AJ a l) F _ lba b=_;unfold GM;rw [ht]
 have htok:=J9 ht;obtain⟨Z,hZ⟩:∃ Z,Z=lba.tdiv g.d:=⟨_,rfl⟩;obtain⟨A,hA⟩:∃ A,A=lba.tmod g.d:=⟨_,rfl⟩;have hZ2:0<=Z/\Z<g.z:=by
  rw [hZ,AX hlba.1];exact⟨CT hlba.1 (by omega),CB (by omega) hlba.2⟩
 have hA2:0<=A/\A<g.d:=by
  rw [hA];exact⟨Bx _ hlba.1,Bb _ (by omega)⟩
 rw [<-hZ,<-hA] at ei;have hadlen:∀ x∈D1 g (AJ a l) F t Z,x.length=0\/x.length=8:=fun x hx=>by
  have himg:∀ t∈(AJ a l).txns,∀ x∈t.images,B3 g x=true:=himg;rcases A2.1 hx with q | q
  ·obtain⟨i,hi,rfl⟩:=AQ.1 q;exact Hf himg (by have:=AR.1 hi;omega)
  ·rw [Ay] at q;rw [q];exact Hf himg (by decide)
 have h01:∀ x∈ [b],x.length=8:=fun x hx=>by rw [Ay] at hx;rw [hx];exact hb
 have hA3:∀ x∈ [A],0<=x/\x<g.d:=fun x hx=>by rw [Ay] at hx;rw [hx];exact hA2
 rw [ei];refine⟨by rw [EA];try rfl,fun x hx=>?_,?_⟩
 ·exact(Jq hg hZ2 (Fk hg htok (by omega)) (E_ hadlen h01 (show [A].length<= [b].length from Ah 1) _) hA3 h01 (Ah 1) x hx).1
 ·exact Iu (l:= []) hg List.Pairwise.nil (fun x hx=>by cases hx) hA3
def aD (g:Geo) (M:Md):Prop:=(M.m.length:Int)=g.z*g.d/\∃ V,VolV g M.a M.l M.F V/\∀ z w,0<=z->z<g.z->0<=w->w<g.d->M.m.getD (z*g.d+w).toNat []=V z w
theorem bN {g:Geo} (hg:Bm g=true) {z w:Int} (h0:0<=z) (h1:z<g.z) (h2:0<=w) (h3:w<g.d):0<=z*g.d+w/\z*g.d+w<g.z*g.d:=by
 obtain⟨g1,g2,g3,g4,g5⟩:=Ar.1 hg;have e1:0<=z*g.d:=Df h0 (by omega);have e2:(z+1)*g.d<=g.z*g.d:=BI (by omega) (by omega);rw [Int.add_mul,Int.one_mul] at e2;omega
theorem WF {g:Geo} (hg:Bm g=true):aD g (Gn g):=by
 obtain⟨g1,g2,g3,g4,g5⟩:=Ar.1 hg;have hn:0<=g.z*g.d:=Df (by omega) (by omega);refine⟨?_,_,WE hg,fun z w h0 h1 h2 h3=>?_⟩
 ·show (((List.replicate (g.z*g.d).toNat zero8).length:Nat):Int)=_;rw [Bw];omega
 ·have:=bN hg h0 h1 h2 h3;show (List.replicate (g.z*g.d).toNat zero8).getD _ []=zero8;rw [Aa,CO,if_pos (by omega)];try rfl
theorem bf {g:Geo} (hg:Bm g=true) {K:Int} (hK:K<=4294967294) {D:Dk} {M:Md} (hv:Vol g K D (AJ M.a M.l)) (h:aD g M):aD g (XV g M)/\Vol g (K+1) D (AJ (XV g M).a (XV g M).l):=by
 obtain⟨a,l,F,m⟩:=M;cases l with
 | nil=>exact⟨h,⟨hv.gd,hv.an,hv.ring,hv.rest,by have q:a.gen<=K:=hv.gen;show a.gen<=K+1;omega,by have q:a.seq+(([]:List Tx).length:Int)<=K:=hv.seq;show a.seq+(([]:List Tx).length:Int)<=K+1;omega,hv.one⟩⟩
 | cons x r=>
  obtain⟨hm,V,hV,hr⟩:=h;have hi:=(Dp hv.ring x (by show x∈x::r;simp)).1;have h2:=hv.home hg (x:=x) (r:=r) rfl hK (d':=D) hv.gd;have ha:Bn g a=true:=hv.an;obtain⟨a1,a2,a3,a4⟩:=Ej ha;have hr0:Cw g (x::r) a.seq a.pos g.sl=true:=hv.ring;simp only [Cw,Ad,decide_eq_true_eq] at hr0;have hxs:x.seq=a.seq:=hr0.1.1;have hseq:a.seq+(x::r).length<=K:=hv.seq;have hl1:1<=(x::r).length:=by simp
  refine⟨⟨hm,V,Tv hg ha (Av.1 hi) (by omega) hV,hr⟩,h2⟩
theorem Xu {g:Geo} (hg:Bm g=true) {K:Int} (hK:K<=4294967294) {D:Dk} {M M':Md} {lba:Int} {b:List UInt8} (hlba:0<=lba/\lba<g.z*g.d) (hb:b.length=8) (hv:Vol g K D (AJ M.a M.l)) (h:aD g M) (hc:b8 g M lba b M'):aD g M'/\Vol g (K+1) D (AJ M'.a M'.l):=by
 obtain⟨g1,g2,g3,g4,g5⟩:=Ar.1 hg;rcases hc with ⟨hu,ht,W,hW,rfl⟩ | ⟨-,rfl⟩
 rotate_left 1
 ·exact⟨h,⟨hv.gd,hv.an,hv.ring,hv.rest,by have:=hv.gen;omega,by have:=hv.seq;omega,hv.one⟩⟩
 obtain⟨a,l,F,m⟩:=M;obtain⟨hm,V,hV,hr⟩:=h;simp only at hu ht hW hm hV hr;have ha:Bn g a=true:=hv.an;obtain⟨a1,a2,a3,a4⟩:=Ej ha;have hseq:a.seq+l.length<=K:=hv.seq;have himg:∀ t∈l,∀ x∈t.images,B3 g x=true:=fun t ht=>Av.1 (Dp hv.ring t ht).1
 obtain⟨c1,c2,c3⟩:=YW hg (F:=F) himg (by omega) hlba hb ht;refine⟨⟨?_,Tm V (GD g a l F lba b),?_,fun z w h0 h1 h2 h3=>?_⟩,?_⟩
 ·show (((m.set lba.toNat b).length:Nat):Int)=_;rw [AO];exact hm
 ·have q:=XR hg (x:=GD g a l F lba b) (by show 0<=a.seq+(l.length:Int)/\a.seq+(l.length:Int)<=4294967295;omega) himg hV (aq hg hlba hb ht);exact q.far hg ha fun p hp=>EU (by omega) _ _ rfl fun w hw e=>by have:=(hW w hw).1;omega
 ·rw [ap hg hlba ht V ⟨h2,h3⟩];show (m.set lba.toNat b).getD (z*g.d+w).toNat []=_;have hz:=bN hg h0 h1 h2 h3;have hdm:g.d*lba.tdiv g.d+lba.tmod g.d=lba:=Int.mul_tdiv_add_tmod lba g.d;rw [Aa,DX];by_cases e:z=lba.tdiv g.d/\w=lba.tmod g.d
  ·rw [if_pos e,if_pos (by rw [e.1,e.2,Int.mul_comm,hdm]),if_pos (by omega)];try rfl
  ·rw [if_neg e,if_neg fun q=>e ?_,<-Aa]
   ·exact hr z w h0 h1 h2 h3
   ·have q2:lba=z*g.d+w:=by omega
    have e1:lba.tdiv g.d=lba / g.d:=AX hlba.1;have e2:lba / g.d=z:=by
     rw [q2,Int.add_comm,Int.add_mul_ediv_right _ _ (by omega),Int.ediv_eq_zero_of_lt h2 h3,Int.zero_add]
    refine⟨by rw [e1,e2],?_⟩;rw [e1,e2,Int.mul_comm] at hdm;omega
 ·exact hv.add hg hK (d':=D) hv.gd (x:=GD g a l F lba b) rfl rfl (by show (2:Int)<=4;omega) (by show (4:Int)<=g.sl - C6 l;omega) (by show (4:Int)=_;rw [c1];try rfl) c2 c3
theorem Wq {g:Geo} (hg:Bm g=true) (L:List Q2):∃ D,∀ (i:Nat) (M:Md),i<=1000->aE g L i M->aD g M/\Vol g (2+2*(i:Nat)) D (AJ M.a M.l):=by
 obtain⟨D, -, -, -,hD,hvo⟩:=PV hg;refine⟨D,fun i=>?_⟩;induction i with
 | zero=>
  intro M _ hM;obtain rfl:=hM;exact⟨WF hg,hvo.vol hD⟩
 | succ i ih=>
  rintro M hi ⟨M1,M2,h1,⟨lba,b,hl,hb,hc⟩,rfl⟩;obtain⟨r1,v1⟩:=ih M1 (by omega) h1;obtain⟨r2,v2⟩:=Xu hg (by omega) hl hb v1 r1 hc;have e:(2+2*((i+1:Nat):Int))=2+2*(i:Int)+1+1:=by omega
  rw [e];split
  ·exact bf hg (by omega) v2 r2
  ·exact⟨r2,⟨v2.gd,v2.an,v2.ring,v2.rest,by have:=v2.gen;omega,by have:=v2.seq;omega,v2.one⟩⟩

theorem XY (g:Geo) (seq epoch:Int) (l:List Img) (hl:l.length<=100000) (hb:∀ x∈l,x.bytes.length<=100000):Fn Tryz.prog 110 [.ag (AU g),iv seq,iv epoch,Ec l] fun r=>r = .tp [LX (if Li g seq epoch l=0 then CP seq epoch l else []),iv (Li g seq epoch l)]:=by
 have nilr:∀ c v n,n≠0->Li g seq epoch l=n->Rd (.tp [.v (.slice none 0 0),iv n]) c v->Rd (.tp [LX (if Li g seq epoch l=0 then CP seq epoch l else []),iv (Li g seq epoch l)]) c v:=by
  intro c v n hn he h;rw [if_neg (by rw [he];exact hn),he];simp only [Rd,RdL] at h |-
  obtain⟨xs,rfl,a,_,rfl,h1,h2⟩:=h;exact⟨_,rfl,a,_,rfl,Bo _ _ _ _ (by simpa [Rd] using h1),h2⟩
 obtain⟨z,d,sp,sl,an⟩:=g;refine zR Tryz.func110 rfl ?_;conv=>whnf
 repeat' (first | (refine Ao (fun h=>?_) (fun h=>?_) <;> (try simp at h) <;> conv=>whnf) | (refine zZ (Ei z d sp sl an) ?_;conv=>whnf) | (refine zZ (Je _ _ _) ?_;conv=>whnf))
 iterate 3 (exact⟨_,fun c v h=>nilr c v 1 (by decide) (by simp [Li, *]) h,rfl⟩)
 rename_i h1 h2;have ht0:(Bm ⟨z,d,sp,sl,an⟩&&(CQ seq 0 4294967295&&CQ epoch 0 4294967295))=true:=by simp [*]
 clear h h1 h2;refine zM Nat (fun k=>([(1,iv seq),(2,iv epoch),(3,Ec l),(4, .bp 0 0),(29,Ec l),(30,iv l.length),(31,iv k)], [.box 23 (AU ⟨z,d,sp,sl,an⟩)])) (fun k=>k<=l.length/\∀ i,i<k->B3 ⟨z,d,sp,sl,an⟩ (l.getD i ⟨0,0, []⟩)=true) (fun k=>l.length - k) 0 ⟨Aj _,by simp⟩ ⟨[],tv,tA,tA,rfl,rfl,rfl⟩ ?_;rintro k ⟨hk,hI⟩;conv=>whnf
 refine Ao (fun h2=>?_) (fun h2=>?_) <;> simp at h2 <;> conv=>whnf
 ·refine⟨by first | omega | (refine⟨rfl,?_,?_⟩ <;> first | omega | (simp only [Ac];done) | (simp only [Ac];omega)) | (simp only [Ac];omega),?_⟩;conv=>whnf
  refine zI (Kx ⟨z,d,sp,sl,an⟩ (l.getD k ⟨0,0, []⟩) (hb _ (A5 h2))) rfl ?_;rintro _ rfl;conv=>whnf
  refine Ao (fun h3=>?_) (fun h3=>?_) <;> conv=>whnf
  ·refine⟨_,fun c v h=>nilr c v 1 (by decide) ?_ h,rfl⟩;have:l.all (B3 ⟨z,d,sp,sl,an⟩)=false:=by
    rw [<-BP];intro hh;have:=Av.1 hh _ (A5 (d:=⟨0,0, []⟩) h2);rw [this] at h3;simp at h3
   simp [Li,ht0,this]
  ·refine⟨k+1,⟨by omega,fun i hi=>?_⟩,by omega, [],tv,⟨rfl,rfl,rfl,rfl,rfl,rfl,AI (by omega),tv⟩,tA,rfl,rfl,rfl⟩;rcases B_ i k with h | h
   ·exact hI i h
   ·obtain rfl:i=k:=by omega
    cases hq:B3 ⟨z,d,sp,sl,an⟩ (l.getD i ⟨0,0, []⟩) with
    | true=>rfl
    | false=>rw [hq] at h3;simp at h3
 ·have ht1:l.all (B3 ⟨z,d,sp,sl,an⟩)=true:=by
   rw [Av];intro x hx;obtain⟨i,hi,rfl⟩:=Ef hx;have:=hI i (by omega);rwa [Aa,Af hi] at this
  clear hI;refine zZ (Je _ _ _) ?_;conv=>whnf
  refine Ao (fun h3=>?_) (fun h3=>?_) <;> simp at h3 <;> conv=>whnf
  ·exact⟨_,fun c v h=>nilr c v 2 (by decide) (by simp [Li,ht0,ht1,h3]) h,rfl⟩
  have ht2:Li ⟨z,d,sp,sl,an⟩ seq epoch l=0:=by simp [Li,ht0,ht1,h3]
  clear nilr;rw [wi (by omega)];refine zM Nat (fun k=>([(1,iv seq),(2,iv epoch),(13,iv (l.length+1)),(12, .ow 1 k),(47,Ec l),(48,iv l.length),(49,iv k)], [.dead, .row 168 8 ((IQ seq epoch (l.length+1) k l).map Kd)])) (fun k=>k<=l.length) (fun k=>l.length - k) 0 (Aj _) ⟨[(12,168,8)],tA,tA,tA,rfl,rfl,rfl⟩ ?_;rintro k hk;have hlk:=It seq epoch (l.length+1) k l;conv=>whnf
  refine Ao (fun h2=>?_) (fun h2=>?_) <;> simp at h2 <;> conv=>whnf
  ·refine⟨by first | omega | (refine⟨rfl,?_,?_⟩ <;> first | omega | (simp only [Ac];done) | (simp only [Ac];omega)) | (simp only [Ac];omega),?_⟩;conv=>whnf
   refine zI (Cx (l.getD k ⟨0,0, []⟩).bytes (by have:=hb _ (A5 (d:=⟨0,0, []⟩) h2);omega)) rfl ?_;rintro _ rfl;refine⟨rfl,?_⟩;conv=>whnf
   refine⟨⟨by rw [Ac,hlk];omega,by omega⟩,?_⟩;refine⟨k+1,by omega,by omega, [],tv,⟨rfl,rfl,rfl,rfl,rfl,rfl,AI (by omega),tv⟩,⟨Zh ?_,tv⟩,rfl,rfl,rfl⟩;rw [Mr _ _ _ h2];try rfl
  ·obtain rfl:k=l.length:=by omega
   rw [wi (by omega),show (l.length:Int)+1 - 1=l.length by omega];refine⟨rfl,?_⟩;conv=>whnf
   refine⟨⟨by rw [Ac,hlk];omega,by omega⟩,?_⟩;conv=>whnf
   refine⟨by rw [Ai,Ac,hlk];simp,?_⟩;refine⟨_,fun c v h=>?_,rfl⟩;rw [ht2,if_pos rfl];simp only [Rd,RdL] at h |-
   obtain⟨xs,rfl,a,_,rfl,h1,h2⟩:=h;exact⟨_,rfl,a,_,rfl,Rd.sub (sz:=8) (H5 seq epoch l).symm (PH seq epoch l) (by simp only [Rd];exact h1),h2⟩
@[reducible] def delX (lba:Int):AV:= .fn 114 [.rp [iA [lba]]]
theorem YC (lba:Int):Fn Tryz.prog 185 [iA [],delX lba] fun r=>r = iv (-1):=by
 refine zR Tryz.func185 rfl ?_;conv=>whnf
 refine zx 1 ?_;conv=>whnf
 repeat' (refine z_ ?_;conv=>whnf)
 exact⟨_,ri,rfl⟩
theorem Xo (lba:Int):Fn Tryz.prog 113 [iA [],delX lba] fun r=>r=iA []:=by
 have h1:=YC lba;refine zR Tryz.func113 rfl ?_;conv=>whnf
 refine zZ h1 ?_;exact⟨_,ri,rfl⟩
theorem Z4 {g:Geo} {seq epoch:Int} {l:List Img} (hg:Bm g=true) (h1:CQ seq 0 4294967295=true) (h2:CQ epoch 0 4294967295=true) (h3:l.all (B3 g)=true) (h4:CQ l.length 1 29=true):Li g seq epoch l=0:=by
 simp [Li,hg,h1,h2,h3,h4]
theorem V2 {H:List AB} {t:TypeId} {g:Geo} {s:Stt} {T:List Tx} {es:List (List AV)} {n:Nat} (hj:H[0]? = some (.box t (Zr g (.bp 1 0) (.ow 4 n) (iA s.lost) s))) (hk:H[4]? = some (.row 112 4 es)) (hn:n=T.length) (he:es=T.map CV):ConvH H ((H.set 4 .dead).set 0 (.box t (ax g (.bp 1 0) { s with txns:=T }))):=by
 subst hn he;have h4:4<H.length:=(As.1 hk).1;have e:=zy (H:=H) 0 4 (cs2:=Zr g (.bp 1 0) (.sl 4 (T.map CV).length fun i=>(T.map CV).getD i []) (iA s.lost) s) hj hk (by simp only [A4,Bz,Gl (Ac _).symm];rfl);have q:=zr (H:=(H.set 4 .dead).set 0 (.box t (Zr g (.bp 1 0) (.sl 4 (T.map CV).length fun i=>(T.map CV).getD i []) (iA s.lost) s))) 0 (t:=t) (cs':=ax g (.bp 1 0) { s with txns:=T }) (AD (by rw [AO];omega)) ⟨ri,ri,ri,ri,ri,ri,ri,ri,ri,ri,ri,ri,ri,Bc (f:=CV) T (Ac _) rfl,ri,ri,ri,ri,ri,ri,tv⟩;rw [List.set_set] at q;exact e.trans q
@[reducible] def bx (g:Geo) (s:Stt) (d:Dk):List AB:= [.box 116 (ax g (.bp 1 0) s), .box 185 (GX (.ow 2 d.cells.length) (.ow 5 d.cache.length) d.reqs d.left), .row 128 3 (d.cells.map B7), .dead, .dead, .row 134 2 (d.cache.map EE)]
@[reducible] def conH (g:Geo) (s:Stt) (d:Dk) (lba:Int):List AB:=Gk g s d ++ [.box 35 [iA [lba]]]
theorem Gx {d:Dk} (h:d.left = -1) (a:Int) (b:List UInt8):(d.write a b).2≠8/\(d.write a b).1.left = -1:=by
 have e:d.req.left = -1:=by unfold Dk.req;rw [h];try rfl
 unfold Dk.write;rw [if_neg (by rw [h];decide)];split
 ·exact⟨by show (7:Int)≠8;decide,e⟩
 ·exact⟨by show (0:Int)≠8;decide,e⟩
def Ry (g:Geo) (d:Dk) (x:Rc) (Q:Int):Dk:=((d.write (Bh g 0 Q) (BG g x 0 Q)).1.write (Bh g 1 Q) (BG g x 1 Q)).1
def aG (g:Geo) (d:Dk) (x:Rc) (Q:Int):Bool:=decide ((d.write (Bh g 0 Q) (BG g x 0 Q)).2=0) || decide (((d.write (Bh g 0 Q) (BG g x 0 Q)).1.write (Bh g 1 Q) (BG g x 1 Q)).2=0)
def dW (g:Geo) (P:Int) (R:List Rc) (d:Dk):Nat->Dk
 | 0=>d
 | i+1=>Ry g (dW g P R d i) (R.getD i rc0) (Dd g P (i:Nat))
def tW (g:Geo) (P:Int) (R:List Rc) (d:Dk) (i:Nat):Bool:=aG g (dW g P R d i) (R.getD i rc0) (Dd g P (i:Nat))
theorem ZP {g:Geo} (hg:Bm g=true) {d:Dk} {x:Rc} {Q:Int} (hx:Fz g x=true) (hQ:0<=Q/\Q<g.sl) (h:DkOk d) (hl:d.left = -1) (hn:(d.cells.length:Int)=Aq g):DkOk (Ry g d x Q)/\(Ry g d x Q).left = -1/\((Ry g d x Q).cells.length:Int)=Aq g:=by
 have b0:=F0 hg hn (.inl rfl) hQ (c:=0);have b1:=F0 hg hn (.inr rfl) hQ (c:=1);have h1:=h.write (a:=Bh g 0 Q) (b:=BG g x 0 Q) (by omega) (CD hx 0 Q);have l1:=(Gx hl (Bh g 0 Q) (BG g x 0 Q)).2;have n1:=Ln d (Bh g 0 Q) (BG g x 0 Q);have h2:=h1.write (a:=Bh g 1 Q) (b:=BG g x 1 Q) (by omega) (CD hx 1 Q);have l2:=(Gx l1 (Bh g 1 Q) (BG g x 1 Q)).2;have n2:=Ln (d.write (Bh g 0 Q) (BG g x 0 Q)).1 (Bh g 1 Q) (BG g x 1 Q);exact⟨h2,l2,by show ((((d.write _ _).1.write _ _).1.cells.length:Nat):Int)=_;omega⟩
theorem Oa {g:Geo} (hg:Bm g=true) {P:Int} {R:List Rc} {n:Nat} (hR:∀ i:Nat,i<n->Fz g (R.getD i rc0)=true) (hP:∀ i:Nat,i<n->0<=Dd g P (i:Nat)/\Dd g P (i:Nat)<g.sl) {d:Dk} (h:DkOk d) (hl:d.left = -1) (hn:(d.cells.length:Int)=Aq g):∀ i,i<=n->DkOk (dW g P R d i)/\(dW g P R d i).left = -1/\((dW g P R d i).cells.length:Int)=Aq g
 | 0,_=>⟨h,hl,hn⟩
 | i+1,hi=>by
  obtain⟨q1,q2,q3⟩:=Oa hg hR hP h hl hn i (by omega);exact ZP hg (hR i (by omega)) (hP i (by omega)) q1 q2 q3
theorem UZ (g:Geo) (s:Stt) (d:Dk) (x:Rc) (Q:Int) (hg:Bm g=true) (hx:Fz g x=true) (hxl:x.img.bytes.length<=100000) (hQ:0<=Q/\Q<g.sl) (h:DkOk d) (hl:d.left = -1) (hn:(d.cells.length:Int)=Aq g) :
  ACalls Tryz.prog false 111 [.bp 0 0, .ag (Kd x),iv Q] (Gk g s d) fun r H=>r = .tp [.v (.bool (aG g d x Q)),iv 0]/\H=Gk g s (Ry g d x Q):=
 Xx g s d x Q hg hx hxl hQ h hn (Gx hl _ _).1 (Gx (Gx hl _ _).2 _ _).1
theorem YU (g:Geo) (a:An) (l:List Tx) (d:Dk) (G:Gr) (lba:Int) (b:List UInt8) (t:List Ent) (hg:Bm g=true) (ha:Bn g a=true) (hring:Cw g l a.seq a.pos g.sl=true) (hsm:StSm (AJ a l)) (hseq:a.seq+(l.length:Int)<=4294967295) (h:Gs (Aq g) d G) (hF:∀ a,(G a).bytes.length<=100000) (h8:∀ a,(G a).err≠8) (hlba:0<=lba/\lba<g.z*g.d) (hb:b.length=8) (hroom:4<=g.sl - C6 l) (hB:∀ p,Cr l (lba.tdiv g.d) 255=some p->p.1.bytes.length<=100000/\(BW g p.1.bytes).isSome=true) (htab:G0 g (AJ a l) G (lba.tdiv g.d)=some t) (S P:Int) (L:List Img) (hS:S=a.seq+(l.length:Int)) (hP:P=(a.pos+C6 l).tmod g.sl) (hL:L=F3 g (AJ a l) G S lba b) (hL3:L.length=3) (hLok:∀ x∈L,B3 g x=true) :
  ACalls Tryz.prog false 46 [.bp 0 0,iA [lba],ER [b]] (Gk g (AJ a l) d) fun r H=>∃ d1,Gs (Aq g) d1 G/\(((∀ j:Nat,j<4->tW g P (CP S a.epoch L) d1 j=true)/\r = iv 0/\H=bx g (AJ a (l ++ [⟨S,P,4,L⟩])) (dW g P (CP S a.epoch L) d1 4).flush)\/∃ k:Nat,k<4/\(∀ j:Nat,j<k->tW g P (CP S a.epoch L) d1 j=true)/\tW g P (CP S a.epoch L) d1 k=false/\r = iv 14/\H=bx g { AJ a l with only:=true } (dW g P (CP S a.epoch L) d1 (k+1))):=by
 obtain⟨g1,g2,g3,g4,g5⟩:=Ar.1 hg;have hl30:l.length<=30:=hsm.t.1;have hlb:LogB (AJ a l).txns:=⟨by have:=hsm.t.1;omega,fun t ht=>⟨by have:=(hsm.t.2 t ht).1;omega,fun x hx=>by have:=(hsm.t.2 t ht).2 x hx;omega⟩⟩;have hun:=ET l l.length;obtain⟨a1,a2,a3,a4⟩:=Ej ha;have tsub:SubL [.ag (AU g), .ag (Ft a), .sl 4 l.length fun i=>(l.map CV).getD i []] [.ag (AU g), .ag (Ft a),DH l]:=⟨ri,ri,Bc (f:=CV) l rfl rfl,tv⟩;have hmay:=YV g (AJ a l) d lba b hg (by show l.length<=1000;omega) hlba hb;rw [show (AJ a l).only=false from rfl,if_neg (by decide),show (AJ a l).txns=l from rfl,if_neg (by omega)] at hmay;have hnext:=TJ g a l hg ha hring (by omega) (fun t ht=>⟨by have:=(hsm.t.2 t ht).1;omega,fun x hx=>by have:=(hsm.t.2 t ht).2 x hx;omega⟩) (by have:=(MS hg ha).1;omega) (by have:=(MS hg ha).2.1;omega) (by omega);have himg:=Q3 g (AJ a l) d G lba S b hg hlb ha h (fun t ht=>Av.1 (Dp hring t ht).1) hF h8 hlba hb (by omega) hB t htab;rw [<-hS,<-hP] at hnext;rw [<-hL] at himg;have hep:0<=a.epoch/\a.epoch<=4294967295:=by
  have:=ha;simp only [Bn,A_,BC,B5,Ad,decide_eq_true_eq,AF] at this;omega
 have hLb:∀ x∈L,x.bytes.length<=45:=fun x hx=>Eg hg (hLok x hx)
 have hrec:=XY g S a.epoch L (by omega) fun x hx=>by have:=hLb x hx;omega
 have hS1:CQ S 0 4294967295=true:=AF.2 (by omega);rw [Z4 hg hS1 (AF.2 hep) (Av.2 hLok) (by rw [hL3];decide),if_pos rfl] at hrec;obtain⟨R,hR⟩:∃ R,R=CP S a.epoch L:=⟨_,rfl⟩;have hRl:R.length=4:=by rw [hR,H5,hL3]
 have hRok:∀ k:Nat,k<4->Fz g (R.getD k rc0)=true/\(R.getD k rc0).img.bytes.length<=100000:=fun k hk=>by
  rw [hR,I6 _ _ _ (by omega)];split
  ·rename_i q;exact⟨Lw hg hS1 (AF.2 hep) (hLok _ (A5 (d:=⟨0,0, []⟩) q)) q hL3,by have:=hLb _ (A5 (d:=(⟨0,0, []⟩:Img)) q);show (L.getD k _).bytes.length<=_;omega⟩
  ·rw [show k=L.length by omega];exact⟨Lu hg hS1 (AF.2 hep) hL3,Aj _⟩
 have hPb:∀ i:Nat,i<4->0<=Dd g P (i:Nat)/\Dd g P (i:Nat)<g.sl:=fun i hi=>Id hg (pos:=P) (at_:=(i:Nat)) (by rw [hP];exact⟨Bx _ (by unfold C6;omega),Bb _ (by omega)⟩) (by omega)
 rw [<-hR] at hrec |-
 refine zT tys_ok Tryz.func46 rfl rfl (Ag rfl) ?_;conv=>whnf
 refine ze9 [0,1,2,3,4] hmay ?_;rintro _ _ ⟨rfl,rfl⟩;conv=>whnf
 apply zW (0) tys_ok mixed (.o [0,1,2,3,4,5,6,7,8,9,10,11,12,13,14,15,16,17,18,19,20,21] .fin) (by kernel_rfl);conv=>whnf
 (refine zp (args':= [.ag (AU g), .ag (Ft a), .sl 4 l.length fun i=>(l.map CV).getD i []]) (hnext.subA tsub) ⟨(Ac _).symm,rfl⟩ ?_;rintro _ rfl;refine⟨rfl,?_⟩)
 conv=>whnf
 refine ze9 [0,1,2,3,4] himg ?_;rintro _ _ ⟨rfl,d1,hd1,rfl⟩;have hok:=Oa hg (P:=P) (R:=R) (fun i hi=>(hRok i hi).1) hPb hd1.ok hd1.left hd1.len;conv=>whnf
 repeat' (refine z_ ?_;conv=>whnf)
 apply zW (0) tys_ok mixed (.o [0,1,2,3,4,5,6,7,8,9,10,11,12,13,14,15,16,17] .fin) (by kernel_rfl);conv=>whnf
 refine zZ hrec ?_;conv=>whnf
 refine zU Nat (fun i=>([(0, .bp 0 0),(4, .bp 5 0),(8,iv P),(9,iv S),(10,Ec L),(11,LX R),(73,LX R),(74,iv R.length),(75,iv (i:Nat))],conH g (AJ a l) (dW g P R d1 i) lba)) (fun i=>i<=4/\∀ j:Nat,j<i->tW g P R d1 j=true) (fun i=>4 - i) 0 ⟨by show 0<=4;omega,fun j hj=>absurd hj (Ap j)⟩
  (zS (s:= [0,1,2,3,4,5]) tA) ?_
 rintro i ⟨hi,hT⟩;by_cases hi4:i<4
 ·obtain⟨q1,q2,q3⟩:=hok i (by omega);have hbo:=UZ g (AJ a l) (dW g P R d1 i) (R.getD i rc0) (Dd g P (i:Nat)) hg (hRok i hi4).1 (hRok i hi4).2 (hPb i hi4) q1 q2 q3;cases ht:tW g P R d1 i with
  | true=>
   rw [show aG g (dW g P R d1 i) (R.getD i rc0) (Dd g P (i:Nat))=true from ht] at hbo;conv=>whnf
   rw [show decide ((i:Int)<(R.length:Nat))=true from decide_eq_true (by omega)];conv=>whnf
   repeat' (refine z_ ?_;conv=>whnf)
   refine⟨⟨by omega,by omega⟩,?_⟩;conv=>whnf
   rw [Ab];repeat' (refine z_ ?_;conv=>whnf)
   apply zW (2 ^ 139) tys_ok mixed (.o [0,1,2,3,4,5,6,7,8,9,10,11,12,13,14,15,16] .fin) (by kernel_rfl);conv=>whnf
   try (refine tI ?_;conv=>whnf)
   (refine ze9 [0,1,2,3,4] hbo ?_;rintro _ _ ⟨rfl,rfl⟩)
   conv=>whnf
   conv=>whnf
   repeat' (refine z_ ?_;conv=>whnf)
   exact⟨i+1,⟨by omega,fun j hj=>by by_cases e:j=i;exact e ▸ ht;exact hT j (by omega)⟩,by omega,zS (s:= [0,1,2,3,4,5]) ⟨⟨rfl,rfl,rfl,rfl,rfl,rfl,rfl,rfl,AI (by omega),tv⟩,tA,rfl,rfl,rfl,rfl,rfl⟩⟩
  | false=>
   rw [show aG g (dW g P R d1 i) (R.getD i rc0) (Dd g P (i:Nat))=false from ht] at hbo;conv=>whnf
   rw [show decide ((i:Int)<(R.length:Nat))=true from decide_eq_true (by omega)];conv=>whnf
   repeat' (refine z_ ?_;conv=>whnf)
   refine⟨⟨by omega,by omega⟩,?_⟩;conv=>whnf
   rw [Ab];repeat' (refine z_ ?_;conv=>whnf)
   apply zW (2 ^ 139) tys_ok mixed (.o [0,1,2,3,4,5,6,7,8,9,10,11,12,13,14,15,16] .fin) (by kernel_rfl);conv=>whnf
   try (refine tI ?_;conv=>whnf)
   (refine ze9 [0,1,2,3,4] hbo ?_;rintro _ _ ⟨rfl,rfl⟩)
   conv=>whnf
   conv=>whnf
   repeat' (refine z_ ?_;conv=>whnf)
   exact⟨_,iv 14,bx g { AJ a l with only:=true } (dW g P R d1 (i+1)),fun _ _ h=>h,zG (zJ (zu (V2 (s:={ AJ a l with only:=true }) (T:=l) rfl rfl rfl rfl) (zt 1 3 (by decide) rfl rfl))) (s:= [0,1,2,3,4,7]) tA,d1,hd1, .inr ⟨i,hi4,hT,ht,rfl,rfl⟩⟩
 ·have ei:i=4:=by omega
  subst ei;obtain⟨q1,q2,q3⟩:=hok 4 (Ah _);have hfl:=RT (dW g P R d1 4) q1.l q1.m fun w hw=>(q1.w w hw).1
  rw [if_neg (by rw [q2];decide),if_neg (by rw [q2];decide)] at hfl;have hdel:=Xo lba;conv=>whnf
  rw [show decide (((4:Nat):Int)<(R.length:Nat))=false from decide_eq_false (by omega)];conv=>whnf
  repeat' (refine z_ ?_;conv=>whnf)
  refine ze9 [1,2,3] hfl ?_;rintro _ _ ⟨rfl,rfl⟩;conv=>whnf
  repeat' (refine z_ ?_;conv=>whnf)
  refine⟨rfl,?_⟩;conv=>whnf
  refine Ae ⟨by rw [Ac],by show l.length+1<=1000000000;omega⟩ ?_;conv=>whnf
  repeat' (refine z_ ?_;conv=>whnf)
  refine zZ hdel ?_;conv=>whnf
  have e4:((R.length:Nat):Int)=4:=by omega
  rw [e4];exact⟨_,iv 0,bx g (AJ a (l ++ [⟨S,P,4,L⟩])) (dW g P R d1 4).flush,fun _ _ h=>h,zG (zJ (V2 (T:=l ++ [⟨S,P,4,L⟩]) rfl rfl (by rw [Ai];try rfl) (by rw [A8];try rfl))) (s:= [0,1,2,3,4,6]) tA,d1,hd1, .inl ⟨hT,rfl,rfl⟩⟩

theorem Q6 (g:Geo) (a:An) (l:List Tx) (d:Dk) (G:Gr) (lba:Int) (b:List UInt8) (t:List Ent) (hg:Bm g=true) (ha:Bn g a=true) (hring:Cw g l a.seq a.pos g.sl=true) (hst:Ox g d (AJ a l)=true) (hsm:StSm (AJ a l)) (hseq:a.seq+(l.length:Int)<=4294967295) (h:Gs (Aq g) d G) (hF:∀ a,(G a).bytes.length<=100000) (h8:∀ a,(G a).err≠8) (hlba:0<=lba/\lba<g.z*g.d) (hb:b.length=8) (hroom:4<=g.sl - C6 l) (hB:∀ p,Cr l (lba.tdiv g.d) 255=some p->p.1.bytes.length<=100000/\(BW g p.1.bytes).isSome=true) (htab:G0 g (AJ a l) G (lba.tdiv g.d)=some t) (S P:Int) (L:List Img) (hS:S=a.seq+(l.length:Int)) (hP:P=(a.pos+C6 l).tmod g.sl) (hL:L=F3 g (AJ a l) G S lba b) (hL3:L.length=3) (hLok:∀ x∈L,B3 g x=true) (hsm2:StSm (AJ a (l ++ [⟨S,P,4,L⟩]))) :
  Fn Tryz.prog 16 [.ag (AU g), .ag (EP d), .ag (Fe (AJ a l)),iA [lba],ER [b]] fun r=>∃ d1,Gs (Aq g) d1 G/\(((∀ j:Nat,j<4->tW g P (CP S a.epoch L) d1 j=true)/\r = .tp [.ag (Fe (AJ a (l ++ [⟨S,P,4,L⟩]))), .ag (EP (dW g P (CP S a.epoch L) d1 4).flush),iv 0])\/∃ k:Nat,k<4/\(∀ j:Nat,j<k->tW g P (CP S a.epoch L) d1 j=true)/\tW g P (CP S a.epoch L) d1 k=false/\r = .tp [.ag (Fe { AJ a l with only:=true }), .ag (EP (dW g P (CP S a.epoch L) d1 (k+1))),iv 14]):=by
 have c1:=Ta g d (AJ a l) h.ok hst hsm;have c2:=YU g a l d G lba b t hg ha hring hsm hseq h hF h8 hlba hb hroom hB htab S P L hS hP hL hL3 hLok;have hsm3:StSm { AJ a l with only:=true }:=⟨hsm.h,hsm.l,hsm.t,hsm.o⟩;obtain⟨g1,g2,g3,g4,g5⟩:=Ar.1 hg;have hun:=ET l l.length;have hep:0<=a.epoch/\a.epoch<=4294967295:=by
  have:=ha;simp only [Bn,A_,BC,B5,Ad,decide_eq_true_eq,AF] at this;omega
 obtain⟨a1,a2,a3,a4⟩:=Ej ha;have hS1:CQ S 0 4294967295=true:=AF.2 (by omega);have hRok:∀ k:Nat,k<4->Fz g ((CP S a.epoch L).getD k rc0)=true:=fun k hk=>by
  rw [I6 _ _ _ (by omega)];split
  ·rename_i q;exact Lw hg hS1 (AF.2 hep) (hLok _ (A5 (d:=⟨0,0, []⟩) q)) q hL3
  ·rw [show k=L.length by omega];exact Lu hg hS1 (AF.2 hep) hL3
 have hPb:∀ i:Nat,i<4->0<=Dd g P (i:Nat)/\Dd g P (i:Nat)<g.sl:=fun i hi=>Id hg (pos:=P) (at_:=(i:Nat)) (by rw [hP];exact⟨Bx _ (by unfold C6;omega),Bb _ (by omega)⟩) (by omega)
 refine zR Tryz.func16 rfl ?_;conv=>whnf
 refine zV c1 rfl ?_;rintro _ _ ⟨rfl,rfl⟩;conv=>whnf
 refine ze9 [5,6,7,8,9] c2 ?_;rintro _ _ ⟨d1,hd1,⟨hT,rfl,rfl⟩ | ⟨k,hk,hT,hTk,rfl,rfl⟩⟩
 ·have hok:=Oa hg hRok hPb hd1.ok hd1.left hd1.len 4 (Ah _);have c3:=Q9 _ hsm2;have c4:=QC g (AJ a (l ++ [⟨S,P,4,L⟩])) (dW g P (CP S a.epoch L) d1 4).flush hok.1.flush;conv=>whnf
  repeat' (refine z_ ?_;conv=>whnf)
  refine zZ c3 ?_;conv=>whnf
  refine ze9 [5,6,7,8,10] c4 ?_;rintro _ _ ⟨rfl,rfl⟩;exact⟨_,ri,d1,hd1, .inl ⟨hT,rfl⟩⟩
 ·have hok:=Oa hg hRok hPb hd1.ok hd1.left hd1.len (k+1) (by omega);have c3:=Q9 _ hsm3;have c4:=QC g { AJ a l with only:=true } (dW g P (CP S a.epoch L) d1 (k+1)) hok.1;conv=>whnf
  repeat' (refine z_ ?_;conv=>whnf)
  refine zZ c3 ?_;conv=>whnf
  refine ze9 [5,6,7,8,10] c4 ?_;rintro _ _ ⟨rfl,rfl⟩;exact⟨_,ri,d1,hd1, .inr ⟨k,hk,hT,hTk,rfl⟩⟩
end
end Go.Proofs.YtepdhdfoipephaaGreatDoor.A
