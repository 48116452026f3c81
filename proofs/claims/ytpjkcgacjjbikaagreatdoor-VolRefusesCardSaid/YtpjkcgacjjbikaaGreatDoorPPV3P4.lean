/-
Several texts in one.
-/
import Derived.Test.YtpjkcgacjjbikaaGreatDoorPPV3P3
import Derived.Test.YtpjkcgacjjbikaaGreatDoorPPV3P2
import Derived.Test.YtpjkcgacjjbikaaGreatDoorPPV3P1
import Derived.Maps.OwnSet
set_option maxRecDepth 100000
set_option maxHeartbeats 8000000
set_option linter.unusedSimpArgs false
set_option linter.unusedVariables false
set_option linter.deprecated false
namespace Go.Proofs.YtpjkcgacjjbikaaGreatDoor.A
section
open Go.RowKit
def iz:Img:=⟨0,0, []⟩
def Dy (l:List Img) (z w:Int):Nat->Option Img
 | 0=>none
 | k+1=>if (l.getD k iz).zone=z/\(l.getD k iz).what=w then some (l.getD k iz) else Dy l z w k
def F4 (l:List Tx) (z w:Int):Nat->Option (Img × Int)
 | 0=>none
 | k+1=>match Dy (l.getD k tz).images z w (l.getD k tz).images.length with
  | some x=>some (x,(l.getD k tz).seq)
  | none=>F4 l z w k
def CI (l:List Tx) (z w:Int):Option (Img × Int):=F4 l z w l.length
theorem N1 {l:List Img} {z w:Int}:∀ {k:Nat} {x:Img},k<=l.length->Dy l z w k=some x->x∈l/\x.zone=z/\x.what=w
 | k+1,x,hk,h=>by
  rw [Dy] at h;split at h
  ·rename_i hc;obtain rfl:=Option.some.inj h;exact⟨AC (by omega),hc⟩
  ·exact N1 (by omega) h
theorem N0 {l:List Tx} {z w:Int}:∀ {k:Nat} {x:Img} {s:Int},k<=l.length->F4 l z w k=some (x,s)->∃ t∈l,t.seq=s/\x∈t.images/\x.zone=z/\x.what=w
 | k+1,x,s,hk,h=>by
  rw [F4] at h;split at h
  ·rename_i y hy;obtain⟨rfl,rfl⟩:=Prod.mk.inj (Option.some.inj h);exact⟨l.getD k tz,AC (by omega),rfl,N1 (Ag _) hy⟩
  ·exact N0 (by omega) h
def Dw (a:An) (l:List Tx) (z:Int):Int:=match CI l z 255 with
 | some p=>p.2
 | none=>(a.homes.getD z.toNat ⟨[],0,0⟩).root
def IW (n:Int):Int:=if 0<=n/\n<=30 then n else 0
def GJ (l:List Tx):Nat->Int
 | 0=>0
 | k+1=>GJ l k+IW (l.getD k tz).n
def Ed (l:List Tx):Int:=GJ l l.length
theorem OR (n:Int):0<=IW n/\IW n<=30:=by
 unfold IW;split <;> omega
theorem G_ (l:List Tx):∀ k:Nat,0<=GJ l k/\GJ l k<=30*k
 | 0=>by simp [GJ]
 | k+1=>by
  have:=G_ l k;have:=OR (l.getD k tz).n;rw [GJ];omega
def Ex (g:Geo) (w:Int):Int:=if w = -1 then g.d else w
def D3 (g:Geo) (a:An) (z w:Int):Int:=Cx g z ((a.homes.getD z.toNat ⟨[],0,0⟩).places.getD (Ex g w).toNat 0)
def Cw (g:Geo) (x:Gt) (addr root:Int):Option (List Ent):=match D7 x addr with
 | some s=>if s.stamp=root then CU g s.pay else none
 | none=>none
def DI (x:Gt) (addr:Int) (e:Ent):Option (List UInt8):=match D7 x addr with
 | some s=>if s.stamp=e.stamp/\s.pay.length=8/\((DH s.pay:Nat):Int)=e.sum then some s.pay else none
 | none=>none
def GP (a b:List UInt8):List UInt8:=List.zipWith (fun x y=>x ^^^ y) a b
def ez:Ent:=⟨0,0,false⟩
def Ia (t:List Ent) (had:List (List UInt8)) (at_:Nat):Nat->Option (List UInt8)
 | 0=>some zero8
 | k+1=>match Ia t had at_ k with
  | none=>none
  | some b=>if k=at_\/(t.getD k ez).lost=true then some b else if (had.getD k []).length=0 then none else some (GP b (had.getD k []))
def FO (g:Geo) (t:List Ent) (had:List (List UInt8)) (at_:Nat):List UInt8:=
 if (t.getD at_ ez).lost then []
 else if 0<(had.getD at_ []).length then had.getD at_ []
 else match Ia t had at_ (g.d.toNat+1) with
  | none=> []
  | some b=>if ((DH b:Nat):Int)=(t.getD at_ ez).sum then b else []
def flatX:AV->Bool
 | .v _=>true
 | _=>false
def flatO:AV->Bool
 | .v _=>true
 | .ow _ _=>true
 | .tp l=>l.all fun x=>match x with | .v _=>true | .ow _ _=>true | _=>false
 | _=>false
def flatR:List AB->Bool
 | []=>true
 | .row _ _ es::r=>es.flatten.all flatX&&flatR r
 | _::_=>false
theorem PT {c c':Ctx}:∀ {l:List AV} {us:List Value},l.all flatX=true->RdL l c us->RdL l c' us
 | [],us,_,h=>by simpa only [RdL] using h
 | x::l,us,hf,h=>by
  rw [Bb,Ae] at hf;simp only [RdL] at h |-
  obtain⟨u,vs,rfl,h1,h2⟩:=h;refine⟨u,vs,rfl,?_,PT hf.2 h2⟩;cases x <;> simp [flatX] at hf;simpa only [Rd] using h1
theorem O7 {c c':Ctx} (hr:c'.rho=c.rho) (hl:c'.len=c.len) (hd:c'.dom=c.dom) {x:AV} (hx:(match x with | .v _=>true | .ow _ _=>true | _=>false)=true) {u:Value} (h:Rd x c u):Rd x c' u:=by
 cases x <;> simp at hx
 ·simpa only [Rd] using h
 ·simp only [Rd] at h |-
  rw [hr,hl,hd];exact h
theorem VK {c c':Ctx} (hr:c'.rho=c.rho) (hl:c'.len=c.len) (hd:c'.dom=c.dom) {x:AV} (hx:flatO x=true) {u:Value} (h:Rd x c u):Rd x c' u:=by
 cases x with
 | v y=>exact O7 hr hl hd rfl h
 | ow k n=>exact O7 hr hl hd rfl h
 | tp l=>
  simp only [Rd] at h |-
  obtain⟨xs,rfl,hxs⟩:=h;refine⟨xs,rfl,?_⟩;simp only [flatO] at hx;induction l generalizing xs with
  | nil=>simpa only [RdL] using hxs
  | cons y l ih=>
   rw [Bb,Ae] at hx;simp only [RdL] at hxs |-
   obtain⟨u,us,rfl,h1,h2⟩:=hxs;exact⟨u,us,rfl,O7 hr hl hd hx.1 h1,ih hx.2 us h2⟩
 | _=>simp [flatO] at hx
theorem flatR_mem:∀ {R:List AB} {y:AB},flatR R=true->y∈R->∃ t sz es,y = .row t sz es/\es.flatten.all flatX=true
 | .row t sz es::r,y,h,hy=>by
  rw [flatR,Ae] at h;rcases AX.1 hy with rfl | hy
  ·exact⟨t,sz,es,rfl,h.1⟩
  ·exact flatR_mem h.2 hy
theorem FnO.lend {P:Program} {f:FuncId} {args args':List AV} {H:List AB} {K:AV->List AB->Prop} {q:Bool} {k:AV->List AB->Prop} (h:FnO P f args' K) (hs:sealA args H fun a _=>a=args') (hk:∀ r R,K r R->(flatO r=true/\flatR R=true)/\appK H R 0 fun d H=>CY (r.shift d) fun r=>k r H):ACalls P q f args H k:=by
 refine⟨h.go,fun w0 M0 c us hs0 hr=>?_⟩;obtain⟨l',H',c',rfl,h2,h3,h4,h5,_⟩:=sealA_sound hs0 hr hs;have hglob:globOk c'.closed.w:=h3.glob;have hc:=h.calls c'.closed us hglob rfl h3.lt h5;have ew:c'.closed.w=c.w:=h2
 suffices hh:Calls P f us.toArray c'.closed.w fun e w'=>∃ v c1 r H1,e = .returned v/\c1.w=w'/\k r H1/\HS w0 M0 c1 H1/\Ext c c1/\Rd r c1 v/\(q=true->Old c.w w') by
  rw [ew] at hh;exact hh
 refine hc.mono ?_;rintro e w' ⟨v,r,c2,R,rfl,q1,rfl,q2,q3,q4⟩;obtain⟨⟨f1,f2⟩,hkk⟩:=hk r R q1
 -- the same memory;what the caller holds is not read
 obtain⟨c3,e3⟩:∃ c3:Ctx,c3={ c2 with M:=fun b=>c2.M b\/c.M b }:=⟨_,rfl⟩;have hsub:∀ b,b<c.w.heap.size->c'.M b->c.M b:=fun b hb hm=>by
  by_cases hx:c.M b
  ·exact hx
  ·exact absurd hm (h4.keep b hb hx).1
 have hlow:=q2.low;have q2':HS (Fl.all c.w hs0.glob) c.M c3 R:=by
  subst e3;refine⟨⟨?_,?_,?_,?_,?_⟩,q2.base,q2.dom,fun b hb=>?_,fun b hb=>?_,fun i y hi=>?_,fun i y g hi hl ho=>?_,q2.dis⟩
  ·have:=hlow.os;rw [show (Fl.all c'.closed.w hglob).w=c.w from ew] at this;exact this
  ·have:=hlow.tape;rw [show (Fl.all c'.closed.w hglob).w=c.w from ew] at this;exact this
  ·have:=hlow.output;rw [show (Fl.all c'.closed.w hglob).w=c.w from ew] at this;exact this
  ·have:=hlow.size;rw [show (Fl.all c'.closed.w hglob).w=c.w from ew] at this;exact this
  ·intro b hb;have:=hlow.block b (by show b<c'.closed.w.heap.size;rw [ew];exact hb);rw [show (Fl.all c'.closed.w hglob).w=c.w from ew] at this;exact this
  ·have hb':b<c.w.heap.size:=hb;have:=q2.foreign b (by show b<c'.closed.w.heap.size;rw [ew];exact hb');exact⟨fun hx=>hx.elim (fun hx=>hsub b hb' (this.1 hx)) (fun hx=>hx),fun hx=> .inr hx⟩
  ·have hsz:c.w.heap.size<=c2.w.heap.size:=by
    have:=hlow.size;rw [show (Fl.all c'.closed.w hglob).w=c.w from ew] at this;exact this
   rcases hb with hb | hb
   ·exact q2.lt b hb
   ·exact As (hs0.lt b hb) hsz
  ·obtain⟨t,sz,es,rfl,hfl⟩:=flatR_mem f2 (List.mem_of_getElem? hi);obtain⟨a1,a2,a3,xs,a4,a5,a6⟩:=q2.blk i _ hi;exact⟨a1,a2,a3,xs,a4,PT hfl a5,a6⟩
  ·have:=q2.own i y g hi hl ho;refine⟨.inl this.1,fun hx=>this.2 ?_⟩;show g<c'.closed.w.heap.size;rw [ew];exact hx
 have q3':Rd r c3 v:=VK (by rw [e3]) (by rw [e3]) (by rw [e3]) f1 q3;have q5:c3.w=c2.w:=by rw [e3]
 obtain⟨p1,p2⟩:=hs0.beside (c':=c3) q2' q4;have h1:=BE (appK_iff hkk);rw [Av,<-hs0.dom] at h1;exact⟨v,c.beside c3,_,_,rfl,by show c3.w=_;exact q5,h1,p1,p2,Rd.shift r q3',fun _=>by have:=q2'.low.below.old;rw [q5] at this;exact this⟩
theorem FnO.subA {P:Program} {f:FuncId} {args args':List AV} {K:AV->List AB->Prop} (h:FnO P f args' K) (hs:SubL args args'):FnO P f args K:=
 ⟨h.go,fun c0 us hg h1 h2 h3=>h.calls c0 us hg h1 h2 (hs.rdl h3)⟩
theorem Nd (l:List Tx) (hl:l.length<=1000000):Fn Tryz.prog 144 [Dt l] fun r=>r = iv (Ed l):=by
 refine zT Tryz.func144 rfl ?_;conv=>whnf
 refine zS Nat (fun k=>([(0,Dt l),(3,iv (GJ l k)),(6,Dt l),(7,iv (l.length:Nat)),(8,iv k)], [])) (fun k=>k<=l.length) (fun k=>l.length - k) 0 (Aj _)
  (zR (s:= []) tA) ?_
 intro k hk;conv=>whnf
 refine AP (fun h6=>?_) (fun h6=>?_) <;> (repeat rw [Ac] at h6) <;> conv=>whnf
 ·have hk':k<l.length:=by omega
  have hb:=G_ l k;have hs:GJ l (k+1)=GJ l k+IW (l.getD (k:Int).toNat ⟨0,0,0, []⟩).n:=rfl;have hn:=OR (l.getD (k:Int).toNat ⟨0,0,0, []⟩).n;repeat' (refine zZ ?_;conv=>whnf)
  refine⟨⟨by omega,by omega⟩,?_⟩;conv=>whnf
  by_cases h0:(l.getD (k:Int).toNat ⟨0,0,0, []⟩).n>=0
  ·rw [show decide ((l.getD (k:Int).toNat ⟨0,0,0, []⟩).n>=0)=true from decide_eq_true h0];conv=>whnf
   by_cases h1:(l.getD (k:Int).toNat ⟨0,0,0, []⟩).n<=30
   ·rw [show decide ((l.getD (k:Int).toNat ⟨0,0,0, []⟩).n<=30)=true from decide_eq_true h1];have hu:IW (l.getD (k:Int).toNat ⟨0,0,0, []⟩).n=(l.getD (k:Int).toNat ⟨0,0,0, []⟩).n:=if_pos ⟨h0,h1⟩;conv=>whnf
    exact⟨k+1,hk',by omega,zR (s:= []) ⟨⟨rfl,congrArg (fun n:Int=>AV.v (.int .i64 n)) (by rw [hs,hu,wi (by rw [<-hu];omega)]),rfl,rfl,AQ (by omega),tv⟩,tv,rfl,rfl,rfl,rfl,rfl⟩⟩
   ·rw [show decide ((l.getD (k:Int).toNat ⟨0,0,0, []⟩).n<=30)=false from decide_eq_false h1];have hu:IW (l.getD (k:Int).toNat ⟨0,0,0, []⟩).n=0:=if_neg fun h=>h1 h.2
    exact⟨k+1,hk',by omega,zR (s:= []) ⟨⟨rfl,congrArg (fun n:Int=>AV.v (.int .i64 n)) (by rw [hs,hu,Int.add_zero]),rfl,rfl,AQ (by omega),tv⟩,tv,rfl,rfl,rfl,rfl,rfl⟩⟩
  ·rw [show decide ((l.getD (k:Int).toNat ⟨0,0,0, []⟩).n>=0)=false from decide_eq_false h0];have hu:IW (l.getD (k:Int).toNat ⟨0,0,0, []⟩).n=0:=if_neg fun h=>h0 h.1
   exact⟨k+1,hk',by omega,zR (s:= []) ⟨⟨rfl,congrArg (fun n:Int=>AV.v (.int .i64 n)) (by rw [hs,hu,Int.add_zero]),rfl,rfl,AQ (by omega),tv⟩,tv,rfl,rfl,rfl,rfl,rfl⟩⟩
 ·have ek:k=l.length:=by omega
  subst ek;exact⟨_,ri,rfl⟩
theorem Td (g:Geo) (a:An) (l:List Tx) (hg:Bt g=true) (ha:B7 g a=true) (hr:CO g l a.seq a.pos g.sl=true) (hl:l.length<=1000000) (hi:∀ t∈l,t.images.length<=1000000/\∀ x∈t.images,x.bytes.length<=100000) (hla:a.label.size<=1000000) (hh:a.homes.length<=1000000) (hs:a.seq+(l.length:Int)<=4294967295):Fn Tryz.prog 73 [.ag (Bh g), .ag (Fi a),Dt l] fun r=>r = .tp [iv ((a.pos+Ed l).tmod g.sl),iv (a.seq+l.length),iv 0]:=by
 obtain⟨g1,g2,g3,g4,g5⟩:=Ay.1 hg;have hu:=Nd l hl;have hb:=G_ l l.length;have hc:=NV g a l hla hh hl hi;rw [hg,ha,hr] at hc;have hp:(1<=a.seq/\a.seq<=4294967295)/\(0<=a.pos/\a.pos<g.sl):=by
  simp only [B7,Bb,BM,BC,Ae,decide_eq_true_eq,AJ] at ha;omega
 have hw:IntKind.i64.wrap (a.seq+(l.length:Int))=a.seq+l.length:=wi (by omega);have ixA:g.sl≠0:=by omega
 refine zT Tryz.func73 rfl ?_;conv=>whnf
 refine zY hc ?_;conv=>whnf
 apply zH tys_ok mixed (.o [0,1,2,5,6,8,9,10,11,12,3,4,7,13,14] .fin) [6,7,16,17,18,19,20,21,22,23,24,25,26,27,28] (by kernel_rfl)
 ·conv=>whnf
  refine zY hu ?_;conv=>whnf
  try (refine Ai (by first | omega | exact ixA | exact ixB | (simp;done)) ?_;conv=>whnf)
  exact tA
 conv=>whnf
 rw [hw];rw [show decide (a.seq+(l.length:Int) > 4294967295)=false from decide_eq_false (by omega)];conv=>whnf
 exact⟨_,ri,by rw [wi (n:=a.pos+Ed l) (by unfold Ed;omega)]⟩
def Ld (g:Geo):Int:=1+g.sl+g.z*(2+g.d)
theorem Uu {g:Geo} (hg:Bt g=true):18<=Ld g/\Ld g<=55/\(3<=g.z*(2+g.d)/\g.z*(2+g.d)<=24):=by
 obtain⟨g1,g2,g3,g4,g5⟩:=Ay.1 hg;have h1:g.z*(2+g.d)<=4*6:=Int.mul_le_mul (by omega) (by omega) (by omega) (by omega);have h2:1*3<=g.z*(2+g.d):=Int.mul_le_mul (by omega) (by omega) (by omega) (by omega);unfold Ld;omega
def Z2 (n:Int) (l:List Int) (i:Nat):Bool:=decide (0<=l.getD i 0)&&(decide (l.getD i 0<n)&&(decide (i=0) || decide (l.getD (i - 1) 0<l.getD i 0)))
def YG (n:Int) (l:List Int):Bool:=(List.range l.length).all (Z2 n l)
def LS (g:Geo) (s:Stt):Bool:=YG (g.z*g.d) s.lost&&(decide (0<=s.found)&&(decide (0<=s.fixed)&&decide (0<=s.moved)))
def Zr (g:Geo) (d:Dk) (s:Stt):Bool:=Bt g&&((Xb d&&decide ((d.cells.length:Int)=A7 g))&&(((Bt g&&B7 g s.a)&&CO g s.txns s.a.seq s.a.pos g.sl)&&(decide (0<=s.cursor)&&(decide (s.cursor<Ld g)&&LS g s))))
structure StBig (s:Stt):Prop where
 l:s.a.label.size<=1000000
 h:s.a.homes.length<=1000000
 t:s.txns.length<=1000000/\∀ t∈s.txns,t.images.length<=1000000/\∀ x∈t.images,x.bytes.length<=100000
 o:s.lost.length<=1000000



def sumT:List Tx->Int
 | []=>0
 | t::r=>t.n+sumT r
theorem sumT_app:∀ l m:List Tx,sumT (l ++ m)=sumT l+sumT m
 | [],m=>by simp [sumT]
 | t::r,m=>by
  show t.n+sumT (r ++ m)=_;rw [sumT_app r m,sumT];omega
theorem MW {l:List Tx} (h:∀ t∈l,0<=t.n/\t.n<=30):∀ k:Nat,k<=l.length->GJ l k=sumT (l.take k)
 | 0,_=>by simp [GJ,sumT]
 | k+1,hk=>by
  have e:l.take (k+1)=l.take k ++ [l.getD k tz]:=by
   rw [Bi,Af (by omega),Ab,Af (by omega)];try rfl
  have hm:=h _ (AC (d:=tz) (show k<l.length by omega));rw [GJ,MW h k (by omega),e,sumT_app,IW,if_pos hm];simp [sumT]
theorem SJ {l:List Tx} (h:∀ t∈l,0<=t.n/\t.n<=30):Ed l=sumT l:=by
 have:=MW h l.length (Ag _);rwa [A5] at this
theorem SP {p n s q:Int} (hs:0<s) (hp:0<=p) (hn:0<=n) (hq:0<=q):((p+n).tmod s+q).tmod s=(p+(n+q)).tmod s:=by
 have h1:0<=(p+n).tmod s:=BH _ (by omega);rw [Da (a:=p+n) (by omega)] at h1 |-
 rw [Da (by omega),Da (by omega),Int.emod_add_emod,Int.add_assoc]
theorem WB {l:List Tx} (h:∀ t∈l,0<=t.n/\t.n<=30):0<=sumT l:=by
 induction l with
 | nil=>simp [sumT]
 | cons t r ih=>
  have:=h t (by simp);have:=ih fun x hx=>h x (Be _ hx)
  rw [sumT];omega
theorem FZ {g:Geo} (hg:Bt g=true):∀ {l:List Tx} {seq pos left:Int},left<=g.sl->CO g l seq pos left=true->(∀ t∈l,0<=t.n/\t.n<=30)/\sumT l<=max left 0
 | [],_,_,left,_,_=>⟨by simp,by simp [sumT];omega⟩
 | t::r,seq,pos,left,hl,h=>by
  obtain⟨g1,g2,g3,g4,g5⟩:=Ay.1 hg;simp only [CO,Ae,decide_eq_true_eq] at h;obtain⟨⟨h1,h2,h3,h4,h5,h6,h7⟩,h8⟩:=h;have ih:=FZ hg (by omega) h8;refine⟨fun x hx=>?_,?_⟩
  ·rcases AX.1 hx with rfl | hx
   ·omega
   ·exact ih.1 x hx
  ·rw [sumT];have:=ih.2;omega
theorem Ks {g:Geo} (hg:Bt g=true) {x:Tx}:∀ {l:List Tx} {seq pos left:Int},0<=pos->pos<g.sl->left<=g.sl->CO g l seq pos left=true->x.seq=seq+l.length->x.seq<=4294967295->x.pos=(pos+sumT l).tmod g.sl->2<=x.n->x.n<=left - sumT l->x.n=x.images.length+1->x.images.all (BW g)=true->CO g (l ++ [x]) seq pos left=true
 | [],seq,pos,left,h0,h1,_,_,e1,e2,e3,e4,e5,e6,e7=>by
  have e3':x.pos=pos:=by
   rw [e3,show sumT []=0 from rfl,Int.add_zero,Da h0,Int.emod_eq_of_lt h0 h1]
  simp only [AO] at e1;have e1':x.seq=seq:=by omega
  have e5':x.n<=left:=by have:sumT []=0:=rfl;omega
  show (decide (x.seq=seq)&&(decide (x.seq<=4294967295)&&(decide (x.pos=pos)&&(decide (2<=x.n)&&(decide (x.n<=left)&&(decide (x.n=x.images.length+1)&&x.images.all (BW g)))))))&&true=true;rw [decide_eq_true e1',decide_eq_true e2,decide_eq_true e3',decide_eq_true e4,decide_eq_true e5',decide_eq_true e6,e7];try rfl
 | t::r,seq,pos,left,h0,h1,hl,h,e1,e2,e3,e4,e5,e6,e7=>by
  obtain⟨g1,g2,g3,g4,g5⟩:=Ay.1 hg;have hh:=h;simp only [CO,Ae,decide_eq_true_eq] at hh;obtain⟨⟨q1,q2,q3,q4,q5,q6,q7⟩,q8⟩:=hh;have hin:=(FZ hg (by omega) q8).1;have hnn:=WB hin;have hp0:0<=(pos+t.n).tmod g.sl:=BH _ (by omega);have hp1:(pos+t.n).tmod g.sl<g.sl:=B3 _ (by omega);rw [sumT] at e3 e5;have ih:=Ks hg (x:=x) hp0 hp1 (by omega) q8 (by rw [e1];simp only [Ao];omega) e2 (by rw [e3,SP (by omega) h0 (by omega) hnn]) e4 (by omega) e6 e7;show (_&&CO g (r ++ [x]) (seq+1) ((pos+t.n).tmod g.sl) (left - t.n))=true;rw [ih,BC];simp only [CO,Ae] at h;simpa using h.1
def EA (ats:List Int) (bs:List (List UInt8)) (i:Nat):Nat->Option (List UInt8)
 | 0=>none
 | k+1=>if ats.getD k 0=(i:Int) then some (bs.getD k []) else EA ats bs i k
def G4 (g:Geo) (t:List Ent) (had:List (List UInt8)) (ats:List Int) (bs:List (List UInt8)) (i:Nat):List UInt8:=match EA ats bs i ats.length with
 | some b=>b
 | none=>FO g t had i
def Om (g:Geo) (t:List Ent) (had:List (List UInt8)) (ats:List Int) (bs:List (List UInt8)) (stamp:Int) (i:Nat):Ent:=
 let e:Ent:=match EA ats bs i ats.length with
  | some b=>⟨stamp,(DH b:Nat),false⟩
  | none=>t.getD i ez
 if (G4 g t had ats bs i).length=0 then { e with lost:=true } else e
def EV (g:Geo) (t:List Ent) (had:List (List UInt8)) (ats:List Int) (bs:List (List UInt8)):Nat->List UInt8
 | 0=>zero8
 | k+1=>if (G4 g t had ats bs k).length=0 then EV g t had ats bs k else GP (EV g t had ats bs k) (G4 g t had ats bs k)
def BK (g:Geo) (t:List Ent) (had:List (List UInt8)) (ats:List Int) (bs:List (List UInt8)) (stamp:Int):List Ent:=(List.range g.d.toNat).map (Om g t had ats bs stamp) ++ [⟨stamp,(DH (EV g t had ats bs g.d.toNat):Nat),false⟩]
def C0 (z:Int) (t:List Ent) (par:List UInt8) (ats:List Int) (bs:List (List UInt8)):List Img:=((List.range ats.length).map fun i=>⟨z,ats.getD i 0,bs.getD i []⟩) ++ [⟨z, -1,par⟩,⟨z,255,Df t⟩]
theorem Jb (b:List UInt8):DH b<=4294967295:=by unfold DH;omega
theorem FV (a b:List UInt8):(GP a b).length=min a.length b.length:=by simp [GP]
theorem Kv {t:List Ent} {had:List (List UInt8)} {at_:Nat} (hh:∀ b∈had,b.length=0\/b.length=8):∀ (k:Nat) (b:List UInt8),Ia t had at_ k=some b->b.length=8
 | 0,b,h=>by
  obtain rfl:=Option.some.inj h;rfl
 | k+1,b,h=>by
  rw [Ia] at h;cases hk:Ia t had at_ k with
  | none=>rw [hk] at h;cases h
  | some c=>
   rw [hk] at h;have ih:=Kv hh k c hk;simp only at h;split at h
   ·grind
   ·split at h
    ·cases h
    ·rename_i h0;obtain rfl:=Option.some.inj h;have hm:(had.getD k []).length=8:=by
      grind
     rw [FV,ih,hm];try rfl
theorem Rg {g:Geo} {t:List Ent} {had:List (List UInt8)} (hh:∀ b∈had,b.length=0\/b.length=8) (i:Nat):(FO g t had i).length=0\/(FO g t had i).length=8:=by
 unfold FO;split
 ·grind
 ·split
  ·grind
  ·cases ho:Ia t had i (g.d.toNat+1) with
   | none=>exact .inl rfl
   | some b=>
    simp only;split
    ·exact .inr (Kv hh _ _ ho)
    ·grind
section
variable {g:Geo} {t:List Ent} {had:List (List UInt8)} {ats:List Int} {bs:List (List UInt8)}
theorem JL (hb:∀ b∈bs,b.length=8) (hl:ats.length<=bs.length) {i:Nat}:∀ (k:Nat) (b:List UInt8),k<=ats.length->EA ats bs i k=some b->b.length=8
 | k+1,b,hk,h=>by
  rw [EA] at h;split at h
  ·grind
  ·exact JL hb hl k b (by omega) h
theorem UX (hh:∀ b∈had,b.length=0\/b.length=8) (hb:∀ b∈bs,b.length=8) (hl:ats.length<=bs.length) (i:Nat):(G4 g t had ats bs i).length=0\/(G4 g t had ats bs i).length=8:=by
 unfold G4;cases hp:EA ats bs i ats.length with
 | none=>exact Rg hh i
 | some b=>exact .inr (JL hb hl _ b (Ag _) hp)
theorem Hr (hh:∀ b∈had,b.length=0\/b.length=8) (hb:∀ b∈bs,b.length=8) (hl:ats.length<=bs.length):∀ k:Nat,(EV g t had ats bs k).length=8
 | 0=>rfl
 | k+1=>by
  have ih:=Hr hh hb hl k;rw [EV];split
  ·exact ih
  ·rename_i h0;rcases UX (g:=g) (t:=t) hh hb hl k with q | q
   ·exact absurd q h0
   ·rw [FV,ih,q];try rfl
theorem GX (hg:Bt g=true) (ht:Ib g t=true) {stamp:Int} (hs:0<=stamp/\stamp<=4294967295):Ib g (BK g t had ats bs stamp)=true:=by
 obtain⟨g1,g2,g3,g4,g5⟩:=Ay.1 hg;have hsum:∀ b:List UInt8,Iy ((DH b:Nat):Int)=true:=fun b=>AJ.2 (by have:=Jb b;omega)
 have hst:Iy stamp=true:=AJ.2 hs;have hl:(BK g t had ats bs stamp).length=g.d.toNat+1:=by simp [BK]
 rw [Ib,hg] at ht;simp only [BB,Ae,decide_eq_true_eq,Ch] at ht;obtain⟨⟨t1,t2⟩,t3⟩:=ht;rw [Ib,hg,decide_eq_true (by rw [hl];omega)];have hall:(BK g t had ats bs stamp).all Eh=true:=by
  rw [Au];intro x hx;simp only [BK,Az,AK,AL,A4] at hx;rcases hx with ⟨i,hi,rfl⟩ | rfl
  ·have he:∀ e:Ent,Eh e=true->Eh { e with lost:=true }=true:=fun e h=>h
   have h0:Eh (match EA ats bs i ats.length with | some b=>(⟨stamp,(DH b:Nat),false⟩:Ent) | none=>t.getD i ez)=true:=by
    cases EA ats bs i ats.length with
    | some b=>simp only [Eh,hst,hsum,Bool.and_self]
    | none=>exact Au.1 t2 _ (AC (d:=ez) (by omega))
   unfold Om
   grind
  ·simp only [Eh,hst,hsum,Bool.and_self]
 rw [hall];have hla:ID (BK g t had ats bs stamp) g.d.toNat=false:=by
  unfold ID BK
  grind
 grind
end
theorem Rx {x:Ent} (h:Eh x=true) (r:List UInt8):K3 (J1 x ++ r)=x:=by
 obtain⟨a,s,l⟩:=x;simp only [Eh,Iy,Ae,AJ] at h;have hn:nums [4,4,1] (rowB [a,s,CW l] [4,4,1] ++ r)=[a,s,CW l]:=nums_rowB [a,s,CW l] [4,4,1] r rfl (fun k h1 _=>by
  match k,h1 with
  | 0,_=>exact⟨.inr (.inr rfl),h.1.1,by show a<4294967296;omega⟩
  | 1,_=>exact⟨.inr (.inr rfl),h.2.1,by show s<4294967296;omega⟩
  | 2,_=>exact⟨.inl rfl,by show 0<=CW l;unfold CW;split <;> decide,by show CW l<256;unfold CW;split <;> decide⟩)
 unfold K3 J1;rw [hn];cases l <;> rfl
theorem entsOf_tblB:∀ (t:List Ent),(∀ e∈t,Eh e=true)->entsOf t.length (Df t)=t
 | [],_=>rfl
 | e::t,h=>by
  have e1:Df (e::t)=J1 e ++ Df t:=by simp [Df]
  have e2:(J1 e ++ Df t).drop 9=Df t:=by
   rw [List.drop_append_of_le_length (by rw [J0];exact Ag _),A9 (by rw [J0];exact Ag _)];try rfl
  show K3 (Df (e::t))::entsOf t.length ((Df (e::t)).drop 9)=e::t;rw [e1,e2,Rx (h e (by simp)),entsOf_tblB t fun x hx=>h x (Be _ hx)]
theorem I6 {g:Geo} {t:List Ent} (ht:Ib g t=true):CU g (Df t)=some t:=by
 have hh:=ht;simp only [Ib,Ae,decide_eq_true_eq,Au] at hh;obtain⟨⟨⟨_,t1⟩,t2⟩,_⟩:=hh;have e:(g.d+1).toNat=t.length:=by omega
 unfold CU;rw [e,entsOf_tblB t t2,if_pos ⟨ht,rfl⟩]
def OneTab (l:List Img):Prop:=l.Pairwise fun x y=>x.what=255->y.what=255->x.zone≠y.zone
theorem H0 (z:Int) (t:List Ent) (par:List UInt8) (ats:List Int) (bs:List (List UInt8)):(C0 z t par ats bs).length=ats.length+2:=by simp [C0]
theorem Rj {g:Geo} (hg:Bt g=true) {z:Int} (hz:0<=z/\z<g.z) {t:List Ent} (ht:Ib g t=true) {par:List UInt8} (hp:par.length=8) {ats:List Int} (ha:∀ a∈ats,0<=a/\a<g.d) {bs:List (List UInt8)} (hb:∀ b∈bs,b.length=8) (hl:ats.length<=bs.length):∀ x∈C0 z t par ats bs,BW g x=true/\x.zone=z:=by
 obtain⟨g1,g2,g3,g4,g5⟩:=Ay.1 hg;have hz':Do z 0 (g.z - 1)=true:=AJ.2 (by omega);intro x hx;simp only [C0,Az,AK,AL,AX,Dz,or_false] at hx;rcases hx with ⟨i,hi,rfl⟩ | rfl | rfl
 ·have h1:=ha _ (AC (d:=0) hi);have h2:=hb _ (AC (d:= []) (show i<bs.length by omega));refine⟨?_,rfl⟩;simp only [BW,hg,hz',BB];rw [if_neg (by omega),AJ.2 (show -1<=ats.getD i 0/\ats.getD i 0<=g.d - 1 by omega),decide_eq_true h2];try rfl
 ·refine⟨?_,rfl⟩;simp only [BW,hg,hz',BB];rw [if_neg (by decide),AJ.2 (show (-1:Int)<= -1/\(-1:Int)<=g.d - 1 by omega),decide_eq_true hp];try rfl
 ·refine⟨?_,rfl⟩;simp only [BW,hg,hz',BB];rw [if_pos trivial,I6 ht];try rfl
theorem PE {g:Geo} (hg:Bt g=true) {l:List Img} {z:Int} (hl:OneTab l) (hz:∀ x∈l,x.zone<z) {t:List Ent} {par:List UInt8} {ats:List Int} (ha:∀ a∈ats,0<=a/\a<g.d) {bs:List (List UInt8)}:OneTab (l ++ C0 z t par ats bs):=by
 obtain⟨g1,g2,g3,g4,g5⟩:=Ay.1 hg;have hw:∀ x∈(List.range ats.length).map (fun i=>(⟨z,ats.getD i 0,bs.getD i []⟩:Img)),x.what≠255:=by
  intro x hx;obtain⟨i,hi,rfl⟩:=AK.1 hx;have:=ha _ (AC (d:=0) (AL.1 hi))
  grind
 refine List.pairwise_append.2 ⟨hl,List.pairwise_append.2 ⟨List.Pairwise.imp_of_mem (R:=fun _ _=>True) (fun hx _ _ h=>absurd h (hw _ hx)) (List.pairwise_of_forall (fun _ _=>trivial)),?_,fun x hx y _ h=>absurd h (hw _ hx)⟩,fun x hx y hy _ _=>?_⟩
 ·grind
 ·have h1:=hz x hx;have h2:y.zone=z:=by
   simp only [C0,Az,AK,AL,AX,Dz,or_false] at hy
   grind
  omega
@[reducible] def ZN (g:Geo) (x:AV) (s:Stt) (e:Int):List AV:= [iv g.z,iv g.d,iv g.sp,iv g.sl,iv g.an,x,iv s.a.gen,iv s.a.epoch,iv s.a.pos,iv s.a.seq,iv s.a.last, .v (.string s.a.label),GS s.a.homes,Dt s.txns, .v (.bool s.only),iv s.cursor,iv s.found,iv s.fixed,iv s.moved,iA s.lost,iv e]
@[reducible] def aO (g:Geo) (s:Stt) (e:Int) (d:Dk):List AB:= [.box 132 (ZN g (.bp 1 0) s e), .box 133 (K4 (.ow 2 d.cells.length) (.ow 3 d.cache.length) d.reqs d.left), .row 68 3 (d.cells.map Cc), .row 152 2 (d.cache.map FB)]
@[reducible] def aP (g:Geo) (s:Stt) (e:Int) (d:Dk):List AB:= [.box 132 (ZN g (.bp 1 0) s e), .box 133 (K4 (.ow 2 d.cells.length) (.ow 4 d.cache.length) d.reqs d.left), .row 68 3 (d.cells.map Cc), .dead, .row 152 2 (d.cache.map FB)]
@[reducible] def aQ (g:Geo) (s:Stt) (e:Int) (d:Dk) (l:List AB):List AB:= .box 132 (ZN g (.bp 1 0) s e):: .box 133 (K4 (.ow 2 d.cells.length) (.ow 3 d.cache.length) d.reqs d.left):: .row 68 3 (d.cells.map Cc):: .row 152 2 (d.cache.map FB)::l

theorem ACalls.lendBox {P:Program} {q:Bool} {f:FuncId} {x:AV} {H:List AB} {K:AV->List AB->Prop} (j k:Nat) {t t':TypeId} {sz':Nat} {cs cs2:List AV} {es':List (List AV)} (hj:H[j]? = some (.box t cs)) (hk:H[k]? = some (.row t' sz' es'))
  (he:cs.map (AV.slIn k es'.length (.sl sz' es'.length fun i=>es'.getD i []))=cs2) (hc:ACalls P q f [x, .ag cs2] ((H.set k .dead).set j (.box t cs2)) K):ACalls P q f [x, .ag cs] H K:=by
 refine⟨hc.go,fun w0 M0 c us hs hr=>?_⟩;subst he;have hjk:j≠k:=by rintro rfl;rw [hj] at hk;cases hk
 obtain⟨c1,e1,s1,x1,r1⟩:=hs.freeze hk;have hj1:(H.set k .dead)[j]? = some (.box t cs):=by rw [A3 (Ne.symm hjk)];exact hj
 have h8:∀ (l:List AV) (us:List Value),RdL l c us->RdL (l.map (AV.slIn k es'.length (.sl sz' es'.length fun i=>es'.getD i []))) c1 us:=by
  intro l;induction l with
  | nil=>intro us h;simp only [RdL] at h;subst h;simp [RdL]
  | cons x l ih=>
   intro us h;simp only [RdL] at h;obtain⟨u,vs,rfl,a1,a2⟩:=h;simp only [A6,RdL];refine⟨u,vs,rfl,?_,ih vs a2⟩;unfold AV.slIn;split
   ·rename_i i n;split
    ·rename_i hik;subst hik;split
     ·rename_i hn;subst hn;exact r1 u a1
     ·simp [Rd]
    ·exact Rd.ext _ x1 a1
   ·exact Rd.ext _ x1 a1
 have s2:HS w0 M0 c1 ((H.set k .dead).set j (.box t (cs.map (AV.slIn k es'.length (.sl sz' es'.length fun i=>es'.getD i []))))):=by
  refine s1.recell hj1 rfl ?_;rintro⟨g,xs,h1,h2,_,h4⟩;obtain⟨g0,ys,q1,q2,q3,_⟩:=hs.blk j _ hj;have hg:=x1.box j _ (hs.klt hj) q1;rw [h1] at hg;injection hg with hg
  injection hg with hg
  injection hg with hg
  subst hg;rw [e1,q2] at h2;injection h2 with h2
  have hxy:ys.toArray=xs.toArray:=by injection h2
  have hxy:ys=xs:=by simpa using hxy
  subst hxy;exact⟨g,ys,h1,by rw [e1];exact q2,h8 _ _ q3,h4⟩
 have hr2:RdL [x, .ag (cs.map (AV.slIn k es'.length (.sl sz' es'.length fun i=>es'.getD i [])))] c1 us:=by
  simp only [RdL] at hr;obtain⟨u1,_,rfl,p1,u2,_,rfl,p2,rfl⟩:=hr;simp only [Rd] at p2;obtain⟨zs,rfl,p3⟩:=p2;simp only [RdL];exact⟨u1,_,rfl,Rd.ext _ x1 p1,_,_,rfl,by simp only [Rd];exact⟨zs,rfl,h8 _ _ p3⟩,rfl⟩
 have:=hc.calls w0 M0 c1 us s2 hr2;rw [e1] at this;refine this.mono ?_;rintro e w' ⟨v,c',r,H2,rfl,rfl,q1,q2,q3,q4,q5⟩;exact⟨v,c',r,H2,rfl,rfl,q1,q2,x1.trans q3,q4,q5⟩


section
variable {g:Geo} {a:An} {x y:List Gt} {pos seq left:Int}
end



theorem DkOk.big {d:Dk} (h:DkOk d):d.cells.length<=1000000/\d.cache.length<=1000000/\(∀ c∈d.cells,c.bytes.length<=1000000000/\c.old.length<=1000000000)/\(∀ w∈d.cache,w.bytes.length<=1000000000):=
 ⟨by have:=h.n;omega,by have:=h.m;omega,fun c hc=>by have:=(h.c c hc).2;omega,fun w hw=>by have:=(h.w w hw).2;omega⟩
@[reducible] def aV (a:An) (x:AV):List AV:= [iv a.gen,iv a.epoch,iv a.pos,iv a.seq,iv a.last, .v (.string a.label),x]
@[reducible] def aL (s:Stt) (x y:AV):List AV:= [iv s.a.gen,iv s.a.epoch,iv s.a.pos,iv s.a.seq,iv s.a.last, .v (.string s.a.label),x,y, .v (.bool s.only),iv s.cursor,iv s.found,iv s.fixed,iv s.moved,iA s.lost]
@[reducible] def ZV (g:Geo) (x hm tx:AV) (s:Stt) (e:Int):List AV:= [iv g.z,iv g.d,iv g.sp,iv g.sl,iv g.an,x,iv s.a.gen,iv s.a.epoch,iv s.a.pos,iv s.a.seq,iv s.a.last, .v (.string s.a.label),hm,tx, .v (.bool s.only),iv s.cursor,iv s.found,iv s.fixed,iv s.moved,iA s.lost,iv e]
@[reducible] def aN (g:Geo) (s:Stt) (e:Int) (d:Dk):List AB:= [.box 132 (ZV g (.bp 1 0) (.ow 4 s.a.homes.length) (.ow 5 s.txns.length) s e), .box 133 (K4 (.ow 2 d.cells.length) (.ow 3 d.cache.length) d.reqs d.left), .row 68 3 (d.cells.map Cc), .row 152 2 (d.cache.map FB), .row 108 3 (s.a.homes.map M6), .row 170 4 (s.txns.map Ir)]
@[reducible] def rwP (g:Geo) (s:Stt) (e:Int) (d:Dk):List AB:= [.box 132 (ZV g (.bp 1 0) (.ow 4 s.a.homes.length) (.ow 5 s.txns.length) s e), .box 133 (K4 (.ow 2 d.cells.length) (.ow 6 d.cache.length) d.reqs d.left), .row 68 3 (d.cells.map Cc), .dead, .row 108 3 (s.a.homes.map M6), .row 170 4 (s.txns.map Ir), .row 152 2 (d.cache.map FB)]
theorem Rt (g:Geo) (s:ByteArray) {n:Nat} (hn:n=g.z.toNat):SubL [iv 1,iv 0,iv 0,iv 1,iv 0, .v (.string s), .sl 3 n fun i=>(List.replicate n (LO g)).getD i []] (Fi (BO g s)):=by
 refine⟨fun _ _ h=>h,fun _ _ h=>h,fun _ _ h=>h,fun _ _ h=>h,fun _ _ h=>h,fun _ _ h=>h,fun c u h=>Rd.sub (by simp [BO,hn]) (fun i hi=>?_) h,tv⟩;rw [BO,Ab,Ab,CE hi,CE (by omega)];exact T8 g
theorem Ue (g:Geo) (s:ByteArray) (hs:s.size<=1000000):Fn Tryz.prog 97 [.ag (Bh g), .v (.string s)] fun r=>r = .tp [.ag (Fi (if Bt g then if Er s.data.toList=0 then BO g s else an0 else an0)),iv (if Bt g then Er s.data.toList else 1)]:=by
 have hG:Fn Tryz.prog 118 [.ag (Bh g)] fun r=>r = .v (Eg (Bt g)):=Ci g.z g.d g.sp g.sl g.an
 cases hg:Bt g with
 | false=>
  rw [hg] at hG;refine zT Tryz.func97 rfl ?_;conv=>whnf
  refine zY hG ?_;exact⟨_,H8 1,rfl⟩
 | true=>
  rw [hg] at hG;obtain⟨h1,h2,h3,h4,h5⟩:=Ay.1 hg;have hL:=G9 s hs;by_cases hl:Er s.data.toList=0
  ·rw [hl] at hL;rw [if_pos rfl,if_pos hl,if_pos rfl,hl];have w1:IntKind.i64.wrap (g.d+1)=g.d+1:=wi (by omega);refine zT Tryz.func97 rfl ?_;conv=>whnf
   refine zY hG ?_;conv=>whnf
   refine zY hL ?_;conv=>whnf
   refine zO Nat (fun k=>([(2, .bp 0 0),(4, .bp 1 0),(7, .bp 2 0),(23,iv g.z),(24,iv k)], [.box 24 (Bh g), .box 28 [iv 0,iv 0,iv 0,iv 0,iv 0, .v (.string ⟨#[]⟩), .v (.slice none 0 0)], .box 28 [iv 1,iv 0,iv 0,iv 1,iv 0, .v (.string s), .ow 3 k], .row 108 3 (List.replicate k (LO g))])) (fun k=>k<=g.z.toNat) (fun k=>g.z.toNat - k) 0 (Aj _) ⟨[(1002006,108,3)],tA,tA,tA,rfl,rfl,rfl⟩ ?_;intro k hk;conv=>whnf
   refine AP (fun t1=>?_) (fun t1=>?_) <;> (repeat rw [Ac] at t1) <;> conv=>whnf
   ·refine zO Nat (fun j=>([(2, .bp 0 0),(4, .bp 1 0),(7, .bp 2 0),(8, .bp 4 0),(23,iv g.z),(24,iv k),(32,iv (g.d+1)),(33,iv j)], [.box 24 (Bh g), .box 28 [iv 0,iv 0,iv 0,iv 0,iv 0, .v (.string ⟨#[]⟩), .v (.slice none 0 0)], .box 28 [iv 1,iv 0,iv 0,iv 1,iv 0, .v (.string s), .ow 3 k], .row 108 3 (List.replicate k (LO g)), .box 108 [.ow 5 j,iv (g.d+1),iv 0], .row 3 1 (G0 j)])) (fun j=>j<=(g.d+1).toNat) (fun j=>(g.d+1).toNat - j) 0 (Aj _) ⟨[(1004000,3,1)],tA,⟨rfl,rfl,rfl,rfl,rfl,rfl,congrArg (fun x=>AV.v (Value.int IntKind.i64 x)) w1,rfl,tv⟩,⟨rfl,rfl,rfl,rfl,by rw [w1];try rfl,rfl,tv⟩,rfl,rfl,rfl⟩ ?_;intro j hj;conv=>whnf
    refine AP (fun t2=>?_) (fun t2=>?_) <;> (repeat rw [Ac] at t2) <;> conv=>whnf
    ·refine⟨rfl,?_⟩;refine⟨⟨by simp [G0],by omega⟩,?_⟩;exact⟨j+1,by omega,by omega,(Wk.plain (by repeat' first | exact trivial | exact rfl | refine Ai ?_ ?_ | exact AQ (by omega) | exact congrArg (AB.row _ _) (Ku j)) (by repeat' first | exact trivial | exact rfl | refine Ai ?_ ?_ | exact AQ (by omega) | exact congrArg (AB.row _ _) (Ku j)) rfl rfl rfl)⟩
    ·have ej:j=(g.d+1).toNat:=by omega
     refine⟨(by simp [G0]),?_⟩;refine⟨rfl,?_⟩;refine⟨⟨by simp,by omega⟩,?_⟩;conv=>whnf
     have er:AB.row 108 3 (List.replicate (k+1) (LO g)) = .row 108 3 (List.replicate k (LO g) ++ [[AV.sl 1 j fun i=>(G0 j).getD i [],iv (g.d+1),iv 0]]):=by
      rw [List.replicate_succ',LO,<-ej]
     exact⟨k+1,by omega,by omega,(Wk.plain (by repeat' first | exact trivial | exact rfl | refine Ai ?_ ?_ | exact AQ (by omega) | exact er) (by repeat' first | exact trivial | exact rfl | refine Ai ?_ ?_ | exact AQ (by omega) | exact er) rfl rfl rfl)⟩
   ·refine⟨by simp,?_⟩;exact⟨.tp [.ag (Fi (BO g s)),iv 0],BT ⟨AW (Rt g s (by omega)),ri,tv⟩,rfl⟩
  ·obtain⟨e0,he0⟩:∃ e0,Er s.data.toList=e0:=⟨_,rfl⟩;rw [he0] at hL hl;rw [if_pos rfl,if_neg (by rw [he0];exact hl),if_pos rfl,he0];have hb:(e0 != 0)=true:=bne_iff_ne.2 hl;refine zT Tryz.func97 rfl ?_;conv=>whnf
   refine zY hG ?_;conv=>whnf
   refine zY hL ?_;conv=>whnf
   rw [hb];exact⟨_,H8 e0,rfl⟩
theorem UD (n:Nat):List.replicate n (Dp ent0)=(List.replicate n ent0).map Dp:=by simp
theorem Js {α:Type} {n i:Nat} {a d:α} (h:i<n):(List.replicate n a).getD i d=a:=by rw [Ab,CE h];try rfl
theorem MO {i:Nat} (h:i<8):zero8.getD i 0=0:=by
 have:i=0\/i=1\/i=2\/i=3\/i=4\/i=5\/i=6\/i=7:=by omega
 rcases this with rfl | rfl | rfl | rfl | rfl | rfl | rfl | rfl <;> rfl
theorem SQ (g:Geo) (hg:Bt g=true):Fn Tryz.prog 104 [.ag (Bh g)] fun r=>r = .tp [.ag [BX (E8 g)],iv 0]:=by
 have hG:Fn Tryz.prog 118 [.ag (Bh g)] fun r=>r = .v (Eg (Bt g)):=Ci g.z g.d g.sp g.sl g.an
 rw [hg] at hG;obtain⟨h1,h2,h3,h4,h5⟩:=Ay.1 hg;have w1:IntKind.i64.wrap (g.d+1)=((g.d+1).toNat:Int):=by rw [wi (by omega)];omega
 have hS:=Ja zero8;refine zT Tryz.func104 rfl ?_;conv=>whnf
 refine zY hG ?_;refine⟨⟨rfl,by decide,by decide⟩,?_⟩;conv=>whnf
 refine zQ hS.go ?_;refine⟨rfl,?_⟩;conv=>whnf
 refine zU [bA zero8] ⟨fun c v h=>z6 rfl (fun i hi=>?_) h,tv⟩ ?_
 ·have hi':i<8:=hi;rw [Js (by exact hi'),MO hi'];try rfl
 refine zY hS ?_;conv=>whnf
 rw [w1];have hr:=UE (g.d+1).toNat (by omega) 0 (DH zero8:Nat) false (fun i=> [Dp ent0].getD i []) rfl;refine zQ hr.go ?_;refine⟨rfl,?_⟩;conv=>whnf
 refine zW hr rfl ?_;rintro _ _ ⟨rfl,rfl⟩;refine⟨by simp,?_⟩;exact⟨.tp [.ag [BX (E8 g)],iv 0],BT ⟨AW ⟨Cd (f:=Dp) (E8 g) (by simp [E8]) (UD _),tv⟩,ri,tv⟩,rfl⟩
def KF (cs:List Cel) (w:Wr):List Cel:=cs.set w.addr.toNat { cs.getD w.addr.toNat cz with bytes:=w.bytes }
def DV (cs:List Cel) (l:List Wr):List Cel:=l.foldl KF cs
theorem PP (cs:List Cel) (w:Wr):(KF cs w).length=cs.length:=by simp [KF]
theorem E5 (l:List Wr):∀ cs:List Cel,(DV cs l).length=cs.length:=by
 induction l with
 | nil=>intro cs;rfl
 | cons w l ih=>intro cs;show (DV (KF cs w) l).length=_;rw [ih,PP]
theorem Ih (cs:List Cel) {l:List Wr} {k:Nat} (h:k<l.length):DV cs (l.take (k+1))=KF (DV cs (l.take k)) (l.getD k ⟨0, []⟩):=by
 unfold DV;rw [Bi,Cb,Af h];simp [Ab,Af h]
theorem Jt (cs:List Cel) (w:Wr):(KF cs w).map Cc=(cs.map Cc).set w.addr.toNat (Cc { cs.getD w.addr.toNat cz with bytes:=w.bytes }):=by rw [KF,List.map_set]
def IK (g:Geo):List Cel:=List.replicate (A7 g).toNat cz
def G5 (g:Geo) (c:Int):List Wr:=(List.range g.sl.toNat).map fun i=>⟨Bc g c (i:Nat),B6 g zeroC c (i:Nat)⟩
def In (g:Geo) (z:Int):List Wr:=(List.range 2).map fun k=>⟨Bg g z (k:Nat),CH (Bg g z (k:Nat)) 0 (Df (E8 g))⟩
def GL (g:Geo) (z:Int):List Wr:=(List.range (CK g).toNat).map fun i=>⟨Cx g z (i:Nat),CH (Cx g z (i:Nat)) 0 zero8⟩
def VH (g:Geo) (s:ByteArray):List Cel:=DV (IK g) (AT g (BO g s))
def O2 (g:Geo) (s:ByteArray):Nat->List Cel
 | 0=>VH g s
 | c+1=>DV (O2 g s c) (G5 g (c:Nat))
def GT (g:Geo) (s:ByteArray):Nat->List Cel
 | 0=>O2 g s 2
 | z+1=>DV (DV (GT g s z) (In g (z:Nat))) (GL g (z:Nat))
def DD (g:Geo) (s:ByteArray):Dk:=⟨GT g s g.z.toNat, [],0, -1⟩
theorem LZ (g:Geo):(IK g).length=(A7 g).toNat:=by simp [IK]
theorem VG (g:Geo) (s:ByteArray):(VH g s).length=(A7 g).toNat:=by rw [VH,E5,LZ]
theorem LY (g:Geo) (s:ByteArray):∀ c,(O2 g s c).length=(A7 g).toNat
 | 0=>VG g s
 | c+1=>by rw [O2,E5,LY g s c]
theorem Gh (g:Geo) (s:ByteArray):∀ z,(GT g s z).length=(A7 g).toNat
 | 0=>LY g s 2
 | z+1=>by rw [GT,E5,E5,Gh g s z]
theorem JJ {α:Type} {f:Nat->α} {n k:Nat} {d:α} (h:k<n):((List.range n).map f).getD k d=f k:=by
 rw [AR (d:=0) (by simpa using h),Ab,BL h];try rfl
theorem Et {g:Geo} (hg:Bt g=true):EH g zeroC=true:=by
 simp [EH,hg,E_,zeroC,Iz]
theorem Ju (cs:List Cel) (l m:List Wr):DV cs (l ++ m)=DV (DV cs l) m:=by unfold DV;rw [Cb]
theorem O0 (cs:List Cel) (i a:Nat) (x:Cel) (ha:a<cs.length):(cs.set i x).getD a cz=if i=a then x else cs.getD a cz:=by
 grind
theorem VE (cs:List Cel) (w:Wr) (a:Nat) (ha:a<cs.length):(KF cs w).getD a cz=if w.addr.toNat=a then { cs.getD a cz with bytes:=w.bytes } else cs.getD a cz:=by
 unfold KF
 grind
theorem Nw {F:List UInt8}:∀ (l:List Wr) (cs:List Cel) (a:Nat),a<cs.length->(∀ w∈l,w.addr.toNat=a->w.bytes=F)->((∃ w∈l,w.addr.toNat=a)\/(cs.getD a cz).bytes=F)->(DV cs l).getD a cz={ cs.getD a cz with bytes:=F }
 | [],cs,a,_,_,h=>by
  rcases h with ⟨w,hw,_⟩ | h
  ·grind
  ·show cs.getD a cz=_;rw [<-h]
 | w::l,cs,a,ha,hF,h=>by
  have hs:=VE cs w a ha;have ha':a<(KF cs w).length:=by rw [PP];exact ha
  have ih:=Nw (F:=F) l (KF cs w) a ha' (fun x hx=>hF x (Be _ hx));show (DV (KF cs w) l).getD a cz=_
  grind
def Kg (g:Geo):Nat->List Wr
 | 0=> []
 | z+1=>Kg g z ++ (In g (z:Nat) ++ GL g (z:Nat))
def O1 (g:Geo) (s:ByteArray):List Wr:=AT g (BO g s) ++ (G5 g 0 ++ (G5 g 1 ++ Kg g g.z.toNat))
theorem VF (g:Geo) (s:ByteArray):∀ z,GT g s z=DV (IK g) (AT g (BO g s) ++ (G5 g 0 ++ (G5 g 1 ++ Kg g z)))
 | 0=>by
  show DV (DV (VH g s) (G5 g 0)) (G5 g 1)=_;rw [VH,<-Ju,<-Ju,Kg,AE]
 | z+1=>by
  rw [GT,VF g s z,<-Ju,<-Ju,Kg]
  grind
def FQ (g:Geo) (s:ByteArray) (a:Int):List UInt8:=
 if a<g.an then Dq (BO g s) a else if a<g.an+g.sl then B6 g zeroC 0 (a - g.an) else if a<g.an+2*g.sl then B6 g zeroC 1 (a - g.an - g.sl)
 else if a<g.an+2*g.sl+2*g.z then CH a 0 (Df (E8 g)) else CH a 0 zero8
theorem H9 {g:Geo} (hg:Bt g=true):∀ (n:Nat) (w:Wr),(n:Int)<=g.z->(w∈Kg g n↔(∃ z k:Nat,z<n/\k<2/\w=⟨Bg g z k,CH (Bg g z k) 0 (Df (E8 g))⟩)\/∃ z i:Nat,z<n/\i<(CK g).toNat/\w=⟨Cx g z i,CH (Cx g z i) 0 zero8⟩)
 | 0,w,_=>by simp [Kg]
 | n+1,w,h=>by
  rw [Kg,Az,Az,H9 hg n w (by omega)];simp only [In,GL,AK,AL]
  grind
theorem Sv {g:Geo} {s:ByteArray} {a:Int} (h:a<g.an):FQ g s a=Dq (BO g s) a:=if_pos h
theorem Jv {g:Geo} {s:ByteArray} {c:Int} {i:Nat} (hc:c=0\/c=1) (hi:(i:Int)<g.sl):FQ g s (Bc g c i)=B6 g zeroC c i:=by
 unfold FQ Bc
 grind
theorem PQ {g:Geo} {s:ByteArray} {z k:Nat} (h0:0<=g.sl) (hz:(z:Int)<g.z) (hk:k<2):FQ g s (Bg g z k)=CH (Bg g z k) 0 (Df (E8 g)):=by
 unfold FQ;have:Bg g z k=g.an+2*g.sl+2*z+k:=rfl
 grind
theorem Nx {g:Geo} {s:ByteArray} {z i:Nat} (h0:0<=g.sl) (h1:0<=g.z) (h2:0<=CK g):FQ g s (Cx g z i)=CH (Cx g z i) 0 zero8:=by
 unfold FQ;have:Cx g z i=g.an+2*g.sl+2*g.z+z*CK g+i:=rfl;have:0<=(z:Int)*CK g:=C4 (by omega) h2
 grind
theorem Pu {g:Geo} (hg:Bt g=true):0<CK g:=by
 obtain⟨g1,g2,g3,g4,g5⟩:=Ay.1 hg;unfold CK;omega
theorem VD {g:Geo} {s:ByteArray} (hg:Bt g=true):∀ w∈O1 g s,0<=w.addr/\w.bytes=FQ g s w.addr:=by
 obtain⟨g1,g2,g3,g4,g5⟩:=Ay.1 hg;have hp:=Pu hg;intro w hw;simp only [O1,Az,H9 hg g.z.toNat w (by omega)] at hw;rcases hw with hw | hw | hw | ⟨z,k,h1,h2,rfl⟩ | ⟨z,i,h1,h2,rfl⟩
 ·simp only [AT,AK,AL] at hw;obtain⟨i,hi,rfl⟩:=hw;exact⟨by show (0:Int)<=(i:Nat);omega,(Sv (by show ((i:Nat):Int)<g.an;omega)).symm⟩
 ·simp only [G5,AK,AL] at hw;obtain⟨i,hi,rfl⟩:=hw;exact⟨by show 0<=Bc g 0 i;unfold Bc;omega,(Jv (.inl rfl) (by omega)).symm⟩
 ·simp only [G5,AK,AL] at hw;obtain⟨i,hi,rfl⟩:=hw;exact⟨by show 0<=Bc g 1 i;unfold Bc;omega,(Jv (.inr rfl) (by omega)).symm⟩
 ·exact⟨by show 0<=Bg g z k;unfold Bg;omega,(PQ (by omega) (by omega) h2).symm⟩
 ·have:0<=(z:Int)*CK g:=C4 (by omega) (by omega);exact⟨by show 0<=Cx g z i;unfold Cx;omega,(Nx (by omega) (by omega) (by omega)).symm⟩
theorem VC {g:Geo} {s:ByteArray} (hg:Bt g=true) {a:Int} (h0:0<=a) (h:a<A7 g):∃ w∈O1 g s,w.addr=a:=by
 obtain⟨g1,g2,g3,g4,g5⟩:=Ay.1 hg;have hp:=Pu hg;by_cases h1:a<g.an
 ·refine⟨⟨a,Dq (BO g s) a⟩,?_,rfl⟩;simp only [O1,Az,AT,AK,AL];exact .inl ⟨a.toNat,by omega,by rw [Int.toNat_of_nonneg h0]⟩
 ·have hlog:∀ (c:Int) (i:Nat),(c=0\/c=1)->(i:Int)<g.sl->∃ w∈O1 g s,w.addr=Bc g c i:=fun c i hc hi=>by
   refine⟨⟨Bc g c i,B6 g zeroC c i⟩,?_,rfl⟩;simp only [O1,Az,G5,AK,AL];rcases hc with rfl | rfl
   ·exact .inr (.inl ⟨i,by omega,rfl⟩)
   ·exact .inr (.inr (.inl ⟨i,by omega,rfl⟩))
  by_cases h2:a<g.an+g.sl
  ·obtain⟨w,hw,e⟩:=hlog 0 (a - g.an).toNat (.inl rfl) (by omega);exact⟨w,hw,by rw [e];unfold Bc;omega⟩
  ·by_cases h3:a<g.an+2*g.sl
   ·obtain⟨w,hw,e⟩:=hlog 1 (a - g.an - g.sl).toNat (.inr rfl) (by omega);exact⟨w,hw,by rw [e];unfold Bc;omega⟩
   ·by_cases h4:a<g.an+2*g.sl+2*g.z
    ·refine⟨⟨Bg g (((a - (g.an+2*g.sl)).toNat / 2:Nat)) ((a - (g.an+2*g.sl)).toNat % 2:Nat),CH (Bg g (((a - (g.an+2*g.sl)).toNat / 2:Nat)) ((a - (g.an+2*g.sl)).toNat % 2:Nat)) 0 (Df (E8 g))⟩,?_,by show Bg g _ _=a;unfold Bg;omega⟩;simp only [O1,Az,H9 hg g.z.toNat _ (by omega)];exact .inr (.inr (.inr (.inl ⟨_,_,by omega,by omega,rfl⟩)))
    ·have hq:a - (g.an+2*g.sl+2*g.z)=((a - (g.an+2*g.sl+2*g.z)).toNat:Int):=by omega
     generalize hX:(a - (g.an+2*g.sl+2*g.z)).toNat=X at hq;have hP:CK g=((CK g).toNat:Int):=by omega
     have hX2:X<g.z.toNat*(CK g).toNat:=by
      have:(X:Int)<g.z*CK g:=by unfold A7 at h;omega
      rw [hP,show g.z=(g.z.toNat:Int) by omega] at this
      exact_mod_cast this
     generalize hPn:(CK g).toNat=p at hP hX2;have hp0:0<p:=by omega
     have hdm:(X / p)*p+X % p=X:=Nat.div_add_mod' X p;refine⟨⟨Cx g ((X / p:Nat)) ((X % p:Nat)),CH (Cx g ((X / p:Nat)) ((X % p:Nat))) 0 zero8⟩,?_,?_⟩
     ·simp only [O1,Az,H9 hg g.z.toNat _ (by omega)];exact .inr (.inr (.inr (.inr ⟨X / p,X % p,Nat.div_lt_of_lt_mul (by rw [Nat.mul_comm];exact hX2),by rw [hPn];exact Nat.mod_lt _ hp0,rfl⟩)))
     ·show Cx g _ _=a;unfold Cx;rw [hP];have:((X / p:Nat):Int)*(p:Int)+((X % p:Nat):Int)=(X:Int):=by exact_mod_cast hdm
      omega
theorem PO {g:Geo} {s:ByteArray} (hg:Bt g=true) {a:Int} (h0:0<=a) (h:a<A7 g):(DD g s).cells.getD a.toNat cz=⟨0,FQ g s a, []⟩:=by
 have hl:a.toNat<(IK g).length:=by rw [LZ];omega
 obtain⟨w,hw,e⟩:=VC (s:=s) hg h0 h;have hall:=VD (s:=s) hg;show (GT g s g.z.toNat).getD a.toNat cz=_;rw [VF];refine(Nw (F:=FQ g s a) (O1 g s) (IK g) a.toNat hl (fun x hx hxa=>?_) (.inl ⟨w,hw,by rw [e]⟩)).trans ?_
 ·grind
 ·have:(IK g).getD a.toNat cz=cz:=by
   unfold IK
   grind
  rw [this];try rfl
structure Holds (d:Dk) (n:Int) (F:Int->List UInt8):Prop where
 len:(d.cells.length:Int)=n
 cache:d.cache=[]
 cell:∀ a:Int,0<=a->a<n->(d.cells.getD a.toNat cz).state=0/\(d.cells.getD a.toNat cz).bytes=F a
theorem Holds.got {d:Dk} {n:Int} {F:Int->List UInt8} (h:Holds d n F) {a:Int} (h0:0<=a) (h1:a<n):Oy d a=⟨0,F a⟩:=by
 obtain⟨e1,e2⟩:=h.cell a h0 h1;have hg:d.got a=((d.cells.getD a.toNat cz).bytes,0):=by
  unfold Dk.got;rw [h.cache];simp only [Tv];rw [show (d.cells.getD a.toNat ⟨0, [], []⟩)=d.cells.getD a.toNat cz from rfl,if_pos e1]
 rw [Oy,hg,e2]
theorem JY {g:Geo} {s:ByteArray} (hg:Bt g=true):Holds (DD g s) (A7 g) (FQ g s):=by
 have hc:=Ei hg;obtain⟨g1,g2,g3,g4,g5⟩:=Ay.1 hg;refine⟨?_,rfl,fun a h0 h1=>by rw [PO hg h0 h1];exact tA⟩;show ((GT g s g.z.toNat).length:Int)=_;rw [Gh];omega
def Dk.tick (k:Nat) (d:Dk):Dk:=⟨d.cells,d.cache,min (d.reqs+k) 1048576,if d.left<0 then d.left else d.left - k⟩
structure Lv (d:Dk) (k:Nat):Prop where
 r:0<=d.reqs/\d.reqs<=1048576
 l:d.left<0\/(k:Int)<=d.left
theorem Lv.le {d:Dk} {k j:Nat} (h:Lv d k) (hj:j<=k):Lv d j:=⟨h.r,by have:=h.l;omega⟩
theorem Lq {d:Dk} (h:0<=d.reqs/\d.reqs<=1048576) (_h0:d.left≠0) (hl:d.left<0\/1<=d.left):d.req=d.tick 1:=by
 unfold Dk.req Dk.tick;rw [wi (by omega)]
 grind
theorem FX {d:Dk} (a b:Nat) (_hr:d.reqs<=1048576) (h:d.left<0\/(a:Int)<=d.left):(d.tick a).tick b=d.tick (a+b):=by
 unfold Dk.tick
 grind
theorem MZ {d:Dk} (hr:d.reqs<=1048576):d.tick 0=d:=by
 unfold Dk.tick;obtain⟨c,ca,r,l⟩:=d
 grind
theorem I_ {d:Dk} {a b:Nat} (h:Lv d (a+b)):Lv (d.tick a) b:=by
 have:=h.r;have:=h.l;refine⟨?_,?_⟩
 ·show 0<=min _ _/\min _ _<=_;omega
 ·show (if d.left<0 then d.left else d.left - a)<0\/(b:Int)<=(if d.left<0 then d.left else d.left - a);omega
theorem J6 {d:Dk}:∀ (k:Nat),Lv d k->d.adv k=d.tick k
 | 0,h=>(MZ h.r.2).symm
 | k+1,h=>by
  have ih:=J6 k (h.le (by omega));have h1:=I_ (a:=k) (b:=1) h;have h2:=h1.l;show (if (d.adv k).left=0 then d.adv k else (d.adv k).req)=_;rw [ih,if_neg (by omega),Lq h1.r (by omega) (by omega),FX k 1 h.r.2 (by have:=h.l;omega)]
def free (cs:List Cel) (w:Wr):Bool:=decide ((cs.getD w.addr.toNat cz).state≠2)
theorem Qw {d:Dk} {w:Wr} (h:Lv d 1) (hc:d.cache.length<2000):d.write w.addr w.bytes=if free d.cells w then (⟨d.cells,d.cache ++ [w],(d.tick 1).reqs,(d.tick 1).left⟩,0) else (d.tick 1,7):=by
 have:=h.l;unfold Dk.write free;rw [if_neg (by omega),Lq h.r (by omega) (by omega)];by_cases h2:(d.cells.getD w.addr.toNat cz).state=2
 ·rw [if_pos (.inl h2),if_neg (by simpa using h2)]
 ·rw [if_neg (by rintro(h3 | h3);exact h2 h3;omega),if_pos (by simpa using h2)];try rfl
theorem writes_go:∀ (l:List Wr) (d:Dk) (n:Nat),Lv d l.length->d.cache.length+l.length<=2000->l.foldl Fd (d,n,false)=(⟨d.cells,d.cache ++ l.filter (free d.cells),(d.tick l.length).reqs,(d.tick l.length).left⟩,n+(l.filter (free d.cells)).length,false)
 | [],d,n,h,_=>by
  show (d,n,false)=_;rw [show ([]:List Wr).length=0 from rfl,MZ h.r.2];simp_all
 | w::l,d,n,h,hc=>by
  have hl:(w::l).length=l.length+1:=rfl;rw [hl] at h hc |-
  have hw:=Qw (w:=w) (h.le (show 1<=l.length+1 by omega)) (by omega);have h1:Lv (d.tick 1) l.length:=I_ (by rw [CD];exact h);have ht:=FX (d:=d) 1 l.length h.r.2 (by have:=h.l;omega);rw [CD] at ht;show l.foldl Fd (Fd (d,n,false) w)=_;have hs:Fd (d,n,false) w=(match d.write w.addr w.bytes with | (d,e)=>if e=8 then (d,n,true) else (d,n+(if e=0 then 1 else 0),false)):=by
   unfold Fd;rw [if_neg (by simp)]
  rw [hs,hw];cases hf:free d.cells w with
  | true=>
   simp only [if_true];rw [if_neg (by decide)];have hgo:=writes_go l ⟨d.cells,d.cache ++ [w],(d.tick 1).reqs,(d.tick 1).left⟩ (n+1) ⟨h1.r,h1.l⟩ (by simp;omega);have e1:((⟨d.cells,d.cache ++ [w],(d.tick 1).reqs,(d.tick 1).left⟩:Dk).tick l.length).reqs=(d.tick (l.length+1)).reqs/\((⟨d.cells,d.cache ++ [w],(d.tick 1).reqs,(d.tick 1).left⟩:Dk).tick l.length).left=(d.tick (l.length+1)).left:=by rw [<-ht];exact tA
   grind
  | false=>
   simp only [BV,if_false];rw [if_neg (by decide),if_neg (by decide)];rw [writes_go l (d.tick 1) (n+0) h1 (by show d.cache.length+_<=_;omega),ht];simp only [List.filter_cons,hf,BV,if_false,Ca];rfl
theorem OF {d:Dk} {l:List Wr} (h:Lv d l.length) (hc:d.cache.length+l.length<=2000):d.writes l=(⟨d.cells,d.cache ++ l.filter (free d.cells),(d.tick l.length).reqs,(d.tick l.length).left⟩,(l.filter (free d.cells)).length,false):=by
 rw [Dk.writes,writes_go l d 0 h hc,Av]
def EK (cs:List Cel) (w:Wr):List Cel:=if (cs.getD w.addr.toNat cz).state=2 then cs else cs.set w.addr.toNat ⟨0,w.bytes,(cs.getD w.addr.toNat cz).bytes⟩
def C7 (cs:List Cel) (l:List Wr):List Cel:=l.foldl EK cs
theorem Gi (cs:List Cel) (w:Wr):(EK cs w).length=cs.length:=by unfold EK;split <;> simp
theorem finL_len:∀ (l:List Wr) (cs:List Cel),(C7 cs l).length=cs.length
 | [],_=>rfl
 | w::l,cs=>by show (C7 (EK cs w) l).length=_;rw [finL_len l,Gi]
theorem TO (d:Dk) (w:Wr):d.fin w={ d with cells:=EK d.cells w }:=by unfold Dk.fin EK;split <;> rfl
theorem allFin_cells:∀ (l:List Wr) (d:Dk),d.allFin l={ d with cells:=C7 d.cells l }
 | [],_=>rfl
 | w::l,d=>by
  show (d.fin w).allFin l=_;rw [allFin_cells l,TO];try rfl
theorem F5 (cs:List Cel) (w:Wr) (a:Nat) (ha:a<cs.length):(EK cs w).getD a cz=if w.addr.toNat=a/\(cs.getD a cz).state≠2 then ⟨0,w.bytes,(cs.getD a cz).bytes⟩ else cs.getD a cz:=by
 grind [EK]
theorem finL_miss:∀ (l:List Wr) (cs:List Cel) (a:Nat),a<cs.length->(∀ w∈l,w.addr.toNat≠a)->(C7 cs l).getD a cz=cs.getD a cz
 | [],_,_,_,_=>rfl
 | w::l,cs,a,ha,h=>by
  have hs:=F5 cs w a ha;rw [if_neg (fun e=>h w (by simp) e.1)] at hs;show (C7 (EK cs w) l).getD a cz=_;rw [finL_miss l (EK cs w) a (by rw [Gi];exact ha) (fun x hx=>h x (Be _ hx)),hs]
theorem finL_stuck:∀ (l:List Wr) (cs:List Cel) (a:Nat),a<cs.length->(cs.getD a cz).state=2->(C7 cs l).getD a cz=cs.getD a cz
 | [],_,_,_,_=>rfl
 | w::l,cs,a,ha,h=>by
  have hs:=F5 cs w a ha;rw [if_neg (fun e=>e.2 h)] at hs;show (C7 (EK cs w) l).getD a cz=_;rw [finL_stuck l (EK cs w) a (by rw [Gi];exact ha) (by rw [hs];exact h),hs]
theorem finL_any:∀ (l:List Wr) (cs:List Cel) (a:Nat),a<cs.length->(C7 cs l).getD a cz=cs.getD a cz\/(cs.getD a cz).state≠2/\((C7 cs l).getD a cz).state=0/\∃ w∈l,w.addr.toNat=a/\((C7 cs l).getD a cz).bytes=w.bytes
 | [],_,_,_=> .inl rfl
 | w::l,cs,a,ha=>by
  have hs:=F5 cs w a ha;have ih:=finL_any l (EK cs w) a (by rw [Gi];exact ha);by_cases e:w.addr.toNat=a/\(cs.getD a cz).state≠2
  ·rw [if_pos e] at hs;rcases ih with ih | ⟨h1,h2,x,hx,h3,h4⟩
   ·refine .inr ⟨e.2,?_,w,by simp,e.1,?_⟩
    ·show ((C7 (EK cs w) l).getD a cz).state=0;rw [ih,hs]
    ·show ((C7 (EK cs w) l).getD a cz).bytes=_;rw [ih,hs]
   ·exact .inr ⟨e.2,h2,x,Be _ hx,h3,h4⟩
  ·rw [if_neg e] at hs;rcases ih with ih | ⟨h1,h2,x,hx,h3,h4⟩
   ·exact .inl (ih.trans hs)
   ·exact .inr ⟨by rw [hs] at h1;exact h1,h2,x,Be _ hx,h3,h4⟩
theorem Mm {F:List UInt8}:∀ (l:List Wr) (cs:List Cel) (a:Nat),a<cs.length->(cs.getD a cz).state≠2->(∀ w∈l,w.addr.toNat=a->w.bytes=F)->(∃ w∈l,w.addr.toNat=a)\/((cs.getD a cz).state=0/\(cs.getD a cz).bytes=F)->((C7 cs l).getD a cz).state=0/\((C7 cs l).getD a cz).bytes=F
 | [],cs,a,_,_,_,h=>by
  grind [C7]
 | w::l,cs,a,ha,h2,hF,h=>by
  have hs:=F5 cs w a ha;have ha':a<(EK cs w).length:=by rw [Gi];exact ha
  show ((C7 (EK cs w) l).getD a cz).state=0/\((C7 (EK cs w) l).getD a cz).bytes=F;by_cases e:w.addr.toNat=a
  ·rw [if_pos ⟨e,h2⟩,hF w (by simp) e] at hs;exact Mm l (EK cs w) a ha' (by rw [hs];show (0:Int)≠2;decide) (fun x hx=>hF x (Be _ hx)) (.inr (by rw [hs];exact tA))
  ·rw [if_neg (fun q=>e q.1)] at hs;refine Mm l (EK cs w) a ha' (by rw [hs];exact h2) (fun x hx=>hF x (Be _ hx)) ?_
   grind
theorem finL_free:∀ (l:List Wr) (cs cs0:List Cel),(∀ a,(cs.getD a cz).state=2↔(cs0.getD a cz).state=2)->C7 cs (l.filter (free cs0))=C7 cs l
 | [],_,_,_=>rfl
 | w::l,cs,cs0,h=>by
  have hstep:∀ a,((EK cs w).getD a cz).state=2↔(cs0.getD a cz).state=2:=fun a=>by
   rw [<-h a];by_cases ha:a<cs.length
   ·rw [F5 cs w a ha]
    grind
   ·rw [Ab,Ab,AF (by rw [Gi];omega),AF (by omega)]
  show _=C7 (EK cs w) l;rw [List.filter_cons];by_cases hf:free cs0 w=true
  ·rw [if_pos hf];exact finL_free l (EK cs w) cs0 hstep
  ·rw [if_neg hf];have:EK cs w=cs:=by
    unfold EK;rw [if_pos];simp only [free,decide_eq_true_eq,Decidable.not_not] at hf
    grind
   rw [this];exact finL_free l cs cs0 h
theorem Jj {d:Dk} {l:List Wr} (h:Lv d (l.length+1)) (hc:d.cache=[]) (hl:l.length<=2000):d.putAll l=(⟨C7 d.cells l, [],(d.tick (l.length+1)).reqs,(d.tick (l.length+1)).left⟩,(l.filter (free d.cells)).length,false):=by
 have hw:=OF (h.le (show l.length<=l.length+1 by omega)) (by rw [hc];simpa using hl);have h1:=I_ (a:=l.length) (b:=1) h;have h2:=h1.l;rw [hc,Bq] at hw;unfold Dk.putAll;rw [hw];simp only [BV,if_false];rw [if_neg (by show ¬(d.tick l.length).left=0;omega)];have ht:=FX (d:=d) l.length 1 h.r.2 (by have:=h.l;omega);simp only [Prod.mk.injEq,and_true];unfold Dk.flush;rw [allFin_cells];have h3:Lv ⟨d.cells,l.filter (free d.cells),(d.tick l.length).reqs,(d.tick l.length).left⟩ 1:=⟨h1.r,h1.l⟩;have hr:=Lq (d:=⟨d.cells,l.filter (free d.cells),(d.tick l.length).reqs,(d.tick l.length).left⟩) h3.r (by show (d.tick l.length).left≠0;omega) (by show (d.tick l.length).left<0\/1<=(d.tick l.length).left;omega);rw [hr,<-ht];show (⟨C7 d.cells (l.filter (free d.cells)), [],_,_⟩:Dk)=_;rw [finL_free l d.cells d.cells fun _=>Iff.rfl];try rfl
structure Gw (n:Int) (d:Dk) (F:Int->List UInt8) (l:List Wr):Prop where
 ok:DkOk d
 left:d.left = -1
 len:(d.cells.length:Int)=n
 cache:d.cache=l
 cell:∀ a:Int,0<=a->a<n->(d.cells.getD a.toNat cz).state=0/\(d.cells.getD a.toNat cz).bytes=F a
 old:∀ a:Int,0<=a->a<n->(d.cells.getD a.toNat cz).old=F (-1 - a)
abbrev Gd (n:Int) (d:Dk) (F:Int->List UInt8):Prop:=Gw n d F []
def Yx (F:Int->List UInt8) (w:Wr) (a:Int):List UInt8:=if 0<=a then (if w.addr=a then w.bytes else F a) else if w.addr = -1 - a then F w.addr else F a
def MX (F:Int->List UInt8) (l:List Wr):Int->List UInt8:=l.foldl Yx F
theorem Lb {F:Int->List UInt8} (l:List Wr) (w:Wr):MX F (l ++ [w])=Yx (MX F l) w:=by
 unfold MX;rw [Cb];try rfl
theorem Gw.req {n:Int} {d:Dk} {F:Int->List UInt8} {l:List Wr} (h:Gw n d F l):Gw n d.req F l:=
 ⟨h.ok.req,by unfold Dk.req;rw [h.left];try rfl,h.len,h.cache,h.cell,h.old⟩
theorem Gd.got {n:Int} {d:Dk} {F:Int->List UInt8} (h:Gd n d F) {a:Int} (h0:0<=a) (h1:a<n):d.got a=(F a,0):=by
 have:=Holds.got ⟨h.len,h.cache,h.cell⟩ h0 h1;unfold Oy at this;injection this with e1 e2
 exact Prod.ext e2 e1
theorem Gd.read {n:Int} {d:Dk} {F:Int->List UInt8} (h:Gd n d F) {a:Int} (h0:0<=a) (h1:a<n):d.read a=(d.req,F a,0):=by
 unfold Dk.read;rw [if_neg (by rw [h.left];decide),h.got h0 h1]
theorem Gw.write {n:Int} {d:Dk} {F:Int->List UInt8} {l:List Wr} (h:Gw n d F l) (hl:l.length<2000) {a:Int} (h0:0<=a) (h1:a<n) {b:List UInt8} (hb:b.length<=200):(d.write a b).2=0/\Gw n (d.write a b).1 F (l ++ [⟨a,b⟩]):=by
 have hw:=h.ok.write (a:=a) (b:=b) (by rw [<-h.len] at h1;omega) hb;have e:d.write a b=({ d.req with cache:=d.cache ++ [⟨a,b⟩] },0):=by
  unfold Dk.write;rw [if_neg (by rw [h.left];decide),if_neg];rintro(h2 | h2)
  ·have:=(h.cell a h0 h1).1;unfold cz at this;omega
  ·rw [h.cache] at h2;omega
 rw [e] at hw |-
 exact⟨rfl,hw,h.req.left,h.len,by rw [h.cache],h.cell,h.old⟩
theorem O8 {cs:List Cel} {F:Int->List UInt8} {a:Int} (h0:0<=a) (h1:a.toNat<cs.length) (hc:(cs.getD a.toNat cz).state=0/\(cs.getD a.toNat cz).bytes=F a):∀ (n:Nat) (l:List Wr),l.length=n->(∀ w∈l,0<=w.addr)->((C7 cs l).getD a.toNat cz).state=0/\((C7 cs l).getD a.toNat cz).bytes=MX F l a
 | 0,l,hn,_=>by
  obtain rfl:=AH.1 hn;exact hc
 | n+1,l,hn,hw=>by
  rcases Dc l with rfl | ⟨m,w,rfl⟩
  ·cases hn
  ·have ih:=O8 h0 h1 hc n m (by simpa using hn) (fun x hx=>hw x (by simp [hx]));have hwa:=hw w (by simp);have e:C7 cs (m ++ [w])=EK (C7 cs m) w:=by unfold C7;rw [Cb];try rfl
   have e2:=F5 (C7 cs m) w a.toNat (by rw [finL_len];exact h1);rw [Dd,e,e2,Lb];unfold Yx;rw [if_pos h0];by_cases hA:w.addr=a
   ·rw [if_pos hA,if_pos ⟨by rw [hA],by rw [ih.1];decide⟩];exact tA
   ·rw [if_neg hA,if_neg (fun h=>hA (by have:=h.1;omega))];exact ih
theorem Sy {cs:List Cel} {F:Int->List UInt8} {a:Int} (h0:0<=a) (h1:a.toNat<cs.length) (hc:(cs.getD a.toNat cz).state=0/\(cs.getD a.toNat cz).bytes=F a) (ho:(cs.getD a.toNat cz).old=F (-1 - a)):∀ (n:Nat) (l:List Wr),l.length=n->(∀ w∈l,0<=w.addr)->((C7 cs l).getD a.toNat cz).old=MX F l (-1 - a)
 | 0,l,hn,_=>by
  obtain rfl:=AH.1 hn;exact ho
 | n+1,l,hn,hw=>by
  rcases Dc l with rfl | ⟨m,w,rfl⟩
  ·cases hn
  ·have ih:=Sy h0 h1 hc ho n m (by simpa using hn) (fun x hx=>hw x (by simp [hx]));have iu:=O8 h0 h1 hc n m (by simpa using hn) (fun x hx=>hw x (by simp [hx]));have hwa:=hw w (by simp);have e:C7 cs (m ++ [w])=EK (C7 cs m) w:=by unfold C7;rw [Cb];try rfl
   have e2:=F5 (C7 cs m) w a.toNat (by rw [finL_len];exact h1);rw [Dd,e,e2,Lb];unfold Yx;rw [if_neg (show ¬(0:Int)<= -1 - a by omega),show -1 - (-1 - a)=a by omega];by_cases hA:w.addr=a
   ·rw [if_pos hA,if_pos ⟨by rw [hA],by rw [iu.1];decide⟩,hA];exact iu.2
   ·rw [if_neg hA,if_neg (fun h=>hA (by have:=h.1;omega))];exact ih
theorem Gw.flush {n:Int} {d:Dk} {F:Int->List UInt8} {l:List Wr} (h:Gw n d F l):Gd n d.flush (MX F l):=by
 have e:d.flush=⟨C7 d.cells l, [],d.req.reqs,d.req.left⟩:=by
  unfold Dk.flush;rw [allFin_cells,h.cache];try rfl
 have ho:=h.ok.flush;rw [e] at ho |-
 have hl:=h.len;have hw0:∀ w∈l,0<=w.addr:=fun w hw=>by
  rw [<-h.cache] at hw;exact(h.ok.w w hw).1.1
 exact⟨ho,h.req.left,by show ((C7 d.cells l).length:Int)=n;rw [finL_len];exact h.len,rfl,fun a h0 h1=>O8 h0 (by omega) (h.cell a h0 h1) _ l rfl hw0,fun a h0 h1=>Sy h0 (by omega) (h.cell a h0 h1) (h.old a h0 h1) _ l rfl hw0⟩
theorem OS {F:Int->List UInt8} {a:Int} (h0:0<=a):∀ (n:Nat) (l:List Wr),l.length=n->(∀ w∈l,w.addr≠a)->MX F l a=F a
 | 0,l,hn,_=>by
  obtain rfl:=AH.1 hn;rfl
 | n+1,l,hn,h=>by
  rcases Dc l with rfl | ⟨m,w,rfl⟩
  ·rfl
  ·have ih:=OS (F:=F) h0 n m (by simpa using hn) (fun x hx=>h x (by simp [hx]));rw [Dd,Lb];unfold Yx;rw [if_pos h0,if_neg (h w (by simp))];exact ih
def Vz (g:Geo) (a:An) (seq:Int) (x:Img):List Wr:=if x.what=255 then [⟨Bg g x.zone 0,CH (Bg g x.zone 0) seq x.bytes⟩,⟨Bg g x.zone 1,CH (Bg g x.zone 1) seq x.bytes⟩] else [⟨D3 g a x.zone x.what,CH (D3 g a x.zone x.what) seq x.bytes⟩]
def LL (g:Geo) (a:An) (seq:Int):List Img->List Wr
 | []=> []
 | x::r=>Vz g a seq x ++ LL g a seq r
def Ez (a:An) (seq:Int) (x:Img):An:=if x.what=255 then { a with homes:=a.homes.set x.zone.toNat { a.homes.getD x.zone.toNat ⟨[],0,0⟩ with root:=seq } } else a
def Ej (a:An) (seq:Int) (l:List Img):An:=l.foldl (fun a x=>Ez a seq x) a
theorem Q5 (a:An) (seq:Int) (x:Img):(Ez a seq x).homes.length=a.homes.length:=by unfold Ez;split <;> simp
theorem OT (seq:Int):∀ (l:List Img) (a:An),(Ej a seq l).homes.length=a.homes.length
 | [],_=>rfl
 | x::r,a=>by
  show (Ej (Ez a seq x) seq r).homes.length=_;rw [OT seq r,Q5]
theorem SL {g:Geo} {a:An} {seq:Int} {x:Img} (ha:B7 g a=true) (hs:0<=seq/\seq<=4294967295):B7 g (Ez a seq x)=true:=by
 unfold Ez;split
 ·by_cases hi:x.zone.toNat<a.homes.length
  ·simp only [B7,Ae,decide_eq_true_eq,Au] at ha |-
   obtain⟨q1,q2,q3,q4,q5,q6,q7⟩:=ha;refine⟨q1,q2,q3,q4,q5,by rw [Bm];exact q6,fun y hy=>?_⟩;rcases Cf hy with h | rfl
   ·exact q7 y h
   ·have hh:=q7 _ (AC (d:=(⟨[],0,0⟩:Hm)) hi);simp only [EJ,Ae] at hh |-
    exact⟨hh.1,hh.2.1,AJ.2 hs,hh.2.2.2⟩
  ·rw [List.set_eq_of_length_le (by omega)];exact ha
 ·exact ha
theorem Lc {g:Geo} {seq:Int} (hs:0<=seq/\seq<=4294967295):∀ (l:List Img) {a:An},B7 g a=true->B7 g (Ej a seq l)=true
 | [],_,h=>h
 | x::r,_,h=>Lc hs r (SL h hs)
def OX (g:Geo) (a:An) (x:Tx):An:={ Ej a x.seq x.images with gen:=a.gen+1,pos:=(x.pos+x.n).tmod g.sl,seq:=a.seq+1,last:=max a.last a.seq }
theorem IX (seq:Int):∀ (l:List Img) (a:An),(Ej a seq l).gen=a.gen/\(Ej a seq l).epoch=a.epoch/\(Ej a seq l).pos=a.pos/\(Ej a seq l).seq=a.seq/\(Ej a seq l).last=a.last/\(Ej a seq l).label=a.label
 | [],_=>tA
 | x::r,a=>by
  obtain⟨h1,h2,h3,h4,h5,h6⟩:=IX seq r (Ez a seq x);have e:(Ez a seq x).gen=a.gen/\(Ez a seq x).epoch=a.epoch/\(Ez a seq x).pos=a.pos/\(Ez a seq x).seq=a.seq/\(Ez a seq x).last=a.last/\(Ez a seq x).label=a.label:=by unfold Ez;split <;> exact tA
  obtain⟨e1,e2,e3,e4,e5,e6⟩:=e;exact⟨h1.trans e1,h2.trans e2,h3.trans e3,h4.trans e4,h5.trans e5,h6.trans e6⟩
theorem U3 {g:Geo} {a:An} {x:Tx} (hg:Bt g=true) (ha:B7 g a=true) (h1:a.gen<4294967295) (h2:a.seq<4294967295) (hx:x.seq=a.seq) (hp:0<=x.pos) (hn:0<=x.n):B7 g (OX g a x)=true:=by
 obtain⟨g1,g2,g3,g4,g5⟩:=Ay.1 hg;have hh:=ha;simp only [B7,Bb,BM,BC,Ae,decide_eq_true_eq,AJ] at hh;obtain⟨⟨w1,w2,w3,w4⟩,q2,q3,q4,q5,q6,q7⟩:=hh;have hu:=Lc (g:=g) (seq:=x.seq) (by omega) x.images ha;obtain⟨_,e2,_,_,_,e6⟩:=IX x.seq x.images a;simp only [B7,Bb,BM,BC,Ae,decide_eq_true_eq,AJ] at hu |-
 obtain⟨_,_,_,_,u5,u6,u7⟩:=hu;have hm0:0<=(x.pos+x.n).tmod g.sl:=BH _ (by omega);have hm1:(x.pos+x.n).tmod g.sl<g.sl:=B3 _ (by omega);refine⟨⟨?_,?_,?_,?_⟩,?_,?_,?_,u5,u6,u7⟩
 ·show 0<=a.gen+1/\a.gen+1<=_;omega
 ·show 0<=(Ej a x.seq x.images).epoch/\(Ej a x.seq x.images).epoch<=_;rw [e2];exact w2
 ·show 0<=a.seq+1/\a.seq+1<=_;omega
 ·show 0<=max a.last a.seq/\max a.last a.seq<=_;omega
 ·show 1<=a.seq+1;omega
 ·show a.seq+1 - 1<=max a.last a.seq;omega
 ·show 0<=(x.pos+x.n).tmod g.sl/\(x.pos+x.n).tmod g.sl<=g.sl - 1;omega
theorem OneTab.eq:∀ {l:List Img} (_:OneTab l) {x y:Img},x∈l->y∈l->x.what=255->y.what=255->x.zone=y.zone->x=y
 | w::l,h,x,y,hx,hy,h1,h2,h3=>by
  obtain⟨q1,q2⟩:=List.pairwise_cons.1 h;rcases AX.1 hx with ex | mx
  ·rcases AX.1 hy with ey | my
   ·rw [ex,ey]
   ·rw [ex] at h1 h3;exact absurd h3 (q1 y my h1 h2)
  ·rcases AX.1 hy with ey | my
   ·rw [ey] at h2 h3;exact absurd h3.symm (q1 x mx h2 h1)
   ·exact OneTab.eq q2 mx my h1 h2 h3
theorem LK {g:Geo} {a:An} {seq:Int} {w:Wr}:∀ {l:List Img},w∈LL g a seq l↔∃ x∈l,w∈Vz g a seq x
 | []=>by simp [LL]
 | x::r=>by
  rw [LL,Az,LK];simp
theorem JR {g:Geo} {x:Img} (h:BW g x=true):(0<=x.zone/\x.zone<g.z)/\(x.what≠255-> -1<=x.what/\x.what<g.d/\x.bytes.length=8):=by
 simp only [BW,Ae,AJ] at h;refine⟨by omega,fun hw=>?_⟩;have h2:=h.2.2;rw [if_neg hw,Ae,AJ,decide_eq_true_eq] at h2;omega
theorem Sm {g:Geo} {a:An} (ha:B7 g a=true) {z:Int} (hz:0<=z/\z<g.z):z.toNat<a.homes.length/\EJ g (a.homes.getD z.toNat ⟨[],0,0⟩)=true:=by
 simp only [B7,Ae,decide_eq_true_eq,Au] at ha;obtain⟨_,_,_,_,_,q6,q7⟩:=ha;have hi:z.toNat<a.homes.length:=by omega
 exact⟨hi,q7 _ (AC (d:=(⟨[],0,0⟩:Hm)) hi)⟩
theorem M4 {g:Geo} (hg:Bt g=true) {a:An} (ha:B7 g a=true) {z w:Int} (hz:0<=z/\z<g.z) (hw : -1<=w/\w<g.d):∃ s,D3 g a z w=Cx g z s/\0<=s/\s<CK g:=by
 obtain⟨g1,g2,g3,g4,g5⟩:=Ay.1 hg;obtain⟨hi,hh⟩:=Sm ha hz;simp only [EJ,Ae,decide_eq_true_eq,AJ] at hh;obtain⟨p1,p2,p3,p4⟩:=hh;have hat:0<=Ex g w/\Ex g w<=g.d:=by unfold Ex;split <;> omega
 refine⟨_,rfl,?_⟩;have hk:(Ex g w).toNat<(a.homes.getD z.toNat ⟨[],0,0⟩).places.length:=by omega
 have hp:=Au.1 p4 (Ex g w).toNat (by simpa using hk);simp only [Ae,AJ] at hp;unfold CK;omega
theorem KN {g:Geo} (hg:Bt g=true) {z s:Int} (hz:0<=z/\z<g.z) (hs:0<=s/\s<CK g):g.an+2*g.sl+2*g.z<=Cx g z s/\Cx g z s<A7 g:=by
 obtain⟨g1,g2,g3,g4,g5⟩:=Ay.1 hg;have hp:=Hq hg;have h1:=IR hg (z:=z) (by omega);have h2:z*CK g+CK g<=g.z*CK g:=by
  have:=Bl (show z+1<=g.z by omega) (show 0<=CK g by omega);rw [Int.add_mul,Int.one_mul] at this;exact this
 unfold Cx A7;omega
theorem QB {g:Geo} (hg:Bt g=true) {z k:Int} (hz:0<=z/\z<g.z) (hk:0<=k/\k<=1):g.an+2*g.sl<=Bg g z k/\Bg g z k<g.an+2*g.sl+2*g.z/\Bg g z k<A7 g:=by
 obtain⟨g1,g2,g3,g4,g5⟩:=Ay.1 hg;have hp:=Hq hg;have h1:=IR hg (z:=g.z) (by omega);unfold Bg A7;omega

def GW (l:List (List UInt8)):AV:= .sl 1 l.length fun i=> [bA (l.getD i [])]
theorem Kl (g:Geo) (A:Int) (hA:0<=A/\A<g.d):Fn Tryz.prog 227 [.ag (Bh g),iA [A]] fun r=>r = .v (.bool true):=by
 refine zT Tryz.func227 rfl ?_;conv=>whnf
 refine zA 2 ?_;conv=>whnf
 refine Ai ⟨by decide,by show (0:Int)<1;decide⟩ ?_;conv=>whnf
 rw [show [A].getD (Int.toNat 0) 0=A from rfl];rw [show decide (A<0)=false from decide_eq_false (by omega)];conv=>whnf
 rw [show decide (A>=g.d)=false from decide_eq_false (by omega)];conv=>whnf
 repeat' (refine zZ ?_;conv=>whnf)
 exact⟨_,ri,rfl⟩
theorem S9 (b:List UInt8):Fn Tryz.prog 306 [bA b] fun r=>r = .v (.bool (((b.length:Nat):Int) != 8)):=by
 refine zT Tryz.func306 rfl ?_;exact⟨_,ri,rfl⟩
theorem Y1 (l:List (List UInt8))  (hl:l.length<=1000000):Fn Tryz.prog 316 [GW l, .v (.func (.func 306) #[] #[])] fun r=>r = iv (Nt (fun b=>(((b.length:Nat):Int) != 8)) l):=by
 refine zT Tryz.func316 rfl ?_;conv=>whnf
 refine zO Nat (fun k=>([(0,GW l),(1, .v (.func (.func 306) #[] #[])),(7,iv l.length),(8,iv k)], [])) (fun k=>k<=l.length/\(l.take k).any (fun b=>(((b.length:Nat):Int) != 8))=false) (fun k=>l.length - k) 0 ⟨Aj _,by simp⟩ ⟨[],tv,tA,tv,rfl,rfl,rfl⟩ ?_;rintro k ⟨hk,hI⟩;conv=>whnf
 refine Ak (fun h2=>?_) (fun h2=>?_) <;> simp at h2 <;> conv=>whnf
 ·refine⟨by first | omega | (refine⟨rfl,?_,?_⟩ <;> first | omega | (simp only [Aa];done) | (simp only [Aa];omega)) | (simp only [Aa];omega),?_⟩;conv=>whnf
  refine zY (S9 (l.getD k [])) ?_;conv=>whnf
  refine Ak (fun h3=>?_) (fun h3=>?_) <;> conv=>whnf
  ·exact⟨_,ri,by rw [Ek (d:= []) h2 hI (by first | exact h3 | (rw [Ac] at h3;exact h3) | simpa using h3)]⟩
  ·refine⟨k+1,⟨by omega,Cm (d:= []) h2 hI (by first | exact h3 | (rw [Ac] at h3;exact h3) | simpa using h3)⟩,by omega, [],tv,⟨rfl,rfl,rfl,AQ (by omega),tv⟩,tv,rfl,rfl,rfl⟩
 ·exact⟨_,ri,by rw [At h2] at hI;rw [Dx hI]⟩
theorem Y2 (l:List (List UInt8))  (hl:l.length<=1000000):Fn Tryz.prog 244 [GW l, .v (.func (.func 306) #[] #[])] fun r=>r = .v (.bool (l.any (fun b=>(((b.length:Nat):Int) != 8)))):=by
 refine zT Tryz.func244 rfl ?_;conv=>whnf
 refine zY (Y1 l  hl) ?_;exact⟨_,ri,by rw [FP]⟩

theorem JB (l:List (List UInt8)) (hl:l.length<=1000000) (h:∀ b∈l,b.length=8):Fn Tryz.prog 228 [GW l] fun r=>r = .v (.bool true):=by
 have hc:=Y2 l hl;have e:(l.any fun b=>(((b.length:Nat):Int) != 8))=false:=by
  rw [List.any_eq_false];intro b hb;rw [h b hb];decide
 rw [e] at hc;refine zT Tryz.func228 rfl ?_;conv=>whnf
 refine zY hc ?_;exact⟨_,ri,rfl⟩
theorem S5 (b:List UInt8):Fn Tryz.prog 243 [bA b] fun r=>r = .v (.bool ((((b.length:Nat):Int) != 0)&&(((b.length:Nat):Int) != 8))):=by
 refine zT Tryz.func243 rfl ?_;conv=>whnf
 by_cases h:((b.length:Nat):Int)=0
 ·rw [show (((b.length:Nat):Int) != 0)=false from bne_eq_false_iff_eq.2 h];exact⟨_,ri,rfl⟩
 ·rw [show (((b.length:Nat):Int) != 0)=true from bne_iff_ne.2 h];exact⟨_,ri,by rw [BB]⟩
theorem Ym (l:List (List UInt8))  (hl:l.length<=1000000):Fn Tryz.prog 316 [GW l, .v (.func (.func 243) #[] #[])] fun r=>r = iv (Nt (fun b=>((((b.length:Nat):Int) != 0)&&(((b.length:Nat):Int) != 8))) l):=by
 refine zT Tryz.func316 rfl ?_;conv=>whnf
 refine zO Nat (fun k=>([(0,GW l),(1, .v (.func (.func 243) #[] #[])),(7,iv l.length),(8,iv k)], [])) (fun k=>k<=l.length/\(l.take k).any (fun b=>((((b.length:Nat):Int) != 0)&&(((b.length:Nat):Int) != 8)))=false) (fun k=>l.length - k) 0 ⟨Aj _,by simp⟩ ⟨[],tv,tA,tv,rfl,rfl,rfl⟩ ?_;rintro k ⟨hk,hI⟩;conv=>whnf
 refine Ak (fun h2=>?_) (fun h2=>?_) <;> simp at h2 <;> conv=>whnf
 ·refine⟨by first | omega | (refine⟨rfl,?_,?_⟩ <;> first | omega | (simp only [Aa];done) | (simp only [Aa];omega)) | (simp only [Aa];omega),?_⟩;conv=>whnf
  refine zY (S5 (l.getD k [])) ?_;conv=>whnf
  refine Ak (fun h3=>?_) (fun h3=>?_) <;> conv=>whnf
  ·exact⟨_,ri,by rw [Ek (d:= []) h2 hI (by first | exact h3 | (rw [Ac] at h3;exact h3) | simpa using h3)]⟩
  ·refine⟨k+1,⟨by omega,Cm (d:= []) h2 hI (by first | exact h3 | (rw [Ac] at h3;exact h3) | simpa using h3)⟩,by omega, [],tv,⟨rfl,rfl,rfl,AQ (by omega),tv⟩,tv,rfl,rfl,rfl⟩
 ·exact⟨_,ri,by rw [At h2] at hI;rw [Dx hI]⟩
theorem Yn (l:List (List UInt8))  (hl:l.length<=1000000):Fn Tryz.prog 244 [GW l, .v (.func (.func 243) #[] #[])] fun r=>r = .v (.bool (l.any (fun b=>((((b.length:Nat):Int) != 0)&&(((b.length:Nat):Int) != 8))))):=by
 refine zT Tryz.func244 rfl ?_;conv=>whnf
 refine zY (Ym l  hl) ?_;exact⟨_,ri,by rw [FP]⟩

@[reducible] def zlH (g:Geo) (t:List Ent) (had:List (List UInt8)):List AB:= [.box 348 [iv g.d,BX t,GW had]]
theorem S7 (g:Geo) (t:List Ent) (had:List (List UInt8)) (hg:Bt g=true) (ht:Ib g t=true) (htl:t.length<=1000) (hh:(had.length:Int)=g.d+1) (h8:∀ b∈had,b.length=8):ACalls Tryz.prog false 168 [.ag (Bh g), .ag [BX t],GW had] [] fun r H=>r = .tp [.bp 0 0,iv 0]/\H=zlH g t had:=by
 obtain⟨g1,g2,g3,g4,g5⟩:=Ay.1 hg;have hc:=M_ g t (by omega);rw [ht] at hc;have hz:=Yn had (by omega);have e:(had.any fun b=>((((b.length:Nat):Int) != 0)&&(((b.length:Nat):Int) != 8)))=false:=by
  rw [List.any_eq_false];intro b hb;rw [h8 b hb];decide
 rw [e] at hz;refine zV tys_ok Tryz.func168 rfl rfl (Ad rfl) ?_;conv=>whnf
 refine zY hc ?_;conv=>whnf
 rw [show (((had.length:Nat):Int) != IntKind.i64.wrap (g.d+1))=false from bne_eq_false_iff_eq.2 (by rw [wi (by omega)];exact hh)];conv=>whnf
 refine zY hz ?_;exact⟨_, .tp [.bp 0 0,iv 0],zlH g t had,fun _ _ h=>h,zR (s:= [2]) tA,rfl,rfl⟩
theorem S6 (g:Geo) (t:List Ent) (had:List (List UInt8)) (i:Nat) (ht:i<t.length) (hi:i<had.length) (h8:∀ b∈had,b.length=8) (hlo:(t.getD i ez).lost=false):ACalls Tryz.prog false 169 [.bp 0 0,iv (i:Nat)] (zlH g t had) fun r H=>r = .tp [bA (had.getD i []), .v (.bool true)]/\H=zlH g t had:=by
 have hb:=h8 _ (AC (d:=([]:List UInt8)) hi);have hc:=BG (had.getD i []) (by omega);have ixA:(0:Int)<=(i:Nat)/\((i:Nat):Int)<(t.length:Nat):=by omega
 have ixB:(0:Int)<=(i:Nat)/\((i:Nat):Int)<(had.length:Nat):=by omega
 refine zV tys_ok Tryz.func169 rfl rfl (Ad rfl) ?_;refine⟨ixA,?_⟩;conv=>whnf
 rw [Ac,show (t.getD i ⟨0,0,false⟩).lost=false from hlo];refine⟨ixB,?_⟩;conv=>whnf
 rw [show decide ((((had.getD (((i:Nat):Int)).toNat []).length:Nat):Int) > 0)=true from decide_eq_true (by rw [Ac];omega)];refine⟨ixB,?_⟩;conv=>whnf
 refine zY hc ?_;exact⟨_, .tp [bA (had.getD i []), .v (.bool true)],zlH g t had,fun _ _ h=>h,zR (s:= [0]) tA,rfl,rfl⟩
def FJ (L b:List UInt8) (k:Nat):List UInt8:=GP (L.take k) (b.take k) ++ L.drop k
theorem T1 {L b:List UInt8} (h:L.length<=b.length) (k:Nat):(FJ L b k).length=L.length:=by
 simp only [FJ,Ah,FV,Aq,Al];omega
theorem T2 {L b:List UInt8} {k:Nat} (h:k<L.length) (h2:L.length<=b.length):(FJ L b k).getD k 0=L.getD k 0:=by
 have e:(GP (L.take k) (b.take k)).length=k:=by rw [FV,Aq,Aq];omega
 rw [FJ,Ab,AM (by omega),e,BA,Cs,Ca,<-Ab]
theorem T0 {L b:List UInt8} {k:Nat} (h:k<L.length) (h2:L.length<=b.length):(FJ L b k).set k (L.getD k 0 ^^^ b.getD k 0)=FJ L b (k+1):=by
 have e:(GP (L.take k) (b.take k)).length=k:=by rw [FV,Aq,Aq];omega
 have e2:GP (L.take (k+1)) (b.take (k+1))=GP (L.take k) (b.take k) ++ [L.getD k 0 ^^^ b.getD k 0]:=by
  rw [Bi,Bi,Af h,Af (by omega),GP,List.zipWith_append (by rw [Aq,Aq];omega),Ab,Ab,Af h,Af (show k<b.length by omega)];try rfl
 rw [FJ,FJ,C8 _ _ (by omega),e,BA,BF h,e2,AA];try rfl
theorem T3 {L b:List UInt8} (h:L.length=b.length):FJ L b L.length=GP L b:=by
 rw [FJ,List.drop_length,AE,A5,h,A5]
theorem S3 {l:List UInt8} {k:Nat} (h:k<l.length):(l.map Fh).getD k []=Fh (l.getD k 0):=AR h
theorem Ui (L b:List UInt8) (h:L.length=b.length) (hl:L.length<=1000000):ACalls Tryz.prog false 309 [.ow 0 L.length,bA b] [.row 5 1 (L.map Fh)] fun r H=>r = .tp []/\H=[.row 5 1 ((GP L b).map Fh)]:=by
 refine zV tys_ok Tryz.func309 rfl rfl (Ad rfl) ?_;conv=>whnf
 refine zS Nat (fun k=>([(0, .ow 0 L.length),(6,bA b),(7,iv (b.length:Nat)),(8,iv (k:Nat))], [.row 5 1 ((FJ L b k).map Fh)])) (fun k=>k<=b.length) (fun k=>b.length - k) 0 (Aj _)
  (zR (s:= [0]) tA) ?_
 intro k hk;conv=>whnf
 refine AP (fun h6=>?_) (fun h6=>?_) <;> (repeat rw [Ac] at h6) <;> conv=>whnf
 ·have hk':k<b.length:=by omega
  have hml:=T1 (L:=L) (b:=b) (by omega) k;repeat' (refine zZ ?_;conv=>whnf)
  refine⟨⟨by omega,by omega⟩,?_⟩;conv=>whnf
  repeat' (refine zZ ?_;conv=>whnf)
  refine⟨⟨by omega,by omega⟩,?_⟩;refine⟨⟨rfl,by rw [Aa,hml],by omega⟩,?_⟩;rw [Ac,S3 (by omega),T2 (by omega) (by omega)];refine⟨⟨by omega,by omega⟩,?_⟩;refine⟨⟨rfl,by rw [Aa,hml],by omega⟩,?_⟩;rw [Ac,S3 (by omega)];refine⟨k+1,hk',by omega,zR (s:= [0]) ⟨⟨rfl,rfl,rfl,AQ (by omega),tv⟩,⟨?_,tv⟩,rfl,rfl,rfl,rfl,rfl⟩⟩;have e:((FJ L b k).map Fh).set k (Fh (L.getD k 0 ^^^ b.getD k 0))=(FJ L b (k+1)).map Fh:=by rw [<-List.map_set,T0 (by omega) (by omega)]
  have ex:=Yy (L.getD k 0) (b.getD k 0).toNat (b.getD k 0).toNat_lt;rw [UInt8.ofNat_toNat] at ex;rw [<-e];show some (AB.row _ _ _)=some (AB.row _ _ _);rw [show Fh (L.getD k 0 ^^^ b.getD k 0)=[AV.v (.int .u8 ((L.getD k 0 ^^^ b.getD k 0).toNat:Nat))] from rfl,<-ex]
 ·have ek:k=b.length:=by omega
  subst ek;exact⟨_, .tp [], [.row 5 1 ((GP L b).map Fh)],fun _ _ h=>h,zR (s:= [0]) ⟨tA,⟨congrArg (fun z=>some (AB.row 5 1 (List.map Fh z))) (show FJ L b b.length=GP L b by rw [<-h];exact T3 h),tv⟩,rfl,rfl,rfl,rfl,rfl⟩,rfl,rfl⟩
theorem S8 (l:List (List UInt8)) (hl:l.length<=1000000) (h:∀ b∈l,b.length=8):Fn Tryz.prog 308 [iv 8,GW l] fun r=>r = .v (.bool true):=by
 refine zT Tryz.func308 rfl ?_;conv=>whnf
 refine zS Nat (fun k=>([(0,iv 8),(7,GW l),(8,iv (l.length:Nat)),(9,iv (k:Nat))], [])) (fun k=>k<=l.length) (fun k=>l.length - k) 0 (Aj _)
  (zR (s:= []) tA) ?_
 intro k hk;conv=>whnf
 refine AP (fun h6=>?_) (fun h6=>?_) <;> (repeat rw [Ac] at h6) <;> conv=>whnf
 ·have hk':k<l.length:=by omega
  have h8:=h _ (AC (d:=([]:List UInt8)) hk');repeat' (refine zZ ?_;conv=>whnf)
  refine⟨⟨by omega,by omega⟩,?_⟩;conv=>whnf
  repeat' (refine zZ ?_;conv=>whnf)
  rw [show (((l.getD (k:Int).toNat []).length:Int) != 8)=false from bne_eq_false_iff_eq.2 (by rw [Ac,h8];try rfl)];exact⟨k+1,hk',by omega,zR (s:= []) ⟨⟨rfl,rfl,rfl,AQ (by omega),tv⟩,tv,rfl,rfl,rfl,rfl,rfl⟩⟩
 ·exact⟨_,ri,rfl⟩
def K9 (l:List (List UInt8)):List UInt8:=l.foldl GP zero8
theorem xorL_len:∀ (l:List (List UInt8)) (a:List UInt8),a.length=8->(∀ b∈l,b.length=8)->(l.foldl GP a).length=8
 | [],_,h,_=>h
 | b::l,a,h,hl=>xorL_len l _ (by rw [FV,h,hl b (by simp)];rfl) fun c hc=>hl c (by simp [hc])
theorem W5 (l:List (List UInt8)) (hl:l.length<=1000000) (h:∀ b∈l,b.length=8):Fn Tryz.prog 231 [GW l,iv 8] fun r=>r = .tp [bA (K9 l),iv 0]:=by
 have ha:=S8 l hl h;refine zT Tryz.func231 rfl ?_;conv=>whnf
 refine zY ha ?_;refine⟨⟨rfl,by decide,by decide⟩,?_⟩;conv=>whnf
 refine zS Nat (fun k=>([(0,GW l),(6, .ow 0 8),(23,GW l),(24,iv (l.length:Nat)),(25,iv (k:Nat))], [.row 5 1 ((K9 (l.take k)).map Fh)])) (fun k=>k<=l.length) (fun k=>l.length - k) 0 (Aj _)
  (zR (s:= [0]) tA) ?_
 intro k hk;conv=>whnf
 refine AP (fun h6=>?_) (fun h6=>?_) <;> (repeat rw [Ac] at h6) <;> conv=>whnf
 ·have hk':k<l.length:=by omega
  have h8:=h _ (AC (d:=([]:List UInt8)) hk');have hx:(K9 (l.take k)).length=8:=xorL_len _ _ rfl fun b hb=>h b (Br hb)
  have hi:=Ui (K9 (l.take k)) (l.getD k []) (by omega) (by omega);rw [hx] at hi;have hs:GP (K9 (l.take k)) (l.getD k [])=K9 (l.take (k+1)):=by
   unfold K9;rw [Bi,Cb,Ab,Af hk'];try rfl
  rw [hs] at hi;repeat' (refine zZ ?_;conv=>whnf)
  refine⟨⟨by omega,by omega⟩,?_⟩;conv=>whnf
  rw [Ac];repeat' (refine zZ ?_;conv=>whnf)
  refine hi.mono ?_;rintro _ _ ⟨rfl,rfl⟩;exact⟨k+1,hk',by omega,zR (s:= [0]) ⟨⟨rfl,rfl,rfl,rfl,AQ (by omega),tv⟩,tA,rfl,rfl,rfl,rfl,rfl⟩⟩
 ·have ek:k=l.length:=by omega
  subst ek;have hx:(K9 l).length=8:=xorL_len _ _ rfl h;rw [A5];refine⟨(by rw [Aa,hx]),?_⟩;exact⟨.tp [bA (K9 l),iv 0],BT (m:= [bA (K9 l),iv 0]) ⟨NN hx.symm rfl,ri,tv⟩,rfl⟩
theorem PW (stamp:Int) (b:List UInt8) (hs:0<=stamp/\stamp<=4294967295) (hb:b.length=8):Fn Tryz.prog 230 [iv stamp,bA b] fun r=>r = .tp [.ag (Dp ⟨stamp,(DH b:Nat),false⟩),iv 0]:=by
 have h1:=Ja b;refine zT Tryz.func230 rfl ?_;conv=>whnf
 rw [show decide (stamp<0)=false from decide_eq_false (by omega)];conv=>whnf
 rw [show decide (stamp > 4294967295)=false from decide_eq_false (by omega)];conv=>whnf
 rw [show ((b.length:Int) != 8)=false from bne_eq_false_iff_eq.2 (by rw [hb];try rfl)];conv=>whnf
 refine zY h1 ?_;exact⟨_,ri,rfl⟩
theorem VO (l:List Ent) (hl:l.length<=1000000000):ACalls Tryz.prog false 307 [BX l] [] fun r H=>r = .ow 0 l.length/\H=[.row 189 3 (l.map Dp)]:=by
 refine zE tys_ok Tryz.func307 rfl rfl (by show 1<=_;decide) ?_;refine Ai (fun h=>?_) ?_
 ·conv=>whnf
  have h0:=AH.1 h;subst h0;exact⟨_, .ow 0 0, [.row 189 3 []],fun _ _ h=>h,zK ⟨[(0,189,3)],tA,tA,tA,rfl,rfl,rfl⟩,rfl,rfl⟩
 ·refine⟨⟨rfl,by omega⟩,?_⟩;exact⟨.ow 0 l.length, .ow 0 l.length, [.row 189 3 (l.map Dp)],fun _ _ h=>by rwa [Av] at h,zK ⟨[],tv,tA,⟨(congrArg (AB.row _ _) (JK (d:=(⟨0,0,false⟩:Ent)) Dp l)).symm,tv⟩,rfl,rfl,rfl⟩,rfl,rfl⟩
theorem SO (t:List Ent) (ht:t.length<=1000000):ACalls Tryz.prog false 229 [.ag [BX t]] [] fun r H=>r = .ag [.ow 0 t.length]/\H=[.row 189 3 (t.map Dp)]:=by
 have h1:=VO t (by omega);refine zV tys_ok Tryz.func229 rfl rfl (Ad rfl) ?_;conv=>whnf
 refine zW h1 rfl ?_;rintro _ _ ⟨rfl,rfl⟩;exact⟨.ag [.ow 2 t.length], .ag [.ow 0 t.length], [.row 189 3 (t.map Dp)],fun _ _ h=>h,zR (s:= [2]) tA,rfl,rfl⟩
section
variable (g:Geo) (t:List Ent) (had:List (List UInt8)) (ats:List Int) (bs:List (List UInt8)) (stamp:Int)
def FN (i:Nat):List Ent:=(List.range i).map (Om g t had ats bs stamp) ++ t.drop i
theorem Py {i:Nat} (h:i<=t.length):(FN g t had ats bs stamp i).length=t.length:=by simp [FN];omega
theorem Lw {i:Nat} (h:i<t.length) (e:Ent):(FN g t had ats bs stamp i).set i e=(List.range i).map (Om g t had ats bs stamp) ++ e::t.drop (i+1):=by
 rw [FN,C8 _ _ (by simp),Aa,CJ,BA,BF h];try rfl
theorem YA {i:Nat} (h:i<t.length):(FN g t had ats bs stamp i).set i (t.getD i ez)=FN g t had ats bs stamp i:=by
 rw [Lw g t had ats bs stamp h,FN,BF h,Ab,Af h];try rfl
theorem Nh {i:Nat} (h:i<t.length):(FN g t had ats bs stamp i).set i (Om g t had ats bs stamp i)=FN g t had ats bs stamp (i+1):=by
 rw [Lw g t had ats bs stamp h,FN,B9,A0,AA];try rfl
end
inductive TrJ where
 | fin
 | jump (k:Nat)
 | one (i:Nat) (r:TrJ)
 | non
 | alt (i:Nat) (a:TrJ) (r:TrJ)
def TrJ.o (l:List Nat) (t:TrJ):TrJ:=l.foldr .one t
abbrev Seg:=List Nat × Nat × TrJ
def segGet:List Seg->Nat->Option Seg
 | [],_=>none
 | x::_,0=>some x
 | _::r,k+1=>segGet r k
def TrJ.depth (sg:List Seg):TrJ->Nat
 | .fin=>0
 | .jump k=>match segGet sg k with | some s=>s.2.1 | none=>0
 | .one _ r=>r.depth sg+1
 | .non=>0
 | .alt _ a r=>max (a.depth sg+1) (r.depth sg)
def TrJ.alts:TrJ->List Nat
 | .alt i _ r=>i::r.alts
 | _=> []
def eqB:List Bool->List Bool->Bool
 | [], []=>true
 | a::l,b::m=>(a == b)&&eqB l m
 | _,_=>false
theorem eqB_eq:∀ {l m:List Bool},eqB l m=true->l=m
 | [], [],_=>rfl
 | a::l,b::m,h=>by
  simp only [eqB,Ae,beq_iff_eq] at h;rw [h.1,eqB_eq h.2]
 | [],_::_,h=>by simp [eqB] at h
 | _::_, [],h=>by simp [eqB] at h
def eqN:List Nat->List Nat->Bool
 | [], []=>true
 | a::l,b::m=>Nat.beq a b&&eqN l m
 | _,_=>false
theorem eqN_eq:∀ {l m:List Nat},eqN l m=true->l=m
 | [], [],_=>rfl
 | a::l,b::m,h=>by
  simp only [eqN,Ae] at h;rw [Am h.1,eqN_eq h.2]
 | [],_::_,h=>by simp [eqN] at h
 | _::_, [],h=>by simp [eqN] at h
def NE (n:Nat) (s:List Nat):Array Bool:=s.foldl (fun l i=>l.setIfInBounds i true) (Array.replicate n false)
abbrev Sts:=List (Fr × List AB)
def sget:Sts->Nat->Fr × List AB
 | [],_=>([], [])
 | x::_,0=>x
 | _::r,k+1=>sget r k
section
variable {P:Program} {ops:Array Oper} {B:List Nat} {Q:Exit->Act->World->Prop} {mk:Nat}
def FE (ops:Array Oper) (B:List Nat) (mk:Nat) (sg:List Seg) (me:Nat):TrJ->Bool->Array Bool->Bool
 | .fin,f,l=>f&&(Region.ready .any ops l).isEmpty
 | .jump k,f,l=>f&&Nat.blt me k&&(match segGet sg k with | some s=>eqB l.toList (NE ops.size s.1).toList | none=>false)
 | .one i r,f,l=>f&&(match ops[i]? with
   | none=>false
   | some o=>match isEff o.op with
    | true=>(match Region.ready .any ops l with | [j]=>Nat.beq i j | _=>false)&&(qM mk i o.op || !Jn ops B mk i)
    | false=>match mk.testBit i with
     | true=>(match Region.ready .any ops l with | [j]=>Nat.beq i j | _=>false)&&(qM mk i o.op || !Jn ops B mk i)
     | false=>Region.free .any ops l i&&(Region.ready .any ops l).contains i)&&FE ops B mk sg me r true (l.setIfInBounds i true)
 | .non,f,_=>!f
 | .alt i a r,f,l=>(!f || eqN (Region.ready .any ops l) (i::r.alts))&&KG ops B mk i&&FE ops B mk sg me a true (l.setIfInBounds i true)&&FE ops B mk sg me r false l
def P0 (P:Program) (T:Tys) (n mk:Nat) (ops:Array Oper) (ds:List Nat) (st:Sts) (K:Fr->List AB->Prop):TrJ->Fr->List AB->Prop
 | .fin,fr,H=>K fr H
 | .jump k,fr,H=>canonK ds fr fun l=>l=(sget st k).1/\H=(sget st k).2
 | .one i r,fr,H=>E0 P T n mk ops i fr H fun fr H=>P0 P T n mk ops ds st K r fr H
 | .non,_,_=>True
 | .alt i a r,fr,H=>(E0 P T n mk ops i fr H fun fr H=>P0 P T n mk ops ds st K a fr H)/\P0 P T n mk ops ds st K r fr H
def Of (P:Program) (T:Tys) (n mk:Nat) (ops:Array Oper) (ds:List Nat) (st:Sts) (K:Fr->List AB->Prop):List Seg->Nat->Prop
 | [],_=>True
 | s::r,k=>P0 P T n mk ops ds st K s.2.2 (sget st k).1 (sget st k).2/\Of P T n mk ops ds st K r (k+1)
def JD (ops:Array Oper) (B:List Nat) (mk:Nat) (sg:List Seg):List Seg->Nat->Bool
 | [],_=>true
 | s::r,k=>FE ops B mk sg k s.2.2 true (NE ops.size s.1)&&Nat.ble (s.2.2.depth sg) s.2.1&&JD ops B mk sg r (k+1)
variable {T:Tys} {w0:Fl} {M0:Ms} {n d0:Nat} {ce:Ctx}
theorem Lx {ds:List Nat} {st:Sts} {K:Fr->List AB->Prop}:∀ {sg:List Seg} {k0 k:Nat} {s:Seg},Of P T n mk ops ds st K sg k0->segGet sg k=some s->P0 P T n mk ops ds st K s.2.2 (sget st (k0+k)).1 (sget st (k0+k)).2
 | [],_,_,_,_,h=>by simp [segGet] at h
 | x::r,k0,0,s,h,hs=>by
  simp only [segGet,Option.some.injEq] at hs;subst hs;exact h.1
 | x::r,k0,k+1,s,h,hs=>by
  have:=Lx (k:=k) h.2 hs;rw [show k0+(k+1)=k0+1+k by omega];exact this
theorem Lm {sg0:List Seg}:∀ {sg:List Seg} {k0 k:Nat} {s:Seg},JD ops B mk sg0 sg k0=true->segGet sg k=some s->FE ops B mk sg0 (k0+k) s.2.2 true (NE ops.size s.1)=true/\s.2.2.depth sg0<=s.2.1
 | [],_,_,_,_,h=>by simp [segGet] at h
 | x::r,k0,0,s,h,hs=>by
  simp only [segGet,Option.some.injEq] at hs;subst hs;simp only [JD,Ae] at h;exact⟨h.1.1,Ad h.1.2⟩
 | x::r,k0,k+1,s,h,hs=>by
  simp only [JD,Ae] at h;have:=Lm (k:=k) h.2 hs;rw [show k0+(k+1)=k0+1+k by omega];exact this
theorem segGet_lt:∀ {sg:List Seg} {k:Nat} {s:Seg},segGet sg k=some s->k<sg.length
 | [],_,_,h=>by simp [segGet] at h
 | _::_,0,_,_=>by simp
 | _::r,k+1,s,h=>by
  have:=segGet_lt (sg:=r) (k:=k) h;simp;omega
def Yk (P:Program) (T:Tys) (ops:Array Oper) (B:List Nat) (mk n:Nat) (Q:Exit->Act->World->Prop) (w0:Fl) (M0:Ms) (ce:Ctx) (st:Sts) (sg:List Seg) (k:Nat):Prop:=
 ∀ (s:Seg) (m:Nat) (c:Ctx) (a:Act),segGet sg k=some s->s.2.1<=m->Cl ops (NE ops.size s.1)->HS w0 M0 c (sget st k).2->FR w0 c n (sget st k).1 a->Ext ce c->HeldM P ops B mk Q m (NE ops.size s.1) a c.w
theorem EG (hT:TOk P T) (hB:FM ops B=true) (hns:Region.noSelect ops=true) {ds:List Nat} {st:Sts} {sg:List Seg} {K:Fr->List AB->Prop} (hq:∀ a w,DN w0 M0 ce n K a w->Q .normal a w) (hpan:∀ c a w,¬Q (.panic c) a w) {me:Nat} (hseg:∀ k,me<k->Yk P T ops B mk n Q w0 M0 ce st sg k) :
  ∀ (r:TrJ) (m:Nat) (l:Array Bool) (c:Ctx) (fr:Fr) (H:List AB) (a:Act),Cl ops l->HS w0 M0 c H->FR w0 c n fr a->Ext ce c->P0 P T n mk ops ds st K r fr H->
   (FE ops B mk sg me r true l=true->r.depth sg<=m->HeldM P ops B mk Q m l a c.w)/\
   (FE ops B mk sg me r false l=true->r.depth sg<=m+1->∀ j∈r.alts,j∈Region.ready .any ops l->wpOp P ops Q j (fun a' w'=>(Jn ops B mk j=true->Old c.w w')/\HeldM P ops B mk Q m (l.setIfInBounds j true) a' w') a c.w)
 | .fin,m,l,c,fr,H,a,hcl,hs,hf,he,h=>by
  refine⟨fun hd hm=>?_,fun _ _ j hj=>by simp [TrJ.alts] at hj⟩;simp only [FE,BB,List.isEmpty_iff] at hd;cases m with
  | zero=>exact⟨hd,hq _ _ ⟨c,fr,H,rfl,h,hs,hf,he⟩⟩
  | succ m=>exact⟨fun _=>hq _ _ ⟨c,fr,H,rfl,h,hs,hf,he⟩,by rw [hd];simp⟩
 | .jump k,m,l,c,fr,H,a,hcl,hs,hf,he,h=>by
  refine⟨fun hd hm=>?_,fun _ _ j hj=>by simp [TrJ.alts] at hj⟩;simp only [FE,BB,Ae] at hd;simp only [TrJ.depth] at hm;obtain⟨hlt,hd⟩:=hd;cases hg:segGet sg k with
  | none=>rw [hg] at hd;simp at hd
  | some s=>
   rw [hg] at hd hm;simp only at hd hm;have hl:l=NE ops.size s.1:=Array.ext' (eqB_eq hd);obtain⟨e1,e2⟩:=canonK_iff h;subst hl;refine hseg k (As (Bu me) (Ad hlt)) s m c a hg hm hcl (e2 ▸ hs) (e1 ▸ hf.canon _) he
 | .non,m,l,c,fr,H,a,hcl,hs,hf,he,h=>by
  refine⟨fun hd hm=>by simp [FE] at hd,fun _ _ j hj=>by simp [TrJ.alts] at hj⟩
 | .alt i x r,m,l,c,fr,H,a,hcl,hs,hf,he,h=>by
  obtain⟨h1,h2⟩:=h;have key:∀ m,TrJ.depth sg (.alt i x r)<=m+1->KG ops B mk i=true->FE ops B mk sg me x true (l.setIfInBounds i true)=true->i∈Region.ready .any ops l->wpOp P ops Q i (fun a' w'=>(Jn ops B mk i=true->Old c.w w')/\HeldM P ops B mk Q m (l.setIfInBounds i true) a' w') a c.w:=by
   intro m hm hk hx hr;simp only [TrJ.depth] at hm;unfold KG at hk;split at hk
   ·rename_i o ho;refine EL hT ho hk hs hf he (fun c' fr' H' a' q1 q2 q3 q4=>(EG hT hB hns hq hpan hseg x m _ c' fr' H' a' (hcl.set hr) q1 q2 q3 q4).1 hx (by omega)) h1
   ·cases hk
  refine⟨fun hd hm=>?_,fun hd hm j hj hr=>?_⟩
  ·simp only [FE,Bool.not_true,Bool.false_or,Ae] at hd;obtain⟨⟨⟨hr,hi⟩,hx⟩,hy⟩:=hd;have hr':=eqN_eq hr;cases m with
   | zero=>simp only [TrJ.depth] at hm;omega
   | succ m=>
    refine⟨fun h0=>(by rw [hr'] at h0;cases h0),fun j hj=>?_⟩;have hj0:=hj;rw [hr',AX] at hj;rcases hj with rfl | hj
    ·exact key m hm hi hx hj0
    ·refine(EG hT hB hns hq hpan hseg r m l c fr H a hcl hs hf he h2).2 hy ?_ j hj hj0;simp only [TrJ.depth] at hm;omega
  ·simp only [FE,Bool.not_false,Bool.true_or,BB,Ae] at hd;obtain⟨⟨hi,hx⟩,hy⟩:=hd;simp only [TrJ.alts,AX] at hj;rcases hj with rfl | hj
   ·exact key m hm hi hx hr
   ·refine(EG hT hB hns hq hpan hseg r m l c fr H a hcl hs hf he h2).2 hy ?_ j hj hr;simp only [TrJ.depth] at hm;omega
 | .one i r,m,l,c,fr,H,a,hcl,hs,hf,he,h=>by
  refine⟨fun hd hm=>?_,fun _ _ j hj=>by simp [TrJ.alts] at hj⟩;cases m with
  | zero=>simp [TrJ.depth] at hm
  | succ m=>
   simp only [TrJ.depth,Nat.add_le_add_iff_right] at hm;simp only [FE,BB,Ae] at hd;obtain⟨hd1,hd2⟩:=hd;simp only [P0] at h;cases ho:ops[i]? with
   | none=>rw [ho] at hd1;simp at hd1
   | some o=>
    rw [ho] at hd1;simp only at hd1;have only:(match Region.ready .any ops l with | [j]=>Nat.beq i j | _=>false)=true->(qM mk i o.op || !Jn ops B mk i)=true->HeldM P ops B mk Q (m+1) l a c.w:=by
     intro hr hmq;have hr':Region.ready .any ops l=[i]:=by
      split at hr
      ·rename_i j hj;rw [hj,Am hr]
      ·cases hr
     have hri:i∈Region.ready .any ops l:=by rw [hr'];simp
     refine⟨fun h0=>(by rw [hr'] at h0;cases h0),fun j hj=>?_⟩;rw [hr',A4] at hj;subst hj;exact EL hT ho hmq hs hf he (fun c' fr' H' a' q1 q2 q3 q4=>(EG hT hB hns hq hpan hseg r m _ c' fr' H' a' (hcl.set hri) q1 q2 q3 q4).1 hd2 hm) h
    cases hE:isEff o.op with
    | true=>
     rw [hE] at hd1;simp only [Ae] at hd1;exact only hd1.1 hd1.2
    | false=>
     rw [hE] at hd1;dsimp only at hd1;cases hM:mk.testBit i with
     | true=>
      rw [hM] at hd1;simp only [Ae] at hd1;exact only hd1.1 hd1.2
     | false=>
     rw [hM] at hd1;simp only [Ae] at hd1;obtain⟨hfree,hr⟩:=hd1;have hri:i∈Region.ready .any ops l:=by simpa using hr
     simp only [E0,DM] at h;rw [show ops.toList[i]? = some o by simpa using ho] at h;simp only at h;have step:∀ v fr2,YieldsIf P ops (fun w'=>pureOp o.op=true\/Old c.w w') o v a->FR w0 c n fr2 (a.put o.dst v)->P0 P T n mk ops ds st K r fr2 H->HeldM P ops B mk Q (m+1) l a c.w:=by
      intro v fr2 hy hf2 h2;exact HeldM.first1 hB ho hM hE (Region.noSelect_spec hns) (fun c a w h=>(hpan _ _ _ h).elim) m l a c.w hcl (Region.free_spec ho hfree) hri hy
       ((EG hT hB hns hq hpan hseg r m _ c fr2 H _ (hcl.set hri) hs hf2 he h2).1 hd2 hm)
     rcases Dj hf h with ⟨hw,fr',hf',h⟩ | ⟨hw,fr',hf',h⟩
     ·unfold Hb at h;rw [hE] at h;obtain⟨rr,v,h1,h2,h3⟩:=(Gj hT hs hf' h).y;obtain⟨fr2,h4,h5⟩:=Cq hf' h3 h1;exact step v fr2 (.inl ⟨hw,h2⟩) h5 h4
     ·obtain⟨fr2,h4,h5⟩:=Cq (v:=undef) hf' (by simp [Rd]) h;exact step undef fr2 (.inr ⟨hw,rfl⟩) h5 h4
theorem Ll (hT:TOk P T) (hB:FM ops B=true) (hns:Region.noSelect ops=true) {ds:List Nat} {st:Sts} {sg:List Seg} {K:Fr->List AB->Prop} (hq:∀ a w,DN w0 M0 ce n K a w->Q .normal a w) (hpan:∀ c a w,¬Q (.panic c) a w) (hok:JD ops B mk sg sg 0=true) (h:Of P T n mk ops ds st K sg 0):∀ (z k:Nat),sg.length<=z+k->Yk P T ops B mk n Q w0 M0 ce st sg k
 | 0,k,hz,s,m,c,a,hg,_,_,_,_,_=>by
  have:=segGet_lt hg;omega
 | z+1,k,hz,s,m,c,a,hg,hm,hcl,hs,hf,he=>by
  obtain⟨h1,h2⟩:=Lm hok hg;have h3:=Lx h hg;rw [Av] at h1 h3;exact(EG hT hB hns hq hpan (fun k' hk'=>Ll hT hB hns hq hpan hok h z k' (by omega)) s.2.2 m _ c _ _ a hcl hs hf he h3).1 h1 (by omega)
def Yg (ops:Array Oper) (mk:Nat) (sg:List Seg):Bool:=FM ops (Kb ops)&&Region.noSelect ops&&(match sg with | ([],d,_)::_=>Nat.ble d ops.size | _=>false)&&JD ops (Kb ops) mk sg sg 0
theorem aDraw.dag (mk:Nat) (hT:TOk P T) (hm:P.follows .mixedOrders=true) {id:Nat} {K:Fr->List AB->Prop} {fr:Fr} {H:List AB} (sg:List Seg) (ds:List Nat) (st:Sts) {F:Fr} {H2:List AB} (hok:Yg ops mk sg=true)
  (h:Of P T n mk ops (ds ++ slots fr) ((fr,H)::st) (fun fr' H'=>canonK (ds ++ slots fr) fr' fun l=>l=F/\H'=H2) sg 0) (hk:K F H2):aDraw P T n d0 id ops K fr H:=by
 simp only [Yg,Ae] at hok;obtain⟨⟨⟨hB,hns⟩,hlen⟩,hok⟩:=hok;refine⟨fun w0 M0 ce c a hs hf he hd Q hQ=>?_⟩;refine wp_mono (Q:=fun e a w=>e = .normal/\DN w0 M0 ce n (fun fr' H'=>canonK (ds ++ slots fr) fr' fun l=>l=F/\H'=H2) a w) ?_ ?_
 ·refine wp_region_any hm (HeldM.any (B:=Kb ops) (mk:=mk) _ _ _ _ ?_);have hb:=(Below.refl c.w.heap.size c.w).drew;obtain⟨h1,h2⟩:=hs.grow hb;have hcl:Cl ops (Array.replicate ops.size false):=by
   intro j o hj hlj;rcases BU j ops.size with h' | h'
   ·simp [h'] at hlj
   ·simp [B5 h'] at hj
  cases sg with
  | nil=>simp at hlen
  | cons s sg=>
   obtain⟨s1,d,tr⟩:=s;cases s1 with
   | cons _ _=>simp at hlen
   | nil=>
    exact Ll (w0:=w0) (M0:=M0) (ce:=ce) (st:=(fr,H)::st) hT hB hns (fun a w hl=>⟨rfl,hl⟩) (fun c a w h=>by cases h.1) hok h _ 0 (Ag _) ([],d,tr) _ { c with w:=c.w.drew } a rfl (Ad hlen) hcl h1 (hf.ext h2) (he.trans h2)
 ·rintro e a w ⟨rfl,c',fr',H',rfl,h1,h2,h3,h4⟩;obtain⟨e1,rfl⟩:=canonK_iff h1;exact hQ c' F H' a hk h2 (e1 ▸ h3.canon _) h4
end
theorem Se {d:Dk} (hd:DkOk d) (hl:d.left<0) (k:Nat):Lv d k:=⟨hd.r, .inl hl⟩
theorem OV (k:Nat) (d:Dk) (l:List Int):B8 (d.tick k) l=B8 d l:=rfl
theorem finL_two:∀ (l:List Wr) (cs:List Cel) (a:Nat),((C7 cs l).getD a cz).state=2↔(cs.getD a cz).state=2:=fun l cs a=>by
 by_cases ha:a<cs.length
 ·by_cases h:(cs.getD a cz).state=2
  ·rw [finL_stuck l cs a ha h]
  ·rcases finL_any l cs a ha with e | ⟨_,e,_⟩
   ·rw [e]
   ·omega
 ·rw [Ab,Ab,AF (by rw [finL_len];omega),AF (by omega)]
theorem VA (l:List Wr) (cs:List Cel):free (C7 cs l)=free cs:=by
 funext w;unfold free;rw [Bool.eq_iff_iff,decide_eq_true_eq,decide_eq_true_eq];exact not_congr (finL_two l cs _)
def L8 (g:Geo) (w:List Wr):Nat:=g.an.toNat+2*g.sl.toNat+(if w=[] then 0 else w.length+1)+(g.an.toNat+1)
theorem On {g:Geo} {d:Dk} {a:An} {j:Nat} {L:List Tx} {w:List Wr} (hg:Bt g=true) (hd:DkOk d) (hn:(d.cells.length:Int)=A7 g) (hc:d.cache=[]) (hl:d.left<0) (hp:F_ g (B8 d (Dl g))=some (a,j)) (hs:He g a (B8 d (BJ g 0)) (B8 d (BJ g 1))=(L,w,0)) (h1:a.gen≠4294967295) (h2:a.epoch≠4294967295) (hw1:∀ z∈w,Ww d.cells.length z) (hw2:w.length<=900) :
  JO g d=(⟨C7 (C7 d.cells w) (AT g (DX a L.length)), [],(d.tick (L8 g w)).reqs,d.left⟩,if ((AT g (DX a L.length)).filter (free d.cells)).length=0 then 14 else 0,if ((AT g (DX a L.length)).filter (free d.cells)).length=0 then st0 else AI (DX a L.length) L):=by
 obtain⟨g1,g2,g3,g4,g5⟩:=Ay.1 hg;have hao:=KQ hg _ hp;have hlv:∀ k,d.live k:=fun k=> .inl hl
 have htl:∀ k,(d.tick k).left=d.left:=fun k=>if_pos hl
 have hr:=hd.r;unfold JO;rw [if_pos (hlv _),hp];simp only;unfold Ra;rw [J6 _ (Se hd hl _),if_pos (show (d.tick g.an.toNat).live _ from .inl (by rw [htl];exact hl)),OV,OV,hs];rw [J6 _ (show Lv (d.tick g.an.toNat) (2*g.sl.toNat) from I_ (Se hd hl _)),FX _ _ hr.2 (.inl hl)];unfold Q_;simp only [ne_eq,not_true,if_false];have hm:(d.tick (g.an.toNat+2*g.sl.toNat)).mend w=(⟨C7 d.cells w, [],(d.tick (g.an.toNat+2*g.sl.toNat+(if w=[] then 0 else w.length+1))).reqs,d.left⟩,false):=by
  unfold Dk.mend;by_cases hw:w=[]
  ·subst hw;rw [if_pos rfl,if_pos rfl,Ca];simp only [Prod.mk.injEq,and_true];show (d.tick _:Dk)=_;unfold Dk.tick;rw [hc,if_pos hl];try rfl
  ·rw [if_neg hw,if_neg hw,Jj (I_ (Se hd hl _)) hc (by omega),FX _ _ hr.2 (.inl hl)];simp only [htl];rfl
 rw [hm];simp only [BV,if_false];unfold QZ;rw [if_neg (by rintro(h | h);exact h1 h;exact h2 h)];obtain⟨K,hK⟩:∃ K,K=g.an.toNat+2*g.sl.toNat+(if w=[] then 0 else w.length+1):=⟨_,rfl⟩;rw [<-hK];have hrk:0<=(d.tick K).reqs/\(d.tick K).reqs<=1048576:=by show 0<=min _ _/\min _ _<=_;omega
 have hlen:=Fa g (DX a L.length);rw [Jj (d:=⟨C7 d.cells w, [],(d.tick K).reqs,d.left⟩) ⟨hrk, .inl hl⟩ rfl (by omega)];simp only [BV,if_false,VA,hlen];have e1:((⟨C7 d.cells w, [],(d.tick K).reqs,d.left⟩:Dk).tick (g.an.toNat+1)).left=d.left:=if_pos hl;have e2:((⟨C7 d.cells w, [],(d.tick K).reqs,d.left⟩:Dk).tick (g.an.toNat+1)).reqs=(d.tick (L8 g w)).reqs:=by
  show min ((d.tick K).reqs+((g.an.toNat+1:Nat):Int)) _=min _ _;show min (min (d.reqs+(K:Nat)) 1048576+((g.an.toNat+1:Nat):Int)) 1048576=min (d.reqs+(L8 g w:Nat)) 1048576;unfold L8;omega
 grind
theorem Lt (g:Geo) (l:List Gt):∀ k,(E9 g l k=none->∀ i,i<k->DJ g (l.getD i ⟨0, []⟩) (i:Nat)=none)/\∀ a j,E9 g l k=some (a,j)->j<k/\DJ g (l.getD j ⟨0, []⟩) (j:Nat)=some a/\∀ i b,i<k->DJ g (l.getD i ⟨0, []⟩) (i:Nat)=some b->b.gen<=a.gen
 | 0=>⟨fun _ i hi=>by omega,fun a j h=>by cases h⟩
 | k+1=>by
  obtain⟨ih1,ih2⟩:=Lt g l k;rw [I7,Pt];cases hS:DJ g (l.getD k ⟨0, []⟩) (k:Nat) with
  | none=>
   grind
  | some c=>
   grind
theorem RC {g:Geo} {d:Dk} {i:Nat} (hi:i<g.an.toNat):(B8 d (Dl g)).getD i ⟨0, []⟩=Oy d (i:Nat):=by
 rw [B8,AR (d:=0) (by rw [Ew];exact hi),NH hi]
theorem QL {g:Geo} {a:An} {i:Nat} (hg:Bt g=true) (ha:B7 g a=true) (hi:(i:Int)<=65535):DJ g ⟨0,Dq a i⟩ i=some a:=by
 obtain⟨e1,e2,e3,e4⟩:=HU (NF hg ha (i:=(i:Nat)) ⟨by omega,hi⟩);unfold DJ;rw [if_pos ⟨rfl,e1,e2⟩];show (match DL g (Cy (Dq a i)) with | some a_1=>if a_1.gen=Ct (Dq a i) then some a_1 else none | none=>none)=_;rw [show Cy (Dq a i)=J4 a from e4,Th hg ha,show Ct (Dq a i)=a.gen from e3];simp
section
variable {g:Geo} {a:An} {fill:UInt8} {sizes:List Int}
end
theorem Hu {g:Geo} {c s:Int} (hc:c=0\/c=1) (hs:0<=s/\s<g.sl):g.an<=Bc g c s/\Bc g c s<g.an+2*g.sl:=by
 unfold Bc
 grind
section
variable {g:Geo} {s:ByteArray} {a:An} {fill:UInt8} {sizes:List Int}
theorem J3 {b:An} (hg:Bt g=true) (hb:B7 g b=true) (i:Int):(Dq b i).length<=200:=by
 have:=Ke hg hb;rw [Dq,EE];omega
end
theorem KO {cs:List Cel} {n:Nat} (h:cs.length=n) {k:Nat} (hk:k<n):(cs.map Cc).getD k []=Cc (cs.getD k cz):=AR (by omega)
theorem RN {g:Geo} (hg:Bt g=true):Ib g (E8 g)=true:=by
 obtain⟨g1,g2,g3,g4,g5⟩:=Ay.1 hg;have hz:=Jb zero8;simp only [Ib,hg,E8,Bn,Ae,decide_eq_true_eq,BB];refine⟨⟨by omega,?_⟩,?_⟩
 ·rw [Au];intro e he;rw [AY he];simp [Eh,ent0,Iy,Do];exact decide_eq_true (by omega)
 ·have:ID (List.replicate (g.d+1).toNat ent0) g.d.toNat=false:=by
   unfold ID;rw [CE (by omega)];try rfl
  rw [this];try rfl
theorem Uz {g:Geo} (hg:Bt g=true) {a:Int} (ha:0<=a/\a<=65535):XW a 0 (Df (E8 g)):=by
 obtain⟨g1,g2,g3,g4,g5⟩:=Ay.1 hg;refine⟨ha.1,ha.2,C6 _,by decide,?_⟩;rw [ET,E8,Bn];omega
theorem TL (g:Geo) (s:ByteArray) (hg:Bt g=true) (hs:Er s.data.toList=0) (hl:s.size<=1000000):Fn Tryz.prog 42 [.ag (Bh g), .v (.string s)] fun r=>r = .tp [.ag (TV (DD g s)),iv 0]:=by
 obtain⟨g1,g2,g3,g4,g5⟩:=Ay.1 hg;have hcg:=Ei hg;have hp:=Hq hg;have hN:1<=(A7 g).toNat/\(A7 g).toNat<=300:=by
  have:g.z*CK g<=4*7:=Int.mul_le_mul (by omega) (by omega) (by omega) (by omega);unfold A7 at hcg |-
  omega
 have hcN:A7 g=((A7 g).toNat:Int):=by omega
 have hao:=JZ hg hs;have hA:=Ue g s hl;rw [hg,if_pos rfl,if_pos hs,if_pos rfl,hs] at hA;have hC:=TI g hg;rw [hcN] at hC;have hD:=VR (A7 g).toNat hN;refine zT Tryz.func42 rfl ?_;conv=>whnf
 refine zY hA ?_;conv=>whnf
 refine zY hC ?_;conv=>whnf
 refine zW hD rfl ?_;rintro _ _ ⟨rfl,rfl⟩;conv=>whnf
 refine zS Nat (fun k=>([(2, .bp 0 0),(4, .bp 1 0),(5,ze 0),(6, .bp 2 0),(10, .bp 3 0),(51,ze g.an),(52,ze k)], [.box 24 (Bh g), .box 38 [nilV,nilV,ze 0,ze 0], .box 28 (Fi (BO g s)), .box 38 [.ow 4 (A7 g).toNat,nilV,ze 0,ze (-1)], .row 68 3 ((DV (IK g) ((AT g (BO g s)).take k)).map Cc)])) (fun k=>k<=g.an.toNat) (fun k=>g.an.toNat - k) 0 (Aj _)
  ?_ ?_
 ·refine zL (zP (zt (k:=3) rfl (es':=(IK g).map Cc) (by simp [IK]) fun i=>?_)) (s:= [0,1,2,4,3]) tA;rw [IK,List.map_replicate];by_cases hi:i<(A7 g).toNat
  ·rw [Js hi,Js hi];exact⟨fun _ _ h=>h,AZ 1 _,AZ 1 _,tv⟩
  ·rw [Ab,Ab,AF (by simpa using hi),AF (by simpa using hi)];exact SubL.refl _
 ·intro k hk;conv=>whnf
  refine AP (fun h6=>?_) (fun h6=>?_) <;> (repeat rw [Ac] at h6) <;> conv=>whnf
  ·have hk':k<(AT g (BO g s)).length:=by rw [Fa];omega
   have hsx:=Ih (IK g) hk';rw [K8 (by omega)] at hsx;have hlx:(DV (IK g) ((AT g (BO g s)).take k)).length=(A7 g).toNat:=by rw [E5,LZ]
   generalize DV (IK g) ((AT g (BO g s)).take k)=cs at hsx hlx |-
   have hga:=F3 g k hg (by omega);have hnc:=P4 g (BO g s) k hg hao (by omega);have hE:(cs.map Cc).getD (k:Int).toNat []=Cc (cs.getD (k:Int).toNat cz):=KO hlx (by omega);repeat' (refine zZ ?_;conv=>whnf)
   refine zY hga ?_;conv=>whnf
   apply zX (0) tys_ok mixed (.o [0,1,2,3,4,5,6,7,8,9,10,11,12] .fin) (by kernel_rfl);conv=>whnf
   refine zY hnc ?_;conv=>whnf
   try (refine tI ?_;conv=>whnf)
   try (refine tS ?_;conv=>whnf)
   (first | rw [hE] | skip)
   conv=>whnf
   exact⟨k+1,by omega,by omega,zR (s:= [0,1,2,3,4]) ⟨⟨rfl,rfl,rfl,rfl,rfl,rfl,AQ (by omega),tv⟩,⟨rfl,rfl,rfl,rfl,congrArg (fun l=>some (AB.row _ _ l)) (by rw [hsx,Jt];try rfl),tv⟩,rfl,rfl,rfl,rfl,rfl⟩⟩
  ·have ek:k=(AT g (BO g s)).length:=by rw [Fa];omega
   rw [ek,A5];refine zS Nat (fun c=>([(2, .bp 0 0),(4, .bp 1 0),(5,ze 0),(6, .bp 2 0),(10, .bp 3 0),(74,ze c)], [.box 24 (Bh g), .box 38 [nilV,nilV,ze 0,ze 0], .box 28 (Fi (BO g s)), .box 38 [.ow 4 (A7 g).toNat,nilV,ze 0,ze (-1)], .row 68 3 ((O2 g s c).map Cc)])) (fun c=>c<=2) (fun c=>2 - c) 0 (Aj _)
    (zR (s:= [0,1,2,3,4]) tA) ?_
   intro c hc;conv=>whnf
   refine AP (fun h7=>?_) (fun h7=>?_) <;> (repeat rw [Ac] at h7) <;> conv=>whnf
   ·have hc01:(c:Int)=0\/(c:Int)=1:=by omega
    repeat' (refine zZ ?_;conv=>whnf)
    refine zS Nat (fun i=>([(2, .bp 0 0),(4, .bp 1 0),(5,ze 0),(6, .bp 2 0),(10, .bp 3 0),(15,ze c),(74,ze c),(78,ze g.sl),(79,ze i)], [.box 24 (Bh g), .box 38 [nilV,nilV,ze 0,ze 0], .box 28 (Fi (BO g s)), .box 38 [.ow 4 (A7 g).toNat,nilV,ze 0,ze (-1)], .row 68 3 ((DV (O2 g s c) ((G5 g c).take i)).map Cc)])) (fun i=>i<=g.sl.toNat) (fun i=>g.sl.toNat - i) 0 (Aj _)
     (zR (s:= [0,1,2,3,4]) tA) ?_
    intro i hi;conv=>whnf
    refine AP (fun h8=>?_) (fun h8=>?_) <;> (repeat rw [Ac] at h8) <;> conv=>whnf
    ·have hlw:(G5 g c).length=g.sl.toNat:=by simp [G5]
     have hi':i<(G5 g c).length:=by omega
     have hsx:=Ih (O2 g s c) hi';rw [show (G5 g c).getD i ⟨0, []⟩=⟨Bc g c (i:Nat),B6 g zeroC c (i:Nat)⟩ from JJ (by omega)] at hsx;have hlx:(DV (O2 g s c) ((G5 g c).take i)).length=(A7 g).toNat:=by rw [E5,LY]
     generalize DV (O2 g s c) ((G5 g c).take i)=cs at hsx hlx |-
     have hla:=Re g c i hg hc01 (by omega);have hin:=E3 (n:=(A7 g).toNat) hg hcN.symm hc01 (s:=i) (by omega);have hrc:=Ls g zeroC c i (by decide);rw [Et hg,show IQ g c i=true by simp only [IQ,Ae,AJ];omega] at hrc;have hE:(cs.map Cc).getD (Bc g c i).toNat []=Cc (cs.getD (Bc g c i).toNat cz):=KO hlx (by omega);repeat' (refine zZ ?_;conv=>whnf)
     refine zY hla ?_;conv=>whnf
     apply zX (0) tys_ok mixed (.o [0,1,2,3,4,5,6,7,8,9,10,11,12,13] .fin) (by kernel_rfl);conv=>whnf
     (refine zU [.ag (Bh g), .ag (Ho zeroC),ze c,ze i] (by repeat' (first | exact trivial | exact fun _ _ h=>h | exact AZ _ _ | refine Ai ?_ ?_ | refine AW ?_)) ?_;refine zY hrc ?_)
     conv=>whnf
     try (refine tI ?_;conv=>whnf)
     try (refine tS ?_;conv=>whnf)
     (first | rw [hE] | skip)
     conv=>whnf
     exact⟨i+1,by omega,by omega,zR (s:= [0,1,2,3,4]) ⟨⟨rfl,rfl,rfl,rfl,rfl,rfl,rfl,rfl,AQ (by omega),tv⟩,⟨rfl,rfl,rfl,rfl,congrArg (fun l=>some (AB.row _ _ l)) (by rw [hsx,Jt];try rfl),tv⟩,rfl,rfl,rfl,rfl,rfl⟩⟩
    ·have ei:i=(G5 g c).length:=by simp [G5];omega
     repeat' (refine zZ ?_;conv=>whnf)
     exact⟨c+1,by omega,by omega,zR (s:= [0,1,2,3,4]) ⟨⟨rfl,rfl,rfl,rfl,rfl,AQ (by omega),tv⟩,⟨rfl,rfl,rfl,rfl,by rw [ei,A5];try rfl,tv⟩,rfl,rfl,rfl,rfl,rfl⟩⟩
   ·have ec:c=2:=by omega
    subst ec;have hT:=SQ g hg;have hB:=JA g (E8 g) (by rw [E8,Bn];omega);rw [RN hg] at hB;refine zY hT ?_;conv=>whnf
    refine zY hB ?_;conv=>whnf
    refine zS Nat (fun z=>([(2, .bp 0 0),(4, .bp 1 0),(5,ze 0),(6, .bp 2 0),(10, .bp 3 0),(21,bA (Df (E8 g))),(116,ze g.z),(117,ze z)], [.box 24 (Bh g), .box 38 [nilV,nilV,ze 0,ze 0], .box 28 (Fi (BO g s)), .box 38 [.ow 4 (A7 g).toNat,nilV,ze 0,ze (-1)], .row 68 3 ((GT g s z).map Cc)])) (fun z=>z<=g.z.toNat) (fun z=>g.z.toNat - z) 0 (Aj _)
     (zR (s:= [0,1,2,3,4]) tA) ?_
    intro z hz;conv=>whnf
    refine AP (fun h9=>?_) (fun h9=>?_) <;> (repeat rw [Ac] at h9) <;> conv=>whnf
    ·have htb:∀ k:Nat,k<2->0<=Bg g z k/\Bg g z k<((A7 g).toNat:Int):=fun k hk=>by unfold Bg;omega
     have hmul:(z:Int)*CK g<=(g.z - 1)*CK g:=Bl (by omega) (by omega);have hz0:0<=(z:Int)*CK g:=C4 (by omega) (by omega);have hsb:∀ k:Nat,(k:Int)<CK g->0<=Cx g z k/\Cx g z k<((A7 g).toNat:Int):=fun k hk=>by
      rw [<-hcN];unfold Cx A7;rw [Int.sub_mul,Int.one_mul] at hmul;omega
     repeat' (refine zZ ?_;conv=>whnf)
     refine zS Nat (fun k=>([(2, .bp 0 0),(4, .bp 1 0),(5,ze 0),(6, .bp 2 0),(10, .bp 3 0),(21,bA (Df (E8 g))),(23,ze z),(116,ze g.z),(117,ze z),(120,ze k)], [.box 24 (Bh g), .box 38 [nilV,nilV,ze 0,ze 0], .box 28 (Fi (BO g s)), .box 38 [.ow 4 (A7 g).toNat,nilV,ze 0,ze (-1)], .row 68 3 ((DV (GT g s z) ((In g z).take k)).map Cc)])) (fun k=>k<=2) (fun k=>2 - k) 0 (Aj _)
      (zR (s:= [0,1,2,3,4]) tA) ?_
     intro k hk;conv=>whnf
     refine AP (fun h10=>?_) (fun h10=>?_) <;> (repeat rw [Ac] at h10) <;> conv=>whnf
     ·have hlw:(In g z).length=2:=by simp [In]
      have hk':k<(In g z).length:=by omega
      have hsx:=Ih (GT g s z) hk';rw [show (In g z).getD k ⟨0, []⟩=⟨Bg g z (k:Nat),CH (Bg g z (k:Nat)) 0 (Df (E8 g))⟩ from JJ (by omega)] at hsx;have hlx:(DV (GT g s z) ((In g z).take k)).length=(A7 g).toNat:=by rw [E5,Gh]
      generalize DV (GT g s z) ((In g z).take k)=cs at hsx hlx |-
      have hgt:=JW g z k hg (by omega) (by omega);have hin:=htb k (by omega);have hmk:=Jc (Bg g z k) 0 (Df (E8 g)) (Uz hg (by omega));have hE:(cs.map Cc).getD (Bg g z k).toNat []=Cc (cs.getD (Bg g z k).toNat cz):=KO hlx (by omega);repeat' (refine zZ ?_;conv=>whnf)
      refine zY hgt ?_;conv=>whnf
      apply zX (0) tys_ok mixed (.o [0,1,2,3,4,5,6,7,8,9,10,11,12] .fin) (by kernel_rfl);conv=>whnf
      refine zY hmk ?_;conv=>whnf
      try (refine tI ?_;conv=>whnf)
      try (refine tS ?_;conv=>whnf)
      (first | rw [hE] | skip)
      conv=>whnf
      exact⟨k+1,by omega,by omega,zR (s:= [0,1,2,3,4]) ⟨⟨rfl,rfl,rfl,rfl,rfl,rfl,rfl,rfl,rfl,AQ (by omega),tv⟩,⟨rfl,rfl,rfl,rfl,congrArg (fun l=>some (AB.row _ _ l)) (by rw [hsx,Jt];try rfl),tv⟩,rfl,rfl,rfl,rfl,rfl⟩⟩
     ·have ek:k=(In g z).length:=by simp [In];omega
      rw [ek,A5];have hpr:=Ig g hg;repeat' (refine zZ ?_;conv=>whnf)
      refine zY hpr ?_;conv=>whnf
      refine zS Nat (fun i=>([(2, .bp 0 0),(4, .bp 1 0),(5,ze 0),(6, .bp 2 0),(10, .bp 3 0),(21,bA (Df (E8 g))),(23,ze z),(116,ze g.z),(117,ze z),(144,ze (CK g)),(145,ze i)], [.box 24 (Bh g), .box 38 [nilV,nilV,ze 0,ze 0], .box 28 (Fi (BO g s)), .box 38 [.ow 4 (A7 g).toNat,nilV,ze 0,ze (-1)], .row 68 3 ((DV (DV (GT g s z) (In g z)) ((GL g z).take i)).map Cc)])) (fun i=>i<=(CK g).toNat) (fun i=>(CK g).toNat - i) 0 (Aj _)
       (zR (s:= [0,1,2,3,4]) tA) ?_
      intro i hi;conv=>whnf
      refine AP (fun h11=>?_) (fun h11=>?_) <;> (repeat rw [Ac] at h11) <;> conv=>whnf
      ·have hlw:(GL g z).length=(CK g).toNat:=by simp [GL]
       have hi':i<(GL g z).length:=by omega
       have hsx:=Ih (DV (GT g s z) (In g z)) hi';rw [show (GL g z).getD i ⟨0, []⟩=⟨Cx g z (i:Nat),CH (Cx g z (i:Nat)) 0 zero8⟩ from JJ (by omega)] at hsx;have hlx:(DV (DV (GT g s z) (In g z)) ((GL g z).take i)).length=(A7 g).toNat:=by rw [E5,E5,Gh]
       generalize DV (DV (GT g s z) (In g z)) ((GL g z).take i)=cs at hsx hlx |-
       have hgt:=PJ g z i hg (by omega) (by omega);have hin:=hsb i (by omega);have hmk:=Jc (Cx g z i) 0 zero8 ⟨hin.1,by omega,C6 _,by decide,by decide⟩;have hE:(cs.map Cc).getD (Cx g z i).toNat []=Cc (cs.getD (Cx g z i).toNat cz):=KO hlx (by omega);repeat' (refine zZ ?_;conv=>whnf)
       refine zY hgt ?_;conv=>whnf
       apply zX (0) tys_ok mixed (.o [0,1,2,3,4,5,6,7,8,9,10,11,12] .fin) (by kernel_rfl);conv=>whnf
       (try (refine Ai ⟨rfl,by decide,by decide⟩ ?_;conv=>whnf);refine zQ hmk.go ?_;(conv=>whnf);refine Ai rfl ?_;(conv=>whnf);refine zU [.ag [ze (Cx g z i),ze 0,bA zero8]] ⟨AW ⟨ri,ri,fun c v h=>z6 rfl (fun i hi=>by have hi':i<8:=hi;rw [Js (by exact hi'),MO hi'];try rfl) h,tv⟩,tv⟩ ?_;refine zY hmk ?_)
       conv=>whnf
       try (refine tI ?_;conv=>whnf)
       try (refine tS ?_;conv=>whnf)
       (first | rw [hE] | skip)
       conv=>whnf
       all_goals exact⟨i+1,by omega,by omega,zR (s:= [0,1,2,3,4]) ⟨⟨rfl,rfl,rfl,rfl,rfl,rfl,rfl,rfl,rfl,rfl,AQ (by omega),tv⟩,⟨rfl,rfl,rfl,rfl,congrArg (fun l=>some (AB.row _ _ l)) (by rw [hsx,Jt];try rfl),tv⟩,rfl,rfl,rfl,rfl,rfl⟩⟩
      ·have ei:i=(GL g z).length:=by simp [GL];omega
       repeat' (refine zZ ?_;conv=>whnf)
       exact⟨z+1,by omega,by omega,zR (s:= [0,1,2,3,4]) ⟨⟨rfl,rfl,rfl,rfl,rfl,rfl,rfl,AQ (by omega),tv⟩,⟨rfl,rfl,rfl,rfl,by rw [ei,A5];try rfl,tv⟩,rfl,rfl,rfl,rfl,rfl⟩⟩
    ·have ez:z=g.z.toNat:=by omega
     subst ez;refine⟨(by rw [Aa,Gh]),?_⟩;exact⟨.tp [.ag (TV (DD g s)),iv 0],BT ⟨AW ⟨Cd (f:=Cc) (GT g s g.z.toNat) (by rw [Gh]) rfl,AZ 2 _,ri,ri,tv⟩,ri,tv⟩,rfl⟩
section
variable {g:Geo} {s:ByteArray} {a b:An} {fill:UInt8} {sizes:List Int} {d:Dk}
theorem LP {F:Int->List UInt8} {n:Int} (h:Holds d n F) (l:List Int) (hl:∀ x∈l,0<=x/\x<n):B8 d l=l.map fun x=>⟨0,F x⟩:=by
 unfold B8;refine Dv fun x hx=>?_
 exact h.got (hl x hx).1 (hl x hx).2
theorem No (hg:Bt g=true) {c:Int} (hc:c=0\/c=1):∀ x∈BJ g c,0<=x/\x<A7 g:=fun x hx=>by
 obtain⟨g1,g2,g3,g4,g5⟩:=Ay.1 hg;have hcg:=Ei hg;simp only [BJ,AK,AL] at hx;obtain⟨i,hi,rfl⟩:=hx;have:=Hu (g:=g) hc (s:=(i:Nat)) (by omega);omega
theorem T9 {F:Int->List UInt8} (hg:Bt g=true) {c:An} (h:Holds d (A7 g) F) {r:Int} {l:Int}:Holds ⟨C7 d.cells (AT g c), [],r,l⟩ (A7 g) (fun x=>if x<g.an then Dq c x else F x):=by
 obtain⟨g1,g2,g3,g4,g5⟩:=Ay.1 hg;have hcg:=Ei hg;refine⟨by rw [<-h.len];show ((C7 d.cells _).length:Int)=_;rw [finL_len],rfl,fun x h0 h1=>?_⟩;obtain⟨e1,e2⟩:=h.cell x h0 h1;have hlt:x.toNat<d.cells.length:=by have:=h.len;omega
 show ((C7 d.cells _).getD x.toNat cz).state=0/\((C7 d.cells _).getD x.toNat cz).bytes=_;have hmem:∀ w∈AT g c,∃ i:Nat,i<g.an.toNat/\w=⟨(i:Nat),Dq c (i:Nat)⟩:=fun w hw=>by
  simp only [AT,AK,AL] at hw
  grind
 by_cases hx:x<g.an
 ·rw [if_pos hx];refine Mm _ _ _ hlt (by rw [e1];decide) (fun w hw hwa=>?_) (.inl ⟨⟨x,Dq c x⟩,?_,rfl⟩)
  ·grind
  ·simp only [AT,AK,AL]
   grind
 ·rw [if_neg hx,finL_miss _ _ _ hlt (fun w hw e=>?_)]
  ·grind
  ·grind
theorem VB {n:Int} {F:Int->List UInt8} (h:Holds d n F) (l:List Wr) (hl:∀ w∈l,0<=w.addr/\w.addr<n):l.filter (free d.cells)=l:=by
 rw [List.filter_eq_self];intro w hw;unfold free;rw [(h.cell w.addr (hl w hw).1 (hl w hw).2).1];try rfl
end






section
variable {g:Geo} {s:ByteArray} {b:An} {fill:UInt8} {sizes:List Int} {D:Dk}
end
theorem StSm.big {S:Stt} (h:StSm S):StBig S:=
 ⟨by have:=h.l;omega,by have:=h.h.1;omega,⟨by have:=h.t.1;omega,fun t ht=>⟨by have:=(h.t.2 t ht).1;omega,fun x hx=>by have:=(h.t.2 t ht).2 x hx;omega⟩⟩,by have:=h.o;omega⟩
structure Vol (g:Geo) (K:Int) (d:Dk) (s:Stt):Prop where
 gd:∃ F,Gd (A7 g) d F
 an:B7 g s.a=true
 ring:CO g s.txns s.a.seq s.a.pos g.sl=true
 rest:s.only=false/\s.cursor=0/\s.found=0/\s.fixed=0/\s.moved=0/\s.lost=[]
 gen:s.a.gen<=K
 seq:s.a.seq+s.txns.length<=K
 one:∀ t∈s.txns,OneTab t.images
theorem J2 {g:Geo} {a:An} (ha:B7 g a=true):(0<=a.gen/\a.gen<=4294967295)/\(1<=a.seq/\a.seq<=4294967295)/\(0<=a.pos/\a.pos<g.sl)/\(a.homes.length:Int)=g.z:=by
 simp only [B7,Bb,BM,BC,Ae,decide_eq_true_eq,AJ] at ha;omega
theorem Kt {g:Geo}:∀ {l:List Tx} {seq pos a b:Int},a<=b->CO g l seq pos a=true->CO g l seq pos b=true
 | [],_,_,_,_,_,_=>rfl
 | t::r,seq,pos,a,b,hab,h=>by
  simp only [CO,Ae,decide_eq_true_eq] at h |-
  obtain⟨⟨h1,h2,h3,h4,h5,h6,h7⟩,h8⟩:=h;exact⟨⟨h1,h2,h3,h4,by omega,h6,h7⟩,Kt (by omega) h8⟩
theorem Fu {g:Geo}:∀ {l:List Tx} {seq pos left:Int},CO g l seq pos left=true->∀ t∈l,t.images.all (BW g)=true/\t.n=t.images.length+1/\2<=t.n/\t.n<=max left 0
 | t::r,seq,pos,left,h,x,hx=>by
  simp only [CO,Ae,decide_eq_true_eq] at h;obtain⟨⟨h1,h2,h3,h4,h5,h6,h7⟩,h8⟩:=h;rcases AX.1 hx with rfl | hx
  ·grind
  ·have:=Fu h8 x hx
   grind
theorem JS {g:Geo} (hg:Bt g=true) {x:Img} (h:BW g x=true):x.bytes.length<=45:=by
 obtain⟨g1,g2,g3,g4,g5⟩:=Ay.1 hg;by_cases hw:x.what=255
 ·simp only [BW,Ae] at h;have h2:=h.2.2;rw [if_pos hw] at h2;by_cases hl:x.bytes.length=9*(g.d+1).toNat
  ·omega
  ·rw [Tg (.inl hl)] at h2;cases h2
 ·have:=(JR h).2 hw;omega
theorem Vol.st {g:Geo} {K:Int} {d:Dk} {s:Stt} (hg:Bt g=true) (h:Vol g K d s):Zr g d s=true:=by
 obtain⟨F,hF⟩:=h.gd;obtain⟨r1,r2,r3,r4,r5,r6⟩:=h.rest;have hu:=Uu hg;have hh:LS g s=true:=by
  unfold LS;rw [r3,r4,r5,r6];try rfl
 unfold Zr;rw [hg,UP.2 hF.ok,decide_eq_true hF.len,h.an,h.ring,r2,hh,decide_eq_true (show (0:Int)<Ld g by omega)];try rfl
theorem Vol.sm {g:Geo} {K:Int} {d:Dk} {s:Stt} (hg:Bt g=true) (h:Vol g K d s):StSm s:=by
 obtain⟨g1,g2,g3,g4,g5⟩:=Ay.1 hg;have hr:=Fu h.ring;have hin:=FZ hg (C6 _) h.ring;have hlen:(s.txns.length:Int)<=30:=by
  have:∀ l:List Tx,(∀ t∈l,2<=t.n)->2*(l.length:Int)<=sumT l:=by
   intro l;induction l with
   | nil=>intro _;simp [sumT]
   | cons t r ih=>
    intro hl;have h1:=hl t (by simp);have h2:=ih fun x hx=>hl x (Be _ hx)
    rw [sumT,Ao];omega
  grind
 refine⟨⟨(DF hg h.an 0 (Aj _)).2.1,fun x hx=>K7 hg h.an x hx⟩,(DF hg h.an 0 (Aj _)).2.2.2.1,⟨by omega,fun t ht=>?_⟩,by rw [h.rest.2.2.2.2.2];simp⟩;obtain⟨q1,q2,q3,q4⟩:=hr t ht;refine⟨by omega,fun i hi=>?_⟩;have:=JS hg (Au.1 q1 i hi);omega
theorem Vol.add {g:Geo} {K:Int} {d d':Dk} {s:Stt} (hg:Bt g=true) (h:Vol g K d s) (hK:K<=4294967294) (hd:∃ F,Gd (A7 g) d' F) {x:Tx} (e1:x.seq=s.a.seq+s.txns.length) (e3:x.pos=(s.a.pos+Ed s.txns).tmod g.sl) (e4:2<=x.n) (e5:x.n<=g.sl - Ed s.txns) (e6:x.n=x.images.length+1) (e7:∀ y∈x.images,BW g y=true) (e8:OneTab x.images):Vol g (K+1) d' { s with txns:=s.txns ++ [x] }:=by
 obtain⟨a1,a2,a3,a4⟩:=J2 h.an;have hin:=FZ hg (C6 _) h.ring;rw [SJ hin.1] at e3 e5;have hs:=h.seq;refine⟨hd,h.an,Ks hg a3.1 a3.2 (C6 _) h.ring e1 (by omega) e3 e4 e5 e6 (Au.2 e7),h.rest,by have:=h.gen;show s.a.gen<=K+1;omega,?_,fun t ht=>?_⟩
 ·grind
 ·rcases Az.1 ht with q | q
  ·exact h.one t q
  ·grind
theorem Vol.home {g:Geo} {K:Int} {d d':Dk} {s:Stt} (hg:Bt g=true) {x:Tx} {r:List Tx} (hx:s.txns=x::r) (h:Vol g K d s) (hK:K<=4294967294) (hd:∃ F,Gd (A7 g) d' F):Vol g (K+1) d' { s with a:=OX g s.a x,txns:=r }:=by
 obtain⟨a1,a2,a3,a4⟩:=J2 h.an;have hs:=h.seq;have hgn:=h.gen;have hr:=h.ring;rw [hx,Ao] at hs;rw [hx] at hr;have hin:=(FZ hg (C6 _) hr).1 x (by simp);simp only [CO,Ae,decide_eq_true_eq] at hr;obtain⟨⟨h1,h2,h3,h4,h5,h6,h7⟩,h8⟩:=hr;refine⟨hd,U3 hg h.an (by omega) (by omega) h1 (by omega) (by omega),?_,h.rest,by show s.a.gen+1<=K+1;omega,?_,fun t ht=>h.one t (by rw [hx];exact Be _ ht)⟩
 ·show CO g r (s.a.seq+1) ((x.pos+x.n).tmod g.sl) g.sl=true;rw [h3];exact Kt (by omega) h8
 ·show s.a.seq+1+(r.length:Int)<=K+1;omega
theorem OD {g:Geo} {a:An} {w:Wr} (hw:w∈AT g a):∃ i:Nat,(i:Int)<g.an/\w=⟨(i:Nat),Dq a (i:Nat)⟩:=by
 simp only [AT,AK,AL] at hw
 grind
def U1 (g:Geo) (a:An) (x:Tx) (F:Int->List UInt8):Int->List UInt8:=MX (MX F (LL g a x.seq x.images)) (AT g (OX g a x))

theorem PL {g:Geo} {lb:ByteArray} (hg:Bt g=true) {d:Dk} (h:Holds d (A7 g) (FQ g lb)) {c:Int} (hc:c=0\/c=1):B8 d (BJ g c)=FW g [] 0 c g.sl.toNat:=by
 rw [LP h _ (No hg hc)];unfold BJ FW;rw [List.map_map];refine Dv fun i hi=>?_
 have hi:=AL.1 hi;show (⟨0,FQ g lb (Bc g c (i:Nat))⟩:Gt)=_;rw [Jv hc (by omega)];try rfl
theorem Pg {g:Geo} {lb:ByteArray} (hg:Bt g=true) {b:An} (hp:b.pos=0) (hl:¬b.seq - 1<b.last) {d:Dk} (h:Holds d (A7 g) (FQ g lb)):He g b (B8 d (BJ g 0)) (B8 d (BJ g 1))=([], [],0):=by
 obtain⟨g1,g2,g3,g4,g5⟩:=Ay.1 hg;have hok:LogOk g [] 0:=⟨by simp,by simp,fun s i k _ h=>(nomatch (show (none:Option (Nat × Int))=some (i,k) from h)),fun s _=>Et hg⟩;rw [WH,PL hg h (.inl rfl),PL hg h (.inr rfl),RS hg hok (.inl rfl),RS hg hok (.inr rfl)];obtain⟨n,hn⟩:∃ n,g.sl.toNat=n+1:=⟨g.sl.toNat - 1,by omega⟩;have hz:GM g [] 0 (fun _=>false) 0=some zeroC:=by
  unfold GM;rw [if_pos (by omega)];try rfl
 have hs:E1 g 0 0=0:=by
  show (IntKind.i64.wrap 0).tmod g.sl=0;rw [show IntKind.i64.wrap 0=0 from rfl,Int.zero_tmod]
 have h0:Fg zeroC b b.seq 0 0 g.sl=false:=decide_eq_false fun h=>h.1 rfl
 have hr:(Y8 g b (GM g [] 0 fun _=>false) (GM g [] 0 fun _=>false) 0 b.seq g.sl 0 0).2.1=2:=by
  show (FI (GM g [] 0 (fun _=>false) (E1 g 0 0)) (GM g [] 0 (fun _=>false) (E1 g 0 0)) (JM (GM g [] 0 (fun _=>false) (E1 g 0 0)) b b.seq 0 0 g.sl) (JM (GM g [] 0 (fun _=>false) (E1 g 0 0)) b b.seq 0 0 g.sl)).2.2=2;rw [hs,hz];show (FI (some zeroC) (some zeroC) (Fg zeroC b b.seq 0 0 g.sl) (Fg zeroC b b.seq 0 0 g.sl)).2.2=2;rw [h0];try rfl
 have ht:(W8 g b (GM g [] 0 fun _=>false) (GM g [] 0 fun _=>false) 0 b.seq g.sl).1=2:=by
  unfold W8;simp only;rw [if_pos (by rw [hr];decide)];exact hr
 unfold U6;rw [hn,hp,Lo];split
 ·simp only;rw [ht,if_neg (by decide),if_pos (by decide),Ml hl]
 ·exact Ml hl
theorem Rs {g:Geo} {lb:ByteArray} (hg:Bt g=true) (hb:B7 g (BO g lb)=true) (x:Int):(FQ g lb x).length<=200:=by
 unfold FQ;split
 ·exact J3 hg hb x
 ·split
  ·exact Ce (Et hg) _ _
  ·split
   ·exact Ce (Et hg) _ _
   ·split
    ·rw [EE,ET];unfold E8;rw [Bn];have:=(Ay.1 hg).2.1;omega
    ·rw [EE];decide
theorem X9 {g:Geo} {lb:ByteArray} (hg:Bt g=true) (hb:B7 g (BO g lb)=true):DkOk (DD g lb):=by
 have hcb:=H7 hg;have h:=JY (g:=g) (s:=lb) hg;have hlen:=h.len;refine⟨by omega,by rw [h.cache];simp,by show (0:Int)<=0/\(0:Int)<=_;decide,by show (-1:Int)<= -1/\(-1:Int)<=_;decide,fun c hc=>?_,fun w hw=>by rw [h.cache] at hw;cases hw⟩;obtain⟨i,hi,rfl⟩:=List.getElem_of_mem hc;have hci:=PO (g:=g) (s:=lb) hg (a:=((i:Nat):Int)) (by omega) (by omega);have e:(DD g lb).cells.getD ((i:Nat):Int).toNat cz=(DD g lb).cells[i]:=by
  rw [Ac,Ab,Af hi];try rfl
 rw [e] at hci;rw [hci];exact⟨⟨C6 _,by show (0:Int)<=2;decide⟩,Rs hg hb _,by simp⟩
theorem UW {g:Geo} {lb:ByteArray} (hg:Bt g=true) (hb:B7 g (BO g lb)=true) {d:Dk} (h:Holds d (A7 g) (FQ g lb)):F_ g (B8 d (Dl g))=some (BO g lb,(ZW (F_ g (B8 d (Dl g))))):=by
 obtain⟨g1,g2,g3,g4,g5⟩:=Ay.1 hg;have hcg:=Ei hg;have hsp:=Lt g (B8 d (Dl g)) (B8 d (Dl g)).length;rw [DG,Ew] at hsp;have hsay:∀ i,i<g.an.toNat->DJ g ((B8 d (Dl g)).getD i ⟨0, []⟩) (i:Nat)=some (BO g lb):=fun i hi=>by
  rw [RC hi,h.got (by omega) (by omega),Sv (by omega)];exact QL hg hb (by omega)
 have hpk:F_ g (B8 d (Dl g))=E9 g (B8 d (Dl g)) g.an.toNat:=by rw [F_,DG,Ew]
 rw [hpk];cases hP:E9 g (B8 d (Dl g)) g.an.toNat with
 | none=>
  have:=hsp.1 hP 0 (by omega);rw [hsay 0 (by omega)] at this;cases this
 | some q=>
  obtain⟨a0,j⟩:=q;obtain⟨q1,q2,q3⟩:=hsp.2 a0 j hP;rw [hsay j q1] at q2;cases q2;rfl
structure LogB (l:List Tx):Prop where
 n:l.length<=1000000
 i:∀ t∈l,t.images.length<=1000000/\∀ x∈t.images,x.bytes.length<=1000000000
def Fj (g:Geo) (s:Stt) (F:Int->List UInt8) (z:Int):Option (List Ent):=match CI s.txns z 255 with
 | some p=>CU g p.1.bytes
 | none=>match Cw g ⟨0,F (Bg g z 0)⟩ (Bg g z 0) (Dw s.a s.txns z) with
  | some t=>some t
  | none=>Cw g ⟨0,F (Bg g z 1)⟩ (Bg g z 1) (Dw s.a s.txns z)
def G3 (g:Geo) (s:Stt) (F:Int->List UInt8) (t:List Ent) (z w:Int):List UInt8:=match CI s.txns z w with
 | some p=>p.1.bytes
 | none=>(DI ⟨0,F (D3 g s.a z w)⟩ (D3 g s.a z w) (t.getD (Ex g w).toNat ez)).getD []
def M8 (b:List UInt8):List AV:= [bA b]
theorem ConvF.sealTp {fr:Fr} {H:List AB} (i k:Nat) {x z:AV} {t:TypeId} {sz:Nat} {es:List (List AV)} (hx:fget fr i = .tp [x, .ow k es.length,z]) (hk:hget H k=some (.row t sz es)):ConvF fr H ((i, .tp [x, .sl sz es.length fun j=>es.getD j [],z])::fr) (H.set k .dead):=fun _ _ c _ _ hs hf=>by
 rw [hget_eq] at hk;obtain⟨c1,e1,s1,x1,r1⟩:=hs.freeze hk;refine⟨c1,e1,s1,(hf.ext x1).cons i _ ?_,x1⟩;have h0:=hf.get i;have h1:=(hf.ext x1).get i;rw [hx] at h0 h1;simp only [Rd] at h0 h1;obtain⟨us,e,h0⟩:=h0;obtain⟨us',e',h1⟩:=h1;have eu:us'=us:=by
  have:=e.symm.trans e';injection this with this
  simpa using this.symm
 subst eu;obtain⟨y1,l1,rfl,a1,y2,l2,rfl,a2,y3,l3,rfl,a3,rfl⟩:=h0;obtain⟨z1,m1,q1,b1,z2,m2,q2,b2,z3,m3,q3,b3,q4⟩:=h1;subst q2 q3 q4;simp only [List.cons.injEq,and_true] at q1;obtain⟨rfl,rfl,rfl⟩:=q1;simp only [Rd];exact⟨_,e,_,_,rfl,b1,_,_,rfl,r1 _ a2,_,_,rfl,b3,rfl⟩
theorem FU {L:List (List UInt8)} {n:Nat} {es:List (List AV)} (hn:n=L.length) (he:es=L.map M8) (c:Ctx) (v:Value) (h:Rd (.sl 1 n fun i=>es.getD i []) c v):Rd (GW L) c v:=Cd (f:=M8) L hn he c v h
def TE (g:Geo) (s:Stt) (F:Int->List UInt8) (t:List Ent) (z:Int) (k:Nat):List (List UInt8):=(List.range k).map fun i=>G3 g s F t z (i:Nat)
def CX (g:Geo) (s:Stt) (F:Int->List UInt8) (t:List Ent) (z:Int):List (List UInt8):=TE g s F t z g.d.toNat ++ [G3 g s F t z (-1)]
theorem KM {g:Geo} {s:Stt} {F:Int->List UInt8} {z:Int} {t:List Ent} (h:Fj g s F z=some t):Ib g t=true:=by
 have hr:∀ {b:List UInt8} {t:List Ent},CU g b=some t->Ib g t=true:=fun {b t} h=>by
  unfold CU at h;split at h
  ·rename_i hh;obtain rfl:=Option.some.inj h;exact hh.1
  ·cases h
 have ho:∀ {x:Gt} {a r:Int} {t:List Ent},Cw g x a r=some t->Ib g t=true:=fun {x a r t} h=>by
  unfold Cw at h;split at h
  ·split at h
   ·exact hr h
   ·cases h
  ·cases h
 unfold Fj at h;split at h
 ·exact hr h
 ·split at h
  ·rename_i hh;obtain rfl:=Option.some.inj h;exact ho hh
  ·exact ho h
theorem Jm {g:Geo} {t:List Ent} (h:Ib g t=true):(t.length:Int)=g.d+1:=by
 unfold Ib at h
 grind
theorem Jl {g:Geo} {s:Stt} {F:Int->List UInt8} {t:List Ent} {z w:Int} (hi:∀ t∈s.txns,∀ x∈t.images,BW g x=true) (hw:w≠255):(G3 g s F t z w).length=0\/(G3 g s F t z w).length=8:=by
 unfold G3;split
 ·rename_i p hp;obtain⟨x,q⟩:=p;obtain⟨t',ht, -,hx, -,e⟩:=N0 (Ag _) hp;exact .inr ((JR (hi t' ht x hx)).2 (by rw [e];exact hw)).2.2
 ·unfold DI;split
  ·split
   ·rename_i h;exact .inr h.2.1
   ·exact .inl rfl
  ·exact .inl rfl
theorem Gg {L:List Int} {n:Nat} {es:List (List AV)} (hn:n=L.length) (he:es=L.map fun x=> [AV.v (.int .i64 x)]) (c:Ctx) (v:Value) (h:Rd (.sl 1 n fun i=>es.getD i []) c v):Rd (iA L) c v:=Cd (f:=fun x=> [AV.v (.int .i64 x)]) L hn he c v h
def Hy (g:Geo) (s:Stt) (F:Int->List UInt8) (seq lba:Int) (b:List UInt8):List Img:=match Fj g s F (lba.tdiv g.d) with
 | some t=>C0 (lba.tdiv g.d) (BK g t (CX g s F t (lba.tdiv g.d)) [lba.tmod g.d] [b] seq) (EV g t (CX g s F t (lba.tdiv g.d)) [lba.tmod g.d] [b] g.d.toNat) [lba.tmod g.d] [b]
 | none=> []
theorem WM {L L':List Img} {n:Nat} (e:L=L') (hn:n=L'.length) (c:Ctx) (v:Value) (h:Rd (.sl 3 n fun j=>((List.range L'.length).map fun i=>GR (L'.getD i ⟨0,0, []⟩)).getD j []) c v):Rd (EW L) c v:=by
 subst e;refine z6 hn (fun i hi=>?_) h;have:i<L.length:=by omega
 simp [this]
theorem WR {g:Geo} {seq epoch:Int} {x:Img} (hg:Bt g=true) (h2:Do seq 0 4294967295=true) (h3:Do epoch 0 4294967295=true) (h7:BW g x=true) {k n:Nat} (hk:k<n) (hn:n=3):EH g ⟨1,seq,epoch,(k:Nat),n+1,x⟩=true:=by
 simp only [EH,hg,E_,Iw,h2,h3,h7,BB,BC];simp only [if_neg (show ¬(1:Int)=0 by omega),if_true,Ae,AJ];omega
theorem WQ {g:Geo} {seq epoch:Int} (hg:Bt g=true) (h2:Do seq 0 4294967295=true) (h3:Do epoch 0 4294967295=true) {n:Nat} (hn:n=3):EH g ⟨2,seq,epoch,(n:Nat),n+1,noImg⟩=true:=by
 subst hn;simp only [EH,hg,E_,Iw,h2,h3,BB];simp only [if_neg (show ¬(2:Int)=0 by omega),if_neg (show ¬(2:Int)=1 by omega),if_true,Ae,AJ,beq_iff_eq,Iz,noImg];simp
@[reducible] def rwQ (g:Geo) (a:An) (l:List Tx) (x:Tx) (d:Dk):List AB:= [.box 132 (ZV g (.bp 1 0) (.ow 4 a.homes.length) (.ow 5 (l.length+1)) (AI a l) 0), .box 133 (K4 (.ow 2 d.cells.length) (.ow 6 d.cache.length) d.reqs d.left), .row 68 3 (d.cells.map Cc), .dead, .row 108 3 (a.homes.map M6), .row 170 4 (l.map Ir ++ [Ir x]), .row 152 2 (d.cache.map FB)]
def FT (g:Geo) (a:An) (l:List Tx) (F:Int->List UInt8) (lba:Int) (b:List UInt8):Tx:=⟨a.seq+(l.length:Int),(a.pos+Ed l).tmod g.sl,4,Hy g (AI a l) F (a.seq+(l.length:Int)) lba b⟩
theorem in01:(0:Int)<=((0:Nat):Int)/\((0:Nat):Int)<((1:Nat):Int):=by decide
def ah (A:Int) (p:Bool):AV:=match p with
 | true=>iA [A]
 | false=> .v (.slice none 0 0)
def aH (b:List UInt8) (p:Bool):AV:=match p with
 | true=>GW [b]
 | false=> .v (.slice none 0 0)
def Z6 (L:List Img) (p:Bool):AV:=match p with
 | true=>EW L
 | false=> .v (.slice none 0 0)
theorem Qg {g:Geo} (hg:Bt g=true) {r:Rc} (hr:EH g r=true) {c s:Int} (hc:c=0\/c=1) (hs:0<=s/\s<g.sl):B_ (B6 g r c s)=Bc g c s:=by
 have hb:=G6 hg (Lz hc hs);have h1:=Og hr;have h2:=EF hr;exact(HU (a:=Bc g c s) (s:=r.seq) (p:=Eo r) ⟨hb.1,by omega,h1.1,h1.2,by omega⟩).2.1
def Zb (b:Bool):List AV:= [.v (.bool b)]
def ZE (l:List Bool):AV:= .sl 1 l.length fun i=>Zb (l.getD i false)
theorem Za {L:List Bool} {n:Nat} {es:List (List AV)} (hn:n=L.length) (he:es=L.map Zb) (c:Ctx) (v:Value) (h:Rd (.sl 1 n fun i=>es.getD i []) c v):Rd (ZE L) c v:=Cd (f:=Zb) L hn he c v h
theorem A_ {l:List Nat} {m:Nat} (h:(l.all fun z=>Nat.ble (z+1) m)=true):∀ z∈l,z<m:=fun z hz=>Ad (Au.1 h z hz)
theorem W0 (g:Geo) (t:List Ent) (had:List (List UInt8)) (hg:Bt g=true) (ht:Ib g t=true) (hh:(had.length:Int)=g.d+1) (h8:∀ b∈had,b.length=8) (hlo:∀ i,i<t.length->(t.getD i ez).lost=false):Fn Tryz.prog 226 [.ag (Bh g), .ag [BX t],GW had] fun r=>r = .tp [GW had,ZE (List.replicate had.length true),iv 0]:=by
 obtain⟨g1,g2,g3,g4,g5⟩:=Ay.1 hg;have htl:=Jm ht;have hb:=S7 g t had hg ht (by omega) hh h8;have hd1:IntKind.i64.wrap (g.d+1)=g.d+1:=wi (by omega);refine zT Tryz.func226 rfl ?_;conv=>whnf
 refine zW hb rfl ?_;rintro _ _ ⟨rfl,rfl⟩;conv=>whnf
 rw [hd1];refine zS Nat (fun k=>([(6, .ow 3 k),(7, .ow 4 k),(9, .bp 2 0),(25,iv (g.d+1)),(26,iv (k:Nat))], [.box 24 (Bh g), .box 145 [BX t], .box 348 [iv g.d,BX t,GW had], .row 22 1 ((had.take k).map M8), .row 4 1 ((List.replicate k true).map Zb)])) (fun k=>k<=had.length) (fun k=>had.length - k) 0 (Aj _)
  ⟨_,_,zo _ _, [(6,22,1),(7,4,1)],tA, [0,1,2,3,4],tA,tA,rfl,rfl,rfl,rfl,rfl⟩ ?_
 intro k hk;by_cases hkn:k<had.length
 ·have hkk:=S6 g t had k (by omega) hkn h8 (hlo k (by omega));have e1:(had.take k).map M8 ++ [M8 (had.getD k [])]=(had.take (k+1)).map M8:=by
   rw [Bi,Af hkn,A0,Ab,Af hkn];try rfl
  have e2:(List.replicate k true).map Zb ++ [Zb true]=(List.replicate (k+1) true).map Zb:=by
   rw [List.replicate_succ',A0];try rfl
  conv=>whnf
  rw [show decide ((k:Int)<g.d+1)=true from decide_eq_true (by omega)];conv=>whnf
  repeat' (refine zZ ?_;conv=>whnf)
  refine ze9 [2] hkk ?_;rintro _ _ ⟨rfl,rfl⟩;conv=>whnf
  repeat' (refine zZ ?_;conv=>whnf)
  refine⟨rfl,?_⟩;conv=>whnf
  refine Ai ⟨by rw [Aa,Aq];omega,by omega⟩ ?_;refine⟨rfl,?_⟩;refine⟨⟨by rw [Aa,Bn],by omega⟩,?_⟩;exact⟨k+1,by omega,by omega,zR (s:= [0,1,2,3,4]) ⟨⟨rfl,rfl,rfl,rfl,AQ (by omega),tv⟩,⟨rfl,rfl,rfl,congrArg (fun es=>some (AB.row 22 1 es)) e1,congrArg (fun es=>some (AB.row 4 1 es)) e2,tv⟩,rfl,rfl,rfl,rfl,rfl⟩⟩
 ·have ek:k=had.length:=by omega
  subst ek;conv=>whnf
  rw [show decide (((had.length:Nat):Int)<g.d+1)=false from decide_eq_false (by omega)];conv=>whnf
  repeat' (refine zZ ?_;conv=>whnf)
  rw [A5];refine⟨(by rw [Aa]),?_⟩;refine⟨(by rw [Aa,Bn]),?_⟩;exact⟨.tp [GW had,ZE (List.replicate had.length true),iv 0],BT (m:= [GW had,ZE (List.replicate had.length true),iv 0]) ⟨FU rfl rfl,Za (by rw [Bn]) rfl,ri,tv⟩,rfl⟩
theorem WE (A p:Int):Fn Tryz.prog 153 [iA [A],iv p] fun r=>r = iv (if A=p then 0 else -1):=by
 refine zT Tryz.func153 rfl ?_;conv=>whnf
 refine zA 2 ?_;conv=>whnf
 refine Ai ⟨by decide,by show (0:Int)<1;decide⟩ ?_;conv=>whnf
 rw [show [A].getD (Int.toNat 0) 0=A from rfl];by_cases h:A=p
 ·rw [show (p == A)=true from beq_iff_eq.2 h.symm,if_pos h];exact⟨_,ri,rfl⟩
 ·rw [show (p == A)=false from beq_eq_false_iff_ne.2 (Ne.symm h),if_neg h];conv=>whnf
  repeat' (refine zZ ?_;conv=>whnf)
  exact⟨_,ri,rfl⟩
section
variable {g:Geo} {t:List Ent} {had:List (List UInt8)} {A:Int} {b:List UInt8} {stamp:Int}
theorem XU (A:Int) (b:List UInt8) (i:Nat):EA [A] [b] i 1=if A=(i:Int) then some b else none:=rfl
theorem XZ (h8:∀ b∈had,b.length=8) (hlo:∀ i,i<t.length->(t.getD i ez).lost=false) {i:Nat} (hi:i<t.length) (hi2:i<had.length):G4 g t had [A] [b] i=if A=(i:Int) then b else had.getD i []:=by
 unfold G4;show (match EA [A] [b] i 1 with | some b=>b | none=>FO g t had i)=_;rw [XU];by_cases h:A=(i:Int)
 ·rw [if_pos h,if_pos h]
 ·rw [if_neg h,if_neg h];show FO g t had i=_;unfold FO;rw [hlo i hi,if_neg (by decide),if_pos (by rw [h8 _ (AC hi2)];decide)]
theorem XY (h8:∀ b∈had,b.length=8) (hb:b.length=8) (hlo:∀ i,i<t.length->(t.getD i ez).lost=false) {i:Nat} (hi:i<t.length) (hi2:i<had.length):(G4 g t had [A] [b] i).length=8:=by
 rw [XZ h8 hlo hi hi2];split
 ·exact hb
 ·exact h8 _ (AC hi2)
theorem Z1 (h8:∀ b∈had,b.length=8) (hb:b.length=8) (hlo:∀ i,i<t.length->(t.getD i ez).lost=false) {i:Nat} (hi:i<t.length) (hi2:i<had.length):Om g t had [A] [b] stamp i=if A=(i:Int) then ⟨stamp,(DH b:Nat),false⟩ else t.getD i ez:=by
 unfold Om;rw [if_neg (by rw [XY h8 hb hlo hi hi2];decide)];show (match EA [A] [b] i 1 with | some b=>_ | none=>_)=_;rw [XU];by_cases h:A=(i:Int)
 ·rw [if_pos h,if_pos h]
 ·rw [if_neg h,if_neg h]
def GK (g:Geo) (t:List Ent) (had:List (List UInt8)) (A:Int) (b:List UInt8) (k:Nat):List (List UInt8):=(List.range k).map (G4 g t had [A] [b])
theorem OY {n:Nat} (h:∀ i:Nat,i<n->(G4 g t had [A] [b] i).length=8):∀ k,k<=n->K9 (GK g t had A b k)=EV g t had [A] [b] k
 | 0,_=>rfl
 | k+1,hk=>by
  have ih:=OY h k (by omega);unfold K9 GK at ih |-
  rw [B9,A0,Cb,ih,EV,if_neg (by rw [h k (by omega)];decide)];try rfl
end
theorem QD (g:Geo) (t:List Ent) (had:List (List UInt8)) (A:Int) (b:List UInt8) (stamp:Int) (hg:Bt g=true) (ht:Ib g t=true) (hh:(had.length:Int)=g.d+1) (h8:∀ b∈had,b.length=8) (hlo:∀ i,i<t.length->(t.getD i ez).lost=false) (hA:0<=A/\A<g.d) (hb:b.length=8) (hs:0<=stamp/\stamp<=4294967295) :
  Fn Tryz.prog 145 [.ag (Bh g), .ag [BX t],GW had,iA [A],GW [b],iv stamp] fun r=>r = .tp [.ag [BX (BK g t had [A] [b] stamp)],bA (EV g t had [A] [b] g.d.toNat),iv 0]:=by
 obtain⟨g1,g2,g3,g4,g5⟩:=Ay.1 hg;have htl:=Jm ht;have hz:=W0 g t had hg ht hh h8 hlo;have hr:=Kl g A hA;have hw:=JB [b] (show 1<=1000000 by decide) (fun x hx=>by rw [A4] at hx;rw [hx];exact hb);have htw:=SO t (by omega);have hB8:∀ i:Nat,i<g.d.toNat->(G4 g t had [A] [b] i).length=8:=fun i hi=>XY h8 hb hlo (by omega) (by omega)
 have em:=PW stamp b hs hb;refine zT Tryz.func145 rfl ?_;conv=>whnf
 refine zY hz ?_;conv=>whnf
 refine zY hr ?_;conv=>whnf
 rw [show decide (stamp<0)=false from decide_eq_false (by omega)];conv=>whnf
 rw [show decide (stamp > 4294967295)=false from decide_eq_false (by omega)];conv=>whnf
 refine zY hw ?_;conv=>whnf
 refine zW htw rfl ?_;rintro _ _ ⟨rfl,rfl⟩;conv=>whnf
 refine zS Nat (fun i=>([(3,iA [A]),(4,GW [b]),(5,iv stamp),(6, .bp 0 0),(12, .bp 2 0),(15,GW had),(16,ZE (List.replicate had.length true)),(17, .ow 4 i),(62,iv g.d),(63,iv (i:Nat))], [.box 24 (Bh g), .box 145 [BX t], .box 145 [.ow 3 t.length], .row 189 3 ((FN g t had [A] [b] stamp i).map Dp), .row 22 1 ((GK g t had A b i).map M8)])) (fun i=>i<=g.d.toNat) (fun i=>g.d.toNat - i) 0 (Aj _)
  ⟨_,_,zo _ _, [(17,22,1)],tA, [0,1,2,3,4],tA,tA,rfl,rfl,rfl,rfl,rfl⟩ ?_
 intro i hi;by_cases hin:i<g.d.toNat
 ·have hit:i<t.length:=by omega
  have hih:i<had.length:=by omega
  have hE:=Z1 (g:=g) (A:=A) (b:=b) (stamp:=stamp) h8 hb hlo hit hih;have hN:=XZ (g:=g) (A:=A) (b:=b) h8 hlo hit hih;have hix:=WE A (i:Nat);have hlo2:=Py g t had [A] [b] stamp (Nat.le_of_lt hit);have hsl:(GK g t had A b i).length=i:=by simp [GK]
  have hs2:(GK g t had A b i).map M8 ++ [M8 (G4 g t had [A] [b] i)]=(GK g t had A b (i+1)).map M8:=by simp [GK,B9]
  by_cases hq:A=(i:Int)
  ·rw [if_pos hq] at hE hN hix;rw [hN] at hs2;conv=>whnf
   rw [show decide ((i:Int)<g.d)=true from decide_eq_true (by omega)];conv=>whnf
   repeat' (refine zZ ?_;conv=>whnf)
   refine zY hix ?_;conv=>whnf
   repeat' (refine zZ ?_;conv=>whnf)
   have ixA:(0:Int)<=0/\(0:Int)<(([b]:List (List UInt8)).length:Nat):=in01;apply zX (0) tys_ok mixed (.o [0,1,2,3,4,5,6,7,8,9,10,11,12,13] .fin) (by kernel_rfl);conv=>whnf
   try (refine tI ?_;conv=>whnf)
   refine zY em ?_;conv=>whnf
   try (refine tI ?_;conv=>whnf)
   try (refine tS ?_;conv=>whnf)
   all_goals rw [show ((FN g t had [A] [b] stamp i).map Dp).getD (((i:Nat):Int)).toNat []=Dp ((FN g t had [A] [b] stamp i).getD i ez) by rw [Ac];exact AR (by omega)]
   all_goals
    conv=>whnf
    repeat' (refine zZ ?_;conv=>whnf)
    refine⟨in01,?_⟩;refine⟨rfl,?_⟩;refine⟨⟨by rw [Aa,hsl],by omega⟩,?_⟩;exact⟨i+1,by omega,by omega,zR (s:= [0,1,2,3,4]) ⟨⟨rfl,rfl,rfl,rfl,rfl,rfl,rfl,rfl,rfl,AQ (by omega),tv⟩,⟨rfl,rfl,rfl,congrArg (fun z=>some (AB.row 189 3 z)) (show ((FN g t had [A] [b] stamp i).map Dp).set (((i:Nat):Int)).toNat (Dp ⟨stamp,(DH b:Nat),false⟩)=(FN g t had [A] [b] stamp (i+1)).map Dp by rw [Ac,<-List.map_set,<-hE,Nh g t had [A] [b] stamp hit]),congrArg (fun z=>some (AB.row 22 1 z)) hs2,tv⟩,rfl,rfl,rfl,rfl,rfl⟩⟩
  ·rw [if_neg hq] at hE hN hix;rw [hN] at hs2;conv=>whnf
   rw [show decide ((i:Int)<g.d)=true from decide_eq_true (by omega)];conv=>whnf
   repeat' (refine zZ ?_;conv=>whnf)
   refine zY hix ?_;conv=>whnf
   repeat' (refine zZ ?_;conv=>whnf)
   refine Ai ⟨by omega,by rw [Bn];omega⟩ ?_;conv=>whnf
   rw [show (List.replicate had.length true).getD ((i:Nat):Int).toNat false=true by rw [Ac,Ab,List.getElem?_replicate,if_pos hih];try rfl];conv=>whnf
   repeat' (refine zZ ?_;conv=>whnf)
   refine⟨⟨by omega,by omega⟩,?_⟩;refine⟨rfl,?_⟩;conv=>whnf
   rw [Ac];refine⟨⟨by rw [Aa,hsl],by omega⟩,?_⟩;exact⟨i+1,by omega,by omega,zR (s:= [0,1,2,3,4]) ⟨⟨rfl,rfl,rfl,rfl,rfl,rfl,rfl,rfl,rfl,AQ (by omega),tv⟩,⟨rfl,rfl,rfl,congrArg (fun z=>some (AB.row 189 3 z)) (show (FN g t had [A] [b] stamp i).map Dp=(FN g t had [A] [b] stamp (i+1)).map Dp by rw [<-Nh g t had [A] [b] stamp hit,hE,YA g t had [A] [b] stamp hit]),congrArg (fun z=>some (AB.row 22 1 z)) hs2,tv⟩,rfl,rfl,rfl,rfl,rfl⟩⟩
 ·have ei:i=g.d.toNat:=by omega
  subst ei;conv=>whnf
  rw [show decide (((g.d.toNat:Nat):Int)<g.d)=false from decide_eq_false (by omega)];conv=>whnf
  repeat' (refine zZ ?_;conv=>whnf)
  have hsl:(GK g t had A b g.d.toNat).length=g.d.toNat:=by simp [GK]
  have hxa:=W5 (GK g t had A b g.d.toNat) (by omega) (fun x hx=>by
   obtain⟨i,hi,rfl⟩:=AK.1 hx;exact hB8 i (AL.1 hi))
  rw [OY hB8 _ (Ag _)] at hxa;refine Fn.shut (args':= [.sl 1 g.d.toNat fun i=>((GK g t had A b g.d.toNat).map M8).getD i [],iv 8]) (hxa.subA ⟨FU hsl.symm rfl,fun _ _ h=>h,tv⟩) ⟨by rw [Aa,hsl],rfl,?_⟩;rintro _ rfl;conv=>whnf
  have hp8:(EV g t had [A] [b] g.d.toNat).length=8:=Hr (g:=g) (t:=t) (had:=had) (ats:= [A]) (bs:= [b]) (fun x hx=> .inr (h8 x hx)) (fun x hx=>by rw [A4] at hx;rw [hx];exact hb) (Ag 1) _;have he:=PW stamp (EV g t had [A] [b] g.d.toNat) hs hp8;apply zX (0) tys_ok mixed (.o [0,1,2,3,4,5,6,7,8,9,10,11] .fin) (by kernel_rfl);conv=>whnf
  refine zY he ?_;conv=>whnf
  try (refine tI ?_;conv=>whnf)
  try (refine tS ?_;conv=>whnf)
  have hdl:g.d.toNat<t.length:=by omega
  have hlo2:=Py g t had [A] [b] stamp (Nat.le_of_lt hdl);have eW:(FN g t had [A] [b] stamp g.d.toNat).set g.d.toNat ⟨stamp,(DH (EV g t had [A] [b] g.d.toNat):Nat),false⟩=BK g t had [A] [b] stamp:=by
   rw [Lw g t had [A] [b] stamp hdl,BK,A9 (by omega)]
  have hgl:((FN g t had [A] [b] stamp g.d.toNat).map Dp).getD g.d.toNat []=Dp ((FN g t had [A] [b] stamp g.d.toNat).getD g.d.toNat ez):=AR (by omega);have eR:((FN g t had [A] [b] stamp g.d.toNat).map Dp).set g.d.toNat (Dp ⟨stamp,(DH (EV g t had [A] [b] g.d.toNat):Nat),false⟩)=(BK g t had [A] [b] stamp).map Dp:=by rw [<-List.map_set,eW]
  have eN:(BK g t had [A] [b] stamp).length=t.length:=by simp [BK];omega
  all_goals
   refine⟨⟨rfl,by rw [Aa,hlo2],hdl⟩,?_⟩;rw [hgl];refine⟨(by rw [Bm,Aa,hlo2]),?_⟩;exact⟨.tp [.ag [BX (BK g t had [A] [b] stamp)],bA (EV g t had [A] [b] g.d.toNat),iv 0],BT ⟨AW ⟨Cd (f:=Dp) (BK g t had [A] [b] stamp) eN.symm eR,tv⟩,ri,ri,tv⟩,rfl⟩
theorem Pb (g:Geo) (z:Int) (t:List Ent) (par:List UInt8) (A:Int) (b:List UInt8) (hg:Bt g=true) (hz:0<=z/\z<g.z) (ht:Ib g t=true) (hp:par.length=8) (hA:0<=A/\A<g.d) (hb:b.length=8) :
  Fn Tryz.prog 146 [.ag (Bh g),iv z, .ag [BX t],bA par,iA [A],GW [b]] fun r=>r = .tp [EW (C0 z t par [A] [b]),iv 0]:=by
 obtain⟨g1,g2,g3,g4,g5⟩:=Ay.1 hg;have htl:=Jm ht;have h1:=BG par (by omega);have h2:=BG b (by omega);have h3:=JA g t (by omega);rw [ht,if_pos rfl] at h3;have hr:=Kl g A hA;have hw:=JB [b] (show 1<=1000000 by decide) (fun x hx=>by rw [A4] at hx;rw [hx];exact hb);have hwp:=JB [par] (show 1<=1000000 by decide) (fun x hx=>by rw [A4] at hx;rw [hx];exact hp);refine zT Tryz.func146 rfl ?_;conv=>whnf
 refine zY h3 ?_;conv=>whnf
 rw [show decide (z<0)=false from decide_eq_false (by omega)];conv=>whnf
 rw [show decide (z>=g.z)=false from decide_eq_false (by omega)];conv=>whnf
 refine zY hr ?_;conv=>whnf
 refine zY hw ?_;conv=>whnf
 refine zj (args':= [.sl 1 1 fun i=>([M8 par]:List (List AV)).getD i []]) (hwp.subA ⟨FU (L:= [par]) rfl rfl,tv⟩) tA ?_;rintro _ rfl;refine⟨rfl,?_⟩;conv=>whnf
 refine zS Nat (fun k=>([(1,iv z),(3,bA par),(5,GW [b]),(14,bA (Df t)),(16, .ow 2 k),(61,iA [A]),(62,iv 1),(63,iv (k:Nat))], [.box 24 (Bh g), .box 145 [BX t], .row 139 3 ((([⟨z,A,b⟩]:List Img).take k).map GR)])) (fun k=>k<=1) (fun k=>1 - k) 0 (by decide)
  ⟨_,_,zo _ _, [(16,139,3)],tA, [0,1,3],tA,tA,rfl,rfl,rfl,rfl,rfl⟩ ?_
 intro k hk;by_cases hk1:k=1
 ·subst hk1;conv=>whnf
  repeat' (refine zZ ?_;conv=>whnf)
  refine zY h1 ?_;refine⟨rfl,?_⟩;refine⟨⟨rfl,by decide⟩,?_⟩;refine⟨rfl,?_⟩;exact⟨.tp [EW (C0 z t par [A] [b]),iv 0],BT ⟨Cd (f:=GR) (C0 z t par [A] [b]) rfl rfl,ri,tv⟩,rfl⟩
 ·obtain rfl:k=0:=by omega
  conv=>whnf
  repeat' (refine zZ ?_;conv=>whnf)
  refine⟨in01,?_⟩;conv=>whnf
  repeat' (refine zZ ?_;conv=>whnf)
  refine⟨in01,?_⟩;conv=>whnf
  refine zY h2 ?_;refine⟨rfl,?_⟩;refine⟨⟨rfl,by decide⟩,?_⟩;exact⟨1,by omega,by omega,zR (s:= [0,1,2]) tA⟩
end
section
open Go.RowKit Go.Shelf
attribute [local go_sem] Oper.semAt_some

theorem Wd (F:Fence) (n:Nat) (h7:F.fn 314) (hro:F.round=none) (hn:1<=n) (l Bs n₀ b off len cap:Nat) (X0 X1 X2 X3:Nat->Value) (hlen:len<=1000000000) (hb:b<n₀) (hBn:Bs<n₀) (J Jx:List Nat->World->Prop)
  (hY:∀ pre x W,J pre W->pre.length<len->x<len->YieldAt F (n - 1) Tryz.prog l #[.int .i64 (x:Nat), .agg #[X0 x,X1 x,X2 x,X3 x]] W fun e W'=>
   (e = .returned (.bool true)/\J (pre ++ [x]) W'/\Below n₀ W W')\/(e = .returned (.bool false)/\Jx (pre ++ [x]) W'))
  (W:World) (hBs:W.cell? ⟨Bs,0,none⟩=some (.slice (some ⟨b,off,none⟩) len cap)) (hc0:∀ j,j<len->W.cell? ⟨b,off+j*4,none⟩=some (X0 j)) (hc1:∀ j,j<len->W.cell? ⟨b,off+j*4+1,none⟩=some (X1 j)) (hc2:∀ j,j<len->W.cell? ⟨b,off+j*4+2,none⟩=some (X2 j)) (hc3:∀ j,j<len->W.cell? ⟨b,off+j*4+3,none⟩=some (X3 j)) (h0:J [] W) :
  CallsIn F n Tryz.prog 314 #[.func (.yield l) #[] #[], .pointer (some ⟨Bs,0,none⟩)] W fun e W'=>(∃ v,e = .returned v)/\
   ((∃ ys,ys=CR len len/\J ys W')\/(∃ pre,(∃ k,k<=len/\pre=CR len k)/\Jx pre W')):=by
 have Hc0:=Lib.hid hc0;have Hc1:=Lib.hid hc1;have Hc2:=Lib.hid hc2;have Hc3:=Lib.hid hc3;clear hc0 hc1 hc2 hc3;refine callsIn_of_wp Tryz.func314 rfl h7 ?_ hro;simp only [Tryz.ntmps314,Bx,Ao,AO,Nat.reduceAdd,Nat.reduceSub,CG,CF,Dm,CN,Bq,Bk]
 gi_wp2
 gi_loopw [3] (fun i wr=>∃ k:Nat,k<=len/\i = .int .i64 ((len:Int) - 1 - k)/\J (CR len k) wr/\Below n₀ W wr)
  (fun i _=>(intOf i+1).toNat)
 case atStart=>exact⟨0,Aj _,by simp,h0,Below.refl _ _⟩
 case round=>
  obtain⟨k,hk,rfl,hJs,hnx⟩:=hrel;by_cases hlt:k<len
  ·obtain⟨m,hmk⟩:∃ m,len=k+1+m:=⟨len - (k+1),by omega⟩;rw [show (len:Int) - 1 - k=(m:Int) by omega];obtain⟨fn,tmps,assign,body,hy,hR⟩:=hY _ m wr hJs (by rw [GD];exact hlt) (by omega);have e0:=(hnx.cell (p:=⟨b,off+m*4,none⟩) hb).trans (Hc0.out m (by omega));have e1:=(hnx.cell (p:=⟨b,off+m*4+1,none⟩) hb).trans (Hc1.out m (by omega));have e2:=(hnx.cell (p:=⟨b,off+m*4+2,none⟩) hb).trans (Hc2.out m (by omega));have e3:=(hnx.cell (p:=⟨b,off+m*4+3,none⟩) hb).trans (Hc3.out m (by omega));have eb:=(hnx.cell (p:=⟨Bs,0,none⟩) hBn).trans hBs;have hm:(m:Int)<(len:Int):=by omega
   have Hm:=Lib.hid hmk;clear hmk
   gi_wp2
   refine hR.mono ?_;rintro e W3 (⟨rfl,hJ3,hk3⟩ | ⟨rfl,hJx3⟩)
   ·gi_wp2
    go_roundw
    case rel=>exact⟨k+1,by omega,congrArg (Value.int .i64) (by have:=Hm.out;omega),by rw [EM,show len - 1 - k=m by have:=Hm.out;omega];exact hJ3,hnx.trans hk3⟩
    case measure=>simp [intOf]
   ·gi_wp2
    refine bodyPost_ret (results_none rfl _ _ _) rfl ?_;exact⟨⟨_,rfl⟩, .inr ⟨_,⟨k+1,by omega,by rw [EM,show len - 1 - k=m by have:=Hm.out;omega]⟩,hJx3⟩⟩
  ·obtain rfl:k=len:=by omega
   rw [show ((k:Nat):Int) - 1 - k = -1 by omega]
   gi_wp2
   go_end0
   exact⟨⟨_,rfl⟩, .inl ⟨_,rfl,hJs⟩⟩

theorem We (F:Fence) (n:Nat) (h7:F.fn 314) (hro:F.round=none) (l Bs:Nat) (a:Option Addr) (cap:Nat) (J:List Nat->World->Prop) (W:World) (hBs:W.cell? ⟨Bs,0,none⟩=some (.slice a 0 cap)) (h0:J [] W) :
  CallsIn F n Tryz.prog 314 #[.func (.yield l) #[] #[], .pointer (some ⟨Bs,0,none⟩)] W fun e W'=>(∃ v,e = .returned v)/\J [] W':=by
 refine callsIn_of_wp Tryz.func314 rfl h7 ?_ hro;simp only [Tryz.ntmps314,Bx,Ao,AO,Nat.reduceAdd,Nat.reduceSub,CG,CF,Dm,CN,Bq,Bk]
 gi_wp2
 gi_loopw [3] (fun i wr=>i = .int .i64 (-1)/\J [] wr) (fun _ _=>0)
 case atStart=>exact⟨rfl,h0⟩
 case round=>
  obtain⟨rfl,hJs⟩:=hrel
  gi_wp2
  go_end0
  exact⟨⟨_,rfl⟩,hJs⟩

theorem R7 (F:Fence) (n:Nat) (h7:F.fn 314) (hro:F.round=none) (hn:1<=n) (Bs n₀:Nat) (a:Option Addr) (len cap:Nat) (X0 X1 X2 X3:Nat->Value) (hlen:len<=1000000000) (w:World) (hBs:Bs<n₀) (hn₀:n₀<=w.heap.size)
  (hc:w.cell? ⟨Bs,0,none⟩=some (.slice a len cap)) (hI:0<len->∃ b off,a=some ⟨b,off,none⟩/\b<n₀/\∀ j,j<len->w.cell? ⟨b,off+j*4,none⟩=some (X0 j)/\w.cell? ⟨b,off+j*4+1,none⟩=some (X1 j)/\w.cell? ⟨b,off+j*4+2,none⟩=some (X2 j)/\w.cell? ⟨b,off+j*4+3,none⟩=some (X3 j)) :
  SeqStopsK F n Tryz.prog 314 #[.pointer (some ⟨Bs,0,none⟩)] (fun x:Fin len=> #[Value.int .i64 x.val, .agg #[X0 x,X1 x,X2 x,X3 x]]) (Below n₀) (fun ys=>ys.map Fin.val=CR len len) (fun pre=>∃ k,k<=len/\pre.map Fin.val=CR len k) len w:=fun l J Jx W hW _ _ hY h0=>by
 have hc':=(hW.cell (p:=⟨Bs,0,none⟩) (by show Bs<_;omega)).trans hc;rcases C_ len with rfl | hp
 ·exact(We F n h7 hro l Bs a cap (fun _ W=>J [] W) W hc' h0).mono fun e W' ⟨he,hj⟩=>⟨he, .inl ⟨[],rfl,hj⟩⟩
 ·obtain⟨b,off,rfl,hb,hj⟩:=hI hp;refine(Wd F n h7 hro hn l Bs n₀ b off len cap X0 X1 X2 X3 hlen hb hBs (fun pre W=>∃ q:List (Fin len),q.map Fin.val=pre/\J q W) (fun pre W=>∃ q:List (Fin len),q.map Fin.val=pre/\Jx q W) ?_ W hc' (fun j h=>(hW.cell (p:=⟨b,off+j*4,none⟩) (by show b<_;omega)).trans (hj j h).1) (fun j h=>(hW.cell (p:=⟨b,off+j*4+1,none⟩) (by show b<_;omega)).trans (hj j h).2.1) (fun j h=>(hW.cell (p:=⟨b,off+j*4+2,none⟩) (by show b<_;omega)).trans (hj j h).2.2.1) (fun j h=>(hW.cell (p:=⟨b,off+j*4+3,none⟩) (by show b<_;omega)).trans (hj j h).2.2.2) ⟨[],rfl,h0⟩).mono ?_
  ·rintro pre x W1 ⟨q,hq,hJ⟩ hlt hx;obtain⟨fn,tmps,assign,body,hy,hR⟩:=hY q ⟨x,hx⟩ W1 hJ (by rw [<-hq,Aa] at hlt;exact hlt);refine⟨fn,tmps,assign,body,hy,hR.mono ?_⟩;rintro e W' (⟨he,h1,h2⟩ | ⟨he,h1⟩)
   ·exact .inl ⟨he,⟨_,by simp [hq],h1⟩,h2⟩
   ·exact .inr ⟨he,⟨_,by simp [hq],h1⟩⟩
  ·rintro e W' ⟨he,⟨ys,rfl,q,hq,hJ⟩ | ⟨pre,⟨k,hk,rfl⟩,q,hq,hJ⟩⟩
   ·exact⟨he, .inl ⟨q,hq,hJ⟩⟩
   ·exact⟨he, .inr ⟨q,⟨k,hk,hq⟩,hJ⟩⟩

theorem bktx_is:IsBack Tryz.prog 314 4:=by
 refine⟨enters_of Tryz.func314 (by kernel_rfl) rfl,fun m hm B a len cap X w hlen hc hl hI=>?_⟩;have e:(fun x:Fin len=>(#[Value.int .i64 x.val, .agg (X x.val).toArray]:Array Value))=fun x:Fin len=> #[Value.int .i64 x.val, .agg #[(X x.val).getD 0 undef,(X x.val).getD 1 undef,(X x.val).getD 2 undef,(X x.val).getD 3 undef]]:=by
  funext x;have:=hl x.val;match h:X x.val with
  | [u0,u1,u2,u3]=>rfl
  | []=>rw [h] at this;simp at this
  | [_]=>rw [h] at this;simp at this
  | [_,_]=>rw [h] at this;simp at this
  | [_,_,_]=>rw [h] at this;simp at this
  | _::_::_::_::_::_=>rw [h] at this;simp at this
 rw [e];refine R7 Fence.wide m trivial rfl hm B w.heap.size a len cap (fun j=>(X j).getD 0 undef) (fun j=>(X j).getD 1 undef) (fun j=>(X j).getD 2 undef) (fun j=>(X j).getD 3 undef) hlen w (World.block_lt_of_cell? w _ hc) (Ag _) hc fun hp=>?_
 obtain⟨b,off,h1,h2,h3⟩:=hI hp;refine⟨b,off,h1,h2,fun j hj=>?_⟩;have h4:=hl j;match h:X j with
 | [u0,u1,u2,u3]=>exact⟨h3 j hj 0 u0 (by rw [h];rfl),h3 j hj 1 u1 (by rw [h];rfl),h3 j hj 2 u2 (by rw [h];rfl),h3 j hj 3 u3 (by rw [h];rfl)⟩
 | []=>rw [h] at h4;simp at h4
 | [_]=>rw [h] at h4;simp at h4
 | [_,_]=>rw [h] at h4;simp at h4
 | [_,_,_]=>rw [h] at h4;simp at h4
 | _::_::_::_::_::_=>rw [h] at h4;simp at h4

theorem Wf (F:Fence) (n:Nat) (h7:F.fn 315) (hro:F.round=none) (hn:1<=n) (l Bs n₀ b off len cap:Nat) (X0 X1 X2:Nat->Value) (hlen:len<=1000000000) (hb:b<n₀) (hBn:Bs<n₀) (J Jx:List Nat->World->Prop)
  (hY:∀ pre x W,J pre W->pre.length<len->x<len->YieldAt F (n - 1) Tryz.prog l #[.int .i64 (x:Nat), .agg #[X0 x,X1 x,X2 x]] W fun e W'=>
   (e = .returned (.bool true)/\J (pre ++ [x]) W'/\Below n₀ W W')\/(e = .returned (.bool false)/\Jx (pre ++ [x]) W'))
  (W:World) (hBs:W.cell? ⟨Bs,0,none⟩=some (.slice (some ⟨b,off,none⟩) len cap)) (hc0:∀ j,j<len->W.cell? ⟨b,off+j*3,none⟩=some (X0 j)) (hc1:∀ j,j<len->W.cell? ⟨b,off+j*3+1,none⟩=some (X1 j)) (hc2:∀ j,j<len->W.cell? ⟨b,off+j*3+2,none⟩=some (X2 j)) (h0:J [] W) :
  CallsIn F n Tryz.prog 315 #[.func (.yield l) #[] #[], .pointer (some ⟨Bs,0,none⟩)] W fun e W'=>(∃ v,e = .returned v)/\
   ((∃ ys,ys=CR len len/\J ys W')\/(∃ pre,(∃ k,k<=len/\pre=CR len k)/\Jx pre W')):=by
 have Hc0:=Lib.hid hc0;have Hc1:=Lib.hid hc1;have Hc2:=Lib.hid hc2;clear hc0 hc1 hc2;refine callsIn_of_wp Tryz.func315 rfl h7 ?_ hro;simp only [Tryz.ntmps315,Bx,Ao,AO,Nat.reduceAdd,Nat.reduceSub,CG,CF,Dm,CN,Bq,Bk]
 gi_wp2
 gi_loopw [3] (fun i wr=>∃ k:Nat,k<=len/\i = .int .i64 ((len:Int) - 1 - k)/\J (CR len k) wr/\Below n₀ W wr)
  (fun i _=>(intOf i+1).toNat)
 case atStart=>exact⟨0,Aj _,by simp,h0,Below.refl _ _⟩
 case round=>
  obtain⟨k,hk,rfl,hJs,hnx⟩:=hrel;by_cases hlt:k<len
  ·obtain⟨m,hmk⟩:∃ m,len=k+1+m:=⟨len - (k+1),by omega⟩;rw [show (len:Int) - 1 - k=(m:Int) by omega];obtain⟨fn,tmps,assign,body,hy,hR⟩:=hY _ m wr hJs (by rw [GD];exact hlt) (by omega);have e0:=(hnx.cell (p:=⟨b,off+m*3,none⟩) hb).trans (Hc0.out m (by omega));have e1:=(hnx.cell (p:=⟨b,off+m*3+1,none⟩) hb).trans (Hc1.out m (by omega));have e2:=(hnx.cell (p:=⟨b,off+m*3+2,none⟩) hb).trans (Hc2.out m (by omega));have eb:=(hnx.cell (p:=⟨Bs,0,none⟩) hBn).trans hBs;have hm:(m:Int)<(len:Int):=by omega
   have Hm:=Lib.hid hmk;clear hmk
   gi_wp2
   refine hR.mono ?_;rintro e W3 (⟨rfl,hJ3,hk3⟩ | ⟨rfl,hJx3⟩)
   ·gi_wp2
    go_roundw
    case rel=>exact⟨k+1,by omega,congrArg (Value.int .i64) (by have:=Hm.out;omega),by rw [EM,show len - 1 - k=m by have:=Hm.out;omega];exact hJ3,hnx.trans hk3⟩
    case measure=>simp [intOf]
   ·gi_wp2
    refine bodyPost_ret (results_none rfl _ _ _) rfl ?_;exact⟨⟨_,rfl⟩, .inr ⟨_,⟨k+1,by omega,by rw [EM,show len - 1 - k=m by have:=Hm.out;omega]⟩,hJx3⟩⟩
  ·obtain rfl:k=len:=by omega
   rw [show ((k:Nat):Int) - 1 - k = -1 by omega]
   gi_wp2
   go_end0
   exact⟨⟨_,rfl⟩, .inl ⟨_,rfl,hJs⟩⟩

theorem Wg (F:Fence) (n:Nat) (h7:F.fn 315) (hro:F.round=none) (l Bs:Nat) (a:Option Addr) (cap:Nat) (J:List Nat->World->Prop) (W:World) (hBs:W.cell? ⟨Bs,0,none⟩=some (.slice a 0 cap)) (h0:J [] W) :
  CallsIn F n Tryz.prog 315 #[.func (.yield l) #[] #[], .pointer (some ⟨Bs,0,none⟩)] W fun e W'=>(∃ v,e = .returned v)/\J [] W':=by
 refine callsIn_of_wp Tryz.func315 rfl h7 ?_ hro;simp only [Tryz.ntmps315,Bx,Ao,AO,Nat.reduceAdd,Nat.reduceSub,CG,CF,Dm,CN,Bq,Bk]
 gi_wp2
 gi_loopw [3] (fun i wr=>i = .int .i64 (-1)/\J [] wr) (fun _ _=>0)
 case atStart=>exact⟨rfl,h0⟩
 case round=>
  obtain⟨rfl,hJs⟩:=hrel
  gi_wp2
  go_end0
  exact⟨⟨_,rfl⟩,hJs⟩

theorem R8 (F:Fence) (n:Nat) (h7:F.fn 315) (hro:F.round=none) (hn:1<=n) (Bs n₀:Nat) (a:Option Addr) (len cap:Nat) (X0 X1 X2:Nat->Value) (hlen:len<=1000000000) (w:World) (hBs:Bs<n₀) (hn₀:n₀<=w.heap.size)
  (hc:w.cell? ⟨Bs,0,none⟩=some (.slice a len cap)) (hI:0<len->∃ b off,a=some ⟨b,off,none⟩/\b<n₀/\∀ j,j<len->w.cell? ⟨b,off+j*3,none⟩=some (X0 j)/\w.cell? ⟨b,off+j*3+1,none⟩=some (X1 j)/\w.cell? ⟨b,off+j*3+2,none⟩=some (X2 j)) :
  SeqStopsK F n Tryz.prog 315 #[.pointer (some ⟨Bs,0,none⟩)] (fun x:Fin len=> #[Value.int .i64 x.val, .agg #[X0 x,X1 x,X2 x]]) (Below n₀) (fun ys=>ys.map Fin.val=CR len len) (fun pre=>∃ k,k<=len/\pre.map Fin.val=CR len k) len w:=fun l J Jx W hW _ _ hY h0=>by
 have hc':=(hW.cell (p:=⟨Bs,0,none⟩) (by show Bs<_;omega)).trans hc;rcases C_ len with rfl | hp
 ·exact(Wg F n h7 hro l Bs a cap (fun _ W=>J [] W) W hc' h0).mono fun e W' ⟨he,hj⟩=>⟨he, .inl ⟨[],rfl,hj⟩⟩
 ·obtain⟨b,off,rfl,hb,hj⟩:=hI hp;refine(Wf F n h7 hro hn l Bs n₀ b off len cap X0 X1 X2 hlen hb hBs (fun pre W=>∃ q:List (Fin len),q.map Fin.val=pre/\J q W) (fun pre W=>∃ q:List (Fin len),q.map Fin.val=pre/\Jx q W) ?_ W hc' (fun j h=>(hW.cell (p:=⟨b,off+j*3,none⟩) (by show b<_;omega)).trans (hj j h).1) (fun j h=>(hW.cell (p:=⟨b,off+j*3+1,none⟩) (by show b<_;omega)).trans (hj j h).2.1) (fun j h=>(hW.cell (p:=⟨b,off+j*3+2,none⟩) (by show b<_;omega)).trans (hj j h).2.2) ⟨[],rfl,h0⟩).mono ?_
  ·rintro pre x W1 ⟨q,hq,hJ⟩ hlt hx;obtain⟨fn,tmps,assign,body,hy,hR⟩:=hY q ⟨x,hx⟩ W1 hJ (by rw [<-hq,Aa] at hlt;exact hlt);refine⟨fn,tmps,assign,body,hy,hR.mono ?_⟩;rintro e W' (⟨he,h1,h2⟩ | ⟨he,h1⟩)
   ·exact .inl ⟨he,⟨_,by simp [hq],h1⟩,h2⟩
   ·exact .inr ⟨he,⟨_,by simp [hq],h1⟩⟩
  ·rintro e W' ⟨he,⟨ys,rfl,q,hq,hJ⟩ | ⟨pre,⟨k,hk,rfl⟩,q,hq,hJ⟩⟩
   ·exact⟨he, .inl ⟨q,hq,hJ⟩⟩
   ·exact⟨he, .inr ⟨q,⟨k,hk,hq⟩,hJ⟩⟩

theorem bkim_is:IsBack Tryz.prog 315 3:=by
 refine⟨enters_of Tryz.func315 (by kernel_rfl) rfl,fun m hm B a len cap X w hlen hc hl hI=>?_⟩;have e:(fun x:Fin len=>(#[Value.int .i64 x.val, .agg (X x.val).toArray]:Array Value))=fun x:Fin len=> #[Value.int .i64 x.val, .agg #[(X x.val).getD 0 undef,(X x.val).getD 1 undef,(X x.val).getD 2 undef]]:=by
  funext x;have:=hl x.val;match h:X x.val with
  | [u0,u1,u2]=>rfl
  | []=>rw [h] at this;simp at this
  | [_]=>rw [h] at this;simp at this
  | [_,_]=>rw [h] at this;simp at this
  | _::_::_::_::_=>rw [h] at this;simp at this
 rw [e];refine R8 Fence.wide m trivial rfl hm B w.heap.size a len cap (fun j=>(X j).getD 0 undef) (fun j=>(X j).getD 1 undef) (fun j=>(X j).getD 2 undef) hlen w (World.block_lt_of_cell? w _ hc) (Ag _) hc fun hp=>?_
 obtain⟨b,off,h1,h2,h3⟩:=hI hp;refine⟨b,off,h1,h2,fun j hj=>?_⟩;have h4:=hl j;match h:X j with
 | [u0,u1,u2]=>exact⟨h3 j hj 0 u0 (by rw [h];rfl),h3 j hj 1 u1 (by rw [h];rfl),h3 j hj 2 u2 (by rw [h];rfl)⟩
 | []=>rw [h] at h4;simp at h4
 | [_]=>rw [h] at h4;simp at h4
 | [_,_]=>rw [h] at h4;simp at h4
 | _::_::_::_::_=>rw [h] at h4;simp at h4

end
section
open Go.RowKit
def EY (l:List Img) (z w:Int):Nat->Option Nat
 | 0=>none
 | k+1=>if (l.getD k iz).zone=z/\(l.getD k iz).what=w then some k else EY l z w k
def FL (l:List Tx) (z w:Int):Nat->Option (Nat × Nat)
 | 0=>none
 | k+1=>match EY (l.getD k tz).images z w (l.getD k tz).images.length with
  | some i=>some (k,i)
  | none=>FL l z w k
theorem Sx (l:List Img) (z w:Int):∀ k,Dy l z w k=(EY l z w k).map fun i=>l.getD i iz
 | 0=>rfl
 | k+1=>by
  rw [Dy,EY,Sx l z w k];split <;> rfl
theorem Jy (l:List Tx) (z w:Int):∀ k,F4 l z w k=(FL l z w k).map fun p=>((l.getD p.1 tz).images.getD p.2 iz,(l.getD p.1 tz).seq)
 | 0=>rfl
 | k+1=>by
  rw [F4,FL,Sx];cases EY (l.getD k tz).images z w (l.getD k tz).images.length with
  | some i=>rfl
  | none=>exact Jy l z w k
theorem Mh {l:List Img} {z w:Int}:∀ {k:Nat},EY l z w k=none->∀ j,j<k->¬((l.getD j iz).zone=z/\(l.getD j iz).what=w)
 | k+1,h,j,hj=>by
  rw [EY] at h;split at h
  ·cases h
  ·rename_i hc;rcases Nat.lt_succ_iff_lt_or_eq.1 hj with q | rfl
   ·exact Mh h j q
   ·exact hc
theorem N3 {l:List Img} {z w:Int} {j:Nat} (h:(l.getD j iz).zone=z/\(l.getD j iz).what=w):∀ (k:Nat),j<k->(∀ i,j<i->i<k->¬((l.getD i iz).zone=z/\(l.getD i iz).what=w))->EY l z w k=some j
 | k+1,hj,hn=>by
  rw [EY];by_cases e:j=k
  ·subst e;rw [if_pos h]
  ·rw [if_neg (hn k (by omega) (by omega))];exact N3 h k (by omega) fun i q1 q2=>hn i q1 (by omega)
theorem Mj {l:List Img} {z w:Int} {j:Nat}:∀ {k:Nat},EY l z w k=some j->j<k/\(l.getD j iz).zone=z/\(l.getD j iz).what=w
 | k+1,h=>by
  rw [EY] at h;split at h
  ·rename_i hc;obtain rfl:=Option.some.inj h;exact⟨by omega,hc⟩
  ·have:=Mj h;exact⟨by omega,this.2⟩
theorem N4 {l:List Tx} {z w:Int} {j i:Nat} (h:EY (l.getD j tz).images z w (l.getD j tz).images.length=some i):∀ (k:Nat),j<k->(∀ q,j<q->q<k->EY (l.getD q tz).images z w (l.getD q tz).images.length=none)->FL l z w k=some (j,i)
 | k+1,hj,hn=>by
  rw [FL];by_cases e:j=k
  ·subst e;rw [h]
  ·rw [hn k (by omega) (by omega)];exact N4 h k (by omega) fun q q1 q2=>hn q q1 (by omega)
theorem Mk {l:List Tx} {z w:Int}:∀ (k:Nat),(∀ q,q<k->EY (l.getD q tz).images z w (l.getD q tz).images.length=none)->FL l z w k=none
 | 0,_=>rfl
 | k+1,hn=>by
  rw [FL,hn k (by omega)];exact Mk k fun q hq=>hn q (by omega)
theorem H4 {l:List Tx} {z w:Int} {p:Nat × Nat}:∀ {k:Nat},FL l z w k=some p->p.1<k/\p.2<(l.getD p.1 tz).images.length
 | k+1,h=>by
  rw [FL] at h;split at h
  ·rename_i i hi;obtain rfl:=Option.some.inj h;exact⟨Bu k,(Mj hi).1⟩
  ·have:=H4 h;exact⟨by omega,this.2⟩
theorem Wc (a:Option Addr) (len cap:Nat) (w:World) :
  Calls Tryz.prog 239 #[.slice a len cap] w fun e w'=>e = .returned (.func (.func 314) #[] #[.pointer (some ⟨w.heap.size,0,none⟩)])/\w.alloc (.cells #[.slice a len cap] 29)=w':=by
 go_enter Tryz.func239,Tryz.ntmps239
 go_wp2
 go_ret
 exact tA
theorem Ql (a:Option Addr) (len cap:Nat) (w:World) :
  Calls Tryz.prog 240 #[.slice a len cap] w fun e w'=>e = .returned (.func (.func 315) #[] #[.pointer (some ⟨w.heap.size,0,none⟩)])/\w.alloc (.cells #[.slice a len cap] 160)=w':=by
 go_enter Tryz.func240,Tryz.ntmps240
 go_wp2
 go_ret
 exact tA
theorem OA {P:Program} {f g:FuncId} {t:TypeId} (hg:Qt P f) (h:∀ a len cap w,Calls P f #[.slice a len cap] w fun e w'=>e = .returned (.func (.func g) #[] #[.pointer (some ⟨w.heap.size,0,none⟩)])/\w.alloc (.cells #[.slice a len cap] t)=w') (x:AV) (Hin:List AB) (hx:∀ c u,Rd x c u->∃ a len cap,u = .slice a len cap):ACalls P false f [x] Hin fun r H=>r = .fn g [.bp Hin.length 0]/\H=Hin ++ [.box t [x]]:=by
 refine⟨hg,fun w0 M0 c us hs hr=>?_⟩;have hr0:=hr;simp only [RdL] at hr;obtain⟨u,_,rfl,hu,rfl⟩:=hr;obtain⟨a,len,cap,rfl⟩:=hx _ _ hu;obtain⟨c',e1,e2,e3,e4⟩:=hs.box t hr0 (by simp [Value.oneCell']);refine(h a len cap c.w).mono ?_;rintro e w' ⟨rfl,rfl⟩;refine⟨_,c',_,_,rfl,by rw [e1],tA,e2,e3,?_,fun e=>by cases e⟩;simp only [Rd,RdL];exact⟨_,rfl,_,_,rfl,by simpa only [Rd] using e4,rfl⟩
theorem NP {sz n:Nat} {get:Nat->List AV} (c:Ctx) (u:Value) (hu:Rd (.sl sz n get) c u):∃ a len cap,u = .slice a len cap:=by
 simp only [Rd] at hu;obtain⟨a,p,h, -⟩:=hu;exact⟨_,_,_,h⟩
theorem L0 (l:List Tx) (z w:Int) (hl:l.length<=1000000) (hi:∀ t∈l,t.images.length<=1000000):Fn Tryz.prog 164 [Dt l,iv z,iv w] fun r=>r=(match FL l z w l.length with | some p=> .tp [iv (p.1:Nat),iv (p.2:Nat), .v (.bool true)] | none=> .tp [iv 0,iv 0, .v (.bool false)]):=by
 refine zT Tryz.func164 rfl ?_;conv=>whnf
 refine(OA ⟨_,Tryz.func239,rfl,by decide⟩ Wc (Dt l) _ NP).mono ?_;rintro _ _ ⟨rfl,rfl⟩;conv=>whnf
 refine aRF.back tys_ok bktx_is (B:=5) (len:=l.length) (E:=fun i=>Ir (l.getD i ⟨0,0,0, []⟩)) rfl rfl tA (by omega) rfl (by decide) rfl [(4, .rp [iv z]),(5, .rp [iv w])] ⟨.inr ⟨0,_,_,rfl,rfl,rfl,rfl⟩, .inr ⟨1,_,_,rfl,rfl,rfl,rfl⟩,tv⟩ (fun i=>(EY (l.getD i tz).images z w (l.getD i tz).images.length).isSome) ?_ ?_ ?_
 ·intro i hik hh;have hn:EY (l.getD i tz).images z w (l.getD i tz).images.length=none:=by simpa using hh
  have him:=hi _ (AC (d:=tz) hik);obtain⟨t,ht⟩:∃ t,t=l.getD i tz:=⟨_,rfl⟩;rw [show l.getD i ⟨0,0,0, []⟩=t from ht.symm];rw [<-ht] at hn him;refine⟨rfl,?_⟩;conv=>whnf
  refine(OA ⟨_,Tryz.func240,rfl,by decide⟩ Ql (EW t.images) _ NP).mono ?_;rintro _ _ ⟨rfl,rfl⟩;conv=>whnf
  refine aRF.back tys_ok bkim_is (B:=2) (len:=t.images.length) (E:=fun j=>GR (t.images.getD j ⟨0,0, []⟩)) rfl rfl tA (by omega) rfl (by decide) rfl [(4, .rp [iv z]),(5, .rp [iv w])] ⟨.inl tA, .inl tA,tv⟩ (fun _=>false) ?_ ?_ ?_
  ·intro j hj _;have hnj:=Mh hn j hj;refine⟨rfl,?_⟩;conv=>whnf
   by_cases hz:(t.images.getD j ⟨0,0, []⟩).zone=z
   ·rw [show ((t.images.getD j ⟨0,0, []⟩).zone == z)=true from beq_iff_eq.2 hz];conv=>whnf
    rw [show ((t.images.getD j ⟨0,0, []⟩).what == w)=false from beq_eq_false_iff_ne.2 fun e=>hnj ⟨hz,e⟩];conv=>whnf
   ·rw [show ((t.images.getD j ⟨0,0, []⟩).zone == z)=false from beq_eq_false_iff_ne.2 hz];conv=>whnf
  ·intro j hj h;cases h
  ·intro _;conv=>whnf
 ·intro i hik hh;obtain⟨i0,hi0⟩:=CC.1 hh;have him:=hi _ (AC (d:=tz) hik);obtain⟨t,ht⟩:∃ t,t=l.getD i tz:=⟨_,rfl⟩;rw [show l.getD i ⟨0,0,0, []⟩=t from ht.symm];rw [<-ht] at hi0 him;refine⟨rfl,?_⟩;conv=>whnf
  refine(OA ⟨_,Tryz.func240,rfl,by decide⟩ Ql (EW t.images) _ NP).mono ?_;rintro _ _ ⟨rfl,rfl⟩;conv=>whnf
  refine aRF.back tys_ok bkim_is (B:=8) (len:=t.images.length) (E:=fun j=>GR (t.images.getD j ⟨0,0, []⟩)) rfl rfl tA (by omega) rfl (by decide) rfl [(4, .rp [iv z]),(5, .rp [iv w])] ⟨.inr ⟨0,_,_,rfl,rfl,rfl,rfl⟩, .inr ⟨1,_,_,rfl,rfl,rfl,rfl⟩,tv⟩ (fun j=>decide ((t.images.getD j iz).zone=z/\(t.images.getD j iz).what=w)) ?_ ?_ ?_
  ·intro j hj hnj;have hnj:=of_decide_eq_false hnj;refine⟨rfl,?_⟩;conv=>whnf
   by_cases hz:(t.images.getD j ⟨0,0, []⟩).zone=z
   ·rw [show ((t.images.getD j ⟨0,0, []⟩).zone == z)=true from beq_iff_eq.2 hz];conv=>whnf
    rw [show ((t.images.getD j ⟨0,0, []⟩).what == w)=false from beq_eq_false_iff_ne.2 fun e=>hnj ⟨hz,e⟩];conv=>whnf
   ·rw [show ((t.images.getD j ⟨0,0, []⟩).zone == z)=false from beq_eq_false_iff_ne.2 hz];conv=>whnf
  ·intro j hj hy;have hy:=of_decide_eq_true hy;refine⟨rfl,?_⟩;conv=>whnf
   rw [show ((t.images.getD j ⟨0,0, []⟩).zone == z)=true from beq_iff_eq.2 hy.1];conv=>whnf
   rw [show ((t.images.getD j ⟨0,0, []⟩).what == w)=true from beq_iff_eq.2 hy.2];refine⟨by simp,rfl,fun hord=>?_⟩;refine⟨by simp,rfl,fun hord2=>?_⟩;conv=>whnf
   have hJ:EY (l.getD i tz).images z w (l.getD i tz).images.length=some j:=by
    rw [<-ht];exact N3 hy _ hj fun q q1 q2=>of_decide_eq_false (hord q q1 q2)
   rw [N4 hJ l.length hik fun q q1 q2=>by simpa using hord2 q q1 q2];exact⟨_,ri,rfl⟩
  ·intro hno;exfalso;have:=Mj hi0;exact of_decide_eq_false (hno i0 this.1) this.2
 ·intro hh;have hn:=Mk (l:=l) (z:=z) (w:=w) l.length fun q hq=>by simpa using hh q hq
  conv=>whnf
  rw [hn];exact⟨_,ri,rfl⟩
def flatY:AV->Bool
 | .v _=>true
 | .top=>true
 | _=>false
def flatP:AV->Bool
 | .v _=>true
 | .ow _ _=>true
 | .sl _ 0 _=>true
 | _=>false
def flatQ:AV->Bool
 | .v _=>true
 | .ow _ _=>true
 | .ag l=>l.all flatP
 | _=>false
def flatS:List AB->Bool
 | []=>true
 | .row _ _ es::r=>es.flatten.all flatY&&flatS r
 | _::_=>false
theorem PS {c c':Ctx}:∀ {l:List AV} {us:List Value},l.all flatY=true->RdL l c us->RdL l c' us
 | [],us,_,h=>by simpa only [RdL] using h
 | x::l,us,hf,h=>by
  rw [Bb,Ae] at hf;simp only [RdL] at h |-
  obtain⟨u,vs,rfl,h1,h2⟩:=h;refine⟨u,vs,rfl,?_,PS hf.2 h2⟩;cases x <;> simp [flatY] at hf
  ·simp only [Rd]
  ·simpa only [Rd] using h1
theorem Me {c c':Ctx} (hr:c'.rho=c.rho) (hl:c'.len=c.len) (hd:c'.dom=c.dom) {x:AV} (hx:flatP x=true) {u:Value} (h:Rd x c u):Rd x c' u:=by
 cases x with
 | v y=>simpa only [Rd] using h
 | ow k n=>
  simp only [Rd] at h |-
  rw [hr,hl,hd];exact h
 | sl sz n get=>
  cases n with
  | zero=>
   simp only [Rd] at h |-
   obtain⟨a,k,h1,h2,h3, -⟩:=h;exact⟨a,k,h1,h2,h3, .inl trivial⟩
  | succ n=>cases hx
 | _=>simp [flatP] at hx
theorem VJ {c c':Ctx} (hr:c'.rho=c.rho) (hl:c'.len=c.len) (hd:c'.dom=c.dom) {x:AV} (hx:flatQ x=true) {u:Value} (h:Rd x c u):Rd x c' u:=by
 cases x with
 | v y=>exact Me hr hl hd rfl h
 | ow k n=>exact Me hr hl hd rfl h
 | ag l=>
  simp only [Rd] at h |-
  obtain⟨xs,rfl,hxs⟩:=h;refine⟨xs,rfl,?_⟩;simp only [flatQ] at hx;induction l generalizing xs with
  | nil=>simpa only [RdL] using hxs
  | cons y l ih=>
   rw [Bb,Ae] at hx;simp only [RdL] at hxs |-
   obtain⟨u,us,rfl,h1,h2⟩:=hxs;exact⟨u,us,rfl,Me hr hl hd hx.1 h1,ih hx.2 us h2⟩
 | _=>simp [flatQ] at hx
theorem flatS_mem:∀ {R:List AB} {y:AB},flatS R=true->y∈R->∃ t sz es,y = .row t sz es/\es.flatten.all flatY=true
 | .row t sz es::r,y,h,hy=>by
  rw [flatS,Ae] at h;rcases AX.1 hy with rfl | hy
  ·exact⟨t,sz,es,rfl,h.1⟩
  ·exact flatS_mem h.2 hy
theorem ACalls.fnO {P:Program} {q:Bool} {f:FuncId} {args:List AV} {K:AV->List AB->Prop} (h:ACalls P q f args [] K) (hK:∀ r R,K r R->∀ y∈R,∃ t sz es,y = .row t sz es):FnO P f args K:=by
 refine⟨h.go,fun c0 us hg hd hM hr=>?_⟩;let ce:Ctx:={ c0 with base:=0 };have hce:Ext c0 ce:=⟨rfl,rfl,rfl,Ag _,fun _ _ h=>⟨h,rfl⟩,Ag _,fun _ _=>Ag _,fun _ _ _=>rfl,fun _ _ _ h=>h⟩;have hHS:HS (Fl.all c0.w hg) c0.M ce []:=⟨zb _ hg,rfl,hd,fun _ _=>Iff.rfl,hM,by simp,by simp,by simp⟩;refine(h.calls (Fl.all c0.w hg) c0.M ce us hHS (RdL.ext _ hce hr)).mono ?_;rintro e w' ⟨v,c',r,H',rfl,q1,q2,q3,q4,q5, -⟩;exact⟨v,r,c',H',rfl,q2,q1,q3,q5,hK r H' q2⟩
theorem FnO.lendC {P:Program} {f:FuncId} {args args':List AV} {H:List AB} {K:AV->List AB->Prop} {q:Bool} {k:AV->List AB->Prop} (h:FnO P f args' K) (hs:sealA args H fun a _=>a=args') (hk:∀ r R,K r R->∃ R',ConvH R R'/\(flatQ r=true/\flatS R'=true)/\appK H R' 0 fun d H=>CY (r.shift d) fun r=>k r H):ACalls P q f args H k:=by
 refine⟨h.go,fun w0 M0 c us hs0 hr=>?_⟩;obtain⟨l',H',c',rfl,h2,h3,h4,h5,_⟩:=sealA_sound hs0 hr hs;have hglob:globOk c'.closed.w:=h3.glob;have hc:=h.calls c'.closed us hglob rfl h3.lt h5;have ew:c'.closed.w=c.w:=h2
 suffices hh:Calls P f us.toArray c'.closed.w fun e w'=>∃ v c1 r H1,e = .returned v/\c1.w=w'/\k r H1/\HS w0 M0 c1 H1/\Ext c c1/\Rd r c1 v/\(q=true->Old c.w w') by
  rw [ew] at hh;exact hh
 refine hc.mono ?_;rintro e w' ⟨v,r,c1,R1,rfl,q1,rfl,q21,q31, -⟩;obtain⟨R,hconv,⟨f1,f2⟩,hkk⟩:=hk r R1 q1;obtain⟨c2,ew2,q2,x2⟩:=hconv _ _ _ q21;have q3:Rd r c2 v:=Rd.ext _ x2 q31;have q4:∀ y∈R,∃ t sz es,y = .row t sz es:=fun y hy=>by
  obtain⟨t,sz,es,e, -⟩:=flatS_mem f2 hy;exact⟨t,sz,es,e⟩
 -- the same memory;what the caller holds is not read
 obtain⟨c3,e3⟩:∃ c3:Ctx,c3={ c2 with M:=fun b=>c2.M b\/c.M b }:=⟨_,rfl⟩;have hsub:∀ b,b<c.w.heap.size->c'.M b->c.M b:=fun b hb hm=>by
  by_cases hx:c.M b
  ·exact hx
  ·exact absurd hm (h4.keep b hb hx).1
 have hlow:=q2.low;have q2':HS (Fl.all c.w hs0.glob) c.M c3 R:=by
  subst e3;refine⟨⟨?_,?_,?_,?_,?_⟩,q2.base,q2.dom,fun b hb=>?_,fun b hb=>?_,fun i y hi=>?_,fun i y g hi hl ho=>?_,q2.dis⟩
  ·have:=hlow.os;rw [show (Fl.all c'.closed.w hglob).w=c.w from ew] at this;exact this
  ·have:=hlow.tape;rw [show (Fl.all c'.closed.w hglob).w=c.w from ew] at this;exact this
  ·have:=hlow.output;rw [show (Fl.all c'.closed.w hglob).w=c.w from ew] at this;exact this
  ·have:=hlow.size;rw [show (Fl.all c'.closed.w hglob).w=c.w from ew] at this;exact this
  ·intro b hb;have:=hlow.block b (by show b<c'.closed.w.heap.size;rw [ew];exact hb);rw [show (Fl.all c'.closed.w hglob).w=c.w from ew] at this;exact this
  ·have hb':b<c.w.heap.size:=hb;have:=q2.foreign b (by show b<c'.closed.w.heap.size;rw [ew];exact hb');exact⟨fun hx=>hx.elim (fun hx=>hsub b hb' (this.1 hx)) (fun hx=>hx),fun hx=> .inr hx⟩
  ·have hsz:c.w.heap.size<=c2.w.heap.size:=by
    have:=hlow.size;rw [show (Fl.all c'.closed.w hglob).w=c.w from ew] at this;exact this
   rcases hb with hb | hb
   ·exact q2.lt b hb
   ·exact As (hs0.lt b hb) hsz
  ·obtain⟨t,sz,es,rfl,hfl⟩:=flatS_mem f2 (List.mem_of_getElem? hi);obtain⟨a1,a2,a3,xs,a4,a5,a6⟩:=q2.blk i _ hi;exact⟨a1,a2,a3,xs,a4,PS hfl a5,a6⟩
  ·have:=q2.own i y g hi hl ho;refine⟨.inl this.1,fun hx=>this.2 ?_⟩;show g<c'.closed.w.heap.size;rw [ew];exact hx
 have q3':Rd r c3 v:=VJ (by rw [e3]) (by rw [e3]) (by rw [e3]) f1 q3;have q5:c3.w=c2.w:=by rw [e3]
 obtain⟨p1,p2⟩:=hs0.beside (c':=c3) q2' q4;have h1:=BE (appK_iff hkk);rw [Av,<-hs0.dom] at h1;exact⟨v,c.beside c3,_,_,rfl,by show c3.w=_;rw [q5,ew2],h1,p1,p2,Rd.shift r q3',fun _=>by have:=q2'.low.below.old;rw [q5,ew2] at this;exact this⟩
theorem SubL.tops:∀ (l:List AV),SubL l (List.replicate l.length .top)
 | []=>trivial
 | x::l=>⟨fun _ _ _=>by simp [Rd],SubL.tops l⟩
def Ga (x:Gt) (addr stamp:Int):Option (List UInt8):=match D7 x addr with
 | some s=>if s.stamp=stamp then some s.pay else none
 | none=>none
theorem UJ {x:Gt} {addr stamp:Int} {b:List UInt8} (h:Ga x addr stamp=some b):b.length<=x.bytes.length:=by
 unfold Ga D7 at h;split at h
 ·rename_i s hs;split at hs
  ·obtain rfl:=Option.some.inj hs;split at h
   ·obtain rfl:=Option.some.inj h;simp [Cy];omega
   ·cases h
  ·cases hs
 ·cases h
theorem Fy (b:Bool):∀ (c:Ctx) (v:Value),Rd (.tp [.v (.slice none 0 0), .v (.bool b)]) c v->Rd (.tp [bA [], .v (.bool b)]) c v:=BT ⟨AZ 1 _,ri,tv⟩
theorem Sz (x:Gt) (addr stamp:Int) (hl:x.bytes.length<=100000):Fn Tryz.prog 238 [.ag (Ec x),iv addr,iv stamp] fun r=>r = .tp [bA ((Ga x addr stamp).getD []), .v (.bool (Ga x addr stamp).isSome)]:=by
 have ho:=Li x.bytes hl;by_cases h0:x.err=0;rotate_left 1
 ·have e:Ga x addr stamp=none:=by
   unfold Ga D7;rw [if_neg (fun h=>h0 h.1)]
  rw [e];refine zT Tryz.func238 rfl ?_;conv=>whnf
  rw [show (x.err != 0)=true from bne_iff_ne.2 h0];exact⟨_,Fy false,rfl⟩
 by_cases h1:DR x.bytes=0;rotate_left 1
 ·have e:Ga x addr stamp=none:=by
   unfold Ga D7;rw [if_neg (fun h=>h1 h.2.1)]
  rw [e];rw [if_neg h1] at ho;refine zT Tryz.func238 rfl ?_;conv=>whnf
  rw [show (x.err != 0)=false from bne_eq_false_iff_eq.2 h0];conv=>whnf
  refine zY ho ?_;conv=>whnf
  rw [show (DR x.bytes != 0)=true from bne_iff_ne.2 h1];exact⟨_,Fy false,rfl⟩
 rw [if_pos h1,h1] at ho;by_cases h2:B_ x.bytes=addr;rotate_left 1
 ·have e:Ga x addr stamp=none:=by
   unfold Ga D7;rw [if_neg (fun h=>h2 h.2.2)]
  rw [e];refine zT Tryz.func238 rfl ?_;conv=>whnf
  rw [show (x.err != 0)=false from bne_eq_false_iff_eq.2 h0];conv=>whnf
  refine zY ho ?_;conv=>whnf
  rw [show ((⟨B_ x.bytes,Ct x.bytes,Cy x.bytes⟩:Sec).addr != addr)=true from bne_iff_ne.2 h2];exact⟨_,Fy false,rfl⟩
 have es:D7 x addr=some ⟨B_ x.bytes,Ct x.bytes,Cy x.bytes⟩:=by unfold D7;rw [if_pos ⟨h0,h1,h2⟩]
 by_cases h3:Ct x.bytes=stamp
 ·have e:Ga x addr stamp=some (Cy x.bytes):=by unfold Ga;rw [es];simp only;rw [if_pos h3]
  rw [e];refine zT Tryz.func238 rfl ?_;conv=>whnf
  rw [show (x.err != 0)=false from bne_eq_false_iff_eq.2 h0];conv=>whnf
  refine zY ho ?_;conv=>whnf
  rw [show ((⟨B_ x.bytes,Ct x.bytes,Cy x.bytes⟩:Sec).addr != addr)=false from bne_eq_false_iff_eq.2 h2];conv=>whnf
  rw [show ((⟨B_ x.bytes,Ct x.bytes,Cy x.bytes⟩:Sec).stamp != stamp)=false from bne_eq_false_iff_eq.2 h3];exact⟨_,ri,rfl⟩
 ·have e:Ga x addr stamp=none:=by unfold Ga;rw [es];simp only;rw [if_neg h3]
  rw [e];refine zT Tryz.func238 rfl ?_;conv=>whnf
  rw [show (x.err != 0)=false from bne_eq_false_iff_eq.2 h0];conv=>whnf
  refine zY ho ?_;conv=>whnf
  rw [show ((⟨B_ x.bytes,Ct x.bytes,Cy x.bytes⟩:Sec).addr != addr)=false from bne_eq_false_iff_eq.2 h2];conv=>whnf
  rw [show ((⟨B_ x.bytes,Ct x.bytes,Cy x.bytes⟩:Sec).stamp != stamp)=true from bne_iff_ne.2 h3];exact⟨_,Fy false,rfl⟩
theorem R6 (x:Gt) (addr:Int) (e:Ent):DI x addr e=match Ga x addr e.stamp with
  | some b=>if b.length=8/\((DH b:Nat):Int)=e.sum then some b else none
  | none=>none:=by
 unfold DI Ga;cases D7 x addr with
 | none=>rfl
 | some s=>
  simp only;by_cases h:s.stamp=e.stamp
  ·rw [if_pos h];simp only;by_cases h2:s.pay.length=8/\((DH s.pay:Nat):Int)=e.sum
   ·rw [if_pos h2,if_pos ⟨h,h2⟩]
   ·rw [if_neg h2,if_neg (fun q=>h2 q.2)]
  ·rw [if_neg h,if_neg (fun q=>h q.1)]
theorem N7 (x:Gt) (addr:Int) (e:Ent) (hl:x.bytes.length<=100000):Fn Tryz.prog 166 [.ag (Ec x),iv addr, .ag (Dp e)] fun r=>r = .tp [bA ((DI x addr e).getD []), .v (.bool (DI x addr e).isSome)]:=by
 have hp:=Sz x addr e.stamp hl;rw [R6];cases hq:Ga x addr e.stamp with
 | none=>
  rw [hq] at hp;refine zT Tryz.func166 rfl ?_;conv=>whnf
  refine zY hp ?_;conv=>whnf
  apply zX (0) tys_ok mixed (.o [0,1,2,3,4,5,6,7,8,10,11,9,12,13] .fin) (by kernel_rfl);conv=>whnf
  (skip)
  exact⟨_,Fy false,rfl⟩
 | some b=>
  rw [hq] at hp;replace hp:Fn Tryz.prog 238 [.ag (Ec x),iv addr,iv e.stamp] fun r=>r = .tp [bA b, .v (.bool true)]:=hp
  have hs:=Ja b;simp only;by_cases h8:b.length=8;rotate_left 1
  ·rw [if_neg (fun h=>h8 h.1)];refine zT Tryz.func166 rfl ?_;conv=>whnf
   refine zY hp ?_;conv=>whnf
   apply zX (0) tys_ok mixed (.o [0,1,2,3,4,5,6,7,8,10,11,9,12,13] .fin) (by kernel_rfl);conv=>whnf
   (rw [show ((b.length:Int) != 8)=true from bne_iff_ne.2 (by omega)])
   conv=>whnf
   all_goals
    exact⟨_,Fy false,rfl⟩
  by_cases hE:((DH b:Nat):Int)=e.sum
  ·rw [if_pos ⟨h8,hE⟩];refine zT Tryz.func166 rfl ?_;conv=>whnf
   refine zY hp ?_;conv=>whnf
   apply zX (0) tys_ok mixed (.o [0,1,2,3,4,5,6,7,8,10,11,9,12,13] .fin) (by kernel_rfl);conv=>whnf
   (rw [show ((b.length:Int) != 8)=false from bne_eq_false_iff_eq.2 (by omega)];(conv=>whnf);refine zY hs ?_)
   conv=>whnf
   all_goals
    rw [show (((DH b:Nat):Int) != e.sum)=false from bne_eq_false_iff_eq.2 hE];exact⟨_,ri,rfl⟩
  ·rw [if_neg (fun h=>hE h.2)];refine zT Tryz.func166 rfl ?_;conv=>whnf
   refine zY hp ?_;conv=>whnf
   apply zX (0) tys_ok mixed (.o [0,1,2,3,4,5,6,7,8,10,11,9,12,13] .fin) (by kernel_rfl);conv=>whnf
   (rw [show ((b.length:Int) != 8)=false from bne_eq_false_iff_eq.2 (by omega)];(conv=>whnf);refine zY hs ?_)
   conv=>whnf
   all_goals
    rw [show (((DH b:Nat):Int) != e.sum)=true from bne_iff_ne.2 hE];exact⟨_,Fy false,rfl⟩
theorem Lf (g:Geo) (x:Gt) (addr root:Int):Cw g x addr root=match Ga x addr root with
  | some b=>CU g b
  | none=>none:=by
 unfold Cw Ga;cases D7 x addr with
 | none=>rfl
 | some s=>
  simp only;by_cases h:s.stamp=root
  ·rw [if_pos h,if_pos h]
  ·rw [if_neg h,if_neg h]
theorem Q8 {g:Geo} {b:List UInt8} (hg:Bt g=true):(D5 g b=0↔(CU g b).isSome=true):=by
 unfold D5;rw [hg,if_neg (by decide)];split <;> simp_all
theorem N5 (g:Geo) (x:Gt) (addr root:Int) (hg:Bt g=true) (hl:x.bytes.length<=100000):Fn Tryz.prog 163 [.ag (Bh g), .ag (Ec x),iv addr,iv root] fun r=>r = .tp [.ag [BX ((Cw g x addr root).getD [])], .v (.bool (Cw g x addr root).isSome)]:=by
 have hp:=Sz x addr root hl;have hG:Fn Tryz.prog 118 [.ag (Bh g)] fun r=>r = .v (Eg (Bt g)):=Ci g.z g.d g.sp g.sl g.an
 rw [hg] at hG;rw [Lf];cases hq:Ga x addr root with
 | none=>
  rw [hq] at hp;refine zT Tryz.func163 rfl ?_;conv=>whnf
  refine zY hp ?_;exact⟨_,BT (m:= [.ag [BX []], .v (.bool false)]) ⟨AW ⟨AZ 3 _,tv⟩,ri,tv⟩,rfl⟩
 | some b=>
  rw [hq] at hp;replace hp:Fn Tryz.prog 238 [.ag (Ec x),iv addr,iv root] fun r=>r = .tp [bA b, .v (.bool true)]:=hp
  have hbl:=UJ hq;have hr:=IZ g b (by omega);rw [hg,if_pos rfl] at hr;have hz:=Q8 (b:=b) hg;simp only;refine zT Tryz.func163 rfl ?_;conv=>whnf
  refine zY hp ?_;conv=>whnf
  refine zY hG ?_;conv=>whnf
  refine zY hr ?_;conv=>whnf
  cases hR:CU g b with
  | none=>
   rw [hR] at hz;rw [show (D5 g b == 0)=false from beq_eq_false_iff_ne.2 fun e=>by have:=hz.1 e;cases this];exact⟨_,ri,rfl⟩
  | some t=>
   rw [hR] at hz;rw [show (D5 g b == 0)=true from beq_iff_eq.2 (hz.2 rfl)];exact⟨_,ri,rfl⟩
theorem Nk (l:List Tx) (z w:Int) (hl:l.length<=1000000) (hi:∀ t∈l,t.images.length<=1000000/\∀ x∈t.images,x.bytes.length<=1000000000):Fn Tryz.prog 90 [Dt l,iv z,iv w] fun r=>r=(match CI l z w with | some p=> .tp [bA p.1.bytes,iv p.2, .v (.bool true)] | none=> .tp [bA [],iv 0, .v (.bool false)]):=by
 have hf:=L0 l z w hl (fun t ht=>(hi t ht).1);have e:CI l z w=_:=Jy l z w l.length;rw [e];cases hA:FL l z w l.length with
 | none=>
  rw [hA] at hf;refine zT Tryz.func90 rfl ?_;conv=>whnf
  refine zY hf ?_;exact⟨_,BT (m:= [bA [],iv 0, .v (.bool false)]) ⟨AZ 1 _,ri,ri,tv⟩,rfl⟩
 | some p=>
  obtain⟨k,i⟩:=p;rw [hA] at hf;obtain⟨hk,hi2⟩:=H4 hA;simp only at hk hi2;have hm:=hi _ (AC (d:=tz) hk);have hc:=BG ((l.getD k tz).images.getD i iz).bytes (hm.2 _ (AC hi2));replace hf:Fn Tryz.prog 164 [Dt l,iv z,iv w] fun r=>r = .tp [iv (k:Nat),iv (i:Nat), .v (.bool true)]:=hf
  have ixA:(0:Int)<=(k:Nat)/\((k:Nat):Int)<(l.length:Nat):=by omega
  have ixB:(0:Int)<=(i:Nat)/\((i:Nat):Int)<((l.getD k tz).images.length:Nat):=⟨Int.natCast_nonneg _,Int.ofNat_lt.2 hi2⟩;refine zT Tryz.func90 rfl ?_;conv=>whnf
  refine zY hf ?_;conv=>whnf
  apply zH tys_ok mixed (.o [0,1,2,3,4,5,6,7,8,10,11,12,13,14,9,15,16,17] .fin) [6,7,8,22,23,24,25,26,27,28,29,30,31,32,33,34,35,36] (by kernel_rfl)
  ·conv=>whnf
   try (refine Ai (by first | omega | exact ixA | exact ixB | (simp;done)) ?_;conv=>whnf)
   try (refine Ai (by first | omega | exact ixA | exact ixB | (simp;done)) ?_;conv=>whnf)
   try (refine Ai (by first | omega | exact ixA | exact ixB | (simp;done)) ?_;conv=>whnf)
   refine zY hc ?_;exact tA
  exact⟨_,ri,rfl⟩
theorem Pz (a:An) (l:List Tx) (z:Int) (hz:0<=z/\z<a.homes.length) (hl:l.length<=1000000) (hi:∀ t∈l,t.images.length<=1000000):Fn Tryz.prog 161 [.ag (Fi a),Dt l,iv z] fun r=>r = .tp [iv (Dw a l z),iv 0]:=by
 have hf:=L0 l z 255 hl hi;have e:CI l z 255=_:=Jy l z 255 l.length;unfold Dw;rw [e];cases hA:FL l z 255 l.length with
 | none=>
  rw [hA] at hf;refine zT Tryz.func161 rfl ?_;conv=>whnf
  rw [show decide (z<0)=false from decide_eq_false (by omega)];conv=>whnf
  rw [show decide (z>=(a.homes.length:Nat))=false from decide_eq_false (by omega)];conv=>whnf
  refine zY hf ?_;refine⟨⟨by omega,by omega⟩,?_⟩;exact⟨_,ri,rfl⟩
 | some p=>
  obtain⟨k,i⟩:=p;rw [hA] at hf;obtain⟨hk,hi2⟩:=H4 hA;simp only at hk hi2;replace hf:Fn Tryz.prog 164 [Dt l,iv z,iv 255] fun r=>r = .tp [iv (k:Nat),iv (i:Nat), .v (.bool true)]:=hf
  have ixA:(0:Int)<=(k:Nat)/\((k:Nat):Int)<(l.length:Nat):=by omega
  refine zT Tryz.func161 rfl ?_;conv=>whnf
  rw [show decide (z<0)=false from decide_eq_false (by omega)];conv=>whnf
  rw [show decide (z>=(a.homes.length:Nat))=false from decide_eq_false (by omega)];conv=>whnf
  refine zY hf ?_;refine⟨ixA,?_⟩;exact⟨_,ri,rfl⟩
theorem ACalls.lendBox2 {P:Program} {q:Bool} {f:FuncId} {x:AV} {H:List AB} {K:AV->List AB->Prop} (j k:Nat) {t t':TypeId} {sz':Nat} {ar ar2 cs cs2:List AV} {es':List (List AV)} (hj:H[j]? = some (.box t cs)) (hk:H[k]? = some (.row t' sz' es'))
  (he:cs.map (AV.slIn k es'.length (.sl sz' es'.length fun i=>es'.getD i []))=cs2) (ha:ar.map (AV.slIn k es'.length (.sl sz' es'.length fun i=>es'.getD i []))=ar2) (hc:ACalls P q f [x, .ag ar2] ((H.set k .dead).set j (.box t cs2)) K):ACalls P q f [x, .ag ar] H K:=by
 refine⟨hc.go,fun w0 M0 c us hs hr=>?_⟩;subst he;subst ha;have hjk:j≠k:=by rintro rfl;rw [hj] at hk;cases hk
 obtain⟨c1,e1,s1,x1,r1⟩:=hs.freeze hk;have hj1:(H.set k .dead)[j]? = some (.box t cs):=by rw [A3 (Ne.symm hjk)];exact hj
 have h8:∀ (l:List AV) (us:List Value),RdL l c us->RdL (l.map (AV.slIn k es'.length (.sl sz' es'.length fun i=>es'.getD i []))) c1 us:=by
  intro l;induction l with
  | nil=>intro us h;simp only [RdL] at h;subst h;simp [RdL]
  | cons x l ih=>
   intro us h;simp only [RdL] at h;obtain⟨u,vs,rfl,a1,a2⟩:=h;simp only [A6,RdL];refine⟨u,vs,rfl,?_,ih vs a2⟩;unfold AV.slIn;split
   ·rename_i i n;split
    ·rename_i hik;subst hik;split
     ·grind
     ·simp [Rd]
    ·exact Rd.ext _ x1 a1
   ·exact Rd.ext _ x1 a1
 have s2:HS w0 M0 c1 ((H.set k .dead).set j (.box t (cs.map (AV.slIn k es'.length (.sl sz' es'.length fun i=>es'.getD i []))))):=by
  refine s1.recell hj1 rfl ?_;rintro⟨g,xs,h1,h2,_,h4⟩;obtain⟨g0,ys,q1,q2,q3,_⟩:=hs.blk j _ hj;have hg:=x1.box j _ (hs.klt hj) q1;rw [h1] at hg;injection hg with hg
  injection hg with hg
  injection hg with hg
  subst hg;rw [e1,q2] at h2;injection h2 with h2
  have hxy:ys.toArray=xs.toArray:=by injection h2
  have hxy:ys=xs:=by simpa using hxy
  subst hxy;exact⟨g,ys,h1,by rw [e1];exact q2,h8 _ _ q3,h4⟩
 have hr2:RdL [x, .ag (ar.map (AV.slIn k es'.length (.sl sz' es'.length fun i=>es'.getD i [])))] c1 us:=by
  simp only [RdL] at hr;obtain⟨u1,_,rfl,p1,u2,_,rfl,p2,rfl⟩:=hr;simp only [Rd] at p2;obtain⟨zs,rfl,p3⟩:=p2;simp only [RdL];exact⟨u1,_,rfl,Rd.ext _ x1 p1,_,_,rfl,by simp only [Rd];exact⟨zs,rfl,h8 _ _ p3⟩,rfl⟩
 have:=hc.calls w0 M0 c1 us s2 hr2;rw [e1] at this;refine this.mono ?_;rintro e w' ⟨v,c',r,H2,rfl,rfl,q1,q2,q3,q4,q5⟩;exact⟨v,c',r,H2,rfl,rfl,q1,q2,x1.trans q3,q4,q5⟩
theorem Kn {a s:Int} {p:List UInt8} (h:p.length<=96):(CH a s p).length<=200:=by rw [EE];omega
theorem Gw.puts {n:Int} {d:Dk} {F:Int->List UInt8} {W l:List Wr} (h:Gw n d F W) (hl:∀ w∈l,(0<=w.addr/\w.addr<n)/\w.bytes.length<=200) (hn:W.length+l.length<=2000):∀ k:Nat,k<=l.length->(d.writes (l.take k)).2.1=k/\(d.writes (l.take k)).2.2=false/\Gw n (d.writes (l.take k)).1 F (W ++ l.take k)
 | 0,_=>⟨rfl,rfl,by rw [List.take_zero,AE];exact h⟩
 | k+1,hk=>by
  obtain⟨q1,q2,q3⟩:=Gw.puts h hl hn k (by omega);have hx:=KI (d:=d) (l:=l) (k:=k) (by omega) q2;have hm:=hl _ (AC (d:=(⟨0, []⟩:Wr)) (show k<l.length by omega));obtain⟨e0,hw⟩:=q3.write (by rw [Ah,Aq];omega) hm.1.1 hm.1.2 hm.2;rw [hx,e0];refine⟨by simp only [q1];rfl,rfl,?_⟩;have e:l.take (k+1)=l.take k ++ [l.getD k ⟨0, []⟩]:=by
   rw [Bi,Af (by omega),Ab,Af (by omega)];try rfl
  rw [e,<-AA];exact hw
theorem Gd.putAll {n:Int} {d:Dk} {F:Int->List UInt8} {l:List Wr} (h:Gd n d F) (hl:∀ w∈l,(0<=w.addr/\w.addr<n)/\w.bytes.length<=200) (hn:l.length<=2000):(d.writes l).2.1=l.length/\(d.putAll l).2.1=l.length/\(d.putAll l).2.2=false/\Gd n (d.putAll l).1 (MX F l):=by
 obtain⟨q1,q2,q3⟩:=Gw.puts h hl (by simpa using hn) l.length (Ag _);rw [A5] at q1 q2 q3;have e:=FH q2;rw [if_neg (by rw [q3.left];decide)] at e;rw [e];exact⟨q1,q1,rfl,by simpa using q3.flush⟩
theorem Qp {g:Geo} {a:An} (hg:Bt g=true) (ha:B7 g a=true):∀ w∈AT g a,(0<=w.addr/\w.addr<A7 g)/\w.bytes.length<=200:=fun w hw=>by
 obtain⟨g1,g2,g3,g4,g5⟩:=Ay.1 hg;have hcb:=Ei hg;obtain⟨i,hi,rfl⟩:=OD hw;exact⟨⟨by show 0<=((i:Nat):Int);omega,by show ((i:Nat):Int)<A7 g;omega⟩,J3 hg ha _⟩
@[reducible] def rwZ (g:Geo) (s:Stt) (d:Dk):List AB:= [.box 132 (ZN g (.bp 1 0) s 0), .box 133 (K4 (.ow 2 d.cells.length) (.ow 6 d.cache.length) d.reqs d.left), .row 68 3 (d.cells.map Cc), .dead, .dead, .dead, .row 152 2 (d.cache.map FB)]
theorem NQ {k:Nat} {m:Nat} {x:AV} {n:Nat} (h:n=m):AV.slIn k m x (.ow k n)=x:=by
 subst h;simp [AV.slIn]

def Iq (d:Dk) (a:Int) (c:Cel):Dk:={ d with cells:=d.cells.set a.toNat c }
def Dk.fault (d:Dk) (kind a frm bit bits:Int):Dk × Int:=
 if Do a 0 ((d.cells.length:Int) - 1)=false then (d,1) else if 0<d.cache.length then (d,9) else
 let c:=d.cells.getD a.toNat cz
 if kind=11 then (Iq d a { c with state:=if c.state=0 then 1 else c.state },0)
 else if kind=12 then (Iq d a { c with state:=2 },0)
 else if kind=13 then (if bit<0\/bits<0 then (d,1) else (Iq d a { c with bytes:=Ye c.bytes bit bits },0))
 else if kind=14 then (Iq d a { c with bytes:=c.old },0)
 else if kind=15 then (if Do frm 0 ((d.cells.length:Int) - 1)=false then (d,1) else (Iq d a { c with bytes:=(d.cells.getD frm.toNat cz).bytes },0))
 else (d,1)
structure Q4 where
 a:Int
 b:Int
 c:Int
 d:Int
theorem XJ {d:Dk} {a:Int} {c:Cel} (h:DkOk d) (hc:(0<=c.state/\c.state<=2)/\c.bytes.length<=200/\c.old.length<=200):DkOk (Iq d a c):=by
 refine⟨by simpa [Iq] using h.n,h.m,h.r,h.l,fun x hx=>?_,fun w hw=>by simpa [Iq] using h.w w hw⟩;rcases Cf hx with hx | rfl
 ·exact h.c x hx
 ·exact hc
theorem Sr {d:Dk} (h:DkOk d) (i:Nat):(0<=(d.cells.getD i cz).state/\(d.cells.getD i cz).state<=2)/\(d.cells.getD i cz).bytes.length<=200/\(d.cells.getD i cz).old.length<=200:=by
 by_cases hi:i<d.cells.length
 ·exact h.c _ (AC (d:=cz) hi)
 ·rw [Ab,AF (by omega)];exact⟨⟨C6 _,show (0:Int)<=2 by decide⟩,by simp [cz],by simp [cz]⟩
theorem DkOk.fault {d:Dk} (h:DkOk d) (kind a frm bit bits:Int):DkOk (d.fault kind a frm bit bits).1/\(d.fault kind a frm bit bits).1.cells.length=d.cells.length/\(d.fault kind a frm bit bits).1.cache=d.cache/\(d.fault kind a frm bit bits).1.left=d.left/\(d.fault kind a frm bit bits).1.reqs=d.reqs:=by
 have hc:=Sr h a.toNat;have hf:=Sr h frm.toNat;have go:∀ c:Cel,((0<=c.state/\c.state<=2)/\c.bytes.length<=200/\c.old.length<=200)->DkOk (Iq d a c)/\(Iq d a c).cells.length=d.cells.length/\(Iq d a c).cache=d.cache/\(Iq d a c).left=d.left/\(Iq d a c).reqs=d.reqs:=fun c h1=>⟨XJ h h1,by simp [Iq],rfl,rfl,rfl⟩
 have st:DkOk d/\d.cells.length=d.cells.length/\d.cache=d.cache/\d.left=d.left/\d.reqs=d.reqs:=⟨h,rfl,rfl,rfl,rfl⟩;unfold Dk.fault;split
 ·exact st
 ·split
  ·exact st
  ·simp only;split
   ·refine go _ ⟨?_,hc.2⟩;simp only;split
    ·exact⟨by decide,by decide⟩
    ·exact hc.1
   ·split
    ·exact go _ ⟨⟨show (0:Int)<=2 by decide,C6 2⟩,hc.2⟩
    ·split
     ·split
      ·exact st
      ·exact go _ ⟨hc.1,by simp only [O4];exact hc.2.1,hc.2.2⟩
     ·split
      ·exact go _ ⟨hc.1,hc.2.2,hc.2.2⟩
      ·split
       ·split
        ·exact st
        ·exact go _ ⟨hc.1,hf.2.1,hc.2.2⟩
       ·exact st
end
section
open Go.RowKit Go.ChangeShapes Go.WideShapes Go.ChangeAt Go.Deep
section
variable {H:Type} {enc:TypeId × Value->H} {w:World}
end
end
section
open Go.RowKit
structure Q2 where
 a:Int
 b:Int
section
open Go.ChangeShapes Go.WideShapes Go.ChangeAt Go.Deep
variable {H:Type} {enc:TypeId × Value->H} {w:World}
end
structure Md where
 a:An
 l:List Tx
 F:Int->List UInt8
 m:List (List UInt8)
def aJ (g:Geo) (M:Md) (lba:Int) (b:List UInt8) (M':Md):Prop:=
 (Ed M.l+4<=g.sl/\(Fj g (AI M.a M.l) M.F (lba.tdiv g.d)).isSome=true/\∃ W:List Wr,(∀ w∈W,(g.an<=w.addr/\w.addr<g.an+2*g.sl/\B_ w.bytes=w.addr)/\w.bytes.length<=200)/\M'=⟨M.a,M.l ++ [FT g M.a M.l M.F lba b],MX M.F W,M.m.set lba.toNat b⟩)
 \/((g.sl<Ed M.l+4\/Fj g (AI M.a M.l) M.F (lba.tdiv g.d)=none)/\M'=M)
def a7 (g:Geo) (M:Md):Md:=match M.l with
 | []=>M
 | x::r=>⟨OX g M.a x,r,U1 g M.a x M.F,M.m⟩
def K5 (n:Int) (F:Int->List UInt8) (q:Int):List UInt8:=if -n<=q/\q<n then F q else []
structure Vo (g:Geo) (K:Int) (M:Md):Prop where
 an:B7 g M.a=true
 ring:CO g M.l M.a.seq M.a.pos g.sl=true
 gen:M.a.gen<=K
 seq:M.a.seq+M.l.length<=K
 one:∀ t∈M.l,OneTab t.images
 fb:∀ q,(M.F q).length<=200
 m:(M.m.length:Int)=g.z*g.d
theorem Vo.vol {g:Geo} {K:Int} {M:Md} (h:Vo g K M) {d:Dk} (hd:Gd (A7 g) d M.F):Vol g K d (AI M.a M.l):=⟨⟨_,hd⟩,h.an,h.ring,tA,h.gen,h.seq,h.one⟩
theorem Vo.of {g:Geo} {K:Int} {M:Md} {d:Dk} (h:Vol g K d (AI M.a M.l)) (hf:∀ q,(M.F q).length<=200) (hm:(M.m.length:Int)=g.z*g.d):Vo g K M:=⟨h.an,h.ring,h.gen,h.seq,h.one,hf,hm⟩
theorem Q3 {F:Int->List UInt8} {n:Nat} (hF:∀ q,(F q).length<=n) {W:List Wr} (hW:∀ w∈W,w.bytes.length<=n) (q:Int):(MX F W q).length<=n:=by
 induction W generalizing F with
 | nil=>exact hF q
 | cons w W ih=>
  refine ih (F:=Yx F w) (fun q=>?_) fun x hx=>hW x (Be _ hx)
  unfold Yx;split
  ·split
   ·exact hW w List.mem_cons_self
   ·exact hF q
  ·split
   ·exact hF _
   ·exact hF q
theorem U0 {g:Geo} (hg:Bt g=true) {a:An} {x:Tx} (ha:B7 g (OX g a x)=true) {F:Int->List UInt8} (hF:∀ q,(F q).length<=200) (hx:∀ y∈x.images,BW g y=true) (q:Int):(U1 g a x F q).length<=200:=by
 unfold U1;refine Q3 (Q3 hF fun w hw=>?_) (fun w hw=>(Qp hg ha w hw).2) q;obtain⟨y,hy,hw⟩:=LK.1 hw;have:=JS hg (hx y hy);unfold Vz at hw;split at hw
 ·simp only [AX,Dz,or_false] at hw;rcases hw with rfl | rfl <;> exact Kn (by omega)
 ·rw [A4] at hw;rw [hw];exact Kn (by omega)
theorem Vo.ck {g:Geo} (hg:Bt g=true) {K:Int} {M:Md} (h:Vo g K M) (hK:K<=4294967294) {d d':Dk} (hd:Gd (A7 g) d M.F) (hd':Gd (A7 g) d' (a7 g M).F):Vo g (K+1) (a7 g M):=by
 obtain⟨a,l,F,m⟩:=M;cases l with
 | nil=>exact⟨h.an,h.ring,by have q:a.gen<=K:=h.gen;show a.gen<=K+1;omega,by have q:a.seq+(([]:List Tx).length:Int)<=K:=h.seq;show a.seq+(([]:List Tx).length:Int)<=K+1;omega,h.one,h.fb,h.m⟩
 | cons x r=>
  have hv:=h.vol hd;have h2:=hv.home hg (x:=x) (r:=r) rfl hK (d':=d') ⟨_,hd'⟩;have hi:=(Fu h.ring x (List.mem_cons_self)).1;exact Vo.of (d:=d') h2 (U0 hg h2.an h.fb (Au.1 hi)) h.m
theorem Gd.clip {n:Int} {d:Dk} {F:Int->List UInt8} (h:Gd n d F):Gd n d (K5 n F)/\∀ q,(K5 n F q).length<=200:=by
 have hl:=h.len;refine⟨⟨h.ok,h.left,h.len,h.cache,fun q h0 h1=>?_,fun q h0 h1=>?_⟩,fun q=>?_⟩
 ·have:=h.cell q h0 h1;unfold K5;rw [if_pos ⟨by omega,h1⟩];exact this
 ·have:=h.old q h0 h1;unfold K5;rw [if_pos ⟨by omega,by omega⟩];exact this
 ·unfold K5;split
  ·rename_i hq;by_cases h0:0<=q
   ·have hc:=(h.cell q h0 hq.2).2;rw [<-hc];exact(h.ok.c _ (AC (by omega))).2.1
   ·have hc:=h.old (-1 - q) (by omega) (by omega);rw [show -1 - (-1 - q)=q by omega] at hc;rw [<-hc];exact(h.ok.c _ (AC (by omega))).2.2
  ·simp
structure Gc (n:Int) (d:Dk) (F:Int->List UInt8) (l:List Wr):Prop where
 ok:DkOk d
 len:(d.cells.length:Int)=n
 cache:d.cache=l
 cell:∀ a:Int,0<=a->a<n->(d.cells.getD a.toNat cz).state=0/\(d.cells.getD a.toNat cz).bytes=F a
theorem Gw.gc {n:Int} {d:Dk} {F:Int->List UInt8} {l:List Wr} (h:Gw n d F l):Gc n d F l:=⟨h.ok,h.len,h.cache,h.cell⟩
theorem Gc.write {n:Int} {d:Dk} {F:Int->List UInt8} {l:List Wr} (h:Gc n d F l) (hl:l.length<2000) {a:Int} (h0:0<=a) (h1:a<n) {b:List UInt8} (hb:b.length<=200):(d.left=0/\d.write a b=(d,8))\/(d.left≠0/\(d.write a b).2=0/\Gc n (d.write a b).1 F (l ++ [⟨a,b⟩])):=by
 by_cases hz:d.left=0
 ·exact .inl ⟨hz,by unfold Dk.write;rw [if_pos hz]⟩
 ·have hw:=h.ok.write (a:=a) (b:=b) (by rw [<-h.len] at h1;omega) hb;have e:d.write a b=({ d.req with cache:=d.cache ++ [⟨a,b⟩] },0):=by
   unfold Dk.write;rw [if_neg hz,if_neg];rintro(h2 | h2)
   ·have:=(h.cell a h0 h1).1;unfold cz at this;omega
   ·rw [h.cache] at h2;omega
  rw [e] at hw |-
  exact .inr ⟨hz,rfl,hw,h.len,by rw [h.cache],h.cell⟩
theorem Gc.puts {n:Int} {d:Dk} {F:Int->List UInt8} {W l:List Wr} (h:Gc n d F W) (hl:∀ w∈l,(0<=w.addr/\w.addr<n)/\w.bytes.length<=200) (hn:W.length+l.length<=2000):∀ k:Nat,k<=l.length->(d.writes (l.take k)).2.2=false->(d.writes (l.take k)).2.1=k/\Gc n (d.writes (l.take k)).1 F (W ++ l.take k)
 | 0,_,_=>⟨rfl,by rw [List.take_zero,AE];exact h⟩
 | k+1,hk,hv=>by
  have hx0:=FA d (l:=l) (k:=k) (by omega);have hv0:(d.writes (l.take k)).2.2=false:=by
   cases hc:(d.writes (l.take k)).2.2 with
   | false=>rfl
   | true=>
    rw [hx0] at hv;unfold Fd at hv;rw [hc] at hv;simp only [if_true] at hv;rw [hc] at hv;cases hv
  obtain⟨q1,q3⟩:=Gc.puts h hl hn k (by omega) hv0;have hx:=KI (d:=d) (l:=l) (k:=k) (by omega) hv0;have hm:=hl _ (AC (d:=(⟨0, []⟩:Wr)) (show k<l.length by omega));rcases q3.write (by rw [Ah,Aq];omega) hm.1.1 hm.1.2 hm.2 with ⟨-,e8⟩ | ⟨-,e0,hw⟩
  ·rw [hx,e8] at hv;cases hv
  ·rw [hx,e0];have e:l.take (k+1)=l.take k ++ [l.getD k ⟨0, []⟩]:=by
    rw [Bi,Af (by omega),Ab,Af (by omega)];try rfl
   refine⟨by simp only [q1];rfl,?_⟩;rw [e,<-AA];exact hw
theorem Gc.flush {n:Int} {d:Dk} {F:Int->List UInt8} {l:List Wr} (h:Gc n d F l):Gc n d.flush (MX F l) []:=by
 have e:d.flush=⟨C7 d.cells l, [],d.req.reqs,d.req.left⟩:=by
  unfold Dk.flush;rw [allFin_cells,h.cache];try rfl
 have ho:=h.ok.flush;rw [e] at ho |-
 refine⟨ho,by show ((C7 d.cells l).length:Int)=n;rw [finL_len];exact h.len,rfl,fun a h0 h1=>?_⟩;have hl:=h.len;refine O8 h0 (by omega) (h.cell a h0 h1) _ l rfl fun w hw=>?_
 rw [<-h.cache] at hw;exact(h.ok.w w hw).1.1
theorem Gc.putAll {n:Int} {d:Dk} {F:Int->List UInt8} {l:List Wr} (h:Gc n d F []) (hl:∀ w∈l,(0<=w.addr/\w.addr<n)/\w.bytes.length<=200) (hn:l.length<=2000) (hv:(d.putAll l).2.2=false):(d.putAll l).2.1=l.length/\Gc n (d.putAll l).1 (MX F l) []:=by
 cases hw:(d.writes l).2.2 with
 | true=>rw [Hp hw] at hv;cases hv
 | false=>
  have hp:=Gc.puts h hl (by simpa using hn) l.length (Ag _);rw [A5] at hp;obtain⟨q1,q2⟩:=hp hw;have e:=FH hw;by_cases h0:(d.writes l).1.left=0
  ·rw [if_pos h0] at e;rw [e] at hv;cases hv
  ·rw [if_neg h0] at e;rw [e];exact⟨q1,by simpa using q2.flush⟩

theorem Nf (g:Geo) (w:Int) (hw : -1<=w/\w<g.d):Fn Tryz.prog 242 [.ag (Bh g),iv w] fun r=>r = .tp [iv (Ex g w), .v (.bool true)]:=by
 unfold Ex;by_cases h:w = -1
 ·rw [if_pos h];refine zT Tryz.func242 rfl ?_;conv=>whnf
  rw [show (w == -1)=true by simpa using h];exact⟨_,ri,rfl⟩
 ·rw [if_neg h];refine zT Tryz.func242 rfl ?_;conv=>whnf
  rw [show (w == -1)=false by simpa using h];refine zx tys_ok mixed [0,1,2,3,4,5,6,7,8,9,10] (by kernel_rfl) ?_;conv=>whnf
  rw [show decide (w>=0)=true from decide_eq_true (by omega)];conv=>whnf
  rw [show decide (w<g.d)=true from decide_eq_true (by omega)];exact⟨_,ri,rfl⟩
theorem Mx {g:Geo} {a:An} (hg:Bt g=true) (ha:B7 g a=true):a.label.size<=1000000/\a.homes.length<=1000/\∀ h∈a.homes,h.places.length<=1000000:=by
 have:=DF hg ha 0 (Aj _);exact⟨by have:=this.2.2.2.1;omega,by have:=this.2.1;omega,fun h hh=>K7 hg ha h hh⟩
theorem Tk (g:Geo) (a:An) (z w:Int) (hg:Bt g=true) (ha:B7 g a=true) (hz:0<=z/\z<g.z) (hw : -1<=w/\w<g.d):Fn Tryz.prog 241 [.ag (Bh g), .ag (Fi a),iv z,iv w] fun r=>r = iv 0:=by
 obtain⟨s1,s2, -⟩:=Mx hg ha;have c1:=Gl g a s1 (by omega);rw [hg,ha] at c1;have c2:=Nf g w hw;refine zT Tryz.func241 rfl ?_;conv=>whnf
 refine zY c1 ?_;conv=>whnf
 refine zY c2 ?_;conv=>whnf
 rw [show decide (z<0)=false from decide_eq_false (by omega)];conv=>whnf
 rw [show decide (z>=g.z)=false from decide_eq_false (by omega)];exact⟨_,ri,rfl⟩
theorem Pw (g:Geo) (a:An) (z w:Int) (hg:Bt g=true) (ha:B7 g a=true) (hz:0<=z/\z<g.z) (hw : -1<=w/\w<g.d):Fn Tryz.prog 165 [.ag (Bh g), .ag (Fi a),iv z,iv w] fun r=>r = .tp [iv (D3 g a z w),iv 0]:=by
 obtain⟨g1,g2,g3,g4,g5⟩:=Ay.1 hg;obtain⟨hi,hh⟩:=Sm ha hz;simp only [EJ,Ae,decide_eq_true_eq,AJ] at hh;obtain⟨p1,p2,p3,p4⟩:=hh;have hat:0<=Ex g w/\Ex g w<=g.d:=by unfold Ex;split <;> omega
 have hk:(Ex g w).toNat<(a.homes.getD z.toNat ⟨[],0,0⟩).places.length:=by omega
 have hp:=Au.1 p4 (Ex g w).toNat (by simpa using hk);simp only [Ae,AJ] at hp;have c1:=Tk g a z w hg ha hz hw;have c2:=Nf g w hw;have c3:=PJ g z ((a.homes.getD z.toNat ⟨[],0,0⟩).places.getD (Ex g w).toNat 0) hg hz (by unfold CK;omega);refine zT Tryz.func165 rfl ?_;conv=>whnf
 refine zY c1 ?_;conv=>whnf
 refine zY c2 ?_;conv=>whnf
 apply zH tys_ok mixed (.o [0,1,2,3,4,5,6,7,8,9,10,11,12,13,14,15] .fin) [8,9,27,28,29,30,31,32,33,34,35,36,37,38,39,40] (by kernel_rfl)
 ·conv=>whnf
  try (refine Ai (by first | omega | exact ixA | exact ixB | (simp;done)) ?_;conv=>whnf)
  try (refine Ai (by first | omega | exact ixA | exact ixB | (simp;done)) ?_;conv=>whnf)
  refine zY c3 ?_;exact tA
 exact⟨_,ri,rfl⟩
@[reducible] def txZ:List AV:= [iv 0,iv 0,iv 0, .v (.slice none 0 0)]
theorem If (g:Geo) (lba:Int) (hg:Bt g=true) (h:0<=lba/\lba<g.z*g.d):Fn Tryz.prog 88 [.ag (Bh g),iv lba] fun r=>r = .tp [iv (lba.tdiv g.d),iv (lba.tmod g.d),iv 0]:=by
 obtain⟨h1,h2,h3,h4,h5⟩:=Ay.1 hg;have hG:Fn Tryz.prog 118 [.ag (Bh g)] fun r=>r = .v (Eg (Bt g)):=Ci g.z g.d g.sp g.sl g.an
 rw [hg] at hG;have hp:g.z*g.d<=16:=Int.le_trans (Bl h1.2 (by omega)) (by omega);have hw:IntKind.i64.wrap (IntKind.i64.wrap (g.z*g.d) - 1)=g.z*g.d - 1:=by rw [wi (n:=g.z*g.d) (by omega),wi (by omega)]
 have hn:=GA lba 0 (IntKind.i64.wrap (IntKind.i64.wrap (g.z*g.d) - 1));rw [show Do lba 0 (IntKind.i64.wrap (IntKind.i64.wrap (g.z*g.d) - 1))=true from AJ.2 (by rw [hw];omega)] at hn;have hq:lba.tdiv g.d=lba / g.d:=Bw h.1;have hq2:0<=lba / g.d/\lba / g.d<=lba:=⟨Dh h.1 (by omega),Int.ediv_le_self _ h.1⟩;refine zT Tryz.func88 rfl ?_;conv=>whnf
 refine zY hG ?_;conv=>whnf
 refine zY hn ?_;conv=>whnf
 have hd0:g.d≠0:=by omega
 refine zx tys_ok mixed [0,1,2,3,4,5,6,7,8,9,10] (by kernel_rfl) ?_;refine⟨hd0,?_⟩;refine⟨hd0,?_⟩;exact⟨_,ri,by rw [wi (n:=lba.tdiv g.d) (by omega)]⟩
theorem NA (g:Geo) (w:Int):Fn Tryz.prog 167 [.ag (Bh g),iv w] fun r=>r = iv (Ex g w):=by
 unfold Ex;by_cases h:w = -1
 ·rw [if_pos h];refine zT Tryz.func167 rfl ?_;conv=>whnf
  rw [show (w == -1)=true by simpa using h];exact⟨_,ri,rfl⟩
 ·rw [if_neg h];refine zT Tryz.func167 rfl ?_;conv=>whnf
  rw [show (w == -1)=false by simpa using h];exact⟨_,ri,rfl⟩
theorem Sq (g:Geo) (s:Stt) (d:Dk) (F:Int->List UInt8) (a:Int) (h:Gd (A7 g) d F) (ha:0<=a/\a<A7 g) :
  ACalls Tryz.prog false 162 [.bp 0 0,iv a] (GF g s d) fun r H=>r = .ag (Ec ⟨0,F a⟩)/\∃ d',Gd (A7 g) d' F/\H=GF g s d':=by
 have hr:=Ow g s d a h.ok (by rw [h.len];exact ha);rw [h.read ha.1 ha.2] at hr;exact hr.mono fun r H hh=>⟨hh.1,d.req,h.req,hh.2⟩
theorem XE (g:Geo) (s:Stt) (d:Dk) (F:Int->List UInt8) (z:Int) (hg:Bt g=true) (hl:LogB s.txns) (ha:B7 g s.a=true) (h:Gd (A7 g) d F) (hF:∀ a,(F a).length<=100000) (hz:0<=z/\z<g.z) (hB:∀ p,CI s.txns z 255=some p->p.1.bytes.length<=100000) (t:List Ent) (ht:Fj g s F z=some t) :
    ACalls Tryz.prog false 89 [.bp 0 0,iv z] (GF g s d) fun r H=>r = .tp [.ag [BX t],iv 0]/\∃ d',Gd (A7 g) d' F/\H=GF g s d':=by
  have hf:=Nk s.txns z 255 hl.n hl.i;unfold Fj at ht;cases hL:CI s.txns z 255 with
  | some p=>
    obtain⟨x,q⟩:=p;rw [hL] at hf ht;simp only at hf ht;have hr:=IZ g x.bytes (hB _ hL);rw [hg,if_pos rfl,ht] at hr;refine zV tys_ok Tryz.func89 rfl rfl (Ad rfl) ?_;conv=>whnf
    refine zY hf ?_;conv=>whnf
    refine zY hr ?_;exact⟨.tp [.ag [BX t],iv 0], .tp [.ag [BX t],iv 0],GF g s d,fun _ _ h=>h,zR (s:= [0,1,2,3]) tA,rfl,d,h,rfl⟩
  | none=>
    rw [hL] at hf ht;simp only at hf ht;have hR:=Pz s.a s.txns z (by have:=(Sm ha hz).1;omega) hl.n (fun t ht=>(hl.i t ht).1);refine zV tys_ok Tryz.func89 rfl rfl (Ad rfl) ?_;conv=>whnf
    refine zY hf ?_;conv=>whnf
    apply zH tys_ok mixed (.o [0,1,2,3,4,5,6,7,8,9,10,11,12,13,14,15,16] .fin) [11,12,41,42,43,44,45,46,47,48,49,50,51,52,53,54,55] (by kernel_rfl)
    · conv=>whnf
      refine zY hR ?_;exact tA
    conv=>whnf
    have htab:∀ k:Nat,k<2->g.an+2*g.sl<=Bg g z (k:Nat)/\Bg g z (k:Nat)<A7 g:=fun k hk=>by have:=QB hg hz (k:=(k:Nat)) (by omega);omega
    refine zS (Nat × Dk) (fun x=>([(0, .bp 0 0),(1,iv z),(4, .bp 4 0),(11,iv (Dw s.a s.txns z)),(56,iv (x.1:Nat))],GF g s x.2 ++ ([.box 145 [.v (.slice none 0 0)]]:List AB))) (fun x=>x.1<=2/\Gd (A7 g) x.2 F/\∀ j:Nat,j<x.1->Cw g ⟨0,F (Bg g z (j:Nat))⟩ (Bg g z (j:Nat)) (Dw s.a s.txns z)=none) (fun x=>2 - x.1) (0,d) ⟨Aj _,h,fun j hj=>absurd hj (Ap j)⟩
      (zR (s:= [0,1,2,3,4]) tA) ?_
    rintro⟨k,d1⟩ ⟨hk,hd1,hno⟩;simp only at hk hd1 hno;conv=>whnf
    refine AP (fun h6=>?_) (fun h6=>?_) <;> (repeat rw [Ac] at h6) <;> conv=>whnf
    · have hk2:k<2:=by omega
      have hta:=JW g z (k:Nat) hg hz (by omega);obtain⟨q1,q2⟩:=htab k hk2;have hz2:=Ay.1 hg;have hrd:=Sq g s d1 F (Bg g z (k:Nat)) hd1 (by omega);have hto:=N5 g ⟨0,F (Bg g z (k:Nat))⟩ (Bg g z (k:Nat)) (Dw s.a s.txns z) hg (hF _);repeat' (refine zZ ?_;conv=>whnf)
      refine zY hta ?_;conv=>whnf
      repeat' (refine zZ ?_;conv=>whnf)
      refine ze9 [0,1,2,3] hrd ?_;rintro _ _ ⟨rfl,d2,hd2,rfl⟩;conv=>whnf
      repeat' (refine zZ ?_;conv=>whnf)
      have hGk:∀ u,Cw g ⟨0,F (Bg g z (k:Nat))⟩ (Bg g z (k:Nat)) (Dw s.a s.txns z)=some u->u=t:=fun u hu=>by
        match k,hk2 with
        | 0,_=>
          have hu:Cw g ⟨0,F (Bg g z 0)⟩ (Bg g z 0) (Dw s.a s.txns z)=some u:=hu;rw [hu] at ht;exact Option.some.inj ht
        | 1,_=>
          have h0:Cw g ⟨0,F (Bg g z 0)⟩ (Bg g z 0) (Dw s.a s.txns z)=none:=hno 0 (by decide);have hu:Cw g ⟨0,F (Bg g z 1)⟩ (Bg g z 1) (Dw s.a s.txns z)=some u:=hu;rw [h0] at ht;simp only at ht;exact Option.some.inj (hu.symm.trans ht)
      apply zX (0) tys_ok mixed (.o [0,1,2,3,4,5,6] (.two 7 (.o [8,9,10,11,12,13] .fin) 11 (.o [7,8,9,10,12,13] .fin))) (by kernel_rfl);refine Ai ?_ ?_;conv=>whnf
      refine zY hto ?_;conv=>whnf
      try (refine tS ?_;conv=>whnf)
      rotate_left 1;conv=>whnf
      refine zY hto ?_;conv=>whnf
      try (refine tS ?_;conv=>whnf)
      rotate_left 1;all_goals
        cases hT:Cw g ⟨0,F (Bg g z (k:Nat))⟩ (Bg g z (k:Nat)) (Dw s.a s.txns z)
      all_goals
        conv=>whnf
        first
        | exact⟨(k+1,d2),⟨by show k+1<=2;omega,hd2,fun j hj=>by by_cases e:j=k;exact e ▸ hT;exact hno j (by have:j<k+1:=hj;omega)⟩,by show 2 - (k+1)<2 - k;omega,zR (s:= [0,1,2,3,4]) ⟨⟨rfl,rfl,rfl,rfl,AQ (by omega),tv⟩,tA,rfl,rfl,rfl,rfl,rfl⟩⟩
        | (rename_i u
           have e:=hGk _ hT;subst e;exact⟨.tp [.ag [BX u],iv 0], .tp [.ag [BX u],iv 0],GF g s d2,fun _ _ h=>h,zR (s:= [0,1,2,3]) tA,rfl,d2,hd2,rfl⟩)
    · have ek:k=2:=by omega
      subst ek;have h0:Cw g ⟨0,F (Bg g z 0)⟩ (Bg g z 0) (Dw s.a s.txns z)=none:=hno 0 (by decide);have h1:Cw g ⟨0,F (Bg g z 1)⟩ (Bg g z 1) (Dw s.a s.txns z)=none:=hno 1 (by decide);rw [h0] at ht;simp only at ht;rw [h1] at ht;cases ht
end
section
open Go.RowKit Go.Maps
theorem Fn.at {P:Program} {f:FuncId} {args:List AV} {K:AV->Prop} (h:Fn P f args K) {c0:Ctx} (hd:c0.dom=0) (hM:∀ b,c0.M b->b<c0.w.heap.size) (hg:globOk c0.w) {W:World} (hB:Below c0.w.heap.size c0.w W) {us:List Value} (hr:RdL args { c0 with w:=W } us) :
  Calls P f us.toArray W fun e w'=>∃ v r,e = .returned v/\K r/\Below W.heap.size W w'/\Rd r { c0 with w:=w' } v:=
 h.2 { c0 with w:=W } us hd (fun b hb=>As (hM b hb) hB.size) (hg.keep hB.size hB.block) hr
theorem Ng {w w':World} {P:Program} {k:TypeId} {R:Value->Option (DataW Unit × List MemPlace)} {b n:Nat} {D:DataW Unit} (h:w.ownsMap P k R b n D) (hB:Below w.heap.size w w'):w'.ownsMap P k R b n D:=by
 have hl:=h.lt;obtain⟨es,clock,hb,r⟩:=h;exact⟨es,clock,(hB.block b hl).trans hb,r⟩
theorem und_map:Tryz.prog.underlying 319=some (.map 3 4):=by kernel_rfl
theorem und_int:Tryz.prog.underlying 3=some (.int .i64):=by kernel_rfl
theorem und_bool:Tryz.prog.underlying 4=some .bool:=by kernel_rfl
theorem Tb (g:Geo) (A:Int) (hg:Bt g=true) (h:0<=A/\A<g.z*g.d):Fn Tryz.prog 143 [.ag (Bh g),iA [A]] fun r=>r = .tp [iv 4,iv 0]:=by
 refine⟨⟨_,Tryz.func143,rfl,by decide⟩,fun c0 us hd hM hgl hr=>?_⟩;obtain⟨u1,u2,rfl,h1,h2⟩:=Zu hr;have hu1:u1 = .agg #[.int .i64 g.z, .int .i64 g.d, .int .i64 g.sp, .int .i64 g.sl, .int .i64 g.an]:=by
  simp only [Bh,Rd,RdL] at h1;obtain⟨xs,rfl,a1,_,rfl,rfl,a2,_,rfl,rfl,a3,_,rfl,rfl,a4,_,rfl,rfl,a5,_,rfl,rfl,rfl⟩:=h1;rfl
 have hs:=Q9 h2;obtain⟨a,k,rfl⟩:=hs.form;subst hu1;have hC:Fn Tryz.prog 118 [.ag (Bh g)] fun r=>r = .v (Eg (Bt g)):=Ci g.z g.d g.sp g.sl g.an
 rw [hg] at hC;have hS:=If g A hg h;have hX:=PB [] A (by decide);have hkb:k<=maxLen:=hs.cap.2.2;obtain⟨b,o,rfl, -,hx⟩:=Oq hs (k:=0) (show 0<1 by decide);have rg:∀ W,Rd (.ag (Bh g)) { c0 with w:=W } (.agg #[.int .i64 g.z, .int .i64 g.d, .int .i64 g.sp, .int .i64 g.sl, .int .i64 g.an]):=fun W=>by
  simp [Rd,RdL,Bh]
 have cC:∀ W,Below c0.w.heap.size c0.w W->Calls Tryz.prog 118 #[.agg #[.int .i64 g.z, .int .i64 g.d, .int .i64 g.sp, .int .i64 g.sl, .int .i64 g.an]] W fun e w'=>e = .returned (.int .i64 0)/\Below W.heap.size W w':=fun W hB=>(hC.at hd hM hgl hB (us:= [_]) (by simpa [RdL] using rg W)).mono fun e w' ⟨v,r,h1,h2,h3,h4⟩=>by
  subst h2;simp only [Rd] at h4;subst h4;exact⟨h1,h3⟩
 have cS:∀ W,Below c0.w.heap.size c0.w W->Calls Tryz.prog 88 #[.agg #[.int .i64 g.z, .int .i64 g.d, .int .i64 g.sp, .int .i64 g.sl, .int .i64 g.an], .int .i64 A] W fun e w'=>e = .returned (.tuple #[.int .i64 (A.tdiv g.d), .int .i64 (A.tmod g.d), .int .i64 0])/\Below W.heap.size W w':=fun W hB=>(hS.at hd hM hgl hB (us:= [_,_]) (by simpa [RdL,Rd] using rg W)).mono fun e w' ⟨v,r,h1,h2,h3,h4⟩=>by
  subst h2;simp only [Rd,RdL] at h4;obtain⟨xs,rfl,a1,_,rfl,rfl,a2,_,rfl,rfl,a3,_,rfl,rfl,rfl⟩:=h4;exact⟨h1,h3⟩
 have cX:∀ W v,Below c0.w.heap.size c0.w W->Rd (iA []) { c0 with w:=W } v->Calls Tryz.prog 80 #[v, .int .i64 A] W fun e w'=>e = .returned (.bool false)/\Below W.heap.size W w':=fun W v hB hv=>(hX.at hd hM hgl hB (us:= [v,_]) (by simpa [RdL,Rd] using hv)).mono fun e w' ⟨v,r,h1,h2,h3,h4⟩=>by
  subst h2;simp only [Rd] at h4;subst h4;exact⟨h1,h3⟩
 have hmm:=@run_makeMap Tryz.prog;clear hC hS hX hr h2 h1 hs rg
 go_enter Tryz.func143,Tryz.ntmps143
 go_wp2_with fail
 have hB1:Below c0.w.heap.size c0.w (c0.w.alloc (.cells #[.int .i64 g.z, .int .i64 g.d, .int .i64 g.sp, .int .i64 g.sl, .int .i64 g.an] 24)):=(Below.refl _ _).alloc (Ag _) _;((with_reducible refine(cC _ hB1).mono ?_);rintro e w1 ⟨rfl,hBa⟩);have hs1:c0.w.heap.size+1<=w1.heap.size:=by have:=hBa.size;simpa using this
 have hBw:=Lib.hid (hB1.trans (hBa.mono (by simp)));have hbk:=Lib.hid ((hBa.block c0.w.heap.size (by simp)).trans (heap_alloc_new _ _));clear hB1 hBa cC
 go_wp2_with fail
 refine wp_loop_rounds 2 ?_;rw [rounds_succ];have hB2:=Lib.hid (hBw.out.alloc (by omega) (.map #[] 0));have hcell:∀ i,(w1.alloc (.map #[] 0)).cell? ⟨c0.w.heap.size,i,none⟩ = #[Value.int .i64 g.z, .int .i64 g.d, .int .i64 g.sp, .int .i64 g.sl, .int .i64 g.an][i]? :=fun i=>by
  simp only [World.cell?];rw [Below.heap_alloc _ _ _ (by omega),hbk.out];try rfl
 have hx2:(w1.alloc (.map #[] 0)).cell? ⟨b,o,none⟩=some (.int .i64 A):=by
  have q:=World.block_lt_of_cell? c0.w _ hx;exact(hB2.out.cell (by exact q)).trans hx
 have hown:(w1.alloc (.map #[] 0)).ownsMap Tryz.prog 3 (plainElem (H:=Unit) Tryz.prog 4) w1.heap.size 0 (.map []):=World.ownsMap_made _ _ _ _;generalize hW:w1.alloc (.map #[] 0)=W2 at *
 go_wp2_with fail
 ((with_reducible refine(cS _ hB2.out).mono ?_);rintro e w2 ⟨rfl,hBb⟩);have hB3:=Lib.hid (hB2.out.trans (hBb.mono hB2.out.size));have hown2:=Ng hown hBb;have hs2:=hBb.size;have hs3:c0.w.heap.size<W2.heap.size:=by rw [<-hW];simp;omega
 have hcell2:∀ i,w2.cell? ⟨c0.w.heap.size,i,none⟩ = #[Value.int .i64 g.z, .int .i64 g.d, .int .i64 g.sp, .int .i64 g.sl, .int .i64 g.an][i]? :=fun i=>(hBb.cell (p:=⟨c0.w.heap.size,i,none⟩) hs3).trans (hcell i)
 clear hcell hx2 hown cS
 go_wp2_with fail
 ((with_reducible refine(cX _ _ hB3.out ?_).mono ?_))
 ·simp only [iA,Rd];exact⟨_,k,rfl,Aj _,hkb, .inl rfl⟩
 rintro e w3 ⟨rfl,hBc⟩;have hB4:=Lib.hid (hB3.out.trans (hBc.mono hB3.out.size));have hown3:=Ng hown2 hBc;have hs4:=hBc.size;have hZ:(Lit.int .i64 (A.tdiv g.d)).wf=true:=by
  obtain⟨h1,h2,h3,h4,h5⟩:=Ay.1 hg;have hp:g.z*g.d<=16:=Int.le_trans (Bl h1.2 (by omega)) (by omega);have hq:A.tdiv g.d=A / g.d:=Bw h.1;have hq2:0<=A / g.d/\A / g.d<=A:=⟨Dh h.1 (by omega),Int.ediv_le_self _ h.1⟩;have : -9223372036854775808<=A.tdiv g.d/\A.tdiv g.d<=9223372036854775807:=by omega
  simp only [Lit.wf];rw [Ae];exact⟨decide_eq_true this.1,decide_eq_true this.2⟩
 have hkey:keyOf Tryz.prog 3 (.int .i64 (A.tdiv g.d))=some (.int .i64 (A.tdiv g.d)):=keyOf_int_mk und_int hZ;clear hcell2 hown2 cX
 go_wp2_with (first
  | (at_mapUpdate;refine wpList_mapUpdate_own _ rfl _ _ _ 319 rfl 3 4 (int_keyed und_int) und_map (plainElem (H:=Unit) Tryz.prog 4) w1.heap.size 0 _ rfl hown3 (by unfold maxLen;omega) _ _ _ rfl rfl hkey _ [] (plainElem_bool und_bool true) ?_;intro w4 hown4 hgrow4)
  | go_in)
 rw [rounds_succ];have hsz:Maps.size ((DataW.map (H:=Unit) []).put (Lit.int .i64 (A.tdiv g.d)) (.lit (.bool true)))=1:=rfl;have hB5:=Lib.hid (hB4.out.grown hgrow4 (by have:=hB4.out.size;omega) (fun j hj=>by cases hj;omega))
 go_wp2_with (first
  | (at_len;refine wpList_len_own _ rfl _ 319 rfl 3 4 und_map _ w1.heap.size (0+1) _ rfl hown4 ?_)
  | go_in)
 go_ret2
 refine⟨_,_,rfl,rfl,hB5.out,?_⟩;simp only [Rd,RdL];exact⟨_,rfl,_,_,rfl,rfl,_,_,rfl,rfl,rfl⟩
end
section
open Go.RowKit
theorem JN (l:List Tx) (z w:Int) (hl:l.length<=1000000) (hi:∀ t∈l,t.images.length<=1000000/\∀ x∈t.images,x.bytes.length<=1000000000):ACalls Tryz.prog false 90 [.ow 0 l.length,iv z,iv w] [.row 170 4 (l.map Ir)] fun r H=>r=(match CI l z w with | some p=> .tp [bA p.1.bytes,iv p.2, .v (.bool true)] | none=> .tp [bA [],iv 0, .v (.bool false)])/\H=[.row 170 4 (l.map Ir)]:=by
 have hf:=L0 l z w hl (fun t ht=>(hi t ht).1);have e:CI l z w=_:=Jy l z w l.length;rw [e];have tsub:SubL [.sl 4 l.length fun i=>(l.map Ir).getD i [],iv z,iv w] [Dt l,iv z,iv w]:=⟨Cd (f:=Ir) l rfl rfl,ri,ri,tv⟩;cases hA:FL l z w l.length with
 | none=>
  rw [hA] at hf;refine zV tys_ok Tryz.func90 rfl rfl (Ad rfl) ?_;conv=>whnf
  refine zj (args':= [.sl 4 l.length fun i=>(l.map Ir).getD i [],iv z,iv w]) (hf.subA tsub) ⟨(Aa _).symm,rfl⟩ ?_;rintro _ rfl;refine⟨rfl,?_⟩;exact⟨_, .tp [bA [],iv 0, .v (.bool false)], [.row 170 4 (l.map Ir)],BT (m:= [bA [],iv 0, .v (.bool false)]) ⟨AZ 1 _,ri,ri,tv⟩,zR (s:= [0]) tA,rfl,rfl⟩
 | some p=>
  obtain⟨k,i⟩:=p;rw [hA] at hf;obtain⟨hk,hi2⟩:=H4 hA;simp only at hk hi2;have hm:=hi _ (AC (d:=tz) hk);have hc:=BG ((l.getD k tz).images.getD i iz).bytes (hm.2 _ (AC hi2));replace hf:Fn Tryz.prog 164 [Dt l,iv z,iv w] fun r=>r = .tp [iv (k:Nat),iv (i:Nat), .v (.bool true)]:=hf
  have ixA:(0:Int)<=(k:Nat)/\((k:Nat):Int)<(l.length:Nat):=by omega
  have ixB:(0:Int)<=(i:Nat)/\((i:Nat):Int)<((l.getD k tz).images.length:Nat):=⟨Int.natCast_nonneg _,Int.ofNat_lt.2 hi2⟩;have hE:(l.map Ir).getD (k:Int).toNat []=Ir (l.getD k tz):=by rw [Ac];exact AR hk
  refine zV tys_ok Tryz.func90 rfl rfl (Ad rfl) ?_;conv=>whnf
  refine zj (args':= [.sl 4 l.length fun i=>(l.map Ir).getD i [],iv z,iv w]) (hf.subA tsub) ⟨(Aa _).symm,rfl⟩ ?_;rintro _ rfl;refine⟨rfl,?_⟩;conv=>whnf
  apply zX (0) tys_ok mixed (.o [0,1,2,3,4,5,6,7,8,10,11,12,13,14,9,15,16,17] .fin) (by kernel_rfl);conv=>whnf
  try (refine tI ?_;conv=>whnf)
  try (first | (refine Ai ⟨rfl,(Aa _).symm,by rw [Ac];exact hk⟩ ?_;(conv=>whnf);rw [hE]) | skip;conv=>whnf)
  try (refine tI ?_;conv=>whnf)
  try (first | (refine Ai ⟨rfl,(Aa _).symm,by rw [Ac];exact hk⟩ ?_;(conv=>whnf);rw [hE]) | skip;conv=>whnf)
  try (refine tI ?_;conv=>whnf)
  try (first | (refine Ai ⟨rfl,(Aa _).symm,by rw [Ac];exact hk⟩ ?_;(conv=>whnf);rw [hE]) | skip;conv=>whnf)
  refine zY hc ?_;conv=>whnf
  all_goals exact⟨_, .tp [bA ((l.getD k tz).images.getD i iz).bytes, .v (.int .i64 (l.getD k tz).seq), .v (.bool true)], [.row 170 4 (l.map Ir)],fun _ _ h=>h,zR (s:= [0]) tA,rfl,rfl⟩
@[reducible] def aM (s:Stt) (tx lo:AV):List AV:= [iv s.a.gen,iv s.a.epoch,iv s.a.pos,iv s.a.seq,iv s.a.last, .v (.string s.a.label),GS s.a.homes,tx, .v (.bool s.only),iv s.cursor,iv s.found,iv s.fixed,iv s.moved,lo]
@[reducible] def XK (g:Geo) (x tx lo:AV) (s:Stt):List AV:= [iv g.z,iv g.d,iv g.sp,iv g.sl,iv g.an,x,iv s.a.gen,iv s.a.epoch,iv s.a.pos,iv s.a.seq,iv s.a.last, .v (.string s.a.label),GS s.a.homes,tx, .v (.bool s.only),iv s.cursor,iv s.found,iv s.fixed,iv s.moved,lo]
@[reducible] def GO (g:Geo) (s:Stt) (d:Dk):List AB:= [.box 99 (XK g (.bp 1 0) (.ow 4 s.txns.length) (iA s.lost) s), .box 119 (K4 (.ow 2 d.cells.length) (.ow 3 d.cache.length) d.reqs d.left), .row 68 3 (d.cells.map Cc), .row 152 2 (d.cache.map FB), .row 170 4 (s.txns.map Ir)]
@[reducible] def aU (g:Geo) (s:Stt) (d:Dk):List AB:= [.box 24 (Bh g), .box 38 (TV d), .box 34 (aD s), .box 119 (K4 (.ow 4 d.cells.length) (.ow 5 d.cache.length) d.reqs d.left), .row 68 3 (d.cells.map Cc), .row 152 2 (d.cache.map FB), .row 170 4 (s.txns.map Ir)]
@[reducible] def bwN (g:Geo) (s:Stt) (d:Dk):List AB:= [.box 99 (XK g (.bp 1 0) (.v (.slice none 0 0)) (iA s.lost) s), .box 119 (K4 (.ow 2 d.cells.length) (.ow 4 d.cache.length) d.reqs d.left), .row 68 3 (d.cells.map Cc), .dead, .row 152 2 (d.cache.map FB)]
theorem Wb (g:Geo) (d D:Dk) (s:Stt) (hg:Bt g=true) (h:DkOk d) (hn:(d.cells.length:Int)=A7 g) (hm:JO g d=(D,0,s))
  (hsc:∀ a j,F_ g (B8 d (Dl g))=some (a,j)->He g a (B8 (d.adv g.an.toNat) (BJ g 0)) (B8 (d.adv g.an.toNat) (BJ g 1))=([], [],0)/\Fn Tryz.prog 274 [.ag (Bh g), .ag (Fi a),F2 (B8 (d.adv g.an.toNat) (BJ g 0)),F2 (B8 (d.adv g.an.toNat) (BJ g 1))] fun r=>r = .tp [.v (.slice none 0 0), .v (.slice none 0 0),iv 0]) :
  ACalls Tryz.prog false 194 [.bp 0 0] (GF g st0 d) fun r H=>r = iv 0/\H=bwN g s D:=by
 obtain⟨g1,g2,g3,g4,g5⟩:=Ay.1 hg;have hcg:=Ei hg;have ha:=RB g st0 d hg h (by omega);unfold JO at hm;by_cases hl:d.live g.an.toNat;rotate_left 1
 ·rw [if_neg hl] at hm;cases hm
 rw [if_pos hl] at hm;have hp:=WV g (B8 d (Dl g)) hg (by rw [DG,Ew];omega) (PM h _);have hpo:=fun {a j}=>KQ (g:=g) (l:=B8 d (Dl g)) hg (B8 d (Dl g)).length (a:=a) (j:=j)
 have hpo:∀ {a j},F_ g (B8 d (Dl g))=some (a,j)->B7 g a=true:=hpo;have hgl:(B8 d (Dl g)).length=g.an.toNat:=by rw [DG,Ew]
 generalize B8 d (Dl g)=L at ha hp hpo hgl hm hsc;have hd1:=h.adv g.an.toNat;have hs1:=(Fb g.an.toNat d).1;generalize d.adv g.an.toNat=d1 at ha hd1 hs1 hm hsc;cases hP:F_ g L with
 | none=>rw [hP] at hm;cases hm
 | some q=>
  obtain⟨a,j⟩:=q;have hao:=hpo hP;obtain⟨hS,hsc⟩:=hsc a j hP;rw [hP] at hp hm;replace hp:Fn Tryz.prog 272 [.ag (Bh g),F2 L] (fun r=>r = .tp [.ag (Fi a),iv (j:Nat),iv 0]):=hp;have hlg:=XL g st0 d1 hg hd1 (by rw [hs1];exact hn);simp only at hm;unfold Ra at hm;by_cases hl2:d1.live (2*g.sl.toNat);rotate_left 1
  ·rw [if_neg hl2] at hm;cases hm
  rw [if_pos hl2,hS] at hm;have hx1:(B8 d1 (BJ g 0)).length=g.sl.toNat:=by rw [DG,D9]
  have hx2:(B8 d1 (BJ g 1)).length=g.sl.toNat:=by rw [DG,D9]
  have hlast:=QJ (x:=B8 d1 (BJ g 0)) (y:=B8 d1 (BJ g 1)) hg hao (by rw [hS]);rw [hS] at hlast;generalize B8 d1 (BJ g 0)=X1 at hlg hx1 hsc;generalize B8 d1 (BJ g 1)=X2 at hlg hx2 hsc;have hd2:=hd1.adv (2*g.sl.toNat);have hs2:=(Fb (2*g.sl.toNat) d1).1;generalize d1.adv (2*g.sl.toNat)=d2 at hlg hd2 hs2 hm;unfold Q_ at hm;rw [if_neg (by simp)] at hm;have hmd:=U_ g st0 d2 [] hd2 (fun w hw=>by cases hw) (Aj _);have hmd0:d2.mend []=(d2,false):=rfl;simp only at hm;rw [hmd0] at hm hmd;simp only [BV,if_false] at hm hmd;have hpa:=F7 hao;unfold QZ at hm;by_cases hmx:a.gen=4294967295\/a.epoch=4294967295
  ·rw [if_pos hmx] at hm;cases hm
  rw [if_neg hmx] at hm;have hna:=P3 (n:=0) hao (fun e=>hmx (.inl e)) (fun e=>hmx (.inr e)) hlast.2;have hban:=Qm g st0 d2 (DX a 0) hg hna hd2 (My hg hna (by rw [hs2,hs1];exact hn));have b1:(a.gen == 4294967295)=false:=beq_eq_false_iff_ne.2 fun e=>hmx (.inl e)
  have b2:(a.epoch == 4294967295)=false:=beq_eq_false_iff_ne.2 fun e=>hmx (.inr e)
  have w1:IntKind.i64.wrap (a.gen+1)=a.gen+1:=wi (by omega);have w2:IntKind.i64.wrap (a.epoch+1)=a.epoch+1:=wi (by omega);have hlast2:a.last<=a.seq+(0:Nat) - 1/\a.seq+(0:Nat) - 1<=4294967295:=hlast;have w3:IntKind.i64.wrap (IntKind.i64.wrap (a.seq+((0:Nat):Int)) - 1)=a.seq+(0:Nat) - 1:=by
   rw [wi (n:=a.seq+((0:Nat):Int)) (by omega)];exact wi (by omega)
  simp only [AO] at hm;generalize hQ:d2.putAll (AT g (DX a 0))=Q at hban hm;obtain⟨d4,n,dead⟩:=Q;simp only at hm;cases dead with
  | true=>rw [if_pos rfl] at hm;cases hm
  | false=>
   rw [if_neg (by decide)] at hm;simp only [BV,if_false] at hban;by_cases hn0:n=0
   ·rw [if_pos hn0] at hm;cases hm
   rw [if_neg hn0] at hm;cases hm;have hnb:((n:Int) == 0)=false:=beq_eq_false_iff_ne.2 (by omega);refine zV tys_ok Tryz.func194 rfl rfl (Ad rfl) ?_;conv=>whnf
   refine ha.mono ?_;rintro _ _ ⟨h1, -⟩;obtain⟨rfl,rfl⟩:=h1 hl;conv=>whnf
   refine zQ hp.go ?_;refine⟨(by rw [Aa,hgl]),?_⟩;conv=>whnf
   refine zU [.ag (Bh g),F2 L] ⟨ri,Cd (f:=Ec) L hgl.symm rfl,tv⟩ ?_;refine zY hp ?_;conv=>whnf
   refine ze9 [0,1,2,3] hlg ?_;rintro _ _ ⟨h1, -⟩;obtain⟨rfl,rfl⟩:=h1 hl2;conv=>whnf
   apply zX (0) tys_ok mixed (.o [0,1,2,3,4,5,6,7,8,9,10,11,12,13,14] .fin) (by kernel_rfl);conv=>whnf
   (refine zQ hsc.go ?_;(conv=>whnf);refine Ai (by rw [Aa,hx1]) ?_;(conv=>whnf);refine Ai (by rw [Aa,hx2]) ?_;(conv=>whnf);refine zU [.ag (Bh g), .ag (Fi a),F2 X1,F2 X2] ⟨ri,ri,Cd (f:=Ec) X1 hx1.symm rfl,Cd (f:=Ec) X2 hx2.symm rfl,tv⟩ ?_;refine zY hsc ?_)
   conv=>whnf
   conv=>whnf
   refine zU [.bp 0 0,NJ []] ⟨ri,AZ 2 _,tv⟩ ?_;refine ze9 [0,1,2,3] hmd ?_;rintro _ _ ⟨rfl,rfl⟩;conv=>whnf
   rw [b1];conv=>whnf
   rw [b2];conv=>whnf
   rw [w1,w2,w3];refine z_ [0,1,2,8] hban rfl rfl rfl rfl (by decide) (YF rfl rfl) tA ?_;rintro _ _ ⟨rfl,rfl⟩;conv=>whnf
   rw [hnb];refine⟨_,iv 0,bwN g (AI (DX a 0) []) D,ri,zL (zP (zJ (cs':=XK g (.bp 1 0) (.v (.slice none 0 0)) (iA []) (AI (DX a 0) [])) 0 rfl ?_)) (s:= [0,1,2,3,9]) tA,rfl,rfl⟩;exact⟨fun _ _ h=>h,fun _ _ h=>h,fun _ _ h=>h,fun _ _ h=>h,fun _ _ h=>h,fun _ _ h=>h,fun _ _ h=>h,fun _ _ h=>h,fun _ _ h=>h,fun _ _ h=>h,fun _ _ h=>h,fun _ _ h=>h,fun _ _ h=>h,fun _ _ h=>h,fun _ _ h=>h,fun _ _ h=>h,fun _ _ h=>h,fun _ _ h=>h,fun _ _ h=>h,AZ 1 _,tv⟩
theorem Mf (l:List Tx) (x:Tx) (z w:Int):∀ k,k<=l.length->F4 (l ++ [x]) z w k=F4 l z w k
 | 0,_=>rfl
 | k+1,hk=>by
  have e:(l ++ [x]).getD k tz=l.getD k tz:=by
   grind
  rw [F4,F4,e,Mf l x z w k (by omega)]
theorem IL (l:List Tx) (x:Tx) (z w:Int):CI (l ++ [x]) z w=match Dy x.images z w x.images.length with
  | some i=>some (i,x.seq)
  | none=>CI l z w:=by
 unfold CI;rw [Ah,Ao,AO,Av,F4,Mf l x z w _ (Ag _),show (l ++ [x]).getD l.length tz=x by simp];try rfl
theorem Ru (x:Tx) (r:List Tx) (z w:Int):∀ k,F4 (x::r) z w (k+1)=match F4 r z w k with
  | some p=>some p
  | none=>match Dy x.images z w x.images.length with
   | some i=>some (i,x.seq)
   | none=>none
 | 0=>rfl
 | k+1=>by
  rw [F4,Ru x r z w k,F4,show (x::r).getD (k+1) tz=r.getD k tz from rfl]
  grind
theorem Pc {x:Gt} {a s:Int} {p:List UInt8} (he:x.err=0) (hx:x.bytes=CH a s p) (h:XW a s p):D7 x a=some ⟨a,s,p⟩:=by
 obtain⟨h1,h2,h3,h4⟩:=HU h;unfold D7
 grind
theorem Ua {a s:Int} {p:List UInt8} {e:Ent} (h:XW a s p) (h8:p.length=8) (h1:e.stamp=s) (h2:((DH p:Nat):Int)=e.sum):DI ⟨0,CH a s p⟩ a e=some p:=by
 unfold DI;rw [Pc rfl rfl h]
 grind
theorem SS {g:Geo} {a s:Int} {p:List UInt8} (h:XW a s p):Cw g ⟨0,CH a s p⟩ a s=CU g p:=by
 unfold Cw;rw [Pc rfl rfl h]
 grind
def Nv (v:Int->List UInt8):Nat->List UInt8
 | 0=>zero8
 | k+1=>GP (Nv v k) (v (k:Nat))
structure ZoneV (g:Geo) (a:An) (l:List Tx) (F:Int->List UInt8) (z:Int) (t:List Ent) (v:Int->List UInt8):Prop where
 tab:Fj g (AI a l) F z=some t
 len:∀ w, -1<=w->w<g.d->(v w).length=8
 ent:∀ w, -1<=w->w<g.d->(t.getD (Ex g w).toNat ez).lost=false/\((DH (v w):Nat):Int)=(t.getD (Ex g w).toNat ez).sum
 val:∀ w, -1<=w->w<g.d->match CI l z w with
  | some p=>p.1.bytes=v w/\(t.getD (Ex g w).toNat ez).stamp=p.2
  | none=>DI ⟨0,F (D3 g a z w)⟩ (D3 g a z w) (t.getD (Ex g w).toNat ez)=some (v w)
 par:v (-1)=Nv v g.d.toNat
def VolV (g:Geo) (a:An) (l:List Tx) (F:Int->List UInt8) (V:Int->Int->List UInt8):Prop:=∀ z,0<=z->z<g.z->∃ t,ZoneV g a l F z t (V z)
theorem ZoneV.one {g:Geo} {a:An} {l:List Tx} {F:Int->List UInt8} {z:Int} {t:List Ent} {v:Int->List UInt8} (h:ZoneV g a l F z t v) {w:Int} (hw : -1<=w/\w<g.d):G3 g (AI a l) F t z w=v w:=by
 have:=h.val w hw.1 hw.2;unfold G3;show (match CI l z w with | some p=>p.1.bytes | none=>_)=_;cases hf:CI l z w with
 | some p=>rw [hf] at this;exact this.1
 | none=>
  rw [hf] at this;simp only at this |-
  show (DI ⟨0,F (D3 g a z w)⟩ (D3 g a z w) (t.getD (Ex g w).toNat ez)).getD []=_
  grind
theorem XH {n:Int} {F:Int->List UInt8} {q:Int} (h0:0<=q) (h1:q<n):K5 n F q=F q:=if_pos ⟨by omega,h1⟩
theorem fold_zero:∀ k,Nv (fun _=>zero8) k=zero8
 | 0=>rfl
 | k+1=>by rw [Nv,fold_zero k];rfl
theorem Mg (l m:List Img) (z w:Int):∀ k,k<=l.length->Dy (l ++ m) z w k=Dy l z w k
 | 0,_=>rfl
 | k+1,hk=>by
  have e:(l ++ m).getD k iz=l.getD k iz:=by
   grind
  rw [Dy,Dy,e,Mg l m z w k (by omega)]
theorem TN (l m:List Img) (z w:Int):∀ k,k<=m.length->Dy (l ++ m) z w (l.length+k)=match Dy m z w k with
  | some i=>some i
  | none=>Dy l z w l.length
 | 0,_=>Mg l m z w _ (Ag _)
 | k+1,hk=>by
  have e:(l ++ m).getD (l.length+k) iz=m.getD k iz:=by
   grind
  rw [<-Nat.add_assoc,Dy,Dy,e];split
  ·rfl
  ·exact TN l m z w k (by omega)
theorem IM {l:List Img} {z w:Int} (h:∀ x∈l,x.zone≠z):∀ k,k<=l.length->Dy l z w k=none
 | 0,_=>rfl
 | k+1,hk=>by
  rw [Dy,if_neg (fun q=>h _ (AC (by omega)) q.1),IM h k (by omega)]
def V0 (z:Int) (ats:List Int) (bs:List (List UInt8)) (w:Int):Option Img:=(EA ats bs w.toNat ats.length).map fun b=>⟨z,w,b⟩
theorem N2 (z:Int) (ats:List Int) (bs:List (List UInt8)) (m:List Img) {w:Int} (hw:0<=w):∀ k,k<=ats.length->Dy (((List.range ats.length).map fun i=>(⟨z,ats.getD i 0,bs.getD i []⟩:Img)) ++ m) z w k=(EA ats bs w.toNat k).map fun b=>⟨z,w,b⟩
 | 0,_=>rfl
 | k+1,hk=>by
  have e:(((List.range ats.length).map fun i=>(⟨z,ats.getD i 0,bs.getD i []⟩:Img)) ++ m).getD k iz=⟨z,ats.getD k 0,bs.getD k []⟩:=by
   grind
  rw [Dy,e,EA,N2 z ats bs m hw k (by omega)]
  grind
theorem Jw (z:Int) (t:List Ent) (par:List UInt8) (ats:List Int) (bs:List (List UInt8)) (ha:∀ a∈ats,0<=a/\a<255) (w:Int) (hw:w=255\/(-1<=w/\w<255)):Dy (C0 z t par ats bs) z w (C0 z t par ats bs).length=if w=255 then some ⟨z,255,Df t⟩ else if w = -1 then some ⟨z, -1,par⟩ else V0 z ats bs w:=by
 have hl:=H0 z t par ats bs;have e1:(C0 z t par ats bs).getD (ats.length+1) iz=⟨z,255,Df t⟩:=by
  unfold C0
  grind
 have e0:(C0 z t par ats bs).getD ats.length iz=⟨z, -1,par⟩:=by
  unfold C0
  grind
 rw [hl,Dy,Dy,e1,e0];by_cases h1:w=255
 ·grind
 ·rw [if_neg (fun q=>h1 q.2.symm),if_neg h1];by_cases h2:w = -1
  ·grind
  ·rw [if_neg (fun q=>h2 q.2.symm),if_neg h2];exact N2 z ats bs _ (by omega) _ (Ag _)
def SK (V:Int->Int->List UInt8) (x:Tx) (z w:Int):List UInt8:=match Dy x.images z w x.images.length with
 | some i=>i.bytes
 | none=>V z w
def ZK (g:Geo) (a:An) (l:List Tx) (F:Int->List UInt8) (x:Tx) (z:Int):Prop:=
 (∀ w,Dy x.images z w x.images.length=none)
 \/∃ t ats bs,Fj g (AI a l) F z=some t/\ats.length=bs.length/\(∀ b∈bs,b.length=8)/\∀ w,w=255\/(-1<=w/\w<g.d)->Dy x.images z w x.images.length=if w=255 then some ⟨z,255,Df (BK g t (CX g (AI a l) F t z) ats bs x.seq)⟩ else if w = -1 then some ⟨z, -1,EV g t (CX g (AI a l) F t z) ats bs g.d.toNat⟩ else V0 z ats bs w
theorem YQ {g:Geo} (hg:Bt g=true) {s:Stt} {F:Int->List UInt8} {t:List Ent} {z:Int} {i:Nat} (hi:(i:Int)<g.d):(CX g s F t z).getD i []=G3 g s F t z (i:Nat):=by
 unfold CX TE
 grind
theorem Wv {g:Geo} (hg:Bt g=true) {a:An} {l:List Tx} {x:Tx} (hseq:0<=x.seq/\x.seq<=4294967295) (hl:∀ t∈l,∀ y∈t.images,BW g y=true) {F:Int->List UInt8} {V:Int->Int->List UInt8} (h:VolV g a l F V) (hx:∀ z,0<=z->z<g.z->ZK g a l F x z):VolV g a (l ++ [x]) F (SK V x):=by
 obtain⟨g1,g2,g3,g4,g5⟩:=Ay.1 hg;intro z h0 h1;obtain⟨t,ht⟩:=h z h0 h1;rcases hx z h0 h1 with hn | ⟨t',ats,bs,e1,e2,e3,e4⟩
 ·have hv:∀ w,SK V x z w=V z w:=fun w=>by unfold SK;rw [hn w]
  have hf:∀ w,CI (l ++ [x]) z w=CI l z w:=fun w=>by rw [IL,hn w]
  have hvz:SK V x z=V z:=funext hv;refine⟨t,?_,fun w q1 q2=>by rw [hv];exact ht.len w q1 q2,fun w q1 q2=>by rw [hv];exact ht.ent w q1 q2,fun w q1 q2=>?_,by rw [hvz];exact ht.par⟩
  ·have:=ht.tab;unfold Fj Dw at this |-
   show (match CI (l ++ [x]) z 255 with | some p=>_ | none=>match Cw g _ _ (match CI (l ++ [x]) z 255 with | some p=>p.2 | none=>_) with | some t=>some t | none=>Cw g _ _ (match CI (l ++ [x]) z 255 with | some p=>p.2 | none=>_))=_;rw [hf 255];exact this
  ·rw [hf w,hv];exact ht.val w q1 q2
 ·have et:t'=t:=by
   have:=ht.tab
   grind
  subst et;have htok:=KM ht.tab;have htl:=Jm htok;have hhad:∀ i:Nat,(i:Int)<g.d->(CX g (AI a l) F t' z).getD i []=V z (i:Nat):=fun i hi=>by
   rw [YQ hg hi];exact ht.one ⟨by omega,hi⟩
  have hatN:∀ i:Nat,(i:Int)<g.d->(Ex g (i:Nat)).toNat=i:=fun i hi=>by unfold Ex;rw [if_neg (by omega)];omega
  have hkn:∀ i:Nat,(i:Int)<g.d->FO g t' (CX g (AI a l) F t' z) i=V z (i:Nat):=fun i hi=>by
   have:=(ht.ent (i:Nat) (by omega) hi).1;rw [hatN i hi] at this;unfold FO;rw [this,if_neg (by decide),hhad i hi,if_pos (by rw [ht.len (i:Nat) (by omega) hi];decide)]
  have hup:∀ i:Nat,(i:Int)<g.d->SK V x z (i:Nat)=G4 g t' (CX g (AI a l) F t' z) ats bs i:=fun i hi=>by
   have e:=e4 (i:Nat) (.inr ⟨by omega,hi⟩);rw [if_neg (by omega),if_neg (by omega)] at e;unfold SK G4;rw [e,V0,Ac]
   grind
  have hbn:∀ i:Nat,(i:Int)<g.d->(G4 g t' (CX g (AI a l) F t' z) ats bs i).length=8:=fun i hi=>by
   unfold G4;cases hp:EA ats bs i ats.length with
   | some b=>exact JL e3 (by omega) _ b (Ag _) hp
   | none=>
    show (FO g t' _ i).length=8;rw [hkn i hi];exact ht.len (i:Nat) (by omega) hi
  have hpar:∀ k:Nat,(k:Int)<=g.d->EV g t' (CX g (AI a l) F t' z) ats bs k=Nv (SK V x z) k:=by
   intro k;induction k with
   | zero=>intro _;rfl
   | succ k ih=>
    intro hk;rw [EV,if_neg (by rw [hbn k (by omega)];decide),ih (by omega),Nv,hup k (by omega)]
  have hpv:SK V x z (-1)=EV g t' (CX g (AI a l) F t' z) ats bs g.d.toNat:=by
   have e:=e4 (-1) (.inr ⟨by omega,by omega⟩);rw [if_neg (by omega),if_pos rfl] at e;unfold SK;rw [e]
  have hhb:∀ b∈CX g (AI a l) F t' z,b.length=0\/b.length=8:=fun b hb=>by
   unfold CX TE at hb;rcases Az.1 hb with q | q
   ·obtain⟨i,hi,rfl⟩:=AK.1 q;exact Jl (s:=AI a l) hl (by have:=AL.1 hi;omega)
   ·rw [A4] at q;subst q;exact Jl (s:=AI a l) (w:= -1) hl (by decide)
  have hpl:(EV g t' (CX g (AI a l) F t' z) ats bs g.d.toNat).length=8:=Hr hhb e3 (by omega) _;have hwt:=GX (g:=g) (t:=t') (had:=CX g (AI a l) F t' z) (ats:=ats) (bs:=bs) hg htok (stamp:=x.seq) hseq;have htab:Fj g (AI a (l ++ [x])) F z=some (BK g t' (CX g (AI a l) F t' z) ats bs x.seq):=by
   have e:=e4 255 (.inl rfl);rw [if_pos rfl] at e;unfold Fj;show (match CI (l ++ [x]) z 255 with | some p=>CU g p.1.bytes | none=>_)=_;rw [IL,e];exact I6 hwt
  have hent:∀ i:Nat,(i:Int)<g.d->(BK g t' (CX g (AI a l) F t' z) ats bs x.seq).getD i ez=match EA ats bs i ats.length with
    | some b=>⟨x.seq,(DH b:Nat),false⟩
    | none=>t'.getD i ez:=fun i hi=>by
   unfold BK;rw [Ab,AD (by simp;omega),Bf,BL (by omega)];show Om g t' _ ats bs x.seq i=_;unfold Om
   grind
  have hentp:(BK g t' (CX g (AI a l) F t' z) ats bs x.seq).getD (Ex g (-1)).toNat ez=⟨x.seq,(DH (SK V x z (-1)):Nat),false⟩:=by
   rw [show (Ex g (-1)).toNat=g.d.toNat by unfold Ex;rw [if_pos rfl]];unfold BK
   grind
  refine⟨_,htab,fun w q1 q2=>?_,fun w q1 q2=>?_,fun w q1 q2=>?_,?_⟩
  ·by_cases hw:w = -1
   ·grind
   ·obtain⟨i,rfl⟩:∃ i:Nat,w=(i:Nat):=⟨w.toNat,by omega⟩
    grind
  ·by_cases hw:w = -1
   ·grind
   ·obtain⟨i,rfl⟩:∃ i:Nat,w=(i:Nat):=⟨w.toNat,by omega⟩;rw [hatN i q2,hent i q2,hup i q2];unfold G4;cases hp:EA ats bs i ats.length with
    | some b=>exact tA
    | none=>
     have:=ht.ent (i:Nat) q1 q2
     grind
  ·rw [IL];have e:=e4 w (.inr ⟨q1,q2⟩);rw [if_neg (by omega)] at e;by_cases hw:w = -1
   ·grind
   ·obtain⟨i,rfl⟩:∃ i:Nat,w=(i:Nat):=⟨w.toNat,by omega⟩;rw [if_neg hw,V0,Ac] at e;rw [e,hatN i q2,hent i q2,hup i q2];unfold G4;cases hp:EA ats bs i ats.length with
    | some b=>exact tA
    | none=>
     have:=ht.val (i:Nat) q1 q2
     grind
  ·grind
theorem YY {g:Geo} (hg:Bt g=true) {a:An} {l:List Tx} {F:Int->List UInt8} {lba:Int} {b:List UInt8} (hlba:0<=lba/\lba<g.z*g.d) (hb:b.length=8) (ht:(Fj g (AI a l) F (lba.tdiv g.d)).isSome=true):∀ z,0<=z->z<g.z->ZK g a l F (FT g a l F lba b) z:=by
 obtain⟨g1,g2,g3,g4,g5⟩:=Ay.1 hg;intro z h0 h1;obtain⟨t,ht⟩:=CC.1 ht;have hm:0<=lba.tmod g.d/\lba.tmod g.d<g.d:=⟨BH _ hlba.1,B3 _ (by omega)⟩;have ei:(FT g a l F lba b).images=C0 (lba.tdiv g.d) (BK g t (CX g (AI a l) F t (lba.tdiv g.d)) [lba.tmod g.d] [b] (a.seq+(l.length:Int))) (EV g t (CX g (AI a l) F t (lba.tdiv g.d)) [lba.tmod g.d] [b] g.d.toNat) [lba.tmod g.d] [b]:=by
  show Hy g (AI a l) F _ lba b=_;unfold Hy;rw [ht]
 by_cases hz:z=lba.tdiv g.d
 ·refine .inr ⟨t, [lba.tmod g.d], [b],by rw [hz];exact ht,rfl,fun x hx=>by rw [A4] at hx;rw [hx];exact hb,fun w hw=>?_⟩;rw [ei,hz];exact Jw _ _ _ _ _ (fun x hx=>by rw [A4] at hx;omega) w (by omega)
 ·refine .inl fun w=>?_
  rw [ei];refine IM (fun y hy=>?_) _ (Ag _);have:y.zone=lba.tdiv g.d:=by
   unfold C0 at hy
   grind
  omega
theorem YX {g:Geo} (hg:Bt g=true) {a:An} {l:List Tx} {F:Int->List UInt8} {lba:Int} {b:List UInt8} (hlba:0<=lba/\lba<g.z*g.d) (ht:(Fj g (AI a l) F (lba.tdiv g.d)).isSome=true) (V:Int->Int->List UInt8) {z w:Int} (hw:0<=w/\w<g.d):SK V (FT g a l F lba b) z w=if z=lba.tdiv g.d/\w=lba.tmod g.d then b else V z w:=by
 obtain⟨g1,g2,g3,g4,g5⟩:=Ay.1 hg;obtain⟨t,ht⟩:=CC.1 ht;have hm:0<=lba.tmod g.d/\lba.tmod g.d<g.d:=⟨BH _ hlba.1,B3 _ (by omega)⟩;have ei:(FT g a l F lba b).images=C0 (lba.tdiv g.d) (BK g t (CX g (AI a l) F t (lba.tdiv g.d)) [lba.tmod g.d] [b] (a.seq+(l.length:Int))) (EV g t (CX g (AI a l) F t (lba.tdiv g.d)) [lba.tmod g.d] [b] g.d.toNat) [lba.tmod g.d] [b]:=by
  show Hy g (AI a l) F _ lba b=_;unfold Hy;rw [ht]
 unfold SK;rw [ei];by_cases hz:z=lba.tdiv g.d
 ·rw [hz,Jw _ _ _ _ _ (fun x hx=>by rw [A4] at hx;omega) w (by omega),if_neg (by omega),if_neg (by omega)];have ep:V0 (lba.tdiv g.d) [lba.tmod g.d] [b] w=if lba.tmod g.d=((w.toNat:Nat):Int) then some ⟨lba.tdiv g.d,w,b⟩ else none:=by
   show ((if lba.tmod g.d=((w.toNat:Nat):Int) then some b else none:Option (List UInt8)).map fun b=>(⟨lba.tdiv g.d,w,b⟩:Img))=_
   grind
  grind
 ·rw [if_neg (fun q=>hz q.1),IM (fun y hy=>?_) _ (Ag _)];have:y.zone=lba.tdiv g.d:=by
   unfold C0 at hy
   grind
  omega
end
end Go.Proofs.YtpjkcgacjjbikaaGreatDoor.A
