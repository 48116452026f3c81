/-
Several texts in one.
-/
import Derived.Test.YtpjkcgacjjbikaaGreatDoorPPV4P1
import Derived.Test.YtpjkcgacjjbikaaGreatDoorPPV4P3
import Derived.Test.YtpjkcgacjjbikaaGreatDoorPPV4P2
import Derived.Maps.OwnSet
set_option maxRecDepth 100000
set_option maxHeartbeats 8000000
set_option linter.unusedSimpArgs false
set_option linter.unusedVariables false
set_option linter.deprecated false
namespace Go.Proofs.YtpjkcgacjjbikaaGreatDoor.A
section
open Go.RowKit
def flatX:AV->Bool
 | .v _=>true
 | _=>false
def flatO:AV->Bool
 | .v _=>true
 | .ow _ _=>true
 | .tp l=>l.all fun x=>match x with | .v _=>true | .ow _ _=>true | _=>false
 | _=>false
def flatR:List AB->Bool
 | []=>true
 | .row _ _ es::r=>es.flatten.all flatX&&flatR r
 | _::_=>false
theorem Qb {c c':Ctx}:∀ {l:List AV} {us:List Value},l.all flatX=true->RdL l c us->RdL l c' us
 | [],us,_,h=>by simpa only [RdL] using h
 | x::l,us,hf,h=>by
  rw [AR,Ad] at hf;simp only [RdL] at h |-
  obtain⟨u,vs,rfl,h1,h2⟩:=h;refine⟨u,vs,rfl,?_,Qb hf.2 h2⟩;cases x <;> simp [flatX] at hf;simpa only [Rd] using h1
theorem O2 {c c':Ctx} (hr:c'.rho=c.rho) (hl:c'.len=c.len) (hd:c'.dom=c.dom) {x:AV} (hx:(match x with | .v _=>true | .ow _ _=>true | _=>false)=true) {u:Value} (h:Rd x c u):Rd x c' u:=by
 cases x <;> simp at hx
 ·simpa only [Rd] using h
 ·simp only [Rd] at h |-
  rw [hr,hl,hd];exact h
theorem VP {c c':Ctx} (hr:c'.rho=c.rho) (hl:c'.len=c.len) (hd:c'.dom=c.dom) {x:AV} (hx:flatO x=true) {u:Value} (h:Rd x c u):Rd x c' u:=by
 cases x with
 | v y=>exact O2 hr hl hd rfl h
 | ow k n=>exact O2 hr hl hd rfl h
 | tp l=>
  simp only [Rd] at h |-
  obtain⟨xs,rfl,hxs⟩:=h;refine⟨xs,rfl,?_⟩;simp only [flatO] at hx;induction l generalizing xs with
  | nil=>simpa only [RdL] using hxs
  | cons y l ih=>
   rw [AR,Ad] at hx;simp only [RdL] at hxs |-
   obtain⟨u,us,rfl,h1,h2⟩:=hxs;exact⟨u,us,rfl,O2 hr hl hd hx.1 h1,ih hx.2 us h2⟩
 | _=>simp [flatO] at hx
theorem flatR_mem:∀ {R:List AB} {y:AB},flatR R=true->y∈R->∃ t sz es,y = .row t sz es/\es.flatten.all flatX=true
 | .row t sz es::r,y,h,hy=>by
  rw [flatR,Ad] at h;rcases AQ.1 hy with rfl | hy
  ·exact⟨t,sz,es,rfl,h.1⟩
  ·exact flatR_mem h.2 hy
theorem FnO.lend {P:Program} {f:FuncId} {args args':List AV} {H:List AB} {K:AV->List AB->Prop} {q:Bool} {k:AV->List AB->Prop} (h:FnO P f args' K) (hs:sealA args H fun a _=>a=args') (hk:∀ r R,K r R->(flatO r=true/\flatR R=true)/\appK H R 0 fun d H=>CZ (r.shift d) fun r=>k r H):ACalls P q f args H k:=by
 refine⟨h.go,fun w0 M0 c us hs0 hr=>?_⟩;obtain⟨l',H',c',rfl,h2,h3,h4,h5,_⟩:=sealA_sound hs0 hr hs;have hglob:globOk c'.closed.w:=h3.glob;have hc:=h.calls c'.closed us hglob rfl h3.lt h5;have ew:c'.closed.w=c.w:=h2
 suffices hh:Calls P f us.toArray c'.closed.w fun e w'=>∃ v c1 r H1,e = .returned v/\c1.w=w'/\k r H1/\HS w0 M0 c1 H1/\Ext c c1/\Rd r c1 v/\(q=true->Old c.w w') by
  rw [ew] at hh;exact hh
 refine hc.mono ?_;rintro e w' ⟨v,r,c2,R,rfl,q1,rfl,q2,q3,q4⟩;obtain⟨⟨f1,f2⟩,hkk⟩:=hk r R q1
 -- the same memory;what the caller holds is not read
 obtain⟨c3,e3⟩:∃ c3:Ctx,c3={ c2 with M:=fun b=>c2.M b\/c.M b }:=⟨_,rfl⟩;have hsub:∀ b,b<c.w.heap.size->c'.M b->c.M b:=fun b hb hm=>by
  by_cases hx:c.M b
  ·exact hx
  ·exact absurd hm (h4.keep b hb hx).1
 have hlow:=q2.low;have q2':HS (Fl.all c.w hs0.glob) c.M c3 R:=by
  subst e3;refine⟨⟨?_,?_,?_,?_,?_⟩,q2.base,q2.dom,fun b hb=>?_,fun b hb=>?_,fun i y hi=>?_,fun i y g hi hl ho=>?_,q2.dis⟩
  ·have:=hlow.os;rw [show (Fl.all c'.closed.w hglob).w=c.w from ew] at this;exact this
  ·have:=hlow.tape;rw [show (Fl.all c'.closed.w hglob).w=c.w from ew] at this;exact this
  ·have:=hlow.output;rw [show (Fl.all c'.closed.w hglob).w=c.w from ew] at this;exact this
  ·have:=hlow.size;rw [show (Fl.all c'.closed.w hglob).w=c.w from ew] at this;exact this
  ·intro b hb;have:=hlow.block b (by show b<c'.closed.w.heap.size;rw [ew];exact hb);rw [show (Fl.all c'.closed.w hglob).w=c.w from ew] at this;exact this
  ·have hb':b<c.w.heap.size:=hb;have:=q2.foreign b (by show b<c'.closed.w.heap.size;rw [ew];exact hb');exact⟨fun hx=>hx.elim (fun hx=>hsub b hb' (this.1 hx)) (fun hx=>hx),fun hx=> .inr hx⟩
  ·have hsz:c.w.heap.size<=c2.w.heap.size:=by
    have:=hlow.size;rw [show (Fl.all c'.closed.w hglob).w=c.w from ew] at this;exact this
   rcases hb with hb | hb
   ·exact q2.lt b hb
   ·exact As (hs0.lt b hb) hsz
  ·obtain⟨t,sz,es,rfl,hfl⟩:=flatR_mem f2 (List.mem_of_getElem? hi);obtain⟨a1,a2,a3,xs,a4,a5,a6⟩:=q2.blk i _ hi;exact⟨a1,a2,a3,xs,a4,Qb hfl a5,a6⟩
  ·have:=q2.own i y g hi hl ho;refine⟨.inl this.1,fun hx=>this.2 ?_⟩;show g<c'.closed.w.heap.size;rw [ew];exact hx
 have q3':Rd r c3 v:=VP (by rw [e3]) (by rw [e3]) (by rw [e3]) f1 q3;have q5:c3.w=c2.w:=by rw [e3]
 obtain⟨p1,p2⟩:=hs0.beside (c':=c3) q2' q4;have h1:=BD (appK_iff hkk);rw [Au,<-hs0.dom] at h1;exact⟨v,c.beside c3,_,_,rfl,by show c3.w=_;exact q5,h1,p1,p2,Rd.shift r q3',fun _=>by have:=q2'.low.below.old;rw [q5] at this;exact this⟩
theorem FnO.subA {P:Program} {f:FuncId} {args args':List AV} {K:AV->List AB->Prop} (h:FnO P f args' K) (hs:SubL args args'):FnO P f args K:=
 ⟨h.go,fun c0 us hg h1 h2 h3=>h.calls c0 us hg h1 h2 (hs.rdl h3)⟩
theorem MW (l:List Tx) (hl:l.length<=1000000):Fn Tryz.prog 144 [Ej l] fun r=>r = iv (Ei l):=by
 refine zT Tryz.func144 rfl ?_;conv=>whnf
 refine zR Nat (fun k=>([(0,Ej l),(3,iv (GN l k)),(6,Ej l),(7,iv (l.length:Nat)),(8,iv k)], [])) (fun k=>k<=l.length) (fun k=>l.length - k) 0 (Aj _)
  (zQ (s:= []) tA) ?_
 intro k hk;conv=>whnf
 refine AS (fun h6=>?_) (fun h6=>?_) <;> (repeat rw [Ac] at h6) <;> conv=>whnf
 ·have hk':k<l.length:=by omega
  have hb:=Hb l k;have hs:GN l (k+1)=GN l k+Jc (l.getD (k:Int).toNat ⟨0,0,0, []⟩).n:=rfl;have hn:=OZ (l.getD (k:Int).toNat ⟨0,0,0, []⟩).n;repeat' (refine zZ ?_;conv=>whnf)
  refine⟨⟨by omega,by omega⟩,?_⟩;conv=>whnf
  by_cases h0:(l.getD (k:Int).toNat ⟨0,0,0, []⟩).n>=0
  ·rw [show decide ((l.getD (k:Int).toNat ⟨0,0,0, []⟩).n>=0)=true from decide_eq_true h0];conv=>whnf
   by_cases h1:(l.getD (k:Int).toNat ⟨0,0,0, []⟩).n<=30
   ·rw [show decide ((l.getD (k:Int).toNat ⟨0,0,0, []⟩).n<=30)=true from decide_eq_true h1];have hu:Jc (l.getD (k:Int).toNat ⟨0,0,0, []⟩).n=(l.getD (k:Int).toNat ⟨0,0,0, []⟩).n:=if_pos ⟨h0,h1⟩;conv=>whnf
    exact⟨k+1,hk',by omega,zQ (s:= []) ⟨⟨rfl,congrArg (fun n:Int=>AV.v (.int .i64 n)) (by rw [hs,hu,wi (by rw [<-hu];omega)]),rfl,rfl,AT (by omega),tv⟩,tv,rfl,rfl,rfl,rfl,rfl⟩⟩
   ·rw [show decide ((l.getD (k:Int).toNat ⟨0,0,0, []⟩).n<=30)=false from decide_eq_false h1];have hu:Jc (l.getD (k:Int).toNat ⟨0,0,0, []⟩).n=0:=if_neg fun h=>h1 h.2
    exact⟨k+1,hk',by omega,zQ (s:= []) ⟨⟨rfl,congrArg (fun n:Int=>AV.v (.int .i64 n)) (by rw [hs,hu,Int.add_zero]),rfl,rfl,AT (by omega),tv⟩,tv,rfl,rfl,rfl,rfl,rfl⟩⟩
  ·rw [show decide ((l.getD (k:Int).toNat ⟨0,0,0, []⟩).n>=0)=false from decide_eq_false h0];have hu:Jc (l.getD (k:Int).toNat ⟨0,0,0, []⟩).n=0:=if_neg fun h=>h0 h.1
   exact⟨k+1,hk',by omega,zQ (s:= []) ⟨⟨rfl,congrArg (fun n:Int=>AV.v (.int .i64 n)) (by rw [hs,hu,Int.add_zero]),rfl,rfl,AT (by omega),tv⟩,tv,rfl,rfl,rfl,rfl,rfl⟩⟩
 ·have ek:k=l.length:=by omega
  subst ek;exact⟨_,ri,rfl⟩
theorem Tg (g:Geo) (a:An) (l:List Tx) (hg:Bq g=true) (ha:B7 g a=true) (hr:CO g l a.seq a.pos g.sl=true) (hl:l.length<=1000000) (hi:∀ t∈l,t.images.length<=1000000/\∀ x∈t.images,x.bytes.length<=100000) (hla:a.label.size<=1000000) (hh:a.homes.length<=1000000) (hs:a.seq+(l.length:Int)<=4294967295):Fn Tryz.prog 73 [.ag (Bm g), .ag (Fp a),Ej l] fun r=>r = .tp [iv ((a.pos+Ei l).tmod g.sl),iv (a.seq+l.length),iv 0]:=by
 obtain⟨g1,g2,g3,g4,g5⟩:=A2.1 hg;have hu:=MW l hl;have hb:=Hb l l.length;have hc:=NO g a l hla hh hl hi;rw [hg,ha,hr] at hc;have hp:(1<=a.seq/\a.seq<=4294967295)/\(0<=a.pos/\a.pos<g.sl):=by
  simp only [B7,AR,BA,B6,Ad,decide_eq_true_eq,AK] at ha;omega
 have hw:IntKind.i64.wrap (a.seq+(l.length:Int))=a.seq+l.length:=wi (by omega);have ixA:g.sl≠0:=by omega
 refine zT Tryz.func73 rfl ?_;conv=>whnf
 refine zY hc ?_;conv=>whnf
 apply zI tys_ok mixed (.o [0,1,2,5,6,8,9,10,11,12,3,4,7,13,14] .fin) [6,7,16,17,18,19,20,21,22,23,24,25,26,27,28] (by kernel_rfl)
 ·conv=>whnf
  refine zY hu ?_;conv=>whnf
  try (refine Ai (by first | omega | exact ixA | exact ixB | (simp;done)) ?_;conv=>whnf)
  exact tA
 conv=>whnf
 rw [hw];rw [show decide (a.seq+(l.length:Int) > 4294967295)=false from decide_eq_false (by omega)];conv=>whnf
 exact⟨_,ri,by rw [wi (n:=a.pos+Ei l) (by unfold Ei;omega)]⟩
def Lm (g:Geo):Int:=1+g.sl+g.z*(2+g.d)
theorem Ut {g:Geo} (hg:Bq g=true):18<=Lm g/\Lm g<=55/\(3<=g.z*(2+g.d)/\g.z*(2+g.d)<=24):=by
 obtain⟨g1,g2,g3,g4,g5⟩:=A2.1 hg;have h1:g.z*(2+g.d)<=4*6:=Int.mul_le_mul (by omega) (by omega) (by omega) (by omega);have h2:1*3<=g.z*(2+g.d):=Int.mul_le_mul (by omega) (by omega) (by omega) (by omega);unfold Lm;omega
def Z1 (n:Int) (l:List Int) (i:Nat):Bool:=decide (0<=l.getD i 0)&&(decide (l.getD i 0<n)&&(decide (i=0) || decide (l.getD (i - 1) 0<l.getD i 0)))
def YI (n:Int) (l:List Int):Bool:=(List.range l.length).all (Z1 n l)
def LV (g:Geo) (s:Stt):Bool:=YI (g.z*g.d) s.lost&&(decide (0<=s.found)&&(decide (0<=s.fixed)&&decide (0<=s.moved)))
def Zq (g:Geo) (d:Dk) (s:Stt):Bool:=Bq g&&((Xh d&&decide ((d.cells.length:Int)=A7 g))&&(((Bq g&&B7 g s.a)&&CO g s.txns s.a.seq s.a.pos g.sl)&&(decide (0<=s.cursor)&&(decide (s.cursor<Lm g)&&LV g s))))
structure StBig (s:Stt):Prop where
 l:s.a.label.size<=1000000
 h:s.a.homes.length<=1000000
 t:s.txns.length<=1000000/\∀ t∈s.txns,t.images.length<=1000000/\∀ x∈t.images,x.bytes.length<=100000
 o:s.lost.length<=1000000



def sumT:List Tx->Int
 | []=>0
 | t::r=>t.n+sumT r
theorem sumT_app:∀ l m:List Tx,sumT (l ++ m)=sumT l+sumT m
 | [],m=>by simp [sumT]
 | t::r,m=>by
  show t.n+sumT (r ++ m)=_;rw [sumT_app r m,sumT];omega
theorem MO {l:List Tx} (h:∀ t∈l,0<=t.n/\t.n<=30):∀ k:Nat,k<=l.length->GN l k=sumT (l.take k)
 | 0,_=>by simp [GN,sumT]
 | k+1,hk=>by
  have e:l.take (k+1)=l.take k ++ [l.getD k tz]:=by
   rw [Bh,Af (by omega),Ab,Af (by omega)];try rfl
  have hm:=h _ (AC (d:=tz) (show k<l.length by omega));rw [GN,MO h k (by omega),e,sumT_app,Jc,if_pos hm];simp [sumT]
theorem SM {l:List Tx} (h:∀ t∈l,0<=t.n/\t.n<=30):Ei l=sumT l:=by
 have:=MO h l.length (Ag _);rwa [A6] at this
theorem SS {p n s q:Int} (hs:0<s) (hp:0<=p) (hn:0<=n) (hq:0<=q):((p+n).tmod s+q).tmod s=(p+(n+q)).tmod s:=by
 have h1:0<=(p+n).tmod s:=BF _ (by omega);rw [Db (a:=p+n) (by omega)] at h1 |-
 rw [Db (by omega),Db (by omega),Int.emod_add_emod,Int.add_assoc]
theorem WH {l:List Tx} (h:∀ t∈l,0<=t.n/\t.n<=30):0<=sumT l:=by
 induction l with
 | nil=>simp [sumT]
 | cons t r ih=>
  have:=h t (by simp);have:=ih fun x hx=>h x (Bc _ hx)
  rw [sumT];omega
theorem Gb {g:Geo} (hg:Bq g=true):∀ {l:List Tx} {seq pos left:Int},left<=g.sl->CO g l seq pos left=true->(∀ t∈l,0<=t.n/\t.n<=30)/\sumT l<=max left 0
 | [],_,_,left,_,_=>⟨by simp,by simp [sumT];omega⟩
 | t::r,seq,pos,left,hl,h=>by
  obtain⟨g1,g2,g3,g4,g5⟩:=A2.1 hg;simp only [CO,Ad,decide_eq_true_eq] at h;obtain⟨⟨h1,h2,h3,h4,h5,h6,h7⟩,h8⟩:=h;have ih:=Gb hg (by omega) h8;refine⟨fun x hx=>?_,?_⟩
  ·rcases AQ.1 hx with rfl | hx
   ·omega
   ·exact ih.1 x hx
  ·rw [sumT];have:=ih.2;omega
theorem K1 {g:Geo} (hg:Bq g=true) {x:Tx}:∀ {l:List Tx} {seq pos left:Int},0<=pos->pos<g.sl->left<=g.sl->CO g l seq pos left=true->x.seq=seq+l.length->x.seq<=4294967295->x.pos=(pos+sumT l).tmod g.sl->2<=x.n->x.n<=left - sumT l->x.n=x.images.length+1->x.images.all (BW g)=true->CO g (l ++ [x]) seq pos left=true
 | [],seq,pos,left,h0,h1,_,_,e1,e2,e3,e4,e5,e6,e7=>by
  have e3':x.pos=pos:=by
   rw [e3,show sumT []=0 from rfl,Int.add_zero,Db h0,Int.emod_eq_of_lt h0 h1]
  simp only [AN] at e1;have e1':x.seq=seq:=by omega
  have e5':x.n<=left:=by have:sumT []=0:=rfl;omega
  show (decide (x.seq=seq)&&(decide (x.seq<=4294967295)&&(decide (x.pos=pos)&&(decide (2<=x.n)&&(decide (x.n<=left)&&(decide (x.n=x.images.length+1)&&x.images.all (BW g)))))))&&true=true;rw [decide_eq_true e1',decide_eq_true e2,decide_eq_true e3',decide_eq_true e4,decide_eq_true e5',decide_eq_true e6,e7];try rfl
 | t::r,seq,pos,left,h0,h1,hl,h,e1,e2,e3,e4,e5,e6,e7=>by
  obtain⟨g1,g2,g3,g4,g5⟩:=A2.1 hg;have hh:=h;simp only [CO,Ad,decide_eq_true_eq] at hh;obtain⟨⟨q1,q2,q3,q4,q5,q6,q7⟩,q8⟩:=hh;have hin:=(Gb hg (by omega) q8).1;have hnn:=WH hin;have hp0:0<=(pos+t.n).tmod g.sl:=BF _ (by omega);have hp1:(pos+t.n).tmod g.sl<g.sl:=Bz _ (by omega);rw [sumT] at e3 e5;have ih:=K1 hg (x:=x) hp0 hp1 (by omega) q8 (by rw [e1];simp only [Ao];omega) e2 (by rw [e3,SS (by omega) h0 (by omega) hnn]) e4 (by omega) e6 e7;show (_&&CO g (r ++ [x]) (seq+1) ((pos+t.n).tmod g.sl) (left - t.n))=true;rw [ih,B6];simp only [CO,Ad] at h;simpa using h.1
def EG (ats:List Int) (bs:List (List UInt8)) (i:Nat):Nat->Option (List UInt8)
 | 0=>none
 | k+1=>if ats.getD k 0=(i:Int) then some (bs.getD k []) else EG ats bs i k
def G8 (g:Geo) (t:List Ent) (had:List (List UInt8)) (ats:List Int) (bs:List (List UInt8)) (i:Nat):List UInt8:=match EG ats bs i ats.length with
 | some b=>b
 | none=>FP g t had i
def Of (g:Geo) (t:List Ent) (had:List (List UInt8)) (ats:List Int) (bs:List (List UInt8)) (stamp:Int) (i:Nat):Ent:=
 let e:Ent:=match EG ats bs i ats.length with
  | some b=>⟨stamp,(DG b:Nat),false⟩
  | none=>t.getD i ez
 if (G8 g t had ats bs i).length=0 then { e with lost:=true } else e
def Fa (g:Geo) (t:List Ent) (had:List (List UInt8)) (ats:List Int) (bs:List (List UInt8)):Nat->List UInt8
 | 0=>zero8
 | k+1=>if (G8 g t had ats bs k).length=0 then Fa g t had ats bs k else GT (Fa g t had ats bs k) (G8 g t had ats bs k)
def BJ (g:Geo) (t:List Ent) (had:List (List UInt8)) (ats:List Int) (bs:List (List UInt8)) (stamp:Int):List Ent:=(List.range g.d.toNat).map (Of g t had ats bs stamp) ++ [⟨stamp,(DG (Fa g t had ats bs g.d.toNat):Nat),false⟩]
def Cz (z:Int) (t:List Ent) (par:List UInt8) (ats:List Int) (bs:List (List UInt8)):List Img:=((List.range ats.length).map fun i=>⟨z,ats.getD i 0,bs.getD i []⟩) ++ [⟨z, -1,par⟩,⟨z,255,Di t⟩]
theorem Jj (b:List UInt8):DG b<=4294967295:=by unfold DG;omega
theorem FW (a b:List UInt8):(GT a b).length=min a.length b.length:=by simp [GT]
theorem K4 {t:List Ent} {had:List (List UInt8)} {at_:Nat} (hh:∀ b∈had,b.length=0\/b.length=8):∀ (k:Nat) (b:List UInt8),Ie t had at_ k=some b->b.length=8
 | 0,b,h=>by
  obtain rfl:=Option.some.inj h;rfl
 | k+1,b,h=>by
  rw [Ie] at h;cases hk:Ie t had at_ k with
  | none=>rw [hk] at h;cases h
  | some c=>
   rw [hk] at h;have ih:=K4 hh k c hk;simp only at h;split at h
   ·grind
   ·split at h
    ·cases h
    ·rename_i h0;obtain rfl:=Option.some.inj h;have hm:(had.getD k []).length=8:=by
      grind
     rw [FW,ih,hm];try rfl
theorem Rq {g:Geo} {t:List Ent} {had:List (List UInt8)} (hh:∀ b∈had,b.length=0\/b.length=8) (i:Nat):(FP g t had i).length=0\/(FP g t had i).length=8:=by
 unfold FP;split
 ·grind
 ·split
  ·grind
  ·cases ho:Ie t had i (g.d.toNat+1) with
   | none=>exact .inl rfl
   | some b=>
    simp only;split
    ·exact .inr (K4 hh _ _ ho)
    ·grind
section
variable {g:Geo} {t:List Ent} {had:List (List UInt8)} {ats:List Int} {bs:List (List UInt8)}
theorem JS (hb:∀ b∈bs,b.length=8) (hl:ats.length<=bs.length) {i:Nat}:∀ (k:Nat) (b:List UInt8),k<=ats.length->EG ats bs i k=some b->b.length=8
 | k+1,b,hk,h=>by
  rw [EG] at h;split at h
  ·grind
  ·exact JS hb hl k b (by omega) h
theorem UW (hh:∀ b∈had,b.length=0\/b.length=8) (hb:∀ b∈bs,b.length=8) (hl:ats.length<=bs.length) (i:Nat):(G8 g t had ats bs i).length=0\/(G8 g t had ats bs i).length=8:=by
 unfold G8;cases hp:EG ats bs i ats.length with
 | none=>exact Rq hh i
 | some b=>exact .inr (JS hb hl _ b (Ag _) hp)
theorem Ht (hh:∀ b∈had,b.length=0\/b.length=8) (hb:∀ b∈bs,b.length=8) (hl:ats.length<=bs.length):∀ k:Nat,(Fa g t had ats bs k).length=8
 | 0=>rfl
 | k+1=>by
  have ih:=Ht hh hb hl k;rw [Fa];split
  ·exact ih
  ·rename_i h0;rcases UW (g:=g) (t:=t) hh hb hl k with q | q
   ·exact absurd q h0
   ·rw [FW,ih,q];try rfl
theorem G_ (hg:Bq g=true) (ht:If g t=true) {stamp:Int} (hs:0<=stamp/\stamp<=4294967295):If g (BJ g t had ats bs stamp)=true:=by
 obtain⟨g1,g2,g3,g4,g5⟩:=A2.1 hg;have hsum:∀ b:List UInt8,I0 ((DG b:Nat):Int)=true:=fun b=>AK.2 (by have:=Jj b;omega)
 have hst:I0 stamp=true:=AK.2 hs;have hl:(BJ g t had ats bs stamp).length=g.d.toNat+1:=by simp [BJ]
 rw [If,hg] at ht;simp only [BB,Ad,decide_eq_true_eq,Cf] at ht;obtain⟨⟨t1,t2⟩,t3⟩:=ht;rw [If,hg,decide_eq_true (by rw [hl];omega)];have hall:(BJ g t had ats bs stamp).all Em=true:=by
  rw [Av];intro x hx;simp only [BJ,Az,AI,AJ,Ay] at hx;rcases hx with ⟨i,hi,rfl⟩ | rfl
  ·have he:∀ e:Ent,Em e=true->Em { e with lost:=true }=true:=fun e h=>h
   have h0:Em (match EG ats bs i ats.length with | some b=>(⟨stamp,(DG b:Nat),false⟩:Ent) | none=>t.getD i ez)=true:=by
    cases EG ats bs i ats.length with
    | some b=>simp only [Em,hst,hsum,Bool.and_self]
    | none=>exact Av.1 t2 _ (AC (d:=ez) (by omega))
   unfold Of
   grind
  ·simp only [Em,hst,hsum,Bool.and_self]
 rw [hall];have hla:II (BJ g t had ats bs stamp) g.d.toNat=false:=by
  unfold II BJ
  grind
 grind
end
theorem R7 {x:Ent} (h:Em x=true) (r:List UInt8):KD (JA x ++ r)=x:=by
 obtain⟨a,s,l⟩:=x;simp only [Em,I0,Ad,AK] at h;have hn:nums [4,4,1] (rowB [a,s,CX l] [4,4,1] ++ r)=[a,s,CX l]:=nums_rowB [a,s,CX l] [4,4,1] r rfl (fun k h1 _=>by
  match k,h1 with
  | 0,_=>exact⟨.inr (.inr rfl),h.1.1,by show a<4294967296;omega⟩
  | 1,_=>exact⟨.inr (.inr rfl),h.2.1,by show s<4294967296;omega⟩
  | 2,_=>exact⟨.inl rfl,by show 0<=CX l;unfold CX;split <;> decide,by show CX l<256;unfold CX;split <;> decide⟩)
 unfold KD JA;rw [hn];cases l <;> rfl
theorem entsOf_tblB:∀ (t:List Ent),(∀ e∈t,Em e=true)->entsOf t.length (Di t)=t
 | [],_=>rfl
 | e::t,h=>by
  have e1:Di (e::t)=JA e ++ Di t:=by simp [Di]
  have e2:(JA e ++ Di t).drop 9=Di t:=by
   rw [List.drop_append_of_le_length (by rw [J9];exact Ag _),A9 (by rw [J9];exact Ag _)];try rfl
  show KD (Di (e::t))::entsOf t.length ((Di (e::t)).drop 9)=e::t;rw [e1,e2,R7 (h e (by simp)),entsOf_tblB t fun x hx=>h x (Bc _ hx)]
theorem IC {g:Geo} {t:List Ent} (ht:If g t=true):CV g (Di t)=some t:=by
 have hh:=ht;simp only [If,Ad,decide_eq_true_eq,Av] at hh;obtain⟨⟨⟨_,t1⟩,t2⟩,_⟩:=hh;have e:(g.d+1).toNat=t.length:=by omega
 unfold CV;rw [e,entsOf_tblB t t2,if_pos ⟨ht,rfl⟩]
def OneTab (l:List Img):Prop:=l.Pairwise fun x y=>x.what=255->y.what=255->x.zone≠y.zone
theorem H5 (z:Int) (t:List Ent) (par:List UInt8) (ats:List Int) (bs:List (List UInt8)):(Cz z t par ats bs).length=ats.length+2:=by simp [Cz]
theorem Rt {g:Geo} (hg:Bq g=true) {z:Int} (hz:0<=z/\z<g.z) {t:List Ent} (ht:If g t=true) {par:List UInt8} (hp:par.length=8) {ats:List Int} (ha:∀ a∈ats,0<=a/\a<g.d) {bs:List (List UInt8)} (hb:∀ b∈bs,b.length=8) (hl:ats.length<=bs.length):∀ x∈Cz z t par ats bs,BW g x=true/\x.zone=z:=by
 obtain⟨g1,g2,g3,g4,g5⟩:=A2.1 hg;have hz':Dv z 0 (g.z - 1)=true:=AK.2 (by omega);intro x hx;simp only [Cz,Az,AI,AJ,AQ,D1,or_false] at hx;rcases hx with ⟨i,hi,rfl⟩ | rfl | rfl
 ·have h1:=ha _ (AC (d:=0) hi);have h2:=hb _ (AC (d:= []) (show i<bs.length by omega));refine⟨?_,rfl⟩;simp only [BW,hg,hz',BB];rw [if_neg (by omega),AK.2 (show -1<=ats.getD i 0/\ats.getD i 0<=g.d - 1 by omega),decide_eq_true h2];try rfl
 ·refine⟨?_,rfl⟩;simp only [BW,hg,hz',BB];rw [if_neg (by decide),AK.2 (show (-1:Int)<= -1/\(-1:Int)<=g.d - 1 by omega),decide_eq_true hp];try rfl
 ·refine⟨?_,rfl⟩;simp only [BW,hg,hz',BB];rw [if_pos trivial,IC ht];try rfl
theorem PO {g:Geo} (hg:Bq g=true) {l:List Img} {z:Int} (hl:OneTab l) (hz:∀ x∈l,x.zone<z) {t:List Ent} {par:List UInt8} {ats:List Int} (ha:∀ a∈ats,0<=a/\a<g.d) {bs:List (List UInt8)}:OneTab (l ++ Cz z t par ats bs):=by
 obtain⟨g1,g2,g3,g4,g5⟩:=A2.1 hg;have hw:∀ x∈(List.range ats.length).map (fun i=>(⟨z,ats.getD i 0,bs.getD i []⟩:Img)),x.what≠255:=by
  intro x hx;obtain⟨i,hi,rfl⟩:=AI.1 hx;have:=ha _ (AC (d:=0) (AJ.1 hi))
  grind
 refine List.pairwise_append.2 ⟨hl,List.pairwise_append.2 ⟨List.Pairwise.imp_of_mem (R:=fun _ _=>True) (fun hx _ _ h=>absurd h (hw _ hx)) (List.pairwise_of_forall (fun _ _=>trivial)),?_,fun x hx y _ h=>absurd h (hw _ hx)⟩,fun x hx y hy _ _=>?_⟩
 ·grind
 ·have h1:=hz x hx;have h2:y.zone=z:=by
   simp only [Cz,Az,AI,AJ,AQ,D1,or_false] at hy
   grind
  omega
@[reducible] def ZL (g:Geo) (x:AV) (s:Stt) (e:Int):List AV:= [iv g.z,iv g.d,iv g.sp,iv g.sl,iv g.an,x,iv s.a.gen,iv s.a.epoch,iv s.a.pos,iv s.a.seq,iv s.a.last, .v (.string s.a.label),GW s.a.homes,Ej s.txns, .v (.bool s.only),iv s.cursor,iv s.found,iv s.fixed,iv s.moved,iA s.lost,iv e]
@[reducible] def aO (g:Geo) (s:Stt) (e:Int) (d:Dk):List AB:= [.box 132 (ZL g (.bp 1 0) s e), .box 133 (Lg (.ow 2 d.cells.length) (.ow 3 d.cache.length) d.reqs d.left), .row 68 3 (d.cells.map Ci), .row 152 2 (d.cache.map GU)]
@[reducible] def aP (g:Geo) (s:Stt) (e:Int) (d:Dk):List AB:= [.box 132 (ZL g (.bp 1 0) s e), .box 133 (Lg (.ow 2 d.cells.length) (.ow 4 d.cache.length) d.reqs d.left), .row 68 3 (d.cells.map Ci), .dead, .row 152 2 (d.cache.map GU)]
@[reducible] def aQ (g:Geo) (s:Stt) (e:Int) (d:Dk) (l:List AB):List AB:= .box 132 (ZL g (.bp 1 0) s e):: .box 133 (Lg (.ow 2 d.cells.length) (.ow 3 d.cache.length) d.reqs d.left):: .row 68 3 (d.cells.map Ci):: .row 152 2 (d.cache.map GU)::l

theorem ACalls.lendBox {P:Program} {q:Bool} {f:FuncId} {x:AV} {H:List AB} {K:AV->List AB->Prop} (j k:Nat) {t t':TypeId} {sz':Nat} {cs cs2:List AV} {es':List (List AV)} (hj:H[j]? = some (.box t cs)) (hk:H[k]? = some (.row t' sz' es'))
  (he:cs.map (AV.slIn k es'.length (.sl sz' es'.length fun i=>es'.getD i []))=cs2) (hc:ACalls P q f [x, .ag cs2] ((H.set k .dead).set j (.box t cs2)) K):ACalls P q f [x, .ag cs] H K:=by
 refine⟨hc.go,fun w0 M0 c us hs hr=>?_⟩;subst he;have hjk:j≠k:=by rintro rfl;rw [hj] at hk;cases hk
 obtain⟨c1,e1,s1,x1,r1⟩:=hs.freeze hk;have hj1:(H.set k .dead)[j]? = some (.box t cs):=by rw [A4 (Ne.symm hjk)];exact hj
 have h8:∀ (l:List AV) (us:List Value),RdL l c us->RdL (l.map (AV.slIn k es'.length (.sl sz' es'.length fun i=>es'.getD i []))) c1 us:=by
  intro l;induction l with
  | nil=>intro us h;simp only [RdL] at h;subst h;simp [RdL]
  | cons x l ih=>
   intro us h;simp only [RdL] at h;obtain⟨u,vs,rfl,a1,a2⟩:=h;simp only [A5,RdL];refine⟨u,vs,rfl,?_,ih vs a2⟩;unfold AV.slIn;split
   ·rename_i i n;split
    ·rename_i hik;subst hik;split
     ·rename_i hn;subst hn;exact r1 u a1
     ·simp [Rd]
    ·exact Rd.ext _ x1 a1
   ·exact Rd.ext _ x1 a1
 have s2:HS w0 M0 c1 ((H.set k .dead).set j (.box t (cs.map (AV.slIn k es'.length (.sl sz' es'.length fun i=>es'.getD i []))))):=by
  refine s1.recell hj1 rfl ?_;rintro⟨g,xs,h1,h2,_,h4⟩;obtain⟨g0,ys,q1,q2,q3,_⟩:=hs.blk j _ hj;have hg:=x1.box j _ (hs.klt hj) q1;rw [h1] at hg;injection hg with hg
  injection hg with hg
  injection hg with hg
  subst hg;rw [e1,q2] at h2;injection h2 with h2
  have hxy:ys.toArray=xs.toArray:=by injection h2
  have hxy:ys=xs:=by simpa using hxy
  subst hxy;exact⟨g,ys,h1,by rw [e1];exact q2,h8 _ _ q3,h4⟩
 have hr2:RdL [x, .ag (cs.map (AV.slIn k es'.length (.sl sz' es'.length fun i=>es'.getD i [])))] c1 us:=by
  simp only [RdL] at hr;obtain⟨u1,_,rfl,p1,u2,_,rfl,p2,rfl⟩:=hr;simp only [Rd] at p2;obtain⟨zs,rfl,p3⟩:=p2;simp only [RdL];exact⟨u1,_,rfl,Rd.ext _ x1 p1,_,_,rfl,by simp only [Rd];exact⟨zs,rfl,h8 _ _ p3⟩,rfl⟩
 have:=hc.calls w0 M0 c1 us s2 hr2;rw [e1] at this;refine this.mono ?_;rintro e w' ⟨v,c',r,H2,rfl,rfl,q1,q2,q3,q4,q5⟩;exact⟨v,c',r,H2,rfl,rfl,q1,q2,x1.trans q3,q4,q5⟩


section
variable {g:Geo} {a:An} {x y:List Gt} {pos seq left:Int}
end



theorem DkOk.big {d:Dk} (h:DkOk d):d.cells.length<=1000000/\d.cache.length<=1000000/\(∀ c∈d.cells,c.bytes.length<=1000000000/\c.old.length<=1000000000)/\(∀ w∈d.cache,w.bytes.length<=1000000000):=
 ⟨by have:=h.n;omega,by have:=h.m;omega,fun c hc=>by have:=(h.c c hc).2;omega,fun w hw=>by have:=(h.w w hw).2;omega⟩
@[reducible] def aV (a:An) (x:AV):List AV:= [iv a.gen,iv a.epoch,iv a.pos,iv a.seq,iv a.last, .v (.string a.label),x]
@[reducible] def aL (s:Stt) (x y:AV):List AV:= [iv s.a.gen,iv s.a.epoch,iv s.a.pos,iv s.a.seq,iv s.a.last, .v (.string s.a.label),x,y, .v (.bool s.only),iv s.cursor,iv s.found,iv s.fixed,iv s.moved,iA s.lost]
@[reducible] def ZV (g:Geo) (x hm tx:AV) (s:Stt) (e:Int):List AV:= [iv g.z,iv g.d,iv g.sp,iv g.sl,iv g.an,x,iv s.a.gen,iv s.a.epoch,iv s.a.pos,iv s.a.seq,iv s.a.last, .v (.string s.a.label),hm,tx, .v (.bool s.only),iv s.cursor,iv s.found,iv s.fixed,iv s.moved,iA s.lost,iv e]
@[reducible] def aN (g:Geo) (s:Stt) (e:Int) (d:Dk):List AB:= [.box 132 (ZV g (.bp 1 0) (.ow 4 s.a.homes.length) (.ow 5 s.txns.length) s e), .box 133 (Lg (.ow 2 d.cells.length) (.ow 3 d.cache.length) d.reqs d.left), .row 68 3 (d.cells.map Ci), .row 152 2 (d.cache.map GU), .row 108 3 (s.a.homes.map M8), .row 170 4 (s.txns.map It)]
@[reducible] def rwP (g:Geo) (s:Stt) (e:Int) (d:Dk):List AB:= [.box 132 (ZV g (.bp 1 0) (.ow 4 s.a.homes.length) (.ow 5 s.txns.length) s e), .box 133 (Lg (.ow 2 d.cells.length) (.ow 6 d.cache.length) d.reqs d.left), .row 68 3 (d.cells.map Ci), .dead, .row 108 3 (s.a.homes.map M8), .row 170 4 (s.txns.map It), .row 152 2 (d.cache.map GU)]
theorem R4 (g:Geo) (s:ByteArray) {n:Nat} (hn:n=g.z.toNat):SubL [iv 1,iv 0,iv 0,iv 1,iv 0, .v (.string s), .sl 3 n fun i=>(List.replicate n (LR g)).getD i []] (Fp (BN g s)):=by
 refine⟨fun _ _ h=>h,fun _ _ h=>h,fun _ _ h=>h,fun _ _ h=>h,fun _ _ h=>h,fun _ _ h=>h,fun c u h=>yW (by simp [BN,hn]) (fun i hi=>?_) h,tv⟩;rw [BN,Ab,Ab,CB hi,CB (by omega)];exact TE g
theorem Uh (g:Geo) (s:ByteArray) (hs:s.size<=1000000):Fn Tryz.prog 97 [.ag (Bm g), .v (.string s)] fun r=>r = .tp [.ag (Fp (if Bq g then if Ev s.data.toList=0 then BN g s else an0 else an0)),iv (if Bq g then Ev s.data.toList else 1)]:=by
 have hG:Fn Tryz.prog 118 [.ag (Bm g)] fun r=>r = .v (Ew (Bq g)):=Ct g.z g.d g.sp g.sl g.an
 cases hg:Bq g with
 | false=>
  rw [hg] at hG;refine zT Tryz.func97 rfl ?_;conv=>whnf
  refine zY hG ?_;exact⟨_,HR 1,rfl⟩
 | true=>
  rw [hg] at hG;obtain⟨h1,h2,h3,h4,h5⟩:=A2.1 hg;have hL:=GD s hs;by_cases hl:Ev s.data.toList=0
  ·rw [hl] at hL;rw [if_pos rfl,if_pos hl,if_pos rfl,hl];have w1:IntKind.i64.wrap (g.d+1)=g.d+1:=wi (by omega);refine zT Tryz.func97 rfl ?_;conv=>whnf
   refine zY hG ?_;conv=>whnf
   refine zY hL ?_;conv=>whnf
   refine zP Nat (fun k=>([(2, .bp 0 0),(4, .bp 1 0),(7, .bp 2 0),(23,iv g.z),(24,iv k)], [.box 24 (Bm g), .box 28 [iv 0,iv 0,iv 0,iv 0,iv 0, .v (.string ⟨#[]⟩), .v (.slice none 0 0)], .box 28 [iv 1,iv 0,iv 0,iv 1,iv 0, .v (.string s), .ow 3 k], .row 108 3 (List.replicate k (LR g))])) (fun k=>k<=g.z.toNat) (fun k=>g.z.toNat - k) 0 (Aj _) ⟨[(1002006,108,3)],tA,tA,tA,rfl,rfl,rfl⟩ ?_;intro k hk;conv=>whnf
   refine AS (fun t1=>?_) (fun t1=>?_) <;> (repeat rw [Ac] at t1) <;> conv=>whnf
   ·refine zP Nat (fun j=>([(2, .bp 0 0),(4, .bp 1 0),(7, .bp 2 0),(8, .bp 4 0),(23,iv g.z),(24,iv k),(32,iv (g.d+1)),(33,iv j)], [.box 24 (Bm g), .box 28 [iv 0,iv 0,iv 0,iv 0,iv 0, .v (.string ⟨#[]⟩), .v (.slice none 0 0)], .box 28 [iv 1,iv 0,iv 0,iv 1,iv 0, .v (.string s), .ow 3 k], .row 108 3 (List.replicate k (LR g)), .box 108 [.ow 5 j,iv (g.d+1),iv 0], .row 3 1 (G4 j)])) (fun j=>j<=(g.d+1).toNat) (fun j=>(g.d+1).toNat - j) 0 (Aj _) ⟨[(1004000,3,1)],tA,⟨rfl,rfl,rfl,rfl,rfl,rfl,congrArg (fun x=>AV.v (Value.int IntKind.i64 x)) w1,rfl,tv⟩,⟨rfl,rfl,rfl,rfl,by rw [w1];try rfl,rfl,tv⟩,rfl,rfl,rfl⟩ ?_;intro j hj;conv=>whnf
    refine AS (fun t2=>?_) (fun t2=>?_) <;> (repeat rw [Ac] at t2) <;> conv=>whnf
    ·refine⟨rfl,?_⟩;refine⟨⟨by simp [G4],by omega⟩,?_⟩;exact⟨j+1,by omega,by omega,(Wk.plain (by repeat' first | exact trivial | exact rfl | refine Ai ?_ ?_ | exact AT (by omega) | exact congrArg (AB.row _ _) (K3 j)) (by repeat' first | exact trivial | exact rfl | refine Ai ?_ ?_ | exact AT (by omega) | exact congrArg (AB.row _ _) (K3 j)) rfl rfl rfl)⟩
    ·have ej:j=(g.d+1).toNat:=by omega
     refine⟨(by simp [G4]),?_⟩;refine⟨rfl,?_⟩;refine⟨⟨by simp,by omega⟩,?_⟩;conv=>whnf
     have er:AB.row 108 3 (List.replicate (k+1) (LR g)) = .row 108 3 (List.replicate k (LR g) ++ [[AV.sl 1 j fun i=>(G4 j).getD i [],iv (g.d+1),iv 0]]):=by
      rw [List.replicate_succ',LR,<-ej]
     exact⟨k+1,by omega,by omega,(Wk.plain (by repeat' first | exact trivial | exact rfl | refine Ai ?_ ?_ | exact AT (by omega) | exact er) (by repeat' first | exact trivial | exact rfl | refine Ai ?_ ?_ | exact AT (by omega) | exact er) rfl rfl rfl)⟩
   ·refine⟨by simp,?_⟩;exact⟨.tp [.ag (Fp (BN g s)),iv 0],BV ⟨Bg (R4 g s (by omega)),ri,tv⟩,rfl⟩
  ·obtain⟨e0,he0⟩:∃ e0,Ev s.data.toList=e0:=⟨_,rfl⟩;rw [he0] at hL hl;rw [if_pos rfl,if_neg (by rw [he0];exact hl),if_pos rfl,he0];have hb:(e0 != 0)=true:=bne_iff_ne.2 hl;refine zT Tryz.func97 rfl ?_;conv=>whnf
   refine zY hG ?_;conv=>whnf
   refine zY hL ?_;conv=>whnf
   rw [hb];exact⟨_,HR e0,rfl⟩
theorem UD (n:Nat):List.replicate n (Dr ent0)=(List.replicate n ent0).map Dr:=by simp
theorem J2 {α:Type} {n i:Nat} {a d:α} (h:i<n):(List.replicate n a).getD i d=a:=by rw [Ab,CB h];try rfl
theorem MH {i:Nat} (h:i<8):zero8.getD i 0=0:=by
 have:i=0\/i=1\/i=2\/i=3\/i=4\/i=5\/i=6\/i=7:=by omega
 rcases this with rfl | rfl | rfl | rfl | rfl | rfl | rfl | rfl <;> rfl
theorem ST (g:Geo) (hg:Bq g=true):Fn Tryz.prog 104 [.ag (Bm g)] fun r=>r = .tp [.ag [BX (EE g)],iv 0]:=by
 have hG:Fn Tryz.prog 118 [.ag (Bm g)] fun r=>r = .v (Ew (Bq g)):=Ct g.z g.d g.sp g.sl g.an
 rw [hg] at hG;obtain⟨h1,h2,h3,h4,h5⟩:=A2.1 hg;have w1:IntKind.i64.wrap (g.d+1)=((g.d+1).toNat:Int):=by rw [wi (by omega)];omega
 have hS:=Ji zero8;refine zT Tryz.func104 rfl ?_;conv=>whnf
 refine zY hG ?_;refine⟨⟨rfl,by decide,by decide⟩,?_⟩;conv=>whnf
 refine zS hS.go ?_;refine⟨rfl,?_⟩;conv=>whnf
 refine zV [bA zero8] ⟨fun c v h=>z7 rfl (fun i hi=>?_) h,tv⟩ ?_
 ·have hi':i<8:=hi;rw [J2 (by exact hi'),MH hi'];try rfl
 refine zY hS ?_;conv=>whnf
 rw [w1];have hr:=UE (g.d+1).toNat (by omega) 0 (DG zero8:Nat) false (fun i=> [Dr ent0].getD i []) rfl;refine zS hr.go ?_;refine⟨rfl,?_⟩;conv=>whnf
 refine zX hr rfl ?_;rintro _ _ ⟨rfl,rfl⟩;refine⟨by simp,?_⟩;exact⟨.tp [.ag [BX (EE g)],iv 0],BV ⟨Bg ⟨BY (f:=Dr) (EE g) (by simp [EE]) (UD _),tv⟩,ri,tv⟩,rfl⟩
def KP (cs:List Cel) (w:Wr):List Cel:=cs.set w.addr.toNat { cs.getD w.addr.toNat cz with bytes:=w.bytes }
def Ea (cs:List Cel) (l:List Wr):List Cel:=l.foldl KP cs
theorem PY (cs:List Cel) (w:Wr):(KP cs w).length=cs.length:=by simp [KP]
theorem EC (l:List Wr):∀ cs:List Cel,(Ea cs l).length=cs.length:=by
 induction l with
 | nil=>intro cs;rfl
 | cons w l ih=>intro cs;show (Ea (KP cs w) l).length=_;rw [ih,PY]
theorem Ik (cs:List Cel) {l:List Wr} {k:Nat} (h:k<l.length):Ea cs (l.take (k+1))=KP (Ea cs (l.take k)) (l.getD k ⟨0, []⟩):=by
 unfold Ea;rw [Bh,Cb,Af h];simp [Ab,Af h]
theorem J3 (cs:List Cel) (w:Wr):(KP cs w).map Ci=(cs.map Ci).set w.addr.toNat (Ci { cs.getD w.addr.toNat cz with bytes:=w.bytes }):=by rw [KP,List.map_set]
def IS (g:Geo):List Cel:=List.replicate (A7 g).toNat cz
def G9 (g:Geo) (c:Int):List Wr:=(List.range g.sl.toNat).map fun i=>⟨Ba g c (i:Nat),B5 g zeroC c (i:Nat)⟩
def Iq (g:Geo) (z:Int):List Wr:=(List.range 2).map fun k=>⟨Bf g z (k:Nat),CF (Bf g z (k:Nat)) 0 (Di (EE g))⟩
def GP (g:Geo) (z:Int):List Wr:=(List.range (CK g).toNat).map fun i=>⟨Cw g z (i:Nat),CF (Cw g z (i:Nat)) 0 zero8⟩
def VN (g:Geo) (s:ByteArray):List Cel:=Ea (IS g) (AU g (BN g s))
def Oy (g:Geo) (s:ByteArray):Nat->List Cel
 | 0=>VN g s
 | c+1=>Ea (Oy g s c) (G9 g (c:Nat))
def GX (g:Geo) (s:ByteArray):Nat->List Cel
 | 0=>Oy g s 2
 | z+1=>Ea (Ea (GX g s z) (Iq g (z:Nat))) (GP g (z:Nat))
def DI (g:Geo) (s:ByteArray):Dk:=⟨GX g s g.z.toNat, [],0, -1⟩
theorem Mc (g:Geo):(IS g).length=(A7 g).toNat:=by simp [IS]
theorem VM (g:Geo) (s:ByteArray):(VN g s).length=(A7 g).toNat:=by rw [VN,EC,Mc]
theorem Mb (g:Geo) (s:ByteArray):∀ c,(Oy g s c).length=(A7 g).toNat
 | 0=>VM g s
 | c+1=>by rw [Oy,EC,Mb g s c]
theorem Gm (g:Geo) (s:ByteArray):∀ z,(GX g s z).length=(A7 g).toNat
 | 0=>Mb g s 2
 | z+1=>by rw [GX,EC,EC,Gm g s z]
theorem JQ {α:Type} {f:Nat->α} {n k:Nat} {d:α} (h:k<n):((List.range n).map f).getD k d=f k:=by
 rw [AP (d:=0) (by simpa using h),Ab,BL h];try rfl
theorem Ey {g:Geo} (hg:Bq g=true):EN g zeroC=true:=by
 simp [EN,hg,Fg,zeroC,I1]
theorem J4 (cs:List Cel) (l m:List Wr):Ea cs (l ++ m)=Ea (Ea cs l) m:=by unfold Ea;rw [Cb]
theorem Ov (cs:List Cel) (i a:Nat) (x:Cel) (ha:a<cs.length):(cs.set i x).getD a cz=if i=a then x else cs.getD a cz:=by
 grind
theorem VK (cs:List Cel) (w:Wr) (a:Nat) (ha:a<cs.length):(KP cs w).getD a cz=if w.addr.toNat=a then { cs.getD a cz with bytes:=w.bytes } else cs.getD a cz:=by
 unfold KP
 grind
theorem No {F:List UInt8}:∀ (l:List Wr) (cs:List Cel) (a:Nat),a<cs.length->(∀ w∈l,w.addr.toNat=a->w.bytes=F)->((∃ w∈l,w.addr.toNat=a)\/(cs.getD a cz).bytes=F)->(Ea cs l).getD a cz={ cs.getD a cz with bytes:=F }
 | [],cs,a,_,_,h=>by
  rcases h with ⟨w,hw,_⟩ | h
  ·grind
  ·show cs.getD a cz=_;rw [<-h]
 | w::l,cs,a,ha,hF,h=>by
  have hs:=VK cs w a ha;have ha':a<(KP cs w).length:=by rw [PY];exact ha
  have ih:=No (F:=F) l (KP cs w) a ha' (fun x hx=>hF x (Bc _ hx));show (Ea (KP cs w) l).getD a cz=_
  grind
def Kp (g:Geo):Nat->List Wr
 | 0=> []
 | z+1=>Kp g z ++ (Iq g (z:Nat) ++ GP g (z:Nat))
def Ox (g:Geo) (s:ByteArray):List Wr:=AU g (BN g s) ++ (G9 g 0 ++ (G9 g 1 ++ Kp g g.z.toNat))
theorem VL (g:Geo) (s:ByteArray):∀ z,GX g s z=Ea (IS g) (AU g (BN g s) ++ (G9 g 0 ++ (G9 g 1 ++ Kp g z)))
 | 0=>by
  show Ea (Ea (VN g s) (G9 g 0)) (G9 g 1)=_;rw [VN,<-J4,<-J4,Kp,AE]
 | z+1=>by
  rw [GX,VL g s z,<-J4,<-J4,Kp]
  grind
def FT (g:Geo) (s:ByteArray) (a:Int):List UInt8:=
 if a<g.an then Dt (BN g s) a else if a<g.an+g.sl then B5 g zeroC 0 (a - g.an) else if a<g.an+2*g.sl then B5 g zeroC 1 (a - g.an - g.sl)
 else if a<g.an+2*g.sl+2*g.z then CF a 0 (Di (EE g)) else CF a 0 zero8
theorem HT {g:Geo} (hg:Bq g=true):∀ (n:Nat) (w:Wr),(n:Int)<=g.z->(w∈Kp g n↔(∃ z k:Nat,z<n/\k<2/\w=⟨Bf g z k,CF (Bf g z k) 0 (Di (EE g))⟩)\/∃ z i:Nat,z<n/\i<(CK g).toNat/\w=⟨Cw g z i,CF (Cw g z i) 0 zero8⟩)
 | 0,w,_=>by simp [Kp]
 | n+1,w,h=>by
  rw [Kp,Az,Az,HT hg n w (by omega)];simp only [Iq,GP,AI,AJ]
  grind
theorem Sz {g:Geo} {s:ByteArray} {a:Int} (h:a<g.an):FT g s a=Dt (BN g s) a:=if_pos h
theorem J5 {g:Geo} {s:ByteArray} {c:Int} {i:Nat} (hc:c=0\/c=1) (hi:(i:Int)<g.sl):FT g s (Ba g c i)=B5 g zeroC c i:=by
 unfold FT Ba
 grind
theorem PZ {g:Geo} {s:ByteArray} {z k:Nat} (h0:0<=g.sl) (hz:(z:Int)<g.z) (hk:k<2):FT g s (Bf g z k)=CF (Bf g z k) 0 (Di (EE g)):=by
 unfold FT;have:Bf g z k=g.an+2*g.sl+2*z+k:=rfl
 grind
theorem Np {g:Geo} {s:ByteArray} {z i:Nat} (h0:0<=g.sl) (h1:0<=g.z) (h2:0<=CK g):FT g s (Cw g z i)=CF (Cw g z i) 0 zero8:=by
 unfold FT;have:Cw g z i=g.an+2*g.sl+2*g.z+z*CK g+i:=rfl;have:0<=(z:Int)*CK g:=Dc (by omega) h2
 grind
theorem P2 {g:Geo} (hg:Bq g=true):0<CK g:=by
 obtain⟨g1,g2,g3,g4,g5⟩:=A2.1 hg;unfold CK;omega
theorem VJ {g:Geo} {s:ByteArray} (hg:Bq g=true):∀ w∈Ox g s,0<=w.addr/\w.bytes=FT g s w.addr:=by
 obtain⟨g1,g2,g3,g4,g5⟩:=A2.1 hg;have hp:=P2 hg;intro w hw;simp only [Ox,Az,HT hg g.z.toNat w (by omega)] at hw;rcases hw with hw | hw | hw | ⟨z,k,h1,h2,rfl⟩ | ⟨z,i,h1,h2,rfl⟩
 ·simp only [AU,AI,AJ] at hw;obtain⟨i,hi,rfl⟩:=hw;exact⟨by show (0:Int)<=(i:Nat);omega,(Sz (by show ((i:Nat):Int)<g.an;omega)).symm⟩
 ·simp only [G9,AI,AJ] at hw;obtain⟨i,hi,rfl⟩:=hw;exact⟨by show 0<=Ba g 0 i;unfold Ba;omega,(J5 (.inl rfl) (by omega)).symm⟩
 ·simp only [G9,AI,AJ] at hw;obtain⟨i,hi,rfl⟩:=hw;exact⟨by show 0<=Ba g 1 i;unfold Ba;omega,(J5 (.inr rfl) (by omega)).symm⟩
 ·exact⟨by show 0<=Bf g z k;unfold Bf;omega,(PZ (by omega) (by omega) h2).symm⟩
 ·have:0<=(z:Int)*CK g:=Dc (by omega) (by omega);exact⟨by show 0<=Cw g z i;unfold Cw;omega,(Np (by omega) (by omega) (by omega)).symm⟩
theorem VI {g:Geo} {s:ByteArray} (hg:Bq g=true) {a:Int} (h0:0<=a) (h:a<A7 g):∃ w∈Ox g s,w.addr=a:=by
 obtain⟨g1,g2,g3,g4,g5⟩:=A2.1 hg;have hp:=P2 hg;by_cases h1:a<g.an
 ·refine⟨⟨a,Dt (BN g s) a⟩,?_,rfl⟩;simp only [Ox,Az,AU,AI,AJ];exact .inl ⟨a.toNat,by omega,by rw [Int.toNat_of_nonneg h0]⟩
 ·have hlog:∀ (c:Int) (i:Nat),(c=0\/c=1)->(i:Int)<g.sl->∃ w∈Ox g s,w.addr=Ba g c i:=fun c i hc hi=>by
   refine⟨⟨Ba g c i,B5 g zeroC c i⟩,?_,rfl⟩;simp only [Ox,Az,G9,AI,AJ];rcases hc with rfl | rfl
   ·exact .inr (.inl ⟨i,by omega,rfl⟩)
   ·exact .inr (.inr (.inl ⟨i,by omega,rfl⟩))
  by_cases h2:a<g.an+g.sl
  ·obtain⟨w,hw,e⟩:=hlog 0 (a - g.an).toNat (.inl rfl) (by omega);exact⟨w,hw,by rw [e];unfold Ba;omega⟩
  ·by_cases h3:a<g.an+2*g.sl
   ·obtain⟨w,hw,e⟩:=hlog 1 (a - g.an - g.sl).toNat (.inr rfl) (by omega);exact⟨w,hw,by rw [e];unfold Ba;omega⟩
   ·by_cases h4:a<g.an+2*g.sl+2*g.z
    ·refine⟨⟨Bf g (((a - (g.an+2*g.sl)).toNat / 2:Nat)) ((a - (g.an+2*g.sl)).toNat % 2:Nat),CF (Bf g (((a - (g.an+2*g.sl)).toNat / 2:Nat)) ((a - (g.an+2*g.sl)).toNat % 2:Nat)) 0 (Di (EE g))⟩,?_,by show Bf g _ _=a;unfold Bf;omega⟩;simp only [Ox,Az,HT hg g.z.toNat _ (by omega)];exact .inr (.inr (.inr (.inl ⟨_,_,by omega,by omega,rfl⟩)))
    ·have hq:a - (g.an+2*g.sl+2*g.z)=((a - (g.an+2*g.sl+2*g.z)).toNat:Int):=by omega
     generalize hX:(a - (g.an+2*g.sl+2*g.z)).toNat=X at hq;have hP:CK g=((CK g).toNat:Int):=by omega
     have hX2:X<g.z.toNat*(CK g).toNat:=by
      have:(X:Int)<g.z*CK g:=by unfold A7 at h;omega
      rw [hP,show g.z=(g.z.toNat:Int) by omega] at this
      exact_mod_cast this
     generalize hPn:(CK g).toNat=p at hP hX2;have hp0:0<p:=by omega
     have hdm:(X / p)*p+X % p=X:=Nat.div_add_mod' X p;refine⟨⟨Cw g ((X / p:Nat)) ((X % p:Nat)),CF (Cw g ((X / p:Nat)) ((X % p:Nat))) 0 zero8⟩,?_,?_⟩
     ·simp only [Ox,Az,HT hg g.z.toNat _ (by omega)];exact .inr (.inr (.inr (.inr ⟨X / p,X % p,Nat.div_lt_of_lt_mul (by rw [Nat.mul_comm];exact hX2),by rw [hPn];exact Nat.mod_lt _ hp0,rfl⟩)))
     ·show Cw g _ _=a;unfold Cw;rw [hP];have:((X / p:Nat):Int)*(p:Int)+((X % p:Nat):Int)=(X:Int):=by exact_mod_cast hdm
      omega
theorem PX {g:Geo} {s:ByteArray} (hg:Bq g=true) {a:Int} (h0:0<=a) (h:a<A7 g):(DI g s).cells.getD a.toNat cz=⟨0,FT g s a, []⟩:=by
 have hl:a.toNat<(IS g).length:=by rw [Mc];omega
 obtain⟨w,hw,e⟩:=VI (s:=s) hg h0 h;have hall:=VJ (s:=s) hg;show (GX g s g.z.toNat).getD a.toNat cz=_;rw [VL];refine(No (F:=FT g s a) (Ox g s) (IS g) a.toNat hl (fun x hx hxa=>?_) (.inl ⟨w,hw,by rw [e]⟩)).trans ?_
 ·grind
 ·have:(IS g).getD a.toNat cz=cz:=by
   unfold IS
   grind
  rw [this];try rfl
structure Holds (d:Dk) (n:Int) (F:Int->List UInt8):Prop where
 len:(d.cells.length:Int)=n
 cache:d.cache=[]
 cell:∀ a:Int,0<=a->a<n->(d.cells.getD a.toNat cz).state=0/\(d.cells.getD a.toNat cz).bytes=F a
theorem Holds.got {d:Dk} {n:Int} {F:Int->List UInt8} (h:Holds d n F) {a:Int} (h0:0<=a) (h1:a<n):Ot d a=⟨0,F a⟩:=by
 obtain⟨e1,e2⟩:=h.cell a h0 h1;have hg:d.got a=((d.cells.getD a.toNat cz).bytes,0):=by
  unfold Dk.got;rw [h.cache];simp only [T2];rw [show (d.cells.getD a.toNat ⟨0, [], []⟩)=d.cells.getD a.toNat cz from rfl,if_pos e1]
 rw [Ot,hg,e2]
theorem Kf {g:Geo} {s:ByteArray} (hg:Bq g=true):Holds (DI g s) (A7 g) (FT g s):=by
 have hc:=En hg;obtain⟨g1,g2,g3,g4,g5⟩:=A2.1 hg;refine⟨?_,rfl,fun a h0 h1=>by rw [PX hg h0 h1];exact tA⟩;show ((GX g s g.z.toNat).length:Int)=_;rw [Gm];omega
def Dk.tick (k:Nat) (d:Dk):Dk:=⟨d.cells,d.cache,min (d.reqs+k) 1048576,if d.left<0 then d.left else d.left - k⟩
structure Lv (d:Dk) (k:Nat):Prop where
 r:0<=d.reqs/\d.reqs<=1048576
 l:d.left<0\/(k:Int)<=d.left
theorem Lv.le {d:Dk} {k j:Nat} (h:Lv d k) (hj:j<=k):Lv d j:=⟨h.r,by have:=h.l;omega⟩
theorem Lz {d:Dk} (h:0<=d.reqs/\d.reqs<=1048576) (_h0:d.left≠0) (hl:d.left<0\/1<=d.left):d.req=d.tick 1:=by
 unfold Dk.req Dk.tick;rw [wi (by omega)]
 grind
theorem FZ {d:Dk} (a b:Nat) (_hr:d.reqs<=1048576) (h:d.left<0\/(a:Int)<=d.left):(d.tick a).tick b=d.tick (a+b):=by
 unfold Dk.tick
 grind
theorem MR {d:Dk} (hr:d.reqs<=1048576):d.tick 0=d:=by
 unfold Dk.tick;obtain⟨c,ca,r,l⟩:=d
 grind
theorem Jh {d:Dk} {a b:Nat} (h:Lv d (a+b)):Lv (d.tick a) b:=by
 have:=h.r;have:=h.l;refine⟨?_,?_⟩
 ·show 0<=min _ _/\min _ _<=_;omega
 ·show (if d.left<0 then d.left else d.left - a)<0\/(b:Int)<=(if d.left<0 then d.left else d.left - a);omega
theorem JG {d:Dk}:∀ (k:Nat),Lv d k->d.adv k=d.tick k
 | 0,h=>(MR h.r.2).symm
 | k+1,h=>by
  have ih:=JG k (h.le (by omega));have h1:=Jh (a:=k) (b:=1) h;have h2:=h1.l;show (if (d.adv k).left=0 then d.adv k else (d.adv k).req)=_;rw [ih,if_neg (by omega),Lz h1.r (by omega) (by omega),FZ k 1 h.r.2 (by have:=h.l;omega)]
def free (cs:List Cel) (w:Wr):Bool:=decide ((cs.getD w.addr.toNat cz).state≠2)
theorem Q8 {d:Dk} {w:Wr} (h:Lv d 1) (hc:d.cache.length<2000):d.write w.addr w.bytes=if free d.cells w then (⟨d.cells,d.cache ++ [w],(d.tick 1).reqs,(d.tick 1).left⟩,0) else (d.tick 1,7):=by
 have:=h.l;unfold Dk.write free;rw [if_neg (by omega),Lz h.r (by omega) (by omega)];by_cases h2:(d.cells.getD w.addr.toNat cz).state=2
 ·rw [if_pos (.inl h2),if_neg (by simpa using h2)]
 ·rw [if_neg (by rintro(h3 | h3);exact h2 h3;omega),if_pos (by simpa using h2)];try rfl
theorem writes_go:∀ (l:List Wr) (d:Dk) (n:Nat),Lv d l.length->d.cache.length+l.length<=2000->l.foldl Fj (d,n,false)=(⟨d.cells,d.cache ++ l.filter (free d.cells),(d.tick l.length).reqs,(d.tick l.length).left⟩,n+(l.filter (free d.cells)).length,false)
 | [],d,n,h,_=>by
  show (d,n,false)=_;rw [show ([]:List Wr).length=0 from rfl,MR h.r.2];simp_all
 | w::l,d,n,h,hc=>by
  have hl:(w::l).length=l.length+1:=rfl;rw [hl] at h hc |-
  have hw:=Q8 (w:=w) (h.le (show 1<=l.length+1 by omega)) (by omega);have h1:Lv (d.tick 1) l.length:=Jh (by rw [CA];exact h);have ht:=FZ (d:=d) 1 l.length h.r.2 (by have:=h.l;omega);rw [CA] at ht;show l.foldl Fj (Fj (d,n,false) w)=_;have hs:Fj (d,n,false) w=(match d.write w.addr w.bytes with | (d,e)=>if e=8 then (d,n,true) else (d,n+(if e=0 then 1 else 0),false)):=by
   unfold Fj;rw [if_neg (by simp)]
  rw [hs,hw];cases hf:free d.cells w with
  | true=>
   simp only [if_true];rw [if_neg (by decide)];have hgo:=writes_go l ⟨d.cells,d.cache ++ [w],(d.tick 1).reqs,(d.tick 1).left⟩ (n+1) ⟨h1.r,h1.l⟩ (by simp;omega);have e1:((⟨d.cells,d.cache ++ [w],(d.tick 1).reqs,(d.tick 1).left⟩:Dk).tick l.length).reqs=(d.tick (l.length+1)).reqs/\((⟨d.cells,d.cache ++ [w],(d.tick 1).reqs,(d.tick 1).left⟩:Dk).tick l.length).left=(d.tick (l.length+1)).left:=by rw [<-ht];exact tA
   grind
  | false=>
   simp only [BU,if_false];rw [if_neg (by decide),if_neg (by decide)];rw [writes_go l (d.tick 1) (n+0) h1 (by show d.cache.length+_<=_;omega),ht];simp only [List.filter_cons,hf,BU,if_false,Ca];rfl
theorem OB {d:Dk} {l:List Wr} (h:Lv d l.length) (hc:d.cache.length+l.length<=2000):d.writes l=(⟨d.cells,d.cache ++ l.filter (free d.cells),(d.tick l.length).reqs,(d.tick l.length).left⟩,(l.filter (free d.cells)).length,false):=by
 rw [Dk.writes,writes_go l d 0 h hc,Au]
def EQ (cs:List Cel) (w:Wr):List Cel:=if (cs.getD w.addr.toNat cz).state=2 then cs else cs.set w.addr.toNat ⟨0,w.bytes,(cs.getD w.addr.toNat cz).bytes⟩
def C4 (cs:List Cel) (l:List Wr):List Cel:=l.foldl EQ cs
theorem Gn (cs:List Cel) (w:Wr):(EQ cs w).length=cs.length:=by unfold EQ;split <;> simp
theorem finL_len:∀ (l:List Wr) (cs:List Cel),(C4 cs l).length=cs.length
 | [],_=>rfl
 | w::l,cs=>by show (C4 (EQ cs w) l).length=_;rw [finL_len l,Gn]
theorem TS (d:Dk) (w:Wr):d.fin w={ d with cells:=EQ d.cells w }:=by unfold Dk.fin EQ;split <;> rfl
theorem allFin_cells:∀ (l:List Wr) (d:Dk),d.allFin l={ d with cells:=C4 d.cells l }
 | [],_=>rfl
 | w::l,d=>by
  show (d.fin w).allFin l=_;rw [allFin_cells l,TS];try rfl
theorem F9 (cs:List Cel) (w:Wr) (a:Nat) (ha:a<cs.length):(EQ cs w).getD a cz=if w.addr.toNat=a/\(cs.getD a cz).state≠2 then ⟨0,w.bytes,(cs.getD a cz).bytes⟩ else cs.getD a cz:=by
 grind [EQ]
theorem finL_miss:∀ (l:List Wr) (cs:List Cel) (a:Nat),a<cs.length->(∀ w∈l,w.addr.toNat≠a)->(C4 cs l).getD a cz=cs.getD a cz
 | [],_,_,_,_=>rfl
 | w::l,cs,a,ha,h=>by
  have hs:=F9 cs w a ha;rw [if_neg (fun e=>h w (by simp) e.1)] at hs;show (C4 (EQ cs w) l).getD a cz=_;rw [finL_miss l (EQ cs w) a (by rw [Gn];exact ha) (fun x hx=>h x (Bc _ hx)),hs]
theorem finL_stuck:∀ (l:List Wr) (cs:List Cel) (a:Nat),a<cs.length->(cs.getD a cz).state=2->(C4 cs l).getD a cz=cs.getD a cz
 | [],_,_,_,_=>rfl
 | w::l,cs,a,ha,h=>by
  have hs:=F9 cs w a ha;rw [if_neg (fun e=>e.2 h)] at hs;show (C4 (EQ cs w) l).getD a cz=_;rw [finL_stuck l (EQ cs w) a (by rw [Gn];exact ha) (by rw [hs];exact h),hs]
theorem finL_any:∀ (l:List Wr) (cs:List Cel) (a:Nat),a<cs.length->(C4 cs l).getD a cz=cs.getD a cz\/(cs.getD a cz).state≠2/\((C4 cs l).getD a cz).state=0/\∃ w∈l,w.addr.toNat=a/\((C4 cs l).getD a cz).bytes=w.bytes
 | [],_,_,_=> .inl rfl
 | w::l,cs,a,ha=>by
  have hs:=F9 cs w a ha;have ih:=finL_any l (EQ cs w) a (by rw [Gn];exact ha);by_cases e:w.addr.toNat=a/\(cs.getD a cz).state≠2
  ·rw [if_pos e] at hs;rcases ih with ih | ⟨h1,h2,x,hx,h3,h4⟩
   ·refine .inr ⟨e.2,?_,w,by simp,e.1,?_⟩
    ·show ((C4 (EQ cs w) l).getD a cz).state=0;rw [ih,hs]
    ·show ((C4 (EQ cs w) l).getD a cz).bytes=_;rw [ih,hs]
   ·exact .inr ⟨e.2,h2,x,Bc _ hx,h3,h4⟩
  ·rw [if_neg e] at hs;rcases ih with ih | ⟨h1,h2,x,hx,h3,h4⟩
   ·exact .inl (ih.trans hs)
   ·exact .inr ⟨by rw [hs] at h1;exact h1,h2,x,Bc _ hx,h3,h4⟩
theorem Mq {F:List UInt8}:∀ (l:List Wr) (cs:List Cel) (a:Nat),a<cs.length->(cs.getD a cz).state≠2->(∀ w∈l,w.addr.toNat=a->w.bytes=F)->(∃ w∈l,w.addr.toNat=a)\/((cs.getD a cz).state=0/\(cs.getD a cz).bytes=F)->((C4 cs l).getD a cz).state=0/\((C4 cs l).getD a cz).bytes=F
 | [],cs,a,_,_,_,h=>by
  grind [C4]
 | w::l,cs,a,ha,h2,hF,h=>by
  have hs:=F9 cs w a ha;have ha':a<(EQ cs w).length:=by rw [Gn];exact ha
  show ((C4 (EQ cs w) l).getD a cz).state=0/\((C4 (EQ cs w) l).getD a cz).bytes=F;by_cases e:w.addr.toNat=a
  ·rw [if_pos ⟨e,h2⟩,hF w (by simp) e] at hs;exact Mq l (EQ cs w) a ha' (by rw [hs];show (0:Int)≠2;decide) (fun x hx=>hF x (Bc _ hx)) (.inr (by rw [hs];exact tA))
  ·rw [if_neg (fun q=>e q.1)] at hs;refine Mq l (EQ cs w) a ha' (by rw [hs];exact h2) (fun x hx=>hF x (Bc _ hx)) ?_
   grind
theorem finL_free:∀ (l:List Wr) (cs cs0:List Cel),(∀ a,(cs.getD a cz).state=2↔(cs0.getD a cz).state=2)->C4 cs (l.filter (free cs0))=C4 cs l
 | [],_,_,_=>rfl
 | w::l,cs,cs0,h=>by
  have hstep:∀ a,((EQ cs w).getD a cz).state=2↔(cs0.getD a cz).state=2:=fun a=>by
   rw [<-h a];by_cases ha:a<cs.length
   ·rw [F9 cs w a ha]
    grind
   ·rw [Ab,Ab,AF (by rw [Gn];omega),AF (by omega)]
  show _=C4 (EQ cs w) l;rw [List.filter_cons];by_cases hf:free cs0 w=true
  ·rw [if_pos hf];exact finL_free l (EQ cs w) cs0 hstep
  ·rw [if_neg hf];have:EQ cs w=cs:=by
    unfold EQ;rw [if_pos];simp only [free,decide_eq_true_eq,Decidable.not_not] at hf
    grind
   rw [this];exact finL_free l cs cs0 h
theorem Jr {d:Dk} {l:List Wr} (h:Lv d (l.length+1)) (hc:d.cache=[]) (hl:l.length<=2000):d.putAll l=(⟨C4 d.cells l, [],(d.tick (l.length+1)).reqs,(d.tick (l.length+1)).left⟩,(l.filter (free d.cells)).length,false):=by
 have hw:=OB (h.le (show l.length<=l.length+1 by omega)) (by rw [hc];simpa using hl);have h1:=Jh (a:=l.length) (b:=1) h;have h2:=h1.l;rw [hc,Bk] at hw;unfold Dk.putAll;rw [hw];simp only [BU,if_false];rw [if_neg (by show ¬(d.tick l.length).left=0;omega)];have ht:=FZ (d:=d) l.length 1 h.r.2 (by have:=h.l;omega);simp only [Prod.mk.injEq,and_true];unfold Dk.flush;rw [allFin_cells];have h3:Lv ⟨d.cells,l.filter (free d.cells),(d.tick l.length).reqs,(d.tick l.length).left⟩ 1:=⟨h1.r,h1.l⟩;have hr:=Lz (d:=⟨d.cells,l.filter (free d.cells),(d.tick l.length).reqs,(d.tick l.length).left⟩) h3.r (by show (d.tick l.length).left≠0;omega) (by show (d.tick l.length).left<0\/1<=(d.tick l.length).left;omega);rw [hr,<-ht];show (⟨C4 d.cells (l.filter (free d.cells)), [],_,_⟩:Dk)=_;rw [finL_free l d.cells d.cells fun _=>Iff.rfl];try rfl
structure Gw (n:Int) (d:Dk) (F:Int->List UInt8) (l:List Wr):Prop where
 ok:DkOk d
 left:d.left = -1
 len:(d.cells.length:Int)=n
 cache:d.cache=l
 cell:∀ a:Int,0<=a->a<n->(d.cells.getD a.toNat cz).state=0/\(d.cells.getD a.toNat cz).bytes=F a
 old:∀ a:Int,0<=a->a<n->(d.cells.getD a.toNat cz).old=F (-1 - a)
abbrev Gd (n:Int) (d:Dk) (F:Int->List UInt8):Prop:=Gw n d F []
def Yz (F:Int->List UInt8) (w:Wr) (a:Int):List UInt8:=if 0<=a then (if w.addr=a then w.bytes else F a) else if w.addr = -1 - a then F w.addr else F a
def MP (F:Int->List UInt8) (l:List Wr):Int->List UInt8:=l.foldl Yz F
theorem Lk {F:Int->List UInt8} (l:List Wr) (w:Wr):MP F (l ++ [w])=Yz (MP F l) w:=by
 unfold MP;rw [Cb];try rfl
theorem Gw.req {n:Int} {d:Dk} {F:Int->List UInt8} {l:List Wr} (h:Gw n d F l):Gw n d.req F l:=
 ⟨h.ok.req,by unfold Dk.req;rw [h.left];try rfl,h.len,h.cache,h.cell,h.old⟩
theorem Gd.got {n:Int} {d:Dk} {F:Int->List UInt8} (h:Gd n d F) {a:Int} (h0:0<=a) (h1:a<n):d.got a=(F a,0):=by
 have:=Holds.got ⟨h.len,h.cache,h.cell⟩ h0 h1;unfold Ot at this;injection this with e1 e2
 exact Prod.ext e2 e1
theorem Gd.read {n:Int} {d:Dk} {F:Int->List UInt8} (h:Gd n d F) {a:Int} (h0:0<=a) (h1:a<n):d.read a=(d.req,F a,0):=by
 unfold Dk.read;rw [if_neg (by rw [h.left];decide),h.got h0 h1]
theorem Gw.write {n:Int} {d:Dk} {F:Int->List UInt8} {l:List Wr} (h:Gw n d F l) (hl:l.length<2000) {a:Int} (h0:0<=a) (h1:a<n) {b:List UInt8} (hb:b.length<=200):(d.write a b).2=0/\Gw n (d.write a b).1 F (l ++ [⟨a,b⟩]):=by
 have hw:=h.ok.write (a:=a) (b:=b) (by rw [<-h.len] at h1;omega) hb;have e:d.write a b=({ d.req with cache:=d.cache ++ [⟨a,b⟩] },0):=by
  unfold Dk.write;rw [if_neg (by rw [h.left];decide),if_neg];rintro(h2 | h2)
  ·have:=(h.cell a h0 h1).1;unfold cz at this;omega
  ·rw [h.cache] at h2;omega
 rw [e] at hw |-
 exact⟨rfl,hw,h.req.left,h.len,by rw [h.cache],h.cell,h.old⟩
theorem O4 {cs:List Cel} {F:Int->List UInt8} {a:Int} (h0:0<=a) (h1:a.toNat<cs.length) (hc:(cs.getD a.toNat cz).state=0/\(cs.getD a.toNat cz).bytes=F a):∀ (n:Nat) (l:List Wr),l.length=n->(∀ w∈l,0<=w.addr)->((C4 cs l).getD a.toNat cz).state=0/\((C4 cs l).getD a.toNat cz).bytes=MP F l a
 | 0,l,hn,_=>by
  obtain rfl:=AG.1 hn;exact hc
 | n+1,l,hn,hw=>by
  rcases Df l with rfl | ⟨m,w,rfl⟩
  ·cases hn
  ·have ih:=O4 h0 h1 hc n m (by simpa using hn) (fun x hx=>hw x (by simp [hx]));have hwa:=hw w (by simp);have e:C4 cs (m ++ [w])=EQ (C4 cs m) w:=by unfold C4;rw [Cb];try rfl
   have e2:=F9 (C4 cs m) w a.toNat (by rw [finL_len];exact h1);rw [Dg,e,e2,Lk];unfold Yz;rw [if_pos h0];by_cases hA:w.addr=a
   ·rw [if_pos hA,if_pos ⟨by rw [hA],by rw [ih.1];decide⟩];exact tA
   ·rw [if_neg hA,if_neg (fun h=>hA (by have:=h.1;omega))];exact ih
theorem S2 {cs:List Cel} {F:Int->List UInt8} {a:Int} (h0:0<=a) (h1:a.toNat<cs.length) (hc:(cs.getD a.toNat cz).state=0/\(cs.getD a.toNat cz).bytes=F a) (ho:(cs.getD a.toNat cz).old=F (-1 - a)):∀ (n:Nat) (l:List Wr),l.length=n->(∀ w∈l,0<=w.addr)->((C4 cs l).getD a.toNat cz).old=MP F l (-1 - a)
 | 0,l,hn,_=>by
  obtain rfl:=AG.1 hn;exact ho
 | n+1,l,hn,hw=>by
  rcases Df l with rfl | ⟨m,w,rfl⟩
  ·cases hn
  ·have ih:=S2 h0 h1 hc ho n m (by simpa using hn) (fun x hx=>hw x (by simp [hx]));have iu:=O4 h0 h1 hc n m (by simpa using hn) (fun x hx=>hw x (by simp [hx]));have hwa:=hw w (by simp);have e:C4 cs (m ++ [w])=EQ (C4 cs m) w:=by unfold C4;rw [Cb];try rfl
   have e2:=F9 (C4 cs m) w a.toNat (by rw [finL_len];exact h1);rw [Dg,e,e2,Lk];unfold Yz;rw [if_neg (show ¬(0:Int)<= -1 - a by omega),show -1 - (-1 - a)=a by omega];by_cases hA:w.addr=a
   ·rw [if_pos hA,if_pos ⟨by rw [hA],by rw [iu.1];decide⟩,hA];exact iu.2
   ·rw [if_neg hA,if_neg (fun h=>hA (by have:=h.1;omega))];exact ih
theorem Gw.flush {n:Int} {d:Dk} {F:Int->List UInt8} {l:List Wr} (h:Gw n d F l):Gd n d.flush (MP F l):=by
 have e:d.flush=⟨C4 d.cells l, [],d.req.reqs,d.req.left⟩:=by
  unfold Dk.flush;rw [allFin_cells,h.cache];try rfl
 have ho:=h.ok.flush;rw [e] at ho |-
 have hl:=h.len;have hw0:∀ w∈l,0<=w.addr:=fun w hw=>by
  rw [<-h.cache] at hw;exact(h.ok.w w hw).1.1
 exact⟨ho,h.req.left,by show ((C4 d.cells l).length:Int)=n;rw [finL_len];exact h.len,rfl,fun a h0 h1=>O4 h0 (by omega) (h.cell a h0 h1) _ l rfl hw0,fun a h0 h1=>S2 h0 (by omega) (h.cell a h0 h1) (h.old a h0 h1) _ l rfl hw0⟩
theorem O_ {F:Int->List UInt8} {a:Int} (h0:0<=a):∀ (n:Nat) (l:List Wr),l.length=n->(∀ w∈l,w.addr≠a)->MP F l a=F a
 | 0,l,hn,_=>by
  obtain rfl:=AG.1 hn;rfl
 | n+1,l,hn,h=>by
  rcases Df l with rfl | ⟨m,w,rfl⟩
  ·rfl
  ·have ih:=O_ (F:=F) h0 n m (by simpa using hn) (fun x hx=>h x (by simp [hx]));rw [Dg,Lk];unfold Yz;rw [if_pos h0,if_neg (h w (by simp))];exact ih
def Vz (g:Geo) (a:An) (seq:Int) (x:Img):List Wr:=if x.what=255 then [⟨Bf g x.zone 0,CF (Bf g x.zone 0) seq x.bytes⟩,⟨Bf g x.zone 1,CF (Bf g x.zone 1) seq x.bytes⟩] else [⟨D3 g a x.zone x.what,CF (D3 g a x.zone x.what) seq x.bytes⟩]
def LO (g:Geo) (a:An) (seq:Int):List Img->List Wr
 | []=> []
 | x::r=>Vz g a seq x ++ LO g a seq r
def E5 (a:An) (seq:Int) (x:Img):An:=if x.what=255 then { a with homes:=a.homes.set x.zone.toNat { a.homes.getD x.zone.toNat ⟨[],0,0⟩ with root:=seq } } else a
def Ep (a:An) (seq:Int) (l:List Img):An:=l.foldl (fun a x=>E5 a seq x) a
theorem QF (a:An) (seq:Int) (x:Img):(E5 a seq x).homes.length=a.homes.length:=by unfold E5;split <;> simp
theorem Pa (seq:Int):∀ (l:List Img) (a:An),(Ep a seq l).homes.length=a.homes.length
 | [],_=>rfl
 | x::r,a=>by
  show (Ep (E5 a seq x) seq r).homes.length=_;rw [Pa seq r,QF]
theorem SO {g:Geo} {a:An} {seq:Int} {x:Img} (ha:B7 g a=true) (hs:0<=seq/\seq<=4294967295):B7 g (E5 a seq x)=true:=by
 unfold E5;split
 ·by_cases hi:x.zone.toNat<a.homes.length
  ·simp only [B7,Ad,decide_eq_true_eq,Av] at ha |-
   obtain⟨q1,q2,q3,q4,q5,q6,q7⟩:=ha;refine⟨q1,q2,q3,q4,q5,by rw [Bl];exact q6,fun y hy=>?_⟩;rcases Cd hy with h | rfl
   ·exact q7 y h
   ·have hh:=q7 _ (AC (d:=(⟨[],0,0⟩:Hm)) hi);simp only [EP,Ad] at hh |-
    exact⟨hh.1,hh.2.1,AK.2 hs,hh.2.2.2⟩
  ·rw [List.set_eq_of_length_le (by omega)];exact ha
 ·exact ha
theorem Ll {g:Geo} {seq:Int} (hs:0<=seq/\seq<=4294967295):∀ (l:List Img) {a:An},B7 g a=true->B7 g (Ep a seq l)=true
 | [],_,h=>h
 | x::r,_,h=>Ll hs r (SO h hs)
def Pe (g:Geo) (a:An) (x:Tx):An:={ Ep a x.seq x.images with gen:=a.gen+1,pos:=(x.pos+x.n).tmod g.sl,seq:=a.seq+1,last:=max a.last a.seq }
theorem Jd (seq:Int):∀ (l:List Img) (a:An),(Ep a seq l).gen=a.gen/\(Ep a seq l).epoch=a.epoch/\(Ep a seq l).pos=a.pos/\(Ep a seq l).seq=a.seq/\(Ep a seq l).last=a.last/\(Ep a seq l).label=a.label
 | [],_=>tA
 | x::r,a=>by
  obtain⟨h1,h2,h3,h4,h5,h6⟩:=Jd seq r (E5 a seq x);have e:(E5 a seq x).gen=a.gen/\(E5 a seq x).epoch=a.epoch/\(E5 a seq x).pos=a.pos/\(E5 a seq x).seq=a.seq/\(E5 a seq x).last=a.last/\(E5 a seq x).label=a.label:=by unfold E5;split <;> exact tA
  obtain⟨e1,e2,e3,e4,e5,e6⟩:=e;exact⟨h1.trans e1,h2.trans e2,h3.trans e3,h4.trans e4,h5.trans e5,h6.trans e6⟩
theorem U2 {g:Geo} {a:An} {x:Tx} (hg:Bq g=true) (ha:B7 g a=true) (h1:a.gen<4294967295) (h2:a.seq<4294967295) (hx:x.seq=a.seq) (hp:0<=x.pos) (hn:0<=x.n):B7 g (Pe g a x)=true:=by
 obtain⟨g1,g2,g3,g4,g5⟩:=A2.1 hg;have hh:=ha;simp only [B7,AR,BA,B6,Ad,decide_eq_true_eq,AK] at hh;obtain⟨⟨w1,w2,w3,w4⟩,q2,q3,q4,q5,q6,q7⟩:=hh;have hu:=Ll (g:=g) (seq:=x.seq) (by omega) x.images ha;obtain⟨_,e2,_,_,_,e6⟩:=Jd x.seq x.images a;simp only [B7,AR,BA,B6,Ad,decide_eq_true_eq,AK] at hu |-
 obtain⟨_,_,_,_,u5,u6,u7⟩:=hu;have hm0:0<=(x.pos+x.n).tmod g.sl:=BF _ (by omega);have hm1:(x.pos+x.n).tmod g.sl<g.sl:=Bz _ (by omega);refine⟨⟨?_,?_,?_,?_⟩,?_,?_,?_,u5,u6,u7⟩
 ·show 0<=a.gen+1/\a.gen+1<=_;omega
 ·show 0<=(Ep a x.seq x.images).epoch/\(Ep a x.seq x.images).epoch<=_;rw [e2];exact w2
 ·show 0<=a.seq+1/\a.seq+1<=_;omega
 ·show 0<=max a.last a.seq/\max a.last a.seq<=_;omega
 ·show 1<=a.seq+1;omega
 ·show a.seq+1 - 1<=max a.last a.seq;omega
 ·show 0<=(x.pos+x.n).tmod g.sl/\(x.pos+x.n).tmod g.sl<=g.sl - 1;omega
theorem OneTab.eq:∀ {l:List Img} (_:OneTab l) {x y:Img},x∈l->y∈l->x.what=255->y.what=255->x.zone=y.zone->x=y
 | w::l,h,x,y,hx,hy,h1,h2,h3=>by
  obtain⟨q1,q2⟩:=List.pairwise_cons.1 h;rcases AQ.1 hx with ex | mx
  ·rcases AQ.1 hy with ey | my
   ·rw [ex,ey]
   ·rw [ex] at h1 h3;exact absurd h3 (q1 y my h1 h2)
  ·rcases AQ.1 hy with ey | my
   ·rw [ey] at h2 h3;exact absurd h3.symm (q1 x mx h2 h1)
   ·exact OneTab.eq q2 mx my h1 h2 h3
theorem LN {g:Geo} {a:An} {seq:Int} {w:Wr}:∀ {l:List Img},w∈LO g a seq l↔∃ x∈l,w∈Vz g a seq x
 | []=>by simp [LO]
 | x::r=>by
  rw [LO,Az,LN];simp
theorem JZ {g:Geo} {x:Img} (h:BW g x=true):(0<=x.zone/\x.zone<g.z)/\(x.what≠255-> -1<=x.what/\x.what<g.d/\x.bytes.length=8):=by
 simp only [BW,Ad,AK] at h;refine⟨by omega,fun hw=>?_⟩;have h2:=h.2.2;rw [if_neg hw,Ad,AK,decide_eq_true_eq] at h2;omega
theorem Sv {g:Geo} {a:An} (ha:B7 g a=true) {z:Int} (hz:0<=z/\z<g.z):z.toNat<a.homes.length/\EP g (a.homes.getD z.toNat ⟨[],0,0⟩)=true:=by
 simp only [B7,Ad,decide_eq_true_eq,Av] at ha;obtain⟨_,_,_,_,_,q6,q7⟩:=ha;have hi:z.toNat<a.homes.length:=by omega
 exact⟨hi,q7 _ (AC (d:=(⟨[],0,0⟩:Hm)) hi)⟩
theorem M7 {g:Geo} (hg:Bq g=true) {a:An} (ha:B7 g a=true) {z w:Int} (hz:0<=z/\z<g.z) (hw : -1<=w/\w<g.d):∃ s,D3 g a z w=Cw g z s/\0<=s/\s<CK g:=by
 obtain⟨g1,g2,g3,g4,g5⟩:=A2.1 hg;obtain⟨hi,hh⟩:=Sv ha hz;simp only [EP,Ad,decide_eq_true_eq,AK] at hh;obtain⟨p1,p2,p3,p4⟩:=hh;have hat:0<=E4 g w/\E4 g w<=g.d:=by unfold E4;split <;> omega
 refine⟨_,rfl,?_⟩;have hk:(E4 g w).toNat<(a.homes.getD z.toNat ⟨[],0,0⟩).places.length:=by omega
 have hp:=Av.1 p4 (E4 g w).toNat (by simpa using hk);simp only [Ad,AK] at hp;unfold CK;omega
theorem KW {g:Geo} (hg:Bq g=true) {z s:Int} (hz:0<=z/\z<g.z) (hs:0<=s/\s<CK g):g.an+2*g.sl+2*g.z<=Cw g z s/\Cw g z s<A7 g:=by
 obtain⟨g1,g2,g3,g4,g5⟩:=A2.1 hg;have hp:=Hs hg;have h1:=IZ hg (z:=z) (by omega);have h2:z*CK g+CK g<=g.z*CK g:=by
  have:=BQ (show z+1<=g.z by omega) (show 0<=CK g by omega);rw [Int.add_mul,Int.one_mul] at this;exact this
 unfold Cw A7;omega
theorem QK {g:Geo} (hg:Bq g=true) {z k:Int} (hz:0<=z/\z<g.z) (hk:0<=k/\k<=1):g.an+2*g.sl<=Bf g z k/\Bf g z k<g.an+2*g.sl+2*g.z/\Bf g z k<A7 g:=by
 obtain⟨g1,g2,g3,g4,g5⟩:=A2.1 hg;have hp:=Hs hg;have h1:=IZ hg (z:=g.z) (by omega);unfold Bf A7;omega

def GZ (l:List (List UInt8)):AV:= .sl 1 l.length fun i=> [bA (l.getD i [])]
theorem Ku (g:Geo) (A:Int) (hA:0<=A/\A<g.d):Fn Tryz.prog 227 [.ag (Bm g),iA [A]] fun r=>r = .v (.bool true):=by
 refine zT Tryz.func227 rfl ?_;conv=>whnf
 refine zB 2 ?_;conv=>whnf
 refine Ai ⟨by decide,by show (0:Int)<1;decide⟩ ?_;conv=>whnf
 rw [show [A].getD (Int.toNat 0) 0=A from rfl];rw [show decide (A<0)=false from decide_eq_false (by omega)];conv=>whnf
 rw [show decide (A>=g.d)=false from decide_eq_false (by omega)];conv=>whnf
 repeat' (refine zZ ?_;conv=>whnf)
 exact⟨_,ri,rfl⟩
theorem SF (b:List UInt8):Fn Tryz.prog 306 [bA b] fun r=>r = .v (.bool (((b.length:Nat):Int) != 8)):=by
 refine zT Tryz.func306 rfl ?_;exact⟨_,ri,rfl⟩
theorem Y3 (l:List (List UInt8))  (hl:l.length<=1000000):Fn Tryz.prog 316 [GZ l, .v (.func (.func 306) #[] #[])] fun r=>r = iv (Nk (fun b=>(((b.length:Nat):Int) != 8)) l):=by
 refine zT Tryz.func316 rfl ?_;conv=>whnf
 refine zP Nat (fun k=>([(0,GZ l),(1, .v (.func (.func 306) #[] #[])),(7,iv l.length),(8,iv k)], [])) (fun k=>k<=l.length/\(l.take k).any (fun b=>(((b.length:Nat):Int) != 8))=false) (fun k=>l.length - k) 0 ⟨Aj _,by simp⟩ ⟨[],tv,tA,tv,rfl,rfl,rfl⟩ ?_;rintro k ⟨hk,hI⟩;conv=>whnf
 refine Ak (fun h2=>?_) (fun h2=>?_) <;> simp at h2 <;> conv=>whnf
 ·refine⟨by first | omega | (refine⟨rfl,?_,?_⟩ <;> first | omega | (simp only [Aa];done) | (simp only [Aa];omega)) | (simp only [Aa];omega),?_⟩;conv=>whnf
  refine zY (SF (l.getD k [])) ?_;conv=>whnf
  refine Ak (fun h3=>?_) (fun h3=>?_) <;> conv=>whnf
  ·exact⟨_,ri,by rw [Er (d:= []) h2 hI (by first | exact h3 | (rw [Ac] at h3;exact h3) | simpa using h3)]⟩
  ·refine⟨k+1,⟨by omega,Cj (d:= []) h2 hI (by first | exact h3 | (rw [Ac] at h3;exact h3) | simpa using h3)⟩,by omega, [],tv,⟨rfl,rfl,rfl,AT (by omega),tv⟩,tv,rfl,rfl,rfl⟩
 ·exact⟨_,ri,by rw [At h2] at hI;rw [Dz hI]⟩
theorem Y4 (l:List (List UInt8))  (hl:l.length<=1000000):Fn Tryz.prog 244 [GZ l, .v (.func (.func 306) #[] #[])] fun r=>r = .v (.bool (l.any (fun b=>(((b.length:Nat):Int) != 8)))):=by
 refine zT Tryz.func244 rfl ?_;conv=>whnf
 refine zY (Y3 l  hl) ?_;exact⟨_,ri,by rw [FQ]⟩

theorem JJ (l:List (List UInt8)) (hl:l.length<=1000000) (h:∀ b∈l,b.length=8):Fn Tryz.prog 228 [GZ l] fun r=>r = .v (.bool true):=by
 have hc:=Y4 l hl;have e:(l.any fun b=>(((b.length:Nat):Int) != 8))=false:=by
  rw [List.any_eq_false];intro b hb;rw [h b hb];decide
 rw [e] at hc;refine zT Tryz.func228 rfl ?_;conv=>whnf
 refine zY hc ?_;exact⟨_,ri,rfl⟩
theorem SA (b:List UInt8):Fn Tryz.prog 243 [bA b] fun r=>r = .v (.bool ((((b.length:Nat):Int) != 0)&&(((b.length:Nat):Int) != 8))):=by
 refine zT Tryz.func243 rfl ?_;conv=>whnf
 by_cases h:((b.length:Nat):Int)=0
 ·rw [show (((b.length:Nat):Int) != 0)=false from bne_eq_false_iff_eq.2 h];exact⟨_,ri,rfl⟩
 ·rw [show (((b.length:Nat):Int) != 0)=true from bne_iff_ne.2 h];exact⟨_,ri,by rw [BB]⟩
theorem Ys (l:List (List UInt8))  (hl:l.length<=1000000):Fn Tryz.prog 316 [GZ l, .v (.func (.func 243) #[] #[])] fun r=>r = iv (Nk (fun b=>((((b.length:Nat):Int) != 0)&&(((b.length:Nat):Int) != 8))) l):=by
 refine zT Tryz.func316 rfl ?_;conv=>whnf
 refine zP Nat (fun k=>([(0,GZ l),(1, .v (.func (.func 243) #[] #[])),(7,iv l.length),(8,iv k)], [])) (fun k=>k<=l.length/\(l.take k).any (fun b=>((((b.length:Nat):Int) != 0)&&(((b.length:Nat):Int) != 8)))=false) (fun k=>l.length - k) 0 ⟨Aj _,by simp⟩ ⟨[],tv,tA,tv,rfl,rfl,rfl⟩ ?_;rintro k ⟨hk,hI⟩;conv=>whnf
 refine Ak (fun h2=>?_) (fun h2=>?_) <;> simp at h2 <;> conv=>whnf
 ·refine⟨by first | omega | (refine⟨rfl,?_,?_⟩ <;> first | omega | (simp only [Aa];done) | (simp only [Aa];omega)) | (simp only [Aa];omega),?_⟩;conv=>whnf
  refine zY (SA (l.getD k [])) ?_;conv=>whnf
  refine Ak (fun h3=>?_) (fun h3=>?_) <;> conv=>whnf
  ·exact⟨_,ri,by rw [Er (d:= []) h2 hI (by first | exact h3 | (rw [Ac] at h3;exact h3) | simpa using h3)]⟩
  ·refine⟨k+1,⟨by omega,Cj (d:= []) h2 hI (by first | exact h3 | (rw [Ac] at h3;exact h3) | simpa using h3)⟩,by omega, [],tv,⟨rfl,rfl,rfl,AT (by omega),tv⟩,tv,rfl,rfl,rfl⟩
 ·exact⟨_,ri,by rw [At h2] at hI;rw [Dz hI]⟩
theorem Yt (l:List (List UInt8))  (hl:l.length<=1000000):Fn Tryz.prog 244 [GZ l, .v (.func (.func 243) #[] #[])] fun r=>r = .v (.bool (l.any (fun b=>((((b.length:Nat):Int) != 0)&&(((b.length:Nat):Int) != 8))))):=by
 refine zT Tryz.func244 rfl ?_;conv=>whnf
 refine zY (Ys l  hl) ?_;exact⟨_,ri,by rw [FQ]⟩

@[reducible] def zlH (g:Geo) (t:List Ent) (had:List (List UInt8)):List AB:= [.box 348 [iv g.d,BX t,GZ had]]
theorem SC (g:Geo) (t:List Ent) (had:List (List UInt8)) (hg:Bq g=true) (ht:If g t=true) (htl:t.length<=1000) (hh:(had.length:Int)=g.d+1) (h8:∀ b∈had,b.length=8):ACalls Tryz.prog false 168 [.ag (Bm g), .ag [BX t],GZ had] [] fun r H=>r = .tp [.bp 0 0,iv 0]/\H=zlH g t had:=by
 obtain⟨g1,g2,g3,g4,g5⟩:=A2.1 hg;have hc:=MS g t (by omega);rw [ht] at hc;have hz:=Yt had (by omega);have e:(had.any fun b=>((((b.length:Nat):Int) != 0)&&(((b.length:Nat):Int) != 8)))=false:=by
  rw [List.any_eq_false];intro b hb;rw [h8 b hb];decide
 rw [e] at hz;refine zU tys_ok Tryz.func168 rfl rfl (Ae rfl) ?_;conv=>whnf
 refine zY hc ?_;conv=>whnf
 rw [show (((had.length:Nat):Int) != IntKind.i64.wrap (g.d+1))=false from bne_eq_false_iff_eq.2 (by rw [wi (by omega)];exact hh)];conv=>whnf
 refine zY hz ?_;exact⟨_, .tp [.bp 0 0,iv 0],zlH g t had,fun _ _ h=>h,zQ (s:= [2]) tA,rfl,rfl⟩
theorem SB (g:Geo) (t:List Ent) (had:List (List UInt8)) (i:Nat) (ht:i<t.length) (hi:i<had.length) (h8:∀ b∈had,b.length=8) (hlo:(t.getD i ez).lost=false):ACalls Tryz.prog false 169 [.bp 0 0,iv (i:Nat)] (zlH g t had) fun r H=>r = .tp [bA (had.getD i []), .v (.bool true)]/\H=zlH g t had:=by
 have hb:=h8 _ (AC (d:=([]:List UInt8)) hi);have hc:=BS (had.getD i []) (by omega);have ixA:(0:Int)<=(i:Nat)/\((i:Nat):Int)<(t.length:Nat):=by omega
 have ixB:(0:Int)<=(i:Nat)/\((i:Nat):Int)<(had.length:Nat):=by omega
 refine zU tys_ok Tryz.func169 rfl rfl (Ae rfl) ?_;refine⟨ixA,?_⟩;conv=>whnf
 rw [Ac,show (t.getD i ⟨0,0,false⟩).lost=false from hlo];refine⟨ixB,?_⟩;conv=>whnf
 rw [show decide ((((had.getD (((i:Nat):Int)).toNat []).length:Nat):Int) > 0)=true from decide_eq_true (by rw [Ac];omega)];refine⟨ixB,?_⟩;conv=>whnf
 refine zY hc ?_;exact⟨_, .tp [bA (had.getD i []), .v (.bool true)],zlH g t had,fun _ _ h=>h,zQ (s:= [0]) tA,rfl,rfl⟩
def FL (L b:List UInt8) (k:Nat):List UInt8:=GT (L.take k) (b.take k) ++ L.drop k
theorem T6 {L b:List UInt8} (h:L.length<=b.length) (k:Nat):(FL L b k).length=L.length:=by
 simp only [FL,Ah,FW,Aq,Al];omega
theorem T7 {L b:List UInt8} {k:Nat} (h:k<L.length) (h2:L.length<=b.length):(FL L b k).getD k 0=L.getD k 0:=by
 have e:(GT (L.take k) (b.take k)).length=k:=by rw [FW,Aq,Aq];omega
 rw [FL,Ab,AL (by omega),e,B9,Cq,Ca,<-Ab]
theorem T5 {L b:List UInt8} {k:Nat} (h:k<L.length) (h2:L.length<=b.length):(FL L b k).set k (L.getD k 0 ^^^ b.getD k 0)=FL L b (k+1):=by
 have e:(GT (L.take k) (b.take k)).length=k:=by rw [FW,Aq,Aq];omega
 have e2:GT (L.take (k+1)) (b.take (k+1))=GT (L.take k) (b.take k) ++ [L.getD k 0 ^^^ b.getD k 0]:=by
  rw [Bh,Bh,Af h,Af (by omega),GT,List.zipWith_append (by rw [Aq,Aq];omega),Ab,Ab,Af h,Af (show k<b.length by omega)];try rfl
 rw [FL,FL,C5 _ _ (by omega),e,B9,BE h,e2,AA];try rfl
theorem T8 {L b:List UInt8} (h:L.length=b.length):FL L b L.length=GT L b:=by
 rw [FL,List.drop_length,AE,A6,h,A6]
theorem S8 {l:List UInt8} {k:Nat} (h:k<l.length):(l.map EI).getD k []=EI (l.getD k 0):=AP h
theorem Ul (L b:List UInt8) (h:L.length=b.length) (hl:L.length<=1000000):ACalls Tryz.prog false 309 [.ow 0 L.length,bA b] [.row 5 1 (L.map EI)] fun r H=>r = .tp []/\H=[.row 5 1 ((GT L b).map EI)]:=by
 refine zU tys_ok Tryz.func309 rfl rfl (Ae rfl) ?_;conv=>whnf
 refine zR Nat (fun k=>([(0, .ow 0 L.length),(6,bA b),(7,iv (b.length:Nat)),(8,iv (k:Nat))], [.row 5 1 ((FL L b k).map EI)])) (fun k=>k<=b.length) (fun k=>b.length - k) 0 (Aj _)
  (zQ (s:= [0]) tA) ?_
 intro k hk;conv=>whnf
 refine AS (fun h6=>?_) (fun h6=>?_) <;> (repeat rw [Ac] at h6) <;> conv=>whnf
 ·have hk':k<b.length:=by omega
  have hml:=T6 (L:=L) (b:=b) (by omega) k;repeat' (refine zZ ?_;conv=>whnf)
  refine⟨⟨by omega,by omega⟩,?_⟩;conv=>whnf
  repeat' (refine zZ ?_;conv=>whnf)
  refine⟨⟨by omega,by omega⟩,?_⟩;refine⟨⟨rfl,by rw [Aa,hml],by omega⟩,?_⟩;rw [Ac,S8 (by omega),T7 (by omega) (by omega)];refine⟨⟨by omega,by omega⟩,?_⟩;refine⟨⟨rfl,by rw [Aa,hml],by omega⟩,?_⟩;rw [Ac,S8 (by omega)];refine⟨k+1,hk',by omega,zQ (s:= [0]) ⟨⟨rfl,rfl,rfl,AT (by omega),tv⟩,⟨?_,tv⟩,rfl,rfl,rfl,rfl,rfl⟩⟩;have e:((FL L b k).map EI).set k (EI (L.getD k 0 ^^^ b.getD k 0))=(FL L b (k+1)).map EI:=by rw [<-List.map_set,T5 (by omega) (by omega)]
  have ex:=Y0 (L.getD k 0) (b.getD k 0).toNat (b.getD k 0).toNat_lt;rw [UInt8.ofNat_toNat] at ex;rw [<-e];show some (AB.row _ _ _)=some (AB.row _ _ _);rw [show EI (L.getD k 0 ^^^ b.getD k 0)=[AV.v (.int .u8 ((L.getD k 0 ^^^ b.getD k 0).toNat:Nat))] from rfl,<-ex]
 ·have ek:k=b.length:=by omega
  subst ek;exact⟨_, .tp [], [.row 5 1 ((GT L b).map EI)],fun _ _ h=>h,zQ (s:= [0]) ⟨tA,⟨congrArg (fun z=>some (AB.row 5 1 (List.map EI z))) (show FL L b b.length=GT L b by rw [<-h];exact T8 h),tv⟩,rfl,rfl,rfl,rfl,rfl⟩,rfl,rfl⟩
theorem SD (l:List (List UInt8)) (hl:l.length<=1000000) (h:∀ b∈l,b.length=8):Fn Tryz.prog 308 [iv 8,GZ l] fun r=>r = .v (.bool true):=by
 refine zT Tryz.func308 rfl ?_;conv=>whnf
 refine zR Nat (fun k=>([(0,iv 8),(7,GZ l),(8,iv (l.length:Nat)),(9,iv (k:Nat))], [])) (fun k=>k<=l.length) (fun k=>l.length - k) 0 (Aj _)
  (zQ (s:= []) tA) ?_
 intro k hk;conv=>whnf
 refine AS (fun h6=>?_) (fun h6=>?_) <;> (repeat rw [Ac] at h6) <;> conv=>whnf
 ·have hk':k<l.length:=by omega
  have h8:=h _ (AC (d:=([]:List UInt8)) hk');repeat' (refine zZ ?_;conv=>whnf)
  refine⟨⟨by omega,by omega⟩,?_⟩;conv=>whnf
  repeat' (refine zZ ?_;conv=>whnf)
  rw [show (((l.getD (k:Int).toNat []).length:Int) != 8)=false from bne_eq_false_iff_eq.2 (by rw [Ac,h8];try rfl)];exact⟨k+1,hk',by omega,zQ (s:= []) ⟨⟨rfl,rfl,rfl,AT (by omega),tv⟩,tv,rfl,rfl,rfl,rfl,rfl⟩⟩
 ·exact⟨_,ri,rfl⟩
def KI (l:List (List UInt8)):List UInt8:=l.foldl GT zero8
theorem xorL_len:∀ (l:List (List UInt8)) (a:List UInt8),a.length=8->(∀ b∈l,b.length=8)->(l.foldl GT a).length=8
 | [],_,h,_=>h
 | b::l,a,h,hl=>xorL_len l _ (by rw [FW,h,hl b (by simp)];rfl) fun c hc=>hl c (by simp [hc])
theorem WA (l:List (List UInt8)) (hl:l.length<=1000000) (h:∀ b∈l,b.length=8):Fn Tryz.prog 231 [GZ l,iv 8] fun r=>r = .tp [bA (KI l),iv 0]:=by
 have ha:=SD l hl h;refine zT Tryz.func231 rfl ?_;conv=>whnf
 refine zY ha ?_;refine⟨⟨rfl,by decide,by decide⟩,?_⟩;conv=>whnf
 refine zR Nat (fun k=>([(0,GZ l),(6, .ow 0 8),(23,GZ l),(24,iv (l.length:Nat)),(25,iv (k:Nat))], [.row 5 1 ((KI (l.take k)).map EI)])) (fun k=>k<=l.length) (fun k=>l.length - k) 0 (Aj _)
  (zQ (s:= [0]) tA) ?_
 intro k hk;conv=>whnf
 refine AS (fun h6=>?_) (fun h6=>?_) <;> (repeat rw [Ac] at h6) <;> conv=>whnf
 ·have hk':k<l.length:=by omega
  have h8:=h _ (AC (d:=([]:List UInt8)) hk');have hx:(KI (l.take k)).length=8:=xorL_len _ _ rfl fun b hb=>h b (Bo hb)
  have hi:=Ul (KI (l.take k)) (l.getD k []) (by omega) (by omega);rw [hx] at hi;have hs:GT (KI (l.take k)) (l.getD k [])=KI (l.take (k+1)):=by
   unfold KI;rw [Bh,Cb,Ab,Af hk'];try rfl
  rw [hs] at hi;repeat' (refine zZ ?_;conv=>whnf)
  refine⟨⟨by omega,by omega⟩,?_⟩;conv=>whnf
  rw [Ac];repeat' (refine zZ ?_;conv=>whnf)
  refine hi.mono ?_;rintro _ _ ⟨rfl,rfl⟩;exact⟨k+1,hk',by omega,zQ (s:= [0]) ⟨⟨rfl,rfl,rfl,rfl,AT (by omega),tv⟩,tA,rfl,rfl,rfl,rfl,rfl⟩⟩
 ·have ek:k=l.length:=by omega
  subst ek;have hx:(KI l).length=8:=xorL_len _ _ rfl h;rw [A6];refine⟨(by rw [Aa,hx]),?_⟩;exact⟨.tp [bA (KI l),iv 0],BV (m:= [bA (KI l),iv 0]) ⟨KV hx.symm rfl,ri,tv⟩,rfl⟩
theorem Qf (stamp:Int) (b:List UInt8) (hs:0<=stamp/\stamp<=4294967295) (hb:b.length=8):Fn Tryz.prog 230 [iv stamp,bA b] fun r=>r = .tp [.ag (Dr ⟨stamp,(DG b:Nat),false⟩),iv 0]:=by
 have h1:=Ji b;refine zT Tryz.func230 rfl ?_;conv=>whnf
 rw [show decide (stamp<0)=false from decide_eq_false (by omega)];conv=>whnf
 rw [show decide (stamp > 4294967295)=false from decide_eq_false (by omega)];conv=>whnf
 rw [show ((b.length:Int) != 8)=false from bne_eq_false_iff_eq.2 (by rw [hb];try rfl)];conv=>whnf
 refine zY h1 ?_;exact⟨_,ri,rfl⟩
theorem VT (l:List Ent) (hl:l.length<=1000000000):ACalls Tryz.prog false 307 [BX l] [] fun r H=>r = .ow 0 l.length/\H=[.row 189 3 (l.map Dr)]:=by
 refine zJ tys_ok Tryz.func307 rfl rfl (by show 1<=_;decide) ?_;refine Ai (fun h=>?_) ?_
 ·conv=>whnf
  have h0:=AG.1 h;subst h0;exact⟨_, .ow 0 0, [.row 189 3 []],fun _ _ h=>h,zL ⟨[(0,189,3)],tA,tA,tA,rfl,rfl,rfl⟩,rfl,rfl⟩
 ·refine⟨⟨rfl,by omega⟩,?_⟩;exact⟨.ow 0 l.length, .ow 0 l.length, [.row 189 3 (l.map Dr)],fun _ _ h=>by rwa [Au] at h,zL ⟨[],tv,tA,⟨(congrArg (AB.row _ _) (JR (d:=(⟨0,0,false⟩:Ent)) Dr l)).symm,tv⟩,rfl,rfl,rfl⟩,rfl,rfl⟩
theorem SR (t:List Ent) (ht:t.length<=1000000):ACalls Tryz.prog false 229 [.ag [BX t]] [] fun r H=>r = .ag [.ow 0 t.length]/\H=[.row 189 3 (t.map Dr)]:=by
 have h1:=VT t (by omega);refine zU tys_ok Tryz.func229 rfl rfl (Ae rfl) ?_;conv=>whnf
 refine zX h1 rfl ?_;rintro _ _ ⟨rfl,rfl⟩;exact⟨.ag [.ow 2 t.length], .ag [.ow 0 t.length], [.row 189 3 (t.map Dr)],fun _ _ h=>h,zQ (s:= [2]) tA,rfl,rfl⟩
section
variable (g:Geo) (t:List Ent) (had:List (List UInt8)) (ats:List Int) (bs:List (List UInt8)) (stamp:Int)
def FO (i:Nat):List Ent:=(List.range i).map (Of g t had ats bs stamp) ++ t.drop i
theorem P6 {i:Nat} (h:i<=t.length):(FO g t had ats bs stamp i).length=t.length:=by simp [FO];omega
theorem L5 {i:Nat} (h:i<t.length) (e:Ent):(FO g t had ats bs stamp i).set i e=(List.range i).map (Of g t had ats bs stamp) ++ e::t.drop (i+1):=by
 rw [FO,C5 _ _ (by simp),Aa,CH,B9,BE h];try rfl
theorem YC {i:Nat} (h:i<t.length):(FO g t had ats bs stamp i).set i (t.getD i ez)=FO g t had ats bs stamp i:=by
 rw [L5 g t had ats bs stamp h,FO,BE h,Ab,Af h];try rfl
theorem MZ {i:Nat} (h:i<t.length):(FO g t had ats bs stamp i).set i (Of g t had ats bs stamp i)=FO g t had ats bs stamp (i+1):=by
 rw [L5 g t had ats bs stamp h,FO,By,A0,AA];try rfl
end
inductive TrJ where
 | fin
 | jump (k:Nat)
 | one (i:Nat) (r:TrJ)
 | non
 | alt (i:Nat) (a:TrJ) (r:TrJ)
def TrJ.o (l:List Nat) (t:TrJ):TrJ:=l.foldr .one t
abbrev Seg:=List Nat × Nat × TrJ
def segGet:List Seg->Nat->Option Seg
 | [],_=>none
 | x::_,0=>some x
 | _::r,k+1=>segGet r k
def TrJ.depth (sg:List Seg):TrJ->Nat
 | .fin=>0
 | .jump k=>match segGet sg k with | some s=>s.2.1 | none=>0
 | .one _ r=>r.depth sg+1
 | .non=>0
 | .alt _ a r=>max (a.depth sg+1) (r.depth sg)
def TrJ.alts:TrJ->List Nat
 | .alt i _ r=>i::r.alts
 | _=> []
def eqB:List Bool->List Bool->Bool
 | [], []=>true
 | a::l,b::m=>(a == b)&&eqB l m
 | _,_=>false
theorem eqB_eq:∀ {l m:List Bool},eqB l m=true->l=m
 | [], [],_=>rfl
 | a::l,b::m,h=>by
  simp only [eqB,Ad,beq_iff_eq] at h;rw [h.1,eqB_eq h.2]
 | [],_::_,h=>by simp [eqB] at h
 | _::_, [],h=>by simp [eqB] at h
def eqN:List Nat->List Nat->Bool
 | [], []=>true
 | a::l,b::m=>Nat.beq a b&&eqN l m
 | _,_=>false
theorem eqN_eq:∀ {l m:List Nat},eqN l m=true->l=m
 | [], [],_=>rfl
 | a::l,b::m,h=>by
  simp only [eqN,Ad] at h;rw [Am h.1,eqN_eq h.2]
 | [],_::_,h=>by simp [eqN] at h
 | _::_, [],h=>by simp [eqN] at h
def N6 (n:Nat) (s:List Nat):Array Bool:=s.foldl (fun l i=>l.setIfInBounds i true) (Array.replicate n false)
abbrev Sts:=List (Fr × List AB)
def sget:Sts->Nat->Fr × List AB
 | [],_=>([], [])
 | x::_,0=>x
 | _::r,k+1=>sget r k
section
variable {P:Program} {ops:Array Oper} {B:List Nat} {Q:Exit->Act->World->Prop} {mk:Nat}
def FG (ops:Array Oper) (B:List Nat) (mk:Nat) (sg:List Seg) (me:Nat):TrJ->Bool->Array Bool->Bool
 | .fin,f,l=>f&&(Region.ready .any ops l).isEmpty
 | .jump k,f,l=>f&&Nat.blt me k&&(match segGet sg k with | some s=>eqB l.toList (N6 ops.size s.1).toList | none=>false)
 | .one i r,f,l=>f&&(match ops[i]? with
   | none=>false
   | some o=>match isEff o.op with
    | true=>(match Region.ready .any ops l with | [j]=>Nat.beq i j | _=>false)&&(qM mk i o.op || !Jw ops B mk i)
    | false=>match mk.testBit i with
     | true=>(match Region.ready .any ops l with | [j]=>Nat.beq i j | _=>false)&&(qM mk i o.op || !Jw ops B mk i)
     | false=>Region.free .any ops l i&&(Region.ready .any ops l).contains i)&&FG ops B mk sg me r true (l.setIfInBounds i true)
 | .non,f,_=>!f
 | .alt i a r,f,l=>(!f || eqN (Region.ready .any ops l) (i::r.alts))&&KQ ops B mk i&&FG ops B mk sg me a true (l.setIfInBounds i true)&&FG ops B mk sg me r false l
def P8 (P:Program) (T:Tys) (n mk:Nat) (ops:Array Oper) (ds:List Nat) (st:Sts) (K:Fr->List AB->Prop):TrJ->Fr->List AB->Prop
 | .fin,fr,H=>K fr H
 | .jump k,fr,H=>canonK ds fr fun l=>l=(sget st k).1/\H=(sget st k).2
 | .one i r,fr,H=>E7 P T n mk ops i fr H fun fr H=>P8 P T n mk ops ds st K r fr H
 | .non,_,_=>True
 | .alt i a r,fr,H=>(E7 P T n mk ops i fr H fun fr H=>P8 P T n mk ops ds st K a fr H)/\P8 P T n mk ops ds st K r fr H
def NZ (P:Program) (T:Tys) (n mk:Nat) (ops:Array Oper) (ds:List Nat) (st:Sts) (K:Fr->List AB->Prop):List Seg->Nat->Prop
 | [],_=>True
 | s::r,k=>P8 P T n mk ops ds st K s.2.2 (sget st k).1 (sget st k).2/\NZ P T n mk ops ds st K r (k+1)
def JL (ops:Array Oper) (B:List Nat) (mk:Nat) (sg:List Seg):List Seg->Nat->Bool
 | [],_=>true
 | s::r,k=>FG ops B mk sg k s.2.2 true (N6 ops.size s.1)&&Nat.ble (s.2.2.depth sg) s.2.1&&JL ops B mk sg r (k+1)
variable {T:Tys} {w0:Fl} {M0:Ms} {n d0:Nat} {ce:Ctx}
theorem L6 {ds:List Nat} {st:Sts} {K:Fr->List AB->Prop}:∀ {sg:List Seg} {k0 k:Nat} {s:Seg},NZ P T n mk ops ds st K sg k0->segGet sg k=some s->P8 P T n mk ops ds st K s.2.2 (sget st (k0+k)).1 (sget st (k0+k)).2
 | [],_,_,_,_,h=>by simp [segGet] at h
 | x::r,k0,0,s,h,hs=>by
  simp only [segGet,Option.some.injEq] at hs;subst hs;exact h.1
 | x::r,k0,k+1,s,h,hs=>by
  have:=L6 (k:=k) h.2 hs;rw [show k0+(k+1)=k0+1+k by omega];exact this
theorem Lu {sg0:List Seg}:∀ {sg:List Seg} {k0 k:Nat} {s:Seg},JL ops B mk sg0 sg k0=true->segGet sg k=some s->FG ops B mk sg0 (k0+k) s.2.2 true (N6 ops.size s.1)=true/\s.2.2.depth sg0<=s.2.1
 | [],_,_,_,_,h=>by simp [segGet] at h
 | x::r,k0,0,s,h,hs=>by
  simp only [segGet,Option.some.injEq] at hs;subst hs;simp only [JL,Ad] at h;exact⟨h.1.1,Ae h.1.2⟩
 | x::r,k0,k+1,s,h,hs=>by
  simp only [JL,Ad] at h;have:=Lu (k:=k) h.2 hs;rw [show k0+(k+1)=k0+1+k by omega];exact this
theorem segGet_lt:∀ {sg:List Seg} {k:Nat} {s:Seg},segGet sg k=some s->k<sg.length
 | [],_,_,h=>by simp [segGet] at h
 | _::_,0,_,_=>by simp
 | _::r,k+1,s,h=>by
  have:=segGet_lt (sg:=r) (k:=k) h;simp;omega
def Yq (P:Program) (T:Tys) (ops:Array Oper) (B:List Nat) (mk n:Nat) (Q:Exit->Act->World->Prop) (w0:Fl) (M0:Ms) (ce:Ctx) (st:Sts) (sg:List Seg) (k:Nat):Prop:=
 ∀ (s:Seg) (m:Nat) (c:Ctx) (a:Act),segGet sg k=some s->s.2.1<=m->Cl ops (N6 ops.size s.1)->HS w0 M0 c (sget st k).2->FR w0 c n (sget st k).1 a->Ext ce c->HeldM P ops B mk Q m (N6 ops.size s.1) a c.w
theorem EM (hT:TOk P T) (hB:FN ops B=true) (hns:Region.noSelect ops=true) {ds:List Nat} {st:Sts} {sg:List Seg} {K:Fr->List AB->Prop} (hq:∀ a w,DP w0 M0 ce n K a w->Q .normal a w) (hpan:∀ c a w,¬Q (.panic c) a w) {me:Nat} (hseg:∀ k,me<k->Yq P T ops B mk n Q w0 M0 ce st sg k) :
  ∀ (r:TrJ) (m:Nat) (l:Array Bool) (c:Ctx) (fr:Fr) (H:List AB) (a:Act),Cl ops l->HS w0 M0 c H->FR w0 c n fr a->Ext ce c->P8 P T n mk ops ds st K r fr H->
   (FG ops B mk sg me r true l=true->r.depth sg<=m->HeldM P ops B mk Q m l a c.w)/\
   (FG ops B mk sg me r false l=true->r.depth sg<=m+1->∀ j∈r.alts,j∈Region.ready .any ops l->wpOp P ops Q j (fun a' w'=>(Jw ops B mk j=true->Old c.w w')/\HeldM P ops B mk Q m (l.setIfInBounds j true) a' w') a c.w)
 | .fin,m,l,c,fr,H,a,hcl,hs,hf,he,h=>by
  refine⟨fun hd hm=>?_,fun _ _ j hj=>by simp [TrJ.alts] at hj⟩;simp only [FG,BB,List.isEmpty_iff] at hd;cases m with
  | zero=>exact⟨hd,hq _ _ ⟨c,fr,H,rfl,h,hs,hf,he⟩⟩
  | succ m=>exact⟨fun _=>hq _ _ ⟨c,fr,H,rfl,h,hs,hf,he⟩,by rw [hd];simp⟩
 | .jump k,m,l,c,fr,H,a,hcl,hs,hf,he,h=>by
  refine⟨fun hd hm=>?_,fun _ _ j hj=>by simp [TrJ.alts] at hj⟩;simp only [FG,BB,Ad] at hd;simp only [TrJ.depth] at hm;obtain⟨hlt,hd⟩:=hd;cases hg:segGet sg k with
  | none=>rw [hg] at hd;simp at hd
  | some s=>
   rw [hg] at hd hm;simp only at hd hm;have hl:l=N6 ops.size s.1:=Array.ext' (eqB_eq hd);obtain⟨e1,e2⟩:=canonK_iff h;subst hl;refine hseg k (As (Br me) (Ae hlt)) s m c a hg hm hcl (e2 ▸ hs) (e1 ▸ hf.canon _) he
 | .non,m,l,c,fr,H,a,hcl,hs,hf,he,h=>by
  refine⟨fun hd hm=>by simp [FG] at hd,fun _ _ j hj=>by simp [TrJ.alts] at hj⟩
 | .alt i x r,m,l,c,fr,H,a,hcl,hs,hf,he,h=>by
  obtain⟨h1,h2⟩:=h;have key:∀ m,TrJ.depth sg (.alt i x r)<=m+1->KQ ops B mk i=true->FG ops B mk sg me x true (l.setIfInBounds i true)=true->i∈Region.ready .any ops l->wpOp P ops Q i (fun a' w'=>(Jw ops B mk i=true->Old c.w w')/\HeldM P ops B mk Q m (l.setIfInBounds i true) a' w') a c.w:=by
   intro m hm hk hx hr;simp only [TrJ.depth] at hm;unfold KQ at hk;split at hk
   ·rename_i o ho;refine ER hT ho hk hs hf he (fun c' fr' H' a' q1 q2 q3 q4=>(EM hT hB hns hq hpan hseg x m _ c' fr' H' a' (hcl.set hr) q1 q2 q3 q4).1 hx (by omega)) h1
   ·cases hk
  refine⟨fun hd hm=>?_,fun hd hm j hj hr=>?_⟩
  ·simp only [FG,Bool.not_true,Bool.false_or,Ad] at hd;obtain⟨⟨⟨hr,hi⟩,hx⟩,hy⟩:=hd;have hr':=eqN_eq hr;cases m with
   | zero=>simp only [TrJ.depth] at hm;omega
   | succ m=>
    refine⟨fun h0=>(by rw [hr'] at h0;cases h0),fun j hj=>?_⟩;have hj0:=hj;rw [hr',AQ] at hj;rcases hj with rfl | hj
    ·exact key m hm hi hx hj0
    ·refine(EM hT hB hns hq hpan hseg r m l c fr H a hcl hs hf he h2).2 hy ?_ j hj hj0;simp only [TrJ.depth] at hm;omega
  ·simp only [FG,Bool.not_false,Bool.true_or,BB,Ad] at hd;obtain⟨⟨hi,hx⟩,hy⟩:=hd;simp only [TrJ.alts,AQ] at hj;rcases hj with rfl | hj
   ·exact key m hm hi hx hr
   ·refine(EM hT hB hns hq hpan hseg r m l c fr H a hcl hs hf he h2).2 hy ?_ j hj hr;simp only [TrJ.depth] at hm;omega
 | .one i r,m,l,c,fr,H,a,hcl,hs,hf,he,h=>by
  refine⟨fun hd hm=>?_,fun _ _ j hj=>by simp [TrJ.alts] at hj⟩;cases m with
  | zero=>simp [TrJ.depth] at hm
  | succ m=>
   simp only [TrJ.depth,Nat.add_le_add_iff_right] at hm;simp only [FG,BB,Ad] at hd;obtain⟨hd1,hd2⟩:=hd;simp only [P8] at h;cases ho:ops[i]? with
   | none=>rw [ho] at hd1;simp at hd1
   | some o=>
    rw [ho] at hd1;simp only at hd1;have only:(match Region.ready .any ops l with | [j]=>Nat.beq i j | _=>false)=true->(qM mk i o.op || !Jw ops B mk i)=true->HeldM P ops B mk Q (m+1) l a c.w:=by
     intro hr hmq;have hr':Region.ready .any ops l=[i]:=by
      split at hr
      ·rename_i j hj;rw [hj,Am hr]
      ·cases hr
     have hri:i∈Region.ready .any ops l:=by rw [hr'];simp
     refine⟨fun h0=>(by rw [hr'] at h0;cases h0),fun j hj=>?_⟩;rw [hr',Ay] at hj;subst hj;exact ER hT ho hmq hs hf he (fun c' fr' H' a' q1 q2 q3 q4=>(EM hT hB hns hq hpan hseg r m _ c' fr' H' a' (hcl.set hri) q1 q2 q3 q4).1 hd2 hm) h
    cases hE:isEff o.op with
    | true=>
     rw [hE] at hd1;simp only [Ad] at hd1;exact only hd1.1 hd1.2
    | false=>
     rw [hE] at hd1;dsimp only at hd1;cases hM:mk.testBit i with
     | true=>
      rw [hM] at hd1;simp only [Ad] at hd1;exact only hd1.1 hd1.2
     | false=>
     rw [hM] at hd1;simp only [Ad] at hd1;obtain⟨hfree,hr⟩:=hd1;have hri:i∈Region.ready .any ops l:=by simpa using hr
     simp only [E7,DN] at h;rw [show ops.toList[i]? = some o by simpa using ho] at h;simp only at h;have step:∀ v fr2,YieldsIf P ops (fun w'=>pureOp o.op=true\/Old c.w w') o v a->FR w0 c n fr2 (a.put o.dst v)->P8 P T n mk ops ds st K r fr2 H->HeldM P ops B mk Q (m+1) l a c.w:=by
      intro v fr2 hy hf2 h2;exact HeldM.first1 hB ho hM hE (Region.noSelect_spec hns) (fun c a w h=>(hpan _ _ _ h).elim) m l a c.w hcl (Region.free_spec ho hfree) hri hy
       ((EM hT hB hns hq hpan hseg r m _ c fr2 H _ (hcl.set hri) hs hf2 he h2).1 hd2 hm)
     rcases Dn hf h with ⟨hw,fr',hf',h⟩ | ⟨hw,fr',hf',h⟩
     ·unfold Hf at h;rw [hE] at h;obtain⟨rr,v,h1,h2,h3⟩:=(Gp hT hs hf' h).y;obtain⟨fr2,h4,h5⟩:=Co hf' h3 h1;exact step v fr2 (.inl ⟨hw,h2⟩) h5 h4
     ·obtain⟨fr2,h4,h5⟩:=Co (v:=undef) hf' (by simp [Rd]) h;exact step undef fr2 (.inr ⟨hw,rfl⟩) h5 h4
theorem Lt (hT:TOk P T) (hB:FN ops B=true) (hns:Region.noSelect ops=true) {ds:List Nat} {st:Sts} {sg:List Seg} {K:Fr->List AB->Prop} (hq:∀ a w,DP w0 M0 ce n K a w->Q .normal a w) (hpan:∀ c a w,¬Q (.panic c) a w) (hok:JL ops B mk sg sg 0=true) (h:NZ P T n mk ops ds st K sg 0):∀ (z k:Nat),sg.length<=z+k->Yq P T ops B mk n Q w0 M0 ce st sg k
 | 0,k,hz,s,m,c,a,hg,_,_,_,_,_=>by
  have:=segGet_lt hg;omega
 | z+1,k,hz,s,m,c,a,hg,hm,hcl,hs,hf,he=>by
  obtain⟨h1,h2⟩:=Lu hok hg;have h3:=L6 h hg;rw [Au] at h1 h3;exact(EM hT hB hns hq hpan (fun k' hk'=>Lt hT hB hns hq hpan hok h z k' (by omega)) s.2.2 m _ c _ _ a hcl hs hf he h3).1 h1 (by omega)
def Ym (ops:Array Oper) (mk:Nat) (sg:List Seg):Bool:=FN ops (Kk ops)&&Region.noSelect ops&&(match sg with | ([],d,_)::_=>Nat.ble d ops.size | _=>false)&&JL ops (Kk ops) mk sg sg 0
theorem aDraw.dag (mk:Nat) (hT:TOk P T) (hm:P.follows .mixedOrders=true) {id:Nat} {K:Fr->List AB->Prop} {fr:Fr} {H:List AB} (sg:List Seg) (ds:List Nat) (st:Sts) {F:Fr} {H2:List AB} (hok:Ym ops mk sg=true)
  (h:NZ P T n mk ops (ds ++ slots fr) ((fr,H)::st) (fun fr' H'=>canonK (ds ++ slots fr) fr' fun l=>l=F/\H'=H2) sg 0) (hk:K F H2):aDraw P T n d0 id ops K fr H:=by
 simp only [Ym,Ad] at hok;obtain⟨⟨⟨hB,hns⟩,hlen⟩,hok⟩:=hok;refine⟨fun w0 M0 ce c a hs hf he hd Q hQ=>?_⟩;refine wp_mono (Q:=fun e a w=>e = .normal/\DP w0 M0 ce n (fun fr' H'=>canonK (ds ++ slots fr) fr' fun l=>l=F/\H'=H2) a w) ?_ ?_
 ·refine wp_region_any hm (HeldM.any (B:=Kk ops) (mk:=mk) _ _ _ _ ?_);have hb:=(Below.refl c.w.heap.size c.w).drew;obtain⟨h1,h2⟩:=hs.grow hb;have hcl:Cl ops (Array.replicate ops.size false):=by
   intro j o hj hlj;rcases BT j ops.size with h' | h'
   ·simp [h'] at hlj
   ·simp [B4 h'] at hj
  cases sg with
  | nil=>simp at hlen
  | cons s sg=>
   obtain⟨s1,d,tr⟩:=s;cases s1 with
   | cons _ _=>simp at hlen
   | nil=>
    exact Lt (w0:=w0) (M0:=M0) (ce:=ce) (st:=(fr,H)::st) hT hB hns (fun a w hl=>⟨rfl,hl⟩) (fun c a w h=>by cases h.1) hok h _ 0 (Ag _) ([],d,tr) _ { c with w:=c.w.drew } a rfl (Ae hlen) hcl h1 (hf.ext h2) (he.trans h2)
 ·rintro e a w ⟨rfl,c',fr',H',rfl,h1,h2,h3,h4⟩;obtain⟨e1,rfl⟩:=canonK_iff h1;exact hQ c' F H' a hk h2 (e1 ▸ h3.canon _) h4
end
theorem Sm {d:Dk} (hd:DkOk d) (hl:d.left<0) (k:Nat):Lv d k:=⟨hd.r, .inl hl⟩
theorem Pc (k:Nat) (d:Dk) (l:List Int):B8 (d.tick k) l=B8 d l:=rfl
theorem finL_two:∀ (l:List Wr) (cs:List Cel) (a:Nat),((C4 cs l).getD a cz).state=2↔(cs.getD a cz).state=2:=fun l cs a=>by
 by_cases ha:a<cs.length
 ·by_cases h:(cs.getD a cz).state=2
  ·rw [finL_stuck l cs a ha h]
  ·rcases finL_any l cs a ha with e | ⟨_,e,_⟩
   ·rw [e]
   ·omega
 ·rw [Ab,Ab,AF (by rw [finL_len];omega),AF (by omega)]
theorem VF (l:List Wr) (cs:List Cel):free (C4 cs l)=free cs:=by
 funext w;unfold free;rw [Bool.eq_iff_iff,decide_eq_true_eq,decide_eq_true_eq];exact not_congr (finL_two l cs _)
def LC (g:Geo) (w:List Wr):Nat:=g.an.toNat+2*g.sl.toNat+(if w=[] then 0 else w.length+1)+(g.an.toNat+1)
theorem Og {g:Geo} {d:Dk} {a:An} {j:Nat} {L:List Tx} {w:List Wr} (hg:Bq g=true) (hd:DkOk d) (hn:(d.cells.length:Int)=A7 g) (hc:d.cache=[]) (hl:d.left<0) (hp:Gf g (B8 d (Do g))=some (a,j)) (hs:Hh g a (B8 d (BI g 0)) (B8 d (BI g 1))=(L,w,0)) (h1:a.gen≠4294967295) (h2:a.epoch≠4294967295) (hw1:∀ z∈w,W0 d.cells.length z) (hw2:w.length<=900) :
  JV g d=(⟨C4 (C4 d.cells w) (AU g (Ec a L.length)), [],(d.tick (LC g w)).reqs,d.left⟩,if ((AU g (Ec a L.length)).filter (free d.cells)).length=0 then 14 else 0,if ((AU g (Ec a L.length)).filter (free d.cells)).length=0 then st0 else AO (Ec a L.length) L):=by
 obtain⟨g1,g2,g3,g4,g5⟩:=A2.1 hg;have hao:=K_ hg _ hp;have hlv:∀ k,d.live k:=fun k=> .inl hl
 have htl:∀ k,(d.tick k).left=d.left:=fun k=>if_pos hl
 have hr:=hd.r;unfold JV;rw [if_pos (hlv _),hp];simp only;unfold Rl;rw [JG _ (Sm hd hl _),if_pos (show (d.tick g.an.toNat).live _ from .inl (by rw [htl];exact hl)),Pc,Pc,hs];rw [JG _ (show Lv (d.tick g.an.toNat) (2*g.sl.toNat) from Jh (Sm hd hl _)),FZ _ _ hr.2 (.inl hl)];unfold Rk;simp only [ne_eq,not_true,if_false];have hm:(d.tick (g.an.toNat+2*g.sl.toNat)).mend w=(⟨C4 d.cells w, [],(d.tick (g.an.toNat+2*g.sl.toNat+(if w=[] then 0 else w.length+1))).reqs,d.left⟩,false):=by
  unfold Dk.mend;by_cases hw:w=[]
  ·subst hw;rw [if_pos rfl,if_pos rfl,Ca];simp only [Prod.mk.injEq,and_true];show (d.tick _:Dk)=_;unfold Dk.tick;rw [hc,if_pos hl];try rfl
  ·rw [if_neg hw,if_neg hw,Jr (Jh (Sm hd hl _)) hc (by omega),FZ _ _ hr.2 (.inl hl)];simp only [htl];rfl
 rw [hm];simp only [BU,if_false];unfold Rj;rw [if_neg (by rintro(h | h);exact h1 h;exact h2 h)];obtain⟨K,hK⟩:∃ K,K=g.an.toNat+2*g.sl.toNat+(if w=[] then 0 else w.length+1):=⟨_,rfl⟩;rw [<-hK];have hrk:0<=(d.tick K).reqs/\(d.tick K).reqs<=1048576:=by show 0<=min _ _/\min _ _<=_;omega
 have hlen:=Fh g (Ec a L.length);rw [Jr (d:=⟨C4 d.cells w, [],(d.tick K).reqs,d.left⟩) ⟨hrk, .inl hl⟩ rfl (by omega)];simp only [BU,if_false,VF,hlen];have e1:((⟨C4 d.cells w, [],(d.tick K).reqs,d.left⟩:Dk).tick (g.an.toNat+1)).left=d.left:=if_pos hl;have e2:((⟨C4 d.cells w, [],(d.tick K).reqs,d.left⟩:Dk).tick (g.an.toNat+1)).reqs=(d.tick (LC g w)).reqs:=by
  show min ((d.tick K).reqs+((g.an.toNat+1:Nat):Int)) _=min _ _;show min (min (d.reqs+(K:Nat)) 1048576+((g.an.toNat+1:Nat):Int)) 1048576=min (d.reqs+(LC g w:Nat)) 1048576;unfold LC;omega
 grind
theorem L3 (g:Geo) (l:List Gt):∀ k,(EF g l k=none->∀ i,i<k->DK g (l.getD i ⟨0, []⟩) (i:Nat)=none)/\∀ a j,EF g l k=some (a,j)->j<k/\DK g (l.getD j ⟨0, []⟩) (j:Nat)=some a/\∀ i b,i<k->DK g (l.getD i ⟨0, []⟩) (i:Nat)=some b->b.gen<=a.gen
 | 0=>⟨fun _ i hi=>by omega,fun a j h=>by cases h⟩
 | k+1=>by
  obtain⟨ih1,ih2⟩:=L3 g l k;rw [ID,P1];cases hS:DK g (l.getD k ⟨0, []⟩) (k:Nat) with
  | none=>
   grind
  | some c=>
   grind
theorem RL {g:Geo} {d:Dk} {i:Nat} (hi:i<g.an.toNat):(B8 d (Do g)).getD i ⟨0, []⟩=Ot d (i:Nat):=by
 rw [B8,AP (d:=0) (by rw [E1];exact hi),N9 hi]
theorem QU {g:Geo} {a:An} {i:Nat} (hg:Bq g=true) (ha:B7 g a=true) (hi:(i:Int)<=65535):DK g ⟨0,Dt a i⟩ i=some a:=by
 obtain⟨e1,e2,e3,e4⟩:=Ia (N7 hg ha (i:=(i:Nat)) ⟨by omega,hi⟩);unfold DK;rw [if_pos ⟨rfl,e1,e2⟩];show (match DM g (Cx (Dt a i)) with | some a_1=>if a_1.gen=Cr (Dt a i) then some a_1 else none | none=>none)=_;rw [show Cx (Dt a i)=JE a from e4,Tk hg ha,show Cr (Dt a i)=a.gen from e3];simp
section
variable {g:Geo} {a:An} {fill:UInt8} {sizes:List Int}
end
theorem Hw {g:Geo} {c s:Int} (hc:c=0\/c=1) (hs:0<=s/\s<g.sl):g.an<=Ba g c s/\Ba g c s<g.an+2*g.sl:=by
 unfold Ba
 grind
section
variable {g:Geo} {s:ByteArray} {a:An} {fill:UInt8} {sizes:List Int}
theorem JD {b:An} (hg:Bq g=true) (hb:B7 g b=true) (i:Int):(Dt b i).length<=200:=by
 have:=Kn hg hb;rw [Dt,EK];omega
end
theorem KX {cs:List Cel} {n:Nat} (h:cs.length=n) {k:Nat} (hk:k<n):(cs.map Ci).getD k []=Ci (cs.getD k cz):=AP (by omega)
theorem RU {g:Geo} (hg:Bq g=true):If g (EE g)=true:=by
 obtain⟨g1,g2,g3,g4,g5⟩:=A2.1 hg;have hz:=Jj zero8;simp only [If,hg,EE,Be,Ad,decide_eq_true_eq,BB];refine⟨⟨by omega,?_⟩,?_⟩
 ·rw [Av];intro e he;rw [AY he];simp [Em,ent0,I0,Dv];exact decide_eq_true (by omega)
 ·have:II (List.replicate (g.d+1).toNat ent0) g.d.toNat=false:=by
   unfold II;rw [CB (by omega)];try rfl
  rw [this];try rfl
theorem Uy {g:Geo} (hg:Bq g=true) {a:Int} (ha:0<=a/\a<=65535):Yb a 0 (Di (EE g)):=by
 obtain⟨g1,g2,g3,g4,g5⟩:=A2.1 hg;refine⟨ha.1,ha.2,CC _,by decide,?_⟩;rw [EZ,EE,Be];omega
theorem TP (g:Geo) (s:ByteArray) (hg:Bq g=true) (hs:Ev s.data.toList=0) (hl:s.size<=1000000):Fn Tryz.prog 42 [.ag (Bm g), .v (.string s)] fun r=>r = .tp [.ag (ZO (DI g s)),iv 0]:=by
 obtain⟨g1,g2,g3,g4,g5⟩:=A2.1 hg;have hcg:=En hg;have hp:=Hs hg;have hN:1<=(A7 g).toNat/\(A7 g).toNat<=300:=by
  have:g.z*CK g<=4*7:=Int.mul_le_mul (by omega) (by omega) (by omega) (by omega);unfold A7 at hcg |-
  omega
 have hcN:A7 g=((A7 g).toNat:Int):=by omega
 have hao:=Kg hg hs;have hA:=Uh g s hl;rw [hg,if_pos rfl,if_pos hs,if_pos rfl,hs] at hA;have hC:=TM g hg;rw [hcN] at hC;have hD:=VV (A7 g).toNat hN;refine zT Tryz.func42 rfl ?_;conv=>whnf
 refine zY hA ?_;conv=>whnf
 refine zY hC ?_;conv=>whnf
 refine zX hD rfl ?_;rintro _ _ ⟨rfl,rfl⟩;conv=>whnf
 refine zR Nat (fun k=>([(2, .bp 0 0),(4, .bp 1 0),(5,ze 0),(6, .bp 2 0),(10, .bp 3 0),(51,ze g.an),(52,ze k)], [.box 24 (Bm g), .box 38 [nilV,nilV,ze 0,ze 0], .box 28 (Fp (BN g s)), .box 38 [.ow 4 (A7 g).toNat,nilV,ze 0,ze (-1)], .row 68 3 ((Ea (IS g) ((AU g (BN g s)).take k)).map Ci)])) (fun k=>k<=g.an.toNat) (fun k=>g.an.toNat - k) 0 (Aj _)
  ?_ ?_
 ·refine zK (zO (zm (k:=3) rfl (es':=(IS g).map Ci) (by simp [IS]) fun i=>?_)) (s:= [0,1,2,4,3]) tA;rw [IS,List.map_replicate];by_cases hi:i<(A7 g).toNat
  ·rw [J2 hi,J2 hi];exact⟨fun _ _ h=>h,Bv 1 _,Bv 1 _,tv⟩
  ·rw [Ab,Ab,AF (by simpa using hi),AF (by simpa using hi)];exact SubL.refl _
 ·intro k hk;conv=>whnf
  refine AS (fun h6=>?_) (fun h6=>?_) <;> (repeat rw [Ac] at h6) <;> conv=>whnf
  ·have hk':k<(AU g (BN g s)).length:=by rw [Fh];omega
   have hsx:=Ik (IS g) hk';rw [KH (by omega)] at hsx;have hlx:(Ea (IS g) ((AU g (BN g s)).take k)).length=(A7 g).toNat:=by rw [EC,Mc]
   generalize Ea (IS g) ((AU g (BN g s)).take k)=cs at hsx hlx |-
   have hga:=F7 g k hg (by omega);have hnc:=PD g (BN g s) k hg hao (by omega);have hE:(cs.map Ci).getD (k:Int).toNat []=Ci (cs.getD (k:Int).toNat cz):=KX hlx (by omega);repeat' (refine zZ ?_;conv=>whnf)
   refine zY hga ?_;conv=>whnf
   apply zW (0) tys_ok mixed (.o [0,1,2,3,4,5,6,7,8,9,10,11,12] .fin) (by kernel_rfl);conv=>whnf
   refine zY hnc ?_;conv=>whnf
   try (refine tI ?_;conv=>whnf)
   try (refine tS ?_;conv=>whnf)
   (first | rw [hE] | skip)
   conv=>whnf
   exact⟨k+1,by omega,by omega,zQ (s:= [0,1,2,3,4]) ⟨⟨rfl,rfl,rfl,rfl,rfl,rfl,AT (by omega),tv⟩,⟨rfl,rfl,rfl,rfl,congrArg (fun l=>some (AB.row _ _ l)) (by rw [hsx,J3];try rfl),tv⟩,rfl,rfl,rfl,rfl,rfl⟩⟩
  ·have ek:k=(AU g (BN g s)).length:=by rw [Fh];omega
   rw [ek,A6];refine zR Nat (fun c=>([(2, .bp 0 0),(4, .bp 1 0),(5,ze 0),(6, .bp 2 0),(10, .bp 3 0),(74,ze c)], [.box 24 (Bm g), .box 38 [nilV,nilV,ze 0,ze 0], .box 28 (Fp (BN g s)), .box 38 [.ow 4 (A7 g).toNat,nilV,ze 0,ze (-1)], .row 68 3 ((Oy g s c).map Ci)])) (fun c=>c<=2) (fun c=>2 - c) 0 (Aj _)
    (zQ (s:= [0,1,2,3,4]) tA) ?_
   intro c hc;conv=>whnf
   refine AS (fun h7=>?_) (fun h7=>?_) <;> (repeat rw [Ac] at h7) <;> conv=>whnf
   ·have hc01:(c:Int)=0\/(c:Int)=1:=by omega
    repeat' (refine zZ ?_;conv=>whnf)
    refine zR Nat (fun i=>([(2, .bp 0 0),(4, .bp 1 0),(5,ze 0),(6, .bp 2 0),(10, .bp 3 0),(15,ze c),(74,ze c),(78,ze g.sl),(79,ze i)], [.box 24 (Bm g), .box 38 [nilV,nilV,ze 0,ze 0], .box 28 (Fp (BN g s)), .box 38 [.ow 4 (A7 g).toNat,nilV,ze 0,ze (-1)], .row 68 3 ((Ea (Oy g s c) ((G9 g c).take i)).map Ci)])) (fun i=>i<=g.sl.toNat) (fun i=>g.sl.toNat - i) 0 (Aj _)
     (zQ (s:= [0,1,2,3,4]) tA) ?_
    intro i hi;conv=>whnf
    refine AS (fun h8=>?_) (fun h8=>?_) <;> (repeat rw [Ac] at h8) <;> conv=>whnf
    ·have hlw:(G9 g c).length=g.sl.toNat:=by simp [G9]
     have hi':i<(G9 g c).length:=by omega
     have hsx:=Ik (Oy g s c) hi';rw [show (G9 g c).getD i ⟨0, []⟩=⟨Ba g c (i:Nat),B5 g zeroC c (i:Nat)⟩ from JQ (by omega)] at hsx;have hlx:(Ea (Oy g s c) ((G9 g c).take i)).length=(A7 g).toNat:=by rw [EC,Mb]
     generalize Ea (Oy g s c) ((G9 g c).take i)=cs at hsx hlx |-
     have hla:=Rn g c i hg hc01 (by omega);have hin:=EA (n:=(A7 g).toNat) hg hcN.symm hc01 (s:=i) (by omega);have hrc:=L2 g zeroC c i (by decide);rw [Ey hg,show IY g c i=true by simp only [IY,Ad,AK];omega] at hrc;have hE:(cs.map Ci).getD (Ba g c i).toNat []=Ci (cs.getD (Ba g c i).toNat cz):=KX hlx (by omega);repeat' (refine zZ ?_;conv=>whnf)
     refine zY hla ?_;conv=>whnf
     apply zW (0) tys_ok mixed (.o [0,1,2,3,4,5,6,7,8,9,10,11,12,13] .fin) (by kernel_rfl);conv=>whnf
     (refine zV [.ag (Bm g), .ag (Hq zeroC),ze c,ze i] (by repeat' (first | exact trivial | exact fun _ _ h=>h | exact Bv _ _ | refine Ai ?_ ?_ | refine Bg ?_)) ?_;refine zY hrc ?_)
     conv=>whnf
     try (refine tI ?_;conv=>whnf)
     try (refine tS ?_;conv=>whnf)
     (first | rw [hE] | skip)
     conv=>whnf
     exact⟨i+1,by omega,by omega,zQ (s:= [0,1,2,3,4]) ⟨⟨rfl,rfl,rfl,rfl,rfl,rfl,rfl,rfl,AT (by omega),tv⟩,⟨rfl,rfl,rfl,rfl,congrArg (fun l=>some (AB.row _ _ l)) (by rw [hsx,J3];try rfl),tv⟩,rfl,rfl,rfl,rfl,rfl⟩⟩
    ·have ei:i=(G9 g c).length:=by simp [G9];omega
     repeat' (refine zZ ?_;conv=>whnf)
     exact⟨c+1,by omega,by omega,zQ (s:= [0,1,2,3,4]) ⟨⟨rfl,rfl,rfl,rfl,rfl,AT (by omega),tv⟩,⟨rfl,rfl,rfl,rfl,by rw [ei,A6];try rfl,tv⟩,rfl,rfl,rfl,rfl,rfl⟩⟩
   ·have ec:c=2:=by omega
    subst ec;have hT:=ST g hg;have hB:=JI g (EE g) (by rw [EE,Be];omega);rw [RU hg] at hB;refine zY hT ?_;conv=>whnf
    refine zY hB ?_;conv=>whnf
    refine zR Nat (fun z=>([(2, .bp 0 0),(4, .bp 1 0),(5,ze 0),(6, .bp 2 0),(10, .bp 3 0),(21,bA (Di (EE g))),(116,ze g.z),(117,ze z)], [.box 24 (Bm g), .box 38 [nilV,nilV,ze 0,ze 0], .box 28 (Fp (BN g s)), .box 38 [.ow 4 (A7 g).toNat,nilV,ze 0,ze (-1)], .row 68 3 ((GX g s z).map Ci)])) (fun z=>z<=g.z.toNat) (fun z=>g.z.toNat - z) 0 (Aj _)
     (zQ (s:= [0,1,2,3,4]) tA) ?_
    intro z hz;conv=>whnf
    refine AS (fun h9=>?_) (fun h9=>?_) <;> (repeat rw [Ac] at h9) <;> conv=>whnf
    ·have htb:∀ k:Nat,k<2->0<=Bf g z k/\Bf g z k<((A7 g).toNat:Int):=fun k hk=>by unfold Bf;omega
     have hmul:(z:Int)*CK g<=(g.z - 1)*CK g:=BQ (by omega) (by omega);have hz0:0<=(z:Int)*CK g:=Dc (by omega) (by omega);have hsb:∀ k:Nat,(k:Int)<CK g->0<=Cw g z k/\Cw g z k<((A7 g).toNat:Int):=fun k hk=>by
      rw [<-hcN];unfold Cw A7;rw [Int.sub_mul,Int.one_mul] at hmul;omega
     repeat' (refine zZ ?_;conv=>whnf)
     refine zR Nat (fun k=>([(2, .bp 0 0),(4, .bp 1 0),(5,ze 0),(6, .bp 2 0),(10, .bp 3 0),(21,bA (Di (EE g))),(23,ze z),(116,ze g.z),(117,ze z),(120,ze k)], [.box 24 (Bm g), .box 38 [nilV,nilV,ze 0,ze 0], .box 28 (Fp (BN g s)), .box 38 [.ow 4 (A7 g).toNat,nilV,ze 0,ze (-1)], .row 68 3 ((Ea (GX g s z) ((Iq g z).take k)).map Ci)])) (fun k=>k<=2) (fun k=>2 - k) 0 (Aj _)
      (zQ (s:= [0,1,2,3,4]) tA) ?_
     intro k hk;conv=>whnf
     refine AS (fun h10=>?_) (fun h10=>?_) <;> (repeat rw [Ac] at h10) <;> conv=>whnf
     ·have hlw:(Iq g z).length=2:=by simp [Iq]
      have hk':k<(Iq g z).length:=by omega
      have hsx:=Ik (GX g s z) hk';rw [show (Iq g z).getD k ⟨0, []⟩=⟨Bf g z (k:Nat),CF (Bf g z (k:Nat)) 0 (Di (EE g))⟩ from JQ (by omega)] at hsx;have hlx:(Ea (GX g s z) ((Iq g z).take k)).length=(A7 g).toNat:=by rw [EC,Gm]
      generalize Ea (GX g s z) ((Iq g z).take k)=cs at hsx hlx |-
      have hgt:=Kc g z k hg (by omega) (by omega);have hin:=htb k (by omega);have hmk:=Jk (Bf g z k) 0 (Di (EE g)) (Uy hg (by omega));have hE:(cs.map Ci).getD (Bf g z k).toNat []=Ci (cs.getD (Bf g z k).toNat cz):=KX hlx (by omega);repeat' (refine zZ ?_;conv=>whnf)
      refine zY hgt ?_;conv=>whnf
      apply zW (0) tys_ok mixed (.o [0,1,2,3,4,5,6,7,8,9,10,11,12] .fin) (by kernel_rfl);conv=>whnf
      refine zY hmk ?_;conv=>whnf
      try (refine tI ?_;conv=>whnf)
      try (refine tS ?_;conv=>whnf)
      (first | rw [hE] | skip)
      conv=>whnf
      exact⟨k+1,by omega,by omega,zQ (s:= [0,1,2,3,4]) ⟨⟨rfl,rfl,rfl,rfl,rfl,rfl,rfl,rfl,rfl,AT (by omega),tv⟩,⟨rfl,rfl,rfl,rfl,congrArg (fun l=>some (AB.row _ _ l)) (by rw [hsx,J3];try rfl),tv⟩,rfl,rfl,rfl,rfl,rfl⟩⟩
     ·have ek:k=(Iq g z).length:=by simp [Iq];omega
      rw [ek,A6];have hpr:=Ij g hg;repeat' (refine zZ ?_;conv=>whnf)
      refine zY hpr ?_;conv=>whnf
      refine zR Nat (fun i=>([(2, .bp 0 0),(4, .bp 1 0),(5,ze 0),(6, .bp 2 0),(10, .bp 3 0),(21,bA (Di (EE g))),(23,ze z),(116,ze g.z),(117,ze z),(144,ze (CK g)),(145,ze i)], [.box 24 (Bm g), .box 38 [nilV,nilV,ze 0,ze 0], .box 28 (Fp (BN g s)), .box 38 [.ow 4 (A7 g).toNat,nilV,ze 0,ze (-1)], .row 68 3 ((Ea (Ea (GX g s z) (Iq g z)) ((GP g z).take i)).map Ci)])) (fun i=>i<=(CK g).toNat) (fun i=>(CK g).toNat - i) 0 (Aj _)
       (zQ (s:= [0,1,2,3,4]) tA) ?_
      intro i hi;conv=>whnf
      refine AS (fun h11=>?_) (fun h11=>?_) <;> (repeat rw [Ac] at h11) <;> conv=>whnf
      ·have hlw:(GP g z).length=(CK g).toNat:=by simp [GP]
       have hi':i<(GP g z).length:=by omega
       have hsx:=Ik (Ea (GX g s z) (Iq g z)) hi';rw [show (GP g z).getD i ⟨0, []⟩=⟨Cw g z (i:Nat),CF (Cw g z (i:Nat)) 0 zero8⟩ from JQ (by omega)] at hsx;have hlx:(Ea (Ea (GX g s z) (Iq g z)) ((GP g z).take i)).length=(A7 g).toNat:=by rw [EC,EC,Gm]
       generalize Ea (Ea (GX g s z) (Iq g z)) ((GP g z).take i)=cs at hsx hlx |-
       have hgt:=PS g z i hg (by omega) (by omega);have hin:=hsb i (by omega);have hmk:=Jk (Cw g z i) 0 zero8 ⟨hin.1,by omega,CC _,by decide,by decide⟩;have hE:(cs.map Ci).getD (Cw g z i).toNat []=Ci (cs.getD (Cw g z i).toNat cz):=KX hlx (by omega);repeat' (refine zZ ?_;conv=>whnf)
       refine zY hgt ?_;conv=>whnf
       apply zW (0) tys_ok mixed (.o [0,1,2,3,4,5,6,7,8,9,10,11,12] .fin) (by kernel_rfl);conv=>whnf
       (try (refine Ai ⟨rfl,by decide,by decide⟩ ?_;conv=>whnf);refine zS hmk.go ?_;(conv=>whnf);refine Ai rfl ?_;(conv=>whnf);refine zV [.ag [ze (Cw g z i),ze 0,bA zero8]] ⟨Bg ⟨ri,ri,fun c v h=>z7 rfl (fun i hi=>by have hi':i<8:=hi;rw [J2 (by exact hi'),MH hi'];try rfl) h,tv⟩,tv⟩ ?_;refine zY hmk ?_)
       conv=>whnf
       try (refine tI ?_;conv=>whnf)
       try (refine tS ?_;conv=>whnf)
       (first | rw [hE] | skip)
       conv=>whnf
       all_goals exact⟨i+1,by omega,by omega,zQ (s:= [0,1,2,3,4]) ⟨⟨rfl,rfl,rfl,rfl,rfl,rfl,rfl,rfl,rfl,rfl,AT (by omega),tv⟩,⟨rfl,rfl,rfl,rfl,congrArg (fun l=>some (AB.row _ _ l)) (by rw [hsx,J3];try rfl),tv⟩,rfl,rfl,rfl,rfl,rfl⟩⟩
      ·have ei:i=(GP g z).length:=by simp [GP];omega
       repeat' (refine zZ ?_;conv=>whnf)
       exact⟨z+1,by omega,by omega,zQ (s:= [0,1,2,3,4]) ⟨⟨rfl,rfl,rfl,rfl,rfl,rfl,rfl,AT (by omega),tv⟩,⟨rfl,rfl,rfl,rfl,by rw [ei,A6];try rfl,tv⟩,rfl,rfl,rfl,rfl,rfl⟩⟩
    ·have ez:z=g.z.toNat:=by omega
     subst ez;refine⟨(by rw [Aa,Gm]),?_⟩;exact⟨.tp [.ag (ZO (DI g s)),iv 0],BV ⟨Bg ⟨BY (f:=Ci) (GX g s g.z.toNat) (by rw [Gm]) rfl,Bv 2 _,ri,ri,tv⟩,ri,tv⟩,rfl⟩
section
variable {g:Geo} {s:ByteArray} {a b:An} {fill:UInt8} {sizes:List Int} {d:Dk}
theorem LS {F:Int->List UInt8} {n:Int} (h:Holds d n F) (l:List Int) (hl:∀ x∈l,0<=x/\x<n):B8 d l=l.map fun x=>⟨0,F x⟩:=by
 unfold B8;refine Dx fun x hx=>?_
 exact h.got (hl x hx).1 (hl x hx).2
theorem Ng (hg:Bq g=true) {c:Int} (hc:c=0\/c=1):∀ x∈BI g c,0<=x/\x<A7 g:=fun x hx=>by
 obtain⟨g1,g2,g3,g4,g5⟩:=A2.1 hg;have hcg:=En hg;simp only [BI,AI,AJ] at hx;obtain⟨i,hi,rfl⟩:=hx;have:=Hw (g:=g) hc (s:=(i:Nat)) (by omega);omega
theorem TF {F:Int->List UInt8} (hg:Bq g=true) {c:An} (h:Holds d (A7 g) F) {r:Int} {l:Int}:Holds ⟨C4 d.cells (AU g c), [],r,l⟩ (A7 g) (fun x=>if x<g.an then Dt c x else F x):=by
 obtain⟨g1,g2,g3,g4,g5⟩:=A2.1 hg;have hcg:=En hg;refine⟨by rw [<-h.len];show ((C4 d.cells _).length:Int)=_;rw [finL_len],rfl,fun x h0 h1=>?_⟩;obtain⟨e1,e2⟩:=h.cell x h0 h1;have hlt:x.toNat<d.cells.length:=by have:=h.len;omega
 show ((C4 d.cells _).getD x.toNat cz).state=0/\((C4 d.cells _).getD x.toNat cz).bytes=_;have hmem:∀ w∈AU g c,∃ i:Nat,i<g.an.toNat/\w=⟨(i:Nat),Dt c (i:Nat)⟩:=fun w hw=>by
  simp only [AU,AI,AJ] at hw
  grind
 by_cases hx:x<g.an
 ·rw [if_pos hx];refine Mq _ _ _ hlt (by rw [e1];decide) (fun w hw hwa=>?_) (.inl ⟨⟨x,Dt c x⟩,?_,rfl⟩)
  ·grind
  ·simp only [AU,AI,AJ]
   grind
 ·rw [if_neg hx,finL_miss _ _ _ hlt (fun w hw e=>?_)]
  ·grind
  ·grind
theorem VG {n:Int} {F:Int->List UInt8} (h:Holds d n F) (l:List Wr) (hl:∀ w∈l,0<=w.addr/\w.addr<n):l.filter (free d.cells)=l:=by
 rw [List.filter_eq_self];intro w hw;unfold free;rw [(h.cell w.addr (hl w hw).1 (hl w hw).2).1];try rfl
end






section
variable {g:Geo} {s:ByteArray} {b:An} {fill:UInt8} {sizes:List Int} {D:Dk}
end
theorem StSm.big {S:Stt} (h:StSm S):StBig S:=
 ⟨by have:=h.l;omega,by have:=h.h.1;omega,⟨by have:=h.t.1;omega,fun t ht=>⟨by have:=(h.t.2 t ht).1;omega,fun x hx=>by have:=(h.t.2 t ht).2 x hx;omega⟩⟩,by have:=h.o;omega⟩
structure Vol (g:Geo) (K:Int) (d:Dk) (s:Stt):Prop where
 gd:∃ F,Gd (A7 g) d F
 an:B7 g s.a=true
 ring:CO g s.txns s.a.seq s.a.pos g.sl=true
 rest:s.only=false/\s.cursor=0/\s.found=0/\s.fixed=0/\s.moved=0/\s.lost=[]
 gen:s.a.gen<=K
 seq:s.a.seq+s.txns.length<=K
 one:∀ t∈s.txns,OneTab t.images
theorem JC {g:Geo} {a:An} (ha:B7 g a=true):(0<=a.gen/\a.gen<=4294967295)/\(1<=a.seq/\a.seq<=4294967295)/\(0<=a.pos/\a.pos<g.sl)/\(a.homes.length:Int)=g.z:=by
 simp only [B7,AR,BA,B6,Ad,decide_eq_true_eq,AK] at ha;omega
theorem K2 {g:Geo}:∀ {l:List Tx} {seq pos a b:Int},a<=b->CO g l seq pos a=true->CO g l seq pos b=true
 | [],_,_,_,_,_,_=>rfl
 | t::r,seq,pos,a,b,hab,h=>by
  simp only [CO,Ad,decide_eq_true_eq] at h |-
  obtain⟨⟨h1,h2,h3,h4,h5,h6,h7⟩,h8⟩:=h;exact⟨⟨h1,h2,h3,h4,by omega,h6,h7⟩,K2 (by omega) h8⟩
theorem Fy {g:Geo}:∀ {l:List Tx} {seq pos left:Int},CO g l seq pos left=true->∀ t∈l,t.images.all (BW g)=true/\t.n=t.images.length+1/\2<=t.n/\t.n<=max left 0
 | t::r,seq,pos,left,h,x,hx=>by
  simp only [CO,Ad,decide_eq_true_eq] at h;obtain⟨⟨h1,h2,h3,h4,h5,h6,h7⟩,h8⟩:=h;rcases AQ.1 hx with rfl | hx
  ·grind
  ·have:=Fy h8 x hx
   grind
theorem J_ {g:Geo} (hg:Bq g=true) {x:Img} (h:BW g x=true):x.bytes.length<=45:=by
 obtain⟨g1,g2,g3,g4,g5⟩:=A2.1 hg;by_cases hw:x.what=255
 ·simp only [BW,Ad] at h;have h2:=h.2.2;rw [if_pos hw] at h2;by_cases hl:x.bytes.length=9*(g.d+1).toNat
  ·omega
  ·rw [Tj (.inl hl)] at h2;cases h2
 ·have:=(JZ h).2 hw;omega
theorem Vol.st {g:Geo} {K:Int} {d:Dk} {s:Stt} (hg:Bq g=true) (h:Vol g K d s):Zq g d s=true:=by
 obtain⟨F,hF⟩:=h.gd;obtain⟨r1,r2,r3,r4,r5,r6⟩:=h.rest;have hu:=Ut hg;have hh:LV g s=true:=by
  unfold LV;rw [r3,r4,r5,r6];try rfl
 unfold Zq;rw [hg,UO.2 hF.ok,decide_eq_true hF.len,h.an,h.ring,r2,hh,decide_eq_true (show (0:Int)<Lm g by omega)];try rfl
theorem Vol.sm {g:Geo} {K:Int} {d:Dk} {s:Stt} (hg:Bq g=true) (h:Vol g K d s):StSm s:=by
 obtain⟨g1,g2,g3,g4,g5⟩:=A2.1 hg;have hr:=Fy h.ring;have hin:=Gb hg (CC _) h.ring;have hlen:(s.txns.length:Int)<=30:=by
  have:∀ l:List Tx,(∀ t∈l,2<=t.n)->2*(l.length:Int)<=sumT l:=by
   intro l;induction l with
   | nil=>intro _;simp [sumT]
   | cons t r ih=>
    intro hl;have h1:=hl t (by simp);have h2:=ih fun x hx=>hl x (Bc _ hx)
    rw [sumT,Ao];omega
  grind
 refine⟨⟨(DE hg h.an 0 (Aj _)).2.1,fun x hx=>KG hg h.an x hx⟩,(DE hg h.an 0 (Aj _)).2.2.2.1,⟨by omega,fun t ht=>?_⟩,by rw [h.rest.2.2.2.2.2];simp⟩;obtain⟨q1,q2,q3,q4⟩:=hr t ht;refine⟨by omega,fun i hi=>?_⟩;have:=J_ hg (Av.1 q1 i hi);omega
theorem Vol.add {g:Geo} {K:Int} {d d':Dk} {s:Stt} (hg:Bq g=true) (h:Vol g K d s) (hK:K<=4294967294) (hd:∃ F,Gd (A7 g) d' F) {x:Tx} (e1:x.seq=s.a.seq+s.txns.length) (e3:x.pos=(s.a.pos+Ei s.txns).tmod g.sl) (e4:2<=x.n) (e5:x.n<=g.sl - Ei s.txns) (e6:x.n=x.images.length+1) (e7:∀ y∈x.images,BW g y=true) (e8:OneTab x.images):Vol g (K+1) d' { s with txns:=s.txns ++ [x] }:=by
 obtain⟨a1,a2,a3,a4⟩:=JC h.an;have hin:=Gb hg (CC _) h.ring;rw [SM hin.1] at e3 e5;have hs:=h.seq;refine⟨hd,h.an,K1 hg a3.1 a3.2 (CC _) h.ring e1 (by omega) e3 e4 e5 e6 (Av.2 e7),h.rest,by have:=h.gen;show s.a.gen<=K+1;omega,?_,fun t ht=>?_⟩
 ·grind
 ·rcases Az.1 ht with q | q
  ·exact h.one t q
  ·grind
theorem Vol.home {g:Geo} {K:Int} {d d':Dk} {s:Stt} (hg:Bq g=true) {x:Tx} {r:List Tx} (hx:s.txns=x::r) (h:Vol g K d s) (hK:K<=4294967294) (hd:∃ F,Gd (A7 g) d' F):Vol g (K+1) d' { s with a:=Pe g s.a x,txns:=r }:=by
 obtain⟨a1,a2,a3,a4⟩:=JC h.an;have hs:=h.seq;have hgn:=h.gen;have hr:=h.ring;rw [hx,Ao] at hs;rw [hx] at hr;have hin:=(Gb hg (CC _) hr).1 x (by simp);simp only [CO,Ad,decide_eq_true_eq] at hr;obtain⟨⟨h1,h2,h3,h4,h5,h6,h7⟩,h8⟩:=hr;refine⟨hd,U2 hg h.an (by omega) (by omega) h1 (by omega) (by omega),?_,h.rest,by show s.a.gen+1<=K+1;omega,?_,fun t ht=>h.one t (by rw [hx];exact Bc _ ht)⟩
 ·show CO g r (s.a.seq+1) ((x.pos+x.n).tmod g.sl) g.sl=true;rw [h3];exact K2 (by omega) h8
 ·show s.a.seq+1+(r.length:Int)<=K+1;omega
theorem O9 {g:Geo} {a:An} {w:Wr} (hw:w∈AU g a):∃ i:Nat,(i:Int)<g.an/\w=⟨(i:Nat),Dt a (i:Nat)⟩:=by
 simp only [AU,AI,AJ] at hw
 grind
def U0 (g:Geo) (a:An) (x:Tx) (F:Int->List UInt8):Int->List UInt8:=MP (MP F (LO g a x.seq x.images)) (AU g (Pe g a x))

theorem PU {g:Geo} {lb:ByteArray} (hg:Bq g=true) {d:Dk} (h:Holds d (A7 g) (FT g lb)) {c:Int} (hc:c=0\/c=1):B8 d (BI g c)=FX g [] 0 c g.sl.toNat:=by
 rw [LS h _ (Ng hg hc)];unfold BI FX;rw [List.map_map];refine Dx fun i hi=>?_
 have hi:=AJ.1 hi;show (⟨0,FT g lb (Ba g c (i:Nat))⟩:Gt)=_;rw [J5 hc (by omega)];try rfl
theorem Pp {g:Geo} {lb:ByteArray} (hg:Bq g=true) {b:An} (hp:b.pos=0) (hl:¬b.seq - 1<b.last) {d:Dk} (h:Holds d (A7 g) (FT g lb)):Hh g b (B8 d (BI g 0)) (B8 d (BI g 1))=([], [],0):=by
 obtain⟨g1,g2,g3,g4,g5⟩:=A2.1 hg;have hok:LogOk g [] 0:=⟨by simp,by simp,fun s i k _ h=>(nomatch (show (none:Option (Nat × Int))=some (i,k) from h)),fun s _=>Ey hg⟩;rw [WN,PU hg h (.inl rfl),PU hg h (.inr rfl),RZ hg hok (.inl rfl),RZ hg hok (.inr rfl)];obtain⟨n,hn⟩:∃ n,g.sl.toNat=n+1:=⟨g.sl.toNat - 1,by omega⟩;have hz:GQ g [] 0 (fun _=>false) 0=some zeroC:=by
  unfold GQ;rw [if_pos (by omega)];try rfl
 have hs:E8 g 0 0=0:=by
  show (IntKind.i64.wrap 0).tmod g.sl=0;rw [show IntKind.i64.wrap 0=0 from rfl,Int.zero_tmod]
 have h0:Fo zeroC b b.seq 0 0 g.sl=false:=decide_eq_false fun h=>h.1 rfl
 have hr:(YA g b (GQ g [] 0 fun _=>false) (GQ g [] 0 fun _=>false) 0 b.seq g.sl 0 0).2.1=2:=by
  show (FK (GQ g [] 0 (fun _=>false) (E8 g 0 0)) (GQ g [] 0 (fun _=>false) (E8 g 0 0)) (JT (GQ g [] 0 (fun _=>false) (E8 g 0 0)) b b.seq 0 0 g.sl) (JT (GQ g [] 0 (fun _=>false) (E8 g 0 0)) b b.seq 0 0 g.sl)).2.2=2;rw [hs,hz];show (FK (some zeroC) (some zeroC) (Fo zeroC b b.seq 0 0 g.sl) (Fo zeroC b b.seq 0 0 g.sl)).2.2=2;rw [h0];try rfl
 have ht:(WE g b (GQ g [] 0 fun _=>false) (GQ g [] 0 fun _=>false) 0 b.seq g.sl).1=2:=by
  unfold WE;simp only;rw [if_pos (by rw [hr];decide)];exact hr
 unfold U6;rw [hn,hp,Lx];split
 ·simp only;rw [ht,if_neg (by decide),if_pos (by decide),Mp hl]
 ·exact Mp hl
theorem R3 {g:Geo} {lb:ByteArray} (hg:Bq g=true) (hb:B7 g (BN g lb)=true) (x:Int):(FT g lb x).length<=200:=by
 unfold FT;split
 ·exact JD hg hb x
 ·split
  ·exact Cc (Ey hg) _ _
  ·split
   ·exact Cc (Ey hg) _ _
   ·split
    ·rw [EK,EZ];unfold EE;rw [Be];have:=(A2.1 hg).2.1;omega
    ·rw [EK];decide
theorem XE {g:Geo} {lb:ByteArray} (hg:Bq g=true) (hb:B7 g (BN g lb)=true):DkOk (DI g lb):=by
 have hcb:=HJ hg;have h:=Kf (g:=g) (s:=lb) hg;have hlen:=h.len;refine⟨by omega,by rw [h.cache];simp,by show (0:Int)<=0/\(0:Int)<=_;decide,by show (-1:Int)<= -1/\(-1:Int)<=_;decide,fun c hc=>?_,fun w hw=>by rw [h.cache] at hw;cases hw⟩;obtain⟨i,hi,rfl⟩:=List.getElem_of_mem hc;have hci:=PX (g:=g) (s:=lb) hg (a:=((i:Nat):Int)) (by omega) (by omega);have e:(DI g lb).cells.getD ((i:Nat):Int).toNat cz=(DI g lb).cells[i]:=by
  rw [Ac,Ab,Af hi];try rfl
 rw [e] at hci;rw [hci];exact⟨⟨CC _,by show (0:Int)<=2;decide⟩,R3 hg hb _,by simp⟩
theorem UV {g:Geo} {lb:ByteArray} (hg:Bq g=true) (hb:B7 g (BN g lb)=true) {d:Dk} (h:Holds d (A7 g) (FT g lb)):Gf g (B8 d (Do g))=some (BN g lb,(ZX (Gf g (B8 d (Do g))))):=by
 obtain⟨g1,g2,g3,g4,g5⟩:=A2.1 hg;have hcg:=En hg;have hsp:=L3 g (B8 d (Do g)) (B8 d (Do g)).length;rw [DF,E1] at hsp;have hsay:∀ i,i<g.an.toNat->DK g ((B8 d (Do g)).getD i ⟨0, []⟩) (i:Nat)=some (BN g lb):=fun i hi=>by
  rw [RL hi,h.got (by omega) (by omega),Sz (by omega)];exact QU hg hb (by omega)
 have hpk:Gf g (B8 d (Do g))=EF g (B8 d (Do g)) g.an.toNat:=by rw [Gf,DF,E1]
 rw [hpk];cases hP:EF g (B8 d (Do g)) g.an.toNat with
 | none=>
  have:=hsp.1 hP 0 (by omega);rw [hsay 0 (by omega)] at this;cases this
 | some q=>
  obtain⟨a0,j⟩:=q;obtain⟨q1,q2,q3⟩:=hsp.2 a0 j hP;rw [hsay j q1] at q2;cases q2;rfl
structure LogB (l:List Tx):Prop where
 n:l.length<=1000000
 i:∀ t∈l,t.images.length<=1000000/\∀ x∈t.images,x.bytes.length<=1000000000
def Fq (g:Geo) (s:Stt) (F:Int->List UInt8) (z:Int):Option (List Ent):=match CG s.txns z 255 with
 | some p=>CV g p.1.bytes
 | none=>match Cv g ⟨0,F (Bf g z 0)⟩ (Bf g z 0) (Dy s.a s.txns z) with
  | some t=>some t
  | none=>Cv g ⟨0,F (Bf g z 1)⟩ (Bf g z 1) (Dy s.a s.txns z)
def G7 (g:Geo) (s:Stt) (F:Int->List UInt8) (t:List Ent) (z w:Int):List UInt8:=match CG s.txns z w with
 | some p=>p.1.bytes
 | none=>(DJ ⟨0,F (D3 g s.a z w)⟩ (D3 g s.a z w) (t.getD (E4 g w).toNat ez)).getD []
def MA (b:List UInt8):List AV:= [bA b]
theorem ConvF.sealTp {fr:Fr} {H:List AB} (i k:Nat) {x z:AV} {t:TypeId} {sz:Nat} {es:List (List AV)} (hx:fget fr i = .tp [x, .ow k es.length,z]) (hk:hget H k=some (.row t sz es)):ConvF fr H ((i, .tp [x, .sl sz es.length fun j=>es.getD j [],z])::fr) (H.set k .dead):=fun _ _ c _ _ hs hf=>by
 rw [hget_eq] at hk;obtain⟨c1,e1,s1,x1,r1⟩:=hs.freeze hk;refine⟨c1,e1,s1,(hf.ext x1).cons i _ ?_,x1⟩;have h0:=hf.get i;have h1:=(hf.ext x1).get i;rw [hx] at h0 h1;simp only [Rd] at h0 h1;obtain⟨us,e,h0⟩:=h0;obtain⟨us',e',h1⟩:=h1;have eu:us'=us:=by
  have:=e.symm.trans e';injection this with this
  simpa using this.symm
 subst eu;obtain⟨y1,l1,rfl,a1,y2,l2,rfl,a2,y3,l3,rfl,a3,rfl⟩:=h0;obtain⟨z1,m1,q1,b1,z2,m2,q2,b2,z3,m3,q3,b3,q4⟩:=h1;subst q2 q3 q4;simp only [List.cons.injEq,and_true] at q1;obtain⟨rfl,rfl,rfl⟩:=q1;simp only [Rd];exact⟨_,e,_,_,rfl,b1,_,_,rfl,r1 _ a2,_,_,rfl,b3,rfl⟩
theorem FV {L:List (List UInt8)} {n:Nat} {es:List (List AV)} (hn:n=L.length) (he:es=L.map MA) (c:Ctx) (v:Value) (h:Rd (.sl 1 n fun i=>es.getD i []) c v):Rd (GZ L) c v:=BY (f:=MA) L hn he c v h
def TJ (g:Geo) (s:Stt) (F:Int->List UInt8) (t:List Ent) (z:Int) (k:Nat):List (List UInt8):=(List.range k).map fun i=>G7 g s F t z (i:Nat)
def CY (g:Geo) (s:Stt) (F:Int->List UInt8) (t:List Ent) (z:Int):List (List UInt8):=TJ g s F t z g.d.toNat ++ [G7 g s F t z (-1)]
theorem KU {g:Geo} {s:Stt} {F:Int->List UInt8} {z:Int} {t:List Ent} (h:Fq g s F z=some t):If g t=true:=by
 have hr:∀ {b:List UInt8} {t:List Ent},CV g b=some t->If g t=true:=fun {b t} h=>by
  unfold CV at h;split at h
  ·rename_i hh;obtain rfl:=Option.some.inj h;exact hh.1
  ·cases h
 have ho:∀ {x:Gt} {a r:Int} {t:List Ent},Cv g x a r=some t->If g t=true:=fun {x a r t} h=>by
  unfold Cv at h;split at h
  ·split at h
   ·exact hr h
   ·cases h
  ·cases h
 unfold Fq at h;split at h
 ·exact hr h
 ·split at h
  ·rename_i hh;obtain rfl:=Option.some.inj h;exact ho hh
  ·exact ho h
theorem Jv {g:Geo} {t:List Ent} (h:If g t=true):(t.length:Int)=g.d+1:=by
 unfold If at h
 grind
theorem Ju {g:Geo} {s:Stt} {F:Int->List UInt8} {t:List Ent} {z w:Int} (hi:∀ t∈s.txns,∀ x∈t.images,BW g x=true) (hw:w≠255):(G7 g s F t z w).length=0\/(G7 g s F t z w).length=8:=by
 unfold G7;split
 ·rename_i p hp;obtain⟨x,q⟩:=p;obtain⟨t',ht, -,hx, -,e⟩:=Ns (Ag _) hp;exact .inr ((JZ (hi t' ht x hx)).2 (by rw [e];exact hw)).2.2
 ·unfold DJ;split
  ·split
   ·rename_i h;exact .inr h.2.1
   ·exact .inl rfl
  ·exact .inl rfl
theorem Gk {L:List Int} {n:Nat} {es:List (List AV)} (hn:n=L.length) (he:es=L.map fun x=> [AV.v (.int .i64 x)]) (c:Ctx) (v:Value) (h:Rd (.sl 1 n fun i=>es.getD i []) c v):Rd (iA L) c v:=BY (f:=fun x=> [AV.v (.int .i64 x)]) L hn he c v h
def H0 (g:Geo) (s:Stt) (F:Int->List UInt8) (seq lba:Int) (b:List UInt8):List Img:=match Fq g s F (lba.tdiv g.d) with
 | some t=>Cz (lba.tdiv g.d) (BJ g t (CY g s F t (lba.tdiv g.d)) [lba.tmod g.d] [b] seq) (Fa g t (CY g s F t (lba.tdiv g.d)) [lba.tmod g.d] [b] g.d.toNat) [lba.tmod g.d] [b]
 | none=> []
theorem WS {L L':List Img} {n:Nat} (e:L=L') (hn:n=L'.length) (c:Ctx) (v:Value) (h:Rd (.sl 3 n fun j=>((List.range L'.length).map fun i=>GV (L'.getD i ⟨0,0, []⟩)).getD j []) c v):Rd (Fb L) c v:=by
 subst e;refine z7 hn (fun i hi=>?_) h;have:i<L.length:=by omega
 simp [this]
theorem WX {g:Geo} {seq epoch:Int} {x:Img} (hg:Bq g=true) (h2:Dv seq 0 4294967295=true) (h3:Dv epoch 0 4294967295=true) (h7:BW g x=true) {k n:Nat} (hk:k<n) (hn:n=3):EN g ⟨1,seq,epoch,(k:Nat),n+1,x⟩=true:=by
 simp only [EN,hg,Fg,Iz,h2,h3,h7,BB,B6];simp only [if_neg (show ¬(1:Int)=0 by omega),if_true,Ad,AK];omega
theorem WW {g:Geo} {seq epoch:Int} (hg:Bq g=true) (h2:Dv seq 0 4294967295=true) (h3:Dv epoch 0 4294967295=true) {n:Nat} (hn:n=3):EN g ⟨2,seq,epoch,(n:Nat),n+1,noImg⟩=true:=by
 subst hn;simp only [EN,hg,Fg,Iz,h2,h3,BB];simp only [if_neg (show ¬(2:Int)=0 by omega),if_neg (show ¬(2:Int)=1 by omega),if_true,Ad,AK,beq_iff_eq,I1,noImg];simp
@[reducible] def rwQ (g:Geo) (a:An) (l:List Tx) (x:Tx) (d:Dk):List AB:= [.box 132 (ZV g (.bp 1 0) (.ow 4 a.homes.length) (.ow 5 (l.length+1)) (AO a l) 0), .box 133 (Lg (.ow 2 d.cells.length) (.ow 6 d.cache.length) d.reqs d.left), .row 68 3 (d.cells.map Ci), .dead, .row 108 3 (a.homes.map M8), .row 170 4 (l.map It ++ [It x]), .row 152 2 (d.cache.map GU)]
def FU (g:Geo) (a:An) (l:List Tx) (F:Int->List UInt8) (lba:Int) (b:List UInt8):Tx:=⟨a.seq+(l.length:Int),(a.pos+Ei l).tmod g.sl,4,H0 g (AO a l) F (a.seq+(l.length:Int)) lba b⟩
theorem in01:(0:Int)<=((0:Nat):Int)/\((0:Nat):Int)<((1:Nat):Int):=by decide
def af (A:Int) (p:Bool):AV:=match p with
 | true=>iA [A]
 | false=> .v (.slice none 0 0)
def aG (b:List UInt8) (p:Bool):AV:=match p with
 | true=>GZ [b]
 | false=> .v (.slice none 0 0)
def Z5 (L:List Img) (p:Bool):AV:=match p with
 | true=>Fb L
 | false=> .v (.slice none 0 0)
theorem Qq {g:Geo} (hg:Bq g=true) {r:Rc} (hr:EN g r=true) {c s:Int} (hc:c=0\/c=1) (hs:0<=s/\s<g.sl):B_ (B5 g r c s)=Ba g c s:=by
 have hb:=GA hg (L8 hc hs);have h1:=N_ hr;have h2:=EL hr;exact(Ia (a:=Ba g c s) (s:=r.seq) (p:=Et r) ⟨hb.1,by omega,h1.1,h1.2,by omega⟩).2.1
def Zc (b:Bool):List AV:= [.v (.bool b)]
def ZD (l:List Bool):AV:= .sl 1 l.length fun i=>Zc (l.getD i false)
theorem Zb {L:List Bool} {n:Nat} {es:List (List AV)} (hn:n=L.length) (he:es=L.map Zc) (c:Ctx) (v:Value) (h:Rd (.sl 1 n fun i=>es.getD i []) c v):Rd (ZD L) c v:=BY (f:=Zc) L hn he c v h
theorem A_ {l:List Nat} {m:Nat} (h:(l.all fun z=>Nat.ble (z+1) m)=true):∀ z∈l,z<m:=fun z hz=>Ae (Av.1 h z hz)
theorem W8 (g:Geo) (t:List Ent) (had:List (List UInt8)) (hg:Bq g=true) (ht:If g t=true) (hh:(had.length:Int)=g.d+1) (h8:∀ b∈had,b.length=8) (hlo:∀ i,i<t.length->(t.getD i ez).lost=false):Fn Tryz.prog 226 [.ag (Bm g), .ag [BX t],GZ had] fun r=>r = .tp [GZ had,ZD (List.replicate had.length true),iv 0]:=by
 obtain⟨g1,g2,g3,g4,g5⟩:=A2.1 hg;have htl:=Jv ht;have hb:=SC g t had hg ht (by omega) hh h8;have hd1:IntKind.i64.wrap (g.d+1)=g.d+1:=wi (by omega);refine zT Tryz.func226 rfl ?_;conv=>whnf
 refine zX hb rfl ?_;rintro _ _ ⟨rfl,rfl⟩;conv=>whnf
 rw [hd1];refine zR Nat (fun k=>([(6, .ow 3 k),(7, .ow 4 k),(9, .bp 2 0),(25,iv (g.d+1)),(26,iv (k:Nat))], [.box 24 (Bm g), .box 145 [BX t], .box 348 [iv g.d,BX t,GZ had], .row 22 1 ((had.take k).map MA), .row 4 1 ((List.replicate k true).map Zc)])) (fun k=>k<=had.length) (fun k=>had.length - k) 0 (Aj _)
  ⟨_,_,zo _ _, [(6,22,1),(7,4,1)],tA, [0,1,2,3,4],tA,tA,rfl,rfl,rfl,rfl,rfl⟩ ?_
 intro k hk;by_cases hkn:k<had.length
 ·have hkk:=SB g t had k (by omega) hkn h8 (hlo k (by omega));have e1:(had.take k).map MA ++ [MA (had.getD k [])]=(had.take (k+1)).map MA:=by
   rw [Bh,Af hkn,A0,Ab,Af hkn];try rfl
  have e2:(List.replicate k true).map Zc ++ [Zc true]=(List.replicate (k+1) true).map Zc:=by
   rw [List.replicate_succ',A0];try rfl
  conv=>whnf
  rw [show decide ((k:Int)<g.d+1)=true from decide_eq_true (by omega)];conv=>whnf
  repeat' (refine zZ ?_;conv=>whnf)
  refine ze9 [2] hkk ?_;rintro _ _ ⟨rfl,rfl⟩;conv=>whnf
  repeat' (refine zZ ?_;conv=>whnf)
  refine⟨rfl,?_⟩;conv=>whnf
  refine Ai ⟨by rw [Aa,Aq];omega,by omega⟩ ?_;refine⟨rfl,?_⟩;refine⟨⟨by rw [Aa,Be],by omega⟩,?_⟩;exact⟨k+1,by omega,by omega,zQ (s:= [0,1,2,3,4]) ⟨⟨rfl,rfl,rfl,rfl,AT (by omega),tv⟩,⟨rfl,rfl,rfl,congrArg (fun es=>some (AB.row 22 1 es)) e1,congrArg (fun es=>some (AB.row 4 1 es)) e2,tv⟩,rfl,rfl,rfl,rfl,rfl⟩⟩
 ·have ek:k=had.length:=by omega
  subst ek;conv=>whnf
  rw [show decide (((had.length:Nat):Int)<g.d+1)=false from decide_eq_false (by omega)];conv=>whnf
  repeat' (refine zZ ?_;conv=>whnf)
  rw [A6];refine⟨(by rw [Aa]),?_⟩;refine⟨(by rw [Aa,Be]),?_⟩;exact⟨.tp [GZ had,ZD (List.replicate had.length true),iv 0],BV (m:= [GZ had,ZD (List.replicate had.length true),iv 0]) ⟨FV rfl rfl,Zb (by rw [Be]) rfl,ri,tv⟩,rfl⟩
theorem WK (A p:Int):Fn Tryz.prog 153 [iA [A],iv p] fun r=>r = iv (if A=p then 0 else -1):=by
 refine zT Tryz.func153 rfl ?_;conv=>whnf
 refine zB 2 ?_;conv=>whnf
 refine Ai ⟨by decide,by show (0:Int)<1;decide⟩ ?_;conv=>whnf
 rw [show [A].getD (Int.toNat 0) 0=A from rfl];by_cases h:A=p
 ·rw [show (p == A)=true from beq_iff_eq.2 h.symm,if_pos h];exact⟨_,ri,rfl⟩
 ·rw [show (p == A)=false from beq_eq_false_iff_ne.2 (Ne.symm h),if_neg h];conv=>whnf
  repeat' (refine zZ ?_;conv=>whnf)
  exact⟨_,ri,rfl⟩
section
variable {g:Geo} {t:List Ent} {had:List (List UInt8)} {A:Int} {b:List UInt8} {stamp:Int}
theorem X_ (A:Int) (b:List UInt8) (i:Nat):EG [A] [b] i 1=if A=(i:Int) then some b else none:=rfl
theorem Ye (h8:∀ b∈had,b.length=8) (hlo:∀ i,i<t.length->(t.getD i ez).lost=false) {i:Nat} (hi:i<t.length) (hi2:i<had.length):G8 g t had [A] [b] i=if A=(i:Int) then b else had.getD i []:=by
 unfold G8;show (match EG [A] [b] i 1 with | some b=>b | none=>FP g t had i)=_;rw [X_];by_cases h:A=(i:Int)
 ·rw [if_pos h,if_pos h]
 ·rw [if_neg h,if_neg h];show FP g t had i=_;unfold FP;rw [hlo i hi,if_neg (by decide),if_pos (by rw [h8 _ (AC hi2)];decide)]
theorem Yd (h8:∀ b∈had,b.length=8) (hb:b.length=8) (hlo:∀ i,i<t.length->(t.getD i ez).lost=false) {i:Nat} (hi:i<t.length) (hi2:i<had.length):(G8 g t had [A] [b] i).length=8:=by
 rw [Ye h8 hlo hi hi2];split
 ·exact hb
 ·exact h8 _ (AC hi2)
theorem Z0 (h8:∀ b∈had,b.length=8) (hb:b.length=8) (hlo:∀ i,i<t.length->(t.getD i ez).lost=false) {i:Nat} (hi:i<t.length) (hi2:i<had.length):Of g t had [A] [b] stamp i=if A=(i:Int) then ⟨stamp,(DG b:Nat),false⟩ else t.getD i ez:=by
 unfold Of;rw [if_neg (by rw [Yd h8 hb hlo hi hi2];decide)];show (match EG [A] [b] i 1 with | some b=>_ | none=>_)=_;rw [X_];by_cases h:A=(i:Int)
 ·rw [if_pos h,if_pos h]
 ·rw [if_neg h,if_neg h]
def GO (g:Geo) (t:List Ent) (had:List (List UInt8)) (A:Int) (b:List UInt8) (k:Nat):List (List UInt8):=(List.range k).map (G8 g t had [A] [b])
theorem Pf {n:Nat} (h:∀ i:Nat,i<n->(G8 g t had [A] [b] i).length=8):∀ k,k<=n->KI (GO g t had A b k)=Fa g t had [A] [b] k
 | 0,_=>rfl
 | k+1,hk=>by
  have ih:=Pf h k (by omega);unfold KI GO at ih |-
  rw [By,A0,Cb,ih,Fa,if_neg (by rw [h k (by omega)];decide)];try rfl
end
theorem QM (g:Geo) (t:List Ent) (had:List (List UInt8)) (A:Int) (b:List UInt8) (stamp:Int) (hg:Bq g=true) (ht:If g t=true) (hh:(had.length:Int)=g.d+1) (h8:∀ b∈had,b.length=8) (hlo:∀ i,i<t.length->(t.getD i ez).lost=false) (hA:0<=A/\A<g.d) (hb:b.length=8) (hs:0<=stamp/\stamp<=4294967295) :
  Fn Tryz.prog 145 [.ag (Bm g), .ag [BX t],GZ had,iA [A],GZ [b],iv stamp] fun r=>r = .tp [.ag [BX (BJ g t had [A] [b] stamp)],bA (Fa g t had [A] [b] g.d.toNat),iv 0]:=by
 obtain⟨g1,g2,g3,g4,g5⟩:=A2.1 hg;have htl:=Jv ht;have hz:=W8 g t had hg ht hh h8 hlo;have hr:=Ku g A hA;have hw:=JJ [b] (show 1<=1000000 by decide) (fun x hx=>by rw [Ay] at hx;rw [hx];exact hb);have htw:=SR t (by omega);have hB8:∀ i:Nat,i<g.d.toNat->(G8 g t had [A] [b] i).length=8:=fun i hi=>Yd h8 hb hlo (by omega) (by omega)
 have em:=Qf stamp b hs hb;refine zT Tryz.func145 rfl ?_;conv=>whnf
 refine zY hz ?_;conv=>whnf
 refine zY hr ?_;conv=>whnf
 rw [show decide (stamp<0)=false from decide_eq_false (by omega)];conv=>whnf
 rw [show decide (stamp > 4294967295)=false from decide_eq_false (by omega)];conv=>whnf
 refine zY hw ?_;conv=>whnf
 refine zX htw rfl ?_;rintro _ _ ⟨rfl,rfl⟩;conv=>whnf
 refine zR Nat (fun i=>([(3,iA [A]),(4,GZ [b]),(5,iv stamp),(6, .bp 0 0),(12, .bp 2 0),(15,GZ had),(16,ZD (List.replicate had.length true)),(17, .ow 4 i),(62,iv g.d),(63,iv (i:Nat))], [.box 24 (Bm g), .box 145 [BX t], .box 145 [.ow 3 t.length], .row 189 3 ((FO g t had [A] [b] stamp i).map Dr), .row 22 1 ((GO g t had A b i).map MA)])) (fun i=>i<=g.d.toNat) (fun i=>g.d.toNat - i) 0 (Aj _)
  ⟨_,_,zo _ _, [(17,22,1)],tA, [0,1,2,3,4],tA,tA,rfl,rfl,rfl,rfl,rfl⟩ ?_
 intro i hi;by_cases hin:i<g.d.toNat
 ·have hit:i<t.length:=by omega
  have hih:i<had.length:=by omega
  have hE:=Z0 (g:=g) (A:=A) (b:=b) (stamp:=stamp) h8 hb hlo hit hih;have hN:=Ye (g:=g) (A:=A) (b:=b) h8 hlo hit hih;have hix:=WK A (i:Nat);have hlo2:=P6 g t had [A] [b] stamp (Nat.le_of_lt hit);have hsl:(GO g t had A b i).length=i:=by simp [GO]
  have hs2:(GO g t had A b i).map MA ++ [MA (G8 g t had [A] [b] i)]=(GO g t had A b (i+1)).map MA:=by simp [GO,By]
  by_cases hq:A=(i:Int)
  ·rw [if_pos hq] at hE hN hix;rw [hN] at hs2;conv=>whnf
   rw [show decide ((i:Int)<g.d)=true from decide_eq_true (by omega)];conv=>whnf
   repeat' (refine zZ ?_;conv=>whnf)
   refine zY hix ?_;conv=>whnf
   repeat' (refine zZ ?_;conv=>whnf)
   have ixA:(0:Int)<=0/\(0:Int)<(([b]:List (List UInt8)).length:Nat):=in01;apply zW (0) tys_ok mixed (.o [0,1,2,3,4,5,6,7,8,9,10,11,12,13] .fin) (by kernel_rfl);conv=>whnf
   try (refine tI ?_;conv=>whnf)
   refine zY em ?_;conv=>whnf
   try (refine tI ?_;conv=>whnf)
   try (refine tS ?_;conv=>whnf)
   all_goals rw [show ((FO g t had [A] [b] stamp i).map Dr).getD (((i:Nat):Int)).toNat []=Dr ((FO g t had [A] [b] stamp i).getD i ez) by rw [Ac];exact AP (by omega)]
   all_goals
    conv=>whnf
    repeat' (refine zZ ?_;conv=>whnf)
    refine⟨in01,?_⟩;refine⟨rfl,?_⟩;refine⟨⟨by rw [Aa,hsl],by omega⟩,?_⟩;exact⟨i+1,by omega,by omega,zQ (s:= [0,1,2,3,4]) ⟨⟨rfl,rfl,rfl,rfl,rfl,rfl,rfl,rfl,rfl,AT (by omega),tv⟩,⟨rfl,rfl,rfl,congrArg (fun z=>some (AB.row 189 3 z)) (show ((FO g t had [A] [b] stamp i).map Dr).set (((i:Nat):Int)).toNat (Dr ⟨stamp,(DG b:Nat),false⟩)=(FO g t had [A] [b] stamp (i+1)).map Dr by rw [Ac,<-List.map_set,<-hE,MZ g t had [A] [b] stamp hit]),congrArg (fun z=>some (AB.row 22 1 z)) hs2,tv⟩,rfl,rfl,rfl,rfl,rfl⟩⟩
  ·rw [if_neg hq] at hE hN hix;rw [hN] at hs2;conv=>whnf
   rw [show decide ((i:Int)<g.d)=true from decide_eq_true (by omega)];conv=>whnf
   repeat' (refine zZ ?_;conv=>whnf)
   refine zY hix ?_;conv=>whnf
   repeat' (refine zZ ?_;conv=>whnf)
   refine Ai ⟨by omega,by rw [Be];omega⟩ ?_;conv=>whnf
   rw [show (List.replicate had.length true).getD ((i:Nat):Int).toNat false=true by rw [Ac,Ab,CI,if_pos hih];try rfl];conv=>whnf
   repeat' (refine zZ ?_;conv=>whnf)
   refine⟨⟨by omega,by omega⟩,?_⟩;refine⟨rfl,?_⟩;conv=>whnf
   rw [Ac];refine⟨⟨by rw [Aa,hsl],by omega⟩,?_⟩;exact⟨i+1,by omega,by omega,zQ (s:= [0,1,2,3,4]) ⟨⟨rfl,rfl,rfl,rfl,rfl,rfl,rfl,rfl,rfl,AT (by omega),tv⟩,⟨rfl,rfl,rfl,congrArg (fun z=>some (AB.row 189 3 z)) (show (FO g t had [A] [b] stamp i).map Dr=(FO g t had [A] [b] stamp (i+1)).map Dr by rw [<-MZ g t had [A] [b] stamp hit,hE,YC g t had [A] [b] stamp hit]),congrArg (fun z=>some (AB.row 22 1 z)) hs2,tv⟩,rfl,rfl,rfl,rfl,rfl⟩⟩
 ·have ei:i=g.d.toNat:=by omega
  subst ei;conv=>whnf
  rw [show decide (((g.d.toNat:Nat):Int)<g.d)=false from decide_eq_false (by omega)];conv=>whnf
  repeat' (refine zZ ?_;conv=>whnf)
  have hsl:(GO g t had A b g.d.toNat).length=g.d.toNat:=by simp [GO]
  have hxa:=WA (GO g t had A b g.d.toNat) (by omega) (fun x hx=>by
   obtain⟨i,hi,rfl⟩:=AI.1 hx;exact hB8 i (AJ.1 hi))
  rw [Pf hB8 _ (Ag _)] at hxa;refine Fn.shut (args':= [.sl 1 g.d.toNat fun i=>((GO g t had A b g.d.toNat).map MA).getD i [],iv 8]) (hxa.subA ⟨FV hsl.symm rfl,fun _ _ h=>h,tv⟩) ⟨by rw [Aa,hsl],rfl,?_⟩;rintro _ rfl;conv=>whnf
  have hp8:(Fa g t had [A] [b] g.d.toNat).length=8:=Ht (g:=g) (t:=t) (had:=had) (ats:= [A]) (bs:= [b]) (fun x hx=> .inr (h8 x hx)) (fun x hx=>by rw [Ay] at hx;rw [hx];exact hb) (Ag 1) _;have he:=Qf stamp (Fa g t had [A] [b] g.d.toNat) hs hp8;apply zW (0) tys_ok mixed (.o [0,1,2,3,4,5,6,7,8,9,10,11] .fin) (by kernel_rfl);conv=>whnf
  refine zY he ?_;conv=>whnf
  try (refine tI ?_;conv=>whnf)
  try (refine tS ?_;conv=>whnf)
  have hdl:g.d.toNat<t.length:=by omega
  have hlo2:=P6 g t had [A] [b] stamp (Nat.le_of_lt hdl);have eW:(FO g t had [A] [b] stamp g.d.toNat).set g.d.toNat ⟨stamp,(DG (Fa g t had [A] [b] g.d.toNat):Nat),false⟩=BJ g t had [A] [b] stamp:=by
   rw [L5 g t had [A] [b] stamp hdl,BJ,A9 (by omega)]
  have hgl:((FO g t had [A] [b] stamp g.d.toNat).map Dr).getD g.d.toNat []=Dr ((FO g t had [A] [b] stamp g.d.toNat).getD g.d.toNat ez):=AP (by omega);have eR:((FO g t had [A] [b] stamp g.d.toNat).map Dr).set g.d.toNat (Dr ⟨stamp,(DG (Fa g t had [A] [b] g.d.toNat):Nat),false⟩)=(BJ g t had [A] [b] stamp).map Dr:=by rw [<-List.map_set,eW]
  have eN:(BJ g t had [A] [b] stamp).length=t.length:=by simp [BJ];omega
  all_goals
   refine⟨⟨rfl,by rw [Aa,hlo2],hdl⟩,?_⟩;rw [hgl];refine⟨(by rw [Bl,Aa,hlo2]),?_⟩;exact⟨.tp [.ag [BX (BJ g t had [A] [b] stamp)],bA (Fa g t had [A] [b] g.d.toNat),iv 0],BV ⟨Bg ⟨BY (f:=Dr) (BJ g t had [A] [b] stamp) eN.symm eR,tv⟩,ri,ri,tv⟩,rfl⟩
theorem Pj (g:Geo) (z:Int) (t:List Ent) (par:List UInt8) (A:Int) (b:List UInt8) (hg:Bq g=true) (hz:0<=z/\z<g.z) (ht:If g t=true) (hp:par.length=8) (hA:0<=A/\A<g.d) (hb:b.length=8) :
  Fn Tryz.prog 146 [.ag (Bm g),iv z, .ag [BX t],bA par,iA [A],GZ [b]] fun r=>r = .tp [Fb (Cz z t par [A] [b]),iv 0]:=by
 obtain⟨g1,g2,g3,g4,g5⟩:=A2.1 hg;have htl:=Jv ht;have h1:=BS par (by omega);have h2:=BS b (by omega);have h3:=JI g t (by omega);rw [ht,if_pos rfl] at h3;have hr:=Ku g A hA;have hw:=JJ [b] (show 1<=1000000 by decide) (fun x hx=>by rw [Ay] at hx;rw [hx];exact hb);have hwp:=JJ [par] (show 1<=1000000 by decide) (fun x hx=>by rw [Ay] at hx;rw [hx];exact hp);refine zT Tryz.func146 rfl ?_;conv=>whnf
 refine zY h3 ?_;conv=>whnf
 rw [show decide (z<0)=false from decide_eq_false (by omega)];conv=>whnf
 rw [show decide (z>=g.z)=false from decide_eq_false (by omega)];conv=>whnf
 refine zY hr ?_;conv=>whnf
 refine zY hw ?_;conv=>whnf
 refine zq (args':= [.sl 1 1 fun i=>([MA par]:List (List AV)).getD i []]) (hwp.subA ⟨FV (L:= [par]) rfl rfl,tv⟩) tA ?_;rintro _ rfl;refine⟨rfl,?_⟩;conv=>whnf
 refine zR Nat (fun k=>([(1,iv z),(3,bA par),(5,GZ [b]),(14,bA (Di t)),(16, .ow 2 k),(61,iA [A]),(62,iv 1),(63,iv (k:Nat))], [.box 24 (Bm g), .box 145 [BX t], .row 139 3 ((([⟨z,A,b⟩]:List Img).take k).map GV)])) (fun k=>k<=1) (fun k=>1 - k) 0 (by decide)
  ⟨_,_,zo _ _, [(16,139,3)],tA, [0,1,3],tA,tA,rfl,rfl,rfl,rfl,rfl⟩ ?_
 intro k hk;by_cases hk1:k=1
 ·subst hk1;conv=>whnf
  repeat' (refine zZ ?_;conv=>whnf)
  refine zY h1 ?_;refine⟨rfl,?_⟩;refine⟨⟨rfl,by decide⟩,?_⟩;refine⟨rfl,?_⟩;exact⟨.tp [Fb (Cz z t par [A] [b]),iv 0],BV ⟨BY (f:=GV) (Cz z t par [A] [b]) rfl rfl,ri,tv⟩,rfl⟩
 ·obtain rfl:k=0:=by omega
  conv=>whnf
  repeat' (refine zZ ?_;conv=>whnf)
  refine⟨in01,?_⟩;conv=>whnf
  repeat' (refine zZ ?_;conv=>whnf)
  refine⟨in01,?_⟩;conv=>whnf
  refine zY h2 ?_;refine⟨rfl,?_⟩;refine⟨⟨rfl,by decide⟩,?_⟩;exact⟨1,by omega,by omega,zQ (s:= [0,1,2]) tA⟩
end
section
open Go.RowKit Go.Shelf
attribute [local go_sem] Oper.semAt_some

theorem Wg (F:Fence) (n:Nat) (h7:F.fn 314) (hro:F.round=none) (hn:1<=n) (l Bs n₀ b off len cap:Nat) (X0 X1 X2 X3:Nat->Value) (hlen:len<=1000000000) (hb:b<n₀) (hBn:Bs<n₀) (J Jx:List Nat->World->Prop)
  (hY:∀ pre x W,J pre W->pre.length<len->x<len->YieldAt F (n - 1) Tryz.prog l #[.int .i64 (x:Nat), .agg #[X0 x,X1 x,X2 x,X3 x]] W fun e W'=>
   (e = .returned (.bool true)/\J (pre ++ [x]) W'/\Below n₀ W W')\/(e = .returned (.bool false)/\Jx (pre ++ [x]) W'))
  (W:World) (hBs:W.cell? ⟨Bs,0,none⟩=some (.slice (some ⟨b,off,none⟩) len cap)) (hc0:∀ j,j<len->W.cell? ⟨b,off+j*4,none⟩=some (X0 j)) (hc1:∀ j,j<len->W.cell? ⟨b,off+j*4+1,none⟩=some (X1 j)) (hc2:∀ j,j<len->W.cell? ⟨b,off+j*4+2,none⟩=some (X2 j)) (hc3:∀ j,j<len->W.cell? ⟨b,off+j*4+3,none⟩=some (X3 j)) (h0:J [] W) :
  CallsIn F n Tryz.prog 314 #[.func (.yield l) #[] #[], .pointer (some ⟨Bs,0,none⟩)] W fun e W'=>(∃ v,e = .returned v)/\
   ((∃ ys,ys=CR len len/\J ys W')\/(∃ pre,(∃ k,k<=len/\pre=CR len k)/\Jx pre W')):=by
 have Hc0:=Lib.hid hc0;have Hc1:=Lib.hid hc1;have Hc2:=Lib.hid hc2;have Hc3:=Lib.hid hc3;clear hc0 hc1 hc2 hc3;refine callsIn_of_wp Tryz.func314 rfl h7 ?_ hro;simp only [Tryz.ntmps314,Bw,Ao,AN,Nat.reduceAdd,Nat.reduceSub,CE,CD,Dp,CN,Bk,Bj]
 gi_wp2
 gi_loopw [3] (fun i wr=>∃ k:Nat,k<=len/\i = .int .i64 ((len:Int) - 1 - k)/\J (CR len k) wr/\Below n₀ W wr)
  (fun i _=>(intOf i+1).toNat)
 case atStart=>exact⟨0,Aj _,by simp,h0,Below.refl _ _⟩
 case round=>
  obtain⟨k,hk,rfl,hJs,hnx⟩:=hrel;by_cases hlt:k<len
  ·obtain⟨m,hmk⟩:∃ m,len=k+1+m:=⟨len - (k+1),by omega⟩;rw [show (len:Int) - 1 - k=(m:Int) by omega];obtain⟨fn,tmps,assign,body,hy,hR⟩:=hY _ m wr hJs (by rw [GH];exact hlt) (by omega);have e0:=(hnx.cell (p:=⟨b,off+m*4,none⟩) hb).trans (Hc0.out m (by omega));have e1:=(hnx.cell (p:=⟨b,off+m*4+1,none⟩) hb).trans (Hc1.out m (by omega));have e2:=(hnx.cell (p:=⟨b,off+m*4+2,none⟩) hb).trans (Hc2.out m (by omega));have e3:=(hnx.cell (p:=⟨b,off+m*4+3,none⟩) hb).trans (Hc3.out m (by omega));have eb:=(hnx.cell (p:=⟨Bs,0,none⟩) hBn).trans hBs;have hm:(m:Int)<(len:Int):=by omega
   have Hm:=Lib.hid hmk;clear hmk
   gi_wp2
   refine hR.mono ?_;rintro e W3 (⟨rfl,hJ3,hk3⟩ | ⟨rfl,hJx3⟩)
   ·gi_wp2
    go_roundw
    case rel=>exact⟨k+1,by omega,congrArg (Value.int .i64) (by have:=Hm.out;omega),by rw [ES,show len - 1 - k=m by have:=Hm.out;omega];exact hJ3,hnx.trans hk3⟩
    case measure=>simp [intOf]
   ·gi_wp2
    refine bodyPost_ret (results_none rfl _ _ _) rfl ?_;exact⟨⟨_,rfl⟩, .inr ⟨_,⟨k+1,by omega,by rw [ES,show len - 1 - k=m by have:=Hm.out;omega]⟩,hJx3⟩⟩
  ·obtain rfl:k=len:=by omega
   rw [show ((k:Nat):Int) - 1 - k = -1 by omega]
   gi_wp2
   go_end0
   exact⟨⟨_,rfl⟩, .inl ⟨_,rfl,hJs⟩⟩

theorem Wh (F:Fence) (n:Nat) (h7:F.fn 314) (hro:F.round=none) (l Bs:Nat) (a:Option Addr) (cap:Nat) (J:List Nat->World->Prop) (W:World) (hBs:W.cell? ⟨Bs,0,none⟩=some (.slice a 0 cap)) (h0:J [] W) :
  CallsIn F n Tryz.prog 314 #[.func (.yield l) #[] #[], .pointer (some ⟨Bs,0,none⟩)] W fun e W'=>(∃ v,e = .returned v)/\J [] W':=by
 refine callsIn_of_wp Tryz.func314 rfl h7 ?_ hro;simp only [Tryz.ntmps314,Bw,Ao,AN,Nat.reduceAdd,Nat.reduceSub,CE,CD,Dp,CN,Bk,Bj]
 gi_wp2
 gi_loopw [3] (fun i wr=>i = .int .i64 (-1)/\J [] wr) (fun _ _=>0)
 case atStart=>exact⟨rfl,h0⟩
 case round=>
  obtain⟨rfl,hJs⟩:=hrel
  gi_wp2
  go_end0
  exact⟨⟨_,rfl⟩,hJs⟩

theorem RG (F:Fence) (n:Nat) (h7:F.fn 314) (hro:F.round=none) (hn:1<=n) (Bs n₀:Nat) (a:Option Addr) (len cap:Nat) (X0 X1 X2 X3:Nat->Value) (hlen:len<=1000000000) (w:World) (hBs:Bs<n₀) (hn₀:n₀<=w.heap.size)
  (hc:w.cell? ⟨Bs,0,none⟩=some (.slice a len cap)) (hI:0<len->∃ b off,a=some ⟨b,off,none⟩/\b<n₀/\∀ j,j<len->w.cell? ⟨b,off+j*4,none⟩=some (X0 j)/\w.cell? ⟨b,off+j*4+1,none⟩=some (X1 j)/\w.cell? ⟨b,off+j*4+2,none⟩=some (X2 j)/\w.cell? ⟨b,off+j*4+3,none⟩=some (X3 j)) :
  SeqStopsK F n Tryz.prog 314 #[.pointer (some ⟨Bs,0,none⟩)] (fun x:Fin len=> #[Value.int .i64 x.val, .agg #[X0 x,X1 x,X2 x,X3 x]]) (Below n₀) (fun ys=>ys.map Fin.val=CR len len) (fun pre=>∃ k,k<=len/\pre.map Fin.val=CR len k) len w:=fun l J Jx W hW _ _ hY h0=>by
 have hc':=(hW.cell (p:=⟨Bs,0,none⟩) (by show Bs<_;omega)).trans hc;rcases Da len with rfl | hp
 ·exact(Wh F n h7 hro l Bs a cap (fun _ W=>J [] W) W hc' h0).mono fun e W' ⟨he,hj⟩=>⟨he, .inl ⟨[],rfl,hj⟩⟩
 ·obtain⟨b,off,rfl,hb,hj⟩:=hI hp;refine(Wg F n h7 hro hn l Bs n₀ b off len cap X0 X1 X2 X3 hlen hb hBs (fun pre W=>∃ q:List (Fin len),q.map Fin.val=pre/\J q W) (fun pre W=>∃ q:List (Fin len),q.map Fin.val=pre/\Jx q W) ?_ W hc' (fun j h=>(hW.cell (p:=⟨b,off+j*4,none⟩) (by show b<_;omega)).trans (hj j h).1) (fun j h=>(hW.cell (p:=⟨b,off+j*4+1,none⟩) (by show b<_;omega)).trans (hj j h).2.1) (fun j h=>(hW.cell (p:=⟨b,off+j*4+2,none⟩) (by show b<_;omega)).trans (hj j h).2.2.1) (fun j h=>(hW.cell (p:=⟨b,off+j*4+3,none⟩) (by show b<_;omega)).trans (hj j h).2.2.2) ⟨[],rfl,h0⟩).mono ?_
  ·rintro pre x W1 ⟨q,hq,hJ⟩ hlt hx;obtain⟨fn,tmps,assign,body,hy,hR⟩:=hY q ⟨x,hx⟩ W1 hJ (by rw [<-hq,Aa] at hlt;exact hlt);refine⟨fn,tmps,assign,body,hy,hR.mono ?_⟩;rintro e W' (⟨he,h1,h2⟩ | ⟨he,h1⟩)
   ·exact .inl ⟨he,⟨_,by simp [hq],h1⟩,h2⟩
   ·exact .inr ⟨he,⟨_,by simp [hq],h1⟩⟩
  ·rintro e W' ⟨he,⟨ys,rfl,q,hq,hJ⟩ | ⟨pre,⟨k,hk,rfl⟩,q,hq,hJ⟩⟩
   ·exact⟨he, .inl ⟨q,hq,hJ⟩⟩
   ·exact⟨he, .inr ⟨q,⟨k,hk,hq⟩,hJ⟩⟩

theorem bktx_is:IsBack Tryz.prog 314 4:=by
 refine⟨enters_of Tryz.func314 (by kernel_rfl) rfl,fun m hm B a len cap X w hlen hc hl hI=>?_⟩;have e:(fun x:Fin len=>(#[Value.int .i64 x.val, .agg (X x.val).toArray]:Array Value))=fun x:Fin len=> #[Value.int .i64 x.val, .agg #[(X x.val).getD 0 undef,(X x.val).getD 1 undef,(X x.val).getD 2 undef,(X x.val).getD 3 undef]]:=by
  funext x;have:=hl x.val;match h:X x.val with
  | [u0,u1,u2,u3]=>rfl
  | []=>rw [h] at this;simp at this
  | [_]=>rw [h] at this;simp at this
  | [_,_]=>rw [h] at this;simp at this
  | [_,_,_]=>rw [h] at this;simp at this
  | _::_::_::_::_::_=>rw [h] at this;simp at this
 rw [e];refine RG Fence.wide m trivial rfl hm B w.heap.size a len cap (fun j=>(X j).getD 0 undef) (fun j=>(X j).getD 1 undef) (fun j=>(X j).getD 2 undef) (fun j=>(X j).getD 3 undef) hlen w (World.block_lt_of_cell? w _ hc) (Ag _) hc fun hp=>?_
 obtain⟨b,off,h1,h2,h3⟩:=hI hp;refine⟨b,off,h1,h2,fun j hj=>?_⟩;have h4:=hl j;match h:X j with
 | [u0,u1,u2,u3]=>exact⟨h3 j hj 0 u0 (by rw [h];rfl),h3 j hj 1 u1 (by rw [h];rfl),h3 j hj 2 u2 (by rw [h];rfl),h3 j hj 3 u3 (by rw [h];rfl)⟩
 | []=>rw [h] at h4;simp at h4
 | [_]=>rw [h] at h4;simp at h4
 | [_,_]=>rw [h] at h4;simp at h4
 | [_,_,_]=>rw [h] at h4;simp at h4
 | _::_::_::_::_::_=>rw [h] at h4;simp at h4

theorem Wi (F:Fence) (n:Nat) (h7:F.fn 315) (hro:F.round=none) (hn:1<=n) (l Bs n₀ b off len cap:Nat) (X0 X1 X2:Nat->Value) (hlen:len<=1000000000) (hb:b<n₀) (hBn:Bs<n₀) (J Jx:List Nat->World->Prop)
  (hY:∀ pre x W,J pre W->pre.length<len->x<len->YieldAt F (n - 1) Tryz.prog l #[.int .i64 (x:Nat), .agg #[X0 x,X1 x,X2 x]] W fun e W'=>
   (e = .returned (.bool true)/\J (pre ++ [x]) W'/\Below n₀ W W')\/(e = .returned (.bool false)/\Jx (pre ++ [x]) W'))
  (W:World) (hBs:W.cell? ⟨Bs,0,none⟩=some (.slice (some ⟨b,off,none⟩) len cap)) (hc0:∀ j,j<len->W.cell? ⟨b,off+j*3,none⟩=some (X0 j)) (hc1:∀ j,j<len->W.cell? ⟨b,off+j*3+1,none⟩=some (X1 j)) (hc2:∀ j,j<len->W.cell? ⟨b,off+j*3+2,none⟩=some (X2 j)) (h0:J [] W) :
  CallsIn F n Tryz.prog 315 #[.func (.yield l) #[] #[], .pointer (some ⟨Bs,0,none⟩)] W fun e W'=>(∃ v,e = .returned v)/\
   ((∃ ys,ys=CR len len/\J ys W')\/(∃ pre,(∃ k,k<=len/\pre=CR len k)/\Jx pre W')):=by
 have Hc0:=Lib.hid hc0;have Hc1:=Lib.hid hc1;have Hc2:=Lib.hid hc2;clear hc0 hc1 hc2;refine callsIn_of_wp Tryz.func315 rfl h7 ?_ hro;simp only [Tryz.ntmps315,Bw,Ao,AN,Nat.reduceAdd,Nat.reduceSub,CE,CD,Dp,CN,Bk,Bj]
 gi_wp2
 gi_loopw [3] (fun i wr=>∃ k:Nat,k<=len/\i = .int .i64 ((len:Int) - 1 - k)/\J (CR len k) wr/\Below n₀ W wr)
  (fun i _=>(intOf i+1).toNat)
 case atStart=>exact⟨0,Aj _,by simp,h0,Below.refl _ _⟩
 case round=>
  obtain⟨k,hk,rfl,hJs,hnx⟩:=hrel;by_cases hlt:k<len
  ·obtain⟨m,hmk⟩:∃ m,len=k+1+m:=⟨len - (k+1),by omega⟩;rw [show (len:Int) - 1 - k=(m:Int) by omega];obtain⟨fn,tmps,assign,body,hy,hR⟩:=hY _ m wr hJs (by rw [GH];exact hlt) (by omega);have e0:=(hnx.cell (p:=⟨b,off+m*3,none⟩) hb).trans (Hc0.out m (by omega));have e1:=(hnx.cell (p:=⟨b,off+m*3+1,none⟩) hb).trans (Hc1.out m (by omega));have e2:=(hnx.cell (p:=⟨b,off+m*3+2,none⟩) hb).trans (Hc2.out m (by omega));have eb:=(hnx.cell (p:=⟨Bs,0,none⟩) hBn).trans hBs;have hm:(m:Int)<(len:Int):=by omega
   have Hm:=Lib.hid hmk;clear hmk
   gi_wp2
   refine hR.mono ?_;rintro e W3 (⟨rfl,hJ3,hk3⟩ | ⟨rfl,hJx3⟩)
   ·gi_wp2
    go_roundw
    case rel=>exact⟨k+1,by omega,congrArg (Value.int .i64) (by have:=Hm.out;omega),by rw [ES,show len - 1 - k=m by have:=Hm.out;omega];exact hJ3,hnx.trans hk3⟩
    case measure=>simp [intOf]
   ·gi_wp2
    refine bodyPost_ret (results_none rfl _ _ _) rfl ?_;exact⟨⟨_,rfl⟩, .inr ⟨_,⟨k+1,by omega,by rw [ES,show len - 1 - k=m by have:=Hm.out;omega]⟩,hJx3⟩⟩
  ·obtain rfl:k=len:=by omega
   rw [show ((k:Nat):Int) - 1 - k = -1 by omega]
   gi_wp2
   go_end0
   exact⟨⟨_,rfl⟩, .inl ⟨_,rfl,hJs⟩⟩

theorem Wj (F:Fence) (n:Nat) (h7:F.fn 315) (hro:F.round=none) (l Bs:Nat) (a:Option Addr) (cap:Nat) (J:List Nat->World->Prop) (W:World) (hBs:W.cell? ⟨Bs,0,none⟩=some (.slice a 0 cap)) (h0:J [] W) :
  CallsIn F n Tryz.prog 315 #[.func (.yield l) #[] #[], .pointer (some ⟨Bs,0,none⟩)] W fun e W'=>(∃ v,e = .returned v)/\J [] W':=by
 refine callsIn_of_wp Tryz.func315 rfl h7 ?_ hro;simp only [Tryz.ntmps315,Bw,Ao,AN,Nat.reduceAdd,Nat.reduceSub,CE,CD,Dp,CN,Bk,Bj]
 gi_wp2
 gi_loopw [3] (fun i wr=>i = .int .i64 (-1)/\J [] wr) (fun _ _=>0)
 case atStart=>exact⟨rfl,h0⟩
 case round=>
  obtain⟨rfl,hJs⟩:=hrel
  gi_wp2
  go_end0
  exact⟨⟨_,rfl⟩,hJs⟩

theorem RH (F:Fence) (n:Nat) (h7:F.fn 315) (hro:F.round=none) (hn:1<=n) (Bs n₀:Nat) (a:Option Addr) (len cap:Nat) (X0 X1 X2:Nat->Value) (hlen:len<=1000000000) (w:World) (hBs:Bs<n₀) (hn₀:n₀<=w.heap.size)
  (hc:w.cell? ⟨Bs,0,none⟩=some (.slice a len cap)) (hI:0<len->∃ b off,a=some ⟨b,off,none⟩/\b<n₀/\∀ j,j<len->w.cell? ⟨b,off+j*3,none⟩=some (X0 j)/\w.cell? ⟨b,off+j*3+1,none⟩=some (X1 j)/\w.cell? ⟨b,off+j*3+2,none⟩=some (X2 j)) :
  SeqStopsK F n Tryz.prog 315 #[.pointer (some ⟨Bs,0,none⟩)] (fun x:Fin len=> #[Value.int .i64 x.val, .agg #[X0 x,X1 x,X2 x]]) (Below n₀) (fun ys=>ys.map Fin.val=CR len len) (fun pre=>∃ k,k<=len/\pre.map Fin.val=CR len k) len w:=fun l J Jx W hW _ _ hY h0=>by
 have hc':=(hW.cell (p:=⟨Bs,0,none⟩) (by show Bs<_;omega)).trans hc;rcases Da len with rfl | hp
 ·exact(Wj F n h7 hro l Bs a cap (fun _ W=>J [] W) W hc' h0).mono fun e W' ⟨he,hj⟩=>⟨he, .inl ⟨[],rfl,hj⟩⟩
 ·obtain⟨b,off,rfl,hb,hj⟩:=hI hp;refine(Wi F n h7 hro hn l Bs n₀ b off len cap X0 X1 X2 hlen hb hBs (fun pre W=>∃ q:List (Fin len),q.map Fin.val=pre/\J q W) (fun pre W=>∃ q:List (Fin len),q.map Fin.val=pre/\Jx q W) ?_ W hc' (fun j h=>(hW.cell (p:=⟨b,off+j*3,none⟩) (by show b<_;omega)).trans (hj j h).1) (fun j h=>(hW.cell (p:=⟨b,off+j*3+1,none⟩) (by show b<_;omega)).trans (hj j h).2.1) (fun j h=>(hW.cell (p:=⟨b,off+j*3+2,none⟩) (by show b<_;omega)).trans (hj j h).2.2) ⟨[],rfl,h0⟩).mono ?_
  ·rintro pre x W1 ⟨q,hq,hJ⟩ hlt hx;obtain⟨fn,tmps,assign,body,hy,hR⟩:=hY q ⟨x,hx⟩ W1 hJ (by rw [<-hq,Aa] at hlt;exact hlt);refine⟨fn,tmps,assign,body,hy,hR.mono ?_⟩;rintro e W' (⟨he,h1,h2⟩ | ⟨he,h1⟩)
   ·exact .inl ⟨he,⟨_,by simp [hq],h1⟩,h2⟩
   ·exact .inr ⟨he,⟨_,by simp [hq],h1⟩⟩
  ·rintro e W' ⟨he,⟨ys,rfl,q,hq,hJ⟩ | ⟨pre,⟨k,hk,rfl⟩,q,hq,hJ⟩⟩
   ·exact⟨he, .inl ⟨q,hq,hJ⟩⟩
   ·exact⟨he, .inr ⟨q,⟨k,hk,hq⟩,hJ⟩⟩

theorem bkim_is:IsBack Tryz.prog 315 3:=by
 refine⟨enters_of Tryz.func315 (by kernel_rfl) rfl,fun m hm B a len cap X w hlen hc hl hI=>?_⟩;have e:(fun x:Fin len=>(#[Value.int .i64 x.val, .agg (X x.val).toArray]:Array Value))=fun x:Fin len=> #[Value.int .i64 x.val, .agg #[(X x.val).getD 0 undef,(X x.val).getD 1 undef,(X x.val).getD 2 undef]]:=by
  funext x;have:=hl x.val;match h:X x.val with
  | [u0,u1,u2]=>rfl
  | []=>rw [h] at this;simp at this
  | [_]=>rw [h] at this;simp at this
  | [_,_]=>rw [h] at this;simp at this
  | _::_::_::_::_=>rw [h] at this;simp at this
 rw [e];refine RH Fence.wide m trivial rfl hm B w.heap.size a len cap (fun j=>(X j).getD 0 undef) (fun j=>(X j).getD 1 undef) (fun j=>(X j).getD 2 undef) hlen w (World.block_lt_of_cell? w _ hc) (Ag _) hc fun hp=>?_
 obtain⟨b,off,h1,h2,h3⟩:=hI hp;refine⟨b,off,h1,h2,fun j hj=>?_⟩;have h4:=hl j;match h:X j with
 | [u0,u1,u2]=>exact⟨h3 j hj 0 u0 (by rw [h];rfl),h3 j hj 1 u1 (by rw [h];rfl),h3 j hj 2 u2 (by rw [h];rfl)⟩
 | []=>rw [h] at h4;simp at h4
 | [_]=>rw [h] at h4;simp at h4
 | [_,_]=>rw [h] at h4;simp at h4
 | _::_::_::_::_=>rw [h] at h4;simp at h4

end
section
open Go.RowKit
def Fe (l:List Img) (z w:Int):Nat->Option Nat
 | 0=>none
 | k+1=>if (l.getD k iz).zone=z/\(l.getD k iz).what=w then some k else Fe l z w k
def FM (l:List Tx) (z w:Int):Nat->Option (Nat × Nat)
 | 0=>none
 | k+1=>match Fe (l.getD k tz).images z w (l.getD k tz).images.length with
  | some i=>some (k,i)
  | none=>FM l z w k
theorem S1 (l:List Img) (z w:Int):∀ k,D0 l z w k=(Fe l z w k).map fun i=>l.getD i iz
 | 0=>rfl
 | k+1=>by
  rw [D0,Fe,S1 l z w k];split <;> rfl
theorem J7 (l:List Tx) (z w:Int):∀ k,F8 l z w k=(FM l z w k).map fun p=>((l.getD p.1 tz).images.getD p.2 iz,(l.getD p.1 tz).seq)
 | 0=>rfl
 | k+1=>by
  rw [F8,FM,S1];cases Fe (l.getD k tz).images z w (l.getD k tz).images.length with
  | some i=>rfl
  | none=>exact J7 l z w k
theorem Mm {l:List Img} {z w:Int}:∀ {k:Nat},Fe l z w k=none->∀ j,j<k->¬((l.getD j iz).zone=z/\(l.getD j iz).what=w)
 | k+1,h,j,hj=>by
  rw [Fe] at h;split at h
  ·cases h
  ·rename_i hc;rcases Nat.lt_succ_iff_lt_or_eq.1 hj with q | rfl
   ·exact Mm h j q
   ·exact hc
theorem Nv {l:List Img} {z w:Int} {j:Nat} (h:(l.getD j iz).zone=z/\(l.getD j iz).what=w):∀ (k:Nat),j<k->(∀ i,j<i->i<k->¬((l.getD i iz).zone=z/\(l.getD i iz).what=w))->Fe l z w k=some j
 | k+1,hj,hn=>by
  rw [Fe];by_cases e:j=k
  ·subst e;rw [if_pos h]
  ·rw [if_neg (hn k (by omega) (by omega))];exact Nv h k (by omega) fun i q1 q2=>hn i q1 (by omega)
theorem Mn {l:List Img} {z w:Int} {j:Nat}:∀ {k:Nat},Fe l z w k=some j->j<k/\(l.getD j iz).zone=z/\(l.getD j iz).what=w
 | k+1,h=>by
  rw [Fe] at h;split at h
  ·rename_i hc;obtain rfl:=Option.some.inj h;exact⟨by omega,hc⟩
  ·have:=Mn h;exact⟨by omega,this.2⟩
theorem Nw {l:List Tx} {z w:Int} {j i:Nat} (h:Fe (l.getD j tz).images z w (l.getD j tz).images.length=some i):∀ (k:Nat),j<k->(∀ q,j<q->q<k->Fe (l.getD q tz).images z w (l.getD q tz).images.length=none)->FM l z w k=some (j,i)
 | k+1,hj,hn=>by
  rw [FM];by_cases e:j=k
  ·subst e;rw [h]
  ·rw [hn k (by omega) (by omega)];exact Nw h k (by omega) fun q q1 q2=>hn q q1 (by omega)
theorem Mo {l:List Tx} {z w:Int}:∀ (k:Nat),(∀ q,q<k->Fe (l.getD q tz).images z w (l.getD q tz).images.length=none)->FM l z w k=none
 | 0,_=>rfl
 | k+1,hn=>by
  rw [FM,hn k (by omega)];exact Mo k fun q hq=>hn q (by omega)
theorem H8 {l:List Tx} {z w:Int} {p:Nat × Nat}:∀ {k:Nat},FM l z w k=some p->p.1<k/\p.2<(l.getD p.1 tz).images.length
 | k+1,h=>by
  rw [FM] at h;split at h
  ·rename_i i hi;obtain rfl:=Option.some.inj h;exact⟨Br k,(Mn hi).1⟩
  ·have:=H8 h;exact⟨by omega,this.2⟩
theorem Wf (a:Option Addr) (len cap:Nat) (w:World) :
  Calls Tryz.prog 239 #[.slice a len cap] w fun e w'=>e = .returned (.func (.func 314) #[] #[.pointer (some ⟨w.heap.size,0,none⟩)])/\w.alloc (.cells #[.slice a len cap] 29)=w':=by
 go_enter Tryz.func239,Tryz.ntmps239
 go_wp2
 go_ret
 exact tA
theorem Qv (a:Option Addr) (len cap:Nat) (w:World) :
  Calls Tryz.prog 240 #[.slice a len cap] w fun e w'=>e = .returned (.func (.func 315) #[] #[.pointer (some ⟨w.heap.size,0,none⟩)])/\w.alloc (.cells #[.slice a len cap] 160)=w':=by
 go_enter Tryz.func240,Tryz.ntmps240
 go_wp2
 go_ret
 exact tA
theorem O6 {P:Program} {f g:FuncId} {t:TypeId} (hg:Q5 P f) (h:∀ a len cap w,Calls P f #[.slice a len cap] w fun e w'=>e = .returned (.func (.func g) #[] #[.pointer (some ⟨w.heap.size,0,none⟩)])/\w.alloc (.cells #[.slice a len cap] t)=w') (x:AV) (Hin:List AB) (hx:∀ c u,Rd x c u->∃ a len cap,u = .slice a len cap):ACalls P false f [x] Hin fun r H=>r = .fn g [.bp Hin.length 0]/\H=Hin ++ [.box t [x]]:=by
 refine⟨hg,fun w0 M0 c us hs hr=>?_⟩;have hr0:=hr;simp only [RdL] at hr;obtain⟨u,_,rfl,hu,rfl⟩:=hr;obtain⟨a,len,cap,rfl⟩:=hx _ _ hu;obtain⟨c',e1,e2,e3,e4⟩:=hs.box t hr0 (by simp [Value.oneCell']);refine(h a len cap c.w).mono ?_;rintro e w' ⟨rfl,rfl⟩;refine⟨_,c',_,_,rfl,by rw [e1],tA,e2,e3,?_,fun e=>by cases e⟩;simp only [Rd,RdL];exact⟨_,rfl,_,_,rfl,by simpa only [Rd] using e4,rfl⟩
theorem NI {sz n:Nat} {get:Nat->List AV} (c:Ctx) (u:Value) (hu:Rd (.sl sz n get) c u):∃ a len cap,u = .slice a len cap:=by
 simp only [Rd] at hu;obtain⟨a,p,h, -⟩:=hu;exact⟨_,_,_,h⟩
theorem L9 (l:List Tx) (z w:Int) (hl:l.length<=1000000) (hi:∀ t∈l,t.images.length<=1000000):Fn Tryz.prog 164 [Ej l,iv z,iv w] fun r=>r=(match FM l z w l.length with | some p=> .tp [iv (p.1:Nat),iv (p.2:Nat), .v (.bool true)] | none=> .tp [iv 0,iv 0, .v (.bool false)]):=by
 refine zT Tryz.func164 rfl ?_;conv=>whnf
 refine(O6 ⟨_,Tryz.func239,rfl,by decide⟩ Wf (Ej l) _ NI).mono ?_;rintro _ _ ⟨rfl,rfl⟩;conv=>whnf
 refine aRF.back tys_ok bktx_is (B:=5) (len:=l.length) (E:=fun i=>It (l.getD i ⟨0,0,0, []⟩)) rfl rfl tA (by omega) rfl (by decide) rfl [(4, .rp [iv z]),(5, .rp [iv w])] ⟨.inr ⟨0,_,_,rfl,rfl,rfl,rfl⟩, .inr ⟨1,_,_,rfl,rfl,rfl,rfl⟩,tv⟩ (fun i=>(Fe (l.getD i tz).images z w (l.getD i tz).images.length).isSome) ?_ ?_ ?_
 ·intro i hik hh;have hn:Fe (l.getD i tz).images z w (l.getD i tz).images.length=none:=by simpa using hh
  have him:=hi _ (AC (d:=tz) hik);obtain⟨t,ht⟩:∃ t,t=l.getD i tz:=⟨_,rfl⟩;rw [show l.getD i ⟨0,0,0, []⟩=t from ht.symm];rw [<-ht] at hn him;refine⟨rfl,?_⟩;conv=>whnf
  refine(O6 ⟨_,Tryz.func240,rfl,by decide⟩ Qv (Fb t.images) _ NI).mono ?_;rintro _ _ ⟨rfl,rfl⟩;conv=>whnf
  refine aRF.back tys_ok bkim_is (B:=2) (len:=t.images.length) (E:=fun j=>GV (t.images.getD j ⟨0,0, []⟩)) rfl rfl tA (by omega) rfl (by decide) rfl [(4, .rp [iv z]),(5, .rp [iv w])] ⟨.inl tA, .inl tA,tv⟩ (fun _=>false) ?_ ?_ ?_
  ·intro j hj _;have hnj:=Mm hn j hj;refine⟨rfl,?_⟩;conv=>whnf
   by_cases hz:(t.images.getD j ⟨0,0, []⟩).zone=z
   ·rw [show ((t.images.getD j ⟨0,0, []⟩).zone == z)=true from beq_iff_eq.2 hz];conv=>whnf
    rw [show ((t.images.getD j ⟨0,0, []⟩).what == w)=false from beq_eq_false_iff_ne.2 fun e=>hnj ⟨hz,e⟩];conv=>whnf
   ·rw [show ((t.images.getD j ⟨0,0, []⟩).zone == z)=false from beq_eq_false_iff_ne.2 hz];conv=>whnf
  ·intro j hj h;cases h
  ·intro _;conv=>whnf
 ·intro i hik hh;obtain⟨i0,hi0⟩:=C9.1 hh;have him:=hi _ (AC (d:=tz) hik);obtain⟨t,ht⟩:∃ t,t=l.getD i tz:=⟨_,rfl⟩;rw [show l.getD i ⟨0,0,0, []⟩=t from ht.symm];rw [<-ht] at hi0 him;refine⟨rfl,?_⟩;conv=>whnf
  refine(O6 ⟨_,Tryz.func240,rfl,by decide⟩ Qv (Fb t.images) _ NI).mono ?_;rintro _ _ ⟨rfl,rfl⟩;conv=>whnf
  refine aRF.back tys_ok bkim_is (B:=8) (len:=t.images.length) (E:=fun j=>GV (t.images.getD j ⟨0,0, []⟩)) rfl rfl tA (by omega) rfl (by decide) rfl [(4, .rp [iv z]),(5, .rp [iv w])] ⟨.inr ⟨0,_,_,rfl,rfl,rfl,rfl⟩, .inr ⟨1,_,_,rfl,rfl,rfl,rfl⟩,tv⟩ (fun j=>decide ((t.images.getD j iz).zone=z/\(t.images.getD j iz).what=w)) ?_ ?_ ?_
  ·intro j hj hnj;have hnj:=of_decide_eq_false hnj;refine⟨rfl,?_⟩;conv=>whnf
   by_cases hz:(t.images.getD j ⟨0,0, []⟩).zone=z
   ·rw [show ((t.images.getD j ⟨0,0, []⟩).zone == z)=true from beq_iff_eq.2 hz];conv=>whnf
    rw [show ((t.images.getD j ⟨0,0, []⟩).what == w)=false from beq_eq_false_iff_ne.2 fun e=>hnj ⟨hz,e⟩];conv=>whnf
   ·rw [show ((t.images.getD j ⟨0,0, []⟩).zone == z)=false from beq_eq_false_iff_ne.2 hz];conv=>whnf
  ·intro j hj hy;have hy:=of_decide_eq_true hy;refine⟨rfl,?_⟩;conv=>whnf
   rw [show ((t.images.getD j ⟨0,0, []⟩).zone == z)=true from beq_iff_eq.2 hy.1];conv=>whnf
   rw [show ((t.images.getD j ⟨0,0, []⟩).what == w)=true from beq_iff_eq.2 hy.2];refine⟨by simp,rfl,fun hord=>?_⟩;refine⟨by simp,rfl,fun hord2=>?_⟩;conv=>whnf
   have hJ:Fe (l.getD i tz).images z w (l.getD i tz).images.length=some j:=by
    rw [<-ht];exact Nv hy _ hj fun q q1 q2=>of_decide_eq_false (hord q q1 q2)
   rw [Nw hJ l.length hik fun q q1 q2=>by simpa using hord2 q q1 q2];exact⟨_,ri,rfl⟩
  ·intro hno;exfalso;have:=Mn hi0;exact of_decide_eq_false (hno i0 this.1) this.2
 ·intro hh;have hn:=Mo (l:=l) (z:=z) (w:=w) l.length fun q hq=>by simpa using hh q hq
  conv=>whnf
  rw [hn];exact⟨_,ri,rfl⟩
def flatY:AV->Bool
 | .v _=>true
 | .top=>true
 | _=>false
def flatP:AV->Bool
 | .v _=>true
 | .ow _ _=>true
 | .sl _ 0 _=>true
 | _=>false
def flatQ:AV->Bool
 | .v _=>true
 | .ow _ _=>true
 | .ag l=>l.all flatP
 | _=>false
def flatS:List AB->Bool
 | []=>true
 | .row _ _ es::r=>es.flatten.all flatY&&flatS r
 | _::_=>false
theorem Qa {c c':Ctx}:∀ {l:List AV} {us:List Value},l.all flatY=true->RdL l c us->RdL l c' us
 | [],us,_,h=>by simpa only [RdL] using h
 | x::l,us,hf,h=>by
  rw [AR,Ad] at hf;simp only [RdL] at h |-
  obtain⟨u,vs,rfl,h1,h2⟩:=h;refine⟨u,vs,rfl,?_,Qa hf.2 h2⟩;cases x <;> simp [flatY] at hf
  ·simp only [Rd]
  ·simpa only [Rd] using h1
theorem Mj {c c':Ctx} (hr:c'.rho=c.rho) (hl:c'.len=c.len) (hd:c'.dom=c.dom) {x:AV} (hx:flatP x=true) {u:Value} (h:Rd x c u):Rd x c' u:=by
 cases x with
 | v y=>simpa only [Rd] using h
 | ow k n=>
  simp only [Rd] at h |-
  rw [hr,hl,hd];exact h
 | sl sz n get=>
  cases n with
  | zero=>
   simp only [Rd] at h |-
   obtain⟨a,k,h1,h2,h3, -⟩:=h;exact⟨a,k,h1,h2,h3, .inl trivial⟩
  | succ n=>cases hx
 | _=>simp [flatP] at hx
theorem VO {c c':Ctx} (hr:c'.rho=c.rho) (hl:c'.len=c.len) (hd:c'.dom=c.dom) {x:AV} (hx:flatQ x=true) {u:Value} (h:Rd x c u):Rd x c' u:=by
 cases x with
 | v y=>exact Mj hr hl hd rfl h
 | ow k n=>exact Mj hr hl hd rfl h
 | ag l=>
  simp only [Rd] at h |-
  obtain⟨xs,rfl,hxs⟩:=h;refine⟨xs,rfl,?_⟩;simp only [flatQ] at hx;induction l generalizing xs with
  | nil=>simpa only [RdL] using hxs
  | cons y l ih=>
   rw [AR,Ad] at hx;simp only [RdL] at hxs |-
   obtain⟨u,us,rfl,h1,h2⟩:=hxs;exact⟨u,us,rfl,Mj hr hl hd hx.1 h1,ih hx.2 us h2⟩
 | _=>simp [flatQ] at hx
theorem flatS_mem:∀ {R:List AB} {y:AB},flatS R=true->y∈R->∃ t sz es,y = .row t sz es/\es.flatten.all flatY=true
 | .row t sz es::r,y,h,hy=>by
  rw [flatS,Ad] at h;rcases AQ.1 hy with rfl | hy
  ·exact⟨t,sz,es,rfl,h.1⟩
  ·exact flatS_mem h.2 hy
theorem ACalls.fnO {P:Program} {q:Bool} {f:FuncId} {args:List AV} {K:AV->List AB->Prop} (h:ACalls P q f args [] K) (hK:∀ r R,K r R->∀ y∈R,∃ t sz es,y = .row t sz es):FnO P f args K:=by
 refine⟨h.go,fun c0 us hg hd hM hr=>?_⟩;let ce:Ctx:={ c0 with base:=0 };have hce:Ext c0 ce:=⟨rfl,rfl,rfl,Ag _,fun _ _ h=>⟨h,rfl⟩,Ag _,fun _ _=>Ag _,fun _ _ _=>rfl,fun _ _ _ h=>h⟩;have hHS:HS (Fl.all c0.w hg) c0.M ce []:=⟨yZ _ hg,rfl,hd,fun _ _=>Iff.rfl,hM,by simp,by simp,by simp⟩;refine(h.calls (Fl.all c0.w hg) c0.M ce us hHS (RdL.ext _ hce hr)).mono ?_;rintro e w' ⟨v,c',r,H',rfl,q1,q2,q3,q4,q5, -⟩;exact⟨v,r,c',H',rfl,q2,q1,q3,q5,hK r H' q2⟩
theorem FnO.lendC {P:Program} {f:FuncId} {args args':List AV} {H:List AB} {K:AV->List AB->Prop} {q:Bool} {k:AV->List AB->Prop} (h:FnO P f args' K) (hs:sealA args H fun a _=>a=args') (hk:∀ r R,K r R->∃ R',ConvH R R'/\(flatQ r=true/\flatS R'=true)/\appK H R' 0 fun d H=>CZ (r.shift d) fun r=>k r H):ACalls P q f args H k:=by
 refine⟨h.go,fun w0 M0 c us hs0 hr=>?_⟩;obtain⟨l',H',c',rfl,h2,h3,h4,h5,_⟩:=sealA_sound hs0 hr hs;have hglob:globOk c'.closed.w:=h3.glob;have hc:=h.calls c'.closed us hglob rfl h3.lt h5;have ew:c'.closed.w=c.w:=h2
 suffices hh:Calls P f us.toArray c'.closed.w fun e w'=>∃ v c1 r H1,e = .returned v/\c1.w=w'/\k r H1/\HS w0 M0 c1 H1/\Ext c c1/\Rd r c1 v/\(q=true->Old c.w w') by
  rw [ew] at hh;exact hh
 refine hc.mono ?_;rintro e w' ⟨v,r,c1,R1,rfl,q1,rfl,q21,q31, -⟩;obtain⟨R,hconv,⟨f1,f2⟩,hkk⟩:=hk r R1 q1;obtain⟨c2,ew2,q2,x2⟩:=hconv _ _ _ q21;have q3:Rd r c2 v:=Rd.ext _ x2 q31;have q4:∀ y∈R,∃ t sz es,y = .row t sz es:=fun y hy=>by
  obtain⟨t,sz,es,e, -⟩:=flatS_mem f2 hy;exact⟨t,sz,es,e⟩
 -- the same memory;what the caller holds is not read
 obtain⟨c3,e3⟩:∃ c3:Ctx,c3={ c2 with M:=fun b=>c2.M b\/c.M b }:=⟨_,rfl⟩;have hsub:∀ b,b<c.w.heap.size->c'.M b->c.M b:=fun b hb hm=>by
  by_cases hx:c.M b
  ·exact hx
  ·exact absurd hm (h4.keep b hb hx).1
 have hlow:=q2.low;have q2':HS (Fl.all c.w hs0.glob) c.M c3 R:=by
  subst e3;refine⟨⟨?_,?_,?_,?_,?_⟩,q2.base,q2.dom,fun b hb=>?_,fun b hb=>?_,fun i y hi=>?_,fun i y g hi hl ho=>?_,q2.dis⟩
  ·have:=hlow.os;rw [show (Fl.all c'.closed.w hglob).w=c.w from ew] at this;exact this
  ·have:=hlow.tape;rw [show (Fl.all c'.closed.w hglob).w=c.w from ew] at this;exact this
  ·have:=hlow.output;rw [show (Fl.all c'.closed.w hglob).w=c.w from ew] at this;exact this
  ·have:=hlow.size;rw [show (Fl.all c'.closed.w hglob).w=c.w from ew] at this;exact this
  ·intro b hb;have:=hlow.block b (by show b<c'.closed.w.heap.size;rw [ew];exact hb);rw [show (Fl.all c'.closed.w hglob).w=c.w from ew] at this;exact this
  ·have hb':b<c.w.heap.size:=hb;have:=q2.foreign b (by show b<c'.closed.w.heap.size;rw [ew];exact hb');exact⟨fun hx=>hx.elim (fun hx=>hsub b hb' (this.1 hx)) (fun hx=>hx),fun hx=> .inr hx⟩
  ·have hsz:c.w.heap.size<=c2.w.heap.size:=by
    have:=hlow.size;rw [show (Fl.all c'.closed.w hglob).w=c.w from ew] at this;exact this
   rcases hb with hb | hb
   ·exact q2.lt b hb
   ·exact As (hs0.lt b hb) hsz
  ·obtain⟨t,sz,es,rfl,hfl⟩:=flatS_mem f2 (List.mem_of_getElem? hi);obtain⟨a1,a2,a3,xs,a4,a5,a6⟩:=q2.blk i _ hi;exact⟨a1,a2,a3,xs,a4,Qa hfl a5,a6⟩
  ·have:=q2.own i y g hi hl ho;refine⟨.inl this.1,fun hx=>this.2 ?_⟩;show g<c'.closed.w.heap.size;rw [ew];exact hx
 have q3':Rd r c3 v:=VO (by rw [e3]) (by rw [e3]) (by rw [e3]) f1 q3;have q5:c3.w=c2.w:=by rw [e3]
 obtain⟨p1,p2⟩:=hs0.beside (c':=c3) q2' q4;have h1:=BD (appK_iff hkk);rw [Au,<-hs0.dom] at h1;exact⟨v,c.beside c3,_,_,rfl,by show c3.w=_;rw [q5,ew2],h1,p1,p2,Rd.shift r q3',fun _=>by have:=q2'.low.below.old;rw [q5,ew2] at this;exact this⟩
theorem SubL.tops:∀ (l:List AV),SubL l (List.replicate l.length .top)
 | []=>trivial
 | x::l=>⟨fun _ _ _=>by simp [Rd],SubL.tops l⟩
def Gg (x:Gt) (addr stamp:Int):Option (List UInt8):=match D7 x addr with
 | some s=>if s.stamp=stamp then some s.pay else none
 | none=>none
theorem UJ {x:Gt} {addr stamp:Int} {b:List UInt8} (h:Gg x addr stamp=some b):b.length<=x.bytes.length:=by
 unfold Gg D7 at h;split at h
 ·rename_i s hs;split at hs
  ·obtain rfl:=Option.some.inj hs;split at h
   ·obtain rfl:=Option.some.inj h;simp [Cx];omega
   ·cases h
  ·cases hs
 ·cases h
theorem F2 (b:Bool):∀ (c:Ctx) (v:Value),Rd (.tp [.v (.slice none 0 0), .v (.bool b)]) c v->Rd (.tp [bA [], .v (.bool b)]) c v:=BV ⟨Bv 1 _,ri,tv⟩
theorem S3 (x:Gt) (addr stamp:Int) (hl:x.bytes.length<=100000):Fn Tryz.prog 238 [.ag (Eg x),iv addr,iv stamp] fun r=>r = .tp [bA ((Gg x addr stamp).getD []), .v (.bool (Gg x addr stamp).isSome)]:=by
 have ho:=Lr x.bytes hl;by_cases h0:x.err=0;rotate_left 1
 ·have e:Gg x addr stamp=none:=by
   unfold Gg D7;rw [if_neg (fun h=>h0 h.1)]
  rw [e];refine zT Tryz.func238 rfl ?_;conv=>whnf
  rw [show (x.err != 0)=true from bne_iff_ne.2 h0];exact⟨_,F2 false,rfl⟩
 by_cases h1:DU x.bytes=0;rotate_left 1
 ·have e:Gg x addr stamp=none:=by
   unfold Gg D7;rw [if_neg (fun h=>h1 h.2.1)]
  rw [e];rw [if_neg h1] at ho;refine zT Tryz.func238 rfl ?_;conv=>whnf
  rw [show (x.err != 0)=false from bne_eq_false_iff_eq.2 h0];conv=>whnf
  refine zY ho ?_;conv=>whnf
  rw [show (DU x.bytes != 0)=true from bne_iff_ne.2 h1];exact⟨_,F2 false,rfl⟩
 rw [if_pos h1,h1] at ho;by_cases h2:B_ x.bytes=addr;rotate_left 1
 ·have e:Gg x addr stamp=none:=by
   unfold Gg D7;rw [if_neg (fun h=>h2 h.2.2)]
  rw [e];refine zT Tryz.func238 rfl ?_;conv=>whnf
  rw [show (x.err != 0)=false from bne_eq_false_iff_eq.2 h0];conv=>whnf
  refine zY ho ?_;conv=>whnf
  rw [show ((⟨B_ x.bytes,Cr x.bytes,Cx x.bytes⟩:Sec).addr != addr)=true from bne_iff_ne.2 h2];exact⟨_,F2 false,rfl⟩
 have es:D7 x addr=some ⟨B_ x.bytes,Cr x.bytes,Cx x.bytes⟩:=by unfold D7;rw [if_pos ⟨h0,h1,h2⟩]
 by_cases h3:Cr x.bytes=stamp
 ·have e:Gg x addr stamp=some (Cx x.bytes):=by unfold Gg;rw [es];simp only;rw [if_pos h3]
  rw [e];refine zT Tryz.func238 rfl ?_;conv=>whnf
  rw [show (x.err != 0)=false from bne_eq_false_iff_eq.2 h0];conv=>whnf
  refine zY ho ?_;conv=>whnf
  rw [show ((⟨B_ x.bytes,Cr x.bytes,Cx x.bytes⟩:Sec).addr != addr)=false from bne_eq_false_iff_eq.2 h2];conv=>whnf
  rw [show ((⟨B_ x.bytes,Cr x.bytes,Cx x.bytes⟩:Sec).stamp != stamp)=false from bne_eq_false_iff_eq.2 h3];exact⟨_,ri,rfl⟩
 ·have e:Gg x addr stamp=none:=by unfold Gg;rw [es];simp only;rw [if_neg h3]
  rw [e];refine zT Tryz.func238 rfl ?_;conv=>whnf
  rw [show (x.err != 0)=false from bne_eq_false_iff_eq.2 h0];conv=>whnf
  refine zY ho ?_;conv=>whnf
  rw [show ((⟨B_ x.bytes,Cr x.bytes,Cx x.bytes⟩:Sec).addr != addr)=false from bne_eq_false_iff_eq.2 h2];conv=>whnf
  rw [show ((⟨B_ x.bytes,Cr x.bytes,Cx x.bytes⟩:Sec).stamp != stamp)=true from bne_iff_ne.2 h3];exact⟨_,F2 false,rfl⟩
theorem RF (x:Gt) (addr:Int) (e:Ent):DJ x addr e=match Gg x addr e.stamp with
  | some b=>if b.length=8/\((DG b:Nat):Int)=e.sum then some b else none
  | none=>none:=by
 unfold DJ Gg;cases D7 x addr with
 | none=>rfl
 | some s=>
  simp only;by_cases h:s.stamp=e.stamp
  ·rw [if_pos h];simp only;by_cases h2:s.pay.length=8/\((DG s.pay:Nat):Int)=e.sum
   ·rw [if_pos h2,if_pos ⟨h,h2⟩]
   ·rw [if_neg h2,if_neg (fun q=>h2 q.2)]
  ·rw [if_neg h,if_neg (fun q=>h q.1)]
theorem Nz (x:Gt) (addr:Int) (e:Ent) (hl:x.bytes.length<=100000):Fn Tryz.prog 166 [.ag (Eg x),iv addr, .ag (Dr e)] fun r=>r = .tp [bA ((DJ x addr e).getD []), .v (.bool (DJ x addr e).isSome)]:=by
 have hp:=S3 x addr e.stamp hl;rw [RF];cases hq:Gg x addr e.stamp with
 | none=>
  rw [hq] at hp;refine zT Tryz.func166 rfl ?_;conv=>whnf
  refine zY hp ?_;conv=>whnf
  apply zW (0) tys_ok mixed (.o [0,1,2,3,4,5,6,7,8,10,11,9,12,13] .fin) (by kernel_rfl);conv=>whnf
  (skip)
  exact⟨_,F2 false,rfl⟩
 | some b=>
  rw [hq] at hp;replace hp:Fn Tryz.prog 238 [.ag (Eg x),iv addr,iv e.stamp] fun r=>r = .tp [bA b, .v (.bool true)]:=hp
  have hs:=Ji b;simp only;by_cases h8:b.length=8;rotate_left 1
  ·rw [if_neg (fun h=>h8 h.1)];refine zT Tryz.func166 rfl ?_;conv=>whnf
   refine zY hp ?_;conv=>whnf
   apply zW (0) tys_ok mixed (.o [0,1,2,3,4,5,6,7,8,10,11,9,12,13] .fin) (by kernel_rfl);conv=>whnf
   (rw [show ((b.length:Int) != 8)=true from bne_iff_ne.2 (by omega)])
   conv=>whnf
   all_goals
    exact⟨_,F2 false,rfl⟩
  by_cases hE:((DG b:Nat):Int)=e.sum
  ·rw [if_pos ⟨h8,hE⟩];refine zT Tryz.func166 rfl ?_;conv=>whnf
   refine zY hp ?_;conv=>whnf
   apply zW (0) tys_ok mixed (.o [0,1,2,3,4,5,6,7,8,10,11,9,12,13] .fin) (by kernel_rfl);conv=>whnf
   (rw [show ((b.length:Int) != 8)=false from bne_eq_false_iff_eq.2 (by omega)];(conv=>whnf);refine zY hs ?_)
   conv=>whnf
   all_goals
    rw [show (((DG b:Nat):Int) != e.sum)=false from bne_eq_false_iff_eq.2 hE];exact⟨_,ri,rfl⟩
  ·rw [if_neg (fun h=>hE h.2)];refine zT Tryz.func166 rfl ?_;conv=>whnf
   refine zY hp ?_;conv=>whnf
   apply zW (0) tys_ok mixed (.o [0,1,2,3,4,5,6,7,8,10,11,9,12,13] .fin) (by kernel_rfl);conv=>whnf
   (rw [show ((b.length:Int) != 8)=false from bne_eq_false_iff_eq.2 (by omega)];(conv=>whnf);refine zY hs ?_)
   conv=>whnf
   all_goals
    rw [show (((DG b:Nat):Int) != e.sum)=true from bne_iff_ne.2 hE];exact⟨_,F2 false,rfl⟩
theorem Lo (g:Geo) (x:Gt) (addr root:Int):Cv g x addr root=match Gg x addr root with
  | some b=>CV g b
  | none=>none:=by
 unfold Cv Gg;cases D7 x addr with
 | none=>rfl
 | some s=>
  simp only;by_cases h:s.stamp=root
  ·rw [if_pos h,if_pos h]
  ·rw [if_neg h,if_neg h]
theorem QI {g:Geo} {b:List UInt8} (hg:Bq g=true):(D5 g b=0↔(CV g b).isSome=true):=by
 unfold D5;rw [hg,if_neg (by decide)];split <;> simp_all
theorem Nx (g:Geo) (x:Gt) (addr root:Int) (hg:Bq g=true) (hl:x.bytes.length<=100000):Fn Tryz.prog 163 [.ag (Bm g), .ag (Eg x),iv addr,iv root] fun r=>r = .tp [.ag [BX ((Cv g x addr root).getD [])], .v (.bool (Cv g x addr root).isSome)]:=by
 have hp:=S3 x addr root hl;have hG:Fn Tryz.prog 118 [.ag (Bm g)] fun r=>r = .v (Ew (Bq g)):=Ct g.z g.d g.sp g.sl g.an
 rw [hg] at hG;rw [Lo];cases hq:Gg x addr root with
 | none=>
  rw [hq] at hp;refine zT Tryz.func163 rfl ?_;conv=>whnf
  refine zY hp ?_;exact⟨_,BV (m:= [.ag [BX []], .v (.bool false)]) ⟨Bg ⟨Bv 3 _,tv⟩,ri,tv⟩,rfl⟩
 | some b=>
  rw [hq] at hp;replace hp:Fn Tryz.prog 238 [.ag (Eg x),iv addr,iv root] fun r=>r = .tp [bA b, .v (.bool true)]:=hp
  have hbl:=UJ hq;have hr:=Jg g b (by omega);rw [hg,if_pos rfl] at hr;have hz:=QI (b:=b) hg;simp only;refine zT Tryz.func163 rfl ?_;conv=>whnf
  refine zY hp ?_;conv=>whnf
  refine zY hG ?_;conv=>whnf
  refine zY hr ?_;conv=>whnf
  cases hR:CV g b with
  | none=>
   rw [hR] at hz;rw [show (D5 g b == 0)=false from beq_eq_false_iff_ne.2 fun e=>by have:=hz.1 e;cases this];exact⟨_,ri,rfl⟩
  | some t=>
   rw [hR] at hz;rw [show (D5 g b == 0)=true from beq_iff_eq.2 (hz.2 rfl)];exact⟨_,ri,rfl⟩
theorem Nb (l:List Tx) (z w:Int) (hl:l.length<=1000000) (hi:∀ t∈l,t.images.length<=1000000/\∀ x∈t.images,x.bytes.length<=1000000000):Fn Tryz.prog 90 [Ej l,iv z,iv w] fun r=>r=(match CG l z w with | some p=> .tp [bA p.1.bytes,iv p.2, .v (.bool true)] | none=> .tp [bA [],iv 0, .v (.bool false)]):=by
 have hf:=L9 l z w hl (fun t ht=>(hi t ht).1);have e:CG l z w=_:=J7 l z w l.length;rw [e];cases hA:FM l z w l.length with
 | none=>
  rw [hA] at hf;refine zT Tryz.func90 rfl ?_;conv=>whnf
  refine zY hf ?_;exact⟨_,BV (m:= [bA [],iv 0, .v (.bool false)]) ⟨Bv 1 _,ri,ri,tv⟩,rfl⟩
 | some p=>
  obtain⟨k,i⟩:=p;rw [hA] at hf;obtain⟨hk,hi2⟩:=H8 hA;simp only at hk hi2;have hm:=hi _ (AC (d:=tz) hk);have hc:=BS ((l.getD k tz).images.getD i iz).bytes (hm.2 _ (AC hi2));replace hf:Fn Tryz.prog 164 [Ej l,iv z,iv w] fun r=>r = .tp [iv (k:Nat),iv (i:Nat), .v (.bool true)]:=hf
  have ixA:(0:Int)<=(k:Nat)/\((k:Nat):Int)<(l.length:Nat):=by omega
  have ixB:(0:Int)<=(i:Nat)/\((i:Nat):Int)<((l.getD k tz).images.length:Nat):=⟨Int.natCast_nonneg _,Int.ofNat_lt.2 hi2⟩;refine zT Tryz.func90 rfl ?_;conv=>whnf
  refine zY hf ?_;conv=>whnf
  apply zI tys_ok mixed (.o [0,1,2,3,4,5,6,7,8,10,11,12,13,14,9,15,16,17] .fin) [6,7,8,22,23,24,25,26,27,28,29,30,31,32,33,34,35,36] (by kernel_rfl)
  ·conv=>whnf
   try (refine Ai (by first | omega | exact ixA | exact ixB | (simp;done)) ?_;conv=>whnf)
   try (refine Ai (by first | omega | exact ixA | exact ixB | (simp;done)) ?_;conv=>whnf)
   try (refine Ai (by first | omega | exact ixA | exact ixB | (simp;done)) ?_;conv=>whnf)
   refine zY hc ?_;exact tA
  exact⟨_,ri,rfl⟩
theorem P7 (a:An) (l:List Tx) (z:Int) (hz:0<=z/\z<a.homes.length) (hl:l.length<=1000000) (hi:∀ t∈l,t.images.length<=1000000):Fn Tryz.prog 161 [.ag (Fp a),Ej l,iv z] fun r=>r = .tp [iv (Dy a l z),iv 0]:=by
 have hf:=L9 l z 255 hl hi;have e:CG l z 255=_:=J7 l z 255 l.length;unfold Dy;rw [e];cases hA:FM l z 255 l.length with
 | none=>
  rw [hA] at hf;refine zT Tryz.func161 rfl ?_;conv=>whnf
  rw [show decide (z<0)=false from decide_eq_false (by omega)];conv=>whnf
  rw [show decide (z>=(a.homes.length:Nat))=false from decide_eq_false (by omega)];conv=>whnf
  refine zY hf ?_;refine⟨⟨by omega,by omega⟩,?_⟩;exact⟨_,ri,rfl⟩
 | some p=>
  obtain⟨k,i⟩:=p;rw [hA] at hf;obtain⟨hk,hi2⟩:=H8 hA;simp only at hk hi2;replace hf:Fn Tryz.prog 164 [Ej l,iv z,iv 255] fun r=>r = .tp [iv (k:Nat),iv (i:Nat), .v (.bool true)]:=hf
  have ixA:(0:Int)<=(k:Nat)/\((k:Nat):Int)<(l.length:Nat):=by omega
  refine zT Tryz.func161 rfl ?_;conv=>whnf
  rw [show decide (z<0)=false from decide_eq_false (by omega)];conv=>whnf
  rw [show decide (z>=(a.homes.length:Nat))=false from decide_eq_false (by omega)];conv=>whnf
  refine zY hf ?_;refine⟨ixA,?_⟩;exact⟨_,ri,rfl⟩
theorem ACalls.lendBox2 {P:Program} {q:Bool} {f:FuncId} {x:AV} {H:List AB} {K:AV->List AB->Prop} (j k:Nat) {t t':TypeId} {sz':Nat} {ar ar2 cs cs2:List AV} {es':List (List AV)} (hj:H[j]? = some (.box t cs)) (hk:H[k]? = some (.row t' sz' es'))
  (he:cs.map (AV.slIn k es'.length (.sl sz' es'.length fun i=>es'.getD i []))=cs2) (ha:ar.map (AV.slIn k es'.length (.sl sz' es'.length fun i=>es'.getD i []))=ar2) (hc:ACalls P q f [x, .ag ar2] ((H.set k .dead).set j (.box t cs2)) K):ACalls P q f [x, .ag ar] H K:=by
 refine⟨hc.go,fun w0 M0 c us hs hr=>?_⟩;subst he;subst ha;have hjk:j≠k:=by rintro rfl;rw [hj] at hk;cases hk
 obtain⟨c1,e1,s1,x1,r1⟩:=hs.freeze hk;have hj1:(H.set k .dead)[j]? = some (.box t cs):=by rw [A4 (Ne.symm hjk)];exact hj
 have h8:∀ (l:List AV) (us:List Value),RdL l c us->RdL (l.map (AV.slIn k es'.length (.sl sz' es'.length fun i=>es'.getD i []))) c1 us:=by
  intro l;induction l with
  | nil=>intro us h;simp only [RdL] at h;subst h;simp [RdL]
  | cons x l ih=>
   intro us h;simp only [RdL] at h;obtain⟨u,vs,rfl,a1,a2⟩:=h;simp only [A5,RdL];refine⟨u,vs,rfl,?_,ih vs a2⟩;unfold AV.slIn;split
   ·rename_i i n;split
    ·rename_i hik;subst hik;split
     ·grind
     ·simp [Rd]
    ·exact Rd.ext _ x1 a1
   ·exact Rd.ext _ x1 a1
 have s2:HS w0 M0 c1 ((H.set k .dead).set j (.box t (cs.map (AV.slIn k es'.length (.sl sz' es'.length fun i=>es'.getD i []))))):=by
  refine s1.recell hj1 rfl ?_;rintro⟨g,xs,h1,h2,_,h4⟩;obtain⟨g0,ys,q1,q2,q3,_⟩:=hs.blk j _ hj;have hg:=x1.box j _ (hs.klt hj) q1;rw [h1] at hg;injection hg with hg
  injection hg with hg
  injection hg with hg
  subst hg;rw [e1,q2] at h2;injection h2 with h2
  have hxy:ys.toArray=xs.toArray:=by injection h2
  have hxy:ys=xs:=by simpa using hxy
  subst hxy;exact⟨g,ys,h1,by rw [e1];exact q2,h8 _ _ q3,h4⟩
 have hr2:RdL [x, .ag (ar.map (AV.slIn k es'.length (.sl sz' es'.length fun i=>es'.getD i [])))] c1 us:=by
  simp only [RdL] at hr;obtain⟨u1,_,rfl,p1,u2,_,rfl,p2,rfl⟩:=hr;simp only [Rd] at p2;obtain⟨zs,rfl,p3⟩:=p2;simp only [RdL];exact⟨u1,_,rfl,Rd.ext _ x1 p1,_,_,rfl,by simp only [Rd];exact⟨zs,rfl,h8 _ _ p3⟩,rfl⟩
 have:=hc.calls w0 M0 c1 us s2 hr2;rw [e1] at this;refine this.mono ?_;rintro e w' ⟨v,c',r,H2,rfl,rfl,q1,q2,q3,q4,q5⟩;exact⟨v,c',r,H2,rfl,rfl,q1,q2,x1.trans q3,q4,q5⟩
theorem Kw {a s:Int} {p:List UInt8} (h:p.length<=96):(CF a s p).length<=200:=by rw [EK];omega
theorem Gw.puts {n:Int} {d:Dk} {F:Int->List UInt8} {W l:List Wr} (h:Gw n d F W) (hl:∀ w∈l,(0<=w.addr/\w.addr<n)/\w.bytes.length<=200) (hn:W.length+l.length<=2000):∀ k:Nat,k<=l.length->(d.writes (l.take k)).2.1=k/\(d.writes (l.take k)).2.2=false/\Gw n (d.writes (l.take k)).1 F (W ++ l.take k)
 | 0,_=>⟨rfl,rfl,by rw [List.take_zero,AE];exact h⟩
 | k+1,hk=>by
  obtain⟨q1,q2,q3⟩:=Gw.puts h hl hn k (by omega);have hx:=KS (d:=d) (l:=l) (k:=k) (by omega) q2;have hm:=hl _ (AC (d:=(⟨0, []⟩:Wr)) (show k<l.length by omega));obtain⟨e0,hw⟩:=q3.write (by rw [Ah,Aq];omega) hm.1.1 hm.1.2 hm.2;rw [hx,e0];refine⟨by simp only [q1];rfl,rfl,?_⟩;have e:l.take (k+1)=l.take k ++ [l.getD k ⟨0, []⟩]:=by
   rw [Bh,Af (by omega),Ab,Af (by omega)];try rfl
  rw [e,<-AA];exact hw
theorem Gd.putAll {n:Int} {d:Dk} {F:Int->List UInt8} {l:List Wr} (h:Gd n d F) (hl:∀ w∈l,(0<=w.addr/\w.addr<n)/\w.bytes.length<=200) (hn:l.length<=2000):(d.writes l).2.1=l.length/\(d.putAll l).2.1=l.length/\(d.putAll l).2.2=false/\Gd n (d.putAll l).1 (MP F l):=by
 obtain⟨q1,q2,q3⟩:=Gw.puts h hl (by simpa using hn) l.length (Ag _);rw [A6] at q1 q2 q3;have e:=FJ q2;rw [if_neg (by rw [q3.left];decide)] at e;rw [e];exact⟨q1,q1,rfl,by simpa using q3.flush⟩
theorem Qz {g:Geo} {a:An} (hg:Bq g=true) (ha:B7 g a=true):∀ w∈AU g a,(0<=w.addr/\w.addr<A7 g)/\w.bytes.length<=200:=fun w hw=>by
 obtain⟨g1,g2,g3,g4,g5⟩:=A2.1 hg;have hcb:=En hg;obtain⟨i,hi,rfl⟩:=O9 hw;exact⟨⟨by show 0<=((i:Nat):Int);omega,by show ((i:Nat):Int)<A7 g;omega⟩,JD hg ha _⟩
@[reducible] def rwZ (g:Geo) (s:Stt) (d:Dk):List AB:= [.box 132 (ZL g (.bp 1 0) s 0), .box 133 (Lg (.ow 2 d.cells.length) (.ow 6 d.cache.length) d.reqs d.left), .row 68 3 (d.cells.map Ci), .dead, .dead, .dead, .row 152 2 (d.cache.map GU)]
theorem NJ {k:Nat} {m:Nat} {x:AV} {n:Nat} (h:n=m):AV.slIn k m x (.ow k n)=x:=by
 subst h;simp [AV.slIn]

def Is (d:Dk) (a:Int) (c:Cel):Dk:={ d with cells:=d.cells.set a.toNat c }
def Dk.fault (d:Dk) (kind a frm bit bits:Int):Dk × Int:=
 if Dv a 0 ((d.cells.length:Int) - 1)=false then (d,1) else if 0<d.cache.length then (d,9) else
 let c:=d.cells.getD a.toNat cz
 if kind=11 then (Is d a { c with state:=if c.state=0 then 1 else c.state },0)
 else if kind=12 then (Is d a { c with state:=2 },0)
 else if kind=13 then (if bit<0\/bits<0 then (d,1) else (Is d a { c with bytes:=Yk c.bytes bit bits },0))
 else if kind=14 then (Is d a { c with bytes:=c.old },0)
 else if kind=15 then (if Dv frm 0 ((d.cells.length:Int) - 1)=false then (d,1) else (Is d a { c with bytes:=(d.cells.getD frm.toNat cz).bytes },0))
 else (d,1)
structure Q4 where
 a:Int
 b:Int
 c:Int
 d:Int
theorem XO {d:Dk} {a:Int} {c:Cel} (h:DkOk d) (hc:(0<=c.state/\c.state<=2)/\c.bytes.length<=200/\c.old.length<=200):DkOk (Is d a c):=by
 refine⟨by simpa [Is] using h.n,h.m,h.r,h.l,fun x hx=>?_,fun w hw=>by simpa [Is] using h.w w hw⟩;rcases Cd hx with hx | rfl
 ·exact h.c x hx
 ·exact hc
theorem Sy {d:Dk} (h:DkOk d) (i:Nat):(0<=(d.cells.getD i cz).state/\(d.cells.getD i cz).state<=2)/\(d.cells.getD i cz).bytes.length<=200/\(d.cells.getD i cz).old.length<=200:=by
 by_cases hi:i<d.cells.length
 ·exact h.c _ (AC (d:=cz) hi)
 ·rw [Ab,AF (by omega)];exact⟨⟨CC _,show (0:Int)<=2 by decide⟩,by simp [cz],by simp [cz]⟩
theorem DkOk.fault {d:Dk} (h:DkOk d) (kind a frm bit bits:Int):DkOk (d.fault kind a frm bit bits).1/\(d.fault kind a frm bit bits).1.cells.length=d.cells.length/\(d.fault kind a frm bit bits).1.cache=d.cache/\(d.fault kind a frm bit bits).1.left=d.left/\(d.fault kind a frm bit bits).1.reqs=d.reqs:=by
 have hc:=Sy h a.toNat;have hf:=Sy h frm.toNat;have go:∀ c:Cel,((0<=c.state/\c.state<=2)/\c.bytes.length<=200/\c.old.length<=200)->DkOk (Is d a c)/\(Is d a c).cells.length=d.cells.length/\(Is d a c).cache=d.cache/\(Is d a c).left=d.left/\(Is d a c).reqs=d.reqs:=fun c h1=>⟨XO h h1,by simp [Is],rfl,rfl,rfl⟩
 have st:DkOk d/\d.cells.length=d.cells.length/\d.cache=d.cache/\d.left=d.left/\d.reqs=d.reqs:=⟨h,rfl,rfl,rfl,rfl⟩;unfold Dk.fault;split
 ·exact st
 ·split
  ·exact st
  ·simp only;split
   ·refine go _ ⟨?_,hc.2⟩;simp only;split
    ·exact⟨by decide,by decide⟩
    ·exact hc.1
   ·split
    ·exact go _ ⟨⟨show (0:Int)<=2 by decide,CC 2⟩,hc.2⟩
    ·split
     ·split
      ·exact st
      ·exact go _ ⟨hc.1,by simp only [Oz];exact hc.2.1,hc.2.2⟩
     ·split
      ·exact go _ ⟨hc.1,hc.2.2,hc.2.2⟩
      ·split
       ·split
        ·exact st
        ·exact go _ ⟨hc.1,hf.2.1,hc.2.2⟩
       ·exact st
end
section
open Go.RowKit Go.ChangeShapes Go.WideShapes Go.ChangeAt Go.Deep
section
variable {H:Type} {enc:TypeId × Value->H} {w:World}
end
end
section
open Go.RowKit
structure Q2 where
 a:Int
 b:Int
section
open Go.ChangeShapes Go.WideShapes Go.ChangeAt Go.Deep
variable {H:Type} {enc:TypeId × Value->H} {w:World}
end
structure Md where
 a:An
 l:List Tx
 F:Int->List UInt8
 m:List (List UInt8)
def aI (g:Geo) (M:Md) (lba:Int) (b:List UInt8) (M':Md):Prop:=
 (Ei M.l+4<=g.sl/\(Fq g (AO M.a M.l) M.F (lba.tdiv g.d)).isSome=true/\∃ W:List Wr,(∀ w∈W,(g.an<=w.addr/\w.addr<g.an+2*g.sl/\B_ w.bytes=w.addr)/\w.bytes.length<=200)/\M'=⟨M.a,M.l ++ [FU g M.a M.l M.F lba b],MP M.F W,M.m.set lba.toNat b⟩)
 \/((g.sl<Ei M.l+4\/Fq g (AO M.a M.l) M.F (lba.tdiv g.d)=none)/\M'=M)
def az (g:Geo) (M:Md):Md:=match M.l with
 | []=>M
 | x::r=>⟨Pe g M.a x,r,U0 g M.a x M.F,M.m⟩
def KE (n:Int) (F:Int->List UInt8) (q:Int):List UInt8:=if -n<=q/\q<n then F q else []
structure Vo (g:Geo) (K:Int) (M:Md):Prop where
 an:B7 g M.a=true
 ring:CO g M.l M.a.seq M.a.pos g.sl=true
 gen:M.a.gen<=K
 seq:M.a.seq+M.l.length<=K
 one:∀ t∈M.l,OneTab t.images
 fb:∀ q,(M.F q).length<=200
 m:(M.m.length:Int)=g.z*g.d
theorem Vo.vol {g:Geo} {K:Int} {M:Md} (h:Vo g K M) {d:Dk} (hd:Gd (A7 g) d M.F):Vol g K d (AO M.a M.l):=⟨⟨_,hd⟩,h.an,h.ring,tA,h.gen,h.seq,h.one⟩
theorem Vo.of {g:Geo} {K:Int} {M:Md} {d:Dk} (h:Vol g K d (AO M.a M.l)) (hf:∀ q,(M.F q).length<=200) (hm:(M.m.length:Int)=g.z*g.d):Vo g K M:=⟨h.an,h.ring,h.gen,h.seq,h.one,hf,hm⟩
theorem QE {F:Int->List UInt8} {n:Nat} (hF:∀ q,(F q).length<=n) {W:List Wr} (hW:∀ w∈W,w.bytes.length<=n) (q:Int):(MP F W q).length<=n:=by
 induction W generalizing F with
 | nil=>exact hF q
 | cons w W ih=>
  refine ih (F:=Yz F w) (fun q=>?_) fun x hx=>hW x (Bc _ hx)
  unfold Yz;split
  ·split
   ·exact hW w List.mem_cons_self
   ·exact hF q
  ·split
   ·exact hF _
   ·exact hF q
theorem Uz {g:Geo} (hg:Bq g=true) {a:An} {x:Tx} (ha:B7 g (Pe g a x)=true) {F:Int->List UInt8} (hF:∀ q,(F q).length<=200) (hx:∀ y∈x.images,BW g y=true) (q:Int):(U0 g a x F q).length<=200:=by
 unfold U0;refine QE (QE hF fun w hw=>?_) (fun w hw=>(Qz hg ha w hw).2) q;obtain⟨y,hy,hw⟩:=LN.1 hw;have:=J_ hg (hx y hy);unfold Vz at hw;split at hw
 ·simp only [AQ,D1,or_false] at hw;rcases hw with rfl | rfl <;> exact Kw (by omega)
 ·rw [Ay] at hw;rw [hw];exact Kw (by omega)
theorem Vo.ck {g:Geo} (hg:Bq g=true) {K:Int} {M:Md} (h:Vo g K M) (hK:K<=4294967294) {d d':Dk} (hd:Gd (A7 g) d M.F) (hd':Gd (A7 g) d' (az g M).F):Vo g (K+1) (az g M):=by
 obtain⟨a,l,F,m⟩:=M;cases l with
 | nil=>exact⟨h.an,h.ring,by have q:a.gen<=K:=h.gen;show a.gen<=K+1;omega,by have q:a.seq+(([]:List Tx).length:Int)<=K:=h.seq;show a.seq+(([]:List Tx).length:Int)<=K+1;omega,h.one,h.fb,h.m⟩
 | cons x r=>
  have hv:=h.vol hd;have h2:=hv.home hg (x:=x) (r:=r) rfl hK (d':=d') ⟨_,hd'⟩;have hi:=(Fy h.ring x (List.mem_cons_self)).1;exact Vo.of (d:=d') h2 (Uz hg h2.an h.fb (Av.1 hi)) h.m
theorem Gd.clip {n:Int} {d:Dk} {F:Int->List UInt8} (h:Gd n d F):Gd n d (KE n F)/\∀ q,(KE n F q).length<=200:=by
 have hl:=h.len;refine⟨⟨h.ok,h.left,h.len,h.cache,fun q h0 h1=>?_,fun q h0 h1=>?_⟩,fun q=>?_⟩
 ·have:=h.cell q h0 h1;unfold KE;rw [if_pos ⟨by omega,h1⟩];exact this
 ·have:=h.old q h0 h1;unfold KE;rw [if_pos ⟨by omega,by omega⟩];exact this
 ·unfold KE;split
  ·rename_i hq;by_cases h0:0<=q
   ·have hc:=(h.cell q h0 hq.2).2;rw [<-hc];exact(h.ok.c _ (AC (by omega))).2.1
   ·have hc:=h.old (-1 - q) (by omega) (by omega);rw [show -1 - (-1 - q)=q by omega] at hc;rw [<-hc];exact(h.ok.c _ (AC (by omega))).2.2
  ·simp
structure Gc (n:Int) (d:Dk) (F:Int->List UInt8) (l:List Wr):Prop where
 ok:DkOk d
 len:(d.cells.length:Int)=n
 cache:d.cache=l
 cell:∀ a:Int,0<=a->a<n->(d.cells.getD a.toNat cz).state=0/\(d.cells.getD a.toNat cz).bytes=F a
theorem Gw.gc {n:Int} {d:Dk} {F:Int->List UInt8} {l:List Wr} (h:Gw n d F l):Gc n d F l:=⟨h.ok,h.len,h.cache,h.cell⟩
theorem Gc.write {n:Int} {d:Dk} {F:Int->List UInt8} {l:List Wr} (h:Gc n d F l) (hl:l.length<2000) {a:Int} (h0:0<=a) (h1:a<n) {b:List UInt8} (hb:b.length<=200):(d.left=0/\d.write a b=(d,8))\/(d.left≠0/\(d.write a b).2=0/\Gc n (d.write a b).1 F (l ++ [⟨a,b⟩])):=by
 by_cases hz:d.left=0
 ·exact .inl ⟨hz,by unfold Dk.write;rw [if_pos hz]⟩
 ·have hw:=h.ok.write (a:=a) (b:=b) (by rw [<-h.len] at h1;omega) hb;have e:d.write a b=({ d.req with cache:=d.cache ++ [⟨a,b⟩] },0):=by
   unfold Dk.write;rw [if_neg hz,if_neg];rintro(h2 | h2)
   ·have:=(h.cell a h0 h1).1;unfold cz at this;omega
   ·rw [h.cache] at h2;omega
  rw [e] at hw |-
  exact .inr ⟨hz,rfl,hw,h.len,by rw [h.cache],h.cell⟩
theorem Gc.puts {n:Int} {d:Dk} {F:Int->List UInt8} {W l:List Wr} (h:Gc n d F W) (hl:∀ w∈l,(0<=w.addr/\w.addr<n)/\w.bytes.length<=200) (hn:W.length+l.length<=2000):∀ k:Nat,k<=l.length->(d.writes (l.take k)).2.2=false->(d.writes (l.take k)).2.1=k/\Gc n (d.writes (l.take k)).1 F (W ++ l.take k)
 | 0,_,_=>⟨rfl,by rw [List.take_zero,AE];exact h⟩
 | k+1,hk,hv=>by
  have hx0:=FE d (l:=l) (k:=k) (by omega);have hv0:(d.writes (l.take k)).2.2=false:=by
   cases hc:(d.writes (l.take k)).2.2 with
   | false=>rfl
   | true=>
    rw [hx0] at hv;unfold Fj at hv;rw [hc] at hv;simp only [if_true] at hv;rw [hc] at hv;cases hv
  obtain⟨q1,q3⟩:=Gc.puts h hl hn k (by omega) hv0;have hx:=KS (d:=d) (l:=l) (k:=k) (by omega) hv0;have hm:=hl _ (AC (d:=(⟨0, []⟩:Wr)) (show k<l.length by omega));rcases q3.write (by rw [Ah,Aq];omega) hm.1.1 hm.1.2 hm.2 with ⟨-,e8⟩ | ⟨-,e0,hw⟩
  ·rw [hx,e8] at hv;cases hv
  ·rw [hx,e0];have e:l.take (k+1)=l.take k ++ [l.getD k ⟨0, []⟩]:=by
    rw [Bh,Af (by omega),Ab,Af (by omega)];try rfl
   refine⟨by simp only [q1];rfl,?_⟩;rw [e,<-AA];exact hw
theorem Gc.flush {n:Int} {d:Dk} {F:Int->List UInt8} {l:List Wr} (h:Gc n d F l):Gc n d.flush (MP F l) []:=by
 have e:d.flush=⟨C4 d.cells l, [],d.req.reqs,d.req.left⟩:=by
  unfold Dk.flush;rw [allFin_cells,h.cache];try rfl
 have ho:=h.ok.flush;rw [e] at ho |-
 refine⟨ho,by show ((C4 d.cells l).length:Int)=n;rw [finL_len];exact h.len,rfl,fun a h0 h1=>?_⟩;have hl:=h.len;refine O4 h0 (by omega) (h.cell a h0 h1) _ l rfl fun w hw=>?_
 rw [<-h.cache] at hw;exact(h.ok.w w hw).1.1
theorem Gc.putAll {n:Int} {d:Dk} {F:Int->List UInt8} {l:List Wr} (h:Gc n d F []) (hl:∀ w∈l,(0<=w.addr/\w.addr<n)/\w.bytes.length<=200) (hn:l.length<=2000) (hv:(d.putAll l).2.2=false):(d.putAll l).2.1=l.length/\Gc n (d.putAll l).1 (MP F l) []:=by
 cases hw:(d.writes l).2.2 with
 | true=>rw [Hr hw] at hv;cases hv
 | false=>
  have hp:=Gc.puts h hl (by simpa using hn) l.length (Ag _);rw [A6] at hp;obtain⟨q1,q2⟩:=hp hw;have e:=FJ hw;by_cases h0:(d.writes l).1.left=0
  ·rw [if_pos h0] at e;rw [e] at hv;cases hv
  ·rw [if_neg h0] at e;rw [e];exact⟨q1,by simpa using q2.flush⟩

theorem MX (g:Geo) (w:Int) (hw : -1<=w/\w<g.d):Fn Tryz.prog 242 [.ag (Bm g),iv w] fun r=>r = .tp [iv (E4 g w), .v (.bool true)]:=by
 unfold E4;by_cases h:w = -1
 ·rw [if_pos h];refine zT Tryz.func242 rfl ?_;conv=>whnf
  rw [show (w == -1)=true by simpa using h];exact⟨_,ri,rfl⟩
 ·rw [if_neg h];refine zT Tryz.func242 rfl ?_;conv=>whnf
  rw [show (w == -1)=false by simpa using h];refine zw tys_ok mixed [0,1,2,3,4,5,6,7,8,9,10] (by kernel_rfl) ?_;conv=>whnf
  rw [show decide (w>=0)=true from decide_eq_true (by omega)];conv=>whnf
  rw [show decide (w<g.d)=true from decide_eq_true (by omega)];exact⟨_,ri,rfl⟩
theorem Mz {g:Geo} {a:An} (hg:Bq g=true) (ha:B7 g a=true):a.label.size<=1000000/\a.homes.length<=1000/\∀ h∈a.homes,h.places.length<=1000000:=by
 have:=DE hg ha 0 (Aj _);exact⟨by have:=this.2.2.2.1;omega,by have:=this.2.1;omega,fun h hh=>KG hg ha h hh⟩
theorem Tn (g:Geo) (a:An) (z w:Int) (hg:Bq g=true) (ha:B7 g a=true) (hz:0<=z/\z<g.z) (hw : -1<=w/\w<g.d):Fn Tryz.prog 241 [.ag (Bm g), .ag (Fp a),iv z,iv w] fun r=>r = iv 0:=by
 obtain⟨s1,s2, -⟩:=Mz hg ha;have c1:=Gu g a s1 (by omega);rw [hg,ha] at c1;have c2:=MX g w hw;refine zT Tryz.func241 rfl ?_;conv=>whnf
 refine zY c1 ?_;conv=>whnf
 refine zY c2 ?_;conv=>whnf
 rw [show decide (z<0)=false from decide_eq_false (by omega)];conv=>whnf
 rw [show decide (z>=g.z)=false from decide_eq_false (by omega)];exact⟨_,ri,rfl⟩
theorem P4 (g:Geo) (a:An) (z w:Int) (hg:Bq g=true) (ha:B7 g a=true) (hz:0<=z/\z<g.z) (hw : -1<=w/\w<g.d):Fn Tryz.prog 165 [.ag (Bm g), .ag (Fp a),iv z,iv w] fun r=>r = .tp [iv (D3 g a z w),iv 0]:=by
 obtain⟨g1,g2,g3,g4,g5⟩:=A2.1 hg;obtain⟨hi,hh⟩:=Sv ha hz;simp only [EP,Ad,decide_eq_true_eq,AK] at hh;obtain⟨p1,p2,p3,p4⟩:=hh;have hat:0<=E4 g w/\E4 g w<=g.d:=by unfold E4;split <;> omega
 have hk:(E4 g w).toNat<(a.homes.getD z.toNat ⟨[],0,0⟩).places.length:=by omega
 have hp:=Av.1 p4 (E4 g w).toNat (by simpa using hk);simp only [Ad,AK] at hp;have c1:=Tn g a z w hg ha hz hw;have c2:=MX g w hw;have c3:=PS g z ((a.homes.getD z.toNat ⟨[],0,0⟩).places.getD (E4 g w).toNat 0) hg hz (by unfold CK;omega);refine zT Tryz.func165 rfl ?_;conv=>whnf
 refine zY c1 ?_;conv=>whnf
 refine zY c2 ?_;conv=>whnf
 apply zI tys_ok mixed (.o [0,1,2,3,4,5,6,7,8,9,10,11,12,13,14,15] .fin) [8,9,27,28,29,30,31,32,33,34,35,36,37,38,39,40] (by kernel_rfl)
 ·conv=>whnf
  try (refine Ai (by first | omega | exact ixA | exact ixB | (simp;done)) ?_;conv=>whnf)
  try (refine Ai (by first | omega | exact ixA | exact ixB | (simp;done)) ?_;conv=>whnf)
  refine zY c3 ?_;exact tA
 exact⟨_,ri,rfl⟩
@[reducible] def txZ:List AV:= [iv 0,iv 0,iv 0, .v (.slice none 0 0)]
theorem Kd (g:Geo) (lba:Int) (hg:Bq g=true) (h:0<=lba/\lba<g.z*g.d):Fn Tryz.prog 88 [.ag (Bm g),iv lba] fun r=>r = .tp [iv (lba.tdiv g.d),iv (lba.tmod g.d),iv 0]:=by
 obtain⟨h1,h2,h3,h4,h5⟩:=A2.1 hg;have hG:Fn Tryz.prog 118 [.ag (Bm g)] fun r=>r = .v (Ew (Bq g)):=Ct g.z g.d g.sp g.sl g.an
 rw [hg] at hG;have hp:g.z*g.d<=16:=Int.le_trans (BQ h1.2 (by omega)) (by omega);have hw:IntKind.i64.wrap (IntKind.i64.wrap (g.z*g.d) - 1)=g.z*g.d - 1:=by rw [wi (n:=g.z*g.d) (by omega),wi (by omega)]
 have hn:=H7 lba 0 (IntKind.i64.wrap (IntKind.i64.wrap (g.z*g.d) - 1));rw [show Dv lba 0 (IntKind.i64.wrap (IntKind.i64.wrap (g.z*g.d) - 1))=true from AK.2 (by rw [hw];omega)] at hn;have hq:lba.tdiv g.d=lba / g.d:=Bu h.1;have hq2:0<=lba / g.d/\lba / g.d<=lba:=⟨Dl h.1 (by omega),Int.ediv_le_self _ h.1⟩;refine zT Tryz.func88 rfl ?_;conv=>whnf
 refine zY hG ?_;conv=>whnf
 refine zY hn ?_;conv=>whnf
 have hd0:g.d≠0:=by omega
 refine zw tys_ok mixed [0,1,2,3,4,5,6,7,8,9,10] (by kernel_rfl) ?_;refine⟨hd0,?_⟩;refine⟨hd0,?_⟩;exact⟨_,ri,by rw [wi (n:=lba.tdiv g.d) (by omega)]⟩
theorem N2 (g:Geo) (w:Int):Fn Tryz.prog 167 [.ag (Bm g),iv w] fun r=>r = iv (E4 g w):=by
 unfold E4;by_cases h:w = -1
 ·rw [if_pos h];refine zT Tryz.func167 rfl ?_;conv=>whnf
  rw [show (w == -1)=true by simpa using h];exact⟨_,ri,rfl⟩
 ·rw [if_neg h];refine zT Tryz.func167 rfl ?_;conv=>whnf
  rw [show (w == -1)=false by simpa using h];exact⟨_,ri,rfl⟩
theorem Sx (g:Geo) (s:Stt) (d:Dk) (F:Int->List UInt8) (a:Int) (h:Gd (A7 g) d F) (ha:0<=a/\a<A7 g) :
  ACalls Tryz.prog false 162 [.bp 0 0,iv a] (GJ g s d) fun r H=>r = .ag (Eg ⟨0,F a⟩)/\∃ d',Gd (A7 g) d' F/\H=GJ g s d':=by
 have hr:=Oo g s d a h.ok (by rw [h.len];exact ha);rw [h.read ha.1 ha.2] at hr;exact hr.mono fun r H hh=>⟨hh.1,d.req,h.req,hh.2⟩
theorem XJ (g:Geo) (s:Stt) (d:Dk) (F:Int->List UInt8) (z:Int) (hg:Bq g=true) (hl:LogB s.txns) (ha:B7 g s.a=true) (h:Gd (A7 g) d F) (hF:∀ a,(F a).length<=100000) (hz:0<=z/\z<g.z) (hB:∀ p,CG s.txns z 255=some p->p.1.bytes.length<=100000) (t:List Ent) (ht:Fq g s F z=some t) :
    ACalls Tryz.prog false 89 [.bp 0 0,iv z] (GJ g s d) fun r H=>r = .tp [.ag [BX t],iv 0]/\∃ d',Gd (A7 g) d' F/\H=GJ g s d':=by
  have hf:=Nb s.txns z 255 hl.n hl.i;unfold Fq at ht;cases hL:CG s.txns z 255 with
  | some p=>
    obtain⟨x,q⟩:=p;rw [hL] at hf ht;simp only at hf ht;have hr:=Jg g x.bytes (hB _ hL);rw [hg,if_pos rfl,ht] at hr;refine zU tys_ok Tryz.func89 rfl rfl (Ae rfl) ?_;conv=>whnf
    refine zY hf ?_;conv=>whnf
    refine zY hr ?_;exact⟨.tp [.ag [BX t],iv 0], .tp [.ag [BX t],iv 0],GJ g s d,fun _ _ h=>h,zQ (s:= [0,1,2,3]) tA,rfl,d,h,rfl⟩
  | none=>
    rw [hL] at hf ht;simp only at hf ht;have hR:=P7 s.a s.txns z (by have:=(Sv ha hz).1;omega) hl.n (fun t ht=>(hl.i t ht).1);refine zU tys_ok Tryz.func89 rfl rfl (Ae rfl) ?_;conv=>whnf
    refine zY hf ?_;conv=>whnf
    apply zI tys_ok mixed (.o [0,1,2,3,4,5,6,7,8,9,10,11,12,13,14,15,16] .fin) [11,12,41,42,43,44,45,46,47,48,49,50,51,52,53,54,55] (by kernel_rfl)
    · conv=>whnf
      refine zY hR ?_;exact tA
    conv=>whnf
    have htab:∀ k:Nat,k<2->g.an+2*g.sl<=Bf g z (k:Nat)/\Bf g z (k:Nat)<A7 g:=fun k hk=>by have:=QK hg hz (k:=(k:Nat)) (by omega);omega
    refine zR (Nat × Dk) (fun x=>([(0, .bp 0 0),(1,iv z),(4, .bp 4 0),(11,iv (Dy s.a s.txns z)),(56,iv (x.1:Nat))],GJ g s x.2 ++ ([.box 145 [.v (.slice none 0 0)]]:List AB))) (fun x=>x.1<=2/\Gd (A7 g) x.2 F/\∀ j:Nat,j<x.1->Cv g ⟨0,F (Bf g z (j:Nat))⟩ (Bf g z (j:Nat)) (Dy s.a s.txns z)=none) (fun x=>2 - x.1) (0,d) ⟨Aj _,h,fun j hj=>absurd hj (Ap j)⟩
      (zQ (s:= [0,1,2,3,4]) tA) ?_
    rintro⟨k,d1⟩ ⟨hk,hd1,hno⟩;simp only at hk hd1 hno;conv=>whnf
    refine AS (fun h6=>?_) (fun h6=>?_) <;> (repeat rw [Ac] at h6) <;> conv=>whnf
    · have hk2:k<2:=by omega
      have hta:=Kc g z (k:Nat) hg hz (by omega);obtain⟨q1,q2⟩:=htab k hk2;have hz2:=A2.1 hg;have hrd:=Sx g s d1 F (Bf g z (k:Nat)) hd1 (by omega);have hto:=Nx g ⟨0,F (Bf g z (k:Nat))⟩ (Bf g z (k:Nat)) (Dy s.a s.txns z) hg (hF _);repeat' (refine zZ ?_;conv=>whnf)
      refine zY hta ?_;conv=>whnf
      repeat' (refine zZ ?_;conv=>whnf)
      refine ze9 [0,1,2,3] hrd ?_;rintro _ _ ⟨rfl,d2,hd2,rfl⟩;conv=>whnf
      repeat' (refine zZ ?_;conv=>whnf)
      have hGk:∀ u,Cv g ⟨0,F (Bf g z (k:Nat))⟩ (Bf g z (k:Nat)) (Dy s.a s.txns z)=some u->u=t:=fun u hu=>by
        match k,hk2 with
        | 0,_=>
          have hu:Cv g ⟨0,F (Bf g z 0)⟩ (Bf g z 0) (Dy s.a s.txns z)=some u:=hu;rw [hu] at ht;exact Option.some.inj ht
        | 1,_=>
          have h0:Cv g ⟨0,F (Bf g z 0)⟩ (Bf g z 0) (Dy s.a s.txns z)=none:=hno 0 (by decide);have hu:Cv g ⟨0,F (Bf g z 1)⟩ (Bf g z 1) (Dy s.a s.txns z)=some u:=hu;rw [h0] at ht;simp only at ht;exact Option.some.inj (hu.symm.trans ht)
      apply zW (0) tys_ok mixed (.o [0,1,2,3,4,5,6] (.two 7 (.o [8,9,10,11,12,13] .fin) 11 (.o [7,8,9,10,12,13] .fin))) (by kernel_rfl);refine Ai ?_ ?_;conv=>whnf
      refine zY hto ?_;conv=>whnf
      try (refine tS ?_;conv=>whnf)
      rotate_left 1;conv=>whnf
      refine zY hto ?_;conv=>whnf
      try (refine tS ?_;conv=>whnf)
      rotate_left 1;all_goals
        cases hT:Cv g ⟨0,F (Bf g z (k:Nat))⟩ (Bf g z (k:Nat)) (Dy s.a s.txns z)
      all_goals
        conv=>whnf
        first
        | exact⟨(k+1,d2),⟨by show k+1<=2;omega,hd2,fun j hj=>by by_cases e:j=k;exact e ▸ hT;exact hno j (by have:j<k+1:=hj;omega)⟩,by show 2 - (k+1)<2 - k;omega,zQ (s:= [0,1,2,3,4]) ⟨⟨rfl,rfl,rfl,rfl,AT (by omega),tv⟩,tA,rfl,rfl,rfl,rfl,rfl⟩⟩
        | (rename_i u
           have e:=hGk _ hT;subst e;exact⟨.tp [.ag [BX u],iv 0], .tp [.ag [BX u],iv 0],GJ g s d2,fun _ _ h=>h,zQ (s:= [0,1,2,3]) tA,rfl,d2,hd2,rfl⟩)
    · have ek:k=2:=by omega
      subst ek;have h0:Cv g ⟨0,F (Bf g z 0)⟩ (Bf g z 0) (Dy s.a s.txns z)=none:=hno 0 (by decide);have h1:Cv g ⟨0,F (Bf g z 1)⟩ (Bf g z 1) (Dy s.a s.txns z)=none:=hno 1 (by decide);rw [h0] at ht;simp only at ht;rw [h1] at ht;cases ht
end
section
open Go.RowKit Go.Maps
theorem Fn.at {P:Program} {f:FuncId} {args:List AV} {K:AV->Prop} (h:Fn P f args K) {c0:Ctx} (hd:c0.dom=0) (hM:∀ b,c0.M b->b<c0.w.heap.size) (hg:globOk c0.w) {W:World} (hB:Below c0.w.heap.size c0.w W) {us:List Value} (hr:RdL args { c0 with w:=W } us) :
  Calls P f us.toArray W fun e w'=>∃ v r,e = .returned v/\K r/\Below W.heap.size W w'/\Rd r { c0 with w:=w' } v:=
 h.2 { c0 with w:=W } us hd (fun b hb=>As (hM b hb) hB.size) (hg.keep hB.size hB.block) hr
theorem MY {w w':World} {P:Program} {k:TypeId} {R:Value->Option (DataW Unit × List MemPlace)} {b n:Nat} {D:DataW Unit} (h:w.ownsMap P k R b n D) (hB:Below w.heap.size w w'):w'.ownsMap P k R b n D:=by
 have hl:=h.lt;obtain⟨es,clock,hb,r⟩:=h;exact⟨es,clock,(hB.block b hl).trans hb,r⟩
theorem und_map:Tryz.prog.underlying 319=some (.map 3 4):=by kernel_rfl
theorem und_int:Tryz.prog.underlying 3=some (.int .i64):=by kernel_rfl
theorem und_bool:Tryz.prog.underlying 4=some .bool:=by kernel_rfl
theorem Te (g:Geo) (A:Int) (hg:Bq g=true) (h:0<=A/\A<g.z*g.d):Fn Tryz.prog 143 [.ag (Bm g),iA [A]] fun r=>r = .tp [iv 4,iv 0]:=by
 refine⟨⟨_,Tryz.func143,rfl,by decide⟩,fun c0 us hd hM hgl hr=>?_⟩;obtain⟨u1,u2,rfl,h1,h2⟩:=Zt hr;have hu1:u1 = .agg #[.int .i64 g.z, .int .i64 g.d, .int .i64 g.sp, .int .i64 g.sl, .int .i64 g.an]:=by
  simp only [Bm,Rd,RdL] at h1;obtain⟨xs,rfl,a1,_,rfl,rfl,a2,_,rfl,rfl,a3,_,rfl,rfl,a4,_,rfl,rfl,a5,_,rfl,rfl,rfl⟩:=h1;rfl
 have hs:=QJ h2;obtain⟨a,k,rfl⟩:=hs.form;subst hu1;have hC:Fn Tryz.prog 118 [.ag (Bm g)] fun r=>r = .v (Ew (Bq g)):=Ct g.z g.d g.sp g.sl g.an
 rw [hg] at hC;have hS:=Kd g A hg h;have hX:=PL [] A (by decide);have hkb:k<=maxLen:=hs.cap.2.2;obtain⟨b,o,rfl, -,hx⟩:=Oj hs (k:=0) (show 0<1 by decide);have rg:∀ W,Rd (.ag (Bm g)) { c0 with w:=W } (.agg #[.int .i64 g.z, .int .i64 g.d, .int .i64 g.sp, .int .i64 g.sl, .int .i64 g.an]):=fun W=>by
  simp [Rd,RdL,Bm]
 have cC:∀ W,Below c0.w.heap.size c0.w W->Calls Tryz.prog 118 #[.agg #[.int .i64 g.z, .int .i64 g.d, .int .i64 g.sp, .int .i64 g.sl, .int .i64 g.an]] W fun e w'=>e = .returned (.int .i64 0)/\Below W.heap.size W w':=fun W hB=>(hC.at hd hM hgl hB (us:= [_]) (by simpa [RdL] using rg W)).mono fun e w' ⟨v,r,h1,h2,h3,h4⟩=>by
  subst h2;simp only [Rd] at h4;subst h4;exact⟨h1,h3⟩
 have cS:∀ W,Below c0.w.heap.size c0.w W->Calls Tryz.prog 88 #[.agg #[.int .i64 g.z, .int .i64 g.d, .int .i64 g.sp, .int .i64 g.sl, .int .i64 g.an], .int .i64 A] W fun e w'=>e = .returned (.tuple #[.int .i64 (A.tdiv g.d), .int .i64 (A.tmod g.d), .int .i64 0])/\Below W.heap.size W w':=fun W hB=>(hS.at hd hM hgl hB (us:= [_,_]) (by simpa [RdL,Rd] using rg W)).mono fun e w' ⟨v,r,h1,h2,h3,h4⟩=>by
  subst h2;simp only [Rd,RdL] at h4;obtain⟨xs,rfl,a1,_,rfl,rfl,a2,_,rfl,rfl,a3,_,rfl,rfl,rfl⟩:=h4;exact⟨h1,h3⟩
 have cX:∀ W v,Below c0.w.heap.size c0.w W->Rd (iA []) { c0 with w:=W } v->Calls Tryz.prog 80 #[v, .int .i64 A] W fun e w'=>e = .returned (.bool false)/\Below W.heap.size W w':=fun W v hB hv=>(hX.at hd hM hgl hB (us:= [v,_]) (by simpa [RdL,Rd] using hv)).mono fun e w' ⟨v,r,h1,h2,h3,h4⟩=>by
  subst h2;simp only [Rd] at h4;subst h4;exact⟨h1,h3⟩
 have hmm:=@run_makeMap Tryz.prog;clear hC hS hX hr h2 h1 hs rg
 go_enter Tryz.func143,Tryz.ntmps143
 go_wp2_with fail
 have hB1:Below c0.w.heap.size c0.w (c0.w.alloc (.cells #[.int .i64 g.z, .int .i64 g.d, .int .i64 g.sp, .int .i64 g.sl, .int .i64 g.an] 24)):=(Below.refl _ _).alloc (Ag _) _;((with_reducible refine(cC _ hB1).mono ?_);rintro e w1 ⟨rfl,hBa⟩);have hs1:c0.w.heap.size+1<=w1.heap.size:=by have:=hBa.size;simpa using this
 have hBw:=Lib.hid (hB1.trans (hBa.mono (by simp)));have hbk:=Lib.hid ((hBa.block c0.w.heap.size (by simp)).trans (heap_alloc_new _ _));clear hB1 hBa cC
 go_wp2_with fail
 refine wp_loop_rounds 2 ?_;rw [rounds_succ];have hB2:=Lib.hid (hBw.out.alloc (by omega) (.map #[] 0));have hcell:∀ i,(w1.alloc (.map #[] 0)).cell? ⟨c0.w.heap.size,i,none⟩ = #[Value.int .i64 g.z, .int .i64 g.d, .int .i64 g.sp, .int .i64 g.sl, .int .i64 g.an][i]? :=fun i=>by
  simp only [World.cell?];rw [Below.heap_alloc _ _ _ (by omega),hbk.out];try rfl
 have hx2:(w1.alloc (.map #[] 0)).cell? ⟨b,o,none⟩=some (.int .i64 A):=by
  have q:=World.block_lt_of_cell? c0.w _ hx;exact(hB2.out.cell (by exact q)).trans hx
 have hown:(w1.alloc (.map #[] 0)).ownsMap Tryz.prog 3 (plainElem (H:=Unit) Tryz.prog 4) w1.heap.size 0 (.map []):=World.ownsMap_made _ _ _ _;generalize hW:w1.alloc (.map #[] 0)=W2 at *
 go_wp2_with fail
 ((with_reducible refine(cS _ hB2.out).mono ?_);rintro e w2 ⟨rfl,hBb⟩);have hB3:=Lib.hid (hB2.out.trans (hBb.mono hB2.out.size));have hown2:=MY hown hBb;have hs2:=hBb.size;have hs3:c0.w.heap.size<W2.heap.size:=by rw [<-hW];simp;omega
 have hcell2:∀ i,w2.cell? ⟨c0.w.heap.size,i,none⟩ = #[Value.int .i64 g.z, .int .i64 g.d, .int .i64 g.sp, .int .i64 g.sl, .int .i64 g.an][i]? :=fun i=>(hBb.cell (p:=⟨c0.w.heap.size,i,none⟩) hs3).trans (hcell i)
 clear hcell hx2 hown cS
 go_wp2_with fail
 ((with_reducible refine(cX _ _ hB3.out ?_).mono ?_))
 ·simp only [iA,Rd];exact⟨_,k,rfl,Aj _,hkb, .inl rfl⟩
 rintro e w3 ⟨rfl,hBc⟩;have hB4:=Lib.hid (hB3.out.trans (hBc.mono hB3.out.size));have hown3:=MY hown2 hBc;have hs4:=hBc.size;have hZ:(Lit.int .i64 (A.tdiv g.d)).wf=true:=by
  obtain⟨h1,h2,h3,h4,h5⟩:=A2.1 hg;have hp:g.z*g.d<=16:=Int.le_trans (BQ h1.2 (by omega)) (by omega);have hq:A.tdiv g.d=A / g.d:=Bu h.1;have hq2:0<=A / g.d/\A / g.d<=A:=⟨Dl h.1 (by omega),Int.ediv_le_self _ h.1⟩;have : -9223372036854775808<=A.tdiv g.d/\A.tdiv g.d<=9223372036854775807:=by omega
  simp only [Lit.wf];rw [Ad];exact⟨decide_eq_true this.1,decide_eq_true this.2⟩
 have hkey:keyOf Tryz.prog 3 (.int .i64 (A.tdiv g.d))=some (.int .i64 (A.tdiv g.d)):=keyOf_int_mk und_int hZ;clear hcell2 hown2 cX
 go_wp2_with (first
  | (at_mapUpdate;refine wpList_mapUpdate_own _ rfl _ _ _ 319 rfl 3 4 (int_keyed und_int) und_map (plainElem (H:=Unit) Tryz.prog 4) w1.heap.size 0 _ rfl hown3 (by unfold maxLen;omega) _ _ _ rfl rfl hkey _ [] (plainElem_bool und_bool true) ?_;intro w4 hown4 hgrow4)
  | go_in)
 rw [rounds_succ];have hsz:Maps.size ((DataW.map (H:=Unit) []).put (Lit.int .i64 (A.tdiv g.d)) (.lit (.bool true)))=1:=rfl;have hB5:=Lib.hid (hB4.out.grown hgrow4 (by have:=hB4.out.size;omega) (fun j hj=>by cases hj;omega))
 go_wp2_with (first
  | (at_len;refine wpList_len_own _ rfl _ 319 rfl 3 4 und_map _ w1.heap.size (0+1) _ rfl hown4 ?_)
  | go_in)
 go_ret2
 refine⟨_,_,rfl,rfl,hB5.out,?_⟩;simp only [Rd,RdL];exact⟨_,rfl,_,_,rfl,rfl,_,_,rfl,rfl,rfl⟩
end
section
open Go.RowKit
theorem JU (l:List Tx) (z w:Int) (hl:l.length<=1000000) (hi:∀ t∈l,t.images.length<=1000000/\∀ x∈t.images,x.bytes.length<=1000000000):ACalls Tryz.prog false 90 [.ow 0 l.length,iv z,iv w] [.row 170 4 (l.map It)] fun r H=>r=(match CG l z w with | some p=> .tp [bA p.1.bytes,iv p.2, .v (.bool true)] | none=> .tp [bA [],iv 0, .v (.bool false)])/\H=[.row 170 4 (l.map It)]:=by
 have hf:=L9 l z w hl (fun t ht=>(hi t ht).1);have e:CG l z w=_:=J7 l z w l.length;rw [e];have tsub:SubL [.sl 4 l.length fun i=>(l.map It).getD i [],iv z,iv w] [Ej l,iv z,iv w]:=⟨BY (f:=It) l rfl rfl,ri,ri,tv⟩;cases hA:FM l z w l.length with
 | none=>
  rw [hA] at hf;refine zU tys_ok Tryz.func90 rfl rfl (Ae rfl) ?_;conv=>whnf
  refine zq (args':= [.sl 4 l.length fun i=>(l.map It).getD i [],iv z,iv w]) (hf.subA tsub) ⟨(Aa _).symm,rfl⟩ ?_;rintro _ rfl;refine⟨rfl,?_⟩;exact⟨_, .tp [bA [],iv 0, .v (.bool false)], [.row 170 4 (l.map It)],BV (m:= [bA [],iv 0, .v (.bool false)]) ⟨Bv 1 _,ri,ri,tv⟩,zQ (s:= [0]) tA,rfl,rfl⟩
 | some p=>
  obtain⟨k,i⟩:=p;rw [hA] at hf;obtain⟨hk,hi2⟩:=H8 hA;simp only at hk hi2;have hm:=hi _ (AC (d:=tz) hk);have hc:=BS ((l.getD k tz).images.getD i iz).bytes (hm.2 _ (AC hi2));replace hf:Fn Tryz.prog 164 [Ej l,iv z,iv w] fun r=>r = .tp [iv (k:Nat),iv (i:Nat), .v (.bool true)]:=hf
  have ixA:(0:Int)<=(k:Nat)/\((k:Nat):Int)<(l.length:Nat):=by omega
  have ixB:(0:Int)<=(i:Nat)/\((i:Nat):Int)<((l.getD k tz).images.length:Nat):=⟨Int.natCast_nonneg _,Int.ofNat_lt.2 hi2⟩;have hE:(l.map It).getD (k:Int).toNat []=It (l.getD k tz):=by rw [Ac];exact AP hk
  refine zU tys_ok Tryz.func90 rfl rfl (Ae rfl) ?_;conv=>whnf
  refine zq (args':= [.sl 4 l.length fun i=>(l.map It).getD i [],iv z,iv w]) (hf.subA tsub) ⟨(Aa _).symm,rfl⟩ ?_;rintro _ rfl;refine⟨rfl,?_⟩;conv=>whnf
  apply zW (0) tys_ok mixed (.o [0,1,2,3,4,5,6,7,8,10,11,12,13,14,9,15,16,17] .fin) (by kernel_rfl);conv=>whnf
  try (refine tI ?_;conv=>whnf)
  try (first | (refine Ai ⟨rfl,(Aa _).symm,by rw [Ac];exact hk⟩ ?_;(conv=>whnf);rw [hE]) | skip;conv=>whnf)
  try (refine tI ?_;conv=>whnf)
  try (first | (refine Ai ⟨rfl,(Aa _).symm,by rw [Ac];exact hk⟩ ?_;(conv=>whnf);rw [hE]) | skip;conv=>whnf)
  try (refine tI ?_;conv=>whnf)
  try (first | (refine Ai ⟨rfl,(Aa _).symm,by rw [Ac];exact hk⟩ ?_;(conv=>whnf);rw [hE]) | skip;conv=>whnf)
  refine zY hc ?_;conv=>whnf
  all_goals exact⟨_, .tp [bA ((l.getD k tz).images.getD i iz).bytes, .v (.int .i64 (l.getD k tz).seq), .v (.bool true)], [.row 170 4 (l.map It)],fun _ _ h=>h,zQ (s:= [0]) tA,rfl,rfl⟩
@[reducible] def aM (s:Stt) (tx lo:AV):List AV:= [iv s.a.gen,iv s.a.epoch,iv s.a.pos,iv s.a.seq,iv s.a.last, .v (.string s.a.label),GW s.a.homes,tx, .v (.bool s.only),iv s.cursor,iv s.found,iv s.fixed,iv s.moved,lo]
@[reducible] def XP (g:Geo) (x tx lo:AV) (s:Stt):List AV:= [iv g.z,iv g.d,iv g.sp,iv g.sl,iv g.an,x,iv s.a.gen,iv s.a.epoch,iv s.a.pos,iv s.a.seq,iv s.a.last, .v (.string s.a.label),GW s.a.homes,tx, .v (.bool s.only),iv s.cursor,iv s.found,iv s.fixed,iv s.moved,lo]
@[reducible] def GS (g:Geo) (s:Stt) (d:Dk):List AB:= [.box 99 (XP g (.bp 1 0) (.ow 4 s.txns.length) (iA s.lost) s), .box 119 (Lg (.ow 2 d.cells.length) (.ow 3 d.cache.length) d.reqs d.left), .row 68 3 (d.cells.map Ci), .row 152 2 (d.cache.map GU), .row 170 4 (s.txns.map It)]
@[reducible] def aU (g:Geo) (s:Stt) (d:Dk):List AB:= [.box 24 (Bm g), .box 38 (ZO d), .box 34 (aC s), .box 119 (Lg (.ow 4 d.cells.length) (.ow 5 d.cache.length) d.reqs d.left), .row 68 3 (d.cells.map Ci), .row 152 2 (d.cache.map GU), .row 170 4 (s.txns.map It)]
@[reducible] def bwN (g:Geo) (s:Stt) (d:Dk):List AB:= [.box 99 (XP g (.bp 1 0) (.v (.slice none 0 0)) (iA s.lost) s), .box 119 (Lg (.ow 2 d.cells.length) (.ow 4 d.cache.length) d.reqs d.left), .row 68 3 (d.cells.map Ci), .dead, .row 152 2 (d.cache.map GU)]
theorem We (g:Geo) (d D:Dk) (s:Stt) (hg:Bq g=true) (h:DkOk d) (hn:(d.cells.length:Int)=A7 g) (hm:JV g d=(D,0,s))
  (hsc:∀ a j,Gf g (B8 d (Do g))=some (a,j)->Hh g a (B8 (d.adv g.an.toNat) (BI g 0)) (B8 (d.adv g.an.toNat) (BI g 1))=([], [],0)/\Fn Tryz.prog 274 [.ag (Bm g), .ag (Fp a),F6 (B8 (d.adv g.an.toNat) (BI g 0)),F6 (B8 (d.adv g.an.toNat) (BI g 1))] fun r=>r = .tp [.v (.slice none 0 0), .v (.slice none 0 0),iv 0]) :
  ACalls Tryz.prog false 194 [.bp 0 0] (GJ g st0 d) fun r H=>r = iv 0/\H=bwN g s D:=by
 obtain⟨g1,g2,g3,g4,g5⟩:=A2.1 hg;have hcg:=En hg;have ha:=RK g st0 d hg h (by omega);unfold JV at hm;by_cases hl:d.live g.an.toNat;rotate_left 1
 ·rw [if_neg hl] at hm;cases hm
 rw [if_pos hl] at hm;have hp:=Xa g (B8 d (Do g)) hg (by rw [DF,E1];omega) (PV h _);have hpo:=fun {a j}=>K_ (g:=g) (l:=B8 d (Do g)) hg (B8 d (Do g)).length (a:=a) (j:=j)
 have hpo:∀ {a j},Gf g (B8 d (Do g))=some (a,j)->B7 g a=true:=hpo;have hgl:(B8 d (Do g)).length=g.an.toNat:=by rw [DF,E1]
 generalize B8 d (Do g)=L at ha hp hpo hgl hm hsc;have hd1:=h.adv g.an.toNat;have hs1:=(Fi g.an.toNat d).1;generalize d.adv g.an.toNat=d1 at ha hd1 hs1 hm hsc;cases hP:Gf g L with
 | none=>rw [hP] at hm;cases hm
 | some q=>
  obtain⟨a,j⟩:=q;have hao:=hpo hP;obtain⟨hS,hsc⟩:=hsc a j hP;rw [hP] at hp hm;replace hp:Fn Tryz.prog 272 [.ag (Bm g),F6 L] (fun r=>r = .tp [.ag (Fp a),iv (j:Nat),iv 0]):=hp;have hlg:=XQ g st0 d1 hg hd1 (by rw [hs1];exact hn);simp only at hm;unfold Rl at hm;by_cases hl2:d1.live (2*g.sl.toNat);rotate_left 1
  ·rw [if_neg hl2] at hm;cases hm
  rw [if_pos hl2,hS] at hm;have hx1:(B8 d1 (BI g 0)).length=g.sl.toNat:=by rw [DF,D9]
  have hx2:(B8 d1 (BI g 1)).length=g.sl.toNat:=by rw [DF,D9]
  have hlast:=QS (x:=B8 d1 (BI g 0)) (y:=B8 d1 (BI g 1)) hg hao (by rw [hS]);rw [hS] at hlast;generalize B8 d1 (BI g 0)=X1 at hlg hx1 hsc;generalize B8 d1 (BI g 1)=X2 at hlg hx2 hsc;have hd2:=hd1.adv (2*g.sl.toNat);have hs2:=(Fi (2*g.sl.toNat) d1).1;generalize d1.adv (2*g.sl.toNat)=d2 at hlg hd2 hs2 hm;unfold Rk at hm;rw [if_neg (by simp)] at hm;have hmd:=UZ g st0 d2 [] hd2 (fun w hw=>by cases hw) (Aj _);have hmd0:d2.mend []=(d2,false):=rfl;simp only at hm;rw [hmd0] at hm hmd;simp only [BU,if_false] at hm hmd;have hpa:=FB hao;unfold Rj at hm;by_cases hmx:a.gen=4294967295\/a.epoch=4294967295
  ·rw [if_pos hmx] at hm;cases hm
  rw [if_neg hmx] at hm;have hna:=PC (n:=0) hao (fun e=>hmx (.inl e)) (fun e=>hmx (.inr e)) hlast.2;have hban:=Qw g st0 d2 (Ec a 0) hg hna hd2 (M3 hg hna (by rw [hs2,hs1];exact hn));have b1:(a.gen == 4294967295)=false:=beq_eq_false_iff_ne.2 fun e=>hmx (.inl e)
  have b2:(a.epoch == 4294967295)=false:=beq_eq_false_iff_ne.2 fun e=>hmx (.inr e)
  have w1:IntKind.i64.wrap (a.gen+1)=a.gen+1:=wi (by omega);have w2:IntKind.i64.wrap (a.epoch+1)=a.epoch+1:=wi (by omega);have hlast2:a.last<=a.seq+(0:Nat) - 1/\a.seq+(0:Nat) - 1<=4294967295:=hlast;have w3:IntKind.i64.wrap (IntKind.i64.wrap (a.seq+((0:Nat):Int)) - 1)=a.seq+(0:Nat) - 1:=by
   rw [wi (n:=a.seq+((0:Nat):Int)) (by omega)];exact wi (by omega)
  simp only [AN] at hm;generalize hQ:d2.putAll (AU g (Ec a 0))=Q at hban hm;obtain⟨d4,n,dead⟩:=Q;simp only at hm;cases dead with
  | true=>rw [if_pos rfl] at hm;cases hm
  | false=>
   rw [if_neg (by decide)] at hm;simp only [BU,if_false] at hban;by_cases hn0:n=0
   ·rw [if_pos hn0] at hm;cases hm
   rw [if_neg hn0] at hm;cases hm;have hnb:((n:Int) == 0)=false:=beq_eq_false_iff_ne.2 (by omega);refine zU tys_ok Tryz.func194 rfl rfl (Ae rfl) ?_;conv=>whnf
   refine ha.mono ?_;rintro _ _ ⟨h1, -⟩;obtain⟨rfl,rfl⟩:=h1 hl;conv=>whnf
   refine zS hp.go ?_;refine⟨(by rw [Aa,hgl]),?_⟩;conv=>whnf
   refine zV [.ag (Bm g),F6 L] ⟨ri,BY (f:=Eg) L hgl.symm rfl,tv⟩ ?_;refine zY hp ?_;conv=>whnf
   refine ze9 [0,1,2,3] hlg ?_;rintro _ _ ⟨h1, -⟩;obtain⟨rfl,rfl⟩:=h1 hl2;conv=>whnf
   apply zW (0) tys_ok mixed (.o [0,1,2,3,4,5,6,7,8,9,10,11,12,13,14] .fin) (by kernel_rfl);conv=>whnf
   (refine zS hsc.go ?_;(conv=>whnf);refine Ai (by rw [Aa,hx1]) ?_;(conv=>whnf);refine Ai (by rw [Aa,hx2]) ?_;(conv=>whnf);refine zV [.ag (Bm g), .ag (Fp a),F6 X1,F6 X2] ⟨ri,ri,BY (f:=Eg) X1 hx1.symm rfl,BY (f:=Eg) X2 hx2.symm rfl,tv⟩ ?_;refine zY hsc ?_)
   conv=>whnf
   conv=>whnf
   refine zV [.bp 0 0,NB []] ⟨ri,Bv 2 _,tv⟩ ?_;refine ze9 [0,1,2,3] hmd ?_;rintro _ _ ⟨rfl,rfl⟩;conv=>whnf
   rw [b1];conv=>whnf
   rw [b2];conv=>whnf
   rw [w1,w2,w3];refine z_ [0,1,2,8] hban rfl rfl rfl rfl (by decide) (YH rfl rfl) tA ?_;rintro _ _ ⟨rfl,rfl⟩;conv=>whnf
   rw [hnb];refine⟨_,iv 0,bwN g (AO (Ec a 0) []) D,ri,zK (zO (z6 (cs':=XP g (.bp 1 0) (.v (.slice none 0 0)) (iA []) (AO (Ec a 0) [])) 0 rfl ?_)) (s:= [0,1,2,3,9]) tA,rfl,rfl⟩;exact⟨fun _ _ h=>h,fun _ _ h=>h,fun _ _ h=>h,fun _ _ h=>h,fun _ _ h=>h,fun _ _ h=>h,fun _ _ h=>h,fun _ _ h=>h,fun _ _ h=>h,fun _ _ h=>h,fun _ _ h=>h,fun _ _ h=>h,fun _ _ h=>h,fun _ _ h=>h,fun _ _ h=>h,fun _ _ h=>h,fun _ _ h=>h,fun _ _ h=>h,fun _ _ h=>h,Bv 1 _,tv⟩
theorem Mk (l:List Tx) (x:Tx) (z w:Int):∀ k,k<=l.length->F8 (l ++ [x]) z w k=F8 l z w k
 | 0,_=>rfl
 | k+1,hk=>by
  have e:(l ++ [x]).getD k tz=l.getD k tz:=by
   grind
  rw [F8,F8,e,Mk l x z w k (by omega)]
theorem IT (l:List Tx) (x:Tx) (z w:Int):CG (l ++ [x]) z w=match D0 x.images z w x.images.length with
  | some i=>some (i,x.seq)
  | none=>CG l z w:=by
 unfold CG;rw [Ah,Ao,AN,Au,F8,Mk l x z w _ (Ag _),show (l ++ [x]).getD l.length tz=x by simp];try rfl
theorem R5 (x:Tx) (r:List Tx) (z w:Int):∀ k,F8 (x::r) z w (k+1)=match F8 r z w k with
  | some p=>some p
  | none=>match D0 x.images z w x.images.length with
   | some i=>some (i,x.seq)
   | none=>none
 | 0=>rfl
 | k+1=>by
  rw [F8,R5 x r z w k,F8,show (x::r).getD (k+1) tz=r.getD k tz from rfl]
  grind
theorem Pk {x:Gt} {a s:Int} {p:List UInt8} (he:x.err=0) (hx:x.bytes=CF a s p) (h:Yb a s p):D7 x a=some ⟨a,s,p⟩:=by
 obtain⟨h1,h2,h3,h4⟩:=Ia h;unfold D7
 grind
theorem Ud {a s:Int} {p:List UInt8} {e:Ent} (h:Yb a s p) (h8:p.length=8) (h1:e.stamp=s) (h2:((DG p:Nat):Int)=e.sum):DJ ⟨0,CF a s p⟩ a e=some p:=by
 unfold DJ;rw [Pk rfl rfl h]
 grind
theorem SV {g:Geo} {a s:Int} {p:List UInt8} (h:Yb a s p):Cv g ⟨0,CF a s p⟩ a s=CV g p:=by
 unfold Cv;rw [Pk rfl rfl h]
 grind
def Nn (v:Int->List UInt8):Nat->List UInt8
 | 0=>zero8
 | k+1=>GT (Nn v k) (v (k:Nat))
structure ZoneV (g:Geo) (a:An) (l:List Tx) (F:Int->List UInt8) (z:Int) (t:List Ent) (v:Int->List UInt8):Prop where
 tab:Fq g (AO a l) F z=some t
 len:∀ w, -1<=w->w<g.d->(v w).length=8
 ent:∀ w, -1<=w->w<g.d->(t.getD (E4 g w).toNat ez).lost=false/\((DG (v w):Nat):Int)=(t.getD (E4 g w).toNat ez).sum
 val:∀ w, -1<=w->w<g.d->match CG l z w with
  | some p=>p.1.bytes=v w/\(t.getD (E4 g w).toNat ez).stamp=p.2
  | none=>DJ ⟨0,F (D3 g a z w)⟩ (D3 g a z w) (t.getD (E4 g w).toNat ez)=some (v w)
 par:v (-1)=Nn v g.d.toNat
def VolV (g:Geo) (a:An) (l:List Tx) (F:Int->List UInt8) (V:Int->Int->List UInt8):Prop:=∀ z,0<=z->z<g.z->∃ t,ZoneV g a l F z t (V z)
theorem ZoneV.one {g:Geo} {a:An} {l:List Tx} {F:Int->List UInt8} {z:Int} {t:List Ent} {v:Int->List UInt8} (h:ZoneV g a l F z t v) {w:Int} (hw : -1<=w/\w<g.d):G7 g (AO a l) F t z w=v w:=by
 have:=h.val w hw.1 hw.2;unfold G7;show (match CG l z w with | some p=>p.1.bytes | none=>_)=_;cases hf:CG l z w with
 | some p=>rw [hf] at this;exact this.1
 | none=>
  rw [hf] at this;simp only at this |-
  show (DJ ⟨0,F (D3 g a z w)⟩ (D3 g a z w) (t.getD (E4 g w).toNat ez)).getD []=_
  grind
theorem XM {n:Int} {F:Int->List UInt8} {q:Int} (h0:0<=q) (h1:q<n):KE n F q=F q:=if_pos ⟨by omega,h1⟩
theorem fold_zero:∀ k,Nn (fun _=>zero8) k=zero8
 | 0=>rfl
 | k+1=>by rw [Nn,fold_zero k];rfl
theorem Ml (l m:List Img) (z w:Int):∀ k,k<=l.length->D0 (l ++ m) z w k=D0 l z w k
 | 0,_=>rfl
 | k+1,hk=>by
  have e:(l ++ m).getD k iz=l.getD k iz:=by
   grind
  rw [D0,D0,e,Ml l m z w k (by omega)]
theorem TR (l m:List Img) (z w:Int):∀ k,k<=m.length->D0 (l ++ m) z w (l.length+k)=match D0 m z w k with
  | some i=>some i
  | none=>D0 l z w l.length
 | 0,_=>Ml l m z w _ (Ag _)
 | k+1,hk=>by
  have e:(l ++ m).getD (l.length+k) iz=m.getD k iz:=by
   grind
  rw [<-Nat.add_assoc,D0,D0,e];split
  ·rfl
  ·exact TR l m z w k (by omega)
theorem IU {l:List Img} {z w:Int} (h:∀ x∈l,x.zone≠z):∀ k,k<=l.length->D0 l z w k=none
 | 0,_=>rfl
 | k+1,hk=>by
  rw [D0,if_neg (fun q=>h _ (AC (by omega)) q.1),IU h k (by omega)]
def V0 (z:Int) (ats:List Int) (bs:List (List UInt8)) (w:Int):Option Img:=(EG ats bs w.toNat ats.length).map fun b=>⟨z,w,b⟩
theorem Nu (z:Int) (ats:List Int) (bs:List (List UInt8)) (m:List Img) {w:Int} (hw:0<=w):∀ k,k<=ats.length->D0 (((List.range ats.length).map fun i=>(⟨z,ats.getD i 0,bs.getD i []⟩:Img)) ++ m) z w k=(EG ats bs w.toNat k).map fun b=>⟨z,w,b⟩
 | 0,_=>rfl
 | k+1,hk=>by
  have e:(((List.range ats.length).map fun i=>(⟨z,ats.getD i 0,bs.getD i []⟩:Img)) ++ m).getD k iz=⟨z,ats.getD k 0,bs.getD k []⟩:=by
   grind
  rw [D0,e,EG,Nu z ats bs m hw k (by omega)]
  grind
theorem J6 (z:Int) (t:List Ent) (par:List UInt8) (ats:List Int) (bs:List (List UInt8)) (ha:∀ a∈ats,0<=a/\a<255) (w:Int) (hw:w=255\/(-1<=w/\w<255)):D0 (Cz z t par ats bs) z w (Cz z t par ats bs).length=if w=255 then some ⟨z,255,Di t⟩ else if w = -1 then some ⟨z, -1,par⟩ else V0 z ats bs w:=by
 have hl:=H5 z t par ats bs;have e1:(Cz z t par ats bs).getD (ats.length+1) iz=⟨z,255,Di t⟩:=by
  unfold Cz
  grind
 have e0:(Cz z t par ats bs).getD ats.length iz=⟨z, -1,par⟩:=by
  unfold Cz
  grind
 rw [hl,D0,D0,e1,e0];by_cases h1:w=255
 ·grind
 ·rw [if_neg (fun q=>h1 q.2.symm),if_neg h1];by_cases h2:w = -1
  ·grind
  ·rw [if_neg (fun q=>h2 q.2.symm),if_neg h2];exact Nu z ats bs _ (by omega) _ (Ag _)
def SN (V:Int->Int->List UInt8) (x:Tx) (z w:Int):List UInt8:=match D0 x.images z w x.images.length with
 | some i=>i.bytes
 | none=>V z w
def ZI (g:Geo) (a:An) (l:List Tx) (F:Int->List UInt8) (x:Tx) (z:Int):Prop:=
 (∀ w,D0 x.images z w x.images.length=none)
 \/∃ t ats bs,Fq g (AO a l) F z=some t/\ats.length=bs.length/\(∀ b∈bs,b.length=8)/\∀ w,w=255\/(-1<=w/\w<g.d)->D0 x.images z w x.images.length=if w=255 then some ⟨z,255,Di (BJ g t (CY g (AO a l) F t z) ats bs x.seq)⟩ else if w = -1 then some ⟨z, -1,Fa g t (CY g (AO a l) F t z) ats bs g.d.toNat⟩ else V0 z ats bs w
theorem YR {g:Geo} (hg:Bq g=true) {s:Stt} {F:Int->List UInt8} {t:List Ent} {z:Int} {i:Nat} (hi:(i:Int)<g.d):(CY g s F t z).getD i []=G7 g s F t z (i:Nat):=by
 unfold CY TJ
 grind
theorem Wz {g:Geo} (hg:Bq g=true) {a:An} {l:List Tx} {x:Tx} (hseq:0<=x.seq/\x.seq<=4294967295) (hl:∀ t∈l,∀ y∈t.images,BW g y=true) {F:Int->List UInt8} {V:Int->Int->List UInt8} (h:VolV g a l F V) (hx:∀ z,0<=z->z<g.z->ZI g a l F x z):VolV g a (l ++ [x]) F (SN V x):=by
 obtain⟨g1,g2,g3,g4,g5⟩:=A2.1 hg;intro z h0 h1;obtain⟨t,ht⟩:=h z h0 h1;rcases hx z h0 h1 with hn | ⟨t',ats,bs,e1,e2,e3,e4⟩
 ·have hv:∀ w,SN V x z w=V z w:=fun w=>by unfold SN;rw [hn w]
  have hf:∀ w,CG (l ++ [x]) z w=CG l z w:=fun w=>by rw [IT,hn w]
  have hvz:SN V x z=V z:=funext hv;refine⟨t,?_,fun w q1 q2=>by rw [hv];exact ht.len w q1 q2,fun w q1 q2=>by rw [hv];exact ht.ent w q1 q2,fun w q1 q2=>?_,by rw [hvz];exact ht.par⟩
  ·have:=ht.tab;unfold Fq Dy at this |-
   show (match CG (l ++ [x]) z 255 with | some p=>_ | none=>match Cv g _ _ (match CG (l ++ [x]) z 255 with | some p=>p.2 | none=>_) with | some t=>some t | none=>Cv g _ _ (match CG (l ++ [x]) z 255 with | some p=>p.2 | none=>_))=_;rw [hf 255];exact this
  ·rw [hf w,hv];exact ht.val w q1 q2
 ·have et:t'=t:=by
   have:=ht.tab
   grind
  subst et;have htok:=KU ht.tab;have htl:=Jv htok;have hhad:∀ i:Nat,(i:Int)<g.d->(CY g (AO a l) F t' z).getD i []=V z (i:Nat):=fun i hi=>by
   rw [YR hg hi];exact ht.one ⟨by omega,hi⟩
  have hatN:∀ i:Nat,(i:Int)<g.d->(E4 g (i:Nat)).toNat=i:=fun i hi=>by unfold E4;rw [if_neg (by omega)];omega
  have hkn:∀ i:Nat,(i:Int)<g.d->FP g t' (CY g (AO a l) F t' z) i=V z (i:Nat):=fun i hi=>by
   have:=(ht.ent (i:Nat) (by omega) hi).1;rw [hatN i hi] at this;unfold FP;rw [this,if_neg (by decide),hhad i hi,if_pos (by rw [ht.len (i:Nat) (by omega) hi];decide)]
  have hup:∀ i:Nat,(i:Int)<g.d->SN V x z (i:Nat)=G8 g t' (CY g (AO a l) F t' z) ats bs i:=fun i hi=>by
   have e:=e4 (i:Nat) (.inr ⟨by omega,hi⟩);rw [if_neg (by omega),if_neg (by omega)] at e;unfold SN G8;rw [e,V0,Ac]
   grind
  have hbn:∀ i:Nat,(i:Int)<g.d->(G8 g t' (CY g (AO a l) F t' z) ats bs i).length=8:=fun i hi=>by
   unfold G8;cases hp:EG ats bs i ats.length with
   | some b=>exact JS e3 (by omega) _ b (Ag _) hp
   | none=>
    show (FP g t' _ i).length=8;rw [hkn i hi];exact ht.len (i:Nat) (by omega) hi
  have hpar:∀ k:Nat,(k:Int)<=g.d->Fa g t' (CY g (AO a l) F t' z) ats bs k=Nn (SN V x z) k:=by
   intro k;induction k with
   | zero=>intro _;rfl
   | succ k ih=>
    intro hk;rw [Fa,if_neg (by rw [hbn k (by omega)];decide),ih (by omega),Nn,hup k (by omega)]
  have hpv:SN V x z (-1)=Fa g t' (CY g (AO a l) F t' z) ats bs g.d.toNat:=by
   have e:=e4 (-1) (.inr ⟨by omega,by omega⟩);rw [if_neg (by omega),if_pos rfl] at e;unfold SN;rw [e]
  have hhb:∀ b∈CY g (AO a l) F t' z,b.length=0\/b.length=8:=fun b hb=>by
   unfold CY TJ at hb;rcases Az.1 hb with q | q
   ·obtain⟨i,hi,rfl⟩:=AI.1 q;exact Ju (s:=AO a l) hl (by have:=AJ.1 hi;omega)
   ·rw [Ay] at q;subst q;exact Ju (s:=AO a l) (w:= -1) hl (by decide)
  have hpl:(Fa g t' (CY g (AO a l) F t' z) ats bs g.d.toNat).length=8:=Ht hhb e3 (by omega) _;have hwt:=G_ (g:=g) (t:=t') (had:=CY g (AO a l) F t' z) (ats:=ats) (bs:=bs) hg htok (stamp:=x.seq) hseq;have htab:Fq g (AO a (l ++ [x])) F z=some (BJ g t' (CY g (AO a l) F t' z) ats bs x.seq):=by
   have e:=e4 255 (.inl rfl);rw [if_pos rfl] at e;unfold Fq;show (match CG (l ++ [x]) z 255 with | some p=>CV g p.1.bytes | none=>_)=_;rw [IT,e];exact IC hwt
  have hent:∀ i:Nat,(i:Int)<g.d->(BJ g t' (CY g (AO a l) F t' z) ats bs x.seq).getD i ez=match EG ats bs i ats.length with
    | some b=>⟨x.seq,(DG b:Nat),false⟩
    | none=>t'.getD i ez:=fun i hi=>by
   unfold BJ;rw [Ab,AD (by simp;omega),Bd,BL (by omega)];show Of g t' _ ats bs x.seq i=_;unfold Of
   grind
  have hentp:(BJ g t' (CY g (AO a l) F t' z) ats bs x.seq).getD (E4 g (-1)).toNat ez=⟨x.seq,(DG (SN V x z (-1)):Nat),false⟩:=by
   rw [show (E4 g (-1)).toNat=g.d.toNat by unfold E4;rw [if_pos rfl]];unfold BJ
   grind
  refine⟨_,htab,fun w q1 q2=>?_,fun w q1 q2=>?_,fun w q1 q2=>?_,?_⟩
  ·by_cases hw:w = -1
   ·grind
   ·obtain⟨i,rfl⟩:∃ i:Nat,w=(i:Nat):=⟨w.toNat,by omega⟩
    grind
  ·by_cases hw:w = -1
   ·grind
   ·obtain⟨i,rfl⟩:∃ i:Nat,w=(i:Nat):=⟨w.toNat,by omega⟩;rw [hatN i q2,hent i q2,hup i q2];unfold G8;cases hp:EG ats bs i ats.length with
    | some b=>exact tA
    | none=>
     have:=ht.ent (i:Nat) q1 q2
     grind
  ·rw [IT];have e:=e4 w (.inr ⟨q1,q2⟩);rw [if_neg (by omega)] at e;by_cases hw:w = -1
   ·grind
   ·obtain⟨i,rfl⟩:∃ i:Nat,w=(i:Nat):=⟨w.toNat,by omega⟩;rw [if_neg hw,V0,Ac] at e;rw [e,hatN i q2,hent i q2,hup i q2];unfold G8;cases hp:EG ats bs i ats.length with
    | some b=>exact tA
    | none=>
     have:=ht.val (i:Nat) q1 q2
     grind
  ·grind
theorem YZ {g:Geo} (hg:Bq g=true) {a:An} {l:List Tx} {F:Int->List UInt8} {lba:Int} {b:List UInt8} (hlba:0<=lba/\lba<g.z*g.d) (hb:b.length=8) (ht:(Fq g (AO a l) F (lba.tdiv g.d)).isSome=true):∀ z,0<=z->z<g.z->ZI g a l F (FU g a l F lba b) z:=by
 obtain⟨g1,g2,g3,g4,g5⟩:=A2.1 hg;intro z h0 h1;obtain⟨t,ht⟩:=C9.1 ht;have hm:0<=lba.tmod g.d/\lba.tmod g.d<g.d:=⟨BF _ hlba.1,Bz _ (by omega)⟩;have ei:(FU g a l F lba b).images=Cz (lba.tdiv g.d) (BJ g t (CY g (AO a l) F t (lba.tdiv g.d)) [lba.tmod g.d] [b] (a.seq+(l.length:Int))) (Fa g t (CY g (AO a l) F t (lba.tdiv g.d)) [lba.tmod g.d] [b] g.d.toNat) [lba.tmod g.d] [b]:=by
  show H0 g (AO a l) F _ lba b=_;unfold H0;rw [ht]
 by_cases hz:z=lba.tdiv g.d
 ·refine .inr ⟨t, [lba.tmod g.d], [b],by rw [hz];exact ht,rfl,fun x hx=>by rw [Ay] at hx;rw [hx];exact hb,fun w hw=>?_⟩;rw [ei,hz];exact J6 _ _ _ _ _ (fun x hx=>by rw [Ay] at hx;omega) w (by omega)
 ·refine .inl fun w=>?_
  rw [ei];refine IU (fun y hy=>?_) _ (Ag _);have:y.zone=lba.tdiv g.d:=by
   unfold Cz at hy
   grind
  omega
theorem YY {g:Geo} (hg:Bq g=true) {a:An} {l:List Tx} {F:Int->List UInt8} {lba:Int} {b:List UInt8} (hlba:0<=lba/\lba<g.z*g.d) (ht:(Fq g (AO a l) F (lba.tdiv g.d)).isSome=true) (V:Int->Int->List UInt8) {z w:Int} (hw:0<=w/\w<g.d):SN V (FU g a l F lba b) z w=if z=lba.tdiv g.d/\w=lba.tmod g.d then b else V z w:=by
 obtain⟨g1,g2,g3,g4,g5⟩:=A2.1 hg;obtain⟨t,ht⟩:=C9.1 ht;have hm:0<=lba.tmod g.d/\lba.tmod g.d<g.d:=⟨BF _ hlba.1,Bz _ (by omega)⟩;have ei:(FU g a l F lba b).images=Cz (lba.tdiv g.d) (BJ g t (CY g (AO a l) F t (lba.tdiv g.d)) [lba.tmod g.d] [b] (a.seq+(l.length:Int))) (Fa g t (CY g (AO a l) F t (lba.tdiv g.d)) [lba.tmod g.d] [b] g.d.toNat) [lba.tmod g.d] [b]:=by
  show H0 g (AO a l) F _ lba b=_;unfold H0;rw [ht]
 unfold SN;rw [ei];by_cases hz:z=lba.tdiv g.d
 ·rw [hz,J6 _ _ _ _ _ (fun x hx=>by rw [Ay] at hx;omega) w (by omega),if_neg (by omega),if_neg (by omega)];have ep:V0 (lba.tdiv g.d) [lba.tmod g.d] [b] w=if lba.tmod g.d=((w.toNat:Nat):Int) then some ⟨lba.tdiv g.d,w,b⟩ else none:=by
   show ((if lba.tmod g.d=((w.toNat:Nat):Int) then some b else none:Option (List UInt8)).map fun b=>(⟨lba.tdiv g.d,w,b⟩:Img))=_
   grind
  grind
 ·rw [if_neg (fun q=>hz q.1),IU (fun y hy=>?_) _ (Ag _)];have:y.zone=lba.tdiv g.d:=by
   unfold Cz at hy
   grind
  omega
end
end Go.Proofs.YtpjkcgacjjbikaaGreatDoor.A
