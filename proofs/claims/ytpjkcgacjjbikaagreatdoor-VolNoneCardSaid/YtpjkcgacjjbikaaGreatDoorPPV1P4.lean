/-
Several texts in one.
-/
import Derived.Test.YtpjkcgacjjbikaaGreatDoorPPV1P1
import Derived.Test.YtpjkcgacjjbikaaGreatDoorPPV1P3
import Derived.Test.YtpjkcgacjjbikaaGreatDoorPPV1P2
import Derived.Maps.OwnSet
set_option maxRecDepth 100000
set_option maxHeartbeats 8000000
set_option linter.unusedSimpArgs false
set_option linter.unusedVariables false
set_option linter.deprecated false
namespace Go.Proofs.YtpjkcgacjjbikaaGreatDoor.A
section
open Go.RowKit
def flatX:AV->Bool
 | .v _=>true
 | _=>false
def flatO:AV->Bool
 | .v _=>true
 | .ow _ _=>true
 | .tp l=>l.all fun x=>match x with | .v _=>true | .ow _ _=>true | _=>false
 | _=>false
def flatR:List AB->Bool
 | []=>true
 | .row _ _ es::r=>es.flatten.all flatX&&flatR r
 | _::_=>false
theorem Pk {c c':Ctx}:∀ {l:List AV} {us:List Value},l.all flatX=true->RdL l c us->RdL l c' us
 | [],us,_,h=>by simpa only [RdL] using h
 | x::l,us,hf,h=>by
  rw [Bb,Ad] at hf;simp only [RdL] at h |-
  obtain⟨u,vs,rfl,h1,h2⟩:=h;refine⟨u,vs,rfl,?_,Pk hf.2 h2⟩;cases x <;> simp [flatX] at hf;simpa only [Rd] using h1
theorem NL {c c':Ctx} (hr:c'.rho=c.rho) (hl:c'.len=c.len) (hd:c'.dom=c.dom) {x:AV} (hx:(match x with | .v _=>true | .ow _ _=>true | _=>false)=true) {u:Value} (h:Rd x c u):Rd x c' u:=by
 cases x <;> simp at hx
 ·simpa only [Rd] using h
 ·simp only [Rd] at h |-
  rw [hr,hl,hd];exact h
theorem Vg {c c':Ctx} (hr:c'.rho=c.rho) (hl:c'.len=c.len) (hd:c'.dom=c.dom) {x:AV} (hx:flatO x=true) {u:Value} (h:Rd x c u):Rd x c' u:=by
 cases x with
 | v y=>exact NL hr hl hd rfl h
 | ow k n=>exact NL hr hl hd rfl h
 | tp l=>
  simp only [Rd] at h |-
  obtain⟨xs,rfl,hxs⟩:=h;refine⟨xs,rfl,?_⟩;simp only [flatO] at hx;induction l generalizing xs with
  | nil=>simpa only [RdL] using hxs
  | cons y l ih=>
   rw [Bb,Ad] at hx;simp only [RdL] at hxs |-
   obtain⟨u,us,rfl,h1,h2⟩:=hxs;exact⟨u,us,rfl,NL hr hl hd hx.1 h1,ih hx.2 us h2⟩
 | _=>simp [flatO] at hx
theorem flatR_mem:∀ {R:List AB} {y:AB},flatR R=true->y∈R->∃ t sz es,y = .row t sz es/\es.flatten.all flatX=true
 | .row t sz es::r,y,h,hy=>by
  rw [flatR,Ad] at h;rcases AT.1 hy with rfl | hy
  ·exact⟨t,sz,es,rfl,h.1⟩
  ·exact flatR_mem h.2 hy
theorem FnO.lend {P:Program} {f:FuncId} {args args':List AV} {H:List AB} {K:AV->List AB->Prop} {q:Bool} {k:AV->List AB->Prop} (h:FnO P f args' K) (hs:sealA args H fun a _=>a=args') (hk:∀ r R,K r R->(flatO r=true/\flatR R=true)/\appK H R 0 fun d H=>CW (r.shift d) fun r=>k r H):ACalls P q f args H k:=by
 refine⟨h.go,fun w0 M0 c us hs0 hr=>?_⟩;obtain⟨l',H',c',rfl,h2,h3,h4,h5,_⟩:=sealA_sound hs0 hr hs;have hglob:globOk c'.closed.w:=h3.glob;have hc:=h.calls c'.closed us hglob rfl h3.lt h5;have ew:c'.closed.w=c.w:=h2
 suffices hh:Calls P f us.toArray c'.closed.w fun e w'=>∃ v c1 r H1,e = .returned v/\c1.w=w'/\k r H1/\HS w0 M0 c1 H1/\Ext c c1/\Rd r c1 v/\(q=true->Old c.w w') by
  rw [ew] at hh;exact hh
 refine hc.mono ?_;rintro e w' ⟨v,r,c2,R,rfl,q1,rfl,q2,q3,q4⟩;obtain⟨⟨f1,f2⟩,hkk⟩:=hk r R q1
 -- the same memory;what the caller holds is not read
 obtain⟨c3,e3⟩:∃ c3:Ctx,c3={ c2 with M:=fun b=>c2.M b\/c.M b }:=⟨_,rfl⟩;have hsub:∀ b,b<c.w.heap.size->c'.M b->c.M b:=fun b hb hm=>by
  by_cases hx:c.M b
  ·exact hx
  ·exact absurd hm (h4.keep b hb hx).1
 have hlow:=q2.low;have q2':HS (Fl.all c.w hs0.glob) c.M c3 R:=by
  subst e3;refine⟨⟨?_,?_,?_,?_,?_⟩,q2.base,q2.dom,fun b hb=>?_,fun b hb=>?_,fun i y hi=>?_,fun i y g hi hl ho=>?_,q2.dis⟩
  ·have:=hlow.os;rw [show (Fl.all c'.closed.w hglob).w=c.w from ew] at this;exact this
  ·have:=hlow.tape;rw [show (Fl.all c'.closed.w hglob).w=c.w from ew] at this;exact this
  ·have:=hlow.output;rw [show (Fl.all c'.closed.w hglob).w=c.w from ew] at this;exact this
  ·have:=hlow.size;rw [show (Fl.all c'.closed.w hglob).w=c.w from ew] at this;exact this
  ·intro b hb;have:=hlow.block b (by show b<c'.closed.w.heap.size;rw [ew];exact hb);rw [show (Fl.all c'.closed.w hglob).w=c.w from ew] at this;exact this
  ·have hb':b<c.w.heap.size:=hb;have:=q2.foreign b (by show b<c'.closed.w.heap.size;rw [ew];exact hb');exact⟨fun hx=>hx.elim (fun hx=>hsub b hb' (this.1 hx)) (fun hx=>hx),fun hx=> .inr hx⟩
  ·have hsz:c.w.heap.size<=c2.w.heap.size:=by
    have:=hlow.size;rw [show (Fl.all c'.closed.w hglob).w=c.w from ew] at this;exact this
   rcases hb with hb | hb
   ·exact q2.lt b hb
   ·exact As (hs0.lt b hb) hsz
  ·obtain⟨t,sz,es,rfl,hfl⟩:=flatR_mem f2 (List.mem_of_getElem? hi);obtain⟨a1,a2,a3,xs,a4,a5,a6⟩:=q2.blk i _ hi;exact⟨a1,a2,a3,xs,a4,Pk hfl a5,a6⟩
  ·have:=q2.own i y g hi hl ho;refine⟨.inl this.1,fun hx=>this.2 ?_⟩;show g<c'.closed.w.heap.size;rw [ew];exact hx
 have q3':Rd r c3 v:=Vg (by rw [e3]) (by rw [e3]) (by rw [e3]) f1 q3;have q5:c3.w=c2.w:=by rw [e3]
 obtain⟨p1,p2⟩:=hs0.beside (c':=c3) q2' q4;have h1:=B6 (appK_iff hkk);rw [Au,<-hs0.dom] at h1;exact⟨v,c.beside c3,_,_,rfl,by show c3.w=_;exact q5,h1,p1,p2,Rd.shift r q3',fun _=>by have:=q2'.low.below.old;rw [q5] at this;exact this⟩
theorem FnO.subA {P:Program} {f:FuncId} {args args':List AV} {K:AV->List AB->Prop} (h:FnO P f args' K) (hs:SubL args args'):FnO P f args K:=
 ⟨h.go,fun c0 us hg h1 h2 h3=>h.calls c0 us hg h1 h2 (hs.rdl h3)⟩
theorem Mq (l:List Tx) (hl:l.length<=1000000):Fn Tryz.prog 144 [DW l] fun r=>r = iv (D_ l):=by
 refine zT Tryz.func144 rfl ?_;conv=>whnf
 refine zR Nat (fun k=>([(0,DW l),(3,iv (G9 l k)),(6,DW l),(7,iv (l.length:Nat)),(8,iv k)], [])) (fun k=>k<=l.length) (fun k=>l.length - k) 0 (Ak _)
  (zP (s:= []) tA) ?_
 intro k hk;conv=>whnf
 refine AO (fun h6=>?_) (fun h6=>?_) <;> (repeat rw [Ac] at h6) <;> conv=>whnf
 ·have hk':k<l.length:=by omega
  have hb:=GP l k;have hs:G9 l (k+1)=G9 l k+IA (l.getD (k:Int).toNat ⟨0,0,0, []⟩).n:=rfl;have hn:=Oe (l.getD (k:Int).toNat ⟨0,0,0, []⟩).n;repeat' (refine zZ ?_;conv=>whnf)
  refine⟨⟨by omega,by omega⟩,?_⟩;conv=>whnf
  by_cases h0:(l.getD (k:Int).toNat ⟨0,0,0, []⟩).n>=0
  ·rw [show decide ((l.getD (k:Int).toNat ⟨0,0,0, []⟩).n>=0)=true from decide_eq_true h0];conv=>whnf
   by_cases h1:(l.getD (k:Int).toNat ⟨0,0,0, []⟩).n<=30
   ·rw [show decide ((l.getD (k:Int).toNat ⟨0,0,0, []⟩).n<=30)=true from decide_eq_true h1];have hu:IA (l.getD (k:Int).toNat ⟨0,0,0, []⟩).n=(l.getD (k:Int).toNat ⟨0,0,0, []⟩).n:=if_pos ⟨h0,h1⟩;conv=>whnf
    exact⟨k+1,hk',by omega,zP (s:= []) ⟨⟨rfl,congrArg (fun n:Int=>AV.v (.int .i64 n)) (by rw [hs,hu,wi (by rw [<-hu];omega)]),rfl,rfl,AP (by omega),tv⟩,tv,rfl,rfl,rfl,rfl,rfl⟩⟩
   ·rw [show decide ((l.getD (k:Int).toNat ⟨0,0,0, []⟩).n<=30)=false from decide_eq_false h1];have hu:IA (l.getD (k:Int).toNat ⟨0,0,0, []⟩).n=0:=if_neg fun h=>h1 h.2
    exact⟨k+1,hk',by omega,zP (s:= []) ⟨⟨rfl,congrArg (fun n:Int=>AV.v (.int .i64 n)) (by rw [hs,hu,Int.add_zero]),rfl,rfl,AP (by omega),tv⟩,tv,rfl,rfl,rfl,rfl,rfl⟩⟩
  ·rw [show decide ((l.getD (k:Int).toNat ⟨0,0,0, []⟩).n>=0)=false from decide_eq_false h0];have hu:IA (l.getD (k:Int).toNat ⟨0,0,0, []⟩).n=0:=if_neg fun h=>h0 h.1
   exact⟨k+1,hk',by omega,zP (s:= []) ⟨⟨rfl,congrArg (fun n:Int=>AV.v (.int .i64 n)) (by rw [hs,hu,Int.add_zero]),rfl,rfl,AP (by omega),tv⟩,tv,rfl,rfl,rfl,rfl,rfl⟩⟩
 ·have ek:k=l.length:=by omega
  subst ek;exact⟨_,ri,rfl⟩
theorem S2 (g:Geo) (a:An) (l:List Tx) (hg:Bm g=true) (ha:Bz g a=true) (hr:CJ g l a.seq a.pos g.sl=true) (hl:l.length<=1000000) (hi:∀ t∈l,t.images.length<=1000000/\∀ x∈t.images,x.bytes.length<=100000) (hla:a.label.size<=1000000) (hh:a.homes.length<=1000000) (hs:a.seq+(l.length:Int)<=4294967295):Fn Tryz.prog 73 [.ag (Bi g), .ag (EN a),DW l] fun r=>r = .tp [iv ((a.pos+D_ l).tmod g.sl),iv (a.seq+l.length),iv 0]:=by
 obtain⟨g1,g2,g3,g4,g5⟩:=Az.1 hg;have hu:=Mq l hl;have hb:=GP l l.length;have hc:=Nn g a l hla hh hl hi;rw [hg,ha,hr] at hc;have hp:(1<=a.seq/\a.seq<=4294967295)/\(0<=a.pos/\a.pos<g.sl):=by
  simp only [Bz,Bb,BT,BD,Ad,decide_eq_true_eq,AK] at ha;omega
 have hw:IntKind.i64.wrap (a.seq+(l.length:Int))=a.seq+l.length:=wi (by omega);have ixA:g.sl≠0:=by omega
 refine zT Tryz.func73 rfl ?_;conv=>whnf
 refine z_ hc ?_;conv=>whnf
 apply zJ tys_ok mixed (.o [0,1,2,5,6,8,9,10,11,12,3,4,7,13,14] .fin) [6,7,16,17,18,19,20,21,22,23,24,25,26,27,28] (by kernel_rfl)
 ·conv=>whnf
  refine z_ hu ?_;conv=>whnf
  try (refine Ah (by first | omega | exact ixA | exact ixB | (simp;done)) ?_;conv=>whnf)
  exact tA
 conv=>whnf
 rw [hw];rw [show decide (a.seq+(l.length:Int) > 4294967295)=false from decide_eq_false (by omega)];conv=>whnf
 exact⟨_,ri,by rw [wi (n:=a.pos+D_ l) (by unfold D_;omega)]⟩
def KE (g:Geo):Int:=1+g.sl+g.z*(2+g.d)
theorem TJ {g:Geo} (hg:Bm g=true):18<=KE g/\KE g<=55/\(3<=g.z*(2+g.d)/\g.z*(2+g.d)<=24):=by
 obtain⟨g1,g2,g3,g4,g5⟩:=Az.1 hg;have h1:g.z*(2+g.d)<=4*6:=Int.mul_le_mul (by omega) (by omega) (by omega) (by omega);have h2:1*3<=g.z*(2+g.d):=Int.mul_le_mul (by omega) (by omega) (by omega) (by omega);unfold KE;omega
def YV (n:Int) (l:List Int) (i:Nat):Bool:=decide (0<=l.getD i 0)&&(decide (l.getD i 0<n)&&(decide (i=0) || decide (l.getD (i - 1) 0<l.getD i 0)))
def Yh (n:Int) (l:List Int):Bool:=(List.range l.length).all (YV n l)
def Ly (g:Geo) (s:Stt):Bool:=Yh (g.z*g.d) s.lost&&(decide (0<=s.found)&&(decide (0<=s.fixed)&&decide (0<=s.moved)))
def YJ (g:Geo) (d:Dk) (s:Stt):Bool:=Bm g&&((Wx d&&decide ((d.cells.length:Int)=A7 g))&&(((Bm g&&Bz g s.a)&&CJ g s.txns s.a.seq s.a.pos g.sl)&&(decide (0<=s.cursor)&&(decide (s.cursor<KE g)&&Ly g s))))
structure StBig (s:Stt):Prop where
 l:s.a.label.size<=1000000
 h:s.a.homes.length<=1000000
 t:s.txns.length<=1000000/\∀ t∈s.txns,t.images.length<=1000000/\∀ x∈t.images,x.bytes.length<=100000
 o:s.lost.length<=1000000



def sumT:List Tx->Int
 | []=>0
 | t::r=>t.n+sumT r
theorem sumT_app:∀ l m:List Tx,sumT (l ++ m)=sumT l+sumT m
 | [],m=>by simp [sumT]
 | t::r,m=>by
  show t.n+sumT (r ++ m)=_;rw [sumT_app r m,sumT];omega
theorem Mh {l:List Tx} (h:∀ t∈l,0<=t.n/\t.n<=30):∀ k:Nat,k<=l.length->G9 l k=sumT (l.take k)
 | 0,_=>by simp [G9,sumT]
 | k+1,hk=>by
  have e:l.take (k+1)=l.take k ++ [l.getD k tz]:=by
   rw [Bc,Ae (by omega),Ab,Ae (by omega)];try rfl
  have hm:=h _ (AC (d:=tz) (show k<l.length by omega));rw [G9,Mh h k (by omega),e,sumT_app,IA,if_pos hm];simp [sumT]
theorem Sg {l:List Tx} (h:∀ t∈l,0<=t.n/\t.n<=30):D_ l=sumT l:=by
 have:=Mh h l.length (Ag _);rwa [A3] at this
theorem Sm {p n s q:Int} (hs:0<s) (hp:0<=p) (hn:0<=n) (hq:0<=q):((p+n).tmod s+q).tmod s=(p+(n+q)).tmod s:=by
 have h1:0<=(p+n).tmod s:=B9 _ (by omega);rw [CZ (a:=p+n) (by omega)] at h1 |-
 rw [CZ (by omega),CZ (by omega),Int.emod_add_emod,Int.add_assoc]
theorem VW {l:List Tx} (h:∀ t∈l,0<=t.n/\t.n<=30):0<=sumT l:=by
 induction l with
 | nil=>simp [sumT]
 | cons t r ih=>
  have:=h t (by simp);have:=ih fun x hx=>h x (A_ _ hx)
  rw [sumT];omega
theorem FP {g:Geo} (hg:Bm g=true):∀ {l:List Tx} {seq pos left:Int},left<=g.sl->CJ g l seq pos left=true->(∀ t∈l,0<=t.n/\t.n<=30)/\sumT l<=max left 0
 | [],_,_,left,_,_=>⟨by simp,by simp [sumT];omega⟩
 | t::r,seq,pos,left,hl,h=>by
  obtain⟨g1,g2,g3,g4,g5⟩:=Az.1 hg;simp only [CJ,Ad,decide_eq_true_eq] at h;obtain⟨⟨h1,h2,h3,h4,h5,h6,h7⟩,h8⟩:=h;have ih:=FP hg (by omega) h8;refine⟨fun x hx=>?_,?_⟩
  ·rcases AT.1 hx with rfl | hx
   ·omega
   ·exact ih.1 x hx
  ·rw [sumT];have:=ih.2;omega
theorem J_ {g:Geo} (hg:Bm g=true) {x:Tx}:∀ {l:List Tx} {seq pos left:Int},0<=pos->pos<g.sl->left<=g.sl->CJ g l seq pos left=true->x.seq=seq+l.length->x.seq<=4294967295->x.pos=(pos+sumT l).tmod g.sl->2<=x.n->x.n<=left - sumT l->x.n=x.images.length+1->x.images.all (BV g)=true->CJ g (l ++ [x]) seq pos left=true
 | [],seq,pos,left,h0,h1,_,_,e1,e2,e3,e4,e5,e6,e7=>by
  have e3':x.pos=pos:=by
   rw [e3,show sumT []=0 from rfl,Int.add_zero,CZ h0,Int.emod_eq_of_lt h0 h1]
  simp only [AN] at e1;have e1':x.seq=seq:=by omega
  have e5':x.n<=left:=by have:sumT []=0:=rfl;omega
  show (decide (x.seq=seq)&&(decide (x.seq<=4294967295)&&(decide (x.pos=pos)&&(decide (2<=x.n)&&(decide (x.n<=left)&&(decide (x.n=x.images.length+1)&&x.images.all (BV g)))))))&&true=true;rw [decide_eq_true e1',decide_eq_true e2,decide_eq_true e3',decide_eq_true e4,decide_eq_true e5',decide_eq_true e6,e7];try rfl
 | t::r,seq,pos,left,h0,h1,hl,h,e1,e2,e3,e4,e5,e6,e7=>by
  obtain⟨g1,g2,g3,g4,g5⟩:=Az.1 hg;have hh:=h;simp only [CJ,Ad,decide_eq_true_eq] at hh;obtain⟨⟨q1,q2,q3,q4,q5,q6,q7⟩,q8⟩:=hh;have hin:=(FP hg (by omega) q8).1;have hnn:=VW hin;have hp0:0<=(pos+t.n).tmod g.sl:=B9 _ (by omega);have hp1:(pos+t.n).tmod g.sl<g.sl:=Bu _ (by omega);rw [sumT] at e3 e5;have ih:=J_ hg (x:=x) hp0 hp1 (by omega) q8 (by rw [e1];simp only [Ao];omega) e2 (by rw [e3,Sm (by omega) h0 (by omega) hnn]) e4 (by omega) e6 e7;show (_&&CJ g (r ++ [x]) (seq+1) ((pos+t.n).tmod g.sl) (left - t.n))=true;rw [ih,BD];simp only [CJ,Ad] at h;simpa using h.1
def E6 (ats:List Int) (bs:List (List UInt8)) (i:Nat):Nat->Option (List UInt8)
 | 0=>none
 | k+1=>if ats.getD k 0=(i:Int) then some (bs.getD k []) else E6 ats bs i k
def Gv (g:Geo) (t:List Ent) (had:List (List UInt8)) (ats:List Int) (bs:List (List UInt8)) (i:Nat):List UInt8:=match E6 ats bs i ats.length with
 | some b=>b
 | none=>FH g t had i
def N4 (g:Geo) (t:List Ent) (had:List (List UInt8)) (ats:List Int) (bs:List (List UInt8)) (stamp:Int) (i:Nat):Ent:=
 let e:Ent:=match E6 ats bs i ats.length with
  | some b=>⟨stamp,(DC b:Nat),false⟩
  | none=>t.getD i ez
 if (Gv g t had ats bs i).length=0 then { e with lost:=true } else e
def EQ (g:Geo) (t:List Ent) (had:List (List UInt8)) (ats:List Int) (bs:List (List UInt8)):Nat->List UInt8
 | 0=>zero8
 | k+1=>if (Gv g t had ats bs k).length=0 then EQ g t had ats bs k else GH (EQ g t had ats bs k) (Gv g t had ats bs k)
def BE (g:Geo) (t:List Ent) (had:List (List UInt8)) (ats:List Int) (bs:List (List UInt8)) (stamp:Int):List Ent:=(List.range g.d.toNat).map (N4 g t had ats bs stamp) ++ [⟨stamp,(DC (EQ g t had ats bs g.d.toNat):Nat),false⟩]
def Cx (z:Int) (t:List Ent) (par:List UInt8) (ats:List Int) (bs:List (List UInt8)):List Img:=((List.range ats.length).map fun i=>⟨z,ats.getD i 0,bs.getD i []⟩) ++ [⟨z, -1,par⟩,⟨z,255,De t⟩]
theorem IG (b:List UInt8):DC b<=4294967295:=by unfold DC;omega
theorem FM (a b:List UInt8):(GH a b).length=min a.length b.length:=by simp [GH]
theorem Kc {t:List Ent} {had:List (List UInt8)} {at_:Nat} (hh:∀ b∈had,b.length=0\/b.length=8):∀ (k:Nat) (b:List UInt8),H6 t had at_ k=some b->b.length=8
 | 0,b,h=>by
  obtain rfl:=Option.some.inj h;rfl
 | k+1,b,h=>by
  rw [H6] at h;cases hk:H6 t had at_ k with
  | none=>rw [hk] at h;cases h
  | some c=>
   rw [hk] at h;have ih:=Kc hh k c hk;simp only at h;split at h
   ·grind
   ·split at h
    ·cases h
    ·rename_i h0;obtain rfl:=Option.some.inj h;have hm:(had.getD k []).length=8:=by
      grind
     rw [FM,ih,hm];try rfl
theorem Q0 {g:Geo} {t:List Ent} {had:List (List UInt8)} (hh:∀ b∈had,b.length=0\/b.length=8) (i:Nat):(FH g t had i).length=0\/(FH g t had i).length=8:=by
 unfold FH;split
 ·grind
 ·split
  ·grind
  ·cases ho:H6 t had i (g.d.toNat+1) with
   | none=>exact .inl rfl
   | some b=>
    simp only;split
    ·exact .inr (Kc hh _ _ ho)
    ·grind
section
variable {g:Geo} {t:List Ent} {had:List (List UInt8)} {ats:List Int} {bs:List (List UInt8)}
theorem J2 (hb:∀ b∈bs,b.length=8) (hl:ats.length<=bs.length) {i:Nat}:∀ (k:Nat) (b:List UInt8),k<=ats.length->E6 ats bs i k=some b->b.length=8
 | k+1,b,hk,h=>by
  rw [E6] at h;split at h
  ·grind
  ·exact J2 hb hl k b (by omega) h
theorem Uw (hh:∀ b∈had,b.length=0\/b.length=8) (hb:∀ b∈bs,b.length=8) (hl:ats.length<=bs.length) (i:Nat):(Gv g t had ats bs i).length=0\/(Gv g t had ats bs i).length=8:=by
 unfold Gv;cases hp:E6 ats bs i ats.length with
 | none=>exact Q0 hh i
 | some b=>exact .inr (J2 hb hl _ b (Ag _) hp)
theorem He (hh:∀ b∈had,b.length=0\/b.length=8) (hb:∀ b∈bs,b.length=8) (hl:ats.length<=bs.length):∀ k:Nat,(EQ g t had ats bs k).length=8
 | 0=>rfl
 | k+1=>by
  have ih:=He hh hb hl k;rw [EQ];split
  ·exact ih
  ·rename_i h0;rcases Uw (g:=g) (t:=t) hh hb hl k with q | q
   ·exact absurd q h0
   ·rw [FM,ih,q];try rfl
theorem GN (hg:Bm g=true) (ht:H7 g t=true) {stamp:Int} (hs:0<=stamp/\stamp<=4294967295):H7 g (BE g t had ats bs stamp)=true:=by
 obtain⟨g1,g2,g3,g4,g5⟩:=Az.1 hg;have hsum:∀ b:List UInt8,Ig ((DC b:Nat):Int)=true:=fun b=>AK.2 (by have:=IG b;omega)
 have hst:Ig stamp=true:=AK.2 hs;have hl:(BE g t had ats bs stamp).length=g.d.toNat+1:=by simp [BE]
 rw [H7,hg] at ht;simp only [B5,Ad,decide_eq_true_eq,Ce] at ht;obtain⟨⟨t1,t2⟩,t3⟩:=ht;rw [H7,hg,decide_eq_true (by rw [hl];omega)];have hall:(BE g t had ats bs stamp).all Ee=true:=by
  rw [Av];intro x hx;simp only [BE,Ay,AL,AJ,A9] at hx;rcases hx with ⟨i,hi,rfl⟩ | rfl
  ·have he:∀ e:Ent,Ee e=true->Ee { e with lost:=true }=true:=fun e h=>h
   have h0:Ee (match E6 ats bs i ats.length with | some b=>(⟨stamp,(DC b:Nat),false⟩:Ent) | none=>t.getD i ez)=true:=by
    cases E6 ats bs i ats.length with
    | some b=>simp only [Ee,hst,hsum,Bool.and_self]
    | none=>exact Av.1 t2 _ (AC (d:=ez) (by omega))
   unfold N4
   grind
  ·simp only [Ee,hst,hsum,Bool.and_self]
 rw [hall];have hla:Is (BE g t had ats bs stamp) g.d.toNat=false:=by
  unfold Is BE
  grind
 grind
end
theorem QI {x:Ent} (h:Ee x=true) (r:List UInt8):Kk (Jg x ++ r)=x:=by
 obtain⟨a,s,l⟩:=x;simp only [Ee,Ig,Ad,AK] at h;have hn:nums [4,4,1] (rowB [a,s,CT l] [4,4,1] ++ r)=[a,s,CT l]:=nums_rowB [a,s,CT l] [4,4,1] r rfl (fun k h1 _=>by
  match k,h1 with
  | 0,_=>exact⟨.inr (.inr rfl),h.1.1,by show a<4294967296;omega⟩
  | 1,_=>exact⟨.inr (.inr rfl),h.2.1,by show s<4294967296;omega⟩
  | 2,_=>exact⟨.inl rfl,by show 0<=CT l;unfold CT;split <;> decide,by show CT l<256;unfold CT;split <;> decide⟩)
 unfold Kk Jg;rw [hn];cases l <;> rfl
theorem entsOf_tblB:∀ (t:List Ent),(∀ e∈t,Ee e=true)->entsOf t.length (De t)=t
 | [],_=>rfl
 | e::t,h=>by
  have e1:De (e::t)=Jg e ++ De t:=by simp [De]
  have e2:(Jg e ++ De t).drop 9=De t:=by
   rw [List.drop_append_of_le_length (by rw [Jf];exact Ag _),A5 (by rw [Jf];exact Ag _)];try rfl
  show Kk (De (e::t))::entsOf t.length ((De (e::t)).drop 9)=e::t;rw [e1,e2,QI (h e (by simp)),entsOf_tblB t fun x hx=>h x (A_ _ hx)]
theorem Im {g:Geo} {t:List Ent} (ht:H7 g t=true):CR g (De t)=some t:=by
 have hh:=ht;simp only [H7,Ad,decide_eq_true_eq,Av] at hh;obtain⟨⟨⟨_,t1⟩,t2⟩,_⟩:=hh;have e:(g.d+1).toNat=t.length:=by omega
 unfold CR;rw [e,entsOf_tblB t t2,if_pos ⟨ht,rfl⟩]
def OneTab (l:List Img):Prop:=l.Pairwise fun x y=>x.what=255->y.what=255->x.zone≠y.zone
theorem Hk (z:Int) (t:List Ent) (par:List UInt8) (ats:List Int) (bs:List (List UInt8)):(Cx z t par ats bs).length=ats.length+2:=by simp [Cx]
theorem Q6 {g:Geo} (hg:Bm g=true) {z:Int} (hz:0<=z/\z<g.z) {t:List Ent} (ht:H7 g t=true) {par:List UInt8} (hp:par.length=8) {ats:List Int} (ha:∀ a∈ats,0<=a/\a<g.d) {bs:List (List UInt8)} (hb:∀ b∈bs,b.length=8) (hl:ats.length<=bs.length):∀ x∈Cx z t par ats bs,BV g x=true/\x.zone=z:=by
 obtain⟨g1,g2,g3,g4,g5⟩:=Az.1 hg;have hz':Dq z 0 (g.z - 1)=true:=AK.2 (by omega);intro x hx;simp only [Cx,Ay,AL,AJ,AT,Dy,or_false] at hx;rcases hx with ⟨i,hi,rfl⟩ | rfl | rfl
 ·have h1:=ha _ (AC (d:=0) hi);have h2:=hb _ (AC (d:= []) (show i<bs.length by omega));refine⟨?_,rfl⟩;simp only [BV,hg,hz',B5];rw [if_neg (by omega),AK.2 (show -1<=ats.getD i 0/\ats.getD i 0<=g.d - 1 by omega),decide_eq_true h2];try rfl
 ·refine⟨?_,rfl⟩;simp only [BV,hg,hz',B5];rw [if_neg (by decide),AK.2 (show (-1:Int)<= -1/\(-1:Int)<=g.d - 1 by omega),decide_eq_true hp];try rfl
 ·refine⟨?_,rfl⟩;simp only [BV,hg,hz',B5];rw [if_pos trivial,Im ht];try rfl
theorem OW {g:Geo} (hg:Bm g=true) {l:List Img} {z:Int} (hl:OneTab l) (hz:∀ x∈l,x.zone<z) {t:List Ent} {par:List UInt8} {ats:List Int} (ha:∀ a∈ats,0<=a/\a<g.d) {bs:List (List UInt8)}:OneTab (l ++ Cx z t par ats bs):=by
 obtain⟨g1,g2,g3,g4,g5⟩:=Az.1 hg;have hw:∀ x∈(List.range ats.length).map (fun i=>(⟨z,ats.getD i 0,bs.getD i []⟩:Img)),x.what≠255:=by
  intro x hx;obtain⟨i,hi,rfl⟩:=AL.1 hx;have:=ha _ (AC (d:=0) (AJ.1 hi))
  grind
 refine List.pairwise_append.2 ⟨hl,List.pairwise_append.2 ⟨List.Pairwise.imp_of_mem (R:=fun _ _=>True) (fun hx _ _ h=>absurd h (hw _ hx)) (List.pairwise_of_forall (fun _ _=>trivial)),?_,fun x hx y _ h=>absurd h (hw _ hx)⟩,fun x hx y hy _ _=>?_⟩
 ·grind
 ·have h1:=hz x hx;have h2:y.zone=z:=by
   simp only [Cx,Ay,AL,AJ,AT,Dy,or_false] at hy
   grind
  omega
@[reducible] def Zr (g:Geo) (x:AV) (s:Stt) (e:Int):List AV:= [iv g.z,iv g.d,iv g.sp,iv g.sl,iv g.an,x,iv s.a.gen,iv s.a.epoch,iv s.a.pos,iv s.a.seq,iv s.a.last, .v (.string s.a.label),GK s.a.homes,DW s.txns, .v (.bool s.only),iv s.cursor,iv s.found,iv s.fixed,iv s.moved,iA s.lost,iv e]
@[reducible] def ac (g:Geo) (s:Stt) (e:Int) (d:Dk):List AB:= [.box 132 (Zr g (.bp 1 0) s e), .box 133 (K7 (.ow 2 d.cells.length) (.ow 3 d.cache.length) d.reqs d.left), .row 68 3 (d.cells.map Cg), .row 152 2 (d.cache.map GI)]
@[reducible] def ae (g:Geo) (s:Stt) (e:Int) (d:Dk):List AB:= [.box 132 (Zr g (.bp 1 0) s e), .box 133 (K7 (.ow 2 d.cells.length) (.ow 4 d.cache.length) d.reqs d.left), .row 68 3 (d.cells.map Cg), .dead, .row 152 2 (d.cache.map GI)]
@[reducible] def af (g:Geo) (s:Stt) (e:Int) (d:Dk) (l:List AB):List AB:= .box 132 (Zr g (.bp 1 0) s e):: .box 133 (K7 (.ow 2 d.cells.length) (.ow 3 d.cache.length) d.reqs d.left):: .row 68 3 (d.cells.map Cg):: .row 152 2 (d.cache.map GI)::l

theorem ACalls.lendBox {P:Program} {q:Bool} {f:FuncId} {x:AV} {H:List AB} {K:AV->List AB->Prop} (j k:Nat) {t t':TypeId} {sz':Nat} {cs cs2:List AV} {es':List (List AV)} (hj:H[j]? = some (.box t cs)) (hk:H[k]? = some (.row t' sz' es'))
  (he:cs.map (AV.slIn k es'.length (.sl sz' es'.length fun i=>es'.getD i []))=cs2) (hc:ACalls P q f [x, .ag cs2] ((H.set k .dead).set j (.box t cs2)) K):ACalls P q f [x, .ag cs] H K:=by
 refine⟨hc.go,fun w0 M0 c us hs hr=>?_⟩;subst he;have hjk:j≠k:=by rintro rfl;rw [hj] at hk;cases hk
 obtain⟨c1,e1,s1,x1,r1⟩:=hs.freeze hk;have hj1:(H.set k .dead)[j]? = some (.box t cs):=by rw [A4 (Ne.symm hjk)];exact hj
 have h8:∀ (l:List AV) (us:List Value),RdL l c us->RdL (l.map (AV.slIn k es'.length (.sl sz' es'.length fun i=>es'.getD i []))) c1 us:=by
  intro l;induction l with
  | nil=>intro us h;simp only [RdL] at h;subst h;simp [RdL]
  | cons x l ih=>
   intro us h;simp only [RdL] at h;obtain⟨u,vs,rfl,a1,a2⟩:=h;simp only [A6,RdL];refine⟨u,vs,rfl,?_,ih vs a2⟩;unfold AV.slIn;split
   ·rename_i i n;split
    ·rename_i hik;subst hik;split
     ·rename_i hn;subst hn;exact r1 u a1
     ·simp [Rd]
    ·exact Rd.ext _ x1 a1
   ·exact Rd.ext _ x1 a1
 have s2:HS w0 M0 c1 ((H.set k .dead).set j (.box t (cs.map (AV.slIn k es'.length (.sl sz' es'.length fun i=>es'.getD i []))))):=by
  refine s1.recell hj1 rfl ?_;rintro⟨g,xs,h1,h2,_,h4⟩;obtain⟨g0,ys,q1,q2,q3,_⟩:=hs.blk j _ hj;have hg:=x1.box j _ (hs.klt hj) q1;rw [h1] at hg;injection hg with hg
  injection hg with hg
  injection hg with hg
  subst hg;rw [e1,q2] at h2;injection h2 with h2
  have hxy:ys.toArray=xs.toArray:=by injection h2
  have hxy:ys=xs:=by simpa using hxy
  subst hxy;exact⟨g,ys,h1,by rw [e1];exact q2,h8 _ _ q3,h4⟩
 have hr2:RdL [x, .ag (cs.map (AV.slIn k es'.length (.sl sz' es'.length fun i=>es'.getD i [])))] c1 us:=by
  simp only [RdL] at hr;obtain⟨u1,_,rfl,p1,u2,_,rfl,p2,rfl⟩:=hr;simp only [Rd] at p2;obtain⟨zs,rfl,p3⟩:=p2;simp only [RdL];exact⟨u1,_,rfl,Rd.ext _ x1 p1,_,_,rfl,by simp only [Rd];exact⟨zs,rfl,h8 _ _ p3⟩,rfl⟩
 have:=hc.calls w0 M0 c1 us s2 hr2;rw [e1] at this;refine this.mono ?_;rintro e w' ⟨v,c',r,H2,rfl,rfl,q1,q2,q3,q4,q5⟩;exact⟨v,c',r,H2,rfl,rfl,q1,q2,x1.trans q3,q4,q5⟩


section
variable {g:Geo} {a:An} {x y:List Gt} {pos seq left:Int}
end



theorem DkOk.big {d:Dk} (h:DkOk d):d.cells.length<=1000000/\d.cache.length<=1000000/\(∀ c∈d.cells,c.bytes.length<=1000000000/\c.old.length<=1000000000)/\(∀ w∈d.cache,w.bytes.length<=1000000000):=
 ⟨by have:=h.n;omega,by have:=h.m;omega,fun c hc=>by have:=(h.c c hc).2;omega,fun w hw=>by have:=(h.w w hw).2;omega⟩
@[reducible] def al (a:An) (x:AV):List AV:= [iv a.gen,iv a.epoch,iv a.pos,iv a.seq,iv a.last, .v (.string a.label),x]
@[reducible] def Z_ (s:Stt) (x y:AV):List AV:= [iv s.a.gen,iv s.a.epoch,iv s.a.pos,iv s.a.seq,iv s.a.last, .v (.string s.a.label),x,y, .v (.bool s.only),iv s.cursor,iv s.found,iv s.fixed,iv s.moved,iA s.lost]
@[reducible] def Z1 (g:Geo) (x hm tx:AV) (s:Stt) (e:Int):List AV:= [iv g.z,iv g.d,iv g.sp,iv g.sl,iv g.an,x,iv s.a.gen,iv s.a.epoch,iv s.a.pos,iv s.a.seq,iv s.a.last, .v (.string s.a.label),hm,tx, .v (.bool s.only),iv s.cursor,iv s.found,iv s.fixed,iv s.moved,iA s.lost,iv e]
@[reducible] def ab (g:Geo) (s:Stt) (e:Int) (d:Dk):List AB:= [.box 132 (Z1 g (.bp 1 0) (.ow 4 s.a.homes.length) (.ow 5 s.txns.length) s e), .box 133 (K7 (.ow 2 d.cells.length) (.ow 3 d.cache.length) d.reqs d.left), .row 68 3 (d.cells.map Cg), .row 152 2 (d.cache.map GI), .row 108 3 (s.a.homes.map LU), .row 170 4 (s.txns.map Ia)]
@[reducible] def rwP (g:Geo) (s:Stt) (e:Int) (d:Dk):List AB:= [.box 132 (Z1 g (.bp 1 0) (.ow 4 s.a.homes.length) (.ow 5 s.txns.length) s e), .box 133 (K7 (.ow 2 d.cells.length) (.ow 6 d.cache.length) d.reqs d.left), .row 68 3 (d.cells.map Cg), .dead, .row 108 3 (s.a.homes.map LU), .row 170 4 (s.txns.map Ia), .row 152 2 (d.cache.map GI)]
theorem QG (g:Geo) (s:ByteArray) {n:Nat} (hn:n=g.z.toNat):SubL [iv 1,iv 0,iv 0,iv 1,iv 0, .v (.string s), .sl 3 n fun i=>(List.replicate n (Lt g)).getD i []] (EN (BK g s)):=by
 refine⟨fun _ _ h=>h,fun _ _ h=>h,fun _ _ h=>h,fun _ _ h=>h,fun _ _ h=>h,fun _ _ h=>h,fun c u h=>Rd.sub (by simp [BK,hn]) (fun i hi=>?_) h,tv⟩;rw [BK,Ab,Ab,C7 hi,C7 (by omega)];exact S_ g
theorem T6 (g:Geo) (s:ByteArray) (hs:s.size<=1000000):Fn Tryz.prog 97 [.ag (Bi g), .v (.string s)] fun r=>r = .tp [.ag (EN (if Bm g then if Et s.data.toList=0 then BK g s else an0 else an0)),iv (if Bm g then Et s.data.toList else 1)]:=by
 have hG:Fn Tryz.prog 118 [.ag (Bi g)] fun r=>r = .v (Em (Bm g)):=Cr g.z g.d g.sp g.sl g.an
 cases hg:Bm g with
 | false=>
  rw [hg] at hG;refine zT Tryz.func97 rfl ?_;conv=>whnf
  refine z_ hG ?_;exact⟨_,Hs 1,rfl⟩
 | true=>
  rw [hg] at hG;obtain⟨h1,h2,h3,h4,h5⟩:=Az.1 hg;have hL:=Gz s hs;by_cases hl:Et s.data.toList=0
  ·rw [hl] at hL;rw [if_pos rfl,if_pos hl,if_pos rfl,hl];have w1:IntKind.i64.wrap (g.d+1)=g.d+1:=wi (by omega);refine zT Tryz.func97 rfl ?_;conv=>whnf
   refine z_ hG ?_;conv=>whnf
   refine z_ hL ?_;conv=>whnf
   refine zQ Nat (fun k=>([(2, .bp 0 0),(4, .bp 1 0),(7, .bp 2 0),(23,iv g.z),(24,iv k)], [.box 24 (Bi g), .box 28 [iv 0,iv 0,iv 0,iv 0,iv 0, .v (.string ⟨#[]⟩), .v (.slice none 0 0)], .box 28 [iv 1,iv 0,iv 0,iv 1,iv 0, .v (.string s), .ow 3 k], .row 108 3 (List.replicate k (Lt g))])) (fun k=>k<=g.z.toNat) (fun k=>g.z.toNat - k) 0 (Ak _) ⟨[(1002006,108,3)],tA,tA,tA,rfl,rfl,rfl⟩ ?_;intro k hk;conv=>whnf
   refine AO (fun t1=>?_) (fun t1=>?_) <;> (repeat rw [Ac] at t1) <;> conv=>whnf
   ·refine zQ Nat (fun j=>([(2, .bp 0 0),(4, .bp 1 0),(7, .bp 2 0),(8, .bp 4 0),(23,iv g.z),(24,iv k),(32,iv (g.d+1)),(33,iv j)], [.box 24 (Bi g), .box 28 [iv 0,iv 0,iv 0,iv 0,iv 0, .v (.string ⟨#[]⟩), .v (.slice none 0 0)], .box 28 [iv 1,iv 0,iv 0,iv 1,iv 0, .v (.string s), .ow 3 k], .row 108 3 (List.replicate k (Lt g)), .box 108 [.ow 5 j,iv (g.d+1),iv 0], .row 3 1 (Gq j)])) (fun j=>j<=(g.d+1).toNat) (fun j=>(g.d+1).toNat - j) 0 (Ak _) ⟨[(1004000,3,1)],tA,⟨rfl,rfl,rfl,rfl,rfl,rfl,congrArg (fun x=>AV.v (Value.int IntKind.i64 x)) w1,rfl,tv⟩,⟨rfl,rfl,rfl,rfl,by rw [w1];try rfl,rfl,tv⟩,rfl,rfl,rfl⟩ ?_;intro j hj;conv=>whnf
    refine AO (fun t2=>?_) (fun t2=>?_) <;> (repeat rw [Ac] at t2) <;> conv=>whnf
    ·refine⟨rfl,?_⟩;refine⟨⟨by simp [Gq],by omega⟩,?_⟩;exact⟨j+1,by omega,by omega,(Wk.plain (by repeat' first | exact trivial | exact rfl | refine Ah ?_ ?_ | exact AP (by omega) | exact congrArg (AB.row _ _) (Kb j)) (by repeat' first | exact trivial | exact rfl | refine Ah ?_ ?_ | exact AP (by omega) | exact congrArg (AB.row _ _) (Kb j)) rfl rfl rfl)⟩
    ·have ej:j=(g.d+1).toNat:=by omega
     refine⟨(by simp [Gq]),?_⟩;refine⟨rfl,?_⟩;refine⟨⟨by simp,by omega⟩,?_⟩;conv=>whnf
     have er:AB.row 108 3 (List.replicate (k+1) (Lt g)) = .row 108 3 (List.replicate k (Lt g) ++ [[AV.sl 1 j fun i=>(Gq j).getD i [],iv (g.d+1),iv 0]]):=by
      rw [List.replicate_succ',Lt,<-ej]
     exact⟨k+1,by omega,by omega,(Wk.plain (by repeat' first | exact trivial | exact rfl | refine Ah ?_ ?_ | exact AP (by omega) | exact er) (by repeat' first | exact trivial | exact rfl | refine Ah ?_ ?_ | exact AP (by omega) | exact er) rfl rfl rfl)⟩
   ·refine⟨by simp,?_⟩;exact⟨.tp [.ag (EN (BK g s)),iv 0],Ca ⟨B7 (QG g s (by omega)),ri,tv⟩,rfl⟩
  ·obtain⟨e0,he0⟩:∃ e0,Et s.data.toList=e0:=⟨_,rfl⟩;rw [he0] at hL hl;rw [if_pos rfl,if_neg (by rw [he0];exact hl),if_pos rfl,he0];have hb:(e0 != 0)=true:=bne_iff_ne.2 hl;refine zT Tryz.func97 rfl ?_;conv=>whnf
   refine z_ hG ?_;conv=>whnf
   refine z_ hL ?_;conv=>whnf
   rw [hb];exact⟨_,Hs e0,rfl⟩
theorem Ud (n:Nat):List.replicate n (Dm ent0)=(List.replicate n ent0).map Dm:=by simp
theorem IZ {α:Type} {n i:Nat} {a d:α} (h:i<n):(List.replicate n a).getD i d=a:=by rw [Ab,C7 h];try rfl
theorem Mc {i:Nat} (h:i<8):zero8.getD i 0=0:=by
 have:i=0\/i=1\/i=2\/i=3\/i=4\/i=5\/i=6\/i=7:=by omega
 rcases this with rfl | rfl | rfl | rfl | rfl | rfl | rfl | rfl <;> rfl
theorem Sn (g:Geo) (hg:Bm g=true):Fn Tryz.prog 104 [.ag (Bi g)] fun r=>r = .tp [.ag [BX (E2 g)],iv 0]:=by
 have hG:Fn Tryz.prog 118 [.ag (Bi g)] fun r=>r = .v (Em (Bm g)):=Cr g.z g.d g.sp g.sl g.an
 rw [hg] at hG;obtain⟨h1,h2,h3,h4,h5⟩:=Az.1 hg;have w1:IntKind.i64.wrap (g.d+1)=((g.d+1).toNat:Int):=by rw [wi (by omega)];omega
 have hS:=IF zero8;refine zT Tryz.func104 rfl ?_;conv=>whnf
 refine z_ hG ?_;refine⟨⟨rfl,by decide,by decide⟩,?_⟩;conv=>whnf
 refine zS hS.go ?_;refine⟨rfl,?_⟩;conv=>whnf
 refine zV [bA zero8] ⟨fun c v h=>z8 rfl (fun i hi=>?_) h,tv⟩ ?_
 ·have hi':i<8:=hi;rw [IZ (by exact hi'),Mc hi'];try rfl
 refine z_ hS ?_;conv=>whnf
 rw [w1];have hr:=Ue (g.d+1).toNat (by omega) 0 (DC zero8:Nat) false (fun i=> [Dm ent0].getD i []) rfl;refine zS hr.go ?_;refine⟨rfl,?_⟩;conv=>whnf
 refine zX hr rfl ?_;rintro _ _ ⟨rfl,rfl⟩;refine⟨by simp,?_⟩;exact⟨.tp [.ag [BX (E2 g)],iv 0],Ca ⟨B7 ⟨C2 (f:=Dm) (E2 g) (by simp [E2]) (Ud _),tv⟩,ri,tv⟩,rfl⟩
def Kt (cs:List Cel) (w:Wr):List Cel:=cs.set w.addr.toNat { cs.getD w.addr.toNat cz with bytes:=w.bytes }
def DR (cs:List Cel) (l:List Wr):List Cel:=l.foldl Kt cs
theorem Pg (cs:List Cel) (w:Wr):(Kt cs w).length=cs.length:=by simp [Kt]
theorem E0 (l:List Wr):∀ cs:List Cel,(DR cs l).length=cs.length:=by
 induction l with
 | nil=>intro cs;rfl
 | cons w l ih=>intro cs;show (DR (Kt cs w) l).length=_;rw [ih,Pg]
theorem HR (cs:List Cel) {l:List Wr} {k:Nat} (h:k<l.length):DR cs (l.take (k+1))=Kt (DR cs (l.take k)) (l.getD k ⟨0, []⟩):=by
 unfold DR;rw [Bc,B_,Ae h];simp [Ab,Ae h]
theorem I_ (cs:List Cel) (w:Wr):(Kt cs w).map Cg=(cs.map Cg).set w.addr.toNat (Cg { cs.getD w.addr.toNat cz with bytes:=w.bytes }):=by rw [Kt,List.map_set]
def I1 (g:Geo):List Cel:=List.replicate (A7 g).toNat cz
def Gx (g:Geo) (c:Int):List Wr:=(List.range g.sl.toNat).map fun i=>⟨Bk g c (i:Nat),BN g zeroC c (i:Nat)⟩
def HZ (g:Geo) (z:Int):List Wr:=(List.range 2).map fun k=>⟨Ba g z (k:Nat),CC (Ba g z (k:Nat)) 0 (De (E2 g))⟩
def GC (g:Geo) (z:Int):List Wr:=(List.range (CF g).toNat).map fun i=>⟨Cu g z (i:Nat),CC (Cu g z (i:Nat)) 0 zero8⟩
def Vd (g:Geo) (s:ByteArray):List Cel:=DR (I1 g) (AR g (BK g s))
def NH (g:Geo) (s:ByteArray):Nat->List Cel
 | 0=>Vd g s
 | c+1=>DR (NH g s c) (Gx g (c:Nat))
def GL (g:Geo) (s:ByteArray):Nat->List Cel
 | 0=>NH g s 2
 | z+1=>DR (DR (GL g s z) (HZ g (z:Nat))) (GC g (z:Nat))
def DS (g:Geo) (s:ByteArray):Dk:=⟨GL g s g.z.toNat, [],0, -1⟩
theorem L5 (g:Geo):(I1 g).length=(A7 g).toNat:=by simp [I1]
theorem Vc (g:Geo) (s:ByteArray):(Vd g s).length=(A7 g).toNat:=by rw [Vd,E0,L5]
theorem L4 (g:Geo) (s:ByteArray):∀ c,(NH g s c).length=(A7 g).toNat
 | 0=>Vc g s
 | c+1=>by rw [NH,E0,L4 g s c]
theorem F_ (g:Geo) (s:ByteArray):∀ z,(GL g s z).length=(A7 g).toNat
 | 0=>L4 g s 2
 | z+1=>by rw [GL,E0,E0,F_ g s z]
theorem J0 {α:Type} {f:Nat->α} {n k:Nat} {d:α} (h:k<n):((List.range n).map f).getD k d=f k:=by
 rw [AQ (d:=0) (by simpa using h),Ab,BG h];try rfl
theorem Eo {g:Geo} (hg:Bm g=true):EW g zeroC=true:=by
 simp [EW,hg,ET,zeroC,Ih]
theorem Ja (cs:List Cel) (l m:List Wr):DR cs (l ++ m)=DR (DR cs l) m:=by unfold DR;rw [B_]
theorem Va (cs:List Cel) (w:Wr) (a:Nat) (ha:a<cs.length):(Kt cs w).getD a cz=if w.addr.toNat=a then { cs.getD a cz with bytes:=w.bytes } else cs.getD a cz:=by
 unfold Kt
 grind
theorem MA {F:List UInt8}:∀ (l:List Wr) (cs:List Cel) (a:Nat),a<cs.length->(∀ w∈l,w.addr.toNat=a->w.bytes=F)->((∃ w∈l,w.addr.toNat=a)\/(cs.getD a cz).bytes=F)->(DR cs l).getD a cz={ cs.getD a cz with bytes:=F }
 | [],cs,a,_,_,h=>by
  rcases h with ⟨w,hw,_⟩ | h
  ·grind
  ·show cs.getD a cz=_;rw [<-h]
 | w::l,cs,a,ha,hF,h=>by
  have hs:=Va cs w a ha;have ha':a<(Kt cs w).length:=by rw [Pg];exact ha
  have ih:=MA (F:=F) l (Kt cs w) a ha' (fun x hx=>hF x (A_ _ hx));show (DR (Kt cs w) l).getD a cz=_
  grind
def JQ (g:Geo):Nat->List Wr
 | 0=> []
 | z+1=>JQ g z ++ (HZ g (z:Nat) ++ GC g (z:Nat))
def NG (g:Geo) (s:ByteArray):List Wr:=AR g (BK g s) ++ (Gx g 0 ++ (Gx g 1 ++ JQ g g.z.toNat))
theorem Vb (g:Geo) (s:ByteArray):∀ z,GL g s z=DR (I1 g) (AR g (BK g s) ++ (Gx g 0 ++ (Gx g 1 ++ JQ g z)))
 | 0=>by
  show DR (DR (Vd g s) (Gx g 0)) (Gx g 1)=_;rw [Vd,<-Ja,<-Ja,JQ,AG]
 | z+1=>by
  rw [GL,Vb g s z,<-Ja,<-Ja,JQ]
  grind
def FJ (g:Geo) (s:ByteArray) (a:Int):List UInt8:=
 if a<g.an then Dn (BK g s) a else if a<g.an+g.sl then BN g zeroC 0 (a - g.an) else if a<g.an+2*g.sl then BN g zeroC 1 (a - g.an - g.sl)
 else if a<g.an+2*g.sl+2*g.z then CC a 0 (De (E2 g)) else CC a 0 zero8
theorem Ht {g:Geo} (hg:Bm g=true):∀ (n:Nat) (w:Wr),(n:Int)<=g.z->(w∈JQ g n↔(∃ z k:Nat,z<n/\k<2/\w=⟨Ba g z k,CC (Ba g z k) 0 (De (E2 g))⟩)\/∃ z i:Nat,z<n/\i<(CF g).toNat/\w=⟨Cu g z i,CC (Cu g z i) 0 zero8⟩)
 | 0,w,_=>by simp [JQ]
 | n+1,w,h=>by
  rw [JQ,Ay,Ay,Ht hg n w (by omega)];simp only [HZ,GC,AL,AJ]
  grind
theorem RI {g:Geo} {s:ByteArray} {a:Int} (h:a<g.an):FJ g s a=Dn (BK g s) a:=if_pos h
theorem Jb {g:Geo} {s:ByteArray} {c:Int} {i:Nat} (hc:c=0\/c=1) (hi:(i:Int)<g.sl):FJ g s (Bk g c i)=BN g zeroC c i:=by
 unfold FJ Bk
 grind
theorem Ph {g:Geo} {s:ByteArray} {z k:Nat} (h0:0<=g.sl) (hz:(z:Int)<g.z) (hk:k<2):FJ g s (Ba g z k)=CC (Ba g z k) 0 (De (E2 g)):=by
 unfold FJ;have:Ba g z k=g.an+2*g.sl+2*z+k:=rfl
 grind
theorem MB {g:Geo} {s:ByteArray} {z i:Nat} (h0:0<=g.sl) (h1:0<=g.z) (h2:0<=CF g):FJ g s (Cu g z i)=CC (Cu g z i) 0 zero8:=by
 unfold FJ;have:Cu g z i=g.an+2*g.sl+2*g.z+z*CF g+i:=rfl;have:0<=(z:Int)*CF g:=C_ (by omega) h2
 grind
theorem OB {g:Geo} (hg:Bm g=true):0<CF g:=by
 obtain⟨g1,g2,g3,g4,g5⟩:=Az.1 hg;unfold CF;omega
theorem U_ {g:Geo} {s:ByteArray} (hg:Bm g=true):∀ w∈NG g s,0<=w.addr/\w.bytes=FJ g s w.addr:=by
 obtain⟨g1,g2,g3,g4,g5⟩:=Az.1 hg;have hp:=OB hg;intro w hw;simp only [NG,Ay,Ht hg g.z.toNat w (by omega)] at hw;rcases hw with hw | hw | hw | ⟨z,k,h1,h2,rfl⟩ | ⟨z,i,h1,h2,rfl⟩
 ·simp only [AR,AL,AJ] at hw;obtain⟨i,hi,rfl⟩:=hw;exact⟨by show (0:Int)<=(i:Nat);omega,(RI (by show ((i:Nat):Int)<g.an;omega)).symm⟩
 ·simp only [Gx,AL,AJ] at hw;obtain⟨i,hi,rfl⟩:=hw;exact⟨by show 0<=Bk g 0 i;unfold Bk;omega,(Jb (.inl rfl) (by omega)).symm⟩
 ·simp only [Gx,AL,AJ] at hw;obtain⟨i,hi,rfl⟩:=hw;exact⟨by show 0<=Bk g 1 i;unfold Bk;omega,(Jb (.inr rfl) (by omega)).symm⟩
 ·exact⟨by show 0<=Ba g z k;unfold Ba;omega,(Ph (by omega) (by omega) h2).symm⟩
 ·have:0<=(z:Int)*CF g:=C_ (by omega) (by omega);exact⟨by show 0<=Cu g z i;unfold Cu;omega,(MB (by omega) (by omega) (by omega)).symm⟩
theorem UZ {g:Geo} {s:ByteArray} (hg:Bm g=true) {a:Int} (h0:0<=a) (h:a<A7 g):∃ w∈NG g s,w.addr=a:=by
 obtain⟨g1,g2,g3,g4,g5⟩:=Az.1 hg;have hp:=OB hg;by_cases h1:a<g.an
 ·refine⟨⟨a,Dn (BK g s) a⟩,?_,rfl⟩;simp only [NG,Ay,AR,AL,AJ];exact .inl ⟨a.toNat,by omega,by rw [Int.toNat_of_nonneg h0]⟩
 ·have hlog:∀ (c:Int) (i:Nat),(c=0\/c=1)->(i:Int)<g.sl->∃ w∈NG g s,w.addr=Bk g c i:=fun c i hc hi=>by
   refine⟨⟨Bk g c i,BN g zeroC c i⟩,?_,rfl⟩;simp only [NG,Ay,Gx,AL,AJ];rcases hc with rfl | rfl
   ·exact .inr (.inl ⟨i,by omega,rfl⟩)
   ·exact .inr (.inr (.inl ⟨i,by omega,rfl⟩))
  by_cases h2:a<g.an+g.sl
  ·obtain⟨w,hw,e⟩:=hlog 0 (a - g.an).toNat (.inl rfl) (by omega);exact⟨w,hw,by rw [e];unfold Bk;omega⟩
  ·by_cases h3:a<g.an+2*g.sl
   ·obtain⟨w,hw,e⟩:=hlog 1 (a - g.an - g.sl).toNat (.inr rfl) (by omega);exact⟨w,hw,by rw [e];unfold Bk;omega⟩
   ·by_cases h4:a<g.an+2*g.sl+2*g.z
    ·refine⟨⟨Ba g (((a - (g.an+2*g.sl)).toNat / 2:Nat)) ((a - (g.an+2*g.sl)).toNat % 2:Nat),CC (Ba g (((a - (g.an+2*g.sl)).toNat / 2:Nat)) ((a - (g.an+2*g.sl)).toNat % 2:Nat)) 0 (De (E2 g))⟩,?_,by show Ba g _ _=a;unfold Ba;omega⟩;simp only [NG,Ay,Ht hg g.z.toNat _ (by omega)];exact .inr (.inr (.inr (.inl ⟨_,_,by omega,by omega,rfl⟩)))
    ·have hq:a - (g.an+2*g.sl+2*g.z)=((a - (g.an+2*g.sl+2*g.z)).toNat:Int):=by omega
     generalize hX:(a - (g.an+2*g.sl+2*g.z)).toNat=X at hq;have hP:CF g=((CF g).toNat:Int):=by omega
     have hX2:X<g.z.toNat*(CF g).toNat:=by
      have:(X:Int)<g.z*CF g:=by unfold A7 at h;omega
      rw [hP,show g.z=(g.z.toNat:Int) by omega] at this
      exact_mod_cast this
     generalize hPn:(CF g).toNat=p at hP hX2;have hp0:0<p:=by omega
     have hdm:(X / p)*p+X % p=X:=Nat.div_add_mod' X p;refine⟨⟨Cu g ((X / p:Nat)) ((X % p:Nat)),CC (Cu g ((X / p:Nat)) ((X % p:Nat))) 0 zero8⟩,?_,?_⟩
     ·simp only [NG,Ay,Ht hg g.z.toNat _ (by omega)];exact .inr (.inr (.inr (.inr ⟨X / p,X % p,Nat.div_lt_of_lt_mul (by rw [Nat.mul_comm];exact hX2),by rw [hPn];exact Nat.mod_lt _ hp0,rfl⟩)))
     ·show Cu g _ _=a;unfold Cu;rw [hP];have:((X / p:Nat):Int)*(p:Int)+((X % p:Nat):Int)=(X:Int):=by exact_mod_cast hdm
      omega
theorem Pf {g:Geo} {s:ByteArray} (hg:Bm g=true) {a:Int} (h0:0<=a) (h:a<A7 g):(DS g s).cells.getD a.toNat cz=⟨0,FJ g s a, []⟩:=by
 have hl:a.toNat<(I1 g).length:=by rw [L5];omega
 obtain⟨w,hw,e⟩:=UZ (s:=s) hg h0 h;have hall:=U_ (s:=s) hg;show (GL g s g.z.toNat).getD a.toNat cz=_;rw [Vb];refine(MA (F:=FJ g s a) (NG g s) (I1 g) a.toNat hl (fun x hx hxa=>?_) (.inl ⟨w,hw,by rw [e]⟩)).trans ?_
 ·grind
 ·have:(I1 g).getD a.toNat cz=cz:=by
   unfold I1
   grind
  rw [this];try rfl
structure Holds (d:Dk) (n:Int) (F:Int->List UInt8):Prop where
 len:(d.cells.length:Int)=n
 cache:d.cache=[]
 cell:∀ a:Int,0<=a->a<n->(d.cells.getD a.toNat cz).state=0/\(d.cells.getD a.toNat cz).bytes=F a
theorem Holds.got {d:Dk} {n:Int} {F:Int->List UInt8} (h:Holds d n F) {a:Int} (h0:0<=a) (h1:a<n):ND d a=⟨0,F a⟩:=by
 obtain⟨e1,e2⟩:=h.cell a h0 h1;have hg:d.got a=((d.cells.getD a.toNat cz).bytes,0):=by
  unfold Dk.got;rw [h.cache];simp only [SN];rw [show (d.cells.getD a.toNat ⟨0, [], []⟩)=d.cells.getD a.toNat cz from rfl,if_pos e1]
 rw [ND,hg,e2]
theorem JH {g:Geo} {s:ByteArray} (hg:Bm g=true):Holds (DS g s) (A7 g) (FJ g s):=by
 have hc:=Ef hg;obtain⟨g1,g2,g3,g4,g5⟩:=Az.1 hg;refine⟨?_,rfl,fun a h0 h1=>by rw [Pf hg h0 h1];exact tA⟩;show ((GL g s g.z.toNat).length:Int)=_;rw [F_];omega
def Dk.tick (k:Nat) (d:Dk):Dk:=⟨d.cells,d.cache,min (d.reqs+k) 1048576,if d.left<0 then d.left else d.left - k⟩
structure Lv (d:Dk) (k:Nat):Prop where
 r:0<=d.reqs/\d.reqs<=1048576
 l:d.left<0\/(k:Int)<=d.left
theorem Lv.le {d:Dk} {k j:Nat} (h:Lv d k) (hj:j<=k):Lv d j:=⟨h.r,by have:=h.l;omega⟩
theorem KR {d:Dk} (h:0<=d.reqs/\d.reqs<=1048576) (_h0:d.left≠0) (hl:d.left<0\/1<=d.left):d.req=d.tick 1:=by
 unfold Dk.req Dk.tick;rw [wi (by omega)]
 grind
theorem FO {d:Dk} (a b:Nat) (_hr:d.reqs<=1048576) (h:d.left<0\/(a:Int)<=d.left):(d.tick a).tick b=d.tick (a+b):=by
 unfold Dk.tick
 grind
theorem Ml {d:Dk} (hr:d.reqs<=1048576):d.tick 0=d:=by
 unfold Dk.tick;obtain⟨c,ca,r,l⟩:=d
 grind
theorem IE {d:Dk} {a b:Nat} (h:Lv d (a+b)):Lv (d.tick a) b:=by
 have:=h.r;have:=h.l;refine⟨?_,?_⟩
 ·show 0<=min _ _/\min _ _<=_;omega
 ·show (if d.left<0 then d.left else d.left - a)<0\/(b:Int)<=(if d.left<0 then d.left else d.left - a);omega
theorem Jm {d:Dk}:∀ (k:Nat),Lv d k->d.adv k=d.tick k
 | 0,h=>(Ml h.r.2).symm
 | k+1,h=>by
  have ih:=Jm k (h.le (by omega));have h1:=IE (a:=k) (b:=1) h;have h2:=h1.l;show (if (d.adv k).left=0 then d.adv k else (d.adv k).req)=_;rw [ih,if_neg (by omega),KR h1.r (by omega) (by omega),FO k 1 h.r.2 (by have:=h.l;omega)]
def free (cs:List Cel) (w:Wr):Bool:=decide ((cs.getD w.addr.toNat cz).state≠2)
theorem PG {d:Dk} {w:Wr} (h:Lv d 1) (hc:d.cache.length<2000):d.write w.addr w.bytes=if free d.cells w then (⟨d.cells,d.cache ++ [w],(d.tick 1).reqs,(d.tick 1).left⟩,0) else (d.tick 1,7):=by
 have:=h.l;unfold Dk.write free;rw [if_neg (by omega),KR h.r (by omega) (by omega)];by_cases h2:(d.cells.getD w.addr.toNat cz).state=2
 ·rw [if_pos (.inl h2),if_neg (by simpa using h2)]
 ·rw [if_neg (by rintro(h3 | h3);exact h2 h3;omega),if_pos (by simpa using h2)];try rfl
theorem writes_go:∀ (l:List Wr) (d:Dk) (n:Nat),Lv d l.length->d.cache.length+l.length<=2000->l.foldl EY (d,n,false)=(⟨d.cells,d.cache ++ l.filter (free d.cells),(d.tick l.length).reqs,(d.tick l.length).left⟩,n+(l.filter (free d.cells)).length,false)
 | [],d,n,h,_=>by
  show (d,n,false)=_;rw [show ([]:List Wr).length=0 from rfl,Ml h.r.2];simp_all
 | w::l,d,n,h,hc=>by
  have hl:(w::l).length=l.length+1:=rfl;rw [hl] at h hc |-
  have hw:=PG (w:=w) (h.le (show 1<=l.length+1 by omega)) (by omega);have h1:Lv (d.tick 1) l.length:=IE (by rw [CL];exact h);have ht:=FO (d:=d) 1 l.length h.r.2 (by have:=h.l;omega);rw [CL] at ht;show l.foldl EY (EY (d,n,false) w)=_;have hs:EY (d,n,false) w=(match d.write w.addr w.bytes with | (d,e)=>if e=8 then (d,n,true) else (d,n+(if e=0 then 1 else 0),false)):=by
   unfold EY;rw [if_neg (by simp)]
  rw [hs,hw];cases hf:free d.cells w with
  | true=>
   simp only [if_true];rw [if_neg (by decide)];have hgo:=writes_go l ⟨d.cells,d.cache ++ [w],(d.tick 1).reqs,(d.tick 1).left⟩ (n+1) ⟨h1.r,h1.l⟩ (by simp;omega);have e1:((⟨d.cells,d.cache ++ [w],(d.tick 1).reqs,(d.tick 1).left⟩:Dk).tick l.length).reqs=(d.tick (l.length+1)).reqs/\((⟨d.cells,d.cache ++ [w],(d.tick 1).reqs,(d.tick 1).left⟩:Dk).tick l.length).left=(d.tick (l.length+1)).left:=by rw [<-ht];exact tA
   grind
  | false=>
   simp only [BU,if_false];rw [if_neg (by decide),if_neg (by decide)];rw [writes_go l (d.tick 1) (n+0) h1 (by show d.cache.length+_<=_;omega),ht];simp only [List.filter_cons,hf,BU,if_false,BS];rfl
theorem NU {d:Dk} {l:List Wr} (h:Lv d l.length) (hc:d.cache.length+l.length<=2000):d.writes l=(⟨d.cells,d.cache ++ l.filter (free d.cells),(d.tick l.length).reqs,(d.tick l.length).left⟩,(l.filter (free d.cells)).length,false):=by
 rw [Dk.writes,writes_go l d 0 h hc,Au]
def EE (cs:List Cel) (w:Wr):List Cel:=if (cs.getD w.addr.toNat cz).state=2 then cs else cs.set w.addr.toNat ⟨0,w.bytes,(cs.getD w.addr.toNat cz).bytes⟩
def CB (cs:List Cel) (l:List Wr):List Cel:=l.foldl EE cs
theorem Ga (cs:List Cel) (w:Wr):(EE cs w).length=cs.length:=by unfold EE;split <;> simp
theorem finL_len:∀ (l:List Wr) (cs:List Cel),(CB cs l).length=cs.length
 | [],_=>rfl
 | w::l,cs=>by show (CB (EE cs w) l).length=_;rw [finL_len l,Ga]
theorem Tn (d:Dk) (w:Wr):d.fin w={ d with cells:=EE d.cells w }:=by unfold Dk.fin EE;split <;> rfl
theorem allFin_cells:∀ (l:List Wr) (d:Dk),d.allFin l={ d with cells:=CB d.cells l }
 | [],_=>rfl
 | w::l,d=>by
  show (d.fin w).allFin l=_;rw [allFin_cells l,Tn];try rfl
theorem F0 (cs:List Cel) (w:Wr) (a:Nat) (ha:a<cs.length):(EE cs w).getD a cz=if w.addr.toNat=a/\(cs.getD a cz).state≠2 then ⟨0,w.bytes,(cs.getD a cz).bytes⟩ else cs.getD a cz:=by
 grind [EE]
theorem finL_miss:∀ (l:List Wr) (cs:List Cel) (a:Nat),a<cs.length->(∀ w∈l,w.addr.toNat≠a)->(CB cs l).getD a cz=cs.getD a cz
 | [],_,_,_,_=>rfl
 | w::l,cs,a,ha,h=>by
  have hs:=F0 cs w a ha;rw [if_neg (fun e=>h w (by simp) e.1)] at hs;show (CB (EE cs w) l).getD a cz=_;rw [finL_miss l (EE cs w) a (by rw [Ga];exact ha) (fun x hx=>h x (A_ _ hx)),hs]
theorem finL_stuck:∀ (l:List Wr) (cs:List Cel) (a:Nat),a<cs.length->(cs.getD a cz).state=2->(CB cs l).getD a cz=cs.getD a cz
 | [],_,_,_,_=>rfl
 | w::l,cs,a,ha,h=>by
  have hs:=F0 cs w a ha;rw [if_neg (fun e=>e.2 h)] at hs;show (CB (EE cs w) l).getD a cz=_;rw [finL_stuck l (EE cs w) a (by rw [Ga];exact ha) (by rw [hs];exact h),hs]
theorem finL_any:∀ (l:List Wr) (cs:List Cel) (a:Nat),a<cs.length->(CB cs l).getD a cz=cs.getD a cz\/(cs.getD a cz).state≠2/\((CB cs l).getD a cz).state=0/\∃ w∈l,w.addr.toNat=a/\((CB cs l).getD a cz).bytes=w.bytes
 | [],_,_,_=> .inl rfl
 | w::l,cs,a,ha=>by
  have hs:=F0 cs w a ha;have ih:=finL_any l (EE cs w) a (by rw [Ga];exact ha);by_cases e:w.addr.toNat=a/\(cs.getD a cz).state≠2
  ·rw [if_pos e] at hs;rcases ih with ih | ⟨h1,h2,x,hx,h3,h4⟩
   ·refine .inr ⟨e.2,?_,w,by simp,e.1,?_⟩
    ·show ((CB (EE cs w) l).getD a cz).state=0;rw [ih,hs]
    ·show ((CB (EE cs w) l).getD a cz).bytes=_;rw [ih,hs]
   ·exact .inr ⟨e.2,h2,x,A_ _ hx,h3,h4⟩
  ·rw [if_neg e] at hs;rcases ih with ih | ⟨h1,h2,x,hx,h3,h4⟩
   ·exact .inl (ih.trans hs)
   ·exact .inr ⟨by rw [hs] at h1;exact h1,h2,x,A_ _ hx,h3,h4⟩
theorem LH {F:List UInt8}:∀ (l:List Wr) (cs:List Cel) (a:Nat),a<cs.length->(cs.getD a cz).state≠2->(∀ w∈l,w.addr.toNat=a->w.bytes=F)->(∃ w∈l,w.addr.toNat=a)\/((cs.getD a cz).state=0/\(cs.getD a cz).bytes=F)->((CB cs l).getD a cz).state=0/\((CB cs l).getD a cz).bytes=F
 | [],cs,a,_,_,_,h=>by
  grind [CB]
 | w::l,cs,a,ha,h2,hF,h=>by
  have hs:=F0 cs w a ha;have ha':a<(EE cs w).length:=by rw [Ga];exact ha
  show ((CB (EE cs w) l).getD a cz).state=0/\((CB (EE cs w) l).getD a cz).bytes=F;by_cases e:w.addr.toNat=a
  ·rw [if_pos ⟨e,h2⟩,hF w (by simp) e] at hs;exact LH l (EE cs w) a ha' (by rw [hs];show (0:Int)≠2;decide) (fun x hx=>hF x (A_ _ hx)) (.inr (by rw [hs];exact tA))
  ·rw [if_neg (fun q=>e q.1)] at hs;refine LH l (EE cs w) a ha' (by rw [hs];exact h2) (fun x hx=>hF x (A_ _ hx)) ?_
   grind
theorem finL_free:∀ (l:List Wr) (cs cs0:List Cel),(∀ a,(cs.getD a cz).state=2↔(cs0.getD a cz).state=2)->CB cs (l.filter (free cs0))=CB cs l
 | [],_,_,_=>rfl
 | w::l,cs,cs0,h=>by
  have hstep:∀ a,((EE cs w).getD a cz).state=2↔(cs0.getD a cz).state=2:=fun a=>by
   rw [<-h a];by_cases ha:a<cs.length
   ·rw [F0 cs w a ha]
    grind
   ·rw [Ab,Ab,AE (by rw [Ga];omega),AE (by omega)]
  show _=CB (EE cs w) l;rw [List.filter_cons];by_cases hf:free cs0 w=true
  ·rw [if_pos hf];exact finL_free l (EE cs w) cs0 hstep
  ·rw [if_neg hf];have:EE cs w=cs:=by
    unfold EE;rw [if_pos];simp only [free,decide_eq_true_eq,Decidable.not_not] at hf
    grind
   rw [this];exact finL_free l cs cs0 h
theorem IP {d:Dk} {l:List Wr} (h:Lv d (l.length+1)) (hc:d.cache=[]) (hl:l.length<=2000):d.putAll l=(⟨CB d.cells l, [],(d.tick (l.length+1)).reqs,(d.tick (l.length+1)).left⟩,(l.filter (free d.cells)).length,false):=by
 have hw:=NU (h.le (show l.length<=l.length+1 by omega)) (by rw [hc];simpa using hl);have h1:=IE (a:=l.length) (b:=1) h;have h2:=h1.l;rw [hc,Bt] at hw;unfold Dk.putAll;rw [hw];simp only [BU,if_false];rw [if_neg (by show ¬(d.tick l.length).left=0;omega)];have ht:=FO (d:=d) l.length 1 h.r.2 (by have:=h.l;omega);simp only [Prod.mk.injEq,and_true];unfold Dk.flush;rw [allFin_cells];have h3:Lv ⟨d.cells,l.filter (free d.cells),(d.tick l.length).reqs,(d.tick l.length).left⟩ 1:=⟨h1.r,h1.l⟩;have hr:=KR (d:=⟨d.cells,l.filter (free d.cells),(d.tick l.length).reqs,(d.tick l.length).left⟩) h3.r (by show (d.tick l.length).left≠0;omega) (by show (d.tick l.length).left<0\/1<=(d.tick l.length).left;omega);rw [hr,<-ht];show (⟨CB d.cells (l.filter (free d.cells)), [],_,_⟩:Dk)=_;rw [finL_free l d.cells d.cells fun _=>Iff.rfl];try rfl
structure Gw (n:Int) (d:Dk) (F:Int->List UInt8) (l:List Wr):Prop where
 ok:DkOk d
 left:d.left = -1
 len:(d.cells.length:Int)=n
 cache:d.cache=l
 cell:∀ a:Int,0<=a->a<n->(d.cells.getD a.toNat cz).state=0/\(d.cells.getD a.toNat cz).bytes=F a
 old:∀ a:Int,0<=a->a<n->(d.cells.getD a.toNat cz).old=F (-1 - a)
abbrev Gd (n:Int) (d:Dk) (F:Int->List UInt8):Prop:=Gw n d F []
def XL (F:Int->List UInt8) (w:Wr) (a:Int):List UInt8:=if 0<=a then (if w.addr=a then w.bytes else F a) else if w.addr = -1 - a then F w.addr else F a
def Mj (F:Int->List UInt8) (l:List Wr):Int->List UInt8:=l.foldl XL F
theorem KC {F:Int->List UInt8} (l:List Wr) (w:Wr):Mj F (l ++ [w])=XL (Mj F l) w:=by
 unfold Mj;rw [B_];try rfl
theorem Gw.req {n:Int} {d:Dk} {F:Int->List UInt8} {l:List Wr} (h:Gw n d F l):Gw n d.req F l:=
 ⟨h.ok.req,by unfold Dk.req;rw [h.left];try rfl,h.len,h.cache,h.cell,h.old⟩
theorem Gd.got {n:Int} {d:Dk} {F:Int->List UInt8} (h:Gd n d F) {a:Int} (h0:0<=a) (h1:a<n):d.got a=(F a,0):=by
 have:=Holds.got ⟨h.len,h.cache,h.cell⟩ h0 h1;unfold ND at this;injection this with e1 e2
 exact Prod.ext e2 e1
theorem Gd.read {n:Int} {d:Dk} {F:Int->List UInt8} (h:Gd n d F) {a:Int} (h0:0<=a) (h1:a<n):d.read a=(d.req,F a,0):=by
 unfold Dk.read;rw [if_neg (by rw [h.left];decide),h.got h0 h1]
theorem Gw.write {n:Int} {d:Dk} {F:Int->List UInt8} {l:List Wr} (h:Gw n d F l) (hl:l.length<2000) {a:Int} (h0:0<=a) (h1:a<n) {b:List UInt8} (hb:b.length<=200):(d.write a b).2=0/\Gw n (d.write a b).1 F (l ++ [⟨a,b⟩]):=by
 have hw:=h.ok.write (a:=a) (b:=b) (by rw [<-h.len] at h1;omega) hb;have e:d.write a b=({ d.req with cache:=d.cache ++ [⟨a,b⟩] },0):=by
  unfold Dk.write;rw [if_neg (by rw [h.left];decide),if_neg];rintro(h2 | h2)
  ·have:=(h.cell a h0 h1).1;unfold cz at this;omega
  ·rw [h.cache] at h2;omega
 rw [e] at hw |-
 exact⟨rfl,hw,h.req.left,h.len,by rw [h.cache],h.cell,h.old⟩
theorem NM {cs:List Cel} {F:Int->List UInt8} {a:Int} (h0:0<=a) (h1:a.toNat<cs.length) (hc:(cs.getD a.toNat cz).state=0/\(cs.getD a.toNat cz).bytes=F a):∀ (n:Nat) (l:List Wr),l.length=n->(∀ w∈l,0<=w.addr)->((CB cs l).getD a.toNat cz).state=0/\((CB cs l).getD a.toNat cz).bytes=Mj F l a
 | 0,l,hn,_=>by
  obtain rfl:=AI.1 hn;exact hc
 | n+1,l,hn,hw=>by
  rcases Db l with rfl | ⟨m,w,rfl⟩
  ·cases hn
  ·have ih:=NM h0 h1 hc n m (by simpa using hn) (fun x hx=>hw x (by simp [hx]));have hwa:=hw w (by simp);have e:CB cs (m ++ [w])=EE (CB cs m) w:=by unfold CB;rw [B_];try rfl
   have e2:=F0 (CB cs m) w a.toNat (by rw [finL_len];exact h1);rw [Dc,e,e2,KC];unfold XL;rw [if_pos h0];by_cases hA:w.addr=a
   ·rw [if_pos hA,if_pos ⟨by rw [hA],by rw [ih.1];decide⟩];exact tA
   ·rw [if_neg hA,if_neg (fun h=>hA (by have:=h.1;omega))];exact ih
theorem RL {cs:List Cel} {F:Int->List UInt8} {a:Int} (h0:0<=a) (h1:a.toNat<cs.length) (hc:(cs.getD a.toNat cz).state=0/\(cs.getD a.toNat cz).bytes=F a) (ho:(cs.getD a.toNat cz).old=F (-1 - a)):∀ (n:Nat) (l:List Wr),l.length=n->(∀ w∈l,0<=w.addr)->((CB cs l).getD a.toNat cz).old=Mj F l (-1 - a)
 | 0,l,hn,_=>by
  obtain rfl:=AI.1 hn;exact ho
 | n+1,l,hn,hw=>by
  rcases Db l with rfl | ⟨m,w,rfl⟩
  ·cases hn
  ·have ih:=RL h0 h1 hc ho n m (by simpa using hn) (fun x hx=>hw x (by simp [hx]));have iu:=NM h0 h1 hc n m (by simpa using hn) (fun x hx=>hw x (by simp [hx]));have hwa:=hw w (by simp);have e:CB cs (m ++ [w])=EE (CB cs m) w:=by unfold CB;rw [B_];try rfl
   have e2:=F0 (CB cs m) w a.toNat (by rw [finL_len];exact h1);rw [Dc,e,e2,KC];unfold XL;rw [if_neg (show ¬(0:Int)<= -1 - a by omega),show -1 - (-1 - a)=a by omega];by_cases hA:w.addr=a
   ·rw [if_pos hA,if_pos ⟨by rw [hA],by rw [iu.1];decide⟩,hA];exact iu.2
   ·rw [if_neg hA,if_neg (fun h=>hA (by have:=h.1;omega))];exact ih
theorem Gw.flush {n:Int} {d:Dk} {F:Int->List UInt8} {l:List Wr} (h:Gw n d F l):Gd n d.flush (Mj F l):=by
 have e:d.flush=⟨CB d.cells l, [],d.req.reqs,d.req.left⟩:=by
  unfold Dk.flush;rw [allFin_cells,h.cache];try rfl
 have ho:=h.ok.flush;rw [e] at ho |-
 have hl:=h.len;have hw0:∀ w∈l,0<=w.addr:=fun w hw=>by
  rw [<-h.cache] at hw;exact(h.ok.w w hw).1.1
 exact⟨ho,h.req.left,by show ((CB d.cells l).length:Int)=n;rw [finL_len];exact h.len,rfl,fun a h0 h1=>NM h0 (by omega) (h.cell a h0 h1) _ l rfl hw0,fun a h0 h1=>RL h0 (by omega) (h.cell a h0 h1) (h.old a h0 h1) _ l rfl hw0⟩
theorem Of {F:Int->List UInt8} {a:Int} (h0:0<=a):∀ (n:Nat) (l:List Wr),l.length=n->(∀ w∈l,w.addr≠a)->Mj F l a=F a
 | 0,l,hn,_=>by
  obtain rfl:=AI.1 hn;rfl
 | n+1,l,hn,h=>by
  rcases Db l with rfl | ⟨m,w,rfl⟩
  ·rfl
  ·have ih:=Of (F:=F) h0 n m (by simpa using hn) (fun x hx=>h x (by simp [hx]));rw [Dc,KC];unfold XL;rw [if_pos h0,if_neg (h w (by simp))];exact ih
def UL (g:Geo) (a:An) (seq:Int) (x:Img):List Wr:=if x.what=255 then [⟨Ba g x.zone 0,CC (Ba g x.zone 0) seq x.bytes⟩,⟨Ba g x.zone 1,CC (Ba g x.zone 1) seq x.bytes⟩] else [⟨D1 g a x.zone x.what,CC (D1 g a x.zone x.what) seq x.bytes⟩]
def Lp (g:Geo) (a:An) (seq:Int):List Img->List Wr
 | []=> []
 | x::r=>UL g a seq x ++ Lp g a seq r
def Ev (a:An) (seq:Int) (x:Img):An:=if x.what=255 then { a with homes:=a.homes.set x.zone.toNat { a.homes.getD x.zone.toNat ⟨[],0,0⟩ with root:=seq } } else a
def Eg (a:An) (seq:Int) (l:List Img):An:=l.foldl (fun a x=>Ev a seq x) a
theorem PV (a:An) (seq:Int) (x:Img):(Ev a seq x).homes.length=a.homes.length:=by unfold Ev;split <;> simp
theorem Og (seq:Int):∀ (l:List Img) (a:An),(Eg a seq l).homes.length=a.homes.length
 | [],_=>rfl
 | x::r,a=>by
  show (Eg (Ev a seq x) seq r).homes.length=_;rw [Og seq r,PV]
theorem Si {g:Geo} {a:An} {seq:Int} {x:Img} (ha:Bz g a=true) (hs:0<=seq/\seq<=4294967295):Bz g (Ev a seq x)=true:=by
 unfold Ev;split
 ·by_cases hi:x.zone.toNat<a.homes.length
  ·simp only [Bz,Ad,decide_eq_true_eq,Av] at ha |-
   obtain⟨q1,q2,q3,q4,q5,q6,q7⟩:=ha;refine⟨q1,q2,q3,q4,q5,by rw [Bg];exact q6,fun y hy=>?_⟩;rcases Cc hy with h | rfl
   ·exact q7 y h
   ·have hh:=q7 _ (AC (d:=(⟨[],0,0⟩:Hm)) hi);simp only [ED,Ad] at hh |-
    exact⟨hh.1,hh.2.1,AK.2 hs,hh.2.2.2⟩
  ·rw [List.set_eq_of_length_le (by omega)];exact ha
 ·exact ha
theorem KD {g:Geo} {seq:Int} (hs:0<=seq/\seq<=4294967295):∀ (l:List Img) {a:An},Bz g a=true->Bz g (Eg a seq l)=true
 | [],_,h=>h
 | x::r,_,h=>KD hs r (Si h hs)
def Ok (g:Geo) (a:An) (x:Tx):An:={ Eg a x.seq x.images with gen:=a.gen+1,pos:=(x.pos+x.n).tmod g.sl,seq:=a.seq+1,last:=max a.last a.seq }
theorem IB (seq:Int):∀ (l:List Img) (a:An),(Eg a seq l).gen=a.gen/\(Eg a seq l).epoch=a.epoch/\(Eg a seq l).pos=a.pos/\(Eg a seq l).seq=a.seq/\(Eg a seq l).last=a.last/\(Eg a seq l).label=a.label
 | [],_=>tA
 | x::r,a=>by
  obtain⟨h1,h2,h3,h4,h5,h6⟩:=IB seq r (Ev a seq x);have e:(Ev a seq x).gen=a.gen/\(Ev a seq x).epoch=a.epoch/\(Ev a seq x).pos=a.pos/\(Ev a seq x).seq=a.seq/\(Ev a seq x).last=a.last/\(Ev a seq x).label=a.label:=by unfold Ev;split <;> exact tA
  obtain⟨e1,e2,e3,e4,e5,e6⟩:=e;exact⟨h1.trans e1,h2.trans e2,h3.trans e3,h4.trans e4,h5.trans e5,h6.trans e6⟩
theorem TS {g:Geo} {a:An} {x:Tx} (hg:Bm g=true) (ha:Bz g a=true) (h1:a.gen<4294967295) (h2:a.seq<4294967295) (hx:x.seq=a.seq) (hp:0<=x.pos) (hn:0<=x.n):Bz g (Ok g a x)=true:=by
 obtain⟨g1,g2,g3,g4,g5⟩:=Az.1 hg;have hh:=ha;simp only [Bz,Bb,BT,BD,Ad,decide_eq_true_eq,AK] at hh;obtain⟨⟨w1,w2,w3,w4⟩,q2,q3,q4,q5,q6,q7⟩:=hh;have hu:=KD (g:=g) (seq:=x.seq) (by omega) x.images ha;obtain⟨_,e2,_,_,_,e6⟩:=IB x.seq x.images a;simp only [Bz,Bb,BT,BD,Ad,decide_eq_true_eq,AK] at hu |-
 obtain⟨_,_,_,_,u5,u6,u7⟩:=hu;have hm0:0<=(x.pos+x.n).tmod g.sl:=B9 _ (by omega);have hm1:(x.pos+x.n).tmod g.sl<g.sl:=Bu _ (by omega);refine⟨⟨?_,?_,?_,?_⟩,?_,?_,?_,u5,u6,u7⟩
 ·show 0<=a.gen+1/\a.gen+1<=_;omega
 ·show 0<=(Eg a x.seq x.images).epoch/\(Eg a x.seq x.images).epoch<=_;rw [e2];exact w2
 ·show 0<=a.seq+1/\a.seq+1<=_;omega
 ·show 0<=max a.last a.seq/\max a.last a.seq<=_;omega
 ·show 1<=a.seq+1;omega
 ·show a.seq+1 - 1<=max a.last a.seq;omega
 ·show 0<=(x.pos+x.n).tmod g.sl/\(x.pos+x.n).tmod g.sl<=g.sl - 1;omega
theorem OneTab.eq:∀ {l:List Img} (_:OneTab l) {x y:Img},x∈l->y∈l->x.what=255->y.what=255->x.zone=y.zone->x=y
 | w::l,h,x,y,hx,hy,h1,h2,h3=>by
  obtain⟨q1,q2⟩:=List.pairwise_cons.1 h;rcases AT.1 hx with ex | mx
  ·rcases AT.1 hy with ey | my
   ·rw [ex,ey]
   ·rw [ex] at h1 h3;exact absurd h3 (q1 y my h1 h2)
  ·rcases AT.1 hy with ey | my
   ·rw [ey] at h2 h3;exact absurd h3.symm (q1 x mx h2 h1)
   ·exact OneTab.eq q2 mx my h1 h2 h3
theorem Lo {g:Geo} {a:An} {seq:Int} {w:Wr}:∀ {l:List Img},w∈Lp g a seq l↔∃ x∈l,w∈UL g a seq x
 | []=>by simp [Lp]
 | x::r=>by
  rw [Lp,Ay,Lo];simp
theorem J9 {g:Geo} {x:Img} (h:BV g x=true):(0<=x.zone/\x.zone<g.z)/\(x.what≠255-> -1<=x.what/\x.what<g.d/\x.bytes.length=8):=by
 simp only [BV,Ad,AK] at h;refine⟨by omega,fun hw=>?_⟩;have h2:=h.2.2;rw [if_neg hw,Ad,AK,decide_eq_true_eq] at h2;omega
theorem RB {g:Geo} {a:An} (ha:Bz g a=true) {z:Int} (hz:0<=z/\z<g.z):z.toNat<a.homes.length/\ED g (a.homes.getD z.toNat ⟨[],0,0⟩)=true:=by
 simp only [Bz,Ad,decide_eq_true_eq,Av] at ha;obtain⟨_,_,_,_,_,q6,q7⟩:=ha;have hi:z.toNat<a.homes.length:=by omega
 exact⟨hi,q7 _ (AC (d:=(⟨[],0,0⟩:Hm)) hi)⟩
theorem LT {g:Geo} (hg:Bm g=true) {a:An} (ha:Bz g a=true) {z w:Int} (hz:0<=z/\z<g.z) (hw : -1<=w/\w<g.d):∃ s,D1 g a z w=Cu g z s/\0<=s/\s<CF g:=by
 obtain⟨g1,g2,g3,g4,g5⟩:=Az.1 hg;obtain⟨hi,hh⟩:=RB ha hz;simp only [ED,Ad,decide_eq_true_eq,AK] at hh;obtain⟨p1,p2,p3,p4⟩:=hh;have hat:0<=Eu g w/\Eu g w<=g.d:=by unfold Eu;split <;> omega
 refine⟨_,rfl,?_⟩;have hk:(Eu g w).toNat<(a.homes.getD z.toNat ⟨[],0,0⟩).places.length:=by omega
 have hp:=Av.1 p4 (Eu g w).toNat (by simpa using hk);simp only [Ad,AK] at hp;unfold CF;omega
theorem Ky {g:Geo} (hg:Bm g=true) {z s:Int} (hz:0<=z/\z<g.z) (hs:0<=s/\s<CF g):g.an+2*g.sl+2*g.z<=Cu g z s/\Cu g z s<A7 g:=by
 obtain⟨g1,g2,g3,g4,g5⟩:=Az.1 hg;have hp:=Hb hg;have h1:=I8 hg (z:=z) (by omega);have h2:z*CF g+CF g<=g.z*CF g:=by
  have:=Cb (show z+1<=g.z by omega) (show 0<=CF g by omega);rw [Int.add_mul,Int.one_mul] at this;exact this
 unfold Cu A7;omega
theorem P_ {g:Geo} (hg:Bm g=true) {z k:Int} (hz:0<=z/\z<g.z) (hk:0<=k/\k<=1):g.an+2*g.sl<=Ba g z k/\Ba g z k<g.an+2*g.sl+2*g.z/\Ba g z k<A7 g:=by
 obtain⟨g1,g2,g3,g4,g5⟩:=Az.1 hg;have hp:=Hb hg;have h1:=I8 hg (z:=g.z) (by omega);unfold Ba A7;omega

def Hr (l:List (List UInt8)):AV:= .sl 1 l.length fun i=> [bA (l.getD i [])]
theorem JU (g:Geo) (A:Int) (hA:0<=A/\A<g.d):Fn Tryz.prog 227 [.ag (Bi g),iA [A]] fun r=>r = .v (.bool true):=by
 refine zT Tryz.func227 rfl ?_;conv=>whnf
 refine zA 2 ?_;conv=>whnf
 refine Ah ⟨by decide,by show (0:Int)<1;decide⟩ ?_;conv=>whnf
 rw [show [A].getD (Int.toNat 0) 0=A from rfl];rw [show decide (A<0)=false from decide_eq_false (by omega)];conv=>whnf
 rw [show decide (A>=g.d)=false from decide_eq_false (by omega)];conv=>whnf
 repeat' (refine zZ ?_;conv=>whnf)
 exact⟨_,ri,rfl⟩
theorem RY (b:List UInt8):Fn Tryz.prog 306 [bA b] fun r=>r = .v (.bool (((b.length:Nat):Int) != 8)):=by
 refine zT Tryz.func306 rfl ?_;exact⟨_,ri,rfl⟩
theorem XQ (l:List (List UInt8))  (hl:l.length<=1000000):Fn Tryz.prog 316 [Hr l, .v (.func (.func 306) #[] #[])] fun r=>r = iv (M7 (fun b=>(((b.length:Nat):Int) != 8)) l):=by
 refine zT Tryz.func316 rfl ?_;conv=>whnf
 refine zQ Nat (fun k=>([(0,Hr l),(1, .v (.func (.func 306) #[] #[])),(7,iv l.length),(8,iv k)], [])) (fun k=>k<=l.length/\(l.take k).any (fun b=>(((b.length:Nat):Int) != 8))=false) (fun k=>l.length - k) 0 ⟨Ak _,by simp⟩ ⟨[],tv,tA,tv,rfl,rfl,rfl⟩ ?_;rintro k ⟨hk,hI⟩;conv=>whnf
 refine Aj (fun h2=>?_) (fun h2=>?_) <;> simp at h2 <;> conv=>whnf
 ·refine⟨by first | omega | (refine⟨rfl,?_,?_⟩ <;> first | omega | (simp only [Aa];done) | (simp only [Aa];omega)) | (simp only [Aa];omega),?_⟩;conv=>whnf
  refine z_ (RY (l.getD k [])) ?_;conv=>whnf
  refine Aj (fun h3=>?_) (fun h3=>?_) <;> conv=>whnf
  ·exact⟨_,ri,by rw [Ey (d:= []) h2 hI (by first | exact h3 | (rw [Ac] at h3;exact h3) | simpa using h3)]⟩
  ·refine⟨k+1,⟨by omega,Ch (d:= []) h2 hI (by first | exact h3 | (rw [Ac] at h3;exact h3) | simpa using h3)⟩,by omega, [],tv,⟨rfl,rfl,rfl,AP (by omega),tv⟩,tv,rfl,rfl,rfl⟩
 ·exact⟨_,ri,by rw [At h2] at hI;rw [Dv hI]⟩
theorem XR (l:List (List UInt8))  (hl:l.length<=1000000):Fn Tryz.prog 244 [Hr l, .v (.func (.func 306) #[] #[])] fun r=>r = .v (.bool (l.any (fun b=>(((b.length:Nat):Int) != 8)))):=by
 refine zT Tryz.func244 rfl ?_;conv=>whnf
 refine z_ (XQ l  hl) ?_;exact⟨_,ri,by rw [FI]⟩

theorem Jr (l:List (List UInt8)) (hl:l.length<=1000000) (h:∀ b∈l,b.length=8):Fn Tryz.prog 228 [Hr l] fun r=>r = .v (.bool true):=by
 have hc:=XR l hl;have e:(l.any fun b=>(((b.length:Nat):Int) != 8))=false:=by
  rw [List.any_eq_false];intro b hb;rw [h b hb];decide
 rw [e] at hc;refine zT Tryz.func228 rfl ?_;conv=>whnf
 refine z_ hc ?_;exact⟨_,ri,rfl⟩
theorem RT (b:List UInt8):Fn Tryz.prog 243 [bA b] fun r=>r = .v (.bool ((((b.length:Nat):Int) != 0)&&(((b.length:Nat):Int) != 8))):=by
 refine zT Tryz.func243 rfl ?_;conv=>whnf
 by_cases h:((b.length:Nat):Int)=0
 ·rw [show (((b.length:Nat):Int) != 0)=false from bne_eq_false_iff_eq.2 h];exact⟨_,ri,rfl⟩
 ·rw [show (((b.length:Nat):Int) != 0)=true from bne_iff_ne.2 h];exact⟨_,ri,by rw [B5]⟩
theorem XD (l:List (List UInt8))  (hl:l.length<=1000000):Fn Tryz.prog 316 [Hr l, .v (.func (.func 243) #[] #[])] fun r=>r = iv (M7 (fun b=>((((b.length:Nat):Int) != 0)&&(((b.length:Nat):Int) != 8))) l):=by
 refine zT Tryz.func316 rfl ?_;conv=>whnf
 refine zQ Nat (fun k=>([(0,Hr l),(1, .v (.func (.func 243) #[] #[])),(7,iv l.length),(8,iv k)], [])) (fun k=>k<=l.length/\(l.take k).any (fun b=>((((b.length:Nat):Int) != 0)&&(((b.length:Nat):Int) != 8)))=false) (fun k=>l.length - k) 0 ⟨Ak _,by simp⟩ ⟨[],tv,tA,tv,rfl,rfl,rfl⟩ ?_;rintro k ⟨hk,hI⟩;conv=>whnf
 refine Aj (fun h2=>?_) (fun h2=>?_) <;> simp at h2 <;> conv=>whnf
 ·refine⟨by first | omega | (refine⟨rfl,?_,?_⟩ <;> first | omega | (simp only [Aa];done) | (simp only [Aa];omega)) | (simp only [Aa];omega),?_⟩;conv=>whnf
  refine z_ (RT (l.getD k [])) ?_;conv=>whnf
  refine Aj (fun h3=>?_) (fun h3=>?_) <;> conv=>whnf
  ·exact⟨_,ri,by rw [Ey (d:= []) h2 hI (by first | exact h3 | (rw [Ac] at h3;exact h3) | simpa using h3)]⟩
  ·refine⟨k+1,⟨by omega,Ch (d:= []) h2 hI (by first | exact h3 | (rw [Ac] at h3;exact h3) | simpa using h3)⟩,by omega, [],tv,⟨rfl,rfl,rfl,AP (by omega),tv⟩,tv,rfl,rfl,rfl⟩
 ·exact⟨_,ri,by rw [At h2] at hI;rw [Dv hI]⟩
theorem XE (l:List (List UInt8))  (hl:l.length<=1000000):Fn Tryz.prog 244 [Hr l, .v (.func (.func 243) #[] #[])] fun r=>r = .v (.bool (l.any (fun b=>((((b.length:Nat):Int) != 0)&&(((b.length:Nat):Int) != 8))))):=by
 refine zT Tryz.func244 rfl ?_;conv=>whnf
 refine z_ (XD l  hl) ?_;exact⟨_,ri,by rw [FI]⟩

@[reducible] def zlH (g:Geo) (t:List Ent) (had:List (List UInt8)):List AB:= [.box 348 [iv g.d,BX t,Hr had]]
theorem RV (g:Geo) (t:List Ent) (had:List (List UInt8)) (hg:Bm g=true) (ht:H7 g t=true) (htl:t.length<=1000) (hh:(had.length:Int)=g.d+1) (h8:∀ b∈had,b.length=8):ACalls Tryz.prog false 168 [.ag (Bi g), .ag [BX t],Hr had] [] fun r H=>r = .tp [.bp 0 0,iv 0]/\H=zlH g t had:=by
 obtain⟨g1,g2,g3,g4,g5⟩:=Az.1 hg;have hc:=Mm g t (by omega);rw [ht] at hc;have hz:=XE had (by omega);have e:(had.any fun b=>((((b.length:Nat):Int) != 0)&&(((b.length:Nat):Int) != 8)))=false:=by
  rw [List.any_eq_false];intro b hb;rw [h8 b hb];decide
 rw [e] at hz;refine zU tys_ok Tryz.func168 rfl rfl (Af rfl) ?_;conv=>whnf
 refine z_ hc ?_;conv=>whnf
 rw [show (((had.length:Nat):Int) != IntKind.i64.wrap (g.d+1))=false from bne_eq_false_iff_eq.2 (by rw [wi (by omega)];exact hh)];conv=>whnf
 refine z_ hz ?_;exact⟨_, .tp [.bp 0 0,iv 0],zlH g t had,fun _ _ h=>h,zP (s:= [2]) tA,rfl,rfl⟩
theorem RU (g:Geo) (t:List Ent) (had:List (List UInt8)) (i:Nat) (ht:i<t.length) (hi:i<had.length) (h8:∀ b∈had,b.length=8) (hlo:(t.getD i ez).lost=false):ACalls Tryz.prog false 169 [.bp 0 0,iv (i:Nat)] (zlH g t had) fun r H=>r = .tp [bA (had.getD i []), .v (.bool true)]/\H=zlH g t had:=by
 have hb:=h8 _ (AC (d:=([]:List UInt8)) hi);have hc:=BP (had.getD i []) (by omega);have ixA:(0:Int)<=(i:Nat)/\((i:Nat):Int)<(t.length:Nat):=by omega
 have ixB:(0:Int)<=(i:Nat)/\((i:Nat):Int)<(had.length:Nat):=by omega
 refine zU tys_ok Tryz.func169 rfl rfl (Af rfl) ?_;refine⟨ixA,?_⟩;conv=>whnf
 rw [Ac,show (t.getD i ⟨0,0,false⟩).lost=false from hlo];refine⟨ixB,?_⟩;conv=>whnf
 rw [show decide ((((had.getD (((i:Nat):Int)).toNat []).length:Nat):Int) > 0)=true from decide_eq_true (by rw [Ac];omega)];refine⟨ixB,?_⟩;conv=>whnf
 refine z_ hc ?_;exact⟨_, .tp [bA (had.getD i []), .v (.bool true)],zlH g t had,fun _ _ h=>h,zP (s:= [0]) tA,rfl,rfl⟩
def FC (L b:List UInt8) (k:Nat):List UInt8:=GH (L.take k) (b.take k) ++ L.drop k
theorem SS {L b:List UInt8} (h:L.length<=b.length) (k:Nat):(FC L b k).length=L.length:=by
 simp only [FC,Ai,FM,Ar,Al];omega
theorem ST {L b:List UInt8} {k:Nat} (h:k<L.length) (h2:L.length<=b.length):(FC L b k).getD k 0=L.getD k 0:=by
 have e:(GH (L.take k) (b.take k)).length=k:=by rw [FM,Ar,Ar];omega
 rw [FC,Ab,AM (by omega),e,BA,Co,BS,<-Ab]
theorem SR {L b:List UInt8} {k:Nat} (h:k<L.length) (h2:L.length<=b.length):(FC L b k).set k (L.getD k 0 ^^^ b.getD k 0)=FC L b (k+1):=by
 have e:(GH (L.take k) (b.take k)).length=k:=by rw [FM,Ar,Ar];omega
 have e2:GH (L.take (k+1)) (b.take (k+1))=GH (L.take k) (b.take k) ++ [L.getD k 0 ^^^ b.getD k 0]:=by
  rw [Bc,Bc,Ae h,Ae (by omega),GH,List.zipWith_append (by rw [Ar,Ar];omega),Ab,Ab,Ae h,Ae (show k<b.length by omega)];try rfl
 rw [FC,FC,C3 _ _ (by omega),e,BA,Bw h,e2,AA];try rfl
theorem SU {L b:List UInt8} (h:L.length=b.length):FC L b L.length=GH L b:=by
 rw [FC,List.drop_length,AG,A3,h,A3]
theorem RR {l:List UInt8} {k:Nat} (h:k<l.length):(l.map Fb).getD k []=Fb (l.getD k 0):=AQ h
theorem TA (L b:List UInt8) (h:L.length=b.length) (hl:L.length<=1000000):ACalls Tryz.prog false 309 [.ow 0 L.length,bA b] [.row 5 1 (L.map Fb)] fun r H=>r = .tp []/\H=[.row 5 1 ((GH L b).map Fb)]:=by
 refine zU tys_ok Tryz.func309 rfl rfl (Af rfl) ?_;conv=>whnf
 refine zR Nat (fun k=>([(0, .ow 0 L.length),(6,bA b),(7,iv (b.length:Nat)),(8,iv (k:Nat))], [.row 5 1 ((FC L b k).map Fb)])) (fun k=>k<=b.length) (fun k=>b.length - k) 0 (Ak _)
  (zP (s:= [0]) tA) ?_
 intro k hk;conv=>whnf
 refine AO (fun h6=>?_) (fun h6=>?_) <;> (repeat rw [Ac] at h6) <;> conv=>whnf
 ·have hk':k<b.length:=by omega
  have hml:=SS (L:=L) (b:=b) (by omega) k;repeat' (refine zZ ?_;conv=>whnf)
  refine⟨⟨by omega,by omega⟩,?_⟩;conv=>whnf
  repeat' (refine zZ ?_;conv=>whnf)
  refine⟨⟨by omega,by omega⟩,?_⟩;refine⟨⟨rfl,by rw [Aa,hml],by omega⟩,?_⟩;rw [Ac,RR (by omega),ST (by omega) (by omega)];refine⟨⟨by omega,by omega⟩,?_⟩;refine⟨⟨rfl,by rw [Aa,hml],by omega⟩,?_⟩;rw [Ac,RR (by omega)];refine⟨k+1,hk',by omega,zP (s:= [0]) ⟨⟨rfl,rfl,rfl,AP (by omega),tv⟩,⟨?_,tv⟩,rfl,rfl,rfl,rfl,rfl⟩⟩;have e:((FC L b k).map Fb).set k (Fb (L.getD k 0 ^^^ b.getD k 0))=(FC L b (k+1)).map Fb:=by rw [<-List.map_set,SR (by omega) (by omega)]
  have ex:=XM (L.getD k 0) (b.getD k 0).toNat (b.getD k 0).toNat_lt;rw [UInt8.ofNat_toNat] at ex;rw [<-e];show some (AB.row _ _ _)=some (AB.row _ _ _);rw [show Fb (L.getD k 0 ^^^ b.getD k 0)=[AV.v (.int .u8 ((L.getD k 0 ^^^ b.getD k 0).toNat:Nat))] from rfl,<-ex]
 ·have ek:k=b.length:=by omega
  subst ek;exact⟨_, .tp [], [.row 5 1 ((GH L b).map Fb)],fun _ _ h=>h,zP (s:= [0]) ⟨tA,⟨congrArg (fun z=>some (AB.row 5 1 (List.map Fb z))) (show FC L b b.length=GH L b by rw [<-h];exact SU h),tv⟩,rfl,rfl,rfl,rfl,rfl⟩,rfl,rfl⟩
theorem RW (l:List (List UInt8)) (hl:l.length<=1000000) (h:∀ b∈l,b.length=8):Fn Tryz.prog 308 [iv 8,Hr l] fun r=>r = .v (.bool true):=by
 refine zT Tryz.func308 rfl ?_;conv=>whnf
 refine zR Nat (fun k=>([(0,iv 8),(7,Hr l),(8,iv (l.length:Nat)),(9,iv (k:Nat))], [])) (fun k=>k<=l.length) (fun k=>l.length - k) 0 (Ak _)
  (zP (s:= []) tA) ?_
 intro k hk;conv=>whnf
 refine AO (fun h6=>?_) (fun h6=>?_) <;> (repeat rw [Ac] at h6) <;> conv=>whnf
 ·have hk':k<l.length:=by omega
  have h8:=h _ (AC (d:=([]:List UInt8)) hk');repeat' (refine zZ ?_;conv=>whnf)
  refine⟨⟨by omega,by omega⟩,?_⟩;conv=>whnf
  repeat' (refine zZ ?_;conv=>whnf)
  rw [show (((l.getD (k:Int).toNat []).length:Int) != 8)=false from bne_eq_false_iff_eq.2 (by rw [Ac,h8];try rfl)];exact⟨k+1,hk',by omega,zP (s:= []) ⟨⟨rfl,rfl,rfl,AP (by omega),tv⟩,tv,rfl,rfl,rfl,rfl,rfl⟩⟩
 ·exact⟨_,ri,rfl⟩
def Kp (l:List (List UInt8)):List UInt8:=l.foldl GH zero8
theorem xorL_len:∀ (l:List (List UInt8)) (a:List UInt8),a.length=8->(∀ b∈l,b.length=8)->(l.foldl GH a).length=8
 | [],_,h,_=>h
 | b::l,a,h,hl=>xorL_len l _ (by rw [FM,h,hl b (by simp)];rfl) fun c hc=>hl c (by simp [hc])
theorem VN (l:List (List UInt8)) (hl:l.length<=1000000) (h:∀ b∈l,b.length=8):Fn Tryz.prog 231 [Hr l,iv 8] fun r=>r = .tp [bA (Kp l),iv 0]:=by
 have ha:=RW l hl h;refine zT Tryz.func231 rfl ?_;conv=>whnf
 refine z_ ha ?_;refine⟨⟨rfl,by decide,by decide⟩,?_⟩;conv=>whnf
 refine zR Nat (fun k=>([(0,Hr l),(6, .ow 0 8),(23,Hr l),(24,iv (l.length:Nat)),(25,iv (k:Nat))], [.row 5 1 ((Kp (l.take k)).map Fb)])) (fun k=>k<=l.length) (fun k=>l.length - k) 0 (Ak _)
  (zP (s:= [0]) tA) ?_
 intro k hk;conv=>whnf
 refine AO (fun h6=>?_) (fun h6=>?_) <;> (repeat rw [Ac] at h6) <;> conv=>whnf
 ·have hk':k<l.length:=by omega
  have h8:=h _ (AC (d:=([]:List UInt8)) hk');have hx:(Kp (l.take k)).length=8:=xorL_len _ _ rfl fun b hb=>h b (Bn hb)
  have hi:=TA (Kp (l.take k)) (l.getD k []) (by omega) (by omega);rw [hx] at hi;have hs:GH (Kp (l.take k)) (l.getD k [])=Kp (l.take (k+1)):=by
   unfold Kp;rw [Bc,B_,Ab,Ae hk'];try rfl
  rw [hs] at hi;repeat' (refine zZ ?_;conv=>whnf)
  refine⟨⟨by omega,by omega⟩,?_⟩;conv=>whnf
  rw [Ac];repeat' (refine zZ ?_;conv=>whnf)
  refine hi.mono ?_;rintro _ _ ⟨rfl,rfl⟩;exact⟨k+1,hk',by omega,zP (s:= [0]) ⟨⟨rfl,rfl,rfl,rfl,AP (by omega),tv⟩,tA,rfl,rfl,rfl,rfl,rfl⟩⟩
 ·have ek:k=l.length:=by omega
  subst ek;have hx:(Kp l).length=8:=xorL_len _ _ rfl h;rw [A3];refine⟨(by rw [Aa,hx]),?_⟩;exact⟨.tp [bA (Kp l),iv 0],Ca (m:= [bA (Kp l),iv 0]) ⟨Nd hx.symm rfl,ri,tv⟩,rfl⟩
theorem Po (stamp:Int) (b:List UInt8) (hs:0<=stamp/\stamp<=4294967295) (hb:b.length=8):Fn Tryz.prog 230 [iv stamp,bA b] fun r=>r = .tp [.ag (Dm ⟨stamp,(DC b:Nat),false⟩),iv 0]:=by
 have h1:=IF b;refine zT Tryz.func230 rfl ?_;conv=>whnf
 rw [show decide (stamp<0)=false from decide_eq_false (by omega)];conv=>whnf
 rw [show decide (stamp > 4294967295)=false from decide_eq_false (by omega)];conv=>whnf
 rw [show ((b.length:Int) != 8)=false from bne_eq_false_iff_eq.2 (by rw [hb];try rfl)];conv=>whnf
 refine z_ h1 ?_;exact⟨_,ri,rfl⟩
theorem Vk (l:List Ent) (hl:l.length<=1000000000):ACalls Tryz.prog false 307 [BX l] [] fun r H=>r = .ow 0 l.length/\H=[.row 189 3 (l.map Dm)]:=by
 refine zG tys_ok Tryz.func307 rfl rfl (by show 1<=_;decide) ?_;refine Ah (fun h=>?_) ?_
 ·conv=>whnf
  have h0:=AI.1 h;subst h0;exact⟨_, .ow 0 0, [.row 189 3 []],fun _ _ h=>h,zK ⟨[(0,189,3)],tA,tA,tA,rfl,rfl,rfl⟩,rfl,rfl⟩
 ·refine⟨⟨rfl,by omega⟩,?_⟩;exact⟨.ow 0 l.length, .ow 0 l.length, [.row 189 3 (l.map Dm)],fun _ _ h=>by rwa [Au] at h,zK ⟨[],tv,tA,⟨(congrArg (AB.row _ _) (J1 (d:=(⟨0,0,false⟩:Ent)) Dm l)).symm,tv⟩,rfl,rfl,rfl⟩,rfl,rfl⟩
theorem Sl (t:List Ent) (ht:t.length<=1000000):ACalls Tryz.prog false 229 [.ag [BX t]] [] fun r H=>r = .ag [.ow 0 t.length]/\H=[.row 189 3 (t.map Dm)]:=by
 have h1:=Vk t (by omega);refine zU tys_ok Tryz.func229 rfl rfl (Af rfl) ?_;conv=>whnf
 refine zX h1 rfl ?_;rintro _ _ ⟨rfl,rfl⟩;exact⟨.ag [.ow 2 t.length], .ag [.ow 0 t.length], [.row 189 3 (t.map Dm)],fun _ _ h=>h,zP (s:= [2]) tA,rfl,rfl⟩
section
variable (g:Geo) (t:List Ent) (had:List (List UInt8)) (ats:List Int) (bs:List (List UInt8)) (stamp:Int)
def FG (i:Nat):List Ent:=(List.range i).map (N4 g t had ats bs stamp) ++ t.drop i
theorem OF {i:Nat} (h:i<=t.length):(FG g t had ats bs stamp i).length=t.length:=by simp [FG];omega
theorem KV {i:Nat} (h:i<t.length) (e:Ent):(FG g t had ats bs stamp i).set i e=(List.range i).map (N4 g t had ats bs stamp) ++ e::t.drop (i+1):=by
 rw [FG,C3 _ _ (by simp),Aa,CE,BA,Bw h];try rfl
theorem XZ {i:Nat} (h:i<t.length):(FG g t had ats bs stamp i).set i (t.getD i ez)=FG g t had ats bs stamp i:=by
 rw [KV g t had ats bs stamp h,FG,Bw h,Ab,Ae h];try rfl
theorem Mu {i:Nat} (h:i<t.length):(FG g t had ats bs stamp i).set i (N4 g t had ats bs stamp i)=FG g t had ats bs stamp (i+1):=by
 rw [KV g t had ats bs stamp h,FG,B8,A2,AA];try rfl
end
inductive TrJ where
 | fin
 | jump (k:Nat)
 | one (i:Nat) (r:TrJ)
 | non
 | alt (i:Nat) (a:TrJ) (r:TrJ)
def TrJ.o (l:List Nat) (t:TrJ):TrJ:=l.foldr .one t
abbrev Seg:=List Nat × Nat × TrJ
def segGet:List Seg->Nat->Option Seg
 | [],_=>none
 | x::_,0=>some x
 | _::r,k+1=>segGet r k
def TrJ.depth (sg:List Seg):TrJ->Nat
 | .fin=>0
 | .jump k=>match segGet sg k with | some s=>s.2.1 | none=>0
 | .one _ r=>r.depth sg+1
 | .non=>0
 | .alt _ a r=>max (a.depth sg+1) (r.depth sg)
def TrJ.alts:TrJ->List Nat
 | .alt i _ r=>i::r.alts
 | _=> []
def eqB:List Bool->List Bool->Bool
 | [], []=>true
 | a::l,b::m=>(a == b)&&eqB l m
 | _,_=>false
theorem eqB_eq:∀ {l m:List Bool},eqB l m=true->l=m
 | [], [],_=>rfl
 | a::l,b::m,h=>by
  simp only [eqB,Ad,beq_iff_eq] at h;rw [h.1,eqB_eq h.2]
 | [],_::_,h=>by simp [eqB] at h
 | _::_, [],h=>by simp [eqB] at h
def eqN:List Nat->List Nat->Bool
 | [], []=>true
 | a::l,b::m=>Nat.beq a b&&eqN l m
 | _,_=>false
theorem eqN_eq:∀ {l m:List Nat},eqN l m=true->l=m
 | [], [],_=>rfl
 | a::l,b::m,h=>by
  simp only [eqN,Ad] at h;rw [Am h.1,eqN_eq h.2]
 | [],_::_,h=>by simp [eqN] at h
 | _::_, [],h=>by simp [eqN] at h
def MS (n:Nat) (s:List Nat):Array Bool:=s.foldl (fun l i=>l.setIfInBounds i true) (Array.replicate n false)
abbrev Sts:=List (Fr × List AB)
def sget:Sts->Nat->Fr × List AB
 | [],_=>([], [])
 | x::_,0=>x
 | _::r,k+1=>sget r k
section
variable {P:Program} {ops:Array Oper} {B:List Nat} {Q:Exit->Act->World->Prop} {mk:Nat}
def F7 (ops:Array Oper) (B:List Nat) (mk:Nat) (sg:List Seg) (me:Nat):TrJ->Bool->Array Bool->Bool
 | .fin,f,l=>f&&(Region.ready .any ops l).isEmpty
 | .jump k,f,l=>f&&Nat.blt me k&&(match segGet sg k with | some s=>eqB l.toList (MS ops.size s.1).toList | none=>false)
 | .one i r,f,l=>f&&(match ops[i]? with
   | none=>false
   | some o=>match isEff o.op with
    | true=>(match Region.ready .any ops l with | [j]=>Nat.beq i j | _=>false)&&(qM mk i o.op || !IT ops B mk i)
    | false=>match mk.testBit i with
     | true=>(match Region.ready .any ops l with | [j]=>Nat.beq i j | _=>false)&&(qM mk i o.op || !IT ops B mk i)
     | false=>Region.free .any ops l i&&(Region.ready .any ops l).contains i)&&F7 ops B mk sg me r true (l.setIfInBounds i true)
 | .non,f,_=>!f
 | .alt i a r,f,l=>(!f || eqN (Region.ready .any ops l) (i::r.alts))&&Ku ops B mk i&&F7 ops B mk sg me a true (l.setIfInBounds i true)&&F7 ops B mk sg me r false l
def OH (P:Program) (T:Tys) (n mk:Nat) (ops:Array Oper) (ds:List Nat) (st:Sts) (K:Fr->List AB->Prop):TrJ->Fr->List AB->Prop
 | .fin,fr,H=>K fr H
 | .jump k,fr,H=>canonK ds fr fun l=>l=(sget st k).1/\H=(sget st k).2
 | .one i r,fr,H=>Ew P T n mk ops i fr H fun fr H=>OH P T n mk ops ds st K r fr H
 | .non,_,_=>True
 | .alt i a r,fr,H=>(Ew P T n mk ops i fr H fun fr H=>OH P T n mk ops ds st K a fr H)/\OH P T n mk ops ds st K r fr H
def Nx (P:Program) (T:Tys) (n mk:Nat) (ops:Array Oper) (ds:List Nat) (st:Sts) (K:Fr->List AB->Prop):List Seg->Nat->Prop
 | [],_=>True
 | s::r,k=>OH P T n mk ops ds st K s.2.2 (sget st k).1 (sget st k).2/\Nx P T n mk ops ds st K r (k+1)
def Ju (ops:Array Oper) (B:List Nat) (mk:Nat) (sg:List Seg):List Seg->Nat->Bool
 | [],_=>true
 | s::r,k=>F7 ops B mk sg k s.2.2 true (MS ops.size s.1)&&Nat.ble (s.2.2.depth sg) s.2.1&&Ju ops B mk sg r (k+1)
variable {T:Tys} {w0:Fl} {M0:Ms} {n d0:Nat} {ce:Ctx}
theorem KW {ds:List Nat} {st:Sts} {K:Fr->List AB->Prop}:∀ {sg:List Seg} {k0 k:Nat} {s:Seg},Nx P T n mk ops ds st K sg k0->segGet sg k=some s->OH P T n mk ops ds st K s.2.2 (sget st (k0+k)).1 (sget st (k0+k)).2
 | [],_,_,_,_,h=>by simp [segGet] at h
 | x::r,k0,0,s,h,hs=>by
  simp only [segGet,Option.some.injEq] at hs;subst hs;exact h.1
 | x::r,k0,k+1,s,h,hs=>by
  have:=KW (k:=k) h.2 hs;rw [show k0+(k+1)=k0+1+k by omega];exact this
theorem KN {sg0:List Seg}:∀ {sg:List Seg} {k0 k:Nat} {s:Seg},Ju ops B mk sg0 sg k0=true->segGet sg k=some s->F7 ops B mk sg0 (k0+k) s.2.2 true (MS ops.size s.1)=true/\s.2.2.depth sg0<=s.2.1
 | [],_,_,_,_,h=>by simp [segGet] at h
 | x::r,k0,0,s,h,hs=>by
  simp only [segGet,Option.some.injEq] at hs;subst hs;simp only [Ju,Ad] at h;exact⟨h.1.1,Af h.1.2⟩
 | x::r,k0,k+1,s,h,hs=>by
  simp only [Ju,Ad] at h;have:=KN (k:=k) h.2 hs;rw [show k0+(k+1)=k0+1+k by omega];exact this
theorem segGet_lt:∀ {sg:List Seg} {k:Nat} {s:Seg},segGet sg k=some s->k<sg.length
 | [],_,_,h=>by simp [segGet] at h
 | _::_,0,_,_=>by simp
 | _::r,k+1,s,h=>by
  have:=segGet_lt (sg:=r) (k:=k) h;simp;omega
def XB (P:Program) (T:Tys) (ops:Array Oper) (B:List Nat) (mk n:Nat) (Q:Exit->Act->World->Prop) (w0:Fl) (M0:Ms) (ce:Ctx) (st:Sts) (sg:List Seg) (k:Nat):Prop:=
 ∀ (s:Seg) (m:Nat) (c:Ctx) (a:Act),segGet sg k=some s->s.2.1<=m->Cl ops (MS ops.size s.1)->HS w0 M0 c (sget st k).2->FR w0 c n (sget st k).1 a->Ext ce c->HeldM P ops B mk Q m (MS ops.size s.1) a c.w
theorem EB (hT:TOk P T) (hB:FF ops B=true) (hns:Region.noSelect ops=true) {ds:List Nat} {st:Sts} {sg:List Seg} {K:Fr->List AB->Prop} (hq:∀ a w,DI w0 M0 ce n K a w->Q .normal a w) (hpan:∀ c a w,¬Q (.panic c) a w) {me:Nat} (hseg:∀ k,me<k->XB P T ops B mk n Q w0 M0 ce st sg k) :
  ∀ (r:TrJ) (m:Nat) (l:Array Bool) (c:Ctx) (fr:Fr) (H:List AB) (a:Act),Cl ops l->HS w0 M0 c H->FR w0 c n fr a->Ext ce c->OH P T n mk ops ds st K r fr H->
   (F7 ops B mk sg me r true l=true->r.depth sg<=m->HeldM P ops B mk Q m l a c.w)/\
   (F7 ops B mk sg me r false l=true->r.depth sg<=m+1->∀ j∈r.alts,j∈Region.ready .any ops l->wpOp P ops Q j (fun a' w'=>(IT ops B mk j=true->Old c.w w')/\HeldM P ops B mk Q m (l.setIfInBounds j true) a' w') a c.w)
 | .fin,m,l,c,fr,H,a,hcl,hs,hf,he,h=>by
  refine⟨fun hd hm=>?_,fun _ _ j hj=>by simp [TrJ.alts] at hj⟩;simp only [F7,B5,List.isEmpty_iff] at hd;cases m with
  | zero=>exact⟨hd,hq _ _ ⟨c,fr,H,rfl,h,hs,hf,he⟩⟩
  | succ m=>exact⟨fun _=>hq _ _ ⟨c,fr,H,rfl,h,hs,hf,he⟩,by rw [hd];simp⟩
 | .jump k,m,l,c,fr,H,a,hcl,hs,hf,he,h=>by
  refine⟨fun hd hm=>?_,fun _ _ j hj=>by simp [TrJ.alts] at hj⟩;simp only [F7,B5,Ad] at hd;simp only [TrJ.depth] at hm;obtain⟨hlt,hd⟩:=hd;cases hg:segGet sg k with
  | none=>rw [hg] at hd;simp at hd
  | some s=>
   rw [hg] at hd hm;simp only at hd hm;have hl:l=MS ops.size s.1:=Array.ext' (eqB_eq hd);obtain⟨e1,e2⟩:=canonK_iff h;subst hl;refine hseg k (As (Bq me) (Af hlt)) s m c a hg hm hcl (e2 ▸ hs) (e1 ▸ hf.canon _) he
 | .non,m,l,c,fr,H,a,hcl,hs,hf,he,h=>by
  refine⟨fun hd hm=>by simp [F7] at hd,fun _ _ j hj=>by simp [TrJ.alts] at hj⟩
 | .alt i x r,m,l,c,fr,H,a,hcl,hs,hf,he,h=>by
  obtain⟨h1,h2⟩:=h;have key:∀ m,TrJ.depth sg (.alt i x r)<=m+1->Ku ops B mk i=true->F7 ops B mk sg me x true (l.setIfInBounds i true)=true->i∈Region.ready .any ops l->wpOp P ops Q i (fun a' w'=>(IT ops B mk i=true->Old c.w w')/\HeldM P ops B mk Q m (l.setIfInBounds i true) a' w') a c.w:=by
   intro m hm hk hx hr;simp only [TrJ.depth] at hm;unfold Ku at hk;split at hk
   ·rename_i o ho;refine EF hT ho hk hs hf he (fun c' fr' H' a' q1 q2 q3 q4=>(EB hT hB hns hq hpan hseg x m _ c' fr' H' a' (hcl.set hr) q1 q2 q3 q4).1 hx (by omega)) h1
   ·cases hk
  refine⟨fun hd hm=>?_,fun hd hm j hj hr=>?_⟩
  ·simp only [F7,Bool.not_true,Bool.false_or,Ad] at hd;obtain⟨⟨⟨hr,hi⟩,hx⟩,hy⟩:=hd;have hr':=eqN_eq hr;cases m with
   | zero=>simp only [TrJ.depth] at hm;omega
   | succ m=>
    refine⟨fun h0=>(by rw [hr'] at h0;cases h0),fun j hj=>?_⟩;have hj0:=hj;rw [hr',AT] at hj;rcases hj with rfl | hj
    ·exact key m hm hi hx hj0
    ·refine(EB hT hB hns hq hpan hseg r m l c fr H a hcl hs hf he h2).2 hy ?_ j hj hj0;simp only [TrJ.depth] at hm;omega
  ·simp only [F7,Bool.not_false,Bool.true_or,B5,Ad] at hd;obtain⟨⟨hi,hx⟩,hy⟩:=hd;simp only [TrJ.alts,AT] at hj;rcases hj with rfl | hj
   ·exact key m hm hi hx hr
   ·refine(EB hT hB hns hq hpan hseg r m l c fr H a hcl hs hf he h2).2 hy ?_ j hj hr;simp only [TrJ.depth] at hm;omega
 | .one i r,m,l,c,fr,H,a,hcl,hs,hf,he,h=>by
  refine⟨fun hd hm=>?_,fun _ _ j hj=>by simp [TrJ.alts] at hj⟩;cases m with
  | zero=>simp [TrJ.depth] at hm
  | succ m=>
   simp only [TrJ.depth,Nat.add_le_add_iff_right] at hm;simp only [F7,B5,Ad] at hd;obtain⟨hd1,hd2⟩:=hd;simp only [OH] at h;cases ho:ops[i]? with
   | none=>rw [ho] at hd1;simp at hd1
   | some o=>
    rw [ho] at hd1;simp only at hd1;have only:(match Region.ready .any ops l with | [j]=>Nat.beq i j | _=>false)=true->(qM mk i o.op || !IT ops B mk i)=true->HeldM P ops B mk Q (m+1) l a c.w:=by
     intro hr hmq;have hr':Region.ready .any ops l=[i]:=by
      split at hr
      ·rename_i j hj;rw [hj,Am hr]
      ·cases hr
     have hri:i∈Region.ready .any ops l:=by rw [hr'];simp
     refine⟨fun h0=>(by rw [hr'] at h0;cases h0),fun j hj=>?_⟩;rw [hr',A9] at hj;subst hj;exact EF hT ho hmq hs hf he (fun c' fr' H' a' q1 q2 q3 q4=>(EB hT hB hns hq hpan hseg r m _ c' fr' H' a' (hcl.set hri) q1 q2 q3 q4).1 hd2 hm) h
    cases hE:isEff o.op with
    | true=>
     rw [hE] at hd1;simp only [Ad] at hd1;exact only hd1.1 hd1.2
    | false=>
     rw [hE] at hd1;dsimp only at hd1;cases hM:mk.testBit i with
     | true=>
      rw [hM] at hd1;simp only [Ad] at hd1;exact only hd1.1 hd1.2
     | false=>
     rw [hM] at hd1;simp only [Ad] at hd1;obtain⟨hfree,hr⟩:=hd1;have hri:i∈Region.ready .any ops l:=by simpa using hr
     simp only [Ew,DH] at h;rw [show ops.toList[i]? = some o by simpa using ho] at h;simp only at h;have step:∀ v fr2,YieldsIf P ops (fun w'=>pureOp o.op=true\/Old c.w w') o v a->FR w0 c n fr2 (a.put o.dst v)->OH P T n mk ops ds st K r fr2 H->HeldM P ops B mk Q (m+1) l a c.w:=by
      intro v fr2 hy hf2 h2;exact HeldM.first1 hB ho hM hE (Region.noSelect_spec hns) (fun c a w h=>(hpan _ _ _ h).elim) m l a c.w hcl (Region.free_spec ho hfree) hri hy
       ((EB hT hB hns hq hpan hseg r m _ c fr2 H _ (hcl.set hri) hs hf2 he h2).1 hd2 hm)
     rcases Dh hf h with ⟨hw,fr',hf',h⟩ | ⟨hw,fr',hf',h⟩
     ·unfold GR at h;rw [hE] at h;obtain⟨rr,v,h1,h2,h3⟩:=(Gb hT hs hf' h).y;obtain⟨fr2,h4,h5⟩:=Cm hf' h3 h1;exact step v fr2 (.inl ⟨hw,h2⟩) h5 h4
     ·obtain⟨fr2,h4,h5⟩:=Cm (v:=undef) hf' (by simp [Rd]) h;exact step undef fr2 (.inr ⟨hw,rfl⟩) h5 h4
theorem KM (hT:TOk P T) (hB:FF ops B=true) (hns:Region.noSelect ops=true) {ds:List Nat} {st:Sts} {sg:List Seg} {K:Fr->List AB->Prop} (hq:∀ a w,DI w0 M0 ce n K a w->Q .normal a w) (hpan:∀ c a w,¬Q (.panic c) a w) (hok:Ju ops B mk sg sg 0=true) (h:Nx P T n mk ops ds st K sg 0):∀ (z k:Nat),sg.length<=z+k->XB P T ops B mk n Q w0 M0 ce st sg k
 | 0,k,hz,s,m,c,a,hg,_,_,_,_,_=>by
  have:=segGet_lt hg;omega
 | z+1,k,hz,s,m,c,a,hg,hm,hcl,hs,hf,he=>by
  obtain⟨h1,h2⟩:=KN hok hg;have h3:=KW h hg;rw [Au] at h1 h3;exact(EB hT hB hns hq hpan (fun k' hk'=>KM hT hB hns hq hpan hok h z k' (by omega)) s.2.2 m _ c _ _ a hcl hs hf he h3).1 h1 (by omega)
def X8 (ops:Array Oper) (mk:Nat) (sg:List Seg):Bool:=FF ops (JL ops)&&Region.noSelect ops&&(match sg with | ([],d,_)::_=>Nat.ble d ops.size | _=>false)&&Ju ops (JL ops) mk sg sg 0
theorem aDraw.dag (mk:Nat) (hT:TOk P T) (hm:P.follows .mixedOrders=true) {id:Nat} {K:Fr->List AB->Prop} {fr:Fr} {H:List AB} (sg:List Seg) (ds:List Nat) (st:Sts) {F:Fr} {H2:List AB} (hok:X8 ops mk sg=true)
  (h:Nx P T n mk ops (ds ++ slots fr) ((fr,H)::st) (fun fr' H'=>canonK (ds ++ slots fr) fr' fun l=>l=F/\H'=H2) sg 0) (hk:K F H2):aDraw P T n d0 id ops K fr H:=by
 simp only [X8,Ad] at hok;obtain⟨⟨⟨hB,hns⟩,hlen⟩,hok⟩:=hok;refine⟨fun w0 M0 ce c a hs hf he hd Q hQ=>?_⟩;refine wp_mono (Q:=fun e a w=>e = .normal/\DI w0 M0 ce n (fun fr' H'=>canonK (ds ++ slots fr) fr' fun l=>l=F/\H'=H2) a w) ?_ ?_
 ·refine wp_region_any hm (HeldM.any (B:=JL ops) (mk:=mk) _ _ _ _ ?_);have hb:=(Below.refl c.w.heap.size c.w).drew;obtain⟨h1,h2⟩:=hs.grow hb;have hcl:Cl ops (Array.replicate ops.size false):=by
   intro j o hj hlj;rcases BR j ops.size with h' | h'
   ·simp [h'] at hlj
   ·simp [By h'] at hj
  cases sg with
  | nil=>simp at hlen
  | cons s sg=>
   obtain⟨s1,d,tr⟩:=s;cases s1 with
   | cons _ _=>simp at hlen
   | nil=>
    exact KM (w0:=w0) (M0:=M0) (ce:=ce) (st:=(fr,H)::st) hT hB hns (fun a w hl=>⟨rfl,hl⟩) (fun c a w h=>by cases h.1) hok h _ 0 (Ag _) ([],d,tr) _ { c with w:=c.w.drew } a rfl (Af hlen) hcl h1 (hf.ext h2) (he.trans h2)
 ·rintro e a w ⟨rfl,c',fr',H',rfl,h1,h2,h3,h4⟩;obtain⟨e1,rfl⟩:=canonK_iff h1;exact hQ c' F H' a hk h2 (e1 ▸ h3.canon _) h4
end
theorem R3 {d:Dk} (hd:DkOk d) (hl:d.left<0) (k:Nat):Lv d k:=⟨hd.r, .inl hl⟩
theorem Oi (k:Nat) (d:Dk) (l:List Int):B3 (d.tick k) l=B3 d l:=rfl
theorem finL_two:∀ (l:List Wr) (cs:List Cel) (a:Nat),((CB cs l).getD a cz).state=2↔(cs.getD a cz).state=2:=fun l cs a=>by
 by_cases ha:a<cs.length
 ·by_cases h:(cs.getD a cz).state=2
  ·rw [finL_stuck l cs a ha h]
  ·rcases finL_any l cs a ha with e | ⟨_,e,_⟩
   ·rw [e]
   ·omega
 ·rw [Ab,Ab,AE (by rw [finL_len];omega),AE (by omega)]
theorem UX (l:List Wr) (cs:List Cel):free (CB cs l)=free cs:=by
 funext w;unfold free;rw [Bool.eq_iff_iff,decide_eq_true_eq,decide_eq_true_eq];exact not_congr (finL_two l cs _)
def Lb (g:Geo) (w:List Wr):Nat:=g.an.toNat+2*g.sl.toNat+(if w=[] then 0 else w.length+1)+(g.an.toNat+1)
theorem N5 {g:Geo} {d:Dk} {a:An} {j:Nat} {L:List Tx} {w:List Wr} (hg:Bm g=true) (hd:DkOk d) (hn:(d.cells.length:Int)=A7 g) (hc:d.cache=[]) (hl:d.left<0) (hp:FQ g (B3 d (Di g))=some (a,j)) (hs:GT g a (B3 d (BC g 0)) (B3 d (BC g 1))=(L,w,0)) (h1:a.gen≠4294967295) (h2:a.epoch≠4294967295) (hw1:∀ z∈w,VH d.cells.length z) (hw2:w.length<=900) :
  J5 g d=(⟨CB (CB d.cells w) (AR g (DT a L.length)), [],(d.tick (Lb g w)).reqs,d.left⟩,if ((AR g (DT a L.length)).filter (free d.cells)).length=0 then 14 else 0,if ((AR g (DT a L.length)).filter (free d.cells)).length=0 then st0 else Bf (DT a L.length) L):=by
 obtain⟨g1,g2,g3,g4,g5⟩:=Az.1 hg;have hao:=K1 hg _ hp;have hlv:∀ k,d.live k:=fun k=> .inl hl
 have htl:∀ k,(d.tick k).left=d.left:=fun k=>if_pos hl
 have hr:=hd.r;unfold J5;rw [if_pos (hlv _),hp];simp only;unfold Qx;rw [Jm _ (R3 hd hl _),if_pos (show (d.tick g.an.toNat).live _ from .inl (by rw [htl];exact hl)),Oi,Oi,hs];rw [Jm _ (show Lv (d.tick g.an.toNat) (2*g.sl.toNat) from IE (R3 hd hl _)),FO _ _ hr.2 (.inl hl)];unfold Qw;simp only [ne_eq,not_true,if_false];have hm:(d.tick (g.an.toNat+2*g.sl.toNat)).mend w=(⟨CB d.cells w, [],(d.tick (g.an.toNat+2*g.sl.toNat+(if w=[] then 0 else w.length+1))).reqs,d.left⟩,false):=by
  unfold Dk.mend;by_cases hw:w=[]
  ·subst hw;rw [if_pos rfl,if_pos rfl,BS];simp only [Prod.mk.injEq,and_true];show (d.tick _:Dk)=_;unfold Dk.tick;rw [hc,if_pos hl];try rfl
  ·rw [if_neg hw,if_neg hw,IP (IE (R3 hd hl _)) hc (by omega),FO _ _ hr.2 (.inl hl)];simp only [htl];rfl
 rw [hm];simp only [BU,if_false];unfold Qv;rw [if_neg (by rintro(h | h);exact h1 h;exact h2 h)];obtain⟨K,hK⟩:∃ K,K=g.an.toNat+2*g.sl.toNat+(if w=[] then 0 else w.length+1):=⟨_,rfl⟩;rw [<-hK];have hrk:0<=(d.tick K).reqs/\(d.tick K).reqs<=1048576:=by show 0<=min _ _/\min _ _<=_;omega
 have hlen:=EU g (DT a L.length);rw [IP (d:=⟨CB d.cells w, [],(d.tick K).reqs,d.left⟩) ⟨hrk, .inl hl⟩ rfl (by omega)];simp only [BU,if_false,UX,hlen];have e1:((⟨CB d.cells w, [],(d.tick K).reqs,d.left⟩:Dk).tick (g.an.toNat+1)).left=d.left:=if_pos hl;have e2:((⟨CB d.cells w, [],(d.tick K).reqs,d.left⟩:Dk).tick (g.an.toNat+1)).reqs=(d.tick (Lb g w)).reqs:=by
  show min ((d.tick K).reqs+((g.an.toNat+1:Nat):Int)) _=min _ _;show min (min (d.reqs+(K:Nat)) 1048576+((g.an.toNat+1:Nat):Int)) 1048576=min (d.reqs+(Lb g w:Nat)) 1048576;unfold Lb;omega
 grind
theorem KU (g:Geo) (l:List Gt):∀ k,(E5 g l k=none->∀ i,i<k->DE g (l.getD i ⟨0, []⟩) (i:Nat)=none)/\∀ a j,E5 g l k=some (a,j)->j<k/\DE g (l.getD j ⟨0, []⟩) (j:Nat)=some a/\∀ i b,i<k->DE g (l.getD i ⟨0, []⟩) (i:Nat)=some b->b.gen<=a.gen
 | 0=>⟨fun _ i hi=>by omega,fun a j h=>by cases h⟩
 | k+1=>by
  obtain⟨ih1,ih2⟩:=KU g l k;rw [In,OA];cases hS:DE g (l.getD k ⟨0, []⟩) (k:Nat) with
  | none=>
   grind
  | some c=>
   grind
theorem QW {g:Geo} {d:Dk} {i:Nat} (hi:i<g.an.toNat):(B3 d (Di g)).getD i ⟨0, []⟩=ND d (i:Nat):=by
 rw [B3,AQ (d:=0) (by rw [Es];exact hi),MV hi]
theorem Qi {g:Geo} {a:An} {i:Nat} (hg:Bm g=true) (ha:Bz g a=true) (hi:(i:Int)<=65535):DE g ⟨0,Dn a i⟩ i=some a:=by
 obtain⟨e1,e2,e3,e4⟩:=Hy (MT hg ha (i:=(i:Nat)) ⟨by omega,hi⟩);unfold DE;rw [if_pos ⟨rfl,e1,e2⟩];show (match DG g (Cv (Dn a i)) with | some a_1=>if a_1.gen=Cp (Dn a i) then some a_1 else none | none=>none)=_;rw [show Cv (Dn a i)=Jk a from e4,S6 hg ha,show Cp (Dn a i)=a.gen from e3];simp
section
variable {g:Geo} {a:An} {fill:UInt8} {sizes:List Int}
end
theorem Lh {g:Geo} {c s:Int} (hc:c=0\/c=1) (hs:0<=s/\s<g.sl):g.an<=Bk g c s/\Bk g c s<g.an+2*g.sl:=by
 unfold Bk
 grind
section
variable {g:Geo} {s:ByteArray} {a:An} {fill:UInt8} {sizes:List Int}
theorem Jj {b:An} (hg:Bm g=true) (hb:Bz g b=true) (i:Int):(Dn b i).length<=200:=by
 have:=JO hg hb;rw [Dn,E9];omega
end
theorem Kz {cs:List Cel} {n:Nat} (h:cs.length=n) {k:Nat} (hk:k<n):(cs.map Cg).getD k []=Cg (cs.getD k cz):=AQ (by omega)
theorem Rg {g:Geo} (hg:Bm g=true):H7 g (E2 g)=true:=by
 obtain⟨g1,g2,g3,g4,g5⟩:=Az.1 hg;have hz:=IG zero8;simp only [H7,hg,E2,Bh,Ad,decide_eq_true_eq,B5];refine⟨⟨by omega,?_⟩,?_⟩
 ·rw [Av];intro e he;rw [AU he];simp [Ee,ent0,Ig,Dq];exact decide_eq_true (by omega)
 ·have:Is (List.replicate (g.d+1).toNat ent0) g.d.toNat=false:=by
   unfold Is;rw [C7 (by omega)];try rfl
  rw [this];try rfl
theorem TO {g:Geo} (hg:Bm g=true) {a:Int} (ha:0<=a/\a<=65535):Xs a 0 (De (E2 g)):=by
 obtain⟨g1,g2,g3,g4,g5⟩:=Az.1 hg;refine⟨ha.1,ha.2,C8 _,by decide,?_⟩;rw [EO,E2,Bh];omega
theorem Tl (g:Geo) (s:ByteArray) (hg:Bm g=true) (hs:Et s.data.toList=0) (hl:s.size<=1000000):Fn Tryz.prog 42 [.ag (Bi g), .v (.string s)] fun r=>r = .tp [.ag (Zu (DS g s)),iv 0]:=by
 obtain⟨g1,g2,g3,g4,g5⟩:=Az.1 hg;have hcg:=Ef hg;have hp:=Hb hg;have hN:1<=(A7 g).toNat/\(A7 g).toNat<=300:=by
  have:g.z*CF g<=4*7:=Int.mul_le_mul (by omega) (by omega) (by omega) (by omega);unfold A7 at hcg |-
  omega
 have hcN:A7 g=((A7 g).toNat:Int):=by omega
 have hao:=JI hg hs;have hA:=T6 g s hl;rw [hg,if_pos rfl,if_pos hs,if_pos rfl,hs] at hA;have hC:=Ti g hg;rw [hcN] at hC;have hD:=Vn (A7 g).toNat hN;refine zT Tryz.func42 rfl ?_;conv=>whnf
 refine z_ hA ?_;conv=>whnf
 refine z_ hC ?_;conv=>whnf
 refine zX hD rfl ?_;rintro _ _ ⟨rfl,rfl⟩;conv=>whnf
 refine zR Nat (fun k=>([(2, .bp 0 0),(4, .bp 1 0),(5,ze 0),(6, .bp 2 0),(10, .bp 3 0),(51,ze g.an),(52,ze k)], [.box 24 (Bi g), .box 38 [nilV,nilV,ze 0,ze 0], .box 28 (EN (BK g s)), .box 38 [.ow 4 (A7 g).toNat,nilV,ze 0,ze (-1)], .row 68 3 ((DR (I1 g) ((AR g (BK g s)).take k)).map Cg)])) (fun k=>k<=g.an.toNat) (fun k=>g.an.toNat - k) 0 (Ak _)
  ?_ ?_
 ·refine zH (zO (zp (k:=3) rfl (es':=(I1 g).map Cg) (by simp [I1]) fun i=>?_)) (s:= [0,1,2,4,3]) tA;rw [I1,List.map_replicate];by_cases hi:i<(A7 g).toNat
  ·rw [IZ hi,IZ hi];exact⟨fun _ _ h=>h,Bl 1 _,Bl 1 _,tv⟩
  ·rw [Ab,Ab,AE (by simpa using hi),AE (by simpa using hi)];exact SubL.refl _
 ·intro k hk;conv=>whnf
  refine AO (fun h6=>?_) (fun h6=>?_) <;> (repeat rw [Ac] at h6) <;> conv=>whnf
  ·have hk':k<(AR g (BK g s)).length:=by rw [EU];omega
   have hsx:=HR (I1 g) hk';rw [Ko (by omega)] at hsx;have hlx:(DR (I1 g) ((AR g (BK g s)).take k)).length=(A7 g).toNat:=by rw [E0,L5]
   generalize DR (I1 g) ((AR g (BK g s)).take k)=cs at hsx hlx |-
   have hga:=Fy g k hg (by omega);have hnc:=OL g (BK g s) k hg hao (by omega);have hE:(cs.map Cg).getD (k:Int).toNat []=Cg (cs.getD (k:Int).toNat cz):=Kz hlx (by omega);repeat' (refine zZ ?_;conv=>whnf)
   refine z_ hga ?_;conv=>whnf
   apply zW (0) tys_ok mixed (.o [0,1,2,3,4,5,6,7,8,9,10,11,12] .fin) (by kernel_rfl);conv=>whnf
   refine z_ hnc ?_;conv=>whnf
   try (refine tI ?_;conv=>whnf)
   try (refine tS ?_;conv=>whnf)
   (first | rw [hE] | skip)
   conv=>whnf
   exact⟨k+1,by omega,by omega,zP (s:= [0,1,2,3,4]) ⟨⟨rfl,rfl,rfl,rfl,rfl,rfl,AP (by omega),tv⟩,⟨rfl,rfl,rfl,rfl,congrArg (fun l=>some (AB.row _ _ l)) (by rw [hsx,I_];try rfl),tv⟩,rfl,rfl,rfl,rfl,rfl⟩⟩
  ·have ek:k=(AR g (BK g s)).length:=by rw [EU];omega
   rw [ek,A3];refine zR Nat (fun c=>([(2, .bp 0 0),(4, .bp 1 0),(5,ze 0),(6, .bp 2 0),(10, .bp 3 0),(74,ze c)], [.box 24 (Bi g), .box 38 [nilV,nilV,ze 0,ze 0], .box 28 (EN (BK g s)), .box 38 [.ow 4 (A7 g).toNat,nilV,ze 0,ze (-1)], .row 68 3 ((NH g s c).map Cg)])) (fun c=>c<=2) (fun c=>2 - c) 0 (Ak _)
    (zP (s:= [0,1,2,3,4]) tA) ?_
   intro c hc;conv=>whnf
   refine AO (fun h7=>?_) (fun h7=>?_) <;> (repeat rw [Ac] at h7) <;> conv=>whnf
   ·have hc01:(c:Int)=0\/(c:Int)=1:=by omega
    repeat' (refine zZ ?_;conv=>whnf)
    refine zR Nat (fun i=>([(2, .bp 0 0),(4, .bp 1 0),(5,ze 0),(6, .bp 2 0),(10, .bp 3 0),(15,ze c),(74,ze c),(78,ze g.sl),(79,ze i)], [.box 24 (Bi g), .box 38 [nilV,nilV,ze 0,ze 0], .box 28 (EN (BK g s)), .box 38 [.ow 4 (A7 g).toNat,nilV,ze 0,ze (-1)], .row 68 3 ((DR (NH g s c) ((Gx g c).take i)).map Cg)])) (fun i=>i<=g.sl.toNat) (fun i=>g.sl.toNat - i) 0 (Ak _)
     (zP (s:= [0,1,2,3,4]) tA) ?_
    intro i hi;conv=>whnf
    refine AO (fun h8=>?_) (fun h8=>?_) <;> (repeat rw [Ac] at h8) <;> conv=>whnf
    ·have hlw:(Gx g c).length=g.sl.toNat:=by simp [Gx]
     have hi':i<(Gx g c).length:=by omega
     have hsx:=HR (NH g s c) hi';rw [show (Gx g c).getD i ⟨0, []⟩=⟨Bk g c (i:Nat),BN g zeroC c (i:Nat)⟩ from J0 (by omega)] at hsx;have hlx:(DR (NH g s c) ((Gx g c).take i)).length=(A7 g).toNat:=by rw [E0,L4]
     generalize DR (NH g s c) ((Gx g c).take i)=cs at hsx hlx |-
     have hla:=Qy g c i hg hc01 (by omega);have hin:=Fv (n:=(A7 g).toNat) hg hcN.symm hc01 (s:=i) (by omega);have hrc:=KT g zeroC c i (by decide);rw [Eo hg,show I6 g c i=true by simp only [I6,Ad,AK];omega] at hrc;have hE:(cs.map Cg).getD (Bk g c i).toNat []=Cg (cs.getD (Bk g c i).toNat cz):=Kz hlx (by omega);repeat' (refine zZ ?_;conv=>whnf)
     refine z_ hla ?_;conv=>whnf
     apply zW (0) tys_ok mixed (.o [0,1,2,3,4,5,6,7,8,9,10,11,12,13] .fin) (by kernel_rfl);conv=>whnf
     (refine zV [.ag (Bi g), .ag (G_ zeroC),ze c,ze i] (by repeat' (first | exact trivial | exact fun _ _ h=>h | exact Bl _ _ | refine Ah ?_ ?_ | refine B7 ?_)) ?_;refine z_ hrc ?_)
     conv=>whnf
     try (refine tI ?_;conv=>whnf)
     try (refine tS ?_;conv=>whnf)
     (first | rw [hE] | skip)
     conv=>whnf
     exact⟨i+1,by omega,by omega,zP (s:= [0,1,2,3,4]) ⟨⟨rfl,rfl,rfl,rfl,rfl,rfl,rfl,rfl,AP (by omega),tv⟩,⟨rfl,rfl,rfl,rfl,congrArg (fun l=>some (AB.row _ _ l)) (by rw [hsx,I_];try rfl),tv⟩,rfl,rfl,rfl,rfl,rfl⟩⟩
    ·have ei:i=(Gx g c).length:=by simp [Gx];omega
     repeat' (refine zZ ?_;conv=>whnf)
     exact⟨c+1,by omega,by omega,zP (s:= [0,1,2,3,4]) ⟨⟨rfl,rfl,rfl,rfl,rfl,AP (by omega),tv⟩,⟨rfl,rfl,rfl,rfl,by rw [ei,A3];try rfl,tv⟩,rfl,rfl,rfl,rfl,rfl⟩⟩
   ·have ec:c=2:=by omega
    subst ec;have hT:=Sn g hg;have hB:=Jq g (E2 g) (by rw [E2,Bh];omega);rw [Rg hg] at hB;refine z_ hT ?_;conv=>whnf
    refine z_ hB ?_;conv=>whnf
    refine zR Nat (fun z=>([(2, .bp 0 0),(4, .bp 1 0),(5,ze 0),(6, .bp 2 0),(10, .bp 3 0),(21,bA (De (E2 g))),(116,ze g.z),(117,ze z)], [.box 24 (Bi g), .box 38 [nilV,nilV,ze 0,ze 0], .box 28 (EN (BK g s)), .box 38 [.ow 4 (A7 g).toNat,nilV,ze 0,ze (-1)], .row 68 3 ((GL g s z).map Cg)])) (fun z=>z<=g.z.toNat) (fun z=>g.z.toNat - z) 0 (Ak _)
     (zP (s:= [0,1,2,3,4]) tA) ?_
    intro z hz;conv=>whnf
    refine AO (fun h9=>?_) (fun h9=>?_) <;> (repeat rw [Ac] at h9) <;> conv=>whnf
    ·have htb:∀ k:Nat,k<2->0<=Ba g z k/\Ba g z k<((A7 g).toNat:Int):=fun k hk=>by unfold Ba;omega
     have hmul:(z:Int)*CF g<=(g.z - 1)*CF g:=Cb (by omega) (by omega);have hz0:0<=(z:Int)*CF g:=C_ (by omega) (by omega);have hsb:∀ k:Nat,(k:Int)<CF g->0<=Cu g z k/\Cu g z k<((A7 g).toNat:Int):=fun k hk=>by
      rw [<-hcN];unfold Cu A7;rw [Int.sub_mul,Int.one_mul] at hmul;omega
     repeat' (refine zZ ?_;conv=>whnf)
     refine zR Nat (fun k=>([(2, .bp 0 0),(4, .bp 1 0),(5,ze 0),(6, .bp 2 0),(10, .bp 3 0),(21,bA (De (E2 g))),(23,ze z),(116,ze g.z),(117,ze z),(120,ze k)], [.box 24 (Bi g), .box 38 [nilV,nilV,ze 0,ze 0], .box 28 (EN (BK g s)), .box 38 [.ow 4 (A7 g).toNat,nilV,ze 0,ze (-1)], .row 68 3 ((DR (GL g s z) ((HZ g z).take k)).map Cg)])) (fun k=>k<=2) (fun k=>2 - k) 0 (Ak _)
      (zP (s:= [0,1,2,3,4]) tA) ?_
     intro k hk;conv=>whnf
     refine AO (fun h10=>?_) (fun h10=>?_) <;> (repeat rw [Ac] at h10) <;> conv=>whnf
     ·have hlw:(HZ g z).length=2:=by simp [HZ]
      have hk':k<(HZ g z).length:=by omega
      have hsx:=HR (GL g s z) hk';rw [show (HZ g z).getD k ⟨0, []⟩=⟨Ba g z (k:Nat),CC (Ba g z (k:Nat)) 0 (De (E2 g))⟩ from J0 (by omega)] at hsx;have hlx:(DR (GL g s z) ((HZ g z).take k)).length=(A7 g).toNat:=by rw [E0,F_]
      generalize DR (GL g s z) ((HZ g z).take k)=cs at hsx hlx |-
      have hgt:=JE g z k hg (by omega) (by omega);have hin:=htb k (by omega);have hmk:=IH (Ba g z k) 0 (De (E2 g)) (TO hg (by omega));have hE:(cs.map Cg).getD (Ba g z k).toNat []=Cg (cs.getD (Ba g z k).toNat cz):=Kz hlx (by omega);repeat' (refine zZ ?_;conv=>whnf)
      refine z_ hgt ?_;conv=>whnf
      apply zW (0) tys_ok mixed (.o [0,1,2,3,4,5,6,7,8,9,10,11,12] .fin) (by kernel_rfl);conv=>whnf
      refine z_ hmk ?_;conv=>whnf
      try (refine tI ?_;conv=>whnf)
      try (refine tS ?_;conv=>whnf)
      (first | rw [hE] | skip)
      conv=>whnf
      exact⟨k+1,by omega,by omega,zP (s:= [0,1,2,3,4]) ⟨⟨rfl,rfl,rfl,rfl,rfl,rfl,rfl,rfl,rfl,AP (by omega),tv⟩,⟨rfl,rfl,rfl,rfl,congrArg (fun l=>some (AB.row _ _ l)) (by rw [hsx,I_];try rfl),tv⟩,rfl,rfl,rfl,rfl,rfl⟩⟩
     ·have ek:k=(HZ g z).length:=by simp [HZ];omega
      rw [ek,A3];have hpr:=HP g hg;repeat' (refine zZ ?_;conv=>whnf)
      refine z_ hpr ?_;conv=>whnf
      refine zR Nat (fun i=>([(2, .bp 0 0),(4, .bp 1 0),(5,ze 0),(6, .bp 2 0),(10, .bp 3 0),(21,bA (De (E2 g))),(23,ze z),(116,ze g.z),(117,ze z),(144,ze (CF g)),(145,ze i)], [.box 24 (Bi g), .box 38 [nilV,nilV,ze 0,ze 0], .box 28 (EN (BK g s)), .box 38 [.ow 4 (A7 g).toNat,nilV,ze 0,ze (-1)], .row 68 3 ((DR (DR (GL g s z) (HZ g z)) ((GC g z).take i)).map Cg)])) (fun i=>i<=(CF g).toNat) (fun i=>(CF g).toNat - i) 0 (Ak _)
       (zP (s:= [0,1,2,3,4]) tA) ?_
      intro i hi;conv=>whnf
      refine AO (fun h11=>?_) (fun h11=>?_) <;> (repeat rw [Ac] at h11) <;> conv=>whnf
      ·have hlw:(GC g z).length=(CF g).toNat:=by simp [GC]
       have hi':i<(GC g z).length:=by omega
       have hsx:=HR (DR (GL g s z) (HZ g z)) hi';rw [show (GC g z).getD i ⟨0, []⟩=⟨Cu g z (i:Nat),CC (Cu g z (i:Nat)) 0 zero8⟩ from J0 (by omega)] at hsx;have hlx:(DR (DR (GL g s z) (HZ g z)) ((GC g z).take i)).length=(A7 g).toNat:=by rw [E0,E0,F_]
       generalize DR (DR (GL g s z) (HZ g z)) ((GC g z).take i)=cs at hsx hlx |-
       have hgt:=Pa g z i hg (by omega) (by omega);have hin:=hsb i (by omega);have hmk:=IH (Cu g z i) 0 zero8 ⟨hin.1,by omega,C8 _,by decide,by decide⟩;have hE:(cs.map Cg).getD (Cu g z i).toNat []=Cg (cs.getD (Cu g z i).toNat cz):=Kz hlx (by omega);repeat' (refine zZ ?_;conv=>whnf)
       refine z_ hgt ?_;conv=>whnf
       apply zW (0) tys_ok mixed (.o [0,1,2,3,4,5,6,7,8,9,10,11,12] .fin) (by kernel_rfl);conv=>whnf
       (try (refine Ah ⟨rfl,by decide,by decide⟩ ?_;conv=>whnf);refine zS hmk.go ?_;(conv=>whnf);refine Ah rfl ?_;(conv=>whnf);refine zV [.ag [ze (Cu g z i),ze 0,bA zero8]] ⟨B7 ⟨ri,ri,fun c v h=>z8 rfl (fun i hi=>by have hi':i<8:=hi;rw [IZ (by exact hi'),Mc hi'];try rfl) h,tv⟩,tv⟩ ?_;refine z_ hmk ?_)
       conv=>whnf
       try (refine tI ?_;conv=>whnf)
       try (refine tS ?_;conv=>whnf)
       (first | rw [hE] | skip)
       conv=>whnf
       all_goals exact⟨i+1,by omega,by omega,zP (s:= [0,1,2,3,4]) ⟨⟨rfl,rfl,rfl,rfl,rfl,rfl,rfl,rfl,rfl,rfl,AP (by omega),tv⟩,⟨rfl,rfl,rfl,rfl,congrArg (fun l=>some (AB.row _ _ l)) (by rw [hsx,I_];try rfl),tv⟩,rfl,rfl,rfl,rfl,rfl⟩⟩
      ·have ei:i=(GC g z).length:=by simp [GC];omega
       repeat' (refine zZ ?_;conv=>whnf)
       exact⟨z+1,by omega,by omega,zP (s:= [0,1,2,3,4]) ⟨⟨rfl,rfl,rfl,rfl,rfl,rfl,rfl,AP (by omega),tv⟩,⟨rfl,rfl,rfl,rfl,by rw [ei,A3];try rfl,tv⟩,rfl,rfl,rfl,rfl,rfl⟩⟩
    ·have ez:z=g.z.toNat:=by omega
     subst ez;refine⟨(by rw [Aa,F_]),?_⟩;exact⟨.tp [.ag (Zu (DS g s)),iv 0],Ca ⟨B7 ⟨C2 (f:=Cg) (GL g s g.z.toNat) (by rw [F_]) rfl,Bl 2 _,ri,ri,tv⟩,ri,tv⟩,rfl⟩
section
variable {g:Geo} {s:ByteArray} {a b:An} {fill:UInt8} {sizes:List Int} {d:Dk}
theorem Lu {F:Int->List UInt8} {n:Int} (h:Holds d n F) (l:List Int) (hl:∀ x∈l,0<=x/\x<n):B3 d l=l.map fun x=>⟨0,F x⟩:=by
 unfold B3;refine Dt fun x hx=>?_
 exact h.got (hl x hx).1 (hl x hx).2
theorem M4 (hg:Bm g=true) {c:Int} (hc:c=0\/c=1):∀ x∈BC g c,0<=x/\x<A7 g:=fun x hx=>by
 obtain⟨g1,g2,g3,g4,g5⟩:=Az.1 hg;have hcg:=Ef hg;simp only [BC,AL,AJ] at hx;obtain⟨i,hi,rfl⟩:=hx;have:=Lh (g:=g) hc (s:=(i:Nat)) (by omega);omega
theorem Ta {F:Int->List UInt8} (hg:Bm g=true) {c:An} (h:Holds d (A7 g) F) {r:Int} {l:Int}:Holds ⟨CB d.cells (AR g c), [],r,l⟩ (A7 g) (fun x=>if x<g.an then Dn c x else F x):=by
 obtain⟨g1,g2,g3,g4,g5⟩:=Az.1 hg;have hcg:=Ef hg;refine⟨by rw [<-h.len];show ((CB d.cells _).length:Int)=_;rw [finL_len],rfl,fun x h0 h1=>?_⟩;obtain⟨e1,e2⟩:=h.cell x h0 h1;have hlt:x.toNat<d.cells.length:=by have:=h.len;omega
 show ((CB d.cells _).getD x.toNat cz).state=0/\((CB d.cells _).getD x.toNat cz).bytes=_;have hmem:∀ w∈AR g c,∃ i:Nat,i<g.an.toNat/\w=⟨(i:Nat),Dn c (i:Nat)⟩:=fun w hw=>by
  simp only [AR,AL,AJ] at hw
  grind
 by_cases hx:x<g.an
 ·rw [if_pos hx];refine LH _ _ _ hlt (by rw [e1];decide) (fun w hw hwa=>?_) (.inl ⟨⟨x,Dn c x⟩,?_,rfl⟩)
  ·grind
  ·simp only [AR,AL,AJ]
   grind
 ·rw [if_neg hx,finL_miss _ _ _ hlt (fun w hw e=>?_)]
  ·grind
  ·grind
theorem UY {n:Int} {F:Int->List UInt8} (h:Holds d n F) (l:List Wr) (hl:∀ w∈l,0<=w.addr/\w.addr<n):l.filter (free d.cells)=l:=by
 rw [List.filter_eq_self];intro w hw;unfold free;rw [(h.cell w.addr (hl w hw).1 (hl w hw).2).1];try rfl
end
theorem Td (s t:Stt) (h:s.lost.length<=1000000):Fn Tryz.prog 52 [.ag [iv s.found,iv s.fixed,iv s.moved,iA s.lost], .ag [iv t.found,iv t.fixed,iv t.moved,iA t.lost]] fun r=>r = .v (.bool (decide (s.found=t.found/\s.fixed=t.fixed/\s.moved=t.moved/\s.lost=t.lost))):=by
 have hi:=R9 s.lost t.lost (by omega);refine zT Tryz.func52 rfl ?_;conv=>whnf
 repeat' (first | (refine Aj (fun h=>?_) (fun h=>?_) <;> (try simp at h) <;> conv=>whnf) | (refine zM tys_ok mixed (by kernel_rfl) ?_;conv=>whnf) | (refine zZ ?_;conv=>whnf) | (refine z_ hi ?_;conv=>whnf) | (refine Ah (by omega) ?_;conv=>whnf))
 all_goals exact⟨_,ri,by congr 2;rw [Bool.eq_iff_iff];simp [*]⟩
theorem VA {a b:An}:a=b↔a.gen=b.gen/\a.epoch=b.epoch/\a.pos=b.pos/\a.seq=b.seq/\a.last=b.last/\a.label=b.label/\a.homes=b.homes:=by
 cases a;cases b;simp
theorem US {a b:Hm}:a=b↔a.places=b.places/\a.next=b.next/\a.root=b.root:=by
 cases a;cases b;simp
theorem Nc {α:Type} {d:α} {l m:List α} {k:Nat} (hl:k<l.length) (hm:k<m.length) (h:l.take k=m.take k) (e:l.getD k d=m.getD k d):l.take (k+1)=m.take (k+1):=by
 rw [Ab,Ab,Ae hl,Ae hm] at e;have e:l[k]=m[k]:=by simpa using e
 rw [AF hl,AF hm,h,e]
theorem VV (s:ByteArray):∀ (n i:Nat) (r:List UInt8),s.size - i=n->ByteArray.toList.loop s i r=r.reverse ++ s.data.toList.drop i:=by
 intro n;induction n with
 | zero=>
  intro i r h;rw [ByteArray.toList.loop,if_neg (by omega),A5 (by show s.data.toList.length<=i;rw [BH];show s.size<=i;omega),AG]
 | succ n ih=>
  intro i r h;have hi:i<s.size:=by omega
  have hi':i<s.data.toList.length:=by rw [BH];exact hi
  rw [ByteArray.toList.loop,if_pos hi,ih (i+1) _ (by omega),Bw hi',List.reverse_cons,AA];congr 2;show s.get! i::_=_;congr 1;show s.data[i]! = _;rw [getElem!_pos s.data i hi];simp
theorem WL {s t:ByteArray} (h:s.toList=t.toList):s=t:=by
 have e:∀ x:ByteArray,x.toList=x.data.toList:=fun x=>by
  rw [ByteArray.toList,VV x _ 0 [] rfl];try rfl
 rw [e,e] at h;exact ByteArray.ext (Array.toList_inj.mp h)
theorem Q1 (a b:An) (hh:a.homes.length<=1000000) (hp:∀ h∈a.homes,h.places.length<=1000000):Fn Tryz.prog 50 [.ag (EN a), .ag (EN b)] fun r=>r = .v (.bool (decide (a=b))):=by
 refine zT Tryz.func50 rfl ?_;conv=>whnf
 repeat' (first | (refine Aj (fun h=>?_) (fun h=>?_) <;> (try simp at h) <;> conv=>whnf) | (refine zM tys_ok mixed (by kernel_rfl) ?_;conv=>whnf) | (refine zZ ?_;conv=>whnf) | (refine Ah (by omega) ?_;conv=>whnf))
 all_goals try (exact⟨_,ri,by rw [decide_eq_false];rw [VA];intro hx;simp_all⟩)
 have hlen:a.homes.length=b.homes.length:=by omega
 have hlab:a.label=b.label:=WL (by assumption);have hrest:a=b↔a.homes=b.homes:=by rw [VA];simp [*]
 refine zR Nat (fun k=>([(2, .bp 0 0),(3, .bp 1 0),(5,iv k)], [.box 28 (EN a), .box 28 (EN b)])) (fun k=>k<=a.homes.length/\a.homes.take k=b.homes.take k) (fun k=>a.homes.length - k) 0 ⟨Ak _,rfl⟩
  (zP (s:= [0,1]) tA) ?_
 rintro k ⟨hk,hI⟩;conv=>whnf
 refine AO (fun h6=>?_) (fun h6=>?_) <;> (repeat rw [Ac] at h6) <;> conv=>whnf
 ·have hk':k<a.homes.length:=by omega
  have hk2:k<b.homes.length:=by omega
  have hi:=R9 (a.homes.getD k ⟨[],0,0⟩).places (b.homes.getD k ⟨[],0,0⟩).places (by have:=hp _ (AC (d:=(⟨[],0,0⟩:Hm)) hk');omega);have hno:a.homes.getD k ⟨[],0,0⟩≠b.homes.getD k ⟨[],0,0⟩->decide (a=b)=false:=fun hne=>decide_eq_false fun e=>hne (by rw [e])
  have hyes:=Nc (d:=(⟨[],0,0⟩:Hm)) hk' hk2 hI;rw [US] at hyes;rw [Ne,US] at hno;clear hrest hI hlen;repeat' (refine zZ ?_;conv=>whnf)
  refine zM tys_ok mixed (by kernel_rfl) ?_;refine⟨⟨by omega,by omega⟩,?_⟩;refine⟨⟨by omega,by omega⟩,?_⟩;conv=>whnf
  rw [Ac];generalize hx:a.homes.getD k ⟨[],0,0⟩=x at hi hno hyes |-
  generalize hy:b.homes.getD k ⟨[],0,0⟩=y at hi hno hyes |-
  refine z_ hi ?_;conv=>whnf
  by_cases q1:x.places=y.places
  ·rw [decide_eq_true q1];refine⟨⟨by omega,by omega⟩,?_⟩;refine⟨⟨by omega,by omega⟩,?_⟩;conv=>whnf
   rw [Ac,hx,hy];refine AO (fun q2=>?_) (fun q2=>?_)
   ·exact⟨_,ri,by rw [hno fun e=>q2 e.2.1]⟩
   ·refine⟨⟨by omega,by omega⟩,?_⟩;refine⟨⟨by omega,by omega⟩,?_⟩;conv=>whnf
    rw [Ac,hx,hy];refine AO (fun q3=>?_) (fun q3=>?_)
    ·exact⟨_,ri,by rw [hno fun e=>q3 e.2.2]⟩
    ·exact⟨k+1,⟨hk',hyes ⟨q1,q2,q3⟩⟩,by omega,zP (s:= [0,1]) ⟨⟨rfl,rfl,AP (by omega),tv⟩,tA,rfl,rfl,rfl,rfl,rfl⟩⟩
  ·rw [decide_eq_false q1];exact⟨_,ri,by rw [hno fun e=>q1 e.1]⟩
 ·have ek:k=a.homes.length:=by omega
  subst ek;have he:a.homes=b.homes:=by
   rw [A3,hlen,A3] at hI;exact hI
  exact⟨_,ri,by rw [decide_eq_true (hrest.2 he)]⟩
theorem XS {s t:Stt}:s=t↔s.a=t.a/\s.txns=t.txns/\s.only=t.only/\s.cursor=t.cursor/\(s.found=t.found/\s.fixed=t.fixed/\s.moved=t.moved/\s.lost=t.lost):=by
 cases s;cases t;simp
theorem SQ (s t:Stt) (hh:s.a.homes.length<=1000000) (hp:∀ h∈s.a.homes,h.places.length<=1000000) (hl:s.lost.length<=1000000) (ht:s.txns.length<=1000000000) (hi:∀ x∈s.txns,x.images.length<=1000000000/\∀ i∈x.images,i.bytes.length<=100000000000):Fn Tryz.prog 26 [.ag (Zq s), .ag (Zq t)] fun r=>r = .v (.bool (decide (s=t))):=by
 have c1:=Q1 s.a t.a hh hp;have c2:=VR s.txns t.txns ht hi;have c3:=Td s t hl;refine zT Tryz.func26 rfl ?_;conv=>whnf
 repeat' (first | (refine Aj (fun h=>?_) (fun h=>?_) <;> (try simp at h) <;> conv=>whnf) | (refine zM tys_ok mixed (by kernel_rfl) ?_;conv=>whnf) | (refine zZ ?_;conv=>whnf) | (refine z_ c1 ?_;conv=>whnf) | (refine z_ c2 ?_;conv=>whnf) | (refine z_ c3 ?_;conv=>whnf) | (refine Ah (by omega) ?_;conv=>whnf))
 all_goals exact⟨_,ri,by rw [show decide (s=t)=decide (s.a=t.a/\s.txns=t.txns/\s.only=t.only/\s.cursor=t.cursor/\(s.found=t.found/\s.fixed=t.fixed/\s.moved=t.moved/\s.lost=t.lost)) from decide_eq_decide.2 XS];congr 2;rw [Bool.eq_iff_iff];simp [*]⟩




section
variable {g:Geo} {s:ByteArray} {b:An} {fill:UInt8} {sizes:List Int} {D:Dk}
end
theorem StSm.big {S:Stt} (h:StSm S):StBig S:=
 ⟨by have:=h.l;omega,by have:=h.h.1;omega,⟨by have:=h.t.1;omega,fun t ht=>⟨by have:=(h.t.2 t ht).1;omega,fun x hx=>by have:=(h.t.2 t ht).2 x hx;omega⟩⟩,by have:=h.o;omega⟩
structure Vol (g:Geo) (K:Int) (d:Dk) (s:Stt):Prop where
 gd:∃ F,Gd (A7 g) d F
 an:Bz g s.a=true
 ring:CJ g s.txns s.a.seq s.a.pos g.sl=true
 rest:s.only=false/\s.cursor=0/\s.found=0/\s.fixed=0/\s.moved=0/\s.lost=[]
 gen:s.a.gen<=K
 seq:s.a.seq+s.txns.length<=K
 one:∀ t∈s.txns,OneTab t.images
theorem Ji {g:Geo} {a:An} (ha:Bz g a=true):(0<=a.gen/\a.gen<=4294967295)/\(1<=a.seq/\a.seq<=4294967295)/\(0<=a.pos/\a.pos<g.sl)/\(a.homes.length:Int)=g.z:=by
 simp only [Bz,Bb,BT,BD,Ad,decide_eq_true_eq,AK] at ha;omega
theorem Ka {g:Geo}:∀ {l:List Tx} {seq pos a b:Int},a<=b->CJ g l seq pos a=true->CJ g l seq pos b=true
 | [],_,_,_,_,_,_=>rfl
 | t::r,seq,pos,a,b,hab,h=>by
  simp only [CJ,Ad,decide_eq_true_eq] at h |-
  obtain⟨⟨h1,h2,h3,h4,h5,h6,h7⟩,h8⟩:=h;exact⟨⟨h1,h2,h3,h4,by omega,h6,h7⟩,Ka (by omega) h8⟩
theorem Fo {g:Geo}:∀ {l:List Tx} {seq pos left:Int},CJ g l seq pos left=true->∀ t∈l,t.images.all (BV g)=true/\t.n=t.images.length+1/\2<=t.n/\t.n<=max left 0
 | t::r,seq,pos,left,h,x,hx=>by
  simp only [CJ,Ad,decide_eq_true_eq] at h;obtain⟨⟨h1,h2,h3,h4,h5,h6,h7⟩,h8⟩:=h;rcases AT.1 hx with rfl | hx
  ·grind
  ·have:=Fo h8 x hx
   grind
theorem JA {g:Geo} (hg:Bm g=true) {x:Img} (h:BV g x=true):x.bytes.length<=45:=by
 obtain⟨g1,g2,g3,g4,g5⟩:=Az.1 hg;by_cases hw:x.what=255
 ·simp only [BV,Ad] at h;have h2:=h.2.2;rw [if_pos hw] at h2;by_cases hl:x.bytes.length=9*(g.d+1).toNat
  ·omega
  ·rw [S5 (.inl hl)] at h2;cases h2
 ·have:=(J9 h).2 hw;omega
theorem Vol.st {g:Geo} {K:Int} {d:Dk} {s:Stt} (hg:Bm g=true) (h:Vol g K d s):YJ g d s=true:=by
 obtain⟨F,hF⟩:=h.gd;obtain⟨r1,r2,r3,r4,r5,r6⟩:=h.rest;have hu:=TJ hg;have hh:Ly g s=true:=by
  unfold Ly;rw [r3,r4,r5,r6];try rfl
 unfold YJ;rw [hg,Uo.2 hF.ok,decide_eq_true hF.len,h.an,h.ring,r2,hh,decide_eq_true (show (0:Int)<KE g by omega)];try rfl
theorem Vol.sm {g:Geo} {K:Int} {d:Dk} {s:Stt} (hg:Bm g=true) (h:Vol g K d s):StSm s:=by
 obtain⟨g1,g2,g3,g4,g5⟩:=Az.1 hg;have hr:=Fo h.ring;have hin:=FP hg (C8 _) h.ring;have hlen:(s.txns.length:Int)<=30:=by
  have:∀ l:List Tx,(∀ t∈l,2<=t.n)->2*(l.length:Int)<=sumT l:=by
   intro l;induction l with
   | nil=>intro _;simp [sumT]
   | cons t r ih=>
    intro hl;have h1:=hl t (by simp);have h2:=ih fun x hx=>hl x (A_ _ hx)
    rw [sumT,Ao];omega
  grind
 refine⟨⟨(DA hg h.an 0 (Ak _)).2.1,fun x hx=>Kn hg h.an x hx⟩,(DA hg h.an 0 (Ak _)).2.2.2.1,⟨by omega,fun t ht=>?_⟩,by rw [h.rest.2.2.2.2.2];simp⟩;obtain⟨q1,q2,q3,q4⟩:=hr t ht;refine⟨by omega,fun i hi=>?_⟩;have:=JA hg (Av.1 q1 i hi);omega
theorem Vol.add {g:Geo} {K:Int} {d d':Dk} {s:Stt} (hg:Bm g=true) (h:Vol g K d s) (hK:K<=4294967294) (hd:∃ F,Gd (A7 g) d' F) {x:Tx} (e1:x.seq=s.a.seq+s.txns.length) (e3:x.pos=(s.a.pos+D_ s.txns).tmod g.sl) (e4:2<=x.n) (e5:x.n<=g.sl - D_ s.txns) (e6:x.n=x.images.length+1) (e7:∀ y∈x.images,BV g y=true) (e8:OneTab x.images):Vol g (K+1) d' { s with txns:=s.txns ++ [x] }:=by
 obtain⟨a1,a2,a3,a4⟩:=Ji h.an;have hin:=FP hg (C8 _) h.ring;rw [Sg hin.1] at e3 e5;have hs:=h.seq;refine⟨hd,h.an,J_ hg a3.1 a3.2 (C8 _) h.ring e1 (by omega) e3 e4 e5 e6 (Av.2 e7),h.rest,by have:=h.gen;show s.a.gen<=K+1;omega,?_,fun t ht=>?_⟩
 ·grind
 ·rcases Ay.1 ht with q | q
  ·exact h.one t q
  ·grind
theorem Vol.home {g:Geo} {K:Int} {d d':Dk} {s:Stt} (hg:Bm g=true) {x:Tx} {r:List Tx} (hx:s.txns=x::r) (h:Vol g K d s) (hK:K<=4294967294) (hd:∃ F,Gd (A7 g) d' F):Vol g (K+1) d' { s with a:=Ok g s.a x,txns:=r }:=by
 obtain⟨a1,a2,a3,a4⟩:=Ji h.an;have hs:=h.seq;have hgn:=h.gen;have hr:=h.ring;rw [hx,Ao] at hs;rw [hx] at hr;have hin:=(FP hg (C8 _) hr).1 x (by simp);simp only [CJ,Ad,decide_eq_true_eq] at hr;obtain⟨⟨h1,h2,h3,h4,h5,h6,h7⟩,h8⟩:=hr;refine⟨hd,TS hg h.an (by omega) (by omega) h1 (by omega) (by omega),?_,h.rest,by show s.a.gen+1<=K+1;omega,?_,fun t ht=>h.one t (by rw [hx];exact A_ _ ht)⟩
 ·show CJ g r (s.a.seq+1) ((x.pos+x.n).tmod g.sl) g.sl=true;rw [h3];exact Ka (by omega) h8
 ·show s.a.seq+1+(r.length:Int)<=K+1;omega
theorem NR {g:Geo} {a:An} {w:Wr} (hw:w∈AR g a):∃ i:Nat,(i:Int)<g.an/\w=⟨(i:Nat),Dn a (i:Nat)⟩:=by
 simp only [AR,AL,AJ] at hw
 grind
def TQ (g:Geo) (a:An) (x:Tx) (F:Int->List UInt8):Int->List UInt8:=Mj (Mj F (Lp g a x.seq x.images)) (AR g (Ok g a x))

theorem Pc {g:Geo} {lb:ByteArray} (hg:Bm g=true) {d:Dk} (h:Holds d (A7 g) (FJ g lb)) {c:Int} (hc:c=0\/c=1):B3 d (BC g c)=FN g [] 0 c g.sl.toNat:=by
 rw [Lu h _ (M4 hg hc)];unfold BC FN;rw [List.map_map];refine Dt fun i hi=>?_
 have hi:=AJ.1 hi;show (⟨0,FJ g lb (Bk g c (i:Nat))⟩:Gt)=_;rw [Jb hc (by omega)];try rfl
theorem Ow {g:Geo} {lb:ByteArray} (hg:Bm g=true) {b:An} (hp:b.pos=0) (hl:¬b.seq - 1<b.last) {d:Dk} (h:Holds d (A7 g) (FJ g lb)):GT g b (B3 d (BC g 0)) (B3 d (BC g 1))=([], [],0):=by
 obtain⟨g1,g2,g3,g4,g5⟩:=Az.1 hg;have hok:LogOk g [] 0:=⟨by simp,by simp,fun s i k _ h=>(nomatch (show (none:Option (Nat × Int))=some (i,k) from h)),fun s _=>Eo hg⟩;rw [Wc,Pc hg h (.inl rfl),Pc hg h (.inr rfl),Rl hg hok (.inl rfl),Rl hg hok (.inr rfl)];obtain⟨n,hn⟩:∃ n,g.sl.toNat=n+1:=⟨g.sl.toNat - 1,by omega⟩;have hz:GE g [] 0 (fun _=>false) 0=some zeroC:=by
  unfold GE;rw [if_pos (by omega)];try rfl
 have hs:GD g 0 0=0:=by
  show (IntKind.i64.wrap 0).tmod g.sl=0;rw [show IntKind.i64.wrap 0=0 from rfl,Int.zero_tmod]
 have h0:Fa zeroC b b.seq 0 0 g.sl=false:=decide_eq_false fun h=>h.1 rfl
 have hr:(XY g b (GE g [] 0 fun _=>false) (GE g [] 0 fun _=>false) 0 b.seq g.sl 0 0).2.1=2:=by
  show (FA (GE g [] 0 (fun _=>false) (GD g 0 0)) (GE g [] 0 (fun _=>false) (GD g 0 0)) (J3 (GE g [] 0 (fun _=>false) (GD g 0 0)) b b.seq 0 0 g.sl) (J3 (GE g [] 0 (fun _=>false) (GD g 0 0)) b b.seq 0 0 g.sl)).2.2=2;rw [hs,hz];show (FA (some zeroC) (some zeroC) (Fa zeroC b b.seq 0 0 g.sl) (Fa zeroC b b.seq 0 0 g.sl)).2.2=2;rw [h0];try rfl
 have ht:(VS g b (GE g [] 0 fun _=>false) (GE g [] 0 fun _=>false) 0 b.seq g.sl).1=2:=by
  unfold VS;simp only;rw [if_pos (by rw [hr];decide)];exact hr
 unfold TX;rw [hn,hp,KP];split
 ·simp only;rw [ht,if_neg (by decide),if_pos (by decide),LG hl]
 ·exact LG hl
theorem QF {g:Geo} {lb:ByteArray} (hg:Bm g=true) (hb:Bz g (BK g lb)=true) (x:Int):(FJ g lb x).length<=200:=by
 unfold FJ;split
 ·exact Jj hg hb x
 ·split
  ·exact Cy (Eo hg) _ _
  ·split
   ·exact Cy (Eo hg) _ _
   ·split
    ·rw [E9,EO];unfold E2;rw [Bh];have:=(Az.1 hg).2.1;omega
    ·rw [E9];decide
theorem WW {g:Geo} {lb:ByteArray} (hg:Bm g=true) (hb:Bz g (BK g lb)=true):DkOk (DS g lb):=by
 have hcb:=Hq hg;have h:=JH (g:=g) (s:=lb) hg;have hlen:=h.len;refine⟨by omega,by rw [h.cache];simp,by show (0:Int)<=0/\(0:Int)<=_;decide,by show (-1:Int)<= -1/\(-1:Int)<=_;decide,fun c hc=>?_,fun w hw=>by rw [h.cache] at hw;cases hw⟩;obtain⟨i,hi,rfl⟩:=List.getElem_of_mem hc;have hci:=Pf (g:=g) (s:=lb) hg (a:=((i:Nat):Int)) (by omega) (by omega);have e:(DS g lb).cells.getD ((i:Nat):Int).toNat cz=(DS g lb).cells[i]:=by
  rw [Ac,Ab,Ae hi];try rfl
 rw [e] at hci;rw [hci];exact⟨⟨C8 _,by show (0:Int)<=2;decide⟩,QF hg hb _,by simp⟩
theorem Uv {g:Geo} {lb:ByteArray} (hg:Bm g=true) (hb:Bz g (BK g lb)=true) {d:Dk} (h:Holds d (A7 g) (FJ g lb)):FQ g (B3 d (Di g))=some (BK g lb,(Z2 (FQ g (B3 d (Di g))))):=by
 obtain⟨g1,g2,g3,g4,g5⟩:=Az.1 hg;have hcg:=Ef hg;have hsp:=KU g (B3 d (Di g)) (B3 d (Di g)).length;rw [DB,Es] at hsp;have hsay:∀ i,i<g.an.toNat->DE g ((B3 d (Di g)).getD i ⟨0, []⟩) (i:Nat)=some (BK g lb):=fun i hi=>by
  rw [QW hi,h.got (by omega) (by omega),RI (by omega)];exact Qi hg hb (by omega)
 have hpk:FQ g (B3 d (Di g))=E5 g (B3 d (Di g)) g.an.toNat:=by rw [FQ,DB,Es]
 rw [hpk];cases hP:E5 g (B3 d (Di g)) g.an.toNat with
 | none=>
  have:=hsp.1 hP 0 (by omega);rw [hsay 0 (by omega)] at this;cases this
 | some q=>
  obtain⟨a0,j⟩:=q;obtain⟨q1,q2,q3⟩:=hsp.2 a0 j hP;rw [hsay j q1] at q2;cases q2;rfl
structure LogB (l:List Tx):Prop where
 n:l.length<=1000000
 i:∀ t∈l,t.images.length<=1000000/\∀ x∈t.images,x.bytes.length<=1000000000
def Fe (g:Geo) (s:Stt) (F:Int->List UInt8) (z:Int):Option (List Ent):=match CD s.txns z 255 with
 | some p=>CR g p.1.bytes
 | none=>match Ct g ⟨0,F (Ba g z 0)⟩ (Ba g z 0) (Du s.a s.txns z) with
  | some t=>some t
  | none=>Ct g ⟨0,F (Ba g z 1)⟩ (Ba g z 1) (Du s.a s.txns z)
def Gu (g:Geo) (s:Stt) (F:Int->List UInt8) (t:List Ent) (z w:Int):List UInt8:=match CD s.txns z w with
 | some p=>p.1.bytes
 | none=>(DD ⟨0,F (D1 g s.a z w)⟩ (D1 g s.a z w) (t.getD (Eu g w).toNat ez)).getD []
def L_ (b:List UInt8):List AV:= [bA b]
theorem ConvF.sealTp {fr:Fr} {H:List AB} (i k:Nat) {x z:AV} {t:TypeId} {sz:Nat} {es:List (List AV)} (hx:fget fr i = .tp [x, .ow k es.length,z]) (hk:hget H k=some (.row t sz es)):ConvF fr H ((i, .tp [x, .sl sz es.length fun j=>es.getD j [],z])::fr) (H.set k .dead):=fun _ _ c _ _ hs hf=>by
 rw [hget_eq] at hk;obtain⟨c1,e1,s1,x1,r1⟩:=hs.freeze hk;refine⟨c1,e1,s1,(hf.ext x1).cons i _ ?_,x1⟩;have h0:=hf.get i;have h1:=(hf.ext x1).get i;rw [hx] at h0 h1;simp only [Rd] at h0 h1;obtain⟨us,e,h0⟩:=h0;obtain⟨us',e',h1⟩:=h1;have eu:us'=us:=by
  have:=e.symm.trans e';injection this with this
  simpa using this.symm
 subst eu;obtain⟨y1,l1,rfl,a1,y2,l2,rfl,a2,y3,l3,rfl,a3,rfl⟩:=h0;obtain⟨z1,m1,q1,b1,z2,m2,q2,b2,z3,m3,q3,b3,q4⟩:=h1;subst q2 q3 q4;simp only [List.cons.injEq,and_true] at q1;obtain⟨rfl,rfl,rfl⟩:=q1;simp only [Rd];exact⟨_,e,_,_,rfl,b1,_,_,rfl,r1 _ a2,_,_,rfl,b3,rfl⟩
theorem FL {L:List (List UInt8)} {n:Nat} {es:List (List AV)} (hn:n=L.length) (he:es=L.map L_) (c:Ctx) (v:Value) (h:Rd (.sl 1 n fun i=>es.getD i []) c v):Rd (Hr L) c v:=C2 (f:=L_) L hn he c v h
def Tf (g:Geo) (s:Stt) (F:Int->List UInt8) (t:List Ent) (z:Int) (k:Nat):List (List UInt8):=(List.range k).map fun i=>Gu g s F t z (i:Nat)
def CV (g:Geo) (s:Stt) (F:Int->List UInt8) (t:List Ent) (z:Int):List (List UInt8):=Tf g s F t z g.d.toNat ++ [Gu g s F t z (-1)]
theorem Kx {g:Geo} {s:Stt} {F:Int->List UInt8} {z:Int} {t:List Ent} (h:Fe g s F z=some t):H7 g t=true:=by
 have hr:∀ {b:List UInt8} {t:List Ent},CR g b=some t->H7 g t=true:=fun {b t} h=>by
  unfold CR at h;split at h
  ·rename_i hh;obtain rfl:=Option.some.inj h;exact hh.1
  ·cases h
 have ho:∀ {x:Gt} {a r:Int} {t:List Ent},Ct g x a r=some t->H7 g t=true:=fun {x a r t} h=>by
  unfold Ct at h;split at h
  ·split at h
   ·exact hr h
   ·cases h
  ·cases h
 unfold Fe at h;split at h
 ·exact hr h
 ·split at h
  ·rename_i hh;obtain rfl:=Option.some.inj h;exact ho hh
  ·exact ho h
theorem IS {g:Geo} {t:List Ent} (h:H7 g t=true):(t.length:Int)=g.d+1:=by
 unfold H7 at h
 grind
theorem IR {g:Geo} {s:Stt} {F:Int->List UInt8} {t:List Ent} {z w:Int} (hi:∀ t∈s.txns,∀ x∈t.images,BV g x=true) (hw:w≠255):(Gu g s F t z w).length=0\/(Gu g s F t z w).length=8:=by
 unfold Gu;split
 ·rename_i p hp;obtain⟨x,q⟩:=p;obtain⟨t',ht, -,hx, -,e⟩:=ME (Ag _) hp;exact .inr ((J9 (hi t' ht x hx)).2 (by rw [e];exact hw)).2.2
 ·unfold DD;split
  ·split
   ·rename_i h;exact .inr h.2.1
   ·exact .inl rfl
  ·exact .inl rfl
theorem FX {L:List Int} {n:Nat} {es:List (List AV)} (hn:n=L.length) (he:es=L.map fun x=> [AV.v (.int .i64 x)]) (c:Ctx) (v:Value) (h:Rd (.sl 1 n fun i=>es.getD i []) c v):Rd (iA L) c v:=C2 (f:=fun x=> [AV.v (.int .i64 x)]) L hn he c v h
def Hi (g:Geo) (s:Stt) (F:Int->List UInt8) (seq lba:Int) (b:List UInt8):List Img:=match Fe g s F (lba.tdiv g.d) with
 | some t=>Cx (lba.tdiv g.d) (BE g t (CV g s F t (lba.tdiv g.d)) [lba.tmod g.d] [b] seq) (EQ g t (CV g s F t (lba.tdiv g.d)) [lba.tmod g.d] [b] g.d.toNat) [lba.tmod g.d] [b]
 | none=> []
theorem Wh {L L':List Img} {n:Nat} (e:L=L') (hn:n=L'.length) (c:Ctx) (v:Value) (h:Rd (.sl 3 n fun j=>((List.range L'.length).map fun i=>FY (L'.getD i ⟨0,0, []⟩)).getD j []) c v):Rd (Ec L) c v:=by
 subst e;refine z8 hn (fun i hi=>?_) h;have:i<L.length:=by omega
 simp [this]
theorem Wn {g:Geo} {seq epoch:Int} {x:Img} (hg:Bm g=true) (h2:Dq seq 0 4294967295=true) (h3:Dq epoch 0 4294967295=true) (h7:BV g x=true) {k n:Nat} (hk:k<n) (hn:n=3):EW g ⟨1,seq,epoch,(k:Nat),n+1,x⟩=true:=by
 simp only [EW,hg,ET,If,h2,h3,h7,B5,BD];simp only [if_neg (show ¬(1:Int)=0 by omega),if_true,Ad,AK];omega
theorem Wm {g:Geo} {seq epoch:Int} (hg:Bm g=true) (h2:Dq seq 0 4294967295=true) (h3:Dq epoch 0 4294967295=true) {n:Nat} (hn:n=3):EW g ⟨2,seq,epoch,(n:Nat),n+1,noImg⟩=true:=by
 subst hn;simp only [EW,hg,ET,If,h2,h3,B5];simp only [if_neg (show ¬(2:Int)=0 by omega),if_neg (show ¬(2:Int)=1 by omega),if_true,Ad,AK,beq_iff_eq,Ih,noImg];simp
@[reducible] def rwQ (g:Geo) (a:An) (l:List Tx) (x:Tx) (d:Dk):List AB:= [.box 132 (Z1 g (.bp 1 0) (.ow 4 a.homes.length) (.ow 5 (l.length+1)) (Bf a l) 0), .box 133 (K7 (.ow 2 d.cells.length) (.ow 6 d.cache.length) d.reqs d.left), .row 68 3 (d.cells.map Cg), .dead, .row 108 3 (a.homes.map LU), .row 170 4 (l.map Ia ++ [Ia x]), .row 152 2 (d.cache.map GI)]
def FK (g:Geo) (a:An) (l:List Tx) (F:Int->List UInt8) (lba:Int) (b:List UInt8):Tx:=⟨a.seq+(l.length:Int),(a.pos+D_ l).tmod g.sl,4,Hi g (Bf a l) F (a.seq+(l.length:Int)) lba b⟩
theorem in01:(0:Int)<=((0:Nat):Int)/\((0:Nat):Int)<((1:Nat):Int):=by decide
def Z9 (A:Int) (p:Bool):AV:=match p with
 | true=>iA [A]
 | false=> .v (.slice none 0 0)
def ZX (b:List UInt8) (p:Bool):AV:=match p with
 | true=>Hr [b]
 | false=> .v (.slice none 0 0)
def YZ (L:List Img) (p:Bool):AV:=match p with
 | true=>Ec L
 | false=> .v (.slice none 0 0)
theorem Pz {g:Geo} (hg:Bm g=true) {r:Rc} (hr:EW g r=true) {c s:Int} (hc:c=0\/c=1) (hs:0<=s/\s<g.sl):BZ (BN g r c s)=Bk g c s:=by
 have hb:=Gy hg (KY hc hs);have h1:=Ny hr;have h2:=EA hr;exact(Hy (a:=Bk g c s) (s:=r.seq) (p:=Ei r) ⟨hb.1,by omega,h1.1,h1.2,by omega⟩).2.1
def Y5 (b:Bool):List AV:= [.v (.bool b)]
def Zh (l:List Bool):AV:= .sl 1 l.length fun i=>Y5 (l.getD i false)
theorem Y4 {L:List Bool} {n:Nat} {es:List (List AV)} (hn:n=L.length) (he:es=L.map Y5) (c:Ctx) (v:Value) (h:Rd (.sl 1 n fun i=>es.getD i []) c v):Rd (Zh L) c v:=C2 (f:=Y5) L hn he c v h
theorem BJ {l:List Nat} {m:Nat} (h:(l.all fun z=>Nat.ble (z+1) m)=true):∀ z∈l,z<m:=fun z hz=>Af (Av.1 h z hz)
theorem VL (g:Geo) (t:List Ent) (had:List (List UInt8)) (hg:Bm g=true) (ht:H7 g t=true) (hh:(had.length:Int)=g.d+1) (h8:∀ b∈had,b.length=8) (hlo:∀ i,i<t.length->(t.getD i ez).lost=false):Fn Tryz.prog 226 [.ag (Bi g), .ag [BX t],Hr had] fun r=>r = .tp [Hr had,Zh (List.replicate had.length true),iv 0]:=by
 obtain⟨g1,g2,g3,g4,g5⟩:=Az.1 hg;have htl:=IS ht;have hb:=RV g t had hg ht (by omega) hh h8;have hd1:IntKind.i64.wrap (g.d+1)=g.d+1:=wi (by omega);refine zT Tryz.func226 rfl ?_;conv=>whnf
 refine zX hb rfl ?_;rintro _ _ ⟨rfl,rfl⟩;conv=>whnf
 rw [hd1];refine zR Nat (fun k=>([(6, .ow 3 k),(7, .ow 4 k),(9, .bp 2 0),(25,iv (g.d+1)),(26,iv (k:Nat))], [.box 24 (Bi g), .box 145 [BX t], .box 348 [iv g.d,BX t,Hr had], .row 22 1 ((had.take k).map L_), .row 4 1 ((List.replicate k true).map Y5)])) (fun k=>k<=had.length) (fun k=>had.length - k) 0 (Ak _)
  ⟨_,_,zr _ _, [(6,22,1),(7,4,1)],tA, [0,1,2,3,4],tA,tA,rfl,rfl,rfl,rfl,rfl⟩ ?_
 intro k hk;by_cases hkn:k<had.length
 ·have hkk:=RU g t had k (by omega) hkn h8 (hlo k (by omega));have e1:(had.take k).map L_ ++ [L_ (had.getD k [])]=(had.take (k+1)).map L_:=by
   rw [Bc,Ae hkn,A2,Ab,Ae hkn];try rfl
  have e2:(List.replicate k true).map Y5 ++ [Y5 true]=(List.replicate (k+1) true).map Y5:=by
   rw [List.replicate_succ',A2];try rfl
  conv=>whnf
  rw [show decide ((k:Int)<g.d+1)=true from decide_eq_true (by omega)];conv=>whnf
  repeat' (refine zZ ?_;conv=>whnf)
  refine ze9 [2] hkk ?_;rintro _ _ ⟨rfl,rfl⟩;conv=>whnf
  repeat' (refine zZ ?_;conv=>whnf)
  refine⟨rfl,?_⟩;conv=>whnf
  refine Ah ⟨by rw [Aa,Ar];omega,by omega⟩ ?_;refine⟨rfl,?_⟩;refine⟨⟨by rw [Aa,Bh],by omega⟩,?_⟩;exact⟨k+1,by omega,by omega,zP (s:= [0,1,2,3,4]) ⟨⟨rfl,rfl,rfl,rfl,AP (by omega),tv⟩,⟨rfl,rfl,rfl,congrArg (fun es=>some (AB.row 22 1 es)) e1,congrArg (fun es=>some (AB.row 4 1 es)) e2,tv⟩,rfl,rfl,rfl,rfl,rfl⟩⟩
 ·have ek:k=had.length:=by omega
  subst ek;conv=>whnf
  rw [show decide (((had.length:Nat):Int)<g.d+1)=false from decide_eq_false (by omega)];conv=>whnf
  repeat' (refine zZ ?_;conv=>whnf)
  rw [A3];refine⟨(by rw [Aa]),?_⟩;refine⟨(by rw [Aa,Bh]),?_⟩;exact⟨.tp [Hr had,Zh (List.replicate had.length true),iv 0],Ca (m:= [Hr had,Zh (List.replicate had.length true),iv 0]) ⟨FL rfl rfl,Y4 (by rw [Bh]) rfl,ri,tv⟩,rfl⟩
theorem V_ (A p:Int):Fn Tryz.prog 153 [iA [A],iv p] fun r=>r = iv (if A=p then 0 else -1):=by
 refine zT Tryz.func153 rfl ?_;conv=>whnf
 refine zA 2 ?_;conv=>whnf
 refine Ah ⟨by decide,by show (0:Int)<1;decide⟩ ?_;conv=>whnf
 rw [show [A].getD (Int.toNat 0) 0=A from rfl];by_cases h:A=p
 ·rw [show (p == A)=true from beq_iff_eq.2 h.symm,if_pos h];exact⟨_,ri,rfl⟩
 ·rw [show (p == A)=false from beq_eq_false_iff_ne.2 (Ne.symm h),if_neg h];conv=>whnf
  repeat' (refine zZ ?_;conv=>whnf)
  exact⟨_,ri,rfl⟩
section
variable {g:Geo} {t:List Ent} {had:List (List UInt8)} {A:Int} {b:List UInt8} {stamp:Int}
theorem Xq (A:Int) (b:List UInt8) (i:Nat):E6 [A] [b] i 1=if A=(i:Int) then some b else none:=rfl
theorem Xv (h8:∀ b∈had,b.length=8) (hlo:∀ i,i<t.length->(t.getD i ez).lost=false) {i:Nat} (hi:i<t.length) (hi2:i<had.length):Gv g t had [A] [b] i=if A=(i:Int) then b else had.getD i []:=by
 unfold Gv;show (match E6 [A] [b] i 1 with | some b=>b | none=>FH g t had i)=_;rw [Xq];by_cases h:A=(i:Int)
 ·rw [if_pos h,if_pos h]
 ·rw [if_neg h,if_neg h];show FH g t had i=_;unfold FH;rw [hlo i hi,if_neg (by decide),if_pos (by rw [h8 _ (AC hi2)];decide)]
theorem Xu (h8:∀ b∈had,b.length=8) (hb:b.length=8) (hlo:∀ i,i<t.length->(t.getD i ez).lost=false) {i:Nat} (hi:i<t.length) (hi2:i<had.length):(Gv g t had [A] [b] i).length=8:=by
 rw [Xv h8 hlo hi hi2];split
 ·exact hb
 ·exact h8 _ (AC hi2)
theorem YU (h8:∀ b∈had,b.length=8) (hb:b.length=8) (hlo:∀ i,i<t.length->(t.getD i ez).lost=false) {i:Nat} (hi:i<t.length) (hi2:i<had.length):N4 g t had [A] [b] stamp i=if A=(i:Int) then ⟨stamp,(DC b:Nat),false⟩ else t.getD i ez:=by
 unfold N4;rw [if_neg (by rw [Xu h8 hb hlo hi hi2];decide)];show (match E6 [A] [b] i 1 with | some b=>_ | none=>_)=_;rw [Xq];by_cases h:A=(i:Int)
 ·rw [if_pos h,if_pos h]
 ·rw [if_neg h,if_neg h]
def GA (g:Geo) (t:List Ent) (had:List (List UInt8)) (A:Int) (b:List UInt8) (k:Nat):List (List UInt8):=(List.range k).map (Gv g t had [A] [b])
theorem Ol {n:Nat} (h:∀ i:Nat,i<n->(Gv g t had [A] [b] i).length=8):∀ k,k<=n->Kp (GA g t had A b k)=EQ g t had [A] [b] k
 | 0,_=>rfl
 | k+1,hk=>by
  have ih:=Ol h k (by omega);unfold Kp GA at ih |-
  rw [B8,A2,B_,ih,EQ,if_neg (by rw [h k (by omega)];decide)];try rfl
end
theorem Qb (g:Geo) (t:List Ent) (had:List (List UInt8)) (A:Int) (b:List UInt8) (stamp:Int) (hg:Bm g=true) (ht:H7 g t=true) (hh:(had.length:Int)=g.d+1) (h8:∀ b∈had,b.length=8) (hlo:∀ i,i<t.length->(t.getD i ez).lost=false) (hA:0<=A/\A<g.d) (hb:b.length=8) (hs:0<=stamp/\stamp<=4294967295) :
  Fn Tryz.prog 145 [.ag (Bi g), .ag [BX t],Hr had,iA [A],Hr [b],iv stamp] fun r=>r = .tp [.ag [BX (BE g t had [A] [b] stamp)],bA (EQ g t had [A] [b] g.d.toNat),iv 0]:=by
 obtain⟨g1,g2,g3,g4,g5⟩:=Az.1 hg;have htl:=IS ht;have hz:=VL g t had hg ht hh h8 hlo;have hr:=JU g A hA;have hw:=Jr [b] (show 1<=1000000 by decide) (fun x hx=>by rw [A9] at hx;rw [hx];exact hb);have htw:=Sl t (by omega);have hB8:∀ i:Nat,i<g.d.toNat->(Gv g t had [A] [b] i).length=8:=fun i hi=>Xu h8 hb hlo (by omega) (by omega)
 have em:=Po stamp b hs hb;refine zT Tryz.func145 rfl ?_;conv=>whnf
 refine z_ hz ?_;conv=>whnf
 refine z_ hr ?_;conv=>whnf
 rw [show decide (stamp<0)=false from decide_eq_false (by omega)];conv=>whnf
 rw [show decide (stamp > 4294967295)=false from decide_eq_false (by omega)];conv=>whnf
 refine z_ hw ?_;conv=>whnf
 refine zX htw rfl ?_;rintro _ _ ⟨rfl,rfl⟩;conv=>whnf
 refine zR Nat (fun i=>([(3,iA [A]),(4,Hr [b]),(5,iv stamp),(6, .bp 0 0),(12, .bp 2 0),(15,Hr had),(16,Zh (List.replicate had.length true)),(17, .ow 4 i),(62,iv g.d),(63,iv (i:Nat))], [.box 24 (Bi g), .box 145 [BX t], .box 145 [.ow 3 t.length], .row 189 3 ((FG g t had [A] [b] stamp i).map Dm), .row 22 1 ((GA g t had A b i).map L_)])) (fun i=>i<=g.d.toNat) (fun i=>g.d.toNat - i) 0 (Ak _)
  ⟨_,_,zr _ _, [(17,22,1)],tA, [0,1,2,3,4],tA,tA,rfl,rfl,rfl,rfl,rfl⟩ ?_
 intro i hi;by_cases hin:i<g.d.toNat
 ·have hit:i<t.length:=by omega
  have hih:i<had.length:=by omega
  have hE:=YU (g:=g) (A:=A) (b:=b) (stamp:=stamp) h8 hb hlo hit hih;have hN:=Xv (g:=g) (A:=A) (b:=b) h8 hlo hit hih;have hix:=V_ A (i:Nat);have hlo2:=OF g t had [A] [b] stamp (Nat.le_of_lt hit);have hsl:(GA g t had A b i).length=i:=by simp [GA]
  have hs2:(GA g t had A b i).map L_ ++ [L_ (Gv g t had [A] [b] i)]=(GA g t had A b (i+1)).map L_:=by simp [GA,B8]
  by_cases hq:A=(i:Int)
  ·rw [if_pos hq] at hE hN hix;rw [hN] at hs2;conv=>whnf
   rw [show decide ((i:Int)<g.d)=true from decide_eq_true (by omega)];conv=>whnf
   repeat' (refine zZ ?_;conv=>whnf)
   refine z_ hix ?_;conv=>whnf
   repeat' (refine zZ ?_;conv=>whnf)
   have ixA:(0:Int)<=0/\(0:Int)<(([b]:List (List UInt8)).length:Nat):=in01;apply zW (0) tys_ok mixed (.o [0,1,2,3,4,5,6,7,8,9,10,11,12,13] .fin) (by kernel_rfl);conv=>whnf
   try (refine tI ?_;conv=>whnf)
   refine z_ em ?_;conv=>whnf
   try (refine tI ?_;conv=>whnf)
   try (refine tS ?_;conv=>whnf)
   all_goals rw [show ((FG g t had [A] [b] stamp i).map Dm).getD (((i:Nat):Int)).toNat []=Dm ((FG g t had [A] [b] stamp i).getD i ez) by rw [Ac];exact AQ (by omega)]
   all_goals
    conv=>whnf
    repeat' (refine zZ ?_;conv=>whnf)
    refine⟨in01,?_⟩;refine⟨rfl,?_⟩;refine⟨⟨by rw [Aa,hsl],by omega⟩,?_⟩;exact⟨i+1,by omega,by omega,zP (s:= [0,1,2,3,4]) ⟨⟨rfl,rfl,rfl,rfl,rfl,rfl,rfl,rfl,rfl,AP (by omega),tv⟩,⟨rfl,rfl,rfl,congrArg (fun z=>some (AB.row 189 3 z)) (show ((FG g t had [A] [b] stamp i).map Dm).set (((i:Nat):Int)).toNat (Dm ⟨stamp,(DC b:Nat),false⟩)=(FG g t had [A] [b] stamp (i+1)).map Dm by rw [Ac,<-List.map_set,<-hE,Mu g t had [A] [b] stamp hit]),congrArg (fun z=>some (AB.row 22 1 z)) hs2,tv⟩,rfl,rfl,rfl,rfl,rfl⟩⟩
  ·rw [if_neg hq] at hE hN hix;rw [hN] at hs2;conv=>whnf
   rw [show decide ((i:Int)<g.d)=true from decide_eq_true (by omega)];conv=>whnf
   repeat' (refine zZ ?_;conv=>whnf)
   refine z_ hix ?_;conv=>whnf
   repeat' (refine zZ ?_;conv=>whnf)
   refine Ah ⟨by omega,by rw [Bh];omega⟩ ?_;conv=>whnf
   rw [show (List.replicate had.length true).getD ((i:Nat):Int).toNat false=true by rw [Ac,Ab,List.getElem?_replicate,if_pos hih];try rfl];conv=>whnf
   repeat' (refine zZ ?_;conv=>whnf)
   refine⟨⟨by omega,by omega⟩,?_⟩;refine⟨rfl,?_⟩;conv=>whnf
   rw [Ac];refine⟨⟨by rw [Aa,hsl],by omega⟩,?_⟩;exact⟨i+1,by omega,by omega,zP (s:= [0,1,2,3,4]) ⟨⟨rfl,rfl,rfl,rfl,rfl,rfl,rfl,rfl,rfl,AP (by omega),tv⟩,⟨rfl,rfl,rfl,congrArg (fun z=>some (AB.row 189 3 z)) (show (FG g t had [A] [b] stamp i).map Dm=(FG g t had [A] [b] stamp (i+1)).map Dm by rw [<-Mu g t had [A] [b] stamp hit,hE,XZ g t had [A] [b] stamp hit]),congrArg (fun z=>some (AB.row 22 1 z)) hs2,tv⟩,rfl,rfl,rfl,rfl,rfl⟩⟩
 ·have ei:i=g.d.toNat:=by omega
  subst ei;conv=>whnf
  rw [show decide (((g.d.toNat:Nat):Int)<g.d)=false from decide_eq_false (by omega)];conv=>whnf
  repeat' (refine zZ ?_;conv=>whnf)
  have hsl:(GA g t had A b g.d.toNat).length=g.d.toNat:=by simp [GA]
  have hxa:=VN (GA g t had A b g.d.toNat) (by omega) (fun x hx=>by
   obtain⟨i,hi,rfl⟩:=AL.1 hx;exact hB8 i (AJ.1 hi))
  rw [Ol hB8 _ (Ag _)] at hxa;refine Fn.shut (args':= [.sl 1 g.d.toNat fun i=>((GA g t had A b g.d.toNat).map L_).getD i [],iv 8]) (hxa.subA ⟨FL hsl.symm rfl,fun _ _ h=>h,tv⟩) ⟨by rw [Aa,hsl],rfl,?_⟩;rintro _ rfl;conv=>whnf
  have hp8:(EQ g t had [A] [b] g.d.toNat).length=8:=He (g:=g) (t:=t) (had:=had) (ats:= [A]) (bs:= [b]) (fun x hx=> .inr (h8 x hx)) (fun x hx=>by rw [A9] at hx;rw [hx];exact hb) (Ag 1) _;have he:=Po stamp (EQ g t had [A] [b] g.d.toNat) hs hp8;apply zW (0) tys_ok mixed (.o [0,1,2,3,4,5,6,7,8,9,10,11] .fin) (by kernel_rfl);conv=>whnf
  refine z_ he ?_;conv=>whnf
  try (refine tI ?_;conv=>whnf)
  try (refine tS ?_;conv=>whnf)
  have hdl:g.d.toNat<t.length:=by omega
  have hlo2:=OF g t had [A] [b] stamp (Nat.le_of_lt hdl);have eW:(FG g t had [A] [b] stamp g.d.toNat).set g.d.toNat ⟨stamp,(DC (EQ g t had [A] [b] g.d.toNat):Nat),false⟩=BE g t had [A] [b] stamp:=by
   rw [KV g t had [A] [b] stamp hdl,BE,A5 (by omega)]
  have hgl:((FG g t had [A] [b] stamp g.d.toNat).map Dm).getD g.d.toNat []=Dm ((FG g t had [A] [b] stamp g.d.toNat).getD g.d.toNat ez):=AQ (by omega);have eR:((FG g t had [A] [b] stamp g.d.toNat).map Dm).set g.d.toNat (Dm ⟨stamp,(DC (EQ g t had [A] [b] g.d.toNat):Nat),false⟩)=(BE g t had [A] [b] stamp).map Dm:=by rw [<-List.map_set,eW]
  have eN:(BE g t had [A] [b] stamp).length=t.length:=by simp [BE];omega
  all_goals
   refine⟨⟨rfl,by rw [Aa,hlo2],hdl⟩,?_⟩;rw [hgl];refine⟨(by rw [Bg,Aa,hlo2]),?_⟩;exact⟨.tp [.ag [BX (BE g t had [A] [b] stamp)],bA (EQ g t had [A] [b] g.d.toNat),iv 0],Ca ⟨B7 ⟨C2 (f:=Dm) (BE g t had [A] [b] stamp) eN.symm eR,tv⟩,ri,ri,tv⟩,rfl⟩
theorem Oo (g:Geo) (z:Int) (t:List Ent) (par:List UInt8) (A:Int) (b:List UInt8) (hg:Bm g=true) (hz:0<=z/\z<g.z) (ht:H7 g t=true) (hp:par.length=8) (hA:0<=A/\A<g.d) (hb:b.length=8) :
  Fn Tryz.prog 146 [.ag (Bi g),iv z, .ag [BX t],bA par,iA [A],Hr [b]] fun r=>r = .tp [Ec (Cx z t par [A] [b]),iv 0]:=by
 obtain⟨g1,g2,g3,g4,g5⟩:=Az.1 hg;have htl:=IS ht;have h1:=BP par (by omega);have h2:=BP b (by omega);have h3:=Jq g t (by omega);rw [ht,if_pos rfl] at h3;have hr:=JU g A hA;have hw:=Jr [b] (show 1<=1000000 by decide) (fun x hx=>by rw [A9] at hx;rw [hx];exact hb);have hwp:=Jr [par] (show 1<=1000000 by decide) (fun x hx=>by rw [A9] at hx;rw [hx];exact hp);refine zT Tryz.func146 rfl ?_;conv=>whnf
 refine z_ h3 ?_;conv=>whnf
 rw [show decide (z<0)=false from decide_eq_false (by omega)];conv=>whnf
 rw [show decide (z>=g.z)=false from decide_eq_false (by omega)];conv=>whnf
 refine z_ hr ?_;conv=>whnf
 refine z_ hw ?_;conv=>whnf
 refine zk (args':= [.sl 1 1 fun i=>([L_ par]:List (List AV)).getD i []]) (hwp.subA ⟨FL (L:= [par]) rfl rfl,tv⟩) tA ?_;rintro _ rfl;refine⟨rfl,?_⟩;conv=>whnf
 refine zR Nat (fun k=>([(1,iv z),(3,bA par),(5,Hr [b]),(14,bA (De t)),(16, .ow 2 k),(61,iA [A]),(62,iv 1),(63,iv (k:Nat))], [.box 24 (Bi g), .box 145 [BX t], .row 139 3 ((([⟨z,A,b⟩]:List Img).take k).map FY)])) (fun k=>k<=1) (fun k=>1 - k) 0 (by decide)
  ⟨_,_,zr _ _, [(16,139,3)],tA, [0,1,3],tA,tA,rfl,rfl,rfl,rfl,rfl⟩ ?_
 intro k hk;by_cases hk1:k=1
 ·subst hk1;conv=>whnf
  repeat' (refine zZ ?_;conv=>whnf)
  refine z_ h1 ?_;refine⟨rfl,?_⟩;refine⟨⟨rfl,by decide⟩,?_⟩;refine⟨rfl,?_⟩;exact⟨.tp [Ec (Cx z t par [A] [b]),iv 0],Ca ⟨C2 (f:=FY) (Cx z t par [A] [b]) rfl rfl,ri,tv⟩,rfl⟩
 ·obtain rfl:k=0:=by omega
  conv=>whnf
  repeat' (refine zZ ?_;conv=>whnf)
  refine⟨in01,?_⟩;conv=>whnf
  repeat' (refine zZ ?_;conv=>whnf)
  refine⟨in01,?_⟩;conv=>whnf
  refine z_ h2 ?_;refine⟨rfl,?_⟩;refine⟨⟨rfl,by decide⟩,?_⟩;exact⟨1,by omega,by omega,zP (s:= [0,1,2]) tA⟩
end
section
open Go.RowKit Go.Shelf
attribute [local go_sem] Oper.semAt_some

theorem Vy (F:Fence) (n:Nat) (h7:F.fn 314) (hro:F.round=none) (hn:1<=n) (l Bs n₀ b off len cap:Nat) (X0 X1 X2 X3:Nat->Value) (hlen:len<=1000000000) (hb:b<n₀) (hBn:Bs<n₀) (J Jx:List Nat->World->Prop)
  (hY:∀ pre x W,J pre W->pre.length<len->x<len->YieldAt F (n - 1) Tryz.prog l #[.int .i64 (x:Nat), .agg #[X0 x,X1 x,X2 x,X3 x]] W fun e W'=>
   (e = .returned (.bool true)/\J (pre ++ [x]) W'/\Below n₀ W W')\/(e = .returned (.bool false)/\Jx (pre ++ [x]) W'))
  (W:World) (hBs:W.cell? ⟨Bs,0,none⟩=some (.slice (some ⟨b,off,none⟩) len cap)) (hc0:∀ j,j<len->W.cell? ⟨b,off+j*4,none⟩=some (X0 j)) (hc1:∀ j,j<len->W.cell? ⟨b,off+j*4+1,none⟩=some (X1 j)) (hc2:∀ j,j<len->W.cell? ⟨b,off+j*4+2,none⟩=some (X2 j)) (hc3:∀ j,j<len->W.cell? ⟨b,off+j*4+3,none⟩=some (X3 j)) (h0:J [] W) :
  CallsIn F n Tryz.prog 314 #[.func (.yield l) #[] #[], .pointer (some ⟨Bs,0,none⟩)] W fun e W'=>(∃ v,e = .returned v)/\
   ((∃ ys,ys=CN len len/\J ys W')\/(∃ pre,(∃ k,k<=len/\pre=CN len k)/\Jx pre W')):=by
 have Hc0:=Lib.hid hc0;have Hc1:=Lib.hid hc1;have Hc2:=Lib.hid hc2;have Hc3:=Lib.hid hc3;clear hc0 hc1 hc2 hc3;refine callsIn_of_wp Tryz.func314 rfl h7 ?_ hro;simp only [Tryz.ntmps314,B4,Ao,AN,Nat.reduceAdd,Nat.reduceSub,CA,C9,Dj,CI,Bt,Be]
 gi_wp2
 gi_loopw [3] (fun i wr=>∃ k:Nat,k<=len/\i = .int .i64 ((len:Int) - 1 - k)/\J (CN len k) wr/\Below n₀ W wr)
  (fun i _=>(intOf i+1).toNat)
 case atStart=>exact⟨0,Ak _,by simp,h0,Below.refl _ _⟩
 case round=>
  obtain⟨k,hk,rfl,hJs,hnx⟩:=hrel;by_cases hlt:k<len
  ·obtain⟨m,hmk⟩:∃ m,len=k+1+m:=⟨len - (k+1),by omega⟩;rw [show (len:Int) - 1 - k=(m:Int) by omega];obtain⟨fn,tmps,assign,body,hy,hR⟩:=hY _ m wr hJs (by rw [G3];exact hlt) (by omega);have e0:=(hnx.cell (p:=⟨b,off+m*4,none⟩) hb).trans (Hc0.out m (by omega));have e1:=(hnx.cell (p:=⟨b,off+m*4+1,none⟩) hb).trans (Hc1.out m (by omega));have e2:=(hnx.cell (p:=⟨b,off+m*4+2,none⟩) hb).trans (Hc2.out m (by omega));have e3:=(hnx.cell (p:=⟨b,off+m*4+3,none⟩) hb).trans (Hc3.out m (by omega));have eb:=(hnx.cell (p:=⟨Bs,0,none⟩) hBn).trans hBs;have hm:(m:Int)<(len:Int):=by omega
   have Hm:=Lib.hid hmk;clear hmk
   gi_wp2
   refine hR.mono ?_;rintro e W3 (⟨rfl,hJ3,hk3⟩ | ⟨rfl,hJx3⟩)
   ·gi_wp2
    go_roundw
    case rel=>exact⟨k+1,by omega,congrArg (Value.int .i64) (by have:=Hm.out;omega),by rw [EG,show len - 1 - k=m by have:=Hm.out;omega];exact hJ3,hnx.trans hk3⟩
    case measure=>simp [intOf]
   ·gi_wp2
    refine bodyPost_ret (results_none rfl _ _ _) rfl ?_;exact⟨⟨_,rfl⟩, .inr ⟨_,⟨k+1,by omega,by rw [EG,show len - 1 - k=m by have:=Hm.out;omega]⟩,hJx3⟩⟩
  ·obtain rfl:k=len:=by omega
   rw [show ((k:Nat):Int) - 1 - k = -1 by omega]
   gi_wp2
   go_end0
   exact⟨⟨_,rfl⟩, .inl ⟨_,rfl,hJs⟩⟩

theorem Vz (F:Fence) (n:Nat) (h7:F.fn 314) (hro:F.round=none) (l Bs:Nat) (a:Option Addr) (cap:Nat) (J:List Nat->World->Prop) (W:World) (hBs:W.cell? ⟨Bs,0,none⟩=some (.slice a 0 cap)) (h0:J [] W) :
  CallsIn F n Tryz.prog 314 #[.func (.yield l) #[] #[], .pointer (some ⟨Bs,0,none⟩)] W fun e W'=>(∃ v,e = .returned v)/\J [] W':=by
 refine callsIn_of_wp Tryz.func314 rfl h7 ?_ hro;simp only [Tryz.ntmps314,B4,Ao,AN,Nat.reduceAdd,Nat.reduceSub,CA,C9,Dj,CI,Bt,Be]
 gi_wp2
 gi_loopw [3] (fun i wr=>i = .int .i64 (-1)/\J [] wr) (fun _ _=>0)
 case atStart=>exact⟨rfl,h0⟩
 case round=>
  obtain⟨rfl,hJs⟩:=hrel
  gi_wp2
  go_end0
  exact⟨⟨_,rfl⟩,hJs⟩

theorem QS (F:Fence) (n:Nat) (h7:F.fn 314) (hro:F.round=none) (hn:1<=n) (Bs n₀:Nat) (a:Option Addr) (len cap:Nat) (X0 X1 X2 X3:Nat->Value) (hlen:len<=1000000000) (w:World) (hBs:Bs<n₀) (hn₀:n₀<=w.heap.size)
  (hc:w.cell? ⟨Bs,0,none⟩=some (.slice a len cap)) (hI:0<len->∃ b off,a=some ⟨b,off,none⟩/\b<n₀/\∀ j,j<len->w.cell? ⟨b,off+j*4,none⟩=some (X0 j)/\w.cell? ⟨b,off+j*4+1,none⟩=some (X1 j)/\w.cell? ⟨b,off+j*4+2,none⟩=some (X2 j)/\w.cell? ⟨b,off+j*4+3,none⟩=some (X3 j)) :
  SeqStopsK F n Tryz.prog 314 #[.pointer (some ⟨Bs,0,none⟩)] (fun x:Fin len=> #[Value.int .i64 x.val, .agg #[X0 x,X1 x,X2 x,X3 x]]) (Below n₀) (fun ys=>ys.map Fin.val=CN len len) (fun pre=>∃ k,k<=len/\pre.map Fin.val=CN len k) len w:=fun l J Jx W hW _ _ hY h0=>by
 have hc':=(hW.cell (p:=⟨Bs,0,none⟩) (by show Bs<_;omega)).trans hc;rcases CY len with rfl | hp
 ·exact(Vz F n h7 hro l Bs a cap (fun _ W=>J [] W) W hc' h0).mono fun e W' ⟨he,hj⟩=>⟨he, .inl ⟨[],rfl,hj⟩⟩
 ·obtain⟨b,off,rfl,hb,hj⟩:=hI hp;refine(Vy F n h7 hro hn l Bs n₀ b off len cap X0 X1 X2 X3 hlen hb hBs (fun pre W=>∃ q:List (Fin len),q.map Fin.val=pre/\J q W) (fun pre W=>∃ q:List (Fin len),q.map Fin.val=pre/\Jx q W) ?_ W hc' (fun j h=>(hW.cell (p:=⟨b,off+j*4,none⟩) (by show b<_;omega)).trans (hj j h).1) (fun j h=>(hW.cell (p:=⟨b,off+j*4+1,none⟩) (by show b<_;omega)).trans (hj j h).2.1) (fun j h=>(hW.cell (p:=⟨b,off+j*4+2,none⟩) (by show b<_;omega)).trans (hj j h).2.2.1) (fun j h=>(hW.cell (p:=⟨b,off+j*4+3,none⟩) (by show b<_;omega)).trans (hj j h).2.2.2) ⟨[],rfl,h0⟩).mono ?_
  ·rintro pre x W1 ⟨q,hq,hJ⟩ hlt hx;obtain⟨fn,tmps,assign,body,hy,hR⟩:=hY q ⟨x,hx⟩ W1 hJ (by rw [<-hq,Aa] at hlt;exact hlt);refine⟨fn,tmps,assign,body,hy,hR.mono ?_⟩;rintro e W' (⟨he,h1,h2⟩ | ⟨he,h1⟩)
   ·exact .inl ⟨he,⟨_,by simp [hq],h1⟩,h2⟩
   ·exact .inr ⟨he,⟨_,by simp [hq],h1⟩⟩
  ·rintro e W' ⟨he,⟨ys,rfl,q,hq,hJ⟩ | ⟨pre,⟨k,hk,rfl⟩,q,hq,hJ⟩⟩
   ·exact⟨he, .inl ⟨q,hq,hJ⟩⟩
   ·exact⟨he, .inr ⟨q,⟨k,hk,hq⟩,hJ⟩⟩

theorem bktx_is:IsBack Tryz.prog 314 4:=by
 refine⟨enters_of Tryz.func314 (by kernel_rfl) rfl,fun m hm B a len cap X w hlen hc hl hI=>?_⟩;have e:(fun x:Fin len=>(#[Value.int .i64 x.val, .agg (X x.val).toArray]:Array Value))=fun x:Fin len=> #[Value.int .i64 x.val, .agg #[(X x.val).getD 0 undef,(X x.val).getD 1 undef,(X x.val).getD 2 undef,(X x.val).getD 3 undef]]:=by
  funext x;have:=hl x.val;match h:X x.val with
  | [u0,u1,u2,u3]=>rfl
  | []=>rw [h] at this;simp at this
  | [_]=>rw [h] at this;simp at this
  | [_,_]=>rw [h] at this;simp at this
  | [_,_,_]=>rw [h] at this;simp at this
  | _::_::_::_::_::_=>rw [h] at this;simp at this
 rw [e];refine QS Fence.wide m trivial rfl hm B w.heap.size a len cap (fun j=>(X j).getD 0 undef) (fun j=>(X j).getD 1 undef) (fun j=>(X j).getD 2 undef) (fun j=>(X j).getD 3 undef) hlen w (World.block_lt_of_cell? w _ hc) (Ag _) hc fun hp=>?_
 obtain⟨b,off,h1,h2,h3⟩:=hI hp;refine⟨b,off,h1,h2,fun j hj=>?_⟩;have h4:=hl j;match h:X j with
 | [u0,u1,u2,u3]=>exact⟨h3 j hj 0 u0 (by rw [h];rfl),h3 j hj 1 u1 (by rw [h];rfl),h3 j hj 2 u2 (by rw [h];rfl),h3 j hj 3 u3 (by rw [h];rfl)⟩
 | []=>rw [h] at h4;simp at h4
 | [_]=>rw [h] at h4;simp at h4
 | [_,_]=>rw [h] at h4;simp at h4
 | [_,_,_]=>rw [h] at h4;simp at h4
 | _::_::_::_::_::_=>rw [h] at h4;simp at h4

theorem V0 (F:Fence) (n:Nat) (h7:F.fn 315) (hro:F.round=none) (hn:1<=n) (l Bs n₀ b off len cap:Nat) (X0 X1 X2:Nat->Value) (hlen:len<=1000000000) (hb:b<n₀) (hBn:Bs<n₀) (J Jx:List Nat->World->Prop)
  (hY:∀ pre x W,J pre W->pre.length<len->x<len->YieldAt F (n - 1) Tryz.prog l #[.int .i64 (x:Nat), .agg #[X0 x,X1 x,X2 x]] W fun e W'=>
   (e = .returned (.bool true)/\J (pre ++ [x]) W'/\Below n₀ W W')\/(e = .returned (.bool false)/\Jx (pre ++ [x]) W'))
  (W:World) (hBs:W.cell? ⟨Bs,0,none⟩=some (.slice (some ⟨b,off,none⟩) len cap)) (hc0:∀ j,j<len->W.cell? ⟨b,off+j*3,none⟩=some (X0 j)) (hc1:∀ j,j<len->W.cell? ⟨b,off+j*3+1,none⟩=some (X1 j)) (hc2:∀ j,j<len->W.cell? ⟨b,off+j*3+2,none⟩=some (X2 j)) (h0:J [] W) :
  CallsIn F n Tryz.prog 315 #[.func (.yield l) #[] #[], .pointer (some ⟨Bs,0,none⟩)] W fun e W'=>(∃ v,e = .returned v)/\
   ((∃ ys,ys=CN len len/\J ys W')\/(∃ pre,(∃ k,k<=len/\pre=CN len k)/\Jx pre W')):=by
 have Hc0:=Lib.hid hc0;have Hc1:=Lib.hid hc1;have Hc2:=Lib.hid hc2;clear hc0 hc1 hc2;refine callsIn_of_wp Tryz.func315 rfl h7 ?_ hro;simp only [Tryz.ntmps315,B4,Ao,AN,Nat.reduceAdd,Nat.reduceSub,CA,C9,Dj,CI,Bt,Be]
 gi_wp2
 gi_loopw [3] (fun i wr=>∃ k:Nat,k<=len/\i = .int .i64 ((len:Int) - 1 - k)/\J (CN len k) wr/\Below n₀ W wr)
  (fun i _=>(intOf i+1).toNat)
 case atStart=>exact⟨0,Ak _,by simp,h0,Below.refl _ _⟩
 case round=>
  obtain⟨k,hk,rfl,hJs,hnx⟩:=hrel;by_cases hlt:k<len
  ·obtain⟨m,hmk⟩:∃ m,len=k+1+m:=⟨len - (k+1),by omega⟩;rw [show (len:Int) - 1 - k=(m:Int) by omega];obtain⟨fn,tmps,assign,body,hy,hR⟩:=hY _ m wr hJs (by rw [G3];exact hlt) (by omega);have e0:=(hnx.cell (p:=⟨b,off+m*3,none⟩) hb).trans (Hc0.out m (by omega));have e1:=(hnx.cell (p:=⟨b,off+m*3+1,none⟩) hb).trans (Hc1.out m (by omega));have e2:=(hnx.cell (p:=⟨b,off+m*3+2,none⟩) hb).trans (Hc2.out m (by omega));have eb:=(hnx.cell (p:=⟨Bs,0,none⟩) hBn).trans hBs;have hm:(m:Int)<(len:Int):=by omega
   have Hm:=Lib.hid hmk;clear hmk
   gi_wp2
   refine hR.mono ?_;rintro e W3 (⟨rfl,hJ3,hk3⟩ | ⟨rfl,hJx3⟩)
   ·gi_wp2
    go_roundw
    case rel=>exact⟨k+1,by omega,congrArg (Value.int .i64) (by have:=Hm.out;omega),by rw [EG,show len - 1 - k=m by have:=Hm.out;omega];exact hJ3,hnx.trans hk3⟩
    case measure=>simp [intOf]
   ·gi_wp2
    refine bodyPost_ret (results_none rfl _ _ _) rfl ?_;exact⟨⟨_,rfl⟩, .inr ⟨_,⟨k+1,by omega,by rw [EG,show len - 1 - k=m by have:=Hm.out;omega]⟩,hJx3⟩⟩
  ·obtain rfl:k=len:=by omega
   rw [show ((k:Nat):Int) - 1 - k = -1 by omega]
   gi_wp2
   go_end0
   exact⟨⟨_,rfl⟩, .inl ⟨_,rfl,hJs⟩⟩

theorem V1 (F:Fence) (n:Nat) (h7:F.fn 315) (hro:F.round=none) (l Bs:Nat) (a:Option Addr) (cap:Nat) (J:List Nat->World->Prop) (W:World) (hBs:W.cell? ⟨Bs,0,none⟩=some (.slice a 0 cap)) (h0:J [] W) :
  CallsIn F n Tryz.prog 315 #[.func (.yield l) #[] #[], .pointer (some ⟨Bs,0,none⟩)] W fun e W'=>(∃ v,e = .returned v)/\J [] W':=by
 refine callsIn_of_wp Tryz.func315 rfl h7 ?_ hro;simp only [Tryz.ntmps315,B4,Ao,AN,Nat.reduceAdd,Nat.reduceSub,CA,C9,Dj,CI,Bt,Be]
 gi_wp2
 gi_loopw [3] (fun i wr=>i = .int .i64 (-1)/\J [] wr) (fun _ _=>0)
 case atStart=>exact⟨rfl,h0⟩
 case round=>
  obtain⟨rfl,hJs⟩:=hrel
  gi_wp2
  go_end0
  exact⟨⟨_,rfl⟩,hJs⟩

theorem QT (F:Fence) (n:Nat) (h7:F.fn 315) (hro:F.round=none) (hn:1<=n) (Bs n₀:Nat) (a:Option Addr) (len cap:Nat) (X0 X1 X2:Nat->Value) (hlen:len<=1000000000) (w:World) (hBs:Bs<n₀) (hn₀:n₀<=w.heap.size)
  (hc:w.cell? ⟨Bs,0,none⟩=some (.slice a len cap)) (hI:0<len->∃ b off,a=some ⟨b,off,none⟩/\b<n₀/\∀ j,j<len->w.cell? ⟨b,off+j*3,none⟩=some (X0 j)/\w.cell? ⟨b,off+j*3+1,none⟩=some (X1 j)/\w.cell? ⟨b,off+j*3+2,none⟩=some (X2 j)) :
  SeqStopsK F n Tryz.prog 315 #[.pointer (some ⟨Bs,0,none⟩)] (fun x:Fin len=> #[Value.int .i64 x.val, .agg #[X0 x,X1 x,X2 x]]) (Below n₀) (fun ys=>ys.map Fin.val=CN len len) (fun pre=>∃ k,k<=len/\pre.map Fin.val=CN len k) len w:=fun l J Jx W hW _ _ hY h0=>by
 have hc':=(hW.cell (p:=⟨Bs,0,none⟩) (by show Bs<_;omega)).trans hc;rcases CY len with rfl | hp
 ·exact(V1 F n h7 hro l Bs a cap (fun _ W=>J [] W) W hc' h0).mono fun e W' ⟨he,hj⟩=>⟨he, .inl ⟨[],rfl,hj⟩⟩
 ·obtain⟨b,off,rfl,hb,hj⟩:=hI hp;refine(V0 F n h7 hro hn l Bs n₀ b off len cap X0 X1 X2 hlen hb hBs (fun pre W=>∃ q:List (Fin len),q.map Fin.val=pre/\J q W) (fun pre W=>∃ q:List (Fin len),q.map Fin.val=pre/\Jx q W) ?_ W hc' (fun j h=>(hW.cell (p:=⟨b,off+j*3,none⟩) (by show b<_;omega)).trans (hj j h).1) (fun j h=>(hW.cell (p:=⟨b,off+j*3+1,none⟩) (by show b<_;omega)).trans (hj j h).2.1) (fun j h=>(hW.cell (p:=⟨b,off+j*3+2,none⟩) (by show b<_;omega)).trans (hj j h).2.2) ⟨[],rfl,h0⟩).mono ?_
  ·rintro pre x W1 ⟨q,hq,hJ⟩ hlt hx;obtain⟨fn,tmps,assign,body,hy,hR⟩:=hY q ⟨x,hx⟩ W1 hJ (by rw [<-hq,Aa] at hlt;exact hlt);refine⟨fn,tmps,assign,body,hy,hR.mono ?_⟩;rintro e W' (⟨he,h1,h2⟩ | ⟨he,h1⟩)
   ·exact .inl ⟨he,⟨_,by simp [hq],h1⟩,h2⟩
   ·exact .inr ⟨he,⟨_,by simp [hq],h1⟩⟩
  ·rintro e W' ⟨he,⟨ys,rfl,q,hq,hJ⟩ | ⟨pre,⟨k,hk,rfl⟩,q,hq,hJ⟩⟩
   ·exact⟨he, .inl ⟨q,hq,hJ⟩⟩
   ·exact⟨he, .inr ⟨q,⟨k,hk,hq⟩,hJ⟩⟩

theorem bkim_is:IsBack Tryz.prog 315 3:=by
 refine⟨enters_of Tryz.func315 (by kernel_rfl) rfl,fun m hm B a len cap X w hlen hc hl hI=>?_⟩;have e:(fun x:Fin len=>(#[Value.int .i64 x.val, .agg (X x.val).toArray]:Array Value))=fun x:Fin len=> #[Value.int .i64 x.val, .agg #[(X x.val).getD 0 undef,(X x.val).getD 1 undef,(X x.val).getD 2 undef]]:=by
  funext x;have:=hl x.val;match h:X x.val with
  | [u0,u1,u2]=>rfl
  | []=>rw [h] at this;simp at this
  | [_]=>rw [h] at this;simp at this
  | [_,_]=>rw [h] at this;simp at this
  | _::_::_::_::_=>rw [h] at this;simp at this
 rw [e];refine QT Fence.wide m trivial rfl hm B w.heap.size a len cap (fun j=>(X j).getD 0 undef) (fun j=>(X j).getD 1 undef) (fun j=>(X j).getD 2 undef) hlen w (World.block_lt_of_cell? w _ hc) (Ag _) hc fun hp=>?_
 obtain⟨b,off,h1,h2,h3⟩:=hI hp;refine⟨b,off,h1,h2,fun j hj=>?_⟩;have h4:=hl j;match h:X j with
 | [u0,u1,u2]=>exact⟨h3 j hj 0 u0 (by rw [h];rfl),h3 j hj 1 u1 (by rw [h];rfl),h3 j hj 2 u2 (by rw [h];rfl)⟩
 | []=>rw [h] at h4;simp at h4
 | [_]=>rw [h] at h4;simp at h4
 | [_,_]=>rw [h] at h4;simp at h4
 | _::_::_::_::_=>rw [h] at h4;simp at h4

end
section
open Go.RowKit
def ER (l:List Img) (z w:Int):Nat->Option Nat
 | 0=>none
 | k+1=>if (l.getD k iz).zone=z/\(l.getD k iz).what=w then some k else ER l z w k
def FE (l:List Tx) (z w:Int):Nat->Option (Nat × Nat)
 | 0=>none
 | k+1=>match ER (l.getD k tz).images z w (l.getD k tz).images.length with
  | some i=>some (k,i)
  | none=>FE l z w k
theorem RK (l:List Img) (z w:Int):∀ k,Dx l z w k=(ER l z w k).map fun i=>l.getD i iz
 | 0=>rfl
 | k+1=>by
  rw [Dx,ER,RK l z w k];split <;> rfl
theorem Jd (l:List Tx) (z w:Int):∀ k,Fz l z w k=(FE l z w k).map fun p=>((l.getD p.1 tz).images.getD p.2 iz,(l.getD p.1 tz).seq)
 | 0=>rfl
 | k+1=>by
  rw [Fz,FE,RK];cases ER (l.getD k tz).images z w (l.getD k tz).images.length with
  | some i=>rfl
  | none=>exact Jd l z w k
theorem LD {l:List Img} {z w:Int}:∀ {k:Nat},ER l z w k=none->∀ j,j<k->¬((l.getD j iz).zone=z/\(l.getD j iz).what=w)
 | k+1,h,j,hj=>by
  rw [ER] at h;split at h
  ·cases h
  ·rename_i hc;rcases Nat.lt_succ_iff_lt_or_eq.1 hj with q | rfl
   ·exact LD h j q
   ·exact hc
theorem MH {l:List Img} {z w:Int} {j:Nat} (h:(l.getD j iz).zone=z/\(l.getD j iz).what=w):∀ (k:Nat),j<k->(∀ i,j<i->i<k->¬((l.getD i iz).zone=z/\(l.getD i iz).what=w))->ER l z w k=some j
 | k+1,hj,hn=>by
  rw [ER];by_cases e:j=k
  ·subst e;rw [if_pos h]
  ·rw [if_neg (hn k (by omega) (by omega))];exact MH h k (by omega) fun i q1 q2=>hn i q1 (by omega)
theorem LE {l:List Img} {z w:Int} {j:Nat}:∀ {k:Nat},ER l z w k=some j->j<k/\(l.getD j iz).zone=z/\(l.getD j iz).what=w
 | k+1,h=>by
  rw [ER] at h;split at h
  ·rename_i hc;obtain rfl:=Option.some.inj h;exact⟨by omega,hc⟩
  ·have:=LE h;exact⟨by omega,this.2⟩
theorem MI {l:List Tx} {z w:Int} {j i:Nat} (h:ER (l.getD j tz).images z w (l.getD j tz).images.length=some i):∀ (k:Nat),j<k->(∀ q,j<q->q<k->ER (l.getD q tz).images z w (l.getD q tz).images.length=none)->FE l z w k=some (j,i)
 | k+1,hj,hn=>by
  rw [FE];by_cases e:j=k
  ·subst e;rw [h]
  ·rw [hn k (by omega) (by omega)];exact MI h k (by omega) fun q q1 q2=>hn q q1 (by omega)
theorem LF {l:List Tx} {z w:Int}:∀ (k:Nat),(∀ q,q<k->ER (l.getD q tz).images z w (l.getD q tz).images.length=none)->FE l z w k=none
 | 0,_=>rfl
 | k+1,hn=>by
  rw [FE,hn k (by omega)];exact LF k fun q hq=>hn q (by omega)
theorem Ho {l:List Tx} {z w:Int} {p:Nat × Nat}:∀ {k:Nat},FE l z w k=some p->p.1<k/\p.2<(l.getD p.1 tz).images.length
 | k+1,h=>by
  rw [FE] at h;split at h
  ·rename_i i hi;obtain rfl:=Option.some.inj h;exact⟨Bq k,(LE hi).1⟩
  ·have:=Ho h;exact⟨by omega,this.2⟩
theorem Vx (a:Option Addr) (len cap:Nat) (w:World) :
  Calls Tryz.prog 239 #[.slice a len cap] w fun e w'=>e = .returned (.func (.func 314) #[] #[.pointer (some ⟨w.heap.size,0,none⟩)])/\w.alloc (.cells #[.slice a len cap] 29)=w':=by
 go_enter Tryz.func239,Tryz.ntmps239
 go_wp2
 go_ret
 exact tA
theorem P5 (a:Option Addr) (len cap:Nat) (w:World) :
  Calls Tryz.prog 240 #[.slice a len cap] w fun e w'=>e = .returned (.func (.func 315) #[] #[.pointer (some ⟨w.heap.size,0,none⟩)])/\w.alloc (.cells #[.slice a len cap] 160)=w':=by
 go_enter Tryz.func240,Tryz.ntmps240
 go_wp2
 go_ret
 exact tA
theorem NO {P:Program} {f g:FuncId} {t:TypeId} (hg:PD P f) (h:∀ a len cap w,Calls P f #[.slice a len cap] w fun e w'=>e = .returned (.func (.func g) #[] #[.pointer (some ⟨w.heap.size,0,none⟩)])/\w.alloc (.cells #[.slice a len cap] t)=w') (x:AV) (Hin:List AB) (hx:∀ c u,Rd x c u->∃ a len cap,u = .slice a len cap):ACalls P false f [x] Hin fun r H=>r = .fn g [.bp Hin.length 0]/\H=Hin ++ [.box t [x]]:=by
 refine⟨hg,fun w0 M0 c us hs hr=>?_⟩;have hr0:=hr;simp only [RdL] at hr;obtain⟨u,_,rfl,hu,rfl⟩:=hr;obtain⟨a,len,cap,rfl⟩:=hx _ _ hu;obtain⟨c',e1,e2,e3,e4⟩:=hs.box t hr0 (by simp [Value.oneCell']);refine(h a len cap c.w).mono ?_;rintro e w' ⟨rfl,rfl⟩;refine⟨_,c',_,_,rfl,by rw [e1],tA,e2,e3,?_,fun e=>by cases e⟩;simp only [Rd,RdL];exact⟨_,rfl,_,_,rfl,by simpa only [Rd] using e4,rfl⟩
theorem Nh {sz n:Nat} {get:Nat->List AV} (c:Ctx) (u:Value) (hu:Rd (.sl sz n get) c u):∃ a len cap,u = .slice a len cap:=by
 simp only [Rd] at hu;obtain⟨a,p,h, -⟩:=hu;exact⟨_,_,_,h⟩
theorem KZ (l:List Tx) (z w:Int) (hl:l.length<=1000000) (hi:∀ t∈l,t.images.length<=1000000):Fn Tryz.prog 164 [DW l,iv z,iv w] fun r=>r=(match FE l z w l.length with | some p=> .tp [iv (p.1:Nat),iv (p.2:Nat), .v (.bool true)] | none=> .tp [iv 0,iv 0, .v (.bool false)]):=by
 refine zT Tryz.func164 rfl ?_;conv=>whnf
 refine(NO ⟨_,Tryz.func239,rfl,by decide⟩ Vx (DW l) _ Nh).mono ?_;rintro _ _ ⟨rfl,rfl⟩;conv=>whnf
 refine aRF.back tys_ok bktx_is (B:=5) (len:=l.length) (E:=fun i=>Ia (l.getD i ⟨0,0,0, []⟩)) rfl rfl tA (by omega) rfl (by decide) rfl [(4, .rp [iv z]),(5, .rp [iv w])] ⟨.inr ⟨0,_,_,rfl,rfl,rfl,rfl⟩, .inr ⟨1,_,_,rfl,rfl,rfl,rfl⟩,tv⟩ (fun i=>(ER (l.getD i tz).images z w (l.getD i tz).images.length).isSome) ?_ ?_ ?_
 ·intro i hik hh;have hn:ER (l.getD i tz).images z w (l.getD i tz).images.length=none:=by simpa using hh
  have him:=hi _ (AC (d:=tz) hik);obtain⟨t,ht⟩:∃ t,t=l.getD i tz:=⟨_,rfl⟩;rw [show l.getD i ⟨0,0,0, []⟩=t from ht.symm];rw [<-ht] at hn him;refine⟨rfl,?_⟩;conv=>whnf
  refine(NO ⟨_,Tryz.func240,rfl,by decide⟩ P5 (Ec t.images) _ Nh).mono ?_;rintro _ _ ⟨rfl,rfl⟩;conv=>whnf
  refine aRF.back tys_ok bkim_is (B:=2) (len:=t.images.length) (E:=fun j=>FY (t.images.getD j ⟨0,0, []⟩)) rfl rfl tA (by omega) rfl (by decide) rfl [(4, .rp [iv z]),(5, .rp [iv w])] ⟨.inl tA, .inl tA,tv⟩ (fun _=>false) ?_ ?_ ?_
  ·intro j hj _;have hnj:=LD hn j hj;refine⟨rfl,?_⟩;conv=>whnf
   by_cases hz:(t.images.getD j ⟨0,0, []⟩).zone=z
   ·rw [show ((t.images.getD j ⟨0,0, []⟩).zone == z)=true from beq_iff_eq.2 hz];conv=>whnf
    rw [show ((t.images.getD j ⟨0,0, []⟩).what == w)=false from beq_eq_false_iff_ne.2 fun e=>hnj ⟨hz,e⟩];conv=>whnf
   ·rw [show ((t.images.getD j ⟨0,0, []⟩).zone == z)=false from beq_eq_false_iff_ne.2 hz];conv=>whnf
  ·intro j hj h;cases h
  ·intro _;conv=>whnf
 ·intro i hik hh;obtain⟨i0,hi0⟩:=C6.1 hh;have him:=hi _ (AC (d:=tz) hik);obtain⟨t,ht⟩:∃ t,t=l.getD i tz:=⟨_,rfl⟩;rw [show l.getD i ⟨0,0,0, []⟩=t from ht.symm];rw [<-ht] at hi0 him;refine⟨rfl,?_⟩;conv=>whnf
  refine(NO ⟨_,Tryz.func240,rfl,by decide⟩ P5 (Ec t.images) _ Nh).mono ?_;rintro _ _ ⟨rfl,rfl⟩;conv=>whnf
  refine aRF.back tys_ok bkim_is (B:=8) (len:=t.images.length) (E:=fun j=>FY (t.images.getD j ⟨0,0, []⟩)) rfl rfl tA (by omega) rfl (by decide) rfl [(4, .rp [iv z]),(5, .rp [iv w])] ⟨.inr ⟨0,_,_,rfl,rfl,rfl,rfl⟩, .inr ⟨1,_,_,rfl,rfl,rfl,rfl⟩,tv⟩ (fun j=>decide ((t.images.getD j iz).zone=z/\(t.images.getD j iz).what=w)) ?_ ?_ ?_
  ·intro j hj hnj;have hnj:=of_decide_eq_false hnj;refine⟨rfl,?_⟩;conv=>whnf
   by_cases hz:(t.images.getD j ⟨0,0, []⟩).zone=z
   ·rw [show ((t.images.getD j ⟨0,0, []⟩).zone == z)=true from beq_iff_eq.2 hz];conv=>whnf
    rw [show ((t.images.getD j ⟨0,0, []⟩).what == w)=false from beq_eq_false_iff_ne.2 fun e=>hnj ⟨hz,e⟩];conv=>whnf
   ·rw [show ((t.images.getD j ⟨0,0, []⟩).zone == z)=false from beq_eq_false_iff_ne.2 hz];conv=>whnf
  ·intro j hj hy;have hy:=of_decide_eq_true hy;refine⟨rfl,?_⟩;conv=>whnf
   rw [show ((t.images.getD j ⟨0,0, []⟩).zone == z)=true from beq_iff_eq.2 hy.1];conv=>whnf
   rw [show ((t.images.getD j ⟨0,0, []⟩).what == w)=true from beq_iff_eq.2 hy.2];refine⟨by simp,rfl,fun hord=>?_⟩;refine⟨by simp,rfl,fun hord2=>?_⟩;conv=>whnf
   have hJ:ER (l.getD i tz).images z w (l.getD i tz).images.length=some j:=by
    rw [<-ht];exact MH hy _ hj fun q q1 q2=>of_decide_eq_false (hord q q1 q2)
   rw [MI hJ l.length hik fun q q1 q2=>by simpa using hord2 q q1 q2];exact⟨_,ri,rfl⟩
  ·intro hno;exfalso;have:=LE hi0;exact of_decide_eq_false (hno i0 this.1) this.2
 ·intro hh;have hn:=LF (l:=l) (z:=z) (w:=w) l.length fun q hq=>by simpa using hh q hq
  conv=>whnf
  rw [hn];exact⟨_,ri,rfl⟩
def flatY:AV->Bool
 | .v _=>true
 | .top=>true
 | _=>false
def flatP:AV->Bool
 | .v _=>true
 | .ow _ _=>true
 | .sl _ 0 _=>true
 | _=>false
def flatQ:AV->Bool
 | .v _=>true
 | .ow _ _=>true
 | .ag l=>l.all flatP
 | _=>false
def flatS:List AB->Bool
 | []=>true
 | .row _ _ es::r=>es.flatten.all flatY&&flatS r
 | _::_=>false
theorem Pj {c c':Ctx}:∀ {l:List AV} {us:List Value},l.all flatY=true->RdL l c us->RdL l c' us
 | [],us,_,h=>by simpa only [RdL] using h
 | x::l,us,hf,h=>by
  rw [Bb,Ad] at hf;simp only [RdL] at h |-
  obtain⟨u,vs,rfl,h1,h2⟩:=h;refine⟨u,vs,rfl,?_,Pj hf.2 h2⟩;cases x <;> simp [flatY] at hf
  ·simp only [Rd]
  ·simpa only [Rd] using h1
theorem LA {c c':Ctx} (hr:c'.rho=c.rho) (hl:c'.len=c.len) (hd:c'.dom=c.dom) {x:AV} (hx:flatP x=true) {u:Value} (h:Rd x c u):Rd x c' u:=by
 cases x with
 | v y=>simpa only [Rd] using h
 | ow k n=>
  simp only [Rd] at h |-
  rw [hr,hl,hd];exact h
 | sl sz n get=>
  cases n with
  | zero=>
   simp only [Rd] at h |-
   obtain⟨a,k,h1,h2,h3, -⟩:=h;exact⟨a,k,h1,h2,h3, .inl trivial⟩
  | succ n=>cases hx
 | _=>simp [flatP] at hx
theorem Vf {c c':Ctx} (hr:c'.rho=c.rho) (hl:c'.len=c.len) (hd:c'.dom=c.dom) {x:AV} (hx:flatQ x=true) {u:Value} (h:Rd x c u):Rd x c' u:=by
 cases x with
 | v y=>exact LA hr hl hd rfl h
 | ow k n=>exact LA hr hl hd rfl h
 | ag l=>
  simp only [Rd] at h |-
  obtain⟨xs,rfl,hxs⟩:=h;refine⟨xs,rfl,?_⟩;simp only [flatQ] at hx;induction l generalizing xs with
  | nil=>simpa only [RdL] using hxs
  | cons y l ih=>
   rw [Bb,Ad] at hx;simp only [RdL] at hxs |-
   obtain⟨u,us,rfl,h1,h2⟩:=hxs;exact⟨u,us,rfl,LA hr hl hd hx.1 h1,ih hx.2 us h2⟩
 | _=>simp [flatQ] at hx
theorem flatS_mem:∀ {R:List AB} {y:AB},flatS R=true->y∈R->∃ t sz es,y = .row t sz es/\es.flatten.all flatY=true
 | .row t sz es::r,y,h,hy=>by
  rw [flatS,Ad] at h;rcases AT.1 hy with rfl | hy
  ·exact⟨t,sz,es,rfl,h.1⟩
  ·exact flatS_mem h.2 hy
theorem ACalls.fnO {P:Program} {q:Bool} {f:FuncId} {args:List AV} {K:AV->List AB->Prop} (h:ACalls P q f args [] K) (hK:∀ r R,K r R->∀ y∈R,∃ t sz es,y = .row t sz es):FnO P f args K:=by
 refine⟨h.go,fun c0 us hg hd hM hr=>?_⟩;let ce:Ctx:={ c0 with base:=0 };have hce:Ext c0 ce:=⟨rfl,rfl,rfl,Ag _,fun _ _ h=>⟨h,rfl⟩,Ag _,fun _ _=>Ag _,fun _ _ _=>rfl,fun _ _ _ h=>h⟩;have hHS:HS (Fl.all c0.w hg) c0.M ce []:=⟨zd _ hg,rfl,hd,fun _ _=>Iff.rfl,hM,by simp,by simp,by simp⟩;refine(h.calls (Fl.all c0.w hg) c0.M ce us hHS (RdL.ext _ hce hr)).mono ?_;rintro e w' ⟨v,c',r,H',rfl,q1,q2,q3,q4,q5, -⟩;exact⟨v,r,c',H',rfl,q2,q1,q3,q5,hK r H' q2⟩
theorem FnO.lendC {P:Program} {f:FuncId} {args args':List AV} {H:List AB} {K:AV->List AB->Prop} {q:Bool} {k:AV->List AB->Prop} (h:FnO P f args' K) (hs:sealA args H fun a _=>a=args') (hk:∀ r R,K r R->∃ R',ConvH R R'/\(flatQ r=true/\flatS R'=true)/\appK H R' 0 fun d H=>CW (r.shift d) fun r=>k r H):ACalls P q f args H k:=by
 refine⟨h.go,fun w0 M0 c us hs0 hr=>?_⟩;obtain⟨l',H',c',rfl,h2,h3,h4,h5,_⟩:=sealA_sound hs0 hr hs;have hglob:globOk c'.closed.w:=h3.glob;have hc:=h.calls c'.closed us hglob rfl h3.lt h5;have ew:c'.closed.w=c.w:=h2
 suffices hh:Calls P f us.toArray c'.closed.w fun e w'=>∃ v c1 r H1,e = .returned v/\c1.w=w'/\k r H1/\HS w0 M0 c1 H1/\Ext c c1/\Rd r c1 v/\(q=true->Old c.w w') by
  rw [ew] at hh;exact hh
 refine hc.mono ?_;rintro e w' ⟨v,r,c1,R1,rfl,q1,rfl,q21,q31, -⟩;obtain⟨R,hconv,⟨f1,f2⟩,hkk⟩:=hk r R1 q1;obtain⟨c2,ew2,q2,x2⟩:=hconv _ _ _ q21;have q3:Rd r c2 v:=Rd.ext _ x2 q31;have q4:∀ y∈R,∃ t sz es,y = .row t sz es:=fun y hy=>by
  obtain⟨t,sz,es,e, -⟩:=flatS_mem f2 hy;exact⟨t,sz,es,e⟩
 -- the same memory;what the caller holds is not read
 obtain⟨c3,e3⟩:∃ c3:Ctx,c3={ c2 with M:=fun b=>c2.M b\/c.M b }:=⟨_,rfl⟩;have hsub:∀ b,b<c.w.heap.size->c'.M b->c.M b:=fun b hb hm=>by
  by_cases hx:c.M b
  ·exact hx
  ·exact absurd hm (h4.keep b hb hx).1
 have hlow:=q2.low;have q2':HS (Fl.all c.w hs0.glob) c.M c3 R:=by
  subst e3;refine⟨⟨?_,?_,?_,?_,?_⟩,q2.base,q2.dom,fun b hb=>?_,fun b hb=>?_,fun i y hi=>?_,fun i y g hi hl ho=>?_,q2.dis⟩
  ·have:=hlow.os;rw [show (Fl.all c'.closed.w hglob).w=c.w from ew] at this;exact this
  ·have:=hlow.tape;rw [show (Fl.all c'.closed.w hglob).w=c.w from ew] at this;exact this
  ·have:=hlow.output;rw [show (Fl.all c'.closed.w hglob).w=c.w from ew] at this;exact this
  ·have:=hlow.size;rw [show (Fl.all c'.closed.w hglob).w=c.w from ew] at this;exact this
  ·intro b hb;have:=hlow.block b (by show b<c'.closed.w.heap.size;rw [ew];exact hb);rw [show (Fl.all c'.closed.w hglob).w=c.w from ew] at this;exact this
  ·have hb':b<c.w.heap.size:=hb;have:=q2.foreign b (by show b<c'.closed.w.heap.size;rw [ew];exact hb');exact⟨fun hx=>hx.elim (fun hx=>hsub b hb' (this.1 hx)) (fun hx=>hx),fun hx=> .inr hx⟩
  ·have hsz:c.w.heap.size<=c2.w.heap.size:=by
    have:=hlow.size;rw [show (Fl.all c'.closed.w hglob).w=c.w from ew] at this;exact this
   rcases hb with hb | hb
   ·exact q2.lt b hb
   ·exact As (hs0.lt b hb) hsz
  ·obtain⟨t,sz,es,rfl,hfl⟩:=flatS_mem f2 (List.mem_of_getElem? hi);obtain⟨a1,a2,a3,xs,a4,a5,a6⟩:=q2.blk i _ hi;exact⟨a1,a2,a3,xs,a4,Pj hfl a5,a6⟩
  ·have:=q2.own i y g hi hl ho;refine⟨.inl this.1,fun hx=>this.2 ?_⟩;show g<c'.closed.w.heap.size;rw [ew];exact hx
 have q3':Rd r c3 v:=Vf (by rw [e3]) (by rw [e3]) (by rw [e3]) f1 q3;have q5:c3.w=c2.w:=by rw [e3]
 obtain⟨p1,p2⟩:=hs0.beside (c':=c3) q2' q4;have h1:=B6 (appK_iff hkk);rw [Au,<-hs0.dom] at h1;exact⟨v,c.beside c3,_,_,rfl,by show c3.w=_;rw [q5,ew2],h1,p1,p2,Rd.shift r q3',fun _=>by have:=q2'.low.below.old;rw [q5,ew2] at this;exact this⟩
theorem SubL.tops:∀ (l:List AV),SubL l (List.replicate l.length .top)
 | []=>trivial
 | x::l=>⟨fun _ _ _=>by simp [Rd],SubL.tops l⟩
def FT (x:Gt) (addr stamp:Int):Option (List UInt8):=match D4 x addr with
 | some s=>if s.stamp=stamp then some s.pay else none
 | none=>none
theorem Uj {x:Gt} {addr stamp:Int} {b:List UInt8} (h:FT x addr stamp=some b):b.length<=x.bytes.length:=by
 unfold FT D4 at h;split at h
 ·rename_i s hs;split at hs
  ·obtain rfl:=Option.some.inj hs;split at h
   ·obtain rfl:=Option.some.inj h;simp [Cv];omega
   ·cases h
  ·cases hs
 ·cases h
theorem Ft (b:Bool):∀ (c:Ctx) (v:Value),Rd (.tp [.v (.slice none 0 0), .v (.bool b)]) c v->Rd (.tp [bA [], .v (.bool b)]) c v:=Ca ⟨Bl 1 _,ri,tv⟩
theorem RM (x:Gt) (addr stamp:Int) (hl:x.bytes.length<=100000):Fn Tryz.prog 238 [.ag (DY x),iv addr,iv stamp] fun r=>r = .tp [bA ((FT x addr stamp).getD []), .v (.bool (FT x addr stamp).isSome)]:=by
 have ho:=KJ x.bytes hl;by_cases h0:x.err=0;rotate_left 1
 ·have e:FT x addr stamp=none:=by
   unfold FT D4;rw [if_neg (fun h=>h0 h.1)]
  rw [e];refine zT Tryz.func238 rfl ?_;conv=>whnf
  rw [show (x.err != 0)=true from bne_iff_ne.2 h0];exact⟨_,Ft false,rfl⟩
 by_cases h1:DM x.bytes=0;rotate_left 1
 ·have e:FT x addr stamp=none:=by
   unfold FT D4;rw [if_neg (fun h=>h1 h.2.1)]
  rw [e];rw [if_neg h1] at ho;refine zT Tryz.func238 rfl ?_;conv=>whnf
  rw [show (x.err != 0)=false from bne_eq_false_iff_eq.2 h0];conv=>whnf
  refine z_ ho ?_;conv=>whnf
  rw [show (DM x.bytes != 0)=true from bne_iff_ne.2 h1];exact⟨_,Ft false,rfl⟩
 rw [if_pos h1,h1] at ho;by_cases h2:BZ x.bytes=addr;rotate_left 1
 ·have e:FT x addr stamp=none:=by
   unfold FT D4;rw [if_neg (fun h=>h2 h.2.2)]
  rw [e];refine zT Tryz.func238 rfl ?_;conv=>whnf
  rw [show (x.err != 0)=false from bne_eq_false_iff_eq.2 h0];conv=>whnf
  refine z_ ho ?_;conv=>whnf
  rw [show ((⟨BZ x.bytes,Cp x.bytes,Cv x.bytes⟩:Sec).addr != addr)=true from bne_iff_ne.2 h2];exact⟨_,Ft false,rfl⟩
 have es:D4 x addr=some ⟨BZ x.bytes,Cp x.bytes,Cv x.bytes⟩:=by unfold D4;rw [if_pos ⟨h0,h1,h2⟩]
 by_cases h3:Cp x.bytes=stamp
 ·have e:FT x addr stamp=some (Cv x.bytes):=by unfold FT;rw [es];simp only;rw [if_pos h3]
  rw [e];refine zT Tryz.func238 rfl ?_;conv=>whnf
  rw [show (x.err != 0)=false from bne_eq_false_iff_eq.2 h0];conv=>whnf
  refine z_ ho ?_;conv=>whnf
  rw [show ((⟨BZ x.bytes,Cp x.bytes,Cv x.bytes⟩:Sec).addr != addr)=false from bne_eq_false_iff_eq.2 h2];conv=>whnf
  rw [show ((⟨BZ x.bytes,Cp x.bytes,Cv x.bytes⟩:Sec).stamp != stamp)=false from bne_eq_false_iff_eq.2 h3];exact⟨_,ri,rfl⟩
 ·have e:FT x addr stamp=none:=by unfold FT;rw [es];simp only;rw [if_neg h3]
  rw [e];refine zT Tryz.func238 rfl ?_;conv=>whnf
  rw [show (x.err != 0)=false from bne_eq_false_iff_eq.2 h0];conv=>whnf
  refine z_ ho ?_;conv=>whnf
  rw [show ((⟨BZ x.bytes,Cp x.bytes,Cv x.bytes⟩:Sec).addr != addr)=false from bne_eq_false_iff_eq.2 h2];conv=>whnf
  rw [show ((⟨BZ x.bytes,Cp x.bytes,Cv x.bytes⟩:Sec).stamp != stamp)=true from bne_iff_ne.2 h3];exact⟨_,Ft false,rfl⟩
theorem QR (x:Gt) (addr:Int) (e:Ent):DD x addr e=match FT x addr e.stamp with
  | some b=>if b.length=8/\((DC b:Nat):Int)=e.sum then some b else none
  | none=>none:=by
 unfold DD FT;cases D4 x addr with
 | none=>rfl
 | some s=>
  simp only;by_cases h:s.stamp=e.stamp
  ·rw [if_pos h];simp only;by_cases h2:s.pay.length=8/\((DC s.pay:Nat):Int)=e.sum
   ·rw [if_pos h2,if_pos ⟨h,h2⟩]
   ·rw [if_neg h2,if_neg (fun q=>h2 q.2)]
  ·rw [if_neg h,if_neg (fun q=>h q.1)]
theorem ML (x:Gt) (addr:Int) (e:Ent) (hl:x.bytes.length<=100000):Fn Tryz.prog 166 [.ag (DY x),iv addr, .ag (Dm e)] fun r=>r = .tp [bA ((DD x addr e).getD []), .v (.bool (DD x addr e).isSome)]:=by
 have hp:=RM x addr e.stamp hl;rw [QR];cases hq:FT x addr e.stamp with
 | none=>
  rw [hq] at hp;refine zT Tryz.func166 rfl ?_;conv=>whnf
  refine z_ hp ?_;conv=>whnf
  apply zW (0) tys_ok mixed (.o [0,1,2,3,4,5,6,7,8,10,11,9,12,13] .fin) (by kernel_rfl);conv=>whnf
  (skip)
  exact⟨_,Ft false,rfl⟩
 | some b=>
  rw [hq] at hp;replace hp:Fn Tryz.prog 238 [.ag (DY x),iv addr,iv e.stamp] fun r=>r = .tp [bA b, .v (.bool true)]:=hp
  have hs:=IF b;simp only;by_cases h8:b.length=8;rotate_left 1
  ·rw [if_neg (fun h=>h8 h.1)];refine zT Tryz.func166 rfl ?_;conv=>whnf
   refine z_ hp ?_;conv=>whnf
   apply zW (0) tys_ok mixed (.o [0,1,2,3,4,5,6,7,8,10,11,9,12,13] .fin) (by kernel_rfl);conv=>whnf
   (rw [show ((b.length:Int) != 8)=true from bne_iff_ne.2 (by omega)])
   conv=>whnf
   all_goals
    exact⟨_,Ft false,rfl⟩
  by_cases hE:((DC b:Nat):Int)=e.sum
  ·rw [if_pos ⟨h8,hE⟩];refine zT Tryz.func166 rfl ?_;conv=>whnf
   refine z_ hp ?_;conv=>whnf
   apply zW (0) tys_ok mixed (.o [0,1,2,3,4,5,6,7,8,10,11,9,12,13] .fin) (by kernel_rfl);conv=>whnf
   (rw [show ((b.length:Int) != 8)=false from bne_eq_false_iff_eq.2 (by omega)];(conv=>whnf);refine z_ hs ?_)
   conv=>whnf
   all_goals
    rw [show (((DC b:Nat):Int) != e.sum)=false from bne_eq_false_iff_eq.2 hE];exact⟨_,ri,rfl⟩
  ·rw [if_neg (fun h=>hE h.2)];refine zT Tryz.func166 rfl ?_;conv=>whnf
   refine z_ hp ?_;conv=>whnf
   apply zW (0) tys_ok mixed (.o [0,1,2,3,4,5,6,7,8,10,11,9,12,13] .fin) (by kernel_rfl);conv=>whnf
   (rw [show ((b.length:Int) != 8)=false from bne_eq_false_iff_eq.2 (by omega)];(conv=>whnf);refine z_ hs ?_)
   conv=>whnf
   all_goals
    rw [show (((DC b:Nat):Int) != e.sum)=true from bne_iff_ne.2 hE];exact⟨_,Ft false,rfl⟩
theorem KG (g:Geo) (x:Gt) (addr root:Int):Ct g x addr root=match FT x addr root with
  | some b=>CR g b
  | none=>none:=by
 unfold Ct FT;cases D4 x addr with
 | none=>rfl
 | some s=>
  simp only;by_cases h:s.stamp=root
  ·rw [if_pos h,if_pos h]
  ·rw [if_neg h,if_neg h]
theorem PY {g:Geo} {b:List UInt8} (hg:Bm g=true):(D3 g b=0↔(CR g b).isSome=true):=by
 unfold D3;rw [hg,if_neg (by decide)];split <;> simp_all
theorem MJ (g:Geo) (x:Gt) (addr root:Int) (hg:Bm g=true) (hl:x.bytes.length<=100000):Fn Tryz.prog 163 [.ag (Bi g), .ag (DY x),iv addr,iv root] fun r=>r = .tp [.ag [BX ((Ct g x addr root).getD [])], .v (.bool (Ct g x addr root).isSome)]:=by
 have hp:=RM x addr root hl;have hG:Fn Tryz.prog 118 [.ag (Bi g)] fun r=>r = .v (Em (Bm g)):=Cr g.z g.d g.sp g.sl g.an
 rw [hg] at hG;rw [KG];cases hq:FT x addr root with
 | none=>
  rw [hq] at hp;refine zT Tryz.func163 rfl ?_;conv=>whnf
  refine z_ hp ?_;exact⟨_,Ca (m:= [.ag [BX []], .v (.bool false)]) ⟨B7 ⟨Bl 3 _,tv⟩,ri,tv⟩,rfl⟩
 | some b=>
  rw [hq] at hp;replace hp:Fn Tryz.prog 238 [.ag (DY x),iv addr,iv root] fun r=>r = .tp [bA b, .v (.bool true)]:=hp
  have hbl:=Uj hq;have hr:=ID g b (by omega);rw [hg,if_pos rfl] at hr;have hz:=PY (b:=b) hg;simp only;refine zT Tryz.func163 rfl ?_;conv=>whnf
  refine z_ hp ?_;conv=>whnf
  refine z_ hG ?_;conv=>whnf
  refine z_ hr ?_;conv=>whnf
  cases hR:CR g b with
  | none=>
   rw [hR] at hz;rw [show (D3 g b == 0)=false from beq_eq_false_iff_ne.2 fun e=>by have:=hz.1 e;cases this];exact⟨_,ri,rfl⟩
  | some t=>
   rw [hR] at hz;rw [show (D3 g b == 0)=true from beq_iff_eq.2 (hz.2 rfl)];exact⟨_,ri,rfl⟩
theorem Mx (l:List Tx) (z w:Int) (hl:l.length<=1000000) (hi:∀ t∈l,t.images.length<=1000000/\∀ x∈t.images,x.bytes.length<=1000000000):Fn Tryz.prog 90 [DW l,iv z,iv w] fun r=>r=(match CD l z w with | some p=> .tp [bA p.1.bytes,iv p.2, .v (.bool true)] | none=> .tp [bA [],iv 0, .v (.bool false)]):=by
 have hf:=KZ l z w hl (fun t ht=>(hi t ht).1);have e:CD l z w=_:=Jd l z w l.length;rw [e];cases hA:FE l z w l.length with
 | none=>
  rw [hA] at hf;refine zT Tryz.func90 rfl ?_;conv=>whnf
  refine z_ hf ?_;exact⟨_,Ca (m:= [bA [],iv 0, .v (.bool false)]) ⟨Bl 1 _,ri,ri,tv⟩,rfl⟩
 | some p=>
  obtain⟨k,i⟩:=p;rw [hA] at hf;obtain⟨hk,hi2⟩:=Ho hA;simp only at hk hi2;have hm:=hi _ (AC (d:=tz) hk);have hc:=BP ((l.getD k tz).images.getD i iz).bytes (hm.2 _ (AC hi2));replace hf:Fn Tryz.prog 164 [DW l,iv z,iv w] fun r=>r = .tp [iv (k:Nat),iv (i:Nat), .v (.bool true)]:=hf
  have ixA:(0:Int)<=(k:Nat)/\((k:Nat):Int)<(l.length:Nat):=by omega
  have ixB:(0:Int)<=(i:Nat)/\((i:Nat):Int)<((l.getD k tz).images.length:Nat):=⟨Int.natCast_nonneg _,Int.ofNat_lt.2 hi2⟩;refine zT Tryz.func90 rfl ?_;conv=>whnf
  refine z_ hf ?_;conv=>whnf
  apply zJ tys_ok mixed (.o [0,1,2,3,4,5,6,7,8,10,11,12,13,14,9,15,16,17] .fin) [6,7,8,22,23,24,25,26,27,28,29,30,31,32,33,34,35,36] (by kernel_rfl)
  ·conv=>whnf
   try (refine Ah (by first | omega | exact ixA | exact ixB | (simp;done)) ?_;conv=>whnf)
   try (refine Ah (by first | omega | exact ixA | exact ixB | (simp;done)) ?_;conv=>whnf)
   try (refine Ah (by first | omega | exact ixA | exact ixB | (simp;done)) ?_;conv=>whnf)
   refine z_ hc ?_;exact tA
  exact⟨_,ri,rfl⟩
theorem OG (a:An) (l:List Tx) (z:Int) (hz:0<=z/\z<a.homes.length) (hl:l.length<=1000000) (hi:∀ t∈l,t.images.length<=1000000):Fn Tryz.prog 161 [.ag (EN a),DW l,iv z] fun r=>r = .tp [iv (Du a l z),iv 0]:=by
 have hf:=KZ l z 255 hl hi;have e:CD l z 255=_:=Jd l z 255 l.length;unfold Du;rw [e];cases hA:FE l z 255 l.length with
 | none=>
  rw [hA] at hf;refine zT Tryz.func161 rfl ?_;conv=>whnf
  rw [show decide (z<0)=false from decide_eq_false (by omega)];conv=>whnf
  rw [show decide (z>=(a.homes.length:Nat))=false from decide_eq_false (by omega)];conv=>whnf
  refine z_ hf ?_;refine⟨⟨by omega,by omega⟩,?_⟩;exact⟨_,ri,rfl⟩
 | some p=>
  obtain⟨k,i⟩:=p;rw [hA] at hf;obtain⟨hk,hi2⟩:=Ho hA;simp only at hk hi2;replace hf:Fn Tryz.prog 164 [DW l,iv z,iv 255] fun r=>r = .tp [iv (k:Nat),iv (i:Nat), .v (.bool true)]:=hf
  have ixA:(0:Int)<=(k:Nat)/\((k:Nat):Int)<(l.length:Nat):=by omega
  refine zT Tryz.func161 rfl ?_;conv=>whnf
  rw [show decide (z<0)=false from decide_eq_false (by omega)];conv=>whnf
  rw [show decide (z>=(a.homes.length:Nat))=false from decide_eq_false (by omega)];conv=>whnf
  refine z_ hf ?_;refine⟨ixA,?_⟩;exact⟨_,ri,rfl⟩
theorem ACalls.lendBox2 {P:Program} {q:Bool} {f:FuncId} {x:AV} {H:List AB} {K:AV->List AB->Prop} (j k:Nat) {t t':TypeId} {sz':Nat} {ar ar2 cs cs2:List AV} {es':List (List AV)} (hj:H[j]? = some (.box t cs)) (hk:H[k]? = some (.row t' sz' es'))
  (he:cs.map (AV.slIn k es'.length (.sl sz' es'.length fun i=>es'.getD i []))=cs2) (ha:ar.map (AV.slIn k es'.length (.sl sz' es'.length fun i=>es'.getD i []))=ar2) (hc:ACalls P q f [x, .ag ar2] ((H.set k .dead).set j (.box t cs2)) K):ACalls P q f [x, .ag ar] H K:=by
 refine⟨hc.go,fun w0 M0 c us hs hr=>?_⟩;subst he;subst ha;have hjk:j≠k:=by rintro rfl;rw [hj] at hk;cases hk
 obtain⟨c1,e1,s1,x1,r1⟩:=hs.freeze hk;have hj1:(H.set k .dead)[j]? = some (.box t cs):=by rw [A4 (Ne.symm hjk)];exact hj
 have h8:∀ (l:List AV) (us:List Value),RdL l c us->RdL (l.map (AV.slIn k es'.length (.sl sz' es'.length fun i=>es'.getD i []))) c1 us:=by
  intro l;induction l with
  | nil=>intro us h;simp only [RdL] at h;subst h;simp [RdL]
  | cons x l ih=>
   intro us h;simp only [RdL] at h;obtain⟨u,vs,rfl,a1,a2⟩:=h;simp only [A6,RdL];refine⟨u,vs,rfl,?_,ih vs a2⟩;unfold AV.slIn;split
   ·rename_i i n;split
    ·rename_i hik;subst hik;split
     ·grind
     ·simp [Rd]
    ·exact Rd.ext _ x1 a1
   ·exact Rd.ext _ x1 a1
 have s2:HS w0 M0 c1 ((H.set k .dead).set j (.box t (cs.map (AV.slIn k es'.length (.sl sz' es'.length fun i=>es'.getD i []))))):=by
  refine s1.recell hj1 rfl ?_;rintro⟨g,xs,h1,h2,_,h4⟩;obtain⟨g0,ys,q1,q2,q3,_⟩:=hs.blk j _ hj;have hg:=x1.box j _ (hs.klt hj) q1;rw [h1] at hg;injection hg with hg
  injection hg with hg
  injection hg with hg
  subst hg;rw [e1,q2] at h2;injection h2 with h2
  have hxy:ys.toArray=xs.toArray:=by injection h2
  have hxy:ys=xs:=by simpa using hxy
  subst hxy;exact⟨g,ys,h1,by rw [e1];exact q2,h8 _ _ q3,h4⟩
 have hr2:RdL [x, .ag (ar.map (AV.slIn k es'.length (.sl sz' es'.length fun i=>es'.getD i [])))] c1 us:=by
  simp only [RdL] at hr;obtain⟨u1,_,rfl,p1,u2,_,rfl,p2,rfl⟩:=hr;simp only [Rd] at p2;obtain⟨zs,rfl,p3⟩:=p2;simp only [RdL];exact⟨u1,_,rfl,Rd.ext _ x1 p1,_,_,rfl,by simp only [Rd];exact⟨zs,rfl,h8 _ _ p3⟩,rfl⟩
 have:=hc.calls w0 M0 c1 us s2 hr2;rw [e1] at this;refine this.mono ?_;rintro e w' ⟨v,c',r,H2,rfl,rfl,q1,q2,q3,q4,q5⟩;exact⟨v,c',r,H2,rfl,rfl,q1,q2,x1.trans q3,q4,q5⟩
theorem JW {a s:Int} {p:List UInt8} (h:p.length<=96):(CC a s p).length<=200:=by rw [E9];omega
theorem Gw.puts {n:Int} {d:Dk} {F:Int->List UInt8} {W l:List Wr} (h:Gw n d F W) (hl:∀ w∈l,(0<=w.addr/\w.addr<n)/\w.bytes.length<=200) (hn:W.length+l.length<=2000):∀ k:Nat,k<=l.length->(d.writes (l.take k)).2.1=k/\(d.writes (l.take k)).2.2=false/\Gw n (d.writes (l.take k)).1 F (W ++ l.take k)
 | 0,_=>⟨rfl,rfl,by rw [List.take_zero,AG];exact h⟩
 | k+1,hk=>by
  obtain⟨q1,q2,q3⟩:=Gw.puts h hl hn k (by omega);have hx:=Kv (d:=d) (l:=l) (k:=k) (by omega) q2;have hm:=hl _ (AC (d:=(⟨0, []⟩:Wr)) (show k<l.length by omega));obtain⟨e0,hw⟩:=q3.write (by rw [Ai,Ar];omega) hm.1.1 hm.1.2 hm.2;rw [hx,e0];refine⟨by simp only [q1];rfl,rfl,?_⟩;have e:l.take (k+1)=l.take k ++ [l.getD k ⟨0, []⟩]:=by
   rw [Bc,Ae (by omega),Ab,Ae (by omega)];try rfl
  rw [e,<-AA];exact hw
theorem Gd.putAll {n:Int} {d:Dk} {F:Int->List UInt8} {l:List Wr} (h:Gd n d F) (hl:∀ w∈l,(0<=w.addr/\w.addr<n)/\w.bytes.length<=200) (hn:l.length<=2000):(d.writes l).2.1=l.length/\(d.putAll l).2.1=l.length/\(d.putAll l).2.2=false/\Gd n (d.putAll l).1 (Mj F l):=by
 obtain⟨q1,q2,q3⟩:=Gw.puts h hl (by simpa using hn) l.length (Ag _);rw [A3] at q1 q2 q3;have e:=F9 q2;rw [if_neg (by rw [q3.left];decide)] at e;rw [e];exact⟨q1,q1,rfl,by simpa using q3.flush⟩
theorem P9 {g:Geo} {a:An} (hg:Bm g=true) (ha:Bz g a=true):∀ w∈AR g a,(0<=w.addr/\w.addr<A7 g)/\w.bytes.length<=200:=fun w hw=>by
 obtain⟨g1,g2,g3,g4,g5⟩:=Az.1 hg;have hcb:=Ef hg;obtain⟨i,hi,rfl⟩:=NR hw;exact⟨⟨by show 0<=((i:Nat):Int);omega,by show ((i:Nat):Int)<A7 g;omega⟩,Jj hg ha _⟩
@[reducible] def rwZ (g:Geo) (s:Stt) (d:Dk):List AB:= [.box 132 (Zr g (.bp 1 0) s 0), .box 133 (K7 (.ow 2 d.cells.length) (.ow 6 d.cache.length) d.reqs d.left), .row 68 3 (d.cells.map Cg), .dead, .dead, .dead, .row 152 2 (d.cache.map GI)]
theorem Ni {k:Nat} {m:Nat} {x:AV} {n:Nat} (h:n=m):AV.slIn k m x (.ow k n)=x:=by
 subst h;simp [AV.slIn]

def Jh (d:Dk) (a:Int) (c:Cel):Dk:={ d with cells:=d.cells.set a.toNat c }
def Dk.fault (d:Dk) (kind a frm bit bits:Int):Dk × Int:=
 if Dq a 0 ((d.cells.length:Int) - 1)=false then (d,1) else if 0<d.cache.length then (d,9) else
 let c:=d.cells.getD a.toNat cz
 if kind=11 then (Jh d a { c with state:=if c.state=0 then 1 else c.state },0)
 else if kind=12 then (Jh d a { c with state:=2 },0)
 else if kind=13 then (if bit<0\/bits<0 then (d,1) else (Jh d a { c with bytes:=X6 c.bytes bit bits },0))
 else if kind=14 then (Jh d a { c with bytes:=c.old },0)
 else if kind=15 then (if Dq frm 0 ((d.cells.length:Int) - 1)=false then (d,1) else (Jh d a { c with bytes:=(d.cells.getD frm.toNat cz).bytes },0))
 else (d,1)
structure Q4 where
 a:Int
 b:Int
 c:Int
 d:Int
theorem Xf {d:Dk} {a:Int} {c:Cel} (h:DkOk d) (hc:(0<=c.state/\c.state<=2)/\c.bytes.length<=200/\c.old.length<=200):DkOk (Jh d a c):=by
 refine⟨by simpa [Jh] using h.n,h.m,h.r,h.l,fun x hx=>?_,fun w hw=>by simpa [Jh] using h.w w hw⟩;rcases Cc hx with hx | rfl
 ·exact h.c x hx
 ·exact hc
theorem RF {d:Dk} (h:DkOk d) (i:Nat):(0<=(d.cells.getD i cz).state/\(d.cells.getD i cz).state<=2)/\(d.cells.getD i cz).bytes.length<=200/\(d.cells.getD i cz).old.length<=200:=by
 by_cases hi:i<d.cells.length
 ·exact h.c _ (AC (d:=cz) hi)
 ·rw [Ab,AE (by omega)];exact⟨⟨C8 _,show (0:Int)<=2 by decide⟩,by simp [cz],by simp [cz]⟩
theorem DkOk.fault {d:Dk} (h:DkOk d) (kind a frm bit bits:Int):DkOk (d.fault kind a frm bit bits).1/\(d.fault kind a frm bit bits).1.cells.length=d.cells.length/\(d.fault kind a frm bit bits).1.cache=d.cache/\(d.fault kind a frm bit bits).1.left=d.left/\(d.fault kind a frm bit bits).1.reqs=d.reqs:=by
 have hc:=RF h a.toNat;have hf:=RF h frm.toNat;have go:∀ c:Cel,((0<=c.state/\c.state<=2)/\c.bytes.length<=200/\c.old.length<=200)->DkOk (Jh d a c)/\(Jh d a c).cells.length=d.cells.length/\(Jh d a c).cache=d.cache/\(Jh d a c).left=d.left/\(Jh d a c).reqs=d.reqs:=fun c h1=>⟨Xf h h1,by simp [Jh],rfl,rfl,rfl⟩
 have st:DkOk d/\d.cells.length=d.cells.length/\d.cache=d.cache/\d.left=d.left/\d.reqs=d.reqs:=⟨h,rfl,rfl,rfl,rfl⟩;unfold Dk.fault;split
 ·exact st
 ·split
  ·exact st
  ·simp only;split
   ·refine go _ ⟨?_,hc.2⟩;simp only;split
    ·exact⟨by decide,by decide⟩
    ·exact hc.1
   ·split
    ·exact go _ ⟨⟨show (0:Int)<=2 by decide,C8 2⟩,hc.2⟩
    ·split
     ·split
      ·exact st
      ·exact go _ ⟨hc.1,by simp only [NI];exact hc.2.1,hc.2.2⟩
     ·split
      ·exact go _ ⟨hc.1,hc.2.2,hc.2.2⟩
      ·split
       ·split
        ·exact st
        ·exact go _ ⟨hc.1,hf.2.1,hc.2.2⟩
       ·exact st
end
section
open Go.RowKit Go.ChangeShapes Go.WideShapes Go.ChangeAt Go.Deep
section
variable {H:Type} {enc:TypeId × Value->H} {w:World}
end
end
section
open Go.RowKit
structure Q2 where
 a:Int
 b:Int
section
open Go.ChangeShapes Go.WideShapes Go.ChangeAt Go.Deep
variable {H:Type} {enc:TypeId × Value->H} {w:World}
end
structure Md where
 a:An
 l:List Tx
 F:Int->List UInt8
 m:List (List UInt8)
def ZZ (g:Geo) (M:Md) (lba:Int) (b:List UInt8) (M':Md):Prop:=
 (D_ M.l+4<=g.sl/\(Fe g (Bf M.a M.l) M.F (lba.tdiv g.d)).isSome=true/\∃ W:List Wr,(∀ w∈W,(g.an<=w.addr/\w.addr<g.an+2*g.sl/\BZ w.bytes=w.addr)/\w.bytes.length<=200)/\M'=⟨M.a,M.l ++ [FK g M.a M.l M.F lba b],Mj M.F W,M.m.set lba.toNat b⟩)
 \/((g.sl<D_ M.l+4\/Fe g (Bf M.a M.l) M.F (lba.tdiv g.d)=none)/\M'=M)
def ZO (g:Geo) (M:Md):Md:=match M.l with
 | []=>M
 | x::r=>⟨Ok g M.a x,r,TQ g M.a x M.F,M.m⟩
def Kl (n:Int) (F:Int->List UInt8) (q:Int):List UInt8:=if -n<=q/\q<n then F q else []
structure Vo (g:Geo) (K:Int) (M:Md):Prop where
 an:Bz g M.a=true
 ring:CJ g M.l M.a.seq M.a.pos g.sl=true
 gen:M.a.gen<=K
 seq:M.a.seq+M.l.length<=K
 one:∀ t∈M.l,OneTab t.images
 fb:∀ q,(M.F q).length<=200
 m:(M.m.length:Int)=g.z*g.d
theorem Vo.vol {g:Geo} {K:Int} {M:Md} (h:Vo g K M) {d:Dk} (hd:Gd (A7 g) d M.F):Vol g K d (Bf M.a M.l):=⟨⟨_,hd⟩,h.an,h.ring,tA,h.gen,h.seq,h.one⟩
theorem Vo.of {g:Geo} {K:Int} {M:Md} {d:Dk} (h:Vol g K d (Bf M.a M.l)) (hf:∀ q,(M.F q).length<=200) (hm:(M.m.length:Int)=g.z*g.d):Vo g K M:=⟨h.an,h.ring,h.gen,h.seq,h.one,hf,hm⟩
theorem PU {F:Int->List UInt8} {n:Nat} (hF:∀ q,(F q).length<=n) {W:List Wr} (hW:∀ w∈W,w.bytes.length<=n) (q:Int):(Mj F W q).length<=n:=by
 induction W generalizing F with
 | nil=>exact hF q
 | cons w W ih=>
  refine ih (F:=XL F w) (fun q=>?_) fun x hx=>hW x (A_ _ hx)
  unfold XL;split
  ·split
   ·exact hW w List.mem_cons_self
   ·exact hF q
  ·split
   ·exact hF _
   ·exact hF q
theorem TP {g:Geo} (hg:Bm g=true) {a:An} {x:Tx} (ha:Bz g (Ok g a x)=true) {F:Int->List UInt8} (hF:∀ q,(F q).length<=200) (hx:∀ y∈x.images,BV g y=true) (q:Int):(TQ g a x F q).length<=200:=by
 unfold TQ;refine PU (PU hF fun w hw=>?_) (fun w hw=>(P9 hg ha w hw).2) q;obtain⟨y,hy,hw⟩:=Lo.1 hw;have:=JA hg (hx y hy);unfold UL at hw;split at hw
 ·simp only [AT,Dy,or_false] at hw;rcases hw with rfl | rfl <;> exact JW (by omega)
 ·rw [A9] at hw;rw [hw];exact JW (by omega)
theorem Vo.ck {g:Geo} (hg:Bm g=true) {K:Int} {M:Md} (h:Vo g K M) (hK:K<=4294967294) {d d':Dk} (hd:Gd (A7 g) d M.F) (hd':Gd (A7 g) d' (ZO g M).F):Vo g (K+1) (ZO g M):=by
 obtain⟨a,l,F,m⟩:=M;cases l with
 | nil=>exact⟨h.an,h.ring,by have q:a.gen<=K:=h.gen;show a.gen<=K+1;omega,by have q:a.seq+(([]:List Tx).length:Int)<=K:=h.seq;show a.seq+(([]:List Tx).length:Int)<=K+1;omega,h.one,h.fb,h.m⟩
 | cons x r=>
  have hv:=h.vol hd;have h2:=hv.home hg (x:=x) (r:=r) rfl hK (d':=d') ⟨_,hd'⟩;have hi:=(Fo h.ring x (List.mem_cons_self)).1;exact Vo.of (d:=d') h2 (TP hg h2.an h.fb (Av.1 hi)) h.m
theorem Gd.clip {n:Int} {d:Dk} {F:Int->List UInt8} (h:Gd n d F):Gd n d (Kl n F)/\∀ q,(Kl n F q).length<=200:=by
 have hl:=h.len;refine⟨⟨h.ok,h.left,h.len,h.cache,fun q h0 h1=>?_,fun q h0 h1=>?_⟩,fun q=>?_⟩
 ·have:=h.cell q h0 h1;unfold Kl;rw [if_pos ⟨by omega,h1⟩];exact this
 ·have:=h.old q h0 h1;unfold Kl;rw [if_pos ⟨by omega,by omega⟩];exact this
 ·unfold Kl;split
  ·rename_i hq;by_cases h0:0<=q
   ·have hc:=(h.cell q h0 hq.2).2;rw [<-hc];exact(h.ok.c _ (AC (by omega))).2.1
   ·have hc:=h.old (-1 - q) (by omega) (by omega);rw [show -1 - (-1 - q)=q by omega] at hc;rw [<-hc];exact(h.ok.c _ (AC (by omega))).2.2
  ·simp
structure Gc (n:Int) (d:Dk) (F:Int->List UInt8) (l:List Wr):Prop where
 ok:DkOk d
 len:(d.cells.length:Int)=n
 cache:d.cache=l
 cell:∀ a:Int,0<=a->a<n->(d.cells.getD a.toNat cz).state=0/\(d.cells.getD a.toNat cz).bytes=F a
theorem Gw.gc {n:Int} {d:Dk} {F:Int->List UInt8} {l:List Wr} (h:Gw n d F l):Gc n d F l:=⟨h.ok,h.len,h.cache,h.cell⟩
theorem Gc.write {n:Int} {d:Dk} {F:Int->List UInt8} {l:List Wr} (h:Gc n d F l) (hl:l.length<2000) {a:Int} (h0:0<=a) (h1:a<n) {b:List UInt8} (hb:b.length<=200):(d.left=0/\d.write a b=(d,8))\/(d.left≠0/\(d.write a b).2=0/\Gc n (d.write a b).1 F (l ++ [⟨a,b⟩])):=by
 by_cases hz:d.left=0
 ·exact .inl ⟨hz,by unfold Dk.write;rw [if_pos hz]⟩
 ·have hw:=h.ok.write (a:=a) (b:=b) (by rw [<-h.len] at h1;omega) hb;have e:d.write a b=({ d.req with cache:=d.cache ++ [⟨a,b⟩] },0):=by
   unfold Dk.write;rw [if_neg hz,if_neg];rintro(h2 | h2)
   ·have:=(h.cell a h0 h1).1;unfold cz at this;omega
   ·rw [h.cache] at h2;omega
  rw [e] at hw |-
  exact .inr ⟨hz,rfl,hw,h.len,by rw [h.cache],h.cell⟩
theorem Gc.puts {n:Int} {d:Dk} {F:Int->List UInt8} {W l:List Wr} (h:Gc n d F W) (hl:∀ w∈l,(0<=w.addr/\w.addr<n)/\w.bytes.length<=200) (hn:W.length+l.length<=2000):∀ k:Nat,k<=l.length->(d.writes (l.take k)).2.2=false->(d.writes (l.take k)).2.1=k/\Gc n (d.writes (l.take k)).1 F (W ++ l.take k)
 | 0,_,_=>⟨rfl,by rw [List.take_zero,AG];exact h⟩
 | k+1,hk,hv=>by
  have hx0:=F5 d (l:=l) (k:=k) (by omega);have hv0:(d.writes (l.take k)).2.2=false:=by
   cases hc:(d.writes (l.take k)).2.2 with
   | false=>rfl
   | true=>
    rw [hx0] at hv;unfold EY at hv;rw [hc] at hv;simp only [if_true] at hv;rw [hc] at hv;cases hv
  obtain⟨q1,q3⟩:=Gc.puts h hl hn k (by omega) hv0;have hx:=Kv (d:=d) (l:=l) (k:=k) (by omega) hv0;have hm:=hl _ (AC (d:=(⟨0, []⟩:Wr)) (show k<l.length by omega));rcases q3.write (by rw [Ai,Ar];omega) hm.1.1 hm.1.2 hm.2 with ⟨-,e8⟩ | ⟨-,e0,hw⟩
  ·rw [hx,e8] at hv;cases hv
  ·rw [hx,e0];have e:l.take (k+1)=l.take k ++ [l.getD k ⟨0, []⟩]:=by
    rw [Bc,Ae (by omega),Ab,Ae (by omega)];try rfl
   refine⟨by simp only [q1];rfl,?_⟩;rw [e,<-AA];exact hw
theorem Gc.flush {n:Int} {d:Dk} {F:Int->List UInt8} {l:List Wr} (h:Gc n d F l):Gc n d.flush (Mj F l) []:=by
 have e:d.flush=⟨CB d.cells l, [],d.req.reqs,d.req.left⟩:=by
  unfold Dk.flush;rw [allFin_cells,h.cache];try rfl
 have ho:=h.ok.flush;rw [e] at ho |-
 refine⟨ho,by show ((CB d.cells l).length:Int)=n;rw [finL_len];exact h.len,rfl,fun a h0 h1=>?_⟩;have hl:=h.len;refine NM h0 (by omega) (h.cell a h0 h1) _ l rfl fun w hw=>?_
 rw [<-h.cache] at hw;exact(h.ok.w w hw).1.1
theorem Gc.putAll {n:Int} {d:Dk} {F:Int->List UInt8} {l:List Wr} (h:Gc n d F []) (hl:∀ w∈l,(0<=w.addr/\w.addr<n)/\w.bytes.length<=200) (hn:l.length<=2000) (hv:(d.putAll l).2.2=false):(d.putAll l).2.1=l.length/\Gc n (d.putAll l).1 (Mj F l) []:=by
 cases hw:(d.writes l).2.2 with
 | true=>rw [Ha hw] at hv;cases hv
 | false=>
  have hp:=Gc.puts h hl (by simpa using hn) l.length (Ag _);rw [A3] at hp;obtain⟨q1,q2⟩:=hp hw;have e:=F9 hw;by_cases h0:(d.writes l).1.left=0
  ·rw [if_pos h0] at e;rw [e] at hv;cases hv
  ·rw [if_neg h0] at e;rw [e];exact⟨q1,by simpa using q2.flush⟩

theorem Mr (g:Geo) (w:Int) (hw : -1<=w/\w<g.d):Fn Tryz.prog 242 [.ag (Bi g),iv w] fun r=>r = .tp [iv (Eu g w), .v (.bool true)]:=by
 unfold Eu;by_cases h:w = -1
 ·rw [if_pos h];refine zT Tryz.func242 rfl ?_;conv=>whnf
  rw [show (w == -1)=true by simpa using h];exact⟨_,ri,rfl⟩
 ·rw [if_neg h];refine zT Tryz.func242 rfl ?_;conv=>whnf
  rw [show (w == -1)=false by simpa using h];refine zx tys_ok mixed [0,1,2,3,4,5,6,7,8,9,10] (by kernel_rfl) ?_;conv=>whnf
  rw [show decide (w>=0)=true from decide_eq_true (by omega)];conv=>whnf
  rw [show decide (w<g.d)=true from decide_eq_true (by omega)];exact⟨_,ri,rfl⟩
theorem LP {g:Geo} {a:An} (hg:Bm g=true) (ha:Bz g a=true):a.label.size<=1000000/\a.homes.length<=1000/\∀ h∈a.homes,h.places.length<=1000000:=by
 have:=DA hg ha 0 (Ak _);exact⟨by have:=this.2.2.2.1;omega,by have:=this.2.1;omega,fun h hh=>Kn hg ha h hh⟩
theorem SA (g:Geo) (a:An) (z w:Int) (hg:Bm g=true) (ha:Bz g a=true) (hz:0<=z/\z<g.z) (hw : -1<=w/\w<g.d):Fn Tryz.prog 241 [.ag (Bi g), .ag (EN a),iv z,iv w] fun r=>r = iv 0:=by
 obtain⟨s1,s2, -⟩:=LP hg ha;have c1:=Gf g a s1 (by omega);rw [hg,ha] at c1;have c2:=Mr g w hw;refine zT Tryz.func241 rfl ?_;conv=>whnf
 refine z_ c1 ?_;conv=>whnf
 refine z_ c2 ?_;conv=>whnf
 rw [show decide (z<0)=false from decide_eq_false (by omega)];conv=>whnf
 rw [show decide (z>=g.z)=false from decide_eq_false (by omega)];exact⟨_,ri,rfl⟩
theorem OD (g:Geo) (a:An) (z w:Int) (hg:Bm g=true) (ha:Bz g a=true) (hz:0<=z/\z<g.z) (hw : -1<=w/\w<g.d):Fn Tryz.prog 165 [.ag (Bi g), .ag (EN a),iv z,iv w] fun r=>r = .tp [iv (D1 g a z w),iv 0]:=by
 obtain⟨g1,g2,g3,g4,g5⟩:=Az.1 hg;obtain⟨hi,hh⟩:=RB ha hz;simp only [ED,Ad,decide_eq_true_eq,AK] at hh;obtain⟨p1,p2,p3,p4⟩:=hh;have hat:0<=Eu g w/\Eu g w<=g.d:=by unfold Eu;split <;> omega
 have hk:(Eu g w).toNat<(a.homes.getD z.toNat ⟨[],0,0⟩).places.length:=by omega
 have hp:=Av.1 p4 (Eu g w).toNat (by simpa using hk);simp only [Ad,AK] at hp;have c1:=SA g a z w hg ha hz hw;have c2:=Mr g w hw;have c3:=Pa g z ((a.homes.getD z.toNat ⟨[],0,0⟩).places.getD (Eu g w).toNat 0) hg hz (by unfold CF;omega);refine zT Tryz.func165 rfl ?_;conv=>whnf
 refine z_ c1 ?_;conv=>whnf
 refine z_ c2 ?_;conv=>whnf
 apply zJ tys_ok mixed (.o [0,1,2,3,4,5,6,7,8,9,10,11,12,13,14,15] .fin) [8,9,27,28,29,30,31,32,33,34,35,36,37,38,39,40] (by kernel_rfl)
 ·conv=>whnf
  try (refine Ah (by first | omega | exact ixA | exact ixB | (simp;done)) ?_;conv=>whnf)
  try (refine Ah (by first | omega | exact ixA | exact ixB | (simp;done)) ?_;conv=>whnf)
  refine z_ c3 ?_;exact tA
 exact⟨_,ri,rfl⟩
@[reducible] def txZ:List AV:= [iv 0,iv 0,iv 0, .v (.slice none 0 0)]
theorem JF (g:Geo) (lba:Int) (hg:Bm g=true) (h:0<=lba/\lba<g.z*g.d):Fn Tryz.prog 88 [.ag (Bi g),iv lba] fun r=>r = .tp [iv (lba.tdiv g.d),iv (lba.tmod g.d),iv 0]:=by
 obtain⟨h1,h2,h3,h4,h5⟩:=Az.1 hg;have hG:Fn Tryz.prog 118 [.ag (Bi g)] fun r=>r = .v (Em (Bm g)):=Cr g.z g.d g.sp g.sl g.an
 rw [hg] at hG;have hp:g.z*g.d<=16:=Int.le_trans (Cb h1.2 (by omega)) (by omega);have hw:IntKind.i64.wrap (IntKind.i64.wrap (g.z*g.d) - 1)=g.z*g.d - 1:=by rw [wi (n:=g.z*g.d) (by omega),wi (by omega)]
 have hn:=Hn lba 0 (IntKind.i64.wrap (IntKind.i64.wrap (g.z*g.d) - 1));rw [show Dq lba 0 (IntKind.i64.wrap (IntKind.i64.wrap (g.z*g.d) - 1))=true from AK.2 (by rw [hw];omega)] at hn;have hq:lba.tdiv g.d=lba / g.d:=Bp h.1;have hq2:0<=lba / g.d/\lba / g.d<=lba:=⟨Df h.1 (by omega),Int.ediv_le_self _ h.1⟩;refine zT Tryz.func88 rfl ?_;conv=>whnf
 refine z_ hG ?_;conv=>whnf
 refine z_ hn ?_;conv=>whnf
 have hd0:g.d≠0:=by omega
 refine zx tys_ok mixed [0,1,2,3,4,5,6,7,8,9,10] (by kernel_rfl) ?_;refine⟨hd0,?_⟩;refine⟨hd0,?_⟩;exact⟨_,ri,by rw [wi (n:=lba.tdiv g.d) (by omega)]⟩
theorem MO (g:Geo) (w:Int):Fn Tryz.prog 167 [.ag (Bi g),iv w] fun r=>r = iv (Eu g w):=by
 unfold Eu;by_cases h:w = -1
 ·rw [if_pos h];refine zT Tryz.func167 rfl ?_;conv=>whnf
  rw [show (w == -1)=true by simpa using h];exact⟨_,ri,rfl⟩
 ·rw [if_neg h];refine zT Tryz.func167 rfl ?_;conv=>whnf
  rw [show (w == -1)=false by simpa using h];exact⟨_,ri,rfl⟩
theorem RE (g:Geo) (s:Stt) (d:Dk) (F:Int->List UInt8) (a:Int) (h:Gd (A7 g) d F) (ha:0<=a/\a<A7 g) :
  ACalls Tryz.prog false 162 [.bp 0 0,iv a] (G5 g s d) fun r H=>r = .ag (DY ⟨0,F a⟩)/\∃ d',Gd (A7 g) d' F/\H=G5 g s d':=by
 have hr:=NB g s d a h.ok (by rw [h.len];exact ha);rw [h.read ha.1 ha.2] at hr;exact hr.mono fun r H hh=>⟨hh.1,d.req,h.req,hh.2⟩
theorem Xa (g:Geo) (s:Stt) (d:Dk) (F:Int->List UInt8) (z:Int) (hg:Bm g=true) (hl:LogB s.txns) (ha:Bz g s.a=true) (h:Gd (A7 g) d F) (hF:∀ a,(F a).length<=100000) (hz:0<=z/\z<g.z) (hB:∀ p,CD s.txns z 255=some p->p.1.bytes.length<=100000) (t:List Ent) (ht:Fe g s F z=some t) :
    ACalls Tryz.prog false 89 [.bp 0 0,iv z] (G5 g s d) fun r H=>r = .tp [.ag [BX t],iv 0]/\∃ d',Gd (A7 g) d' F/\H=G5 g s d':=by
  have hf:=Mx s.txns z 255 hl.n hl.i;unfold Fe at ht;cases hL:CD s.txns z 255 with
  | some p=>
    obtain⟨x,q⟩:=p;rw [hL] at hf ht;simp only at hf ht;have hr:=ID g x.bytes (hB _ hL);rw [hg,if_pos rfl,ht] at hr;refine zU tys_ok Tryz.func89 rfl rfl (Af rfl) ?_;conv=>whnf
    refine z_ hf ?_;conv=>whnf
    refine z_ hr ?_;exact⟨.tp [.ag [BX t],iv 0], .tp [.ag [BX t],iv 0],G5 g s d,fun _ _ h=>h,zP (s:= [0,1,2,3]) tA,rfl,d,h,rfl⟩
  | none=>
    rw [hL] at hf ht;simp only at hf ht;have hR:=OG s.a s.txns z (by have:=(RB ha hz).1;omega) hl.n (fun t ht=>(hl.i t ht).1);refine zU tys_ok Tryz.func89 rfl rfl (Af rfl) ?_;conv=>whnf
    refine z_ hf ?_;conv=>whnf
    apply zJ tys_ok mixed (.o [0,1,2,3,4,5,6,7,8,9,10,11,12,13,14,15,16] .fin) [11,12,41,42,43,44,45,46,47,48,49,50,51,52,53,54,55] (by kernel_rfl)
    · conv=>whnf
      refine z_ hR ?_;exact tA
    conv=>whnf
    have htab:∀ k:Nat,k<2->g.an+2*g.sl<=Ba g z (k:Nat)/\Ba g z (k:Nat)<A7 g:=fun k hk=>by have:=P_ hg hz (k:=(k:Nat)) (by omega);omega
    refine zR (Nat × Dk) (fun x=>([(0, .bp 0 0),(1,iv z),(4, .bp 4 0),(11,iv (Du s.a s.txns z)),(56,iv (x.1:Nat))],G5 g s x.2 ++ ([.box 145 [.v (.slice none 0 0)]]:List AB))) (fun x=>x.1<=2/\Gd (A7 g) x.2 F/\∀ j:Nat,j<x.1->Ct g ⟨0,F (Ba g z (j:Nat))⟩ (Ba g z (j:Nat)) (Du s.a s.txns z)=none) (fun x=>2 - x.1) (0,d) ⟨Ak _,h,fun j hj=>absurd hj (Ap j)⟩
      (zP (s:= [0,1,2,3,4]) tA) ?_
    rintro⟨k,d1⟩ ⟨hk,hd1,hno⟩;simp only at hk hd1 hno;conv=>whnf
    refine AO (fun h6=>?_) (fun h6=>?_) <;> (repeat rw [Ac] at h6) <;> conv=>whnf
    · have hk2:k<2:=by omega
      have hta:=JE g z (k:Nat) hg hz (by omega);obtain⟨q1,q2⟩:=htab k hk2;have hz2:=Az.1 hg;have hrd:=RE g s d1 F (Ba g z (k:Nat)) hd1 (by omega);have hto:=MJ g ⟨0,F (Ba g z (k:Nat))⟩ (Ba g z (k:Nat)) (Du s.a s.txns z) hg (hF _);repeat' (refine zZ ?_;conv=>whnf)
      refine z_ hta ?_;conv=>whnf
      repeat' (refine zZ ?_;conv=>whnf)
      refine ze9 [0,1,2,3] hrd ?_;rintro _ _ ⟨rfl,d2,hd2,rfl⟩;conv=>whnf
      repeat' (refine zZ ?_;conv=>whnf)
      have hGk:∀ u,Ct g ⟨0,F (Ba g z (k:Nat))⟩ (Ba g z (k:Nat)) (Du s.a s.txns z)=some u->u=t:=fun u hu=>by
        match k,hk2 with
        | 0,_=>
          have hu:Ct g ⟨0,F (Ba g z 0)⟩ (Ba g z 0) (Du s.a s.txns z)=some u:=hu;rw [hu] at ht;exact Option.some.inj ht
        | 1,_=>
          have h0:Ct g ⟨0,F (Ba g z 0)⟩ (Ba g z 0) (Du s.a s.txns z)=none:=hno 0 (by decide);have hu:Ct g ⟨0,F (Ba g z 1)⟩ (Ba g z 1) (Du s.a s.txns z)=some u:=hu;rw [h0] at ht;simp only at ht;exact Option.some.inj (hu.symm.trans ht)
      apply zW (0) tys_ok mixed (.o [0,1,2,3,4,5,6] (.two 7 (.o [8,9,10,11,12,13] .fin) 11 (.o [7,8,9,10,12,13] .fin))) (by kernel_rfl);refine Ah ?_ ?_;conv=>whnf
      refine z_ hto ?_;conv=>whnf
      try (refine tS ?_;conv=>whnf)
      rotate_left 1;conv=>whnf
      refine z_ hto ?_;conv=>whnf
      try (refine tS ?_;conv=>whnf)
      rotate_left 1;all_goals
        cases hT:Ct g ⟨0,F (Ba g z (k:Nat))⟩ (Ba g z (k:Nat)) (Du s.a s.txns z)
      all_goals
        conv=>whnf
        first
        | exact⟨(k+1,d2),⟨by show k+1<=2;omega,hd2,fun j hj=>by by_cases e:j=k;exact e ▸ hT;exact hno j (by have:j<k+1:=hj;omega)⟩,by show 2 - (k+1)<2 - k;omega,zP (s:= [0,1,2,3,4]) ⟨⟨rfl,rfl,rfl,rfl,AP (by omega),tv⟩,tA,rfl,rfl,rfl,rfl,rfl⟩⟩
        | (rename_i u
           have e:=hGk _ hT;subst e;exact⟨.tp [.ag [BX u],iv 0], .tp [.ag [BX u],iv 0],G5 g s d2,fun _ _ h=>h,zP (s:= [0,1,2,3]) tA,rfl,d2,hd2,rfl⟩)
    · have ek:k=2:=by omega
      subst ek;have h0:Ct g ⟨0,F (Ba g z 0)⟩ (Ba g z 0) (Du s.a s.txns z)=none:=hno 0 (by decide);have h1:Ct g ⟨0,F (Ba g z 1)⟩ (Ba g z 1) (Du s.a s.txns z)=none:=hno 1 (by decide);rw [h0] at ht;simp only at ht;rw [h1] at ht;cases ht
end
section
open Go.RowKit Go.Maps
theorem Fn.at {P:Program} {f:FuncId} {args:List AV} {K:AV->Prop} (h:Fn P f args K) {c0:Ctx} (hd:c0.dom=0) (hM:∀ b,c0.M b->b<c0.w.heap.size) (hg:globOk c0.w) {W:World} (hB:Below c0.w.heap.size c0.w W) {us:List Value} (hr:RdL args { c0 with w:=W } us) :
  Calls P f us.toArray W fun e w'=>∃ v r,e = .returned v/\K r/\Below W.heap.size W w'/\Rd r { c0 with w:=w' } v:=
 h.2 { c0 with w:=W } us hd (fun b hb=>As (hM b hb) hB.size) (hg.keep hB.size hB.block) hr
theorem Mt {w w':World} {P:Program} {k:TypeId} {R:Value->Option (DataW Unit × List MemPlace)} {b n:Nat} {D:DataW Unit} (h:w.ownsMap P k R b n D) (hB:Below w.heap.size w w'):w'.ownsMap P k R b n D:=by
 have hl:=h.lt;obtain⟨es,clock,hb,r⟩:=h;exact⟨es,clock,(hB.block b hl).trans hb,r⟩
theorem und_map:Tryz.prog.underlying 319=some (.map 3 4):=by kernel_rfl
theorem und_int:Tryz.prog.underlying 3=some (.int .i64):=by kernel_rfl
theorem und_bool:Tryz.prog.underlying 4=some .bool:=by kernel_rfl
theorem S0 (g:Geo) (A:Int) (hg:Bm g=true) (h:0<=A/\A<g.z*g.d):Fn Tryz.prog 143 [.ag (Bi g),iA [A]] fun r=>r = .tp [iv 4,iv 0]:=by
 refine⟨⟨_,Tryz.func143,rfl,by decide⟩,fun c0 us hd hM hgl hr=>?_⟩;obtain⟨u1,u2,rfl,h1,h2⟩:=YM hr;have hu1:u1 = .agg #[.int .i64 g.z, .int .i64 g.d, .int .i64 g.sp, .int .i64 g.sl, .int .i64 g.an]:=by
  simp only [Bi,Rd,RdL] at h1;obtain⟨xs,rfl,a1,_,rfl,rfl,a2,_,rfl,rfl,a3,_,rfl,rfl,a4,_,rfl,rfl,a5,_,rfl,rfl,rfl⟩:=h1;rfl
 have hs:=PZ h2;obtain⟨a,k,rfl⟩:=hs.form;subst hu1;have hC:Fn Tryz.prog 118 [.ag (Bi g)] fun r=>r = .v (Em (Bm g)):=Cr g.z g.d g.sp g.sl g.an
 rw [hg] at hC;have hS:=JF g A hg h;have hX:=OT [] A (by decide);have hkb:k<=maxLen:=hs.cap.2.2;obtain⟨b,o,rfl, -,hx⟩:=N7 hs (k:=0) (show 0<1 by decide);have rg:∀ W,Rd (.ag (Bi g)) { c0 with w:=W } (.agg #[.int .i64 g.z, .int .i64 g.d, .int .i64 g.sp, .int .i64 g.sl, .int .i64 g.an]):=fun W=>by
  simp [Rd,RdL,Bi]
 have cC:∀ W,Below c0.w.heap.size c0.w W->Calls Tryz.prog 118 #[.agg #[.int .i64 g.z, .int .i64 g.d, .int .i64 g.sp, .int .i64 g.sl, .int .i64 g.an]] W fun e w'=>e = .returned (.int .i64 0)/\Below W.heap.size W w':=fun W hB=>(hC.at hd hM hgl hB (us:= [_]) (by simpa [RdL] using rg W)).mono fun e w' ⟨v,r,h1,h2,h3,h4⟩=>by
  subst h2;simp only [Rd] at h4;subst h4;exact⟨h1,h3⟩
 have cS:∀ W,Below c0.w.heap.size c0.w W->Calls Tryz.prog 88 #[.agg #[.int .i64 g.z, .int .i64 g.d, .int .i64 g.sp, .int .i64 g.sl, .int .i64 g.an], .int .i64 A] W fun e w'=>e = .returned (.tuple #[.int .i64 (A.tdiv g.d), .int .i64 (A.tmod g.d), .int .i64 0])/\Below W.heap.size W w':=fun W hB=>(hS.at hd hM hgl hB (us:= [_,_]) (by simpa [RdL,Rd] using rg W)).mono fun e w' ⟨v,r,h1,h2,h3,h4⟩=>by
  subst h2;simp only [Rd,RdL] at h4;obtain⟨xs,rfl,a1,_,rfl,rfl,a2,_,rfl,rfl,a3,_,rfl,rfl,rfl⟩:=h4;exact⟨h1,h3⟩
 have cX:∀ W v,Below c0.w.heap.size c0.w W->Rd (iA []) { c0 with w:=W } v->Calls Tryz.prog 80 #[v, .int .i64 A] W fun e w'=>e = .returned (.bool false)/\Below W.heap.size W w':=fun W v hB hv=>(hX.at hd hM hgl hB (us:= [v,_]) (by simpa [RdL,Rd] using hv)).mono fun e w' ⟨v,r,h1,h2,h3,h4⟩=>by
  subst h2;simp only [Rd] at h4;subst h4;exact⟨h1,h3⟩
 have hmm:=@run_makeMap Tryz.prog;clear hC hS hX hr h2 h1 hs rg
 go_enter Tryz.func143,Tryz.ntmps143
 go_wp2_with fail
 have hB1:Below c0.w.heap.size c0.w (c0.w.alloc (.cells #[.int .i64 g.z, .int .i64 g.d, .int .i64 g.sp, .int .i64 g.sl, .int .i64 g.an] 24)):=(Below.refl _ _).alloc (Ag _) _;((with_reducible refine(cC _ hB1).mono ?_);rintro e w1 ⟨rfl,hBa⟩);have hs1:c0.w.heap.size+1<=w1.heap.size:=by have:=hBa.size;simpa using this
 have hBw:=Lib.hid (hB1.trans (hBa.mono (by simp)));have hbk:=Lib.hid ((hBa.block c0.w.heap.size (by simp)).trans (heap_alloc_new _ _));clear hB1 hBa cC
 go_wp2_with fail
 refine wp_loop_rounds 2 ?_;rw [rounds_succ];have hB2:=Lib.hid (hBw.out.alloc (by omega) (.map #[] 0));have hcell:∀ i,(w1.alloc (.map #[] 0)).cell? ⟨c0.w.heap.size,i,none⟩ = #[Value.int .i64 g.z, .int .i64 g.d, .int .i64 g.sp, .int .i64 g.sl, .int .i64 g.an][i]? :=fun i=>by
  simp only [World.cell?];rw [Below.heap_alloc _ _ _ (by omega),hbk.out];try rfl
 have hx2:(w1.alloc (.map #[] 0)).cell? ⟨b,o,none⟩=some (.int .i64 A):=by
  have q:=World.block_lt_of_cell? c0.w _ hx;exact(hB2.out.cell (by exact q)).trans hx
 have hown:(w1.alloc (.map #[] 0)).ownsMap Tryz.prog 3 (plainElem (H:=Unit) Tryz.prog 4) w1.heap.size 0 (.map []):=World.ownsMap_made _ _ _ _;generalize hW:w1.alloc (.map #[] 0)=W2 at *
 go_wp2_with fail
 ((with_reducible refine(cS _ hB2.out).mono ?_);rintro e w2 ⟨rfl,hBb⟩);have hB3:=Lib.hid (hB2.out.trans (hBb.mono hB2.out.size));have hown2:=Mt hown hBb;have hs2:=hBb.size;have hs3:c0.w.heap.size<W2.heap.size:=by rw [<-hW];simp;omega
 have hcell2:∀ i,w2.cell? ⟨c0.w.heap.size,i,none⟩ = #[Value.int .i64 g.z, .int .i64 g.d, .int .i64 g.sp, .int .i64 g.sl, .int .i64 g.an][i]? :=fun i=>(hBb.cell (p:=⟨c0.w.heap.size,i,none⟩) hs3).trans (hcell i)
 clear hcell hx2 hown cS
 go_wp2_with fail
 ((with_reducible refine(cX _ _ hB3.out ?_).mono ?_))
 ·simp only [iA,Rd];exact⟨_,k,rfl,Ak _,hkb, .inl rfl⟩
 rintro e w3 ⟨rfl,hBc⟩;have hB4:=Lib.hid (hB3.out.trans (hBc.mono hB3.out.size));have hown3:=Mt hown2 hBc;have hs4:=hBc.size;have hZ:(Lit.int .i64 (A.tdiv g.d)).wf=true:=by
  obtain⟨h1,h2,h3,h4,h5⟩:=Az.1 hg;have hp:g.z*g.d<=16:=Int.le_trans (Cb h1.2 (by omega)) (by omega);have hq:A.tdiv g.d=A / g.d:=Bp h.1;have hq2:0<=A / g.d/\A / g.d<=A:=⟨Df h.1 (by omega),Int.ediv_le_self _ h.1⟩;have : -9223372036854775808<=A.tdiv g.d/\A.tdiv g.d<=9223372036854775807:=by omega
  simp only [Lit.wf];rw [Ad];exact⟨decide_eq_true this.1,decide_eq_true this.2⟩
 have hkey:keyOf Tryz.prog 3 (.int .i64 (A.tdiv g.d))=some (.int .i64 (A.tdiv g.d)):=keyOf_int_mk und_int hZ;clear hcell2 hown2 cX
 go_wp2_with (first
  | (at_mapUpdate;refine wpList_mapUpdate_own _ rfl _ _ _ 319 rfl 3 4 (int_keyed und_int) und_map (plainElem (H:=Unit) Tryz.prog 4) w1.heap.size 0 _ rfl hown3 (by unfold maxLen;omega) _ _ _ rfl rfl hkey _ [] (plainElem_bool und_bool true) ?_;intro w4 hown4 hgrow4)
  | go_in)
 rw [rounds_succ];have hsz:Maps.size ((DataW.map (H:=Unit) []).put (Lit.int .i64 (A.tdiv g.d)) (.lit (.bool true)))=1:=rfl;have hB5:=Lib.hid (hB4.out.grown hgrow4 (by have:=hB4.out.size;omega) (fun j hj=>by cases hj;omega))
 go_wp2_with (first
  | (at_len;refine wpList_len_own _ rfl _ 319 rfl 3 4 und_map _ w1.heap.size (0+1) _ rfl hown4 ?_)
  | go_in)
 go_ret2
 refine⟨_,_,rfl,rfl,hB5.out,?_⟩;simp only [Rd,RdL];exact⟨_,rfl,_,_,rfl,rfl,_,_,rfl,rfl,rfl⟩
end
section
open Go.RowKit
theorem J4 (l:List Tx) (z w:Int) (hl:l.length<=1000000) (hi:∀ t∈l,t.images.length<=1000000/\∀ x∈t.images,x.bytes.length<=1000000000):ACalls Tryz.prog false 90 [.ow 0 l.length,iv z,iv w] [.row 170 4 (l.map Ia)] fun r H=>r=(match CD l z w with | some p=> .tp [bA p.1.bytes,iv p.2, .v (.bool true)] | none=> .tp [bA [],iv 0, .v (.bool false)])/\H=[.row 170 4 (l.map Ia)]:=by
 have hf:=KZ l z w hl (fun t ht=>(hi t ht).1);have e:CD l z w=_:=Jd l z w l.length;rw [e];have tsub:SubL [.sl 4 l.length fun i=>(l.map Ia).getD i [],iv z,iv w] [DW l,iv z,iv w]:=⟨C2 (f:=Ia) l rfl rfl,ri,ri,tv⟩;cases hA:FE l z w l.length with
 | none=>
  rw [hA] at hf;refine zU tys_ok Tryz.func90 rfl rfl (Af rfl) ?_;conv=>whnf
  refine zk (args':= [.sl 4 l.length fun i=>(l.map Ia).getD i [],iv z,iv w]) (hf.subA tsub) ⟨(Aa _).symm,rfl⟩ ?_;rintro _ rfl;refine⟨rfl,?_⟩;exact⟨_, .tp [bA [],iv 0, .v (.bool false)], [.row 170 4 (l.map Ia)],Ca (m:= [bA [],iv 0, .v (.bool false)]) ⟨Bl 1 _,ri,ri,tv⟩,zP (s:= [0]) tA,rfl,rfl⟩
 | some p=>
  obtain⟨k,i⟩:=p;rw [hA] at hf;obtain⟨hk,hi2⟩:=Ho hA;simp only at hk hi2;have hm:=hi _ (AC (d:=tz) hk);have hc:=BP ((l.getD k tz).images.getD i iz).bytes (hm.2 _ (AC hi2));replace hf:Fn Tryz.prog 164 [DW l,iv z,iv w] fun r=>r = .tp [iv (k:Nat),iv (i:Nat), .v (.bool true)]:=hf
  have ixA:(0:Int)<=(k:Nat)/\((k:Nat):Int)<(l.length:Nat):=by omega
  have ixB:(0:Int)<=(i:Nat)/\((i:Nat):Int)<((l.getD k tz).images.length:Nat):=⟨Int.natCast_nonneg _,Int.ofNat_lt.2 hi2⟩;have hE:(l.map Ia).getD (k:Int).toNat []=Ia (l.getD k tz):=by rw [Ac];exact AQ hk
  refine zU tys_ok Tryz.func90 rfl rfl (Af rfl) ?_;conv=>whnf
  refine zk (args':= [.sl 4 l.length fun i=>(l.map Ia).getD i [],iv z,iv w]) (hf.subA tsub) ⟨(Aa _).symm,rfl⟩ ?_;rintro _ rfl;refine⟨rfl,?_⟩;conv=>whnf
  apply zW (0) tys_ok mixed (.o [0,1,2,3,4,5,6,7,8,10,11,12,13,14,9,15,16,17] .fin) (by kernel_rfl);conv=>whnf
  try (refine tI ?_;conv=>whnf)
  try (first | (refine Ah ⟨rfl,(Aa _).symm,by rw [Ac];exact hk⟩ ?_;(conv=>whnf);rw [hE]) | skip;conv=>whnf)
  try (refine tI ?_;conv=>whnf)
  try (first | (refine Ah ⟨rfl,(Aa _).symm,by rw [Ac];exact hk⟩ ?_;(conv=>whnf);rw [hE]) | skip;conv=>whnf)
  try (refine tI ?_;conv=>whnf)
  try (first | (refine Ah ⟨rfl,(Aa _).symm,by rw [Ac];exact hk⟩ ?_;(conv=>whnf);rw [hE]) | skip;conv=>whnf)
  refine z_ hc ?_;conv=>whnf
  all_goals exact⟨_, .tp [bA ((l.getD k tz).images.getD i iz).bytes, .v (.int .i64 (l.getD k tz).seq), .v (.bool true)], [.row 170 4 (l.map Ia)],fun _ _ h=>h,zP (s:= [0]) tA,rfl,rfl⟩
@[reducible] def aa (s:Stt) (tx lo:AV):List AV:= [iv s.a.gen,iv s.a.epoch,iv s.a.pos,iv s.a.seq,iv s.a.last, .v (.string s.a.label),GK s.a.homes,tx, .v (.bool s.only),iv s.cursor,iv s.found,iv s.fixed,iv s.moved,lo]
@[reducible] def Xg (g:Geo) (x tx lo:AV) (s:Stt):List AV:= [iv g.z,iv g.d,iv g.sp,iv g.sl,iv g.an,x,iv s.a.gen,iv s.a.epoch,iv s.a.pos,iv s.a.seq,iv s.a.last, .v (.string s.a.label),GK s.a.homes,tx, .v (.bool s.only),iv s.cursor,iv s.found,iv s.fixed,iv s.moved,lo]
@[reducible] def GG (g:Geo) (s:Stt) (d:Dk):List AB:= [.box 99 (Xg g (.bp 1 0) (.ow 4 s.txns.length) (iA s.lost) s), .box 119 (K7 (.ow 2 d.cells.length) (.ow 3 d.cache.length) d.reqs d.left), .row 68 3 (d.cells.map Cg), .row 152 2 (d.cache.map GI), .row 170 4 (s.txns.map Ia)]
@[reducible] def ak (g:Geo) (s:Stt) (d:Dk):List AB:= [.box 24 (Bi g), .box 38 (Zu d), .box 34 (Zq s), .box 119 (K7 (.ow 4 d.cells.length) (.ow 5 d.cache.length) d.reqs d.left), .row 68 3 (d.cells.map Cg), .row 152 2 (d.cache.map GI), .row 170 4 (s.txns.map Ia)]
@[reducible] def bwN (g:Geo) (s:Stt) (d:Dk):List AB:= [.box 99 (Xg g (.bp 1 0) (.v (.slice none 0 0)) (iA s.lost) s), .box 119 (K7 (.ow 2 d.cells.length) (.ow 4 d.cache.length) d.reqs d.left), .row 68 3 (d.cells.map Cg), .dead, .row 152 2 (d.cache.map GI)]
theorem Y3 (g:Geo) (d D:Dk) (s:Stt) (hg:Bm g=true) (h:DkOk d) (hn:(d.cells.length:Int)=A7 g) (hm:J5 g d=(D,0,s))
  (hsc:∀ a j,FQ g (B3 d (Di g))=some (a,j)->GT g a (B3 (d.adv g.an.toNat) (BC g 0)) (B3 (d.adv g.an.toNat) (BC g 1))=([], [],0)/\Fn Tryz.prog 274 [.ag (Bi g), .ag (EN a),Fx (B3 (d.adv g.an.toNat) (BC g 0)),Fx (B3 (d.adv g.an.toNat) (BC g 1))] fun r=>r = .tp [.v (.slice none 0 0), .v (.slice none 0 0),iv 0]) :
  ACalls Tryz.prog false 194 [.bp 0 0] (G5 g st0 d) fun r H=>r = iv 0/\H=bwN g s D:=by
 obtain⟨g1,g2,g3,g4,g5⟩:=Az.1 hg;have hcg:=Ef hg;have ha:=QV g st0 d hg h (by omega);unfold J5 at hm;by_cases hl:d.live g.an.toNat;rotate_left 1
 ·rw [if_neg hl] at hm;cases hm
 rw [if_pos hl] at hm;have hp:=Wp g (B3 d (Di g)) hg (by rw [DB,Es];omega) (Pd h _);have hpo:=fun {a j}=>K1 (g:=g) (l:=B3 d (Di g)) hg (B3 d (Di g)).length (a:=a) (j:=j)
 have hpo:∀ {a j},FQ g (B3 d (Di g))=some (a,j)->Bz g a=true:=hpo;have hgl:(B3 d (Di g)).length=g.an.toNat:=by rw [DB,Es]
 generalize B3 d (Di g)=L at ha hp hpo hgl hm hsc;have hd1:=h.adv g.an.toNat;have hs1:=(EV g.an.toNat d).1;generalize d.adv g.an.toNat=d1 at ha hd1 hs1 hm hsc;cases hP:FQ g L with
 | none=>rw [hP] at hm;cases hm
 | some q=>
  obtain⟨a,j⟩:=q;have hao:=hpo hP;obtain⟨hS,hsc⟩:=hsc a j hP;rw [hP] at hp hm;replace hp:Fn Tryz.prog 272 [.ag (Bi g),Fx L] (fun r=>r = .tp [.ag (EN a),iv (j:Nat),iv 0]):=hp;have hlg:=Xh g st0 d1 hg hd1 (by rw [hs1];exact hn);simp only at hm;unfold Qx at hm;by_cases hl2:d1.live (2*g.sl.toNat);rotate_left 1
  ·rw [if_neg hl2] at hm;cases hm
  rw [if_pos hl2,hS] at hm;have hx1:(B3 d1 (BC g 0)).length=g.sl.toNat:=by rw [DB,D6]
  have hx2:(B3 d1 (BC g 1)).length=g.sl.toNat:=by rw [DB,D6]
  have hlast:=Qg (x:=B3 d1 (BC g 0)) (y:=B3 d1 (BC g 1)) hg hao (by rw [hS]);rw [hS] at hlast;generalize B3 d1 (BC g 0)=X1 at hlg hx1 hsc;generalize B3 d1 (BC g 1)=X2 at hlg hx2 hsc;have hd2:=hd1.adv (2*g.sl.toNat);have hs2:=(EV (2*g.sl.toNat) d1).1;generalize d1.adv (2*g.sl.toNat)=d2 at hlg hd2 hs2 hm;unfold Qw at hm;rw [if_neg (by simp)] at hm;have hmd:=Uz g st0 d2 [] hd2 (fun w hw=>by cases hw) (Ak _);have hmd0:d2.mend []=(d2,false):=rfl;simp only at hm;rw [hmd0] at hm hmd;simp only [BU,if_false] at hm hmd;have hpa:=F2 hao;unfold Qv at hm;by_cases hmx:a.gen=4294967295\/a.epoch=4294967295
  ·rw [if_pos hmx] at hm;cases hm
  rw [if_neg hmx] at hm;have hna:=OK (n:=0) hao (fun e=>hmx (.inl e)) (fun e=>hmx (.inr e)) hlast.2;have hban:=P6 g st0 d2 (DT a 0) hg hna hd2 (LQ hg hna (by rw [hs2,hs1];exact hn));have b1:(a.gen == 4294967295)=false:=beq_eq_false_iff_ne.2 fun e=>hmx (.inl e)
  have b2:(a.epoch == 4294967295)=false:=beq_eq_false_iff_ne.2 fun e=>hmx (.inr e)
  have w1:IntKind.i64.wrap (a.gen+1)=a.gen+1:=wi (by omega);have w2:IntKind.i64.wrap (a.epoch+1)=a.epoch+1:=wi (by omega);have hlast2:a.last<=a.seq+(0:Nat) - 1/\a.seq+(0:Nat) - 1<=4294967295:=hlast;have w3:IntKind.i64.wrap (IntKind.i64.wrap (a.seq+((0:Nat):Int)) - 1)=a.seq+(0:Nat) - 1:=by
   rw [wi (n:=a.seq+((0:Nat):Int)) (by omega)];exact wi (by omega)
  simp only [AN] at hm;generalize hQ:d2.putAll (AR g (DT a 0))=Q at hban hm;obtain⟨d4,n,dead⟩:=Q;simp only at hm;cases dead with
  | true=>rw [if_pos rfl] at hm;cases hm
  | false=>
   rw [if_neg (by decide)] at hm;simp only [BU,if_false] at hban;by_cases hn0:n=0
   ·rw [if_pos hn0] at hm;cases hm
   rw [if_neg hn0] at hm;cases hm;have hnb:((n:Int) == 0)=false:=beq_eq_false_iff_ne.2 (by omega);refine zU tys_ok Tryz.func194 rfl rfl (Af rfl) ?_;conv=>whnf
   refine ha.mono ?_;rintro _ _ ⟨h1, -⟩;obtain⟨rfl,rfl⟩:=h1 hl;conv=>whnf
   refine zS hp.go ?_;refine⟨(by rw [Aa,hgl]),?_⟩;conv=>whnf
   refine zV [.ag (Bi g),Fx L] ⟨ri,C2 (f:=DY) L hgl.symm rfl,tv⟩ ?_;refine z_ hp ?_;conv=>whnf
   refine ze9 [0,1,2,3] hlg ?_;rintro _ _ ⟨h1, -⟩;obtain⟨rfl,rfl⟩:=h1 hl2;conv=>whnf
   apply zW (0) tys_ok mixed (.o [0,1,2,3,4,5,6,7,8,9,10,11,12,13,14] .fin) (by kernel_rfl);conv=>whnf
   (refine zS hsc.go ?_;(conv=>whnf);refine Ah (by rw [Aa,hx1]) ?_;(conv=>whnf);refine Ah (by rw [Aa,hx2]) ?_;(conv=>whnf);refine zV [.ag (Bi g), .ag (EN a),Fx X1,Fx X2] ⟨ri,ri,C2 (f:=DY) X1 hx1.symm rfl,C2 (f:=DY) X2 hx2.symm rfl,tv⟩ ?_;refine z_ hsc ?_)
   conv=>whnf
   conv=>whnf
   refine zV [.bp 0 0,MX []] ⟨ri,Bl 2 _,tv⟩ ?_;refine ze9 [0,1,2,3] hmd ?_;rintro _ _ ⟨rfl,rfl⟩;conv=>whnf
   rw [b1];conv=>whnf
   rw [b2];conv=>whnf
   rw [w1,w2,w3];refine zY [0,1,2,8] hban rfl rfl rfl rfl (by decide) (Yg rfl rfl) tA ?_;rintro _ _ ⟨rfl,rfl⟩;conv=>whnf
   rw [hnb];refine⟨_,iv 0,bwN g (Bf (DT a 0) []) D,ri,zH (zO (zz (cs':=Xg g (.bp 1 0) (.v (.slice none 0 0)) (iA []) (Bf (DT a 0) [])) 0 rfl ?_)) (s:= [0,1,2,3,9]) tA,rfl,rfl⟩;exact⟨fun _ _ h=>h,fun _ _ h=>h,fun _ _ h=>h,fun _ _ h=>h,fun _ _ h=>h,fun _ _ h=>h,fun _ _ h=>h,fun _ _ h=>h,fun _ _ h=>h,fun _ _ h=>h,fun _ _ h=>h,fun _ _ h=>h,fun _ _ h=>h,fun _ _ h=>h,fun _ _ h=>h,fun _ _ h=>h,fun _ _ h=>h,fun _ _ h=>h,fun _ _ h=>h,Bl 1 _,tv⟩
theorem LB (l:List Tx) (x:Tx) (z w:Int):∀ k,k<=l.length->Fz (l ++ [x]) z w k=Fz l z w k
 | 0,_=>rfl
 | k+1,hk=>by
  have e:(l ++ [x]).getD k tz=l.getD k tz:=by
   grind
  rw [Fz,Fz,e,LB l x z w k (by omega)]
theorem I2 (l:List Tx) (x:Tx) (z w:Int):CD (l ++ [x]) z w=match Dx x.images z w x.images.length with
  | some i=>some (i,x.seq)
  | none=>CD l z w:=by
 unfold CD;rw [Ai,Ao,AN,Au,Fz,LB l x z w _ (Ag _),show (l ++ [x]).getD l.length tz=x by simp];try rfl
theorem QH (x:Tx) (r:List Tx) (z w:Int):∀ k,Fz (x::r) z w (k+1)=match Fz r z w k with
  | some p=>some p
  | none=>match Dx x.images z w x.images.length with
   | some i=>some (i,x.seq)
   | none=>none
 | 0=>rfl
 | k+1=>by
  rw [Fz,QH x r z w k,Fz,show (x::r).getD (k+1) tz=r.getD k tz from rfl]
  grind
theorem Oq {x:Gt} {a s:Int} {p:List UInt8} (he:x.err=0) (hx:x.bytes=CC a s p) (h:Xs a s p):D4 x a=some ⟨a,s,p⟩:=by
 obtain⟨h1,h2,h3,h4⟩:=Hy h;unfold D4
 grind
theorem T2 {a s:Int} {p:List UInt8} {e:Ent} (h:Xs a s p) (h8:p.length=8) (h1:e.stamp=s) (h2:((DC p:Nat):Int)=e.sum):DD ⟨0,CC a s p⟩ a e=some p:=by
 unfold DD;rw [Oq rfl rfl h]
 grind
theorem Sq {g:Geo} {a s:Int} {p:List UInt8} (h:Xs a s p):Ct g ⟨0,CC a s p⟩ a s=CR g p:=by
 unfold Ct;rw [Oq rfl rfl h]
 grind
def M9 (v:Int->List UInt8):Nat->List UInt8
 | 0=>zero8
 | k+1=>GH (M9 v k) (v (k:Nat))
structure ZoneV (g:Geo) (a:An) (l:List Tx) (F:Int->List UInt8) (z:Int) (t:List Ent) (v:Int->List UInt8):Prop where
 tab:Fe g (Bf a l) F z=some t
 len:∀ w, -1<=w->w<g.d->(v w).length=8
 ent:∀ w, -1<=w->w<g.d->(t.getD (Eu g w).toNat ez).lost=false/\((DC (v w):Nat):Int)=(t.getD (Eu g w).toNat ez).sum
 val:∀ w, -1<=w->w<g.d->match CD l z w with
  | some p=>p.1.bytes=v w/\(t.getD (Eu g w).toNat ez).stamp=p.2
  | none=>DD ⟨0,F (D1 g a z w)⟩ (D1 g a z w) (t.getD (Eu g w).toNat ez)=some (v w)
 par:v (-1)=M9 v g.d.toNat
def VolV (g:Geo) (a:An) (l:List Tx) (F:Int->List UInt8) (V:Int->Int->List UInt8):Prop:=∀ z,0<=z->z<g.z->∃ t,ZoneV g a l F z t (V z)
theorem ZoneV.one {g:Geo} {a:An} {l:List Tx} {F:Int->List UInt8} {z:Int} {t:List Ent} {v:Int->List UInt8} (h:ZoneV g a l F z t v) {w:Int} (hw : -1<=w/\w<g.d):Gu g (Bf a l) F t z w=v w:=by
 have:=h.val w hw.1 hw.2;unfold Gu;show (match CD l z w with | some p=>p.1.bytes | none=>_)=_;cases hf:CD l z w with
 | some p=>rw [hf] at this;exact this.1
 | none=>
  rw [hf] at this;simp only at this |-
  show (DD ⟨0,F (D1 g a z w)⟩ (D1 g a z w) (t.getD (Eu g w).toNat ez)).getD []=_
  grind
theorem Xd {n:Int} {F:Int->List UInt8} {q:Int} (h0:0<=q) (h1:q<n):Kl n F q=F q:=if_pos ⟨by omega,h1⟩
theorem fold_zero:∀ k,M9 (fun _=>zero8) k=zero8
 | 0=>rfl
 | k+1=>by rw [M9,fold_zero k];rfl
end
end Go.Proofs.YtpjkcgacjjbikaaGreatDoor.A
