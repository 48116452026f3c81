/-
Several texts in one.
-/
import Derived.Test.YtkolckdakddggaaGreatDoorPPC1P2
import Derived.Test.YtkolckdakddggaaGreatDoorPPC1P3
import Derived.Test.YtkolckdakddggaaGreatDoorPPC1P4
import Derived.Test.YtkolckdakddggaaGreatDoorRows
import Derived.Below
import Derived.ChangeSame
import Derived.Carry
import Derived.Test.YtkolckdakddggaaGreatDoorPPC1P1
import Derived.Lib.LaidIn
import Derived.Lib.LaidU8T
import Derived.LaidHandle
import Derived.MakeChecks
import Derived.Handed
set_option maxRecDepth 100000
set_option maxHeartbeats 8000000
set_option linter.unusedSimpArgs false
set_option linter.unusedVariables false
set_option linter.deprecated false
section
namespace Go.Proofs.YtkolckdakddggaaGreatDoor.A
open Go.RowKit
def flatY:AV->Bool
 | .v _=>true
 | .top=>true
 | _=>false
def flatP:AV->Bool
 | .v _=>true
 | .ow _ _=>true
 | .sl _ 0 _=>true
 | _=>false
def flatQ:AV->Bool
 | .v _=>true
 | .ow _ _=>true
 | .ag l=>l.all flatP
 | _=>false
def flatS:List AB->Bool
 | []=>true
 | .row _ _ es::r=>es.flatten.all flatY&&flatS r
 | _::_=>false
theorem OG {c c':Ctx}:∀ {l:List AV} {us:List Value},l.all flatY=true->RdL l c us->RdL l c' us
 | [],us,_,h=>by simpa only [RdL] using h
 | x::l,us,hf,h=>by
  rw [AK,Bool.and_eq_true] at hf
  simp only [RdL] at h |-
  obtain⟨u,vs,rfl,h1,h2⟩:=h
  refine⟨u,vs,rfl,?_,OG hf.2 h2⟩
  cases x <;> simp [flatY] at hf
  ·simp only [Rd]
  ·simpa only [Rd] using h1
theorem Lb {c c':Ctx} (hr:c'.rho=c.rho) (hl:c'.len=c.len) (hd:c'.dom=c.dom) {x:AV} (hx:flatP x=true) {u:Value} (h:Rd x c u):Rd x c' u:=by
 cases x with
 | v y=>simpa only [Rd] using h
 | ow k n=>
  simp only [Rd] at h |-
  rw [hr,hl,hd]
  exact h
 | sl sz n get=>
  cases n with
  | zero=>
   simp only [Rd] at h |-
   obtain⟨a,k,h1,h2,h3, -⟩:=h
   exact⟨a,k,h1,h2,h3, .inl trivial⟩
  | succ n=>cases hx
 | _=>simp [flatP] at hx
theorem U6 {c c':Ctx} (hr:c'.rho=c.rho) (hl:c'.len=c.len) (hd:c'.dom=c.dom) {x:AV} (hx:flatQ x=true) {u:Value} (h:Rd x c u):Rd x c' u:=by
 cases x with
 | v y=>exact Lb hr hl hd rfl h
 | ow k n=>exact Lb hr hl hd rfl h
 | ag l=>
  simp only [Rd] at h |-
  obtain⟨xs,rfl,hxs⟩:=h
  refine⟨xs,rfl,?_⟩
  simp only [flatQ] at hx
  induction l generalizing xs with
  | nil=>simpa only [RdL] using hxs
  | cons y l ih=>
   rw [AK,Bool.and_eq_true] at hx
   simp only [RdL] at hxs |-
   obtain⟨u,us,rfl,h1,h2⟩:=hxs
   exact⟨u,us,rfl,Lb hr hl hd hx.1 h1,ih hx.2 us h2⟩
 | _=>simp [flatQ] at hx
theorem flatS_mem:∀ {R:List AB} {y:AB},flatS R=true->y∈R->∃ t sz es,y = .row t sz es/\es.flatten.all flatY=true
 | .row t sz es::r,y,h,hy=>by
  rw [flatS,Bool.and_eq_true] at h
  rcases A9.1 hy with rfl | hy
  ·exact⟨t,sz,es,rfl,h.1⟩
  ·exact flatS_mem h.2 hy
theorem ACalls.fnO {P:Program} {q:Bool} {f:FuncId} {args:List AV} {K:AV->List AB->Prop} (h:ACalls P q f args [] K) (hK:∀ r R,K r R->∀ y∈R,∃ t sz es,y = .row t sz es):FnO P f args K:=by
 refine⟨h.go,fun c0 us hg hd hM hr=>?_⟩
 let ce:Ctx:={ c0 with base:=0 }
 have hce:Ext c0 ce:=⟨rfl,rfl,rfl,Nat.le_refl _,fun _ _ h=>⟨h,rfl⟩,Nat.le_refl _,fun _ _=>Nat.le_refl _,fun _ _ _=>rfl,fun _ _ _ h=>h⟩
 have hHS:HS (Fl.all c0.w hg) c0.M ce []:=⟨LowF.refl _ hg,rfl,hd,fun _ _=>Iff.rfl,hM,by simp,by simp,by simp⟩
 refine(h.calls (Fl.all c0.w hg) c0.M ce us hHS (RdL.ext _ hce hr)).mono ?_
 rintro e w' ⟨v,c',r,H',rfl,q1,q2,q3,q4,q5, -⟩
 exact⟨v,r,c',H',rfl,q2,q1,q3,q5,hK r H' q2⟩
theorem FnO.lendC {P:Program} {f:FuncId} {args args':List AV} {H:List AB} {K:AV->List AB->Prop} {q:Bool} {k:AV->List AB->Prop} (h:FnO P f args' K) (hs:sealA args H fun a _=>a=args') (hk:∀ r R,K r R->∃ R',ConvH R R'/\(flatQ r=true/\flatS R'=true)/\appK H R' 0 fun d H=>CC (r.shift d) fun r=>k r H):ACalls P q f args H k:=by
 refine⟨h.go,fun w0 M0 c us hs0 hr=>?_⟩
 obtain⟨l',H',c',rfl,h2,h3,h4,h5,_⟩:=sealA_sound hs0 hr hs
 have hglob:globOk c'.closed.w:=h3.glob
 have hc:=h.calls c'.closed us hglob rfl h3.lt h5
 have ew:c'.closed.w=c.w:=h2
 suffices hh:Calls P f us.toArray c'.closed.w fun e w'=>∃ v c1 r H1,e = .returned v/\c1.w=w'/\k r H1/\HS w0 M0 c1 H1/\Ext c c1/\Rd r c1 v/\(q=true->Old c.w w') by
  rw [ew] at hh
  exact hh
 refine hc.mono ?_
 rintro e w' ⟨v,r,c1,R1,rfl,q1,rfl,q21,q31, -⟩
 obtain⟨R,hconv,⟨f1,f2⟩,hkk⟩:=hk r R1 q1
 obtain⟨c2,ew2,q2,x2⟩:=hconv _ _ _ q21
 have q3:Rd r c2 v:=Rd.ext _ x2 q31
 have q4:∀ y∈R,∃ t sz es,y = .row t sz es:=fun y hy=>by
  obtain⟨t,sz,es,e, -⟩:=flatS_mem f2 hy
  exact⟨t,sz,es,e⟩
 -- the same memory;what the caller holds is not read
 obtain⟨c3,e3⟩:∃ c3:Ctx,c3={ c2 with M:=fun b=>c2.M b\/c.M b }:=⟨_,rfl⟩
 have hsub:∀ b,b<c.w.heap.size->c'.M b->c.M b:=fun b hb hm=>by
  by_cases hx:c.M b
  ·exact hx
  ·exact absurd hm (h4.keep b hb hx).1
 have hlow:=q2.low
 have q2':HS (Fl.all c.w hs0.glob) c.M c3 R:=by
  subst e3
  refine⟨⟨?_,?_,?_,?_,?_⟩,q2.base,q2.dom,fun b hb=>?_,fun b hb=>?_,fun i y hi=>?_,fun i y g hi hl ho=>?_,q2.dis⟩
  ·have:=hlow.os;rw [show (Fl.all c'.closed.w hglob).w=c.w from ew] at this;exact this
  ·have:=hlow.tape;rw [show (Fl.all c'.closed.w hglob).w=c.w from ew] at this;exact this
  ·have:=hlow.output;rw [show (Fl.all c'.closed.w hglob).w=c.w from ew] at this;exact this
  ·have:=hlow.size;rw [show (Fl.all c'.closed.w hglob).w=c.w from ew] at this;exact this
  ·intro b hb
   have:=hlow.block b (by show b<c'.closed.w.heap.size;rw [ew];exact hb)
   rw [show (Fl.all c'.closed.w hglob).w=c.w from ew] at this
   exact this
  ·have hb':b<c.w.heap.size:=hb
   have:=q2.foreign b (by show b<c'.closed.w.heap.size;rw [ew];exact hb')
   exact⟨fun hx=>hx.elim (fun hx=>hsub b hb' (this.1 hx)) (fun hx=>hx),fun hx=> .inr hx⟩
  ·have hsz:c.w.heap.size<=c2.w.heap.size:=by
    have:=hlow.size;rw [show (Fl.all c'.closed.w hglob).w=c.w from ew] at this;exact this
   rcases hb with hb | hb
   ·exact q2.lt b hb
   ·exact Aj (hs0.lt b hb) hsz
  ·obtain⟨t,sz,es,rfl,hfl⟩:=flatS_mem f2 (List.mem_of_getElem? hi)
   obtain⟨a1,a2,a3,xs,a4,a5,a6⟩:=q2.blk i _ hi
   exact⟨a1,a2,a3,xs,a4,OG hfl a5,a6⟩
  ·have:=q2.own i y g hi hl ho
   refine⟨.inl this.1,fun hx=>this.2 ?_⟩
   show g<c'.closed.w.heap.size
   rw [ew]
   exact hx
 have q3':Rd r c3 v:=U6 (by rw [e3]) (by rw [e3]) (by rw [e3]) f1 q3
 have q5:c3.w=c2.w:=by rw [e3]
 obtain⟨p1,p2⟩:=hs0.beside (c':=c3) q2' q4
 have h1:=Bu (appK_iff hkk)
 rw [Am,<-hs0.dom] at h1
 exact⟨v,c.beside c3,_,_,rfl,by show c3.w=_;rw [q5,ew2],h1,p1,p2,Rd.shift r q3',fun _=>by have:=q2'.low.below.old;rw [q5,ew2] at this;exact this⟩
theorem Mu (n:Nat) (l:List AV) (h:l.all flatY=true):(List.replicate n l).flatten.all flatY=true:=by
 induction n with
 | zero=>rfl
 | succ n ih=>rw [Cq,Az,Co,h,ih];rfl
theorem SubL.tops:∀ (l:List AV),SubL l (List.replicate l.length .top)
 | []=>trivial
 | x::l=>⟨fun _ _ _=>by simp [Rd],SubL.tops l⟩
theorem ACalls.lendBox2 {P:Program} {q:Bool} {f:FuncId} {x:AV} {H:List AB} {K:AV->List AB->Prop} (j k:Nat) {t t':TypeId} {sz':Nat} {ar ar2 cs cs2:List AV} {es':List (List AV)} (hj:H[j]? = some (.box t cs)) (hk:H[k]? = some (.row t' sz' es'))
  (he:cs.map (AV.slIn k es'.length (.sl sz' es'.length fun i=>es'.getD i []))=cs2) (ha:ar.map (AV.slIn k es'.length (.sl sz' es'.length fun i=>es'.getD i []))=ar2) (hc:ACalls P q f [x, .ag ar2] ((H.set k .dead).set j (.box t cs2)) K):ACalls P q f [x, .ag ar] H K:=by
 refine⟨hc.go,fun w0 M0 c us hs hr=>?_⟩
 subst he
 subst ha
 have hjk:j≠k:=by rintro rfl;rw [hj] at hk;cases hk
 obtain⟨c1,e1,s1,x1,r1⟩:=hs.freeze hk
 have hj1:(H.set k .dead)[j]? = some (.box t cs):=by rw [List.getElem?_set_ne (Ne.symm hjk)];exact hj
 have h8:∀ (l:List AV) (us:List Value),RdL l c us->RdL (l.map (AV.slIn k es'.length (.sl sz' es'.length fun i=>es'.getD i []))) c1 us:=by
  intro l
  induction l with
  | nil=>intro us h;simp only [RdL] at h;subst h;simp [RdL]
  | cons x l ih=>
   intro us h
   simp only [RdL] at h
   obtain⟨u,vs,rfl,a1,a2⟩:=h
   simp only [Ap,RdL]
   refine⟨u,vs,rfl,?_,ih vs a2⟩
   unfold AV.slIn
   split
   ·rename_i i n
    split
    ·rename_i hik
     subst hik
     split
     ·grind
     ·simp [Rd]
    ·exact Rd.ext _ x1 a1
   ·exact Rd.ext _ x1 a1
 have s2:HS w0 M0 c1 ((H.set k .dead).set j (.box t (cs.map (AV.slIn k es'.length (.sl sz' es'.length fun i=>es'.getD i []))))):=by
  refine s1.recell hj1 rfl ?_
  rintro⟨g,xs,h1,h2,_,h4⟩
  obtain⟨g0,ys,q1,q2,q3,_⟩:=hs.blk j _ hj
  have hg:=x1.box j _ (hs.klt hj) q1
  rw [h1] at hg
  injection hg with hg
  injection hg with hg
  injection hg with hg
  subst hg
  rw [e1,q2] at h2
  injection h2 with h2
  have hxy:ys.toArray=xs.toArray:=by injection h2
  have hxy:ys=xs:=by simpa using hxy
  subst hxy
  exact⟨g,ys,h1,by rw [e1];exact q2,h8 _ _ q3,h4⟩
 have hr2:RdL [x, .ag (ar.map (AV.slIn k es'.length (.sl sz' es'.length fun i=>es'.getD i [])))] c1 us:=by
  simp only [RdL] at hr
  obtain⟨u1,_,rfl,p1,u2,_,rfl,p2,rfl⟩:=hr
  simp only [Rd] at p2
  obtain⟨zs,rfl,p3⟩:=p2
  simp only [RdL]
  exact⟨u1,_,rfl,Rd.ext _ x1 p1,_,_,rfl,by simp only [Rd];exact⟨zs,rfl,h8 _ _ p3⟩,rfl⟩
 have:=hc.calls w0 M0 c1 us s2 hr2
 rw [e1] at this
 refine this.mono ?_
 rintro e w' ⟨v,c',r,H2,rfl,rfl,q1,q2,q3,q4,q5⟩
 exact⟨v,c',r,H2,rfl,rfl,q1,q2,x1.trans q3,q4,q5⟩
theorem Dj {a s:Int} {p:List UInt8} (h:p.length<=96):(AM a s p).length<=200:=by rw [CM];omega
theorem TG (g:Geo) (s:Stt) (d:Dk) (F:Int->List UInt8) (l:List Wr) (z w stamp:Int) (b:List UInt8) (hg:A_ g=true) (ha:AN g s.a=true) (hz:0<=z/\z<g.z) (hw : -1<=w/\w<g.d) (h:Gw (Aq g) d F l) (hl:l.length<2000) (hst:0<=stamp/\stamp<=4294967295) (hb:b.length<=96) :
  ACalls Tryz.prog false 78 [.bp 0 0, .v (.int .i64 z), .v (.int .i64 w), .v (.int .i64 stamp),bA b] (Ec g s 0 d) fun r H=>r = .v (.bool true)/\∃ d',Gw (Aq g) d' F (l ++ [⟨B3 g s.a z w,AM (B3 g s.a z w) stamp b⟩])/\H=Ec g s 0 d':=by
 have hA:=K6 g s.a z w hg ha hz hw
 obtain⟨sl,e1,e2,e3⟩:=IH hg ha hz hw
 obtain⟨q1,q2⟩:=G_ hg hz ⟨e2,e3⟩
 obtain⟨g1,g2,g3,g4,g5⟩:=Ak.1 hg
 have hcb:=D_ hg
 obtain⟨X,hX⟩:∃ X,X=B3 g s.a z w:=⟨_,rfl⟩
 rw [<-hX] at hA e1 |-
 have hc:=Ek X stamp b ⟨by omega,by omega,hst.1,hst.2,hb⟩
 have hwr:=Xq g s (Aq g) d F l X (AM X stamp b) h hl (by omega) (Dj hb)
 refine ACalls.ofR tys_ok Tryz.func78 rfl rfl (Ac rfl) ?_
 conv=>whnf
 apply aDraw.tree tys_ok mixed (.one 0 (.one 1 (.one 2 (.one 3 (.one 4 (.one 5 (.one 6 (.one 7 (.one 8 (.one 9 (.one 10 (.one 11 (.one 12 .fin))))))))))))) [11,12,13,14,15,16,17,18,19,20,21,22,23] (by kernel_rfl)
 ·conv=>whnf
  (refine Fn.lend (args':= [.ag (AF g), .ag (Ly s.a (.sl 3 s.a.homes.length fun i=>(s.a.homes.map CH).getD i [])), .v (.int .i64 z), .v (.int .i64 w)]) (hA.subA ⟨ri,AG ⟨ri,ri,ri,ri,ri,ri,AH (f:=CH) s.a.homes rfl rfl,trivial⟩,ri,ri,trivial⟩) ⟨(Aa _).symm,rfl⟩ ?_;rintro _ rfl;refine⟨rfl,?_⟩)
  exact⟨rfl,rfl⟩
 conv=>whnf
 refine aLoop.rounds 1 ?_
 conv=>whnf
 refine Fn.cl hc ?_
 conv=>whnf
 refine ACalls.frame [0,1,2,3,4,5] hwr rfl rfl rfl rfl (by decide) (EE rfl) ⟨rfl,rfl,rfl,rfl,rfl,rfl,trivial⟩ ?_
 rintro _ _ ⟨rfl,d2,hd2,rfl⟩
 exact⟨.v (.bool true), .v (.bool true),Ec g s 0 d2,fun _ _ h=>h,WkN.r (s:= [0,1,2,3,4,5]) ⟨⟨rfl,trivial⟩,⟨rfl,rfl,rfl,rfl,rfl,rfl,trivial⟩,rfl,rfl,rfl,rfl,rfl⟩,rfl,d2,hd2,rfl⟩
theorem Gw.puts {n:Int} {d:Dk} {F:Int->List UInt8} {W l:List Wr} (h:Gw n d F W) (hl:∀ w∈l,(0<=w.addr/\w.addr<n)/\w.bytes.length<=200) (hn:W.length+l.length<=2000):∀ k:Nat,k<=l.length->(d.writes (l.take k)).2.1=k/\(d.writes (l.take k)).2.2=false/\Gw n (d.writes (l.take k)).1 F (W ++ l.take k)
 | 0,_=>⟨rfl,rfl,by rw [List.take_zero,List.append_nil];exact h⟩
 | k+1,hk=>by
  obtain⟨q1,q2,q3⟩:=Gw.puts h hl hn k (by omega)
  have hx:=Ie (d:=d) (l:=l) (k:=k) (by omega) q2
  have hm:=hl _ (Ay (d:=(⟨0, []⟩:Wr)) (show k<l.length by omega))
  obtain⟨e0,hw⟩:=q3.write (by rw [List.length_append,Al];omega) hm.1.1 hm.1.2 hm.2
  rw [hx,e0]
  refine⟨by simp only [q1];rfl,rfl,?_⟩
  have e:l.take (k+1)=l.take k ++ [l.getD k ⟨0, []⟩]:=by
   rw [AQ,List.getElem?_eq_getElem (by omega),List.getD_eq_getElem?_getD,List.getElem?_eq_getElem (by omega)]
   rfl
  rw [e,<-As]
  exact hw
theorem Gd.putAll {n:Int} {d:Dk} {F:Int->List UInt8} {l:List Wr} (h:Gd n d F) (hl:∀ w∈l,(0<=w.addr/\w.addr<n)/\w.bytes.length<=200) (hn:l.length<=2000):(d.writes l).2.1=l.length/\(d.putAll l).2.1=l.length/\(d.putAll l).2.2=false/\Gd n (d.putAll l).1 (JP F l):=by
 obtain⟨q1,q2,q3⟩:=Gw.puts h hl (by simpa using hn) l.length (Nat.le_refl _)
 rw [List.take_length] at q1 q2 q3
 have e:=CV q2
 rw [if_neg (by rw [q3.left];decide)] at e
 rw [e]
 exact⟨q1,q1,rfl,by simpa using q3.flush⟩
theorem EI {g:Geo} {a:An} (hg:A_ g=true) (ha:AN g a=true):∀ w∈Av g a,(0<=w.addr/\w.addr<Aq g)/\w.bytes.length<=200:=fun w hw=>by
 obtain⟨g1,g2,g3,g4,g5⟩:=Ak.1 hg
 have hcb:=Dt hg
 obtain⟨i,hi,rfl⟩:=Gp hw
 exact⟨⟨by show 0<=((i:Nat):Int);omega,by show ((i:Nat):Int)<Aq g;omega⟩,IF hg ha _⟩
theorem RV (g:Geo) (s:Stt) (d:Dk) (a:An) (F:Int->List UInt8) (hg:A_ g=true) (ha:AN g a=true) (h:Gd (Aq g) d F) :
  ACalls Tryz.prog false 80 [.bp 0 0, .ag (Dx a)] (In g s 0 d) fun r H=>r = .v (.int .i64 (g.an.toNat:Nat))/\∃ d',Gd (Aq g) d' (JP F (Av g a))/\H=LM g s 0 d':=by
 have hin:=EI hg ha
 have hlen:=h.len
 have hr:=J6 g s d a hg ha h.ok fun w hw=>⟨by have:=(hin w hw).1;omega,(hin w hw).2⟩
 obtain⟨q1,q2,q3,q4⟩:=h.putAll hin (by rw [Cj];have:=(Ak.1 hg).2.2.2.2;omega)
 rw [q1,q3,Cj] at hr
 exact hr.mono fun r H ⟨e1,e2⟩=>⟨e1,_,q4,e2⟩
@[reducible] def rwZ (g:Geo) (s:Stt) (d:Dk):List AB:= [.box 95 (WA g (.bp 1 0) s 0), .box 92 (G3 (.ow 2 d.cells.length) (.ow 6 d.cache.length) d.reqs d.left), .row 84 3 (d.cells.map Bi), .dead, .dead, .dead, .row 131 2 (d.cache.map D3)]
theorem EP {k:Nat} {m:Nat} {x:AV} {n:Nat} (h:n=m):AV.slIn k m x (.ow k n)=x:=by
 subst h
 simp [AV.slIn]
theorem QC {k j:Nat} {m n:Nat} {x:AV} (h:(j == k)=false):AV.slIn k m x (.ow j n) = .ow j n:=by
 have:j≠k:=by simpa using h
 simp [AV.slIn,this]
theorem RU (g:Geo) (s:Stt) (d:Dk) (F:Int->List UInt8) (hg:A_ g=true) (ha:AN g s.a=true) (h:Gd (Aq g) d F) :
  ACalls Tryz.prog false 80 [.bp 0 0, .ag (Ly s.a (.ow 4 s.a.homes.length))] (Ec g s 0 d) fun r H=>r = .v (.int .i64 (g.an.toNat:Nat))/\∃ d',Gd (Aq g) d' (JP F (Av g s.a))/\H=rwZ g s d':=by
 have hr:=RV g s d s.a F hg ha h
 obtain⟨T,hT⟩:∃ T:AV,T = .sl 4 (s.txns.map CI).length fun i=>(s.txns.map CI).getD i []:=⟨_,rfl⟩
 obtain⟨M,hM⟩:∃ M:AV,M = .sl 3 (s.a.homes.map CH).length fun i=>(s.a.homes.map CH).getD i []:=⟨_,rfl⟩
 have t1:∀ (c:Ctx) (v:Value),Rd T c v->Rd (CW s.txns) c v:=by rw [hT];exact AH (f:=CI) s.txns (Aa _) rfl
 have m1:∀ (c:Ctx) (v:Value),Rd M c v->Rd (Hq s.a.homes) c v:=by rw [hM];exact AH (f:=CH) s.a.homes (Aa _) rfl
 refine ACalls.pre (ConvH.sealBox (H:=Ec g s 0 d) 0 5 (cs2:=W6 g (.bp 1 0) (.ow 4 s.a.homes.length) T s 0) rfl rfl ?_) ?_
 ·rw [<-hT]
  simp only [W6,Ap,AT,EP (Aa _).symm]
  rfl
 refine ACalls.lendBox2 (cs2:=W6 g (.bp 1 0) M T s 0) (ar2:=Ly s.a M) 0 4 rfl rfl ?_ ?_ ?_
 ·rw [<-hM]
  subst hT
  simp only [W6,Ap,AT,EP (Aa _).symm]
  rfl
 ·rw [<-hM]
  simp only [Ly,Ap,AT,EP (Aa _).symm]
  rfl
 refine ACalls.pre (ConvH.subBox (cs':=WA g (.bp 1 0) s 0) 0 rfl ⟨ri,ri,ri,ri,ri,ri,ri,ri,ri,ri,ri,ri,m1,t1,ri,ri,ri,ri,ri,ri,ri,trivial⟩) ?_
 refine ACalls.sub [.bp 0 0, .ag (Dx s.a)] ⟨ri,AG ⟨ri,ri,ri,ri,ri,ri,m1,trivial⟩,trivial⟩ ?_
 refine ACalls.frame [0,1,2,3] hr rfl rfl rfl rfl (by decide) (EL rfl) ⟨rfl,rfl,rfl,rfl,trivial⟩ ?_
 rintro _ _ ⟨rfl,d',hd',rfl⟩
 exact⟨rfl,d',hd',rfl⟩
theorem Fh {g:Geo} {a:An} {seq:Int}:∀ (l m:List Img),Bt g a seq (l ++ m)=Bt g a seq l ++ Bt g a seq m
 | [],m=>rfl
 | x::l,m=>by
  show BH g a seq x ++ Bt g a seq (l ++ m)=(BH g a seq x ++ Bt g a seq l) ++ Bt g a seq m
  rw [Fh l m,As]
theorem FJ {g:Geo} {a:An} {seq:Int}:∀ (l:List Img),(Bt g a seq l).length<=2*l.length
 | []=>Nat.le_refl _
 | x::l=>by
  have:=FJ (g:=g) (a:=a) (seq:=seq) l
  have h2:(BH g a seq x).length<=2:=by unfold BH;split <;> simp
  show (BH g a seq x ++ Bt g a seq l).length<=2*(x::l).length
  rw [List.length_append,Ag]
  omega
theorem Jy (a:An) (seq:Int) (l:List Img) (x:Img):Bp a seq (l ++ [x])=BF (Bp a seq l) seq x:=by
 unfold Bp
 rw [List.foldl_append]
 rfl
theorem X0 {m:Nat} (h:Nat.ble 7 m=true):∀ z∈ [0,1,2,6,4,5],z<m:=fun z hz=>by
 have:=Ac h
 simp at hz
 omega
theorem NG (x:Tx) (r:List Tx) (c:Ctx) (v:Value) (h:Rd (.sl 4 ((((x::r).length:Nat):Int).toNat - Int.toNat 1) fun i=>CI ((x::r).getD (i+Int.toNat 1) ⟨0,0,0, []⟩)) c v):Rd (CW r) c v:=
 Rd.congr (by simp) (fun i _=>by show CI ((x::r).getD (i+1) _)=_;simp) h
def hmT:List AV:= [.top, .top, .top]
def txT:List AV:= [.top, .top, .top, .top]
theorem Rt (s:Stt):∀ (r:AV) (R:List AB),(r = .ag (stX s (.ow 0 s.a.homes.length) (.ow 1 s.txns.length))/\R=[.row 53 3 (s.a.homes.map CH), .row 45 4 (s.txns.map CI)])->ConvH R [.row 53 3 (List.replicate s.a.homes.length hmT), .row 45 4 (List.replicate s.txns.length txT)]:=by
 rintro _ _ ⟨-,rfl⟩
 refine ConvH.trans (ConvH.subRow (k:=0) (es':=List.replicate s.a.homes.length hmT) rfl (by simp) fun i=>?_) (ConvH.subRow (k:=1) (es':=List.replicate s.txns.length txT) rfl (by simp) fun i=>?_)
 ·by_cases hi:i<s.a.homes.length
  ·have e1:(s.a.homes.map CH).getD i []=CH (s.a.homes.getD i ⟨[],0,0⟩):=AR hi
   have e2:(List.replicate s.a.homes.length hmT).getD i []=hmT:=by simp [hi]
   rw [e1,e2]
   exact SubL.tops (CH _)
  ·rw [List.getD_eq_getElem?_getD,List.getElem?_eq_none (by simpa using hi),List.getD_eq_getElem?_getD,List.getElem?_eq_none (by simpa using hi)]
   trivial
 ·by_cases hi:i<s.txns.length
  ·have e1:(s.txns.map CI).getD i []=CI (s.txns.getD i ⟨0,0,0, []⟩):=AR hi
   have e2:(List.replicate s.txns.length txT).getD i []=txT:=by simp [hi]
   rw [e1,e2]
   exact SubL.tops (CI _)
  ·rw [List.getD_eq_getElem?_getD,List.getElem?_eq_none (by simpa using hi),List.getD_eq_getElem?_getD,List.getElem?_eq_none (by simpa using hi)]
   trivial
theorem PC (g:Geo) (a:An) (d:Dk) :
  ACalls Tryz.prog false 32 [.bp 0 0] (Ec g (AP a []) 0 d) fun r H=>r = .tp [.v (.int .i64 0), .v (.int .i64 0)]/\H=Ec g (AP a []) 0 d:=by
 refine ACalls.ofR tys_ok Tryz.func32 rfl rfl (Ac rfl) ?_
 exact⟨.tp [ze 0,ze 0], .tp [ze 0,ze 0],Ec g (AP a []) 0 d,fun _ _ h=>h,WkN.r (s:= [0,1,2,3,4,5]) ⟨⟨rfl,trivial⟩,⟨rfl,rfl,rfl,rfl,rfl,rfl,trivial⟩,rfl,rfl,rfl,rfl,rfl⟩,rfl,rfl⟩
theorem RR (g:Geo) (a:An) (x:Tx) (r:List Tx) (d:Dk) (F:Int->List UInt8) (K:Int) (hg:A_ g=true) (hv:Vol g K d (AP a (x::r))) (hK:K<=4294967294) (h:Gd (Aq g) d F) :
  ACalls Tryz.prog false 32 [.bp 0 0] (Ec g (AP a (x::r)) 0 d) fun v H=>v = .tp [.v (.int .i64 (x.images.length:Nat)), .v (.int .i64 0)]/\∃ d',Gd (Aq g) d' (Gs g a x F)/\H=rwZ g (AP (Bg g a x) r) d':=by
 obtain⟨g1,g2,g3,g4,g5⟩:=Ak.1 hg
 have hsm:=hv.sm hg
 have ha:AN g a=true:=hv.an
 have hring:BP g (x::r) a.seq a.pos g.sl=true:=hv.ring
 obtain⟨a1,a2,a3,a4⟩:=DB ha
 have hseq:a.seq+(x::r).length<=K:=hv.seq
 have hgen:a.gen<=K:=hv.gen
 obtain⟨p1,p2,p3,p4⟩:=Do hring x (by simp)
 have hr0:=hring
 simp only [BP,Bool.and_eq_true,decide_eq_true_eq] at hr0
 obtain⟨⟨r1,r2,r3,r4,r5,r6,r7⟩,r8⟩:=hr0
 have htw:=(Hu (AP a (x::r)) hsm).fnO fun q R hq y hy=>by
  rw [hq.2] at hy
  simp only [A9,List.not_mem_nil,or_false] at hy
  rcases hy with rfl | rfl
  ·exact⟨_,_,_,rfl⟩
  ·exact⟨_,_,_,rfl⟩
 have htt:=Rt (AP a (x::r))
 have ssub:SubL [.ag (stX (AP a (x::r)) (.sl 3 a.homes.length fun i=>(a.homes.map CH).getD i []) (.sl 4 (x::r).length fun i=>((x::r).map CI).getD i []))] [.ag (EB (AP a (x::r)))]:=⟨AG ⟨ri,ri,ri,ri,ri,ri,AH (f:=CH) a.homes rfl rfl,AH (f:=CI) (x::r) rfl rfl,ri,ri,ri,ri,ri,ri,trivial⟩,trivial⟩
 have e0:(((x::r).length:Int) == 0)=false:=by rw [beq_eq_false_iff_ne,Ag];omega
 refine ACalls.ofR tys_ok Tryz.func32 rfl rfl (Ac rfl) ?_
 conv=>whnf
 rw [show (((AP a (x::r)).txns.length:Int) == 0)=false from e0]
 conv=>whnf
 rw [show decide ((AP a (x::r)).a.gen>=4294967295)=false from decide_eq_false (by show ¬a.gen>=4294967295;omega)]
 conv=>whnf
 rw [show decide ((AP a (x::r)).a.seq>=4294967295)=false from decide_eq_false (by show ¬a.seq>=4294967295;rw [Ag] at hseq;omega)]
 conv=>whnf
 refine FnO.lendC (htw.subA ssub) ⟨(Aa _).symm,(Aa _).symm,rfl⟩ ?_
 intro q R hq
 refine⟨_,htt q R hq,?_,?_⟩
 ·rw [hq.1]
  exact⟨rfl,by rw [flatS,flatS,flatS,Mu _ _ rfl,Mu _ _ rfl];rfl⟩
 rw [hq.1]
 conv=>whnf
 refine And.intro ⟨by omega,by show (0:Int)<((x::r).length:Nat);rw [Ag];omega⟩ ?_
 conv=>whnf
 refine And.intro ⟨rfl,(Aa _).symm,by show 0<(x::r).length;rw [Ag];omega⟩ ?_
 conv=>whnf
 have hx30:x.images.length<=30:=by omega
 have hxi:∀ i:Nat,i<x.images.length->Bl g (x.images.getD i ⟨0,0, []⟩)=true:=fun i hi=>Ao.1 p1 _ (Ay (d:=⟨0,0, []⟩) hi)
 refine aLoop.ruleRR (Nat × Dk) (fun y=>([(0, .bp 0 0),(4, .bp 8 0),(5, .bp 9 0),(6, .v (.bool true)),(7,ze 0),(8,ze (y.1:Nat))],Ec g (AP (Bp a x.seq (x.images.take y.1)) (x::r)) 0 y.2 ++ ([.row 53 3 (List.replicate a.homes.length hmT), .row 45 4 (List.replicate (x::r).length txT), .box 34 (stX (AP a (x::r)) (.ow 6 a.homes.length) (.ow 7 (x::r).length)), .box 45 (CI x)]:List AB))) (fun y=>y.1<=x.images.length/\Gw (Aq g) y.2 F (Bt g a x.seq (x.images.take y.1))) (fun y=>x.images.length - y.1) (0,d) ⟨Ad _,h⟩
  (WkN.r (s:= [0,1,2,3,4,5,6,7,8,9]) ⟨⟨rfl,rfl,rfl,rfl,rfl,rfl,trivial⟩,⟨rfl,rfl,rfl,rfl,rfl,rfl,rfl,rfl,rfl,rfl,trivial⟩,rfl,rfl,rfl,rfl,rfl⟩) ?_
 rintro⟨i,d1⟩ ⟨hi,hd1⟩
 simp only at hi hd1
 have hAok:=FQ (g:=g) (seq:=x.seq) (by omega) (x.images.take i) ha
 have hAl:=G6 x.seq (x.images.take i) a
 have hAs:=EN x.seq (x.images.take i) a
 obtain⟨A,hA⟩:∃ A,A=Bp a x.seq (x.images.take i):=⟨_,rfl⟩
 rw [<-hA] at hAok hAl hAs |-
 by_cases hin:i<x.images.length
 ·obtain⟨y,hy⟩:∃ y,y=x.images.getD i ⟨0,0, []⟩:=⟨_,rfl⟩
  have hyk:=hxi i hin
  rw [<-hy] at hyk
  obtain⟨hz,hyw⟩:=Cg hyk
  have hyl:=Eu hg hyk
  have htk:x.images.take (i+1)=x.images.take i ++ [y]:=by
   rw [AQ,List.getElem?_eq_getElem hin,hy,List.getD_eq_getElem?_getD,List.getElem?_eq_getElem hin]
   rfl
  have hup:Bp a x.seq (x.images.take (i+1))=BF A x.seq y:=by rw [htk,Jy,<-hA]
  have hwl:(Bt g a x.seq (x.images.take i)).length<=2*i:=AS (FJ _) (by rw [Al];omega)
  have hzl:y.zone.toNat<a.homes.length:=by omega
  have had:∀ w,B3 g A y.zone w=B3 g a y.zone w:=fun w=>by rw [hA];exact GV _ hzl
  conv=>whnf
  rw [show decide ((i:Int)<(x.images.length:Nat))=true from decide_eq_true (by omega)]
  conv=>whnf
  repeat' (first | (refine aSeq.go ?_;conv=>whnf) | fail)
  refine⟨⟨by omega,by omega⟩,?_⟩
  conv=>whnf
  repeat' (first | (refine aSeq.go ?_;conv=>whnf) | fail)
  rw [Ab,<-hy]
  by_cases h255:y.what=255
  ·rw [show (y.what != 255)=false by rw [h255];rfl]
   conv=>whnf
   repeat' (first | (refine aSeq.go ?_;conv=>whnf) | fail)
   have ht0:=EU g y.zone 0 hg hz (by decide)
   have ht1:=EU g y.zone 1 hg hz (by decide)
   obtain⟨u1,u2⟩:=EZ hg hz (k:=0) (by decide)
   obtain⟨u3,u4⟩:=EZ hg hz (k:=1) (by decide)
   have hcb:=D_ hg
   have hc0:=Ek (AD g y.zone 0) x.seq y.bytes ⟨by omega,by omega,by omega,by omega,by omega⟩
   have hc1:=Ek (AD g y.zone 1) x.seq y.bytes ⟨by omega,by omega,by omega,by omega,by omega⟩
   have hw0:=Xq g (AP A (x::r)) (Aq g) d1 F _ (AD g y.zone 0) (AM (AD g y.zone 0) x.seq y.bytes) hd1 (by omega) (by omega) (Dj (by omega))
   refine aLoop.rounds 3 ?_
   conv=>whnf
   repeat' (first | (refine aSeq.go ?_;conv=>whnf) | fail)
   apply aDraw.tree tys_ok mixed (.one 0 (.one 1 (.one 2 (.one 3 (.one 4 (.one 5 (.one 6 (.one 7 (.one 8 .fin))))))))) [13,128,129,130,131,132,133,134,135] (by kernel_rfl)
   ·conv=>whnf
    refine Fn.cl ht0 ?_
    exact⟨rfl,rfl⟩
   conv=>whnf
   conv=>whnf
   refine Fn.cl hc0 ?_
   conv=>whnf
   refine ACalls.frame [0,1,2,3,4,5] hw0 rfl rfl rfl rfl (by decide) (EE rfl) ⟨rfl,rfl,rfl,rfl,rfl,rfl,trivial⟩ ?_
   rintro _ _ ⟨rfl,d2,hd2,rfl⟩
   have hw1:=Xq g (AP A (x::r)) (Aq g) d2 F _ (AD g y.zone 1) (AM (AD g y.zone 1) x.seq y.bytes) hd2 (by rw [List.length_append];show _+1<2000;omega) (by omega) (Dj (by omega))
   conv=>whnf
   repeat' (first | (refine aSeq.go ?_;conv=>whnf) | fail)
   apply aDraw.tree tys_ok mixed (.one 0 (.one 1 (.one 2 (.one 3 (.one 4 (.one 5 (.one 6 (.one 7 (.one 8 .fin))))))))) [13,128,129,130,131,132,133,134,135] (by kernel_rfl)
   ·conv=>whnf
    refine Fn.cl ht1 ?_
    exact⟨rfl,rfl⟩
   conv=>whnf
   conv=>whnf
   refine Fn.cl hc1 ?_
   conv=>whnf
   refine ACalls.frame [0,1,2,3,4,5] hw1 rfl rfl rfl rfl (by decide) (EE rfl) ⟨rfl,rfl,rfl,rfl,rfl,rfl,trivial⟩ ?_
   rintro _ _ ⟨rfl,d3,hd3,rfl⟩
   conv=>whnf
   repeat' (first | (refine aSeq.go ?_;conv=>whnf) | fail)
   apply aDraw.treeK (0) tys_ok mixed (.one 0 (.one 1 (.one 2 (.one 3 (.one 4 (.one 5 (.one 6 (.one 7 (.one 8 (.one 9 (.one 10 (.one 11 (.one 12 .fin))))))))))))) (by kernel_rfl)
   conv=>whnf
   try (refine And.intro (by first | omega | (simp;done)) ?_;conv=>whnf)
   try (refine And.intro ⟨rfl,by first | rfl | (simp;done) | (simp;omega),by first | omega | (simp;omega)⟩ ?_;conv=>whnf)
   have hzA:y.zone.toNat<A.homes.length:=by omega
   refine And.intro ⟨by omega,by show y.zone<(A.homes.length:Nat);omega⟩ ?_
   refine⟨⟨rfl,(Aa _).symm,hzA⟩,?_⟩
   conv=>whnf
   rw [show ((AP A (x::r)).a.homes.map CH).getD y.zone.toNat []=CH (A.homes.getD y.zone.toNat ⟨[],0,0⟩) from AR hzA]
   conv=>whnf
   refine⟨(i+1,d3),⟨by show i+1<=x.images.length;omega,?_⟩,by show x.images.length - (i+1)<x.images.length - i;omega,?_⟩
   ·show Gw (Aq g) d3 F (Bt g a x.seq (x.images.take (i+1)))
    rw [htk,Fh]
    show Gw (Aq g) d3 F (_ ++ (BH g a x.seq y ++ []))
    rw [BH,if_pos h255,List.append_nil]
    simpa using hd3
   ·show WkR _ _ _ _ (Ec g (AP (Bp a x.seq (x.images.take (i+1))) (x::r)) 0 d3 ++ _)
    rw [hup,show BF A x.seq y={ A with homes:=A.homes.set y.zone.toNat { A.homes.getD y.zone.toNat ⟨[],0,0⟩ with root:=x.seq } } from if_pos h255]
    have hl2:(AP { A with homes:=A.homes.set y.zone.toNat { A.homes.getD y.zone.toNat ⟨[],0,0⟩ with root:=x.seq } } (x::r)).a.homes.length=A.homes.length:=AO
    exact WkN.r (s:= [0,1,2,3,4,5,6,7,8,9]) ⟨⟨rfl,rfl,rfl,rfl,rfl,A7 (by omega),trivial⟩,⟨by rw [hl2];rfl,rfl,rfl,rfl,congrArg (fun es=>some (AB.row 53 3 es)) (BX (f:=CH) (l:=A.homes) (i:=y.zone.toNat) (a:={ A.homes.getD y.zone.toNat ⟨[],0,0⟩ with root:=x.seq })).symm,rfl,rfl,rfl,rfl,rfl,trivial⟩,rfl,rfl,rfl,rfl,rfl⟩
  ·rw [show (y.what != 255)=true from bne_iff_ne.2 h255]
   obtain⟨w1,w2,w3⟩:=hyw h255
   have hadr:=K6 g A y.zone y.what hg hAok hz ⟨w1,w2⟩
   have hho:=TG g (AP A (x::r)) d1 F _ y.zone y.what x.seq y.bytes hg hAok hz ⟨w1,w2⟩ hd1 (by omega) (by omega) (by omega)
   have asub:SubL [.ag (AF g), .ag (Ly A (.sl 3 A.homes.length fun i=>(A.homes.map CH).getD i [])), .v (.int .i64 y.zone), .v (.int .i64 y.what)] [.ag (AF g), .ag (Dx A), .v (.int .i64 y.zone), .v (.int .i64 y.what)]:=⟨ri,AG ⟨ri,ri,ri,ri,ri,ri,AH (f:=CH) A.homes rfl rfl,trivial⟩,ri,ri,trivial⟩
   conv=>whnf
   repeat' (first | (refine aSeq.go ?_;conv=>whnf) | fail)
   apply aDraw.tree tys_ok mixed (.one 0 (.one 1 (.one 2 (.one 3 (.one 4 (.one 5 (.one 6 (.one 7 (.one 8 (.one 9 (.one 10 (.one 11 (.one 12 (.one 13 (.one 14 .fin))))))))))))))) [10,79,80,81,82,83,84,85,86,87,88,89,90,91,92] (by kernel_rfl)
   ·conv=>whnf
    (refine Fn.lend (args':= [.ag (AF g), .ag (Ly A (.sl 3 A.homes.length fun i=>(A.homes.map CH).getD i [])), .v (.int .i64 y.zone), .v (.int .i64 y.what)]) (hadr.subA asub) ⟨(Aa _).symm,rfl⟩ ?_;rintro _ rfl;refine⟨rfl,?_⟩)
    exact⟨rfl,rfl⟩
   conv=>whnf
   conv=>whnf
   refine ACalls.frame [0,1,2,3,4,5] hho rfl rfl rfl rfl (by decide) (EE rfl) ⟨rfl,rfl,rfl,rfl,rfl,rfl,trivial⟩ ?_
   rintro _ _ ⟨rfl,d2,hd2,rfl⟩
   conv=>whnf
   repeat' (first | (refine aSeq.go ?_;conv=>whnf) | fail)
   apply aDraw.tree tys_ok mixed (.one 0 (.one 1 (.one 2 (.one 3 (.one 4 (.one 5 (.one 6 (.one 7 (.one 8 (.one 9 (.one 10 (.one 11 (.one 12 (.one 13 (.one 14 (.one 16 (.one 15 (.one 17 (.one 18 .fin))))))))))))))))))) [103,104,105,106,107,108,109,110,111,112,113,114,115,116,117,118,119,120,121] (by kernel_rfl)
   ·conv=>whnf
    (refine Fn.lend (args':= [.ag (AF g), .ag (Ly A (.sl 3 A.homes.length fun i=>(A.homes.map CH).getD i [])), .v (.int .i64 y.zone), .v (.int .i64 y.what)]) (hadr.subA asub) ⟨(Aa _).symm,rfl⟩ ?_;rintro _ rfl;refine⟨rfl,?_⟩)
    exact⟨rfl,rfl⟩
   conv=>whnf
   conv=>whnf
   rw [show (B3 g A y.zone y.what != B3 g A y.zone y.what)=false by simp]
   conv=>whnf
   refine⟨(i+1,d2),⟨by show i+1<=x.images.length;omega,?_⟩,by show x.images.length - (i+1)<x.images.length - i;omega,?_⟩
   ·show Gw (Aq g) d2 F (Bt g a x.seq (x.images.take (i+1)))
    rw [htk,Fh]
    show Gw (Aq g) d2 F (_ ++ (BH g a x.seq y ++ []))
    rw [BH,if_neg h255,List.append_nil,<-had]
    exact hd2
   ·show WkR _ _ _ _ (Ec g (AP (Bp a x.seq (x.images.take (i+1))) (x::r)) 0 d2 ++ _)
    rw [hup,show BF A x.seq y=A from if_neg h255]
    exact WkN.r (s:= [0,1,2,3,4,5,6,7,8,9]) ⟨⟨rfl,rfl,rfl,rfl,rfl,A7 (by omega),trivial⟩,⟨rfl,rfl,rfl,rfl,rfl,rfl,rfl,rfl,rfl,rfl,trivial⟩,rfl,rfl,rfl,rfl,rfl⟩
 ·have ei:i=x.images.length:=by omega
  rw [ei,List.take_length] at hd1 hA
  have hfl:=Ym g (AP A (x::r)) (Aq g) d1 F _ hd1
  conv=>whnf
  rw [show decide ((i:Int)<(x.images.length:Nat))=false from decide_eq_false (by omega)]
  conv=>whnf
  refine aSeq.cutR Dk (fun d2=>([(0, .bp 0 0),(5, .bp 7 0),(6, .v (.bool true)),(7,ze 0)],rwP g (AP A (x::r)) 0 d2 ++ ([.box 45 (CI x)]:List AB))) (fun d2=>Gd (Aq g) d2 (JP F (Bt g a x.seq x.images))) ?_ ?_
  ·conv=>whnf
   refine ACalls.frame [0,1,2,3,4,5] hfl rfl rfl rfl rfl (by decide) (EE rfl) ⟨rfl,rfl,rfl,rfl,rfl,rfl,trivial⟩ ?_
   rintro _ _ ⟨rfl,d2,hd2,rfl⟩
   exact⟨d2,hd2,WkN.r (s:= [0,1,2,3,4,5,10,9]) ⟨⟨rfl,rfl,rfl,rfl,trivial⟩,⟨rfl,rfl,rfl,trivial,rfl,rfl,rfl,rfl,trivial⟩,rfl,rfl,rfl,rfl,rfl⟩⟩
  intro d2 hd2
  clear hi hin hd1 hfl
  conv=>whnf
  refine aSeq.cutR Dk (fun d3=>([(0, .bp 0 0),(5, .bp 7 0),(6, .v (.bool true)),(7,ze 0)],rwZ g (AP (Bg g a x) (x::r)) d3 ++ ([.box 45 (CI x)]:List AB))) (fun d3=>Gd (Aq g) d3 (Gs g a x F)) ?_ ?_
  ·conv=>whnf
   apply aDraw.dag (67239936) tys_ok mixed [([],43,(.one 0 (.one 1 (.one 2 (.one 3 (.one 4 (.one 5 (.one 6 (.one 7 (.one 8 (.one 9 (.one 10 (.one 11 (.one 12 (.one 13 (.one 14 (.one 15 (.one 16 (.one 19 (.one 20 (.one 21 (.one 22 (.one 23 (.one 25 (.one 28 (.one 29 (.one 30 (.one 31 (.alt 17 (.one 18 (.one 24 (.alt 26 (.one 27 (.one 32 (.one 33 (.one 34 (.one 35 (.one 36 (.one 37 (.one 38 (.one 39 (.one 40 (.one 41 (.one 42 .fin)))))))))))) (.alt 32 (.one 33 (.one 34 (.one 35 (.one 36 (.alt 26 (.jump 1) (.alt 37 (.jump 2) .non)))))) .non)))) (.alt 26 (.one 27 (.alt 17 (.one 18 (.one 24 (.one 32 (.one 33 (.one 34 (.one 35 (.one 36 (.one 37 (.one 38 (.one 39 (.one 40 (.one 41 (.one 42 .fin))))))))))))) (.alt 32 (.one 17 (.one 18 (.one 24 (.one 33 (.one 34 (.one 35 (.one 36 (.one 37 (.one 38 (.one 39 (.one 40 (.one 41 (.one 42 .fin))))))))))))) .non))) (.alt 32 (.alt 17 (.one 18 (.one 24 (.one 33 (.one 34 (.one 35 (.one 36 (.alt 26 (.jump 1) (.alt 37 (.jump 2) .non)))))))) (.alt 26 (.one 27 (.one 17 (.one 18 (.one 24 (.one 33 (.one 34 (.one 35 (.one 36 (.one 37 (.one 38 (.one 39 (.one 40 (.one 41 (.one 42 .fin)))))))))))))) .non)) .non))))))))))))))))))))))))))))))),([0,1,2,3,4,5,6,7,8,9,10,11,12,13,14,15,16,17,18,19,20,21,22,23,24,25,26,28,29,30,31,32,33,34,35,36],7,(.one 27 (.one 37 (.one 38 (.one 39 (.one 40 (.one 41 (.one 42 .fin)))))))),([0,1,2,3,4,5,6,7,8,9,10,11,12,13,14,15,16,17,18,19,20,21,22,23,24,25,28,29,30,31,32,33,34,35,36,37],7,(.one 26 (.one 27 (.one 38 (.one 39 (.one 40 (.one 41 (.one 42 .fin))))))))] [172,173,174,175,176,177,178,179,180,181,182,183,184,185,186,187,188,189,190,191,192,193,194,195,196,197,198,199,200,201,202,203,204,205,206,207,208,209,210,211] [(_,_),(_,_)] (by kernel_rfl)
   ·refine And.intro ?_ ?_
    ·refine And.intro ?_ (And.intro ?_ (And.intro ?_ (trivial)))
     ·conv=>whnf
      try (refine And.intro (by first | omega | (simp;done)) ?_;conv=>whnf)
      refine And.intro ?_ (And.intro ?_ (trivial))
      ·conv=>whnf
       try (refine And.intro ⟨rfl,by first | rfl | (simp;done) | (simp;omega),by first | omega | (simp;omega)⟩ ?_;conv=>whnf)
       try (refine And.intro ⟨rfl,by first | rfl | (simp;done) | (simp;omega),by first | omega | (simp;omega)⟩ ?_;conv=>whnf)
       try (refine And.intro ⟨rfl,by first | rfl | (simp;done) | (simp;omega),by first | omega | (simp;omega)⟩ ?_;conv=>whnf)
       exact⟨rfl,rfl⟩
      ·conv=>whnf
       try (refine And.intro ⟨rfl,by first | rfl | (simp;done) | (simp;omega),by first | omega | (simp;omega)⟩ ?_;conv=>whnf)
       refine And.intro ?_ (And.intro ?_ (trivial))
       ·exact⟨rfl,rfl⟩
       ·conv=>whnf
        try (refine And.intro ⟨rfl,by first | rfl | (simp;done) | (simp;omega),by first | omega | (simp;omega)⟩ ?_;conv=>whnf)
        exact⟨rfl,rfl⟩
     ·refine And.intro ?_ (And.intro ?_ (trivial))
      ·conv=>whnf
       try (refine And.intro (by first | omega | (simp;done)) ?_;conv=>whnf)
       try (refine And.intro ⟨rfl,by first | rfl | (simp;done) | (simp;omega),by first | omega | (simp;omega)⟩ ?_;conv=>whnf)
       try (refine And.intro ⟨rfl,by first | rfl | (simp;done) | (simp;omega),by first | omega | (simp;omega)⟩ ?_;conv=>whnf)
       try (refine And.intro ⟨rfl,by first | rfl | (simp;done) | (simp;omega),by first | omega | (simp;omega)⟩ ?_;conv=>whnf)
       exact⟨rfl,rfl⟩
      ·conv=>whnf
       try (refine And.intro ⟨rfl,by first | rfl | (simp;done) | (simp;omega),by first | omega | (simp;omega)⟩ ?_;conv=>whnf)
       try (refine And.intro (by first | omega | (simp;done)) ?_;conv=>whnf)
       try (refine And.intro ⟨rfl,by first | rfl | (simp;done) | (simp;omega),by first | omega | (simp;omega)⟩ ?_;conv=>whnf)
       try (refine And.intro ⟨rfl,by first | rfl | (simp;done) | (simp;omega),by first | omega | (simp;omega)⟩ ?_;conv=>whnf)
       exact⟨rfl,rfl⟩
     ·conv=>whnf
      try (refine And.intro ⟨rfl,by first | rfl | (simp;done) | (simp;omega),by first | omega | (simp;omega)⟩ ?_;conv=>whnf)
      refine And.intro ?_ (And.intro ?_ (trivial))
      ·conv=>whnf
       try (refine And.intro (by first | omega | (simp;done)) ?_;conv=>whnf)
       refine And.intro ?_ (And.intro ?_ (trivial))
       ·exact⟨rfl,rfl⟩
       ·conv=>whnf
        try (refine And.intro ⟨rfl,by first | rfl | (simp;done) | (simp;omega),by first | omega | (simp;omega)⟩ ?_;conv=>whnf)
        exact⟨rfl,rfl⟩
      ·conv=>whnf
       try (refine And.intro (by first | omega | (simp;done)) ?_;conv=>whnf)
       try (refine And.intro ⟨rfl,by first | rfl | (simp;done) | (simp;omega),by first | omega | (simp;omega)⟩ ?_;conv=>whnf)
       try (refine And.intro ⟨rfl,by first | rfl | (simp;done) | (simp;omega),by first | omega | (simp;omega)⟩ ?_;conv=>whnf)
       exact⟨rfl,rfl⟩
    refine And.intro ?_ ?_
    ·conv=>whnf
     try (refine And.intro ⟨rfl,by first | rfl | (simp;done) | (simp;omega),by first | omega | (simp;omega)⟩ ?_;conv=>whnf)
     try (refine And.intro ⟨rfl,by first | rfl | (simp;done) | (simp;omega),by first | omega | (simp;omega)⟩ ?_;conv=>whnf)
     exact⟨rfl,rfl⟩
    refine And.intro ?_ ?_
    ·conv=>whnf
     try (refine And.intro ⟨rfl,by first | rfl | (simp;done) | (simp;omega),by first | omega | (simp;omega)⟩ ?_;conv=>whnf)
     exact⟨rfl,rfl⟩
    conv=>whnf
    exact trivial
   conv=>whnf
   conv=>whnf
   apply aDraw.treeM (0) tys_ok mixed (.one 0 (.one 1 (.one 2 (.one 3 (.one 4 (.one 5 (.one 6 (.one 7 (.one 8 (.one 9 (.one 10 (.one 11 (.one 12 (.one 13 (.one 14 .fin))))))))))))))) [212,213,214,215,216,217,218,219,220,221,222,223,224,225] (by kernel_rfl)
   ·conv=>whnf
    try (refine And.intro ⟨rfl,by first | rfl | (simp;done) | (simp;omega),by first | omega | (simp;omega)⟩ ?_;conv=>whnf)
    exact⟨rfl,rfl⟩
   conv=>whnf
   conv=>whnf
   have hsx:x.seq=a.seq:=r1
   have hpx:x.pos=a.pos:=r3
   have E1:IntKind.i64.wrap ((AP A (x::r)).a.gen+1)=(Bg g a x).gen:=by
    show IntKind.i64.wrap (A.gen+1)=a.gen+1
    rw [hAs.1]
    exact wi (by omega)
   have E2:(IntKind.i64.wrap ((AP A (x::r)).a.pos+x.n)).tmod g.sl=(Bg g a x).pos:=by
    show (IntKind.i64.wrap (A.pos+x.n)).tmod g.sl=(x.pos+x.n).tmod g.sl
    rw [hAs.2.2.1,hpx,wi (by omega)]
   have E3:IntKind.i64.wrap (x.seq+1)=(Bg g a x).seq:=by
    show IntKind.i64.wrap (x.seq+1)=a.seq+1
    rw [hsx]
    exact wi (by omega)
   have E4:(if (AP A (x::r)).a.last<x.seq then x.seq else (AP A (x::r)).a.last)=(Bg g a x).last:=by
    show (if A.last<x.seq then x.seq else A.last)=max a.last a.seq
    rw [hAs.2.2.2.2.1,hsx]
    split <;> omega
   have hok2:=Ik (x:=x) hg ha (by omega) (by omega) hsx (by omega) (by omega)
   have hran:=RU g (AP (Bg g a x) (x::r)) d2 _ hg hok2 hd2
   dsimp only
   rw [E1,E2,E3,E4]
   subst hA
   refine ACalls.frame [0,1,2,6,4,5] hran rfl rfl rfl rfl (by decide) (X0 rfl) ⟨rfl,rfl,rfl,rfl,rfl,rfl,trivial⟩ ?_
   rintro _ _ ⟨rfl,d3,hd3,rfl⟩
   conv=>whnf
   rw [show decide (((g.an.toNat:Nat):Int) > 0)=true from decide_eq_true (by omega)]
   exact⟨d3,hd3,WkN.r (s:= [0,1,2,3,4,5,8,7]) ⟨⟨rfl,rfl,rfl,rfl,trivial⟩,⟨rfl,rfl,rfl,trivial,trivial,trivial,rfl,rfl,trivial⟩,rfl,rfl,rfl,rfl,rfl⟩⟩
  intro d3 hd3
  have hl1:1<=((AP (Bg g a x) (x::r)).txns.length:Int):=by show 1<=((x::r).length:Int);rw [Ag];omega
  conv=>whnf
  repeat' (first | (refine aSeq.go ?_;conv=>whnf) | fail)
  apply aDraw.treeK (0) tys_ok mixed (.one 0 (.one 1 (.one 2 (.one 3 (.one 4 (.one 5 (.one 6 (.one 7 (.one 8 (.one 9 (.one 10 (.one 11 (.one 12 (.one 13 (.one 14 (.one 15 (.one 16 (.one 17 (.one 18 (.one 19 (.one 20 (.one 21 (.one 22 (.one 23 (.one 24 .fin))))))))))))))))))))))))) (by kernel_rfl)
  conv=>whnf
  try (refine And.intro (by first | omega | (simp;done)) ?_;conv=>whnf)
  try (refine And.intro ⟨rfl,by first | rfl | (simp;done) | (simp;omega),by first | omega | (simp;omega)⟩ ?_;conv=>whnf)
  try (refine And.intro ⟨rfl,by first | rfl | (simp;done) | (simp;omega),by first | omega | (simp;omega)⟩ ?_;conv=>whnf)
  all_goals
   exact⟨.tp [ze (x.images.length:Nat),ze 0], .tp [ze (x.images.length:Nat),ze 0],rwZ g (AP (Bg g a x) r) d3,ri,WkN.rc (ConvF.ofH (ConvH.subBox (cs':=WA g (.bp 1 0) (AP (Bg g a x) r) 0) 0 rfl ⟨ri,ri,ri,ri,ri,ri,ri,ri,ri,ri,ri,ri,ri,NG x r,ri,ri,ri,ri,ri,ri,ri,trivial⟩)) (s:= [0,1,2,3,4,5,6]) ⟨⟨rfl,trivial⟩,⟨rfl,rfl,rfl,trivial,trivial,trivial,rfl,trivial⟩,rfl,rfl,rfl,rfl,rfl⟩,rfl,d3,hd3,rfl⟩
def ID (d:Dk) (a:Int) (c:Cel):Dk:={ d with cells:=d.cells.set a.toNat c }
def Dk.fault (d:Dk) (kind a frm bit bits:Int):Dk × Int:=
 if Cb a 0 ((d.cells.length:Int) - 1)=false then (d,1) else if 0<d.cache.length then (d,9) else
 let c:=d.cells.getD a.toNat cz
 if kind=11 then (ID d a { c with state:=if c.state=0 then 1 else c.state },0)
 else if kind=12 then (ID d a { c with state:=2 },0)
 else if kind=13 then (if bit<0\/bits<0 then (d,1) else (ID d a { c with bytes:=Wq c.bytes bit bits },0))
 else if kind=14 then (ID d a { c with bytes:=c.old },0)
 else if kind=15 then (if Cb frm 0 ((d.cells.length:Int) - 1)=false then (d,1) else (ID d a { c with bytes:=(d.cells.getD frm.toNat cz).bytes },0))
 else (d,1)
structure Q4 where
 a:Int
 b:Int
 c:Int
 d:Int
theorem VZ {d:Dk} {a:Int} {c:Cel} (h:DkOk d) (hc:(0<=c.state/\c.state<=2)/\c.bytes.length<=200/\c.old.length<=200):DkOk (ID d a c):=by
 refine⟨by simpa [ID] using h.n,h.m,h.r,h.l,fun x hx=>?_,fun w hw=>by simpa [ID] using h.w w hw⟩
 rcases BC hx with hx | rfl
 ·exact h.c x hx
 ·exact hc
theorem Rb {d:Dk} (h:DkOk d) (i:Nat):(0<=(d.cells.getD i cz).state/\(d.cells.getD i cz).state<=2)/\(d.cells.getD i cz).bytes.length<=200/\(d.cells.getD i cz).old.length<=200:=by
 by_cases hi:i<d.cells.length
 ·exact h.c _ (Ay (d:=cz) hi)
 ·rw [List.getD_eq_getElem?_getD,List.getElem?_eq_none (by omega)]
  exact⟨⟨B_ _,show (0:Int)<=2 by decide⟩,by simp [cz],by simp [cz]⟩
theorem DkOk.fault {d:Dk} (h:DkOk d) (kind a frm bit bits:Int):DkOk (d.fault kind a frm bit bits).1/\(d.fault kind a frm bit bits).1.cells.length=d.cells.length/\(d.fault kind a frm bit bits).1.cache=d.cache/\(d.fault kind a frm bit bits).1.left=d.left/\(d.fault kind a frm bit bits).1.reqs=d.reqs:=by
 have hc:=Rb h a.toNat
 have hf:=Rb h frm.toNat
 have go:∀ c:Cel,((0<=c.state/\c.state<=2)/\c.bytes.length<=200/\c.old.length<=200)->DkOk (ID d a c)/\(ID d a c).cells.length=d.cells.length/\(ID d a c).cache=d.cache/\(ID d a c).left=d.left/\(ID d a c).reqs=d.reqs:=fun c h1=>⟨VZ h h1,by simp [ID],rfl,rfl,rfl⟩
 have st:DkOk d/\d.cells.length=d.cells.length/\d.cache=d.cache/\d.left=d.left/\d.reqs=d.reqs:=⟨h,rfl,rfl,rfl,rfl⟩
 unfold Dk.fault
 split
 ·exact st
 ·split
  ·exact st
  ·simp only
   split
   ·refine go _ ⟨?_,hc.2⟩
    simp only
    split
    ·exact⟨by decide,by decide⟩
    ·exact hc.1
   ·split
    ·exact go _ ⟨⟨show (0:Int)<=2 by decide,B_ 2⟩,hc.2⟩
    ·split
     ·split
      ·exact st
      ·exact go _ ⟨hc.1,by simp only [Nr];exact hc.2.1,hc.2.2⟩
     ·split
      ·exact go _ ⟨hc.1,hc.2.2,hc.2.2⟩
      ·split
       ·split
        ·exact st
        ·exact go _ ⟨hc.1,hf.2.1,hc.2.2⟩
       ·exact st
end Go.Proofs.YtkolckdakddggaaGreatDoor.A
end
section
namespace Go.Proofs.YtkolckdakddggaaGreatDoor.A
open Go.RowKit Go.ChangeShapes Go.WideShapes Go.ChangeAt Go.Deep
section
variable {H:Type} {enc:TypeId × Value->H} {w:World}
end
end Go.Proofs.YtkolckdakddggaaGreatDoor.A
end
section
namespace Go.Proofs.YtkolckdakddggaaGreatDoor.A
open Go.RowKit
structure Q2 where
 a:Int
 b:Int
def XK (x:Q2):List AV:= [.v (.int .i64 x.a), .v (.int .i64 x.b)]
def PG (l:List Q2):AV:= .sl 2 l.length fun i=>XK (l.getD i ⟨0,0⟩)
section
open Go.ChangeShapes Go.WideShapes Go.ChangeAt Go.Deep
variable {H:Type} {enc:TypeId × Value->H} {w:World}
theorem oQ2:OpenE enc w 81 2 fun L=>∃ x,L=XK x:=
 (WN Tryz.underlying81 (by kernel_rfl)).mono fun L h=>by
  obtain⟨l,hl,rfl, -⟩:=h
  match l,hl with
  | [a,b],_=>exact⟨⟨a,b⟩,rfl⟩
def XR (L:List AV):Prop:=∃ l,L=[PG l]
theorem oQ2s:OpenE enc w 24 1 XR:=
 (Xw (α:=Q2) (sz:=2) (f:=XK) (d:=⟨0,0⟩) Tryz.underlying24 (by kernel_rfl) (by decide) oQ2).mono fun L ⟨l,h⟩=>⟨l,h⟩
end
structure Md where
 a:An
 l:List Tx
 F:Int->List UInt8
 m:List (List UInt8)
def Yo (g:Geo) (M:Md) (lba:Int) (b:List UInt8) (M':Md):Prop:=
 (D7 M.l+4<=g.sl/\(FV g (AP M.a M.l) M.F (lba.tdiv g.d)).isSome=true/\∃ W:List Wr,(∀ w∈W,(g.an<=w.addr/\w.addr<g.an+2*g.sl)/\w.bytes.length<=200)/\M'=⟨M.a,M.l ++ [Ln g M.a M.l M.F lba b],JP M.F W,M.m.set lba.toNat b⟩)
 \/((g.sl<D7 M.l+4\/FV g (AP M.a M.l) M.F (lba.tdiv g.d)=none)/\M'=M)
def Xl (g:Geo) (M:Md):Md:=match M.l with
 | []=>M
 | x::r=>⟨Bg g M.a x,r,Gs g M.a x M.F,M.m⟩
def Lo (n:Int) (F:Int->List UInt8) (q:Int):List UInt8:=if 0<=q/\q<n then F q else []
def Eo (g:Geo):Md:=⟨CP (B5 g ⟨#[]⟩) 0, [],Lo (Aq g) (XM g (CP (B5 g ⟨#[]⟩) 0)),List.replicate (g.z*g.d).toNat zero8⟩
def XI (g:Geo) (L:List Q2):Nat->Md->Prop
 | 0,M=>M=Eo g
 | i+1,M=>∃ M1 M2,XI g L i M1/\(∃ lba b,(0<=lba/\lba<g.z*g.d)/\b.length=8/\Yo g M1 lba b M2)/\M=if (L.getD i ⟨0,0⟩).b.tmod 3=0 then Xl g M2 else M2
structure Vo (g:Geo) (K:Int) (M:Md):Prop where
 an:AN g M.a=true
 ring:BP g M.l M.a.seq M.a.pos g.sl=true
 gen:M.a.gen<=K
 seq:M.a.seq+M.l.length<=K
 one:∀ t∈M.l,OneTab t.images
 fb:∀ q,(M.F q).length<=200
 m:(M.m.length:Int)=g.z*g.d
theorem Vo.vol {g:Geo} {K:Int} {M:Md} (h:Vo g K M) {d:Dk} (hd:Gd (Aq g) d M.F):Vol g K d (AP M.a M.l):=⟨⟨_,hd⟩,h.an,h.ring,⟨rfl,rfl,rfl,rfl,rfl,rfl⟩,h.gen,h.seq,h.one⟩
theorem Vo.of {g:Geo} {K:Int} {M:Md} {d:Dk} (h:Vol g K d (AP M.a M.l)) (hf:∀ q,(M.F q).length<=200) (hm:(M.m.length:Int)=g.z*g.d):Vo g K M:=⟨h.an,h.ring,h.gen,h.seq,h.one,hf,hm⟩
theorem Me {a:Int}:∀ (n:Nat) (l:List Wr) (w:Wr),l.length=n->GL l a=some w->w∈l
 | 0,l,w,hn,h=>by
  obtain rfl:=AC.1 hn
  rw [Mc] at h
  cases h
 | n+1,l,w,hn,h=>by
  rcases Cd l with rfl | ⟨m,x,rfl⟩
  ·cases hn
  ·rw [Ce] at h |-
   rw [Es] at h
   split at h
   ·obtain rfl:=Option.some.inj h
    simp
   ·exact List.mem_append_left _ (Me n m w (by simpa using hn) h)
theorem Pg {F:Int->List UInt8} {n:Nat} (hF:∀ q,(F q).length<=n) {W:List Wr} (hW:∀ w∈W,w.bytes.length<=n) (q:Int):(JP F W q).length<=n:=by
 unfold JP
 split
 ·rename_i w hw
  exact hW w (Me _ _ _ rfl hw)
 ·exact hF q
theorem Te {g:Geo} (hg:A_ g=true) {a:An} {x:Tx} (ha:AN g (Bg g a x)=true) {F:Int->List UInt8} (hF:∀ q,(F q).length<=200) (hx:∀ y∈x.images,Bl g y=true) (q:Int):(Gs g a x F q).length<=200:=by
 unfold Gs
 refine Pg (Pg hF fun w hw=>?_) (fun w hw=>(EI hg ha w hw).2) q
 obtain⟨y,hy,hw⟩:=Et.1 hw
 have:=Eu hg (hx y hy)
 unfold BH at hw
 split at hw
 ·simp only [A9,List.not_mem_nil,or_false] at hw
  rcases hw with rfl | rfl <;> exact Dj (by omega)
 ·rw [A5] at hw
  rw [hw]
  exact Dj (by omega)
theorem Vo.ck {g:Geo} (hg:A_ g=true) {K:Int} {M:Md} (h:Vo g K M) (hK:K<=4294967294) {d d':Dk} (hd:Gd (Aq g) d M.F) (hd':Gd (Aq g) d' (Xl g M).F):Vo g (K+1) (Xl g M):=by
 obtain⟨a,l,F,m⟩:=M
 cases l with
 | nil=>exact⟨h.an,h.ring,by have q:a.gen<=K:=h.gen;show a.gen<=K+1;omega,by have q:a.seq+(([]:List Tx).length:Int)<=K:=h.seq;show a.seq+(([]:List Tx).length:Int)<=K+1;omega,h.one,h.fb,h.m⟩
 | cons x r=>
  have hv:=h.vol hd
  have h2:=hv.home hg (x:=x) (r:=r) rfl hK (d':=d') ⟨_,hd'⟩
  have hi:=(Do h.ring x (List.mem_cons_self)).1
  exact Vo.of (d:=d') h2 (Te hg h2.an h.fb (Ao.1 hi)) h.m
theorem Gd.clip {n:Int} {d:Dk} {F:Int->List UInt8} (h:Gd n d F):Gd n d (Lo n F)/\∀ q,(Lo n F q).length<=200:=by
 refine⟨⟨h.ok,h.left,h.len,h.cache,fun q h0 h1=>?_⟩,fun q=>?_⟩
 ·have:=h.cell q h0 h1
  unfold Lo
  rw [if_pos ⟨h0,h1⟩]
  exact this
 ·unfold Lo
  split
  ·rename_i hq
   have hc:=(h.cell q hq.1 hq.2).2
   rw [<-hc]
   have hl:=h.len
   exact(h.ok.c _ (Ay (by omega))).2.1
  ·simp
theorem Wn {g:Geo} (hg:A_ g=true):∃ D,Cs g (G2 g ⟨#[]⟩)=(D,0,AP (Eo g).a (Eo g).l)/\DkOk (G2 g ⟨#[]⟩)/\((G2 g ⟨#[]⟩).cells.length:Int)=Aq g/\Gd (Aq g) D (Eo g).F/\Vo g 2 (Eo g):=by
 obtain⟨D,h1,h2,h3,h4,h5⟩:=WK hg
 obtain⟨q1,q2⟩:=h5.clip
 refine⟨D,h1,h2,h3,q1,Vo.of (d:=D) (M:=Eo g) ⟨⟨_,q1⟩,h4.an,h4.ring,h4.rest,h4.gen,h4.seq,h4.one⟩ q2 ?_⟩
 obtain⟨g1,g2,g3,g4,g5⟩:=Ak.1 hg
 have:0<=g.z*g.d:=CT (by omega) (by omega)
 show (((List.replicate (g.z*g.d).toNat zero8).length:Nat):Int)=_
 rw [List.length_replicate]
 omega
structure Gc (n:Int) (d:Dk) (F:Int->List UInt8) (l:List Wr):Prop where
 ok:DkOk d
 len:(d.cells.length:Int)=n
 cache:d.cache=l
 cell:∀ a:Int,0<=a->a<n->(d.cells.getD a.toNat cz).state=0/\(d.cells.getD a.toNat cz).bytes=F a
theorem Gw.gc {n:Int} {d:Dk} {F:Int->List UInt8} {l:List Wr} (h:Gw n d F l):Gc n d F l:=⟨h.ok,h.len,h.cache,h.cell⟩
theorem Gc.write {n:Int} {d:Dk} {F:Int->List UInt8} {l:List Wr} (h:Gc n d F l) (hl:l.length<2000) {a:Int} (h0:0<=a) (h1:a<n) {b:List UInt8} (hb:b.length<=200):(d.left=0/\d.write a b=(d,8))\/(d.left≠0/\(d.write a b).2=0/\Gc n (d.write a b).1 F (l ++ [⟨a,b⟩])):=by
 by_cases hz:d.left=0
 ·exact .inl ⟨hz,by unfold Dk.write;rw [if_pos hz]⟩
 ·have hw:=h.ok.write (a:=a) (b:=b) (by rw [<-h.len] at h1;omega) hb
  have e:d.write a b=({ d.req with cache:=d.cache ++ [⟨a,b⟩] },0):=by
   unfold Dk.write
   rw [if_neg hz,if_neg]
   rintro(h2 | h2)
   ·have:=(h.cell a h0 h1).1
    unfold cz at this
    omega
   ·rw [h.cache] at h2;omega
  rw [e] at hw |-
  exact .inr ⟨hz,rfl,hw,h.len,by rw [h.cache],h.cell⟩
theorem Gc.puts {n:Int} {d:Dk} {F:Int->List UInt8} {W l:List Wr} (h:Gc n d F W) (hl:∀ w∈l,(0<=w.addr/\w.addr<n)/\w.bytes.length<=200) (hn:W.length+l.length<=2000):∀ k:Nat,k<=l.length->(d.writes (l.take k)).2.2=false->(d.writes (l.take k)).2.1=k/\Gc n (d.writes (l.take k)).1 F (W ++ l.take k)
 | 0,_,_=>⟨rfl,by rw [List.take_zero,List.append_nil];exact h⟩
 | k+1,hk,hv=>by
  have hx0:=E8 d (l:=l) (k:=k) (by omega)
  have hv0:(d.writes (l.take k)).2.2=false:=by
   cases hc:(d.writes (l.take k)).2.2 with
   | false=>rfl
   | true=>
    rw [hx0] at hv
    unfold Cf at hv
    rw [hc] at hv
    simp only [if_true] at hv
    rw [hc] at hv
    cases hv
  obtain⟨q1,q3⟩:=Gc.puts h hl hn k (by omega) hv0
  have hx:=Ie (d:=d) (l:=l) (k:=k) (by omega) hv0
  have hm:=hl _ (Ay (d:=(⟨0, []⟩:Wr)) (show k<l.length by omega))
  rcases q3.write (by rw [List.length_append,Al];omega) hm.1.1 hm.1.2 hm.2 with ⟨-,e8⟩ | ⟨-,e0,hw⟩
  ·rw [hx,e8] at hv
   cases hv
  ·rw [hx,e0]
   have e:l.take (k+1)=l.take k ++ [l.getD k ⟨0, []⟩]:=by
    rw [AQ,List.getElem?_eq_getElem (by omega),List.getD_eq_getElem?_getD,List.getElem?_eq_getElem (by omega)]
    rfl
   refine⟨by simp only [q1];rfl,?_⟩
   rw [e,<-As]
   exact hw
theorem Gc.flush {n:Int} {d:Dk} {F:Int->List UInt8} {l:List Wr} (h:Gc n d F l):Gc n d.flush (JP F l) []:=by
 have e:d.flush=⟨CD d.cells l, [],d.req.reqs,d.req.left⟩:=by
  unfold Dk.flush
  rw [allFin_cells,h.cache]
  rfl
 have ho:=h.ok.flush
 rw [e] at ho |-
 refine⟨ho,by show ((CD d.cells l).length:Int)=n;rw [finL_len];exact h.len,rfl,fun a h0 h1=>?_⟩
 have hl:=h.len
 refine Qb h0 (by omega) (h.cell a h0 h1) _ l rfl fun w hw=>?_
 rw [<-h.cache] at hw
 exact(h.ok.w w hw).1.1
theorem Gc.putAll {n:Int} {d:Dk} {F:Int->List UInt8} {l:List Wr} (h:Gc n d F []) (hl:∀ w∈l,(0<=w.addr/\w.addr<n)/\w.bytes.length<=200) (hn:l.length<=2000) (hv:(d.putAll l).2.2=false):(d.putAll l).2.1=l.length/\Gc n (d.putAll l).1 (JP F l) []:=by
 cases hw:(d.writes l).2.2 with
 | true=>rw [Dp hw] at hv;cases hv
 | false=>
  have hp:=Gc.puts h hl (by simpa using hn) l.length (Nat.le_refl _)
  rw [List.take_length] at hp
  obtain⟨q1,q2⟩:=hp hw
  have e:=CV hw
  by_cases h0:(d.writes l).1.left=0
  ·rw [if_pos h0] at e
   rw [e] at hv
   cases hv
  ·rw [if_neg h0] at e
   rw [e]
   exact⟨q1,by simpa using q2.flush⟩
theorem Pe (d:Dk) (l m:List Wr) (h:(d.writes l).2.2=true):d.writes (l ++ m)=d.writes l:=by
 have hk:=Jv d (l:=l ++ m) (k:=l.length) (by simp) (by rw [List.take_left];exact h)
 rw [hk,List.take_left]
theorem E9 (d:Dk) (n:Nat) (w:Wr):Cf (d,n,false) w=((d.write w.addr w.bytes).1,(if (d.write w.addr w.bytes).2=8 then n else n+if (d.write w.addr w.bytes).2=0 then 1 else 0),decide ((d.write w.addr w.bytes).2=8)):=by
 unfold Cf
 rw [if_neg (by simp)]
 simp only
 split
 ·rename_i h;rw [decide_eq_true h]
 ·rename_i h;rw [decide_eq_false h]
theorem wrs_dead:∀ (m:List Wr) (d:Dk) (n:Nat),m.foldl Cf (d,n,true)=(d,n,true)
 | [],_,_=>rfl
 | w::m,d,n=>by rw [List.foldl_cons,G4 w rfl];exact wrs_dead m d n
theorem writes_more:∀ (m:List Wr) (d:Dk) (n:Nat),m.foldl Cf (d,n,false)=((d.writes m).1,n+(d.writes m).2.1,(d.writes m).2.2)
 | [],_,_=>rfl
 | w::m,d,n=>by
  show m.foldl Cf (Cf (d,n,false) w)=_
  have e:d.writes (w::m)=m.foldl Cf (Cf (d,0,false) w):=rfl
  rw [e,E9,E9]
  generalize d.write w.addr w.bytes=q
  obtain⟨d1,e⟩:=q
  simp only
  by_cases h8:e=8
  ·rw [if_pos h8,if_pos h8,decide_eq_true h8,wrs_dead,wrs_dead]
   rfl
  ·rw [if_neg h8,if_neg h8,decide_eq_false h8,writes_more m d1,writes_more m d1]
   simp only [Am,Ch]
theorem N5 {d:Dk} {l:List Wr} (m:List Wr) (h:(d.writes l).2.2=false):d.writes (l ++ m)=(((d.writes l).1.writes m).1,(d.writes l).2.1+((d.writes l).1.writes m).2.1,((d.writes l).1.writes m).2.2):=by
 show (l ++ m).foldl Cf (d,0,false)=_
 rw [List.foldl_append]
 have e:l.foldl Cf (d,0,false)=d.writes l:=rfl
 rw [e]
 generalize d.writes l=q at h |-
 obtain⟨d1,n,b⟩:=q
 simp only at h |-
 rw [h,writes_more]
theorem O5 {g:Geo} {a:An} {seq:Int} {x:Img} {l:List Img} {q:Int} (h:x.zone.toNat<a.homes.length):BH g (Bp a q l) seq x=BH g a seq x:=by
 unfold BH
 rw [GV l h]
def ES (g:Geo) (s:Stt) (x:Tx) (r:List Tx) (d:Dk):Stt × Dk × Int × Int:=
 match d.putAll (Bt g s.a x.seq x.images) with
 | (d1,_,true)=>(s,d1,0,8)
 | (d1,_,false)=>match d1.putAll (Av g (Bg g s.a x)) with
  | (d2,_,true)=>(s,d2,0,8)
  | (d2,_,false)=>({ s with a:=Bg g s.a x,txns:=r },d2,(x.images.length:Nat),0)
theorem SK (a:An) (hh:a.homes.length<=1000) (hp:∀ h∈a.homes,h.places.length<=1000000):ACalls Tryz.prog false 83 [.ag (Dx a)] [] fun r H=>r = .ag (Ly a (.ow 0 a.homes.length))/\H=[.row 53 3 (a.homes.map CH)]:=by
 have hc:=Ml a.homes (by omega)
 refine ACalls.ofR tys_ok Tryz.func83 rfl rfl (Ac rfl) ?_
 conv=>whnf
 refine ACalls.beside hc rfl ?_
 rintro _ _ ⟨rfl,rfl⟩
 conv=>whnf
 refine aLoop.ruleRR Nat (fun k=>([(1, .bp 0 0),(2, .bp 1 0),(10, .v (.int .i64 a.homes.length)),(11, .v (.int .i64 k))], [.box 28 [.v (.int .i64 a.gen), .v (.int .i64 a.epoch), .v (.int .i64 a.pos), .v (.int .i64 a.seq), .v (.int .i64 a.last), .v (.string a.label), .ow 2 a.homes.length], .box 28 [.v (.int .i64 0), .v (.int .i64 0), .v (.int .i64 0), .v (.int .i64 0), .v (.int .i64 0), .v (.string ⟨#[]⟩), .v (.slice none 0 0)], .row 53 3 (a.homes.map CH)])) (fun k=>k<=a.homes.length) (fun k=>a.homes.length - k) 0 (Ad _)
  (WkN.r (s:= [0,1,2]) ⟨⟨rfl,rfl,rfl,rfl,trivial⟩,⟨rfl,rfl,rfl,trivial⟩,rfl,rfl,rfl,rfl,rfl⟩) ?_
 intro k hk
 conv=>whnf
 refine Aw (fun h6=>?_) (fun h6=>?_) <;> (repeat rw [Ab] at h6) <;> conv=>whnf
 ·have hk':k<a.homes.length:=by omega
  have hi:=KP (a.homes.getD k ⟨[],0,0⟩).places (by have:=hp _ (Ay (d:=(⟨[],0,0⟩:Hm)) hk');omega)
  have hE:(a.homes.map CH).getD (k:Int).toNat []=CH (a.homes.getD k ⟨[],0,0⟩):=by rw [Ab];exact AR hk'
  apply aDraw.treeK (0) tys_ok mixed (.one 0 (.one 1 (.one 2 (.one 3 (.one 4 (.one 5 (.one 6 (.one 7 (.one 8 (.one 9 (.one 10 (.one 11 (.one 12 .fin))))))))))))) (by kernel_rfl)
  conv=>whnf
  try (first | (refine And.intro ⟨rfl,(Aa _).symm,by omega⟩ ?_;(conv=>whnf);rw [hE]) | skip;conv=>whnf)
  try (first | (refine And.intro ⟨rfl,(Aa _).symm,by omega⟩ ?_;(conv=>whnf);rw [hE]) | skip;conv=>whnf)
  try (refine And.intro (by first | omega | (simp;done)) ?_;conv=>whnf)
  try (first | (refine And.intro ⟨rfl,(Aa _).symm,by omega⟩ ?_;(conv=>whnf);rw [hE]) | skip;conv=>whnf)
  (refine ACalls.beside hi rfl ?_;rintro _ _ ⟨rfl,rfl⟩)
  conv=>whnf
  try (refine And.intro (by first | omega | (simp;done)) ?_;conv=>whnf)
  try (refine And.intro ⟨rfl,by first | rfl | (simp;done) | (simp;omega),by first | omega | (simp;omega)⟩ ?_;conv=>whnf)
  (refine And.intro (Aa _).symm ?_;(conv=>whnf);refine And.intro ⟨rfl,(Aa _).symm,by omega⟩ ?_;(conv=>whnf);rw [hE])
  refine⟨k+1,hk',by omega,WkN.rc (ConvF.ofH (ConvH.subRow (k:=2) rfl (es':=a.homes.map CH) (by simp) ?_)) (s:= [0,1,2]) ⟨⟨rfl,rfl,rfl,A7 (by omega),trivial⟩,⟨rfl,rfl,rfl,trivial⟩,rfl,rfl,rfl,rfl,rfl⟩⟩
  rw [Ab]
  exact F8 (d:=(⟨[],0,0⟩:Hm)) hk' (Up _)
 ·have ek:k=a.homes.length:=by omega
  exact⟨.ag (Ly a (.ow 2 a.homes.length)), .ag (Ly a (.ow 0 a.homes.length)), [.row 53 3 (a.homes.map CH)],fun _ _ h=>h,WkN.r (s:= [2]) ⟨⟨rfl,trivial⟩,⟨by subst ek;rfl,trivial⟩,rfl,rfl,rfl,rfl,rfl⟩,rfl,rfl⟩
theorem LT (g:Geo) (w:Int) (hw : -1<=w/\w<g.d):Fn Tryz.prog 234 [.ag (AF g), .v (.int .i64 w)] fun r=>r = .tp [.v (.int .i64 (F4 g w)), .v (.bool true)]:=by
 unfold F4
 by_cases h:w = -1
 ·rw [if_pos h]
  refine Fn.st Tryz.func234 rfl ?_
  conv=>whnf
  rw [show (w == -1)=true by simpa using h]
  exact⟨_,ri,rfl⟩
 ·rw [if_neg h]
  refine Fn.st Tryz.func234 rfl ?_
  conv=>whnf
  rw [show (w == -1)=false by simpa using h]
  refine aDraw.of tys_ok mixed [0,1,2,3,4,5,6,7,8,9,10] (by kernel_rfl) ?_
  conv=>whnf
  rw [show decide (w>=0)=true from decide_eq_true (by omega)]
  conv=>whnf
  rw [show decide (w<g.d)=true from decide_eq_true (by omega)]
  exact⟨_,ri,rfl⟩
theorem UR {g:Geo} {a:An} (hg:A_ g=true) (ha:AN g a=true):a.label.size<=1000000/\a.homes.length<=1000/\∀ h∈a.homes,h.places.length<=1000000:=by
 have:=Dv hg ha 0 (Ad _)
 exact⟨by have:=this.2.2.2.1;omega,by have:=this.2.1;omega,fun h hh=>JH hg ha h hh⟩
theorem RX (g:Geo) (a:An) (z w:Int) (hg:A_ g=true) (ha:AN g a=true) (hz:0<=z/\z<g.z) (hw : -1<=w/\w<g.d):Fn Tryz.prog 233 [.ag (AF g), .ag (Dx a), .v (.int .i64 z), .v (.int .i64 w)] fun r=>r = .v (.int .i64 0):=by
 obtain⟨s1,s2, -⟩:=UR hg ha
 have c1:=Jq g a s1 (by omega)
 rw [hg,ha] at c1
 have c2:=LT g w hw
 refine Fn.st Tryz.func233 rfl ?_
 conv=>whnf
 refine Fn.cl c1 ?_
 conv=>whnf
 refine Fn.cl c2 ?_
 conv=>whnf
 rw [show decide (z<0)=false from decide_eq_false (by omega)]
 conv=>whnf
 rw [show decide (z>=g.z)=false from decide_eq_false (by omega)]
 exact⟨_,ri,rfl⟩
theorem TU (g:Geo) (a:An) (z w:Int) (hg:A_ g=true) (ha:AN g a=true) (hz:0<=z/\z<g.z) (hw : -1<=w/\w<g.d):Fn Tryz.prog 183 [.ag (AF g), .ag (Dx a), .v (.int .i64 z), .v (.int .i64 w)] fun r=>r = .tp [.v (.int .i64 (B3 g a z w)), .v (.int .i64 0)]:=by
 obtain⟨g1,g2,g3,g4,g5⟩:=Ak.1 hg
 obtain⟨hi,hh⟩:=Mm ha hz
 simp only [Da,Bool.and_eq_true,decide_eq_true_eq,A0] at hh
 obtain⟨p1,p2,p3,p4⟩:=hh
 have hat:0<=F4 g w/\F4 g w<=g.d:=by unfold F4;split <;> omega
 have hk:(F4 g w).toNat<(a.homes.getD z.toNat ⟨[],0,0⟩).places.length:=by omega
 have hp:=Ao.1 p4 (F4 g w).toNat (by simpa using hk)
 simp only [Bool.and_eq_true,A0] at hp
 have c1:=RX g a z w hg ha hz hw
 have c2:=LT g w hw
 have c3:=Us g z ((a.homes.getD z.toNat ⟨[],0,0⟩).places.getD (F4 g w).toNat 0) hg hz (by unfold Cc;omega)
 refine Fn.st Tryz.func183 rfl ?_
 conv=>whnf
 refine Fn.cl c1 ?_
 conv=>whnf
 refine Fn.cl c2 ?_
 conv=>whnf
 apply aDraw.tree tys_ok mixed (.one 0 (.one 1 (.one 2 (.one 3 (.one 4 (.one 5 (.one 6 (.one 7 (.one 8 (.one 9 (.one 10 (.one 11 (.one 12 (.one 13 (.one 14 (.one 15 .fin)))))))))))))))) [8,9,27,28,29,30,31,32,33,34,35,36,37,38,39,40] (by kernel_rfl)
 ·conv=>whnf
  try (refine And.intro (by first | omega | (simp;done)) ?_;conv=>whnf)
  try (refine And.intro (by first | omega | (simp;done)) ?_;conv=>whnf)
  refine Fn.cl c3 ?_
  exact⟨rfl,rfl⟩
 exact⟨_,ri,rfl⟩
theorem N2 (g:Geo) (s:Stt) (d:Dk) (F:Int->List UInt8) (l:List Wr) (a stamp:Int) (b:List UInt8) (h:Gc (Aq g) d F l) (hl:l.length<2000) (ha:0<=a/\a<Aq g) (hok:SP a stamp b) :
  ACalls Tryz.prog false 213 [.bp 0 0, .v (.int .i64 a), .v (.int .i64 stamp),bA b] (MB g s d) fun r H=>(d.left=0/\r = .tp [.v (.bool false), .v (.int .i64 8)]/\H=MB g s d)\/(d.left≠0/\r = .tp [.v (.bool true), .v (.int .i64 0)]/\Gc (Aq g) (d.write a (AM a stamp b)).1 F (l ++ [⟨a,AM a stamp b⟩])/\(d.write a (AM a stamp b)).2=0/\H=MB g s (d.write a (AM a stamp b)).1):=by
 have hs:=NH a stamp b hok
 have hsl:(AM a stamp b).length<=200:=by rw [CM];have:=hok.2.2.2.2;omega
 have hc:=Rk g s d a (AM a stamp b) h.ok (by have:=h.len;omega) hsl
 have hw:=h.write hl ha.1 ha.2 hsl
 refine ACalls.ofR tys_ok Tryz.func213 rfl rfl (Ac rfl) ?_
 conv=>whnf
 refine Fn.cl hs ?_
 conv=>whnf
 refine ACalls.frame [0,1,2,3] hc rfl rfl rfl rfl (by decide) (EL rfl) ⟨rfl,rfl,rfl,rfl,trivial⟩ ?_
 rintro _ _ ⟨rfl,rfl⟩
 rcases hw with ⟨h0,e8⟩ | ⟨h0,e0,hw⟩
 ·rw [e8]
  exact⟨_, .tp [.v (.bool false), .v (.int .i64 8)],MB g s d,fun _ _ h=>h,WkN.r (s:= [0,1,2,3]) ⟨⟨rfl,trivial⟩,⟨rfl,rfl,rfl,rfl,trivial⟩,rfl,rfl,rfl,rfl,rfl⟩, .inl ⟨h0,rfl,rfl⟩⟩
 ·rw [e0]
  exact⟨_, .tp [.v (.bool true), .v (.int .i64 0)],MB g s (d.write a (AM a stamp b)).1,fun _ _ h=>h,WkN.r (s:= [0,1,2,3]) ⟨⟨rfl,trivial⟩,⟨rfl,rfl,rfl,rfl,trivial⟩,rfl,rfl,rfl,rfl,rfl⟩, .inr ⟨h0,rfl,hw,rfl,rfl⟩⟩
theorem UK (g:Geo) (d:Dk) (s:Stt) (h:DkOk d) (hst:Pj g d s=true) (hs:StSm s):ACalls Tryz.prog false 34 [.ag (AF g), .ag (EH d), .ag (EB s)] [] fun r H=>r = .tp [.bp 0 0, .v (.int .i64 0)]/\H=MB g s d:=by
 have hN:=h.n
 have hM:=h.m
 have c1:=SJ g d s (by omega) (by omega) hs.big
 rw [hst] at c1
 have c2:=Rj d (by omega) (by omega)
 have c3:=Lr s hs
 refine ACalls.ofR tys_ok Tryz.func34 rfl rfl (Ac rfl) ?_
 conv=>whnf
 refine Fn.cl c1 ?_
 conv=>whnf
 apply aDraw.treeK (0) tys_ok mixed (.one 0 (.one 1 (.one 3 (.one 2 (.one 4 (.one 5 (.one 6 (.one 7 (.one 8 .fin))))))))) (by kernel_rfl)
 conv=>whnf
 (refine ACalls.beside c2 rfl ?_;rintro _ _ ⟨rfl,rfl⟩)
 conv=>whnf
 refine Fn.cl c3 ?_
 conv=>whnf
 all_goals exact⟨_, .tp [.bp 0 0, .v (.int .i64 0)],MB g s d,fun _ _ h=>h,WkN.r (s:= [6,3,4,5]) ⟨⟨rfl,trivial⟩,⟨rfl,rfl,rfl,rfl,trivial⟩,rfl,rfl,rfl,rfl,rfl⟩,rfl,rfl⟩
@[reducible] def txZ:List AV:= [.v (.int .i64 0), .v (.int .i64 0), .v (.int .i64 0), .v (.slice none 0 0)]
theorem odrop0_fn:Fn Tryz.prog 82 [CW []] fun r=>r = .tp [.ag (CI ⟨0,0,0, []⟩), .v (.slice none 0 0), .v (.int .i64 10)]:=by
 refine Fn.st Tryz.func82 rfl ?_
 exact⟨_,BI (m:= [.ag (CI ⟨0,0,0, []⟩), .v (.slice none 0 0), .v (.int .i64 10)]) ⟨AG ⟨ri,ri,ri,AX 3 _,trivial⟩,ri,ri,trivial⟩,rfl⟩
theorem TX (x:Tx) (r:List Tx) (hl:(x::r).length<=1000000) (hi:∀ t∈x::r,t.images.length<=1000000/\∀ y∈t.images,y.bytes.length<=1000000000):Fn Tryz.prog 82 [CW (x::r)] fun v=>v = .tp [.ag (CI x),CW r, .v (.int .i64 0)]:=by
 have c1:=QP (x::r) hl hi
 have c2:=LA r (by rw [Ag] at hl;omega)
 have h1:1<=(x::r).length:=by simp
 have e0:(((x::r).length:Int) == 0)=false:=by rw [beq_eq_false_iff_ne,Ag];omega
 refine Fn.st Tryz.func82 rfl ?_
 conv=>whnf
 rw [e0]
 conv=>whnf
 refine Fn.cl c1 ?_
 conv=>whnf
 apply aDraw.treeK (0) tys_ok mixed (.one 0 (.one 1 (.one 2 (.one 3 (.one 4 (.one 5 (.one 6 (.one 7 (.one 8 .fin))))))))) (by kernel_rfl)
 conv=>whnf
 try (refine And.intro (by first | omega | (simp;done)) ?_;conv=>whnf)
 try (refine And.intro (by first | omega | (simp;done)) ?_;conv=>whnf)
 (refine ACalls.sub [CW r] ⟨NG x r,trivial⟩ ?_;refine ACalls.beside c2 rfl ?_;rintro _ _ ⟨rfl,rfl⟩)
 conv=>whnf
 try (refine And.intro ⟨rfl,by first | rfl | (simp;done) | (simp;omega),by first | omega | (simp;omega)⟩ ?_;conv=>whnf)
 refine And.intro (Aa _).symm ?_
 exact⟨_,BI (m:= [.ag (CI x),CW r, .v (.int .i64 0)]) ⟨ri,AH (f:=CI) r rfl rfl,ri,trivial⟩,rfl⟩
@[reducible] def hoH (g:Geo) (s:Stt) (A:An) (d:Dk):List AB:= [.box 165 [.bp 1 0, .v (.int .i64 A.gen), .v (.int .i64 A.epoch), .v (.int .i64 A.pos), .v (.int .i64 A.seq), .v (.int .i64 A.last), .v (.string A.label), .ow 5 A.homes.length, .v (.int .i64 0)], .box 107 (Xm g (.bp 2 0) s), .box 113 (G3 (.ow 3 d.cells.length) (.ow 4 d.cache.length) d.reqs d.left), .row 84 3 (d.cells.map Bi), .row 131 2 (d.cache.map D3), .row 53 3 (A.homes.map CH)]
theorem HN {m:Nat} (h:Nat.ble 5 m=true):∀ z∈ [1,2,3,4],z<m:=fun z hz=>by
 have:=Ac h
 simp at hz
 omega
theorem Kd (d:Dk) (w:Wr):d.writes [w]=((d.write w.addr w.bytes).1,(if (d.write w.addr w.bytes).2=8 then 0 else 0+if (d.write w.addr w.bytes).2=0 then 1 else 0),decide ((d.write w.addr w.bytes).2=8)):=E9 d 0 w
theorem Rm (g:Geo) (A:An) (l:List AV):SubL ([.ag (AF g), .ag (Ly A (.sl 3 A.homes.length fun i=>(A.homes.map CH).getD i []))] ++ l) ([.ag (AF g), .ag (Dx A)] ++ l):=
 ⟨ri,AG ⟨ri,ri,ri,ri,ri,ri,AH (f:=CH) A.homes rfl rfl,trivial⟩,SubL.refl l⟩
theorem St (g:Geo) (s:Stt) (A:An) (d:Dk) (F:Int->List UInt8) (l:List Wr) (seq:Int) (x:Img) (hg:A_ g=true) (hA:AN g A=true) (hx:Bl g x=true) (h255:x.what≠255) (hs:0<=seq/\seq<=4294967295) (h:Gc (Aq g) d F l) (hl:l.length<1900) :
  ACalls Tryz.prog false 157 [.bp 0 0, .v (.int .i64 seq), .ag (DE x)] (hoH g s A d) fun r H=>(d.left=0/\r = .tp [.v (.bool false), .v (.int .i64 8)]/\H=hoH g s A d)\/(d.left≠0/\r = .tp [.v (.bool true), .v (.int .i64 0)]/\Gc (Aq g) (d.write (B3 g A x.zone x.what) (AM (B3 g A x.zone x.what) seq x.bytes)).1 F (l ++ [⟨B3 g A x.zone x.what,AM (B3 g A x.zone x.what) seq x.bytes⟩])/\(d.write (B3 g A x.zone x.what) (AM (B3 g A x.zone x.what) seq x.bytes)).2=0/\H=hoH g s A (d.write (B3 g A x.zone x.what) (AM (B3 g A x.zone x.what) seq x.bytes)).1):=by
 obtain⟨g1,g2,g3,g4,g5⟩:=Ak.1 hg
 obtain⟨hz,hb⟩:=Cg hx
 have hb:=hb h255
 have hcb:=D_ hg
 obtain⟨sl,e1,e2⟩:=IH hg hA hz (w:=x.what) (by omega)
 have hsl:=G_ hg hz e2
 have hadr:=TU g A x.zone x.what hg hA hz (by omega)
 obtain⟨X,hX⟩:∃ X,X=B3 g A x.zone x.what:=⟨_,rfl⟩
 rw [<-hX] at hadr e1 |-
 have hput:=N2 g s d F l X seq x.bytes h (by omega) (by omega) ⟨by omega,by omega,hs.1,hs.2,by omega⟩
 by_cases h0:d.left=0
 ·have hput:=hput.mono (K':=fun r H=>r = .tp [.v (.bool false), .v (.int .i64 8)]/\H=MB g s d) fun r H hh=>by
   rcases hh with ⟨-,h1,h2⟩ | ⟨h1, -⟩
   ·exact⟨h1,h2⟩
   ·exact absurd h0 h1
  refine ACalls.ofR tys_ok Tryz.func157 rfl rfl (Ac rfl) ?_
  conv=>whnf
  apply aDraw.tree tys_ok mixed (.one 0 (.one 1 (.one 2 (.one 3 (.one 4 (.one 5 (.one 6 (.one 7 (.one 8 (.one 9 (.one 10 (.one 11 (.one 12 (.one 13 (.one 14 (.one 15 (.one 16 (.one 17 .fin)))))))))))))))))) [9,10,18,19,20,21,22,23,24,25,26,27,28,29,30,31,32,33] (by kernel_rfl)
  ·conv=>whnf
   (refine Fn.lend (args':= [.ag (AF g), .ag (Ly A (.sl 3 A.homes.length fun i=>(A.homes.map CH).getD i [])), .v (.int .i64 x.zone), .v (.int .i64 x.what)]) (hadr.subA (Rm g A [.v (.int .i64 x.zone), .v (.int .i64 x.what)])) ⟨(Aa _).symm,rfl⟩ ?_;rintro _ rfl;refine⟨rfl,?_⟩)
   exact⟨rfl,rfl⟩
  conv=>whnf
  refine aLoop.rounds 1 ?_
  conv=>whnf
  repeat' (first | (refine aSeq.go ?_;conv=>whnf) | fail)
  apply aDraw.treeK (2 ^ 136) tys_ok mixed (.one 0 (.one 1 (.one 2 (.one 3 (.one 4 (.one 5 (.one 6 (.one 7 (.one 8 (.one 9 (.one 10 (.one 11 (.one 12 (.one 13 .fin)))))))))))))) (by kernel_rfl)
  conv=>whnf
  (refine ACalls.frame [1,2,3,4] hput rfl rfl rfl rfl (by decide) (HN rfl) ⟨rfl,rfl,rfl,rfl,trivial⟩ ?_;rintro _ _ ⟨rfl,rfl⟩)
  conv=>whnf
  repeat' (first | (refine aSeq.go ?_;conv=>whnf) | fail)
  exact⟨_, .tp [.v (.bool false), .v (.int .i64 8)],hoH g s A d,fun _ _ h=>h,WkN.r (s:= [0,1,2,3,4,5]) ⟨⟨rfl,trivial⟩,⟨rfl,rfl,rfl,rfl,rfl,rfl,trivial⟩,rfl,rfl,rfl,rfl,rfl⟩, .inl ⟨h0,rfl,rfl⟩⟩
 ·obtain⟨D,hD⟩:∃ D,D=(d.write X (AM X seq x.bytes)).1:=⟨_,rfl⟩
  rw [<-hD] at hput |-
  have hput:=hput.mono (K':=fun r H=>(Gc (Aq g) D F (l ++ [⟨X,AM X seq x.bytes⟩])/\(d.write X (AM X seq x.bytes)).2=0)/\r = .tp [.v (.bool true), .v (.int .i64 0)]/\H=MB g s D) fun r H hh=>by
   rcases hh with ⟨h1, -⟩ | ⟨-,h1,h2,h3,h4⟩
   ·exact absurd h1 h0
   ·exact⟨⟨h2,h3⟩,h1,h4⟩
  refine ACalls.ofR tys_ok Tryz.func157 rfl rfl (Ac rfl) ?_
  conv=>whnf
  apply aDraw.tree tys_ok mixed (.one 0 (.one 1 (.one 2 (.one 3 (.one 4 (.one 5 (.one 6 (.one 7 (.one 8 (.one 9 (.one 10 (.one 11 (.one 12 (.one 13 (.one 14 (.one 15 (.one 16 (.one 17 .fin)))))))))))))))))) [9,10,18,19,20,21,22,23,24,25,26,27,28,29,30,31,32,33] (by kernel_rfl)
  ·conv=>whnf
   (refine Fn.lend (args':= [.ag (AF g), .ag (Ly A (.sl 3 A.homes.length fun i=>(A.homes.map CH).getD i [])), .v (.int .i64 x.zone), .v (.int .i64 x.what)]) (hadr.subA (Rm g A [.v (.int .i64 x.zone), .v (.int .i64 x.what)])) ⟨(Aa _).symm,rfl⟩ ?_;rintro _ rfl;refine⟨rfl,?_⟩)
   exact⟨rfl,rfl⟩
  conv=>whnf
  refine aLoop.rounds 1 ?_
  conv=>whnf
  repeat' (first | (refine aSeq.go ?_;conv=>whnf) | fail)
  apply aDraw.treeK (2 ^ 136) tys_ok mixed (.one 0 (.one 1 (.one 2 (.one 3 (.one 4 (.one 5 (.one 6 (.one 7 (.one 8 (.one 9 (.one 10 (.one 11 (.one 12 (.one 13 .fin)))))))))))))) (by kernel_rfl)
  conv=>whnf
  (refine ACalls.frame [1,2,3,4] hput rfl rfl rfl rfl (by decide) (HN rfl) ⟨rfl,rfl,rfl,rfl,trivial⟩ ?_;rintro _ _ ⟨⟨hw,e0⟩,rfl,rfl⟩)
  conv=>whnf
  repeat' (first | (refine aSeq.go ?_;conv=>whnf) | fail)
  exact⟨_, .tp [.v (.bool true), .v (.int .i64 0)],hoH g s A D,fun _ _ h=>h,WkN.r (s:= [0,1,2,3,4,5]) ⟨⟨rfl,trivial⟩,⟨rfl,rfl,rfl,rfl,rfl,rfl,trivial⟩,rfl,rfl,rfl,rfl,rfl⟩, .inr ⟨h0,rfl,hw,e0,rfl⟩⟩
theorem Sp (g:Geo) (s:Stt) (A:An) (d:Dk) (F:Int->List UInt8) (l:List Wr) (seq:Int) (x:Img) (hg:A_ g=true) (hA:AN g A=true) (hx:Bl g x=true) (h255:x.what=255) (hs:0<=seq/\seq<=4294967295) (h:Gc (Aq g) d F l) (hl:l.length<1900) :
  ACalls Tryz.prog false 156 [.bp 0 0, .v (.int .i64 seq), .ag (DE x)] (hoH g s A d) fun r H=>((d.writes (BH g A seq x)).2.2=true/\r = .tp [.v (.bool false), .v (.int .i64 8)]/\H=hoH g s A (d.writes (BH g A seq x)).1)\/((d.writes (BH g A seq x)).2.2=false/\r = .tp [.v (.bool true), .v (.int .i64 0)]/\Gc (Aq g) (d.writes (BH g A seq x)).1 F (l ++ BH g A seq x)/\H=hoH g s (BF A seq x) (d.writes (BH g A seq x)).1):=by
 obtain⟨g1,g2,g3,g4,g5⟩:=Ak.1 hg
 obtain⟨hz, -⟩:=Cg hx
 have hxl:=Eu hg hx
 have hcb:=D_ hg
 have hzA:=(Mm hA hz).1
 have ht0:=Mn g x.zone 0 hg hz (by decide)
 have ht1:=Mn g x.zone 1 hg hz (by decide)
 obtain⟨u1,u2,u3⟩:=EZ hg hz (k:=0) (by decide)
 obtain⟨v1,v2,v3⟩:=EZ hg hz (k:=1) (by decide)
 have ei:BH g A seq x=[⟨AD g x.zone 0,AM (AD g x.zone 0) seq x.bytes⟩,⟨AD g x.zone 1,AM (AD g x.zone 1) seq x.bytes⟩]:=if_pos h255
 obtain⟨P,hP⟩:∃ P,P=AD g x.zone 0:=⟨_,rfl⟩
 obtain⟨Q,hQ⟩:∃ Q,Q=AD g x.zone 1:=⟨_,rfl⟩
 rw [ei]
 rw [<-hP] at ht0 u1 u2 u3 |-
 rw [<-hQ] at ht1 v1 v2 v3 |-
 have hp0:=N2 g s d F l P seq x.bytes h (by omega) (by omega) ⟨by omega,by omega,hs.1,hs.2,by omega⟩
 have hw0:=h.write (a:=P) (b:=AM P seq x.bytes) (by omega) (by omega) u3 (by rw [CM];omega)
 have ew:d.writes [⟨P,AM P seq x.bytes⟩,⟨Q,AM Q seq x.bytes⟩]=Cf (Cf (d,0,false) ⟨P,AM P seq x.bytes⟩) ⟨Q,AM Q seq x.bytes⟩:=rfl
 have en:((d.writes [⟨P,AM P seq x.bytes⟩]).2.2=decide ((d.write P (AM P seq x.bytes)).2=8)):=by rw [Kd]
 obtain⟨S,hS⟩:∃ S,S=d.writes [⟨P,AM P seq x.bytes⟩,⟨Q,AM Q seq x.bytes⟩]:=⟨_,rfl⟩
 rw [<-hS]
 by_cases h0:d.left=0
 ·have hp0:=hp0.mono (K':=fun r H=>r = .tp [.v (.bool false), .v (.int .i64 8)]/\H=MB g s d) fun r H hh=>by
   rcases hh with ⟨-,h1,h2⟩ | ⟨h1, -⟩
   ·exact⟨h1,h2⟩
   ·exact absurd h0 h1
  have hSd:S=(d,0,true):=by
   rcases hw0 with ⟨-,e8⟩ | ⟨h1, -⟩
   ·rw [hS,ew]
    unfold Cf
    simp only [e8]
    rfl
   ·exact absurd h0 h1
  rw [hSd]
  refine ACalls.ofR tys_ok Tryz.func156 rfl rfl (Ac rfl) ?_
  conv=>whnf
  refine aLoop.rounds 1 ?_
  conv=>whnf
  repeat' (first | (refine aSeq.go ?_;conv=>whnf) | fail)
  apply aDraw.tree tys_ok mixed (.one 0 (.one 1 (.one 2 (.one 3 (.one 4 (.one 5 (.one 6 (.one 7 (.one 8 (.one 9 (.one 10 (.one 11 (.one 12 (.one 13 (.one 14 (.one 15 .fin)))))))))))))))) [10,11,17,18,19,20,21,22,23,24,25,26,27,28,29,30] (by kernel_rfl)
  ·conv=>whnf
   refine Fn.cl ht0 ?_
   exact⟨rfl,rfl⟩
  conv=>whnf
  apply aDraw.treeK (2 ^ 136) tys_ok mixed (.one 0 (.one 1 (.one 2 (.one 3 (.one 4 (.one 5 (.one 6 (.one 7 (.one 8 (.one 9 (.one 10 (.one 11 (.one 12 (.one 13 .fin)))))))))))))) (by kernel_rfl)
  conv=>whnf
  (refine ACalls.frame [1,2,3,4] hp0 rfl rfl rfl rfl (by decide) (HN rfl) ⟨rfl,rfl,rfl,rfl,trivial⟩ ?_;rintro _ _ ⟨rfl,rfl⟩)
  conv=>whnf
  repeat' (first | (refine aSeq.go ?_;conv=>whnf) | fail)
  exact⟨_, .tp [.v (.bool false), .v (.int .i64 8)],hoH g s A d,fun _ _ h=>h,WkN.r (s:= [0,1,2,3,4,5]) ⟨⟨rfl,trivial⟩,⟨rfl,rfl,rfl,rfl,rfl,rfl,trivial⟩,rfl,rfl,rfl,rfl,rfl⟩, .inl ⟨rfl,rfl,rfl⟩⟩
 ·obtain⟨D,hD⟩:∃ D,D=(d.write P (AM P seq x.bytes)).1:=⟨_,rfl⟩
  have hw0:Gc (Aq g) D F (l ++ [⟨P,AM P seq x.bytes⟩])/\(d.write P (AM P seq x.bytes)).2=0:=by
   rcases hw0 with ⟨h1, -⟩ | ⟨-,h1,h2⟩
   ·exact absurd h1 h0
   ·rw [hD];exact⟨h2,h1⟩
  obtain⟨hwD,e0⟩:=hw0
  have hp0:=hp0.mono (K':=fun r H=>r = .tp [.v (.bool true), .v (.int .i64 0)]/\H=MB g s D) fun r H hh=>by
   rcases hh with ⟨h1, -⟩ | ⟨-,h1,h2,h3,h4⟩
   ·exact absurd h1 h0
   ·rw [hD];exact⟨h1,h4⟩
  have hp1:=N2 g s D F _ Q seq x.bytes hwD (by rw [List.length_append];show _+1<2000;omega) (by omega) ⟨by omega,by omega,hs.1,hs.2,by omega⟩
  have hw1:=hwD.write (a:=Q) (b:=AM Q seq x.bytes) (by rw [List.length_append];show _+1<2000;omega) (by omega) v3 (by rw [CM];omega)
  have hS1:S=Cf (D,1,false) ⟨Q,AM Q seq x.bytes⟩:=by
   rw [hS,ew,E9 d 0]
   simp only [e0]
   rw [<-hD]
   rfl
  by_cases h1:D.left=0
  ·have hp1:=hp1.mono (K':=fun r H=>r = .tp [.v (.bool false), .v (.int .i64 8)]/\H=MB g s D) fun r H hh=>by
    rcases hh with ⟨-,q1,q2⟩ | ⟨q1, -⟩
    ·exact⟨q1,q2⟩
    ·exact absurd h1 q1
   have hSd:S=(D,1,true):=by
    rcases hw1 with ⟨-,e8⟩ | ⟨q1, -⟩
    ·rw [hS1]
     unfold Cf
     simp only [e8]
     rfl
    ·exact absurd h1 q1
   rw [hSd]
   refine ACalls.ofR tys_ok Tryz.func156 rfl rfl (Ac rfl) ?_
   conv=>whnf
   refine aLoop.rounds 2 ?_
   conv=>whnf
   repeat' (first | (refine aSeq.go ?_;conv=>whnf) | fail)
   apply aDraw.tree tys_ok mixed (.one 0 (.one 1 (.one 2 (.one 3 (.one 4 (.one 5 (.one 6 (.one 7 (.one 8 (.one 9 (.one 10 (.one 11 (.one 12 (.one 13 (.one 14 (.one 15 .fin)))))))))))))))) [10,11,17,18,19,20,21,22,23,24,25,26,27,28,29,30] (by kernel_rfl)
   ·conv=>whnf
    refine Fn.cl ht0 ?_
    exact⟨rfl,rfl⟩
   conv=>whnf
   apply aDraw.treeK (2 ^ 136) tys_ok mixed (.one 0 (.one 1 (.one 2 (.one 3 (.one 4 (.one 5 (.one 6 (.one 7 (.one 8 (.one 9 (.one 10 (.one 11 (.one 12 (.one 13 .fin)))))))))))))) (by kernel_rfl)
   conv=>whnf
   (refine ACalls.frame [1,2,3,4] hp0 rfl rfl rfl rfl (by decide) (HN rfl) ⟨rfl,rfl,rfl,rfl,trivial⟩ ?_;rintro _ _ ⟨rfl,rfl⟩)
   conv=>whnf
   repeat' (first | (refine aSeq.go ?_;conv=>whnf) | fail)
   apply aDraw.tree tys_ok mixed (.one 0 (.one 1 (.one 2 (.one 3 (.one 4 (.one 5 (.one 6 (.one 7 (.one 8 (.one 9 (.one 10 (.one 11 (.one 12 (.one 13 (.one 14 (.one 15 .fin)))))))))))))))) [10,11,17,18,19,20,21,22,23,24,25,26,27,28,29,30] (by kernel_rfl)
   ·conv=>whnf
    refine Fn.cl ht1 ?_
    exact⟨rfl,rfl⟩
   conv=>whnf
   apply aDraw.treeK (2 ^ 136) tys_ok mixed (.one 0 (.one 1 (.one 2 (.one 3 (.one 4 (.one 5 (.one 6 (.one 7 (.one 8 (.one 9 (.one 10 (.one 11 (.one 12 (.one 13 .fin)))))))))))))) (by kernel_rfl)
   conv=>whnf
   (refine ACalls.frame [1,2,3,4] hp1 rfl rfl rfl rfl (by decide) (HN rfl) ⟨rfl,rfl,rfl,rfl,trivial⟩ ?_;rintro _ _ ⟨rfl,rfl⟩)
   conv=>whnf
   repeat' (first | (refine aSeq.go ?_;conv=>whnf) | fail)
   exact⟨_, .tp [.v (.bool false), .v (.int .i64 8)],hoH g s A D,fun _ _ h=>h,WkN.r (s:= [0,1,2,3,4,5]) ⟨⟨rfl,trivial⟩,⟨rfl,rfl,rfl,rfl,rfl,rfl,trivial⟩,rfl,rfl,rfl,rfl,rfl⟩, .inl ⟨rfl,rfl,rfl⟩⟩
  ·obtain⟨E,hE⟩:∃ E,E=(D.write Q (AM Q seq x.bytes)).1:=⟨_,rfl⟩
   have hw1:Gc (Aq g) E F (l ++ [⟨P,AM P seq x.bytes⟩] ++ [⟨Q,AM Q seq x.bytes⟩])/\(D.write Q (AM Q seq x.bytes)).2=0:=by
    rcases hw1 with ⟨q1, -⟩ | ⟨-,q1,q2⟩
    ·exact absurd q1 h1
    ·rw [hE];exact⟨q2,q1⟩
   obtain⟨hwE,e1⟩:=hw1
   have hp1:=hp1.mono (K':=fun r H=>r = .tp [.v (.bool true), .v (.int .i64 0)]/\H=MB g s E) fun r H hh=>by
    rcases hh with ⟨q1, -⟩ | ⟨-,q1,q2,q3,q4⟩
    ·exact absurd q1 h1
    ·rw [hE];exact⟨q1,q4⟩
   have hSd:S=(E,2,false):=by
    rw [hS1,E9 D 1]
    simp only [e1]
    rw [<-hE]
    rfl
   rw [hSd]
   refine ACalls.ofR tys_ok Tryz.func156 rfl rfl (Ac rfl) ?_
   conv=>whnf
   refine aLoop.rounds 3 ?_
   conv=>whnf
   repeat' (first | (refine aSeq.go ?_;conv=>whnf) | fail)
   apply aDraw.tree tys_ok mixed (.one 0 (.one 1 (.one 2 (.one 3 (.one 4 (.one 5 (.one 6 (.one 7 (.one 8 (.one 9 (.one 10 (.one 11 (.one 12 (.one 13 (.one 14 (.one 15 .fin)))))))))))))))) [10,11,17,18,19,20,21,22,23,24,25,26,27,28,29,30] (by kernel_rfl)
   ·conv=>whnf
    refine Fn.cl ht0 ?_
    exact⟨rfl,rfl⟩
   conv=>whnf
   apply aDraw.treeK (2 ^ 136) tys_ok mixed (.one 0 (.one 1 (.one 2 (.one 3 (.one 4 (.one 5 (.one 6 (.one 7 (.one 8 (.one 9 (.one 10 (.one 11 (.one 12 (.one 13 .fin)))))))))))))) (by kernel_rfl)
   conv=>whnf
   (refine ACalls.frame [1,2,3,4] hp0 rfl rfl rfl rfl (by decide) (HN rfl) ⟨rfl,rfl,rfl,rfl,trivial⟩ ?_;rintro _ _ ⟨rfl,rfl⟩)
   conv=>whnf
   repeat' (first | (refine aSeq.go ?_;conv=>whnf) | fail)
   apply aDraw.tree tys_ok mixed (.one 0 (.one 1 (.one 2 (.one 3 (.one 4 (.one 5 (.one 6 (.one 7 (.one 8 (.one 9 (.one 10 (.one 11 (.one 12 (.one 13 (.one 14 (.one 15 .fin)))))))))))))))) [10,11,17,18,19,20,21,22,23,24,25,26,27,28,29,30] (by kernel_rfl)
   ·conv=>whnf
    refine Fn.cl ht1 ?_
    exact⟨rfl,rfl⟩
   conv=>whnf
   apply aDraw.treeK (2 ^ 136) tys_ok mixed (.one 0 (.one 1 (.one 2 (.one 3 (.one 4 (.one 5 (.one 6 (.one 7 (.one 8 (.one 9 (.one 10 (.one 11 (.one 12 (.one 13 .fin)))))))))))))) (by kernel_rfl)
   conv=>whnf
   (refine ACalls.frame [1,2,3,4] hp1 rfl rfl rfl rfl (by decide) (HN rfl) ⟨rfl,rfl,rfl,rfl,trivial⟩ ?_;rintro _ _ ⟨rfl,rfl⟩)
   conv=>whnf
   repeat' (first | (refine aSeq.go ?_;conv=>whnf) | fail)
   apply aDraw.treeK (0) tys_ok mixed (.one 0 (.one 1 (.one 2 (.one 3 (.one 4 (.one 5 (.one 6 (.one 7 (.one 8 (.one 9 (.one 10 .fin))))))))))) (by kernel_rfl)
   conv=>whnf
   try (refine And.intro (by first | omega | (simp;done)) ?_;conv=>whnf)
   try (refine And.intro ⟨rfl,by first | rfl | (simp;done) | (simp;omega),by first | omega | (simp;omega)⟩ ?_;conv=>whnf)
   rw [show (A.homes.map CH).getD x.zone.toNat []=CH (A.homes.getD x.zone.toNat ⟨[],0,0⟩) from AR hzA]
   conv=>whnf
   have eu:BF A seq x={ A with homes:=A.homes.set x.zone.toNat { A.homes.getD x.zone.toNat ⟨[],0,0⟩ with root:=seq } }:=if_pos h255
   have hl2:(BF A seq x).homes.length=A.homes.length:=Eh A seq x
   refine⟨_, .tp [.v (.bool true), .v (.int .i64 0)],hoH g s (BF A seq x) E,fun _ _ h=>h,WkN.r (s:= [0,1,2,3,4,5]) ⟨⟨rfl,trivial⟩,⟨?_,rfl,rfl,rfl,rfl,?_,trivial⟩,rfl,rfl,rfl,rfl,rfl⟩, .inr ⟨rfl,rfl,by rw [As] at hwE;exact hwE,rfl⟩⟩
   ·rw [hl2,eu]
    rfl
   ·rw [eu]
    exact congrArg (fun es=>some (AB.row 53 3 es)) (BX (f:=CH) (l:=A.homes) (i:=x.zone.toNat) (a:={ A.homes.getD x.zone.toNat ⟨[],0,0⟩ with root:=seq })).symm
theorem Ss (g:Geo) (s:Stt) (A:An) (d:Dk) (F:Int->List UInt8) (l:List Wr) (seq:Int) (x:Img) (hg:A_ g=true) (hA:AN g A=true) (hx:Bl g x=true) (hs:0<=seq/\seq<=4294967295) (h:Gc (Aq g) d F l) (hl:l.length<1900) :
  ACalls Tryz.prog false 84 [.bp 0 0, .v (.int .i64 seq), .ag (DE x)] (hoH g s A d) fun r H=>((d.writes (BH g A seq x)).2.2=true/\r = .tp [.v (.bool false), .v (.int .i64 8)]/\H=hoH g s A (d.writes (BH g A seq x)).1)\/((d.writes (BH g A seq x)).2.2=false/\r = .tp [.v (.bool true), .v (.int .i64 0)]/\Gc (Aq g) (d.writes (BH g A seq x)).1 F (l ++ BH g A seq x)/\H=hoH g s (BF A seq x) (d.writes (BH g A seq x)).1):=by
 by_cases h255:x.what=255
 ·have hc:=Sp g s A d F l seq x hg hA hx h255 hs h hl
  refine ACalls.ofR tys_ok Tryz.func84 rfl rfl (Ac rfl) ?_
  conv=>whnf
  rw [show (x.what == 255)=true from beq_iff_eq.2 h255]
  conv=>whnf
  refine ACalls.frame [0,1,2,3,4,5] hc rfl rfl rfl rfl (by decide) (EE rfl) ⟨rfl,rfl,rfl,rfl,rfl,rfl,trivial⟩ ?_
  rintro _ _ (⟨q1,rfl,rfl⟩ | ⟨q1,rfl,q2,rfl⟩)
  ·exact⟨_, .tp [.v (.bool false), .v (.int .i64 8)],hoH g s A (d.writes (BH g A seq x)).1,fun _ _ h=>h,WkN.r (s:= [0,1,2,3,4,5]) ⟨⟨rfl,trivial⟩,⟨rfl,rfl,rfl,rfl,rfl,rfl,trivial⟩,rfl,rfl,rfl,rfl,rfl⟩, .inl ⟨q1,rfl,rfl⟩⟩
  ·exact⟨_, .tp [.v (.bool true), .v (.int .i64 0)],hoH g s (BF A seq x) (d.writes (BH g A seq x)).1,fun _ _ h=>h,WkN.r (s:= [0,1,2,3,4,5]) ⟨⟨rfl,trivial⟩,⟨rfl,rfl,rfl,rfl,rfl,rfl,trivial⟩,rfl,rfl,rfl,rfl,rfl⟩, .inr ⟨q1,rfl,q2,rfl⟩⟩
 ·have hc:=St g s A d F l seq x hg hA hx h255 hs h hl
  have ei:BH g A seq x=[⟨B3 g A x.zone x.what,AM (B3 g A x.zone x.what) seq x.bytes⟩]:=if_neg h255
  have eu:BF A seq x=A:=if_neg h255
  have hw8:d.left=0->d.write (B3 g A x.zone x.what) (AM (B3 g A x.zone x.what) seq x.bytes)=(d,8):=fun h0=>by unfold Dk.write;rw [if_pos h0]
  rw [ei,Kd,eu]
  simp only
  generalize AM (B3 g A x.zone x.what) seq x.bytes=B at hc hw8 |-
  generalize B3 g A x.zone x.what=X at hc hw8 |-
  refine ACalls.ofR tys_ok Tryz.func84 rfl rfl (Ac rfl) ?_
  conv=>whnf
  rw [show (x.what == 255)=false from beq_eq_false_iff_ne.2 h255]
  conv=>whnf
  refine ACalls.frame [0,1,2,3,4,5] hc rfl rfl rfl rfl (by decide) (EE rfl) ⟨rfl,rfl,rfl,rfl,rfl,rfl,trivial⟩ ?_
  rintro _ _ (⟨q1,rfl,rfl⟩ | ⟨q1,rfl,q2,q3,rfl⟩)
  ·rw [hw8 q1]
   exact⟨_, .tp [.v (.bool false), .v (.int .i64 8)],hoH g s A d,fun _ _ h=>h,WkN.r (s:= [0,1,2,3,4,5]) ⟨⟨rfl,trivial⟩,⟨rfl,rfl,rfl,rfl,rfl,rfl,trivial⟩,rfl,rfl,rfl,rfl,rfl⟩, .inl ⟨rfl,rfl,rfl⟩⟩
  ·rw [q3]
   exact⟨_, .tp [.v (.bool true), .v (.int .i64 0)],hoH g s A (d.write X B).1,fun _ _ h=>h,WkN.r (s:= [0,1,2,3,4,5]) ⟨⟨rfl,trivial⟩,⟨rfl,rfl,rfl,rfl,rfl,rfl,trivial⟩,rfl,rfl,rfl,rfl,rfl⟩, .inr ⟨rfl,rfl,q2,rfl⟩⟩
@[reducible] def Yk (g:Geo) (s:Stt) (x:Tx) (A:An) (d:Dk):List AB:=MB g s d ++ ([.box 45 (CI x), .row 53 3 (A.homes.map CH), .box 165 [.bp 0 0, .v (.int .i64 A.gen), .v (.int .i64 A.epoch), .v (.int .i64 A.pos), .v (.int .i64 A.seq), .v (.int .i64 A.last), .v (.string A.label), .ow 5 A.homes.length, .v (.int .i64 0)]]:List AB)
theorem XQ {m:Nat} (h:Nat.ble 7 m=true):∀ z∈ [6,0,1,2,3,5],z<m:=fun z hz=>by
 have:=Ac h
 simp at hz
 omega
theorem WS {m:Nat} (h:Nat.ble 8 m=true):∀ z∈ [0,1,2,7],z<m:=fun z hz=>by
 have:=Ac h
 simp at hz
 omega
theorem Xe (g:Geo) (s:Stt) (x:Tx) (r:List Tx) (d:Dk) (F:Int->List UInt8) (hg:A_ g=true) (ha:AN g s.a=true) (hs:s.txns=x::r) (hsm:StSm s) (honly:s.only=false) (hgen:s.a.gen<4294967295) (hseq:s.a.seq<4294967295) (hxs:x.seq=s.a.seq) (hxp:0<=x.pos/\x.pos<g.sl) (hxn:x.n=(x.images.length:Nat)+1) (hxi:∀ y∈x.images,Bl g y=true) (hmv:s.moved=0) (h:Gc (Aq g) d F []) :
  ACalls Tryz.prog false 35 [.bp 0 0] (MB g s d) fun v H=>v = .tp [.v (.int .i64 (ES g s x r d).2.2.1), .v (.int .i64 (ES g s x r d).2.2.2)]/\H=bwG g (ES g s x r d).1 (ES g s x r d).2.1:=by
 obtain⟨g1,g2,g3,g4,g5⟩:=Ak.1 hg
 obtain⟨a1,a2,a3,a4⟩:=DB ha
 have hi30:x.images.length<=30:=(hsm.t.2 x (by rw [hs];simp)).1
 have hdrop:=TX x r (by rw [<-hs];have:=hsm.t.1;omega) (fun t ht=>by
  have:=hsm.t.2 t (by rw [hs];exact ht)
  exact⟨by omega,fun y hy=>by have:=this.2 y hy;omega⟩)
 rw [<-hs] at hdrop
 have hatw:=SK s.a (by have:=hsm.h.1;omega) hsm.h.2
 refine ACalls.ofR tys_ok Tryz.func35 rfl rfl (Ac rfl) ?_
 conv=>whnf
 refine Fn.cl hdrop ?_
 conv=>whnf
 rw [honly]
 conv=>whnf
 rw [show (s.a.gen == 4294967295)=false from beq_eq_false_iff_ne.2 (by omega)]
 conv=>whnf
 rw [show (s.a.seq == 4294967295)=false from beq_eq_false_iff_ne.2 (by omega)]
 conv=>whnf
 refine ACalls.beside hatw rfl ?_
 rintro _ _ ⟨rfl,rfl⟩
 conv=>whnf
 have hin0:=Mh hg ha hxi (seq:=x.seq)
 refine aLoop.ruleRR (Nat × Dk) (fun y=>([(0, .bp 0 0),(4, .bp 4 0),(5,CW r),(7, .bp 6 0),(60,Ef x.images),(61, .v (.int .i64 (x.images.length:Nat))),(62, .v (.int .i64 (y.1:Nat)))],Yk g s x (Bp s.a x.seq (x.images.take y.1)) y.2)) (fun y=>y.1<=x.images.length/\(d.writes (Bt g s.a x.seq (x.images.take y.1))).1=y.2/\(d.writes (Bt g s.a x.seq (x.images.take y.1))).2.2=false/\Gc (Aq g) y.2 F (Bt g s.a x.seq (x.images.take y.1))) (fun y=>x.images.length - y.1) (0,d) ⟨Ad _,rfl,rfl,h⟩
  (WkN.r (s:= [0,1,2,3,4,5,6]) ⟨⟨rfl,rfl,rfl,rfl,rfl,rfl,rfl,trivial⟩,⟨rfl,rfl,rfl,rfl,rfl,rfl,rfl,trivial⟩,rfl,rfl,rfl,rfl,rfl⟩) ?_
 rintro⟨i,d1⟩ ⟨hi,hd1,hlv,hg1⟩
 simp only at hi hd1 hlv hg1
 have hAok:=FQ (g:=g) (seq:=x.seq) (by omega) (x.images.take i) ha
 have hAl:=G6 x.seq (x.images.take i) s.a
 obtain⟨A,hA⟩:∃ A,A=Bp s.a x.seq (x.images.take i):=⟨_,rfl⟩
 rw [<-hA] at hAok hAl |-
 by_cases hin:i<x.images.length
 ·obtain⟨y,hy⟩:∃ y,y=x.images.getD i ⟨0,0, []⟩:=⟨_,rfl⟩
  have hym:y∈x.images:=by rw [hy];exact Ay hin
  have hyk:=hxi y hym
  have htk:x.images.take (i+1)=x.images.take i ++ [y]:=by
   rw [AQ,List.getElem?_eq_getElem hin,hy,List.getD_eq_getElem?_getD,List.getElem?_eq_getElem hin]
   rfl
  have hup:Bp s.a x.seq (x.images.take (i+1))=BF A x.seq y:=by rw [htk,Jy,<-hA]
  have hwl:(Bt g s.a x.seq (x.images.take i)).length<=2*i:=AS (FJ _) (by rw [Al];omega)
  have hzl:y.zone.toNat<s.a.homes.length:=(Mm ha (Cg hyk).1).1
  have ewr:BH g A x.seq y=BH g s.a x.seq y:=by rw [hA];exact O5 hzl
  have eW:Bt g s.a x.seq (x.images.take (i+1))=Bt g s.a x.seq (x.images.take i) ++ BH g s.a x.seq y:=by
   rw [htk,Fh]
   show _ ++ (BH g s.a x.seq y ++ [])=_
   rw [List.append_nil]
  have hc:=Ss g s A d1 F _ x.seq y hg hAok hyk (by omega) hg1 (by omega)
  rw [ewr] at hc
  have hthen:=N5 (d:=d) (l:=Bt g s.a x.seq (x.images.take i)) (BH g s.a x.seq y) hlv
  rw [hd1,<-eW] at hthen
  conv=>whnf
  rw [show decide ((i:Int)<(x.images.length:Nat))=true from decide_eq_true (by omega)]
  conv=>whnf
  repeat' (first | (refine aSeq.go ?_;conv=>whnf) | fail)
  refine⟨⟨by omega,by omega⟩,?_⟩
  conv=>whnf
  rw [Ab,<-hy]
  refine ACalls.frame [6,0,1,2,3,5] hc rfl rfl rfl rfl (by decide) (XQ rfl) ⟨rfl,rfl,rfl,rfl,rfl,rfl,trivial⟩ ?_
  rintro _ _ (⟨q1,rfl,rfl⟩ | ⟨q1,rfl,q2,rfl⟩)
  ·conv=>whnf
   repeat' (first | (refine aSeq.go ?_;conv=>whnf) | fail)
   have hdead:(d.writes (Bt g s.a x.seq (x.images.take (i+1)))).2.2=true:=by rw [hthen];exact q1
   have hall:d.writes (Bt g s.a x.seq x.images)=d.writes (Bt g s.a x.seq (x.images.take (i+1))):=by
    have:=Pe d (Bt g s.a x.seq (x.images.take (i+1))) (Bt g s.a x.seq (x.images.drop (i+1))) hdead
    rwa [<-Fh,Ba] at this
   have hck:ES g s x r d=(s,(d1.writes (BH g s.a x.seq y)).1,0,8):=by
    unfold ES
    rw [Dp (by rw [hall];exact hdead),hall,hthen]
   rw [hck]
   exact⟨_, .tp [.v (.int .i64 0), .v (.int .i64 8)],bwG g s (d1.writes (BH g s.a x.seq y)).1,fun _ _ h=>h,WkN.rc (ConvF.ofH (ConvH.move 1 3 (by decide) rfl rfl)) (s:= [0,1,2,3,8]) ⟨⟨rfl,trivial⟩,⟨rfl,rfl,rfl,trivial,rfl,trivial⟩,rfl,rfl,rfl,rfl,rfl⟩,rfl,rfl⟩
  ·conv=>whnf
   repeat' (first | (refine aSeq.go ?_;conv=>whnf) | fail)
   refine⟨(i+1,(d1.writes (BH g s.a x.seq y)).1),⟨by show i+1<=x.images.length;omega,?_,?_,?_⟩,by show x.images.length - (i+1)<x.images.length - i;omega,?_⟩
   ·show (d.writes (Bt g s.a x.seq (x.images.take (i+1)))).1=_
    rw [hthen]
   ·show (d.writes (Bt g s.a x.seq (x.images.take (i+1)))).2.2=false
    rw [hthen]
    exact q1
   ·show Gc (Aq g) _ F (Bt g s.a x.seq (x.images.take (i+1)))
    rw [eW]
    exact q2
   ·show WkR _ _ _ _ (Yk g s x (Bp s.a x.seq (x.images.take (i+1))) _)
    rw [hup]
    exact WkN.r (s:= [0,1,2,3,4,5,6]) ⟨⟨rfl,rfl,rfl,rfl,rfl,rfl,A7 (by omega),trivial⟩,⟨rfl,rfl,rfl,rfl,rfl,rfl,rfl,trivial⟩,rfl,rfl,rfl,rfl,rfl⟩
 ·have ei:i=x.images.length:=by omega
  rw [ei,List.take_length] at hd1 hlv hg1 hA
  have hA2:=EN x.seq x.images s.a
  rw [<-hA] at hA2
  have hW:=FJ (g:=g) (a:=s.a) (seq:=x.seq) x.images
  have hok1:=hg1.ok
  have hfl:=Lk d1 hok1.l hok1.m fun w hw=>(hok1.w w hw).1
  have hp:=CV hlv
  rw [hd1] at hp
  conv=>whnf
  rw [show decide ((i:Int)<(x.images.length:Nat))=false from decide_eq_false (by omega)]
  conv=>whnf
  repeat' (first | (refine aSeq.go ?_;conv=>whnf) | fail)
  refine ACalls.frame [1,2,3] hfl rfl rfl rfl rfl (by decide) (Iy rfl) ⟨rfl,rfl,rfl,trivial⟩ ?_
  rintro _ _ ⟨rfl,rfl⟩
  by_cases h0:d1.left=0
  ·simp only [h0,if_true] at hp |-
   conv=>whnf
   repeat' (first | (refine aSeq.go ?_;conv=>whnf) | fail)
   have hck:ES g s x r d=(s,d1,0,8):=by
    unfold ES
    rw [hp]
   rw [hck]
   exact⟨_, .tp [.v (.int .i64 0), .v (.int .i64 8)],bwG g s d1,fun _ _ h=>h,WkN.r (s:= [0,1,2,3,7]) ⟨⟨rfl,trivial⟩,⟨rfl,rfl,rfl,trivial,rfl,trivial⟩,rfl,rfl,rfl,rfl,rfl⟩,rfl,rfl⟩
  ·simp only [h0,if_false] at hp |-
   conv=>whnf
   repeat' (first | (refine aSeq.go ?_;conv=>whnf) | fail)
   apply aDraw.dag (4176) tys_ok mixed [([],23,(.one 0 (.one 1 (.one 2 (.one 3 (.one 5 (.one 8 (.one 9 (.one 10 (.one 11 (.one 14 (.one 15 (.one 16 (.one 17 (.alt 4 (.alt 6 (.jump 1) (.alt 12 (.jump 2) (.alt 18 (.jump 3) .non))) (.alt 6 (.alt 4 (.jump 1) (.alt 12 (.jump 4) (.alt 18 (.jump 5) .non))) (.alt 12 (.alt 4 (.jump 2) (.alt 6 (.jump 4) (.alt 18 (.jump 6) .non))) (.alt 18 (.alt 4 (.jump 3) (.alt 6 (.jump 5) (.alt 12 (.jump 6) .non))) .non)))))))))))))))))),([0,1,2,3,4,5,6,8,9,10,11,14,15,16,17],8,(.one 7 (.alt 12 (.one 13 (.one 18 (.one 19 (.one 20 (.one 21 (.one 22 .fin)))))) (.alt 18 (.one 12 (.one 13 (.one 19 (.one 20 (.one 21 (.one 22 .fin)))))) .non)))),([0,1,2,3,4,5,8,9,10,11,12,14,15,16,17],8,(.alt 6 (.jump 7) (.alt 18 (.jump 9) .non))),([0,1,2,3,4,5,8,9,10,11,14,15,16,17,18],8,(.alt 6 (.jump 8) (.alt 12 (.jump 9) .non))),([0,1,2,3,5,6,8,9,10,11,12,14,15,16,17],8,(.alt 4 (.jump 7) (.alt 18 (.jump 10) .non))),([0,1,2,3,5,6,8,9,10,11,14,15,16,17,18],8,(.alt 4 (.jump 8) (.alt 12 (.jump 10) .non))),([0,1,2,3,5,8,9,10,11,12,14,15,16,17,18],8,(.alt 4 (.jump 9) (.alt 6 (.jump 10) .non))),([0,1,2,3,4,5,6,8,9,10,11,12,14,15,16,17],7,(.one 7 (.one 13 (.one 18 (.one 19 (.one 20 (.one 21 (.one 22 .fin)))))))),([0,1,2,3,4,5,6,8,9,10,11,14,15,16,17,18],7,(.one 7 (.one 12 (.one 13 (.one 19 (.one 20 (.one 21 (.one 22 .fin)))))))),([0,1,2,3,4,5,8,9,10,11,12,14,15,16,17,18],7,(.one 6 (.one 7 (.one 13 (.one 19 (.one 20 (.one 21 (.one 22 .fin)))))))),([0,1,2,3,5,6,8,9,10,11,12,14,15,16,17,18],7,(.one 4 (.one 7 (.one 13 (.one 19 (.one 20 (.one 21 (.one 22 .fin))))))))] [94,95,96,97,98,99,100,101,102,103,104,105,106,107,108,109,110,111,112,113] [(_,_),(_,_),(_,_),(_,_),(_,_),(_,_),(_,_),(_,_),(_,_),(_,_)] (by kernel_rfl)
   ·refine And.intro ?_ ?_
    ·refine And.intro ?_ (And.intro ?_ (And.intro ?_ (And.intro ?_ (trivial))))
     ·refine And.intro ?_ (And.intro ?_ (And.intro ?_ (trivial)))
      ·exact⟨rfl,rfl⟩
      ·exact⟨rfl,rfl⟩
      ·conv=>whnf
       try (refine And.intro ⟨rfl,by first | rfl | (simp;done) | (simp;omega),by first | omega | (simp;omega)⟩ ?_;conv=>whnf)
       exact⟨rfl,rfl⟩
     ·refine And.intro ?_ (And.intro ?_ (And.intro ?_ (trivial)))
      ·exact⟨rfl,rfl⟩
      ·exact⟨rfl,rfl⟩
      ·conv=>whnf
       try (refine And.intro ⟨rfl,by first | rfl | (simp;done) | (simp;omega),by first | omega | (simp;omega)⟩ ?_;conv=>whnf)
       exact⟨rfl,rfl⟩
     ·refine And.intro ?_ (And.intro ?_ (And.intro ?_ (trivial)))
      ·exact⟨rfl,rfl⟩
      ·exact⟨rfl,rfl⟩
      ·conv=>whnf
       try (refine And.intro ⟨rfl,by first | rfl | (simp;done) | (simp;omega),by first | omega | (simp;omega)⟩ ?_;conv=>whnf)
       exact⟨rfl,rfl⟩
     ·conv=>whnf
      try (refine And.intro ⟨rfl,by first | rfl | (simp;done) | (simp;omega),by first | omega | (simp;omega)⟩ ?_;conv=>whnf)
      refine And.intro ?_ (And.intro ?_ (And.intro ?_ (trivial)))
      ·exact⟨rfl,rfl⟩
      ·exact⟨rfl,rfl⟩
      ·exact⟨rfl,rfl⟩
    refine And.intro ?_ ?_
    ·refine And.intro ?_ (And.intro ?_ (trivial))
     ·conv=>whnf
      try (refine And.intro (by first | omega | (simp;done)) ?_;conv=>whnf)
      try (refine And.intro ⟨rfl,by first | rfl | (simp;done) | (simp;omega),by first | omega | (simp;omega)⟩ ?_;conv=>whnf)
      try (refine And.intro ⟨rfl,by first | rfl | (simp;done) | (simp;omega),by first | omega | (simp;omega)⟩ ?_;conv=>whnf)
      try (refine And.intro ⟨rfl,by first | rfl | (simp;done) | (simp;omega),by first | omega | (simp;omega)⟩ ?_;conv=>whnf)
      exact⟨rfl,rfl⟩
     ·conv=>whnf
      try (refine And.intro ⟨rfl,by first | rfl | (simp;done) | (simp;omega),by first | omega | (simp;omega)⟩ ?_;conv=>whnf)
      try (refine And.intro (by first | omega | (simp;done)) ?_;conv=>whnf)
      try (refine And.intro ⟨rfl,by first | rfl | (simp;done) | (simp;omega),by first | omega | (simp;omega)⟩ ?_;conv=>whnf)
      try (refine And.intro ⟨rfl,by first | rfl | (simp;done) | (simp;omega),by first | omega | (simp;omega)⟩ ?_;conv=>whnf)
      exact⟨rfl,rfl⟩
    refine And.intro ?_ ?_
    ·refine And.intro ?_ (And.intro ?_ (trivial))
     ·exact⟨rfl,rfl⟩
     ·conv=>whnf
      try (refine And.intro ⟨rfl,by first | rfl | (simp;done) | (simp;omega),by first | omega | (simp;omega)⟩ ?_;conv=>whnf)
      exact⟨rfl,rfl⟩
    refine And.intro ?_ ?_
    ·refine And.intro ?_ (And.intro ?_ (trivial))
     ·exact⟨rfl,rfl⟩
     ·exact⟨rfl,rfl⟩
    refine And.intro ?_ ?_
    ·refine And.intro ?_ (And.intro ?_ (trivial))
     ·exact⟨rfl,rfl⟩
     ·conv=>whnf
      try (refine And.intro ⟨rfl,by first | rfl | (simp;done) | (simp;omega),by first | omega | (simp;omega)⟩ ?_;conv=>whnf)
      exact⟨rfl,rfl⟩
    refine And.intro ?_ ?_
    ·refine And.intro ?_ (And.intro ?_ (trivial))
     ·exact⟨rfl,rfl⟩
     ·exact⟨rfl,rfl⟩
    refine And.intro ?_ ?_
    ·refine And.intro ?_ (And.intro ?_ (trivial))
     ·exact⟨rfl,rfl⟩
     ·exact⟨rfl,rfl⟩
    refine And.intro ?_ ?_
    ·conv=>whnf
     try (refine And.intro (by first | omega | (simp;done)) ?_;conv=>whnf)
     try (refine And.intro ⟨rfl,by first | rfl | (simp;done) | (simp;omega),by first | omega | (simp;omega)⟩ ?_;conv=>whnf)
     try (refine And.intro ⟨rfl,by first | rfl | (simp;done) | (simp;omega),by first | omega | (simp;omega)⟩ ?_;conv=>whnf)
     try (refine And.intro ⟨rfl,by first | rfl | (simp;done) | (simp;omega),by first | omega | (simp;omega)⟩ ?_;conv=>whnf)
     exact⟨rfl,rfl⟩
    refine And.intro ?_ ?_
    ·conv=>whnf
     try (refine And.intro (by first | omega | (simp;done)) ?_;conv=>whnf)
     try (refine And.intro ⟨rfl,by first | rfl | (simp;done) | (simp;omega),by first | omega | (simp;omega)⟩ ?_;conv=>whnf)
     try (refine And.intro ⟨rfl,by first | rfl | (simp;done) | (simp;omega),by first | omega | (simp;omega)⟩ ?_;conv=>whnf)
     exact⟨rfl,rfl⟩
    refine And.intro ?_ ?_
    ·conv=>whnf
     try (refine And.intro (by first | omega | (simp;done)) ?_;conv=>whnf)
     try (refine And.intro ⟨rfl,by first | rfl | (simp;done) | (simp;omega),by first | omega | (simp;omega)⟩ ?_;conv=>whnf)
     try (refine And.intro ⟨rfl,by first | rfl | (simp;done) | (simp;omega),by first | omega | (simp;omega)⟩ ?_;conv=>whnf)
     exact⟨rfl,rfl⟩
    refine And.intro ?_ ?_
    ·conv=>whnf
     try (refine And.intro (by first | omega | (simp;done)) ?_;conv=>whnf)
     try (refine And.intro ⟨rfl,by first | rfl | (simp;done) | (simp;omega),by first | omega | (simp;omega)⟩ ?_;conv=>whnf)
     try (refine And.intro ⟨rfl,by first | rfl | (simp;done) | (simp;omega),by first | omega | (simp;omega)⟩ ?_;conv=>whnf)
     exact⟨rfl,rfl⟩
    conv=>whnf
    exact trivial
   conv=>whnf
   have E1:IntKind.i64.wrap (A.gen+1)=(Bg g s.a x).gen:=by
    rw [hA2.1]
    exact wi (by omega)
   have E2:(IntKind.i64.wrap (x.pos+x.n)).tmod g.sl=(Bg g s.a x).pos:=by
    rw [wi (by omega)]
    rfl
   have E3:IntKind.i64.wrap (A.seq+1)=(Bg g s.a x).seq:=by
    rw [hA2.2.2.2.1]
    exact wi (by omega)
   have E4:(if A.last<IntKind.i64.wrap ((Bg g s.a x).seq - 1) then IntKind.i64.wrap ((Bg g s.a x).seq - 1) else A.last)=(Bg g s.a x).last:=by
    show (if A.last<IntKind.i64.wrap (s.a.seq+1 - 1) then IntKind.i64.wrap (s.a.seq+1 - 1) else A.last)=max s.a.last s.a.seq
    rw [hA2.2.2.2.2.1,wi (by omega)]
    split <;> omega
   dsimp only
   rw [E1,E2,E3,E4]
   have hS:=Ik hg ha hgen hseq hxs hxp.1 (by rw [hxn];omega)
   have hokf:=hok1.flush
   have hlf:=Rg d1
   have hban:=OX g s d1.flush (Bg g s.a x) hg hS hokf (Ia hg hS (by rw [hlf];exact hg1.len))
   have hgf:=(Gc.flush hg1).putAll (l:=Av g (Bg g s.a x)) (EI hg hS) (by rw [Cj];omega)
   rw [Cj] at hgf
   subst hA
   obtain⟨M,hM⟩:∃ M:AV,M = .sl 3 ((Bp s.a x.seq x.images).homes.map CH).length fun i=>((Bp s.a x.seq x.images).homes.map CH).getD i []:=⟨_,rfl⟩
   have m1:∀ (c:Ctx) (v:Value),Rd M c v->Rd (Hq (Bg g s.a x).homes) c v:=by rw [hM];exact AH (f:=CH) (Bp s.a x.seq x.images).homes (Aa _) rfl
   refine ACalls.lendBox2 (cs2:=Ly (Bg g s.a x) M) (ar2:=Ly (Bg g s.a x) M) 8 5 rfl rfl ?_ ?_ ?_
   ·rw [<-hM]
    simp only [Ap,AT,EP (Aa _).symm]
    rfl
   ·rw [<-hM]
    simp only [Ap,AT,EP (Aa _).symm]
    rfl
   subst hM
   refine ACalls.sub [.bp 0 0, .ag (Dx (Bg g s.a x))] ⟨ri,AG ⟨ri,ri,ri,ri,ri,ri,m1,trivial⟩,trivial⟩ ?_
   refine ACalls.frame [0,1,2,7] hban rfl rfl rfl rfl (by decide) (WS rfl) ⟨rfl,rfl,rfl,rfl,trivial⟩ ?_
   rintro _ _ ⟨rfl,rfl⟩
   have hck:ES g s x r d=match d1.flush.putAll (Av g (Bg g s.a x)) with
     | (d2,_,true)=>(s,d2,0,8)
     | (d2,_,false)=>({ s with a:=Bg g s.a x,txns:=r },d2,(x.images.length:Nat),0):=by
    unfold ES
    rw [hp]
    try rfl
   generalize d1.flush.putAll (Av g (Bg g s.a x))=p at hck hgf |-
   obtain⟨d2,n2,b2⟩:=p
   rw [hck]
   cases b2 with
   | true=>
    simp only [if_true]
    conv=>whnf
    repeat' (first | (refine aSeq.go ?_;conv=>whnf) | fail)
    exact⟨_, .tp [.v (.int .i64 0), .v (.int .i64 8)],bwG g s d2,fun _ _ h=>h,WkN.r (s:= [0,1,2,3,9]) ⟨⟨rfl,trivial⟩,⟨rfl,rfl,rfl,trivial,rfl,trivial⟩,rfl,rfl,rfl,rfl,rfl⟩,rfl,rfl⟩
   | false=>
    obtain⟨n2e, -⟩:=hgf rfl
    simp only at n2e
    simp only [B9,if_false]
    conv=>whnf
    repeat' (first | (refine aSeq.go ?_;conv=>whnf) | fail)
    rw [show ((n2:Int) == 0)=false from beq_eq_false_iff_ne.2 (by omega)]
    conv=>whnf
    repeat' (first | (refine aSeq.go ?_;conv=>whnf) | fail)
    apply aDraw.treeK (0) tys_ok mixed (.one 0 (.one 1 (.one 2 (.one 3 (.one 4 (.one 5 (.one 6 (.one 7 (.one 8 (.one 9 (.one 10 (.one 11 (.one 12 (.one 13 (.one 14 (.one 15 .fin)))))))))))))))) (by kernel_rfl)
    conv=>whnf
    try (refine And.intro ⟨rfl,by first | rfl | (simp;done) | (simp;omega),by first | omega | (simp;omega)⟩ ?_;conv=>whnf)
    rw [show IntKind.i64.wrap (s.moved+0)=s.moved by rw [hmv];rfl]
    exact⟨_, .tp [.v (.int .i64 (x.images.length:Nat)), .v (.int .i64 0)],bwG g { s with a:=Bg g s.a x,txns:=r } d2,ri,WkN.rc (ConvF.ofH (ConvH.subBox (cs':=Xm g (.bp 1 0) { s with a:=Bg g s.a x,txns:=r }) 0 rfl ⟨ri,ri,ri,ri,ri,ri,ri,ri,ri,ri,ri,ri,m1,ri,ri,ri,ri,ri,ri,ri,trivial⟩)) (s:= [0,1,2,3,9]) ⟨⟨rfl,trivial⟩,⟨rfl,rfl,rfl,trivial,rfl,trivial⟩,rfl,rfl,rfl,rfl,rfl⟩,rfl,rfl⟩
theorem I2 {g:Geo} (hg:A_ g=true) {a:An} (ha:AN g a=true) {l:List Img} (hl:∀ x∈l,Bl g x=true) {seq:Int}:∀ w∈Bt g a seq l,(0<=w.addr/\w.addr<Aq g)/\w.bytes.length<=200:=fun w hw=>by
 have hi:=Mh hg ha hl w hw
 obtain⟨y,hy,hwy⟩:=Et.1 hw
 have hyl:=Eu hg (hl y hy)
 obtain⟨g1,g2,g3,g4,g5⟩:=Ak.1 hg
 refine⟨⟨by omega,hi.2⟩,?_⟩
 unfold BH at hwy
 split at hwy
 ·simp only [A9,List.not_mem_nil,or_false] at hwy
  rcases hwy with rfl | rfl <;> exact Dj (by omega)
 ·rw [A5] at hwy
  rw [hwy]
  exact Dj (by omega)
theorem VY {g:Geo} (hg:A_ g=true) {s:Stt} {x:Tx} {r:List Tx} {d:Dk} (ha:AN g s.a=true) (ha2:AN g (Bg g s.a x)=true) (hxi:∀ y∈x.images,Bl g y=true) (h:DkOk d) (hn:(d.cells.length:Int)=Aq g):DkOk (ES g s x r d).2.1/\((ES g s x r d).2.2.2=8\/(ES g s x r d).2.2.2=0):=by
 have h1:=FC h (l:=Bt g s.a x.seq x.images) fun w hw=>by
  have:=I2 hg ha hxi w hw
  exact⟨by omega,this.2⟩
 unfold ES
 generalize d.putAll (Bt g s.a x.seq x.images)=p at h1 |-
 obtain⟨d1,n1,b1⟩:=p
 simp only at h1
 have h2:=FC h1.1 (l:=Av g (Bg g s.a x)) fun w hw=>by
  have:=EI hg ha2 w hw
  exact⟨by omega,this.2⟩
 cases b1 with
 | true=>exact⟨h1.1, .inl rfl⟩
 | false=>
  simp only
  generalize d1.putAll (Av g (Bg g s.a x))=q at h2 |-
  obtain⟨d2,n2,b2⟩:=q
  simp only at h2
  cases b2 with
  | true=>exact⟨h2.1, .inl rfl⟩
  | false=>exact⟨h2.1, .inr rfl⟩
theorem PN {m:Nat} (h:Nat.ble 9 m=true):∀ z∈ [5,6,7,8],z<m:=fun z hz=>by
 have:=Ac h
 simp at hz
 omega
theorem PM {m:Nat} (h:Nat.ble 10 m=true):∀ z∈ [5,6,7,8,9],z<m:=fun z hz=>by
 have:=Ac h
 simp at hz
 omega
theorem UG (g:Geo) (s:Stt) (x:Tx) (r:List Tx) (d:Dk) (F:Int->List UInt8) (hg:A_ g=true) (ha:AN g s.a=true) (hs:s.txns=x::r) (hsm:StSm s) (honly:s.only=false) (hgen:s.a.gen<4294967295) (hseq:s.a.seq<4294967295) (hxs:x.seq=s.a.seq) (hxp:0<=x.pos/\x.pos<g.sl) (hxn:x.n=(x.images.length:Nat)+1) (hxi:∀ y∈x.images,Bl g y=true) (hmv:s.moved=0) (h:Gc (Aq g) d F []) (hst:Pj g d s=true) (hsm2:StSm (ES g s x r d).1) :
  Fn Tryz.prog 12 [.ag (AF g), .ag (EH d), .ag (EB s)] fun v=>v = .tp [.ag (EB (if (ES g s x r d).2.2.2=8 then st0 else (ES g s x r d).1)), .ag (EH (ES g s x r d).2.1), .v (.int .i64 (if (ES g s x r d).2.2.2=8 then 0 else (ES g s x r d).2.2.1)), .v (.int .i64 (ES g s x r d).2.2.2)]:=by
 have c1:=UK g d s h.ok hst hsm
 have c2:=Xe g s x r d F hg ha hs hsm honly hgen hseq hxs hxp hxn hxi hmv h
 have ha2:=Ik hg ha hgen hseq hxs hxp.1 (by rw [hxn];omega)
 obtain⟨hok,he⟩:=VY (r:=r) hg ha ha2 hxi h.ok h.len
 generalize ES g s x r d=R at c2 hok he hsm2 |-
 obtain⟨S,D,n,e⟩:=R
 simp only at c2 hok he hsm2 |-
 have c3:=Lr S hsm2
 have c4:=OW g S D hok
 rcases he with rfl | rfl
 ·rw [if_pos rfl,if_pos rfl]
  refine Fn.st Tryz.func12 rfl ?_
  conv=>whnf
  refine ACalls.beside c1 rfl ?_
  rintro _ _ ⟨rfl,rfl⟩
  conv=>whnf
  refine ACalls.frame [5,6,7,8] c2 rfl rfl rfl rfl (by decide) (PN rfl) ⟨rfl,rfl,rfl,rfl,trivial⟩ ?_
  rintro _ _ ⟨rfl,rfl⟩
  conv=>whnf
  refine ACalls.frame [5,6,7,8,9] c4 rfl rfl rfl rfl (by decide) (PM rfl) ⟨rfl,rfl,rfl,rfl,rfl,trivial⟩ ?_
  rintro _ _ ⟨rfl,rfl⟩
  exact⟨.tp [.ag (EB st0), .ag (EH D), .v (.int .i64 0), .v (.int .i64 8)],BI ⟨AG st0_sub,ri,ri,ri,trivial⟩,rfl⟩
 ·rw [if_neg (by decide),if_neg (by decide)]
  refine Fn.st Tryz.func12 rfl ?_
  conv=>whnf
  refine ACalls.beside c1 rfl ?_
  rintro _ _ ⟨rfl,rfl⟩
  conv=>whnf
  refine ACalls.frame [5,6,7,8] c2 rfl rfl rfl rfl (by decide) (PN rfl) ⟨rfl,rfl,rfl,rfl,trivial⟩ ?_
  rintro _ _ ⟨rfl,rfl⟩
  conv=>whnf
  refine Fn.cl c3 ?_
  conv=>whnf
  refine ACalls.frame [5,6,7,8,9] c4 rfl rfl rfl rfl (by decide) (PM rfl) ⟨rfl,rfl,rfl,rfl,rfl,trivial⟩ ?_
  rintro _ _ ⟨rfl,rfl⟩
  exact⟨_,ri,rfl⟩
theorem WR {m:Nat} (h:Nat.ble 8 m=true):∀ z∈ [4,5,6,7],z<m:=fun z hz=>by
 have:=Ac h
 simp at hz
 omega
theorem Py (g:Geo) (d:Dk) (hg:A_ g=true) (h:DkOk d) (hn:(d.cells.length:Int)=Aq g):Fn Tryz.prog 56 [.ag (AF g), .ag (EH d)] fun r=>r = .tp [.ag (EB (Cs g d).2.2), .ag (EH (Cs g d).1), .v (.int .i64 (Cs g d).2.1)]:=by
 have hb:=RT g d st0 h st0_sm
 have hm:=RE g st0 d hg h hn
 have herr:=PK (g:=g) (d:=d)
 generalize Cs g d=M at hm herr |-
 obtain⟨D,e,S⟩:=M
 simp only at herr hm
 refine Fn.st Tryz.func56 rfl ?_
 conv=>whnf
 refine ACalls.sub [.ag (AF g), .ag (EH d), .ag (EB st0)] ⟨ri,ri,AG st0_sub,trivial⟩ ?_
 refine ACalls.beside hb rfl ?_
 rintro _ _ ⟨rfl,rfl⟩
 conv=>whnf
 refine ACalls.frame [4,5,6,7] hm rfl rfl rfl rfl (by decide) (WR rfl) ⟨rfl,rfl,rfl,rfl,trivial⟩ ?_
 rintro _ _ ⟨⟨S',rfl,hS⟩,rfl⟩
 by_cases he:e=0
 ·subst he
  have:=hS rfl
  subst this
  conv=>whnf
  apply aDraw.dag (144) tys_ok mixed [([],11,(.one 0 (.one 1 (.one 2 (.one 3 (.alt 4 (.one 5 (.one 6 (.alt 7 (.one 8 (.one 9 (.one 10 .fin))) (.alt 8 (.one 7 (.one 9 (.one 10 .fin))) .non)))) (.alt 8 (.one 4 (.one 5 (.one 6 (.one 7 (.one 9 (.one 10 .fin)))))) .non)))))))] [6,32,33,34,35,36,37,38,39] [] (by kernel_rfl)
  ·refine And.intro ?_ ?_
   ·refine And.intro ?_ (And.intro ?_ (trivial))
    ·refine And.intro ?_ (And.intro ?_ (trivial))
     ·conv=>whnf
      try (refine And.intro ⟨rfl,by first | rfl | (simp;done) | (simp;omega),by first | omega | (simp;omega)⟩ ?_;conv=>whnf)
      try (refine And.intro ⟨rfl,by first | rfl | (simp;done) | (simp;omega),by first | omega | (simp;omega)⟩ ?_;conv=>whnf)
      exact⟨rfl,rfl⟩
     ·conv=>whnf
      try (refine And.intro ⟨rfl,by first | rfl | (simp;done) | (simp;omega),by first | omega | (simp;omega)⟩ ?_;conv=>whnf)
      try (refine And.intro ⟨rfl,by first | rfl | (simp;done) | (simp;omega),by first | omega | (simp;omega)⟩ ?_;conv=>whnf)
      exact⟨rfl,rfl⟩
    ·conv=>whnf
     try (refine And.intro ⟨rfl,by first | rfl | (simp;done) | (simp;omega),by first | omega | (simp;omega)⟩ ?_;conv=>whnf)
     try (refine And.intro ⟨rfl,by first | rfl | (simp;done) | (simp;omega),by first | omega | (simp;omega)⟩ ?_;conv=>whnf)
     exact⟨rfl,rfl⟩
   conv=>whnf
   exact trivial
  refine And.intro (Aa _).symm ?_
  refine And.intro (Aa _).symm ?_
  exact⟨.tp [.ag (EB S'), .ag (EH D), .v (.int .i64 0)],BI ⟨ri,AG ⟨AH (f:=Bi) D.cells rfl rfl,AH (f:=D3) D.cache rfl rfl,ri,ri,trivial⟩,ri,trivial⟩,rfl⟩
 ·have hbe:(e != 0)=true:=bne_iff_ne.2 he
  have:=herr he
  subst this
  conv=>whnf
  rw [hbe]
  conv=>whnf
  apply aDraw.dag (2192) tys_ok mixed [([],15,(.one 0 (.one 1 (.one 2 (.one 3 (.one 8 (.one 9 (.one 10 (.alt 4 (.one 5 (.one 6 (.alt 7 (.alt 11 (.jump 2) (.alt 12 (.jump 3) .non)) (.alt 11 (.alt 7 (.jump 2) (.alt 12 (.jump 4) .non)) (.alt 12 (.alt 7 (.jump 3) (.alt 11 (.jump 4) .non)) .non))))) (.alt 11 (.alt 4 (.one 5 (.one 6 (.alt 7 (.jump 2) (.alt 12 (.jump 4) .non)))) (.alt 12 (.jump 1) .non)) (.alt 12 (.alt 4 (.one 5 (.one 6 (.alt 7 (.jump 3) (.alt 11 (.jump 4) .non)))) (.alt 11 (.jump 1) .non)) .non))))))))))),([0,1,2,3,8,9,10,11,12],6,(.one 4 (.one 5 (.one 6 (.one 7 (.one 13 (.one 14 .fin))))))),([0,1,2,3,4,5,6,7,8,9,10,11],3,(.one 12 (.one 13 (.one 14 .fin)))),([0,1,2,3,4,5,6,7,8,9,10,12],3,(.alt 11 (.one 13 (.one 14 .fin)) (.alt 13 (.one 11 (.one 14 .fin)) .non))),([0,1,2,3,4,5,6,8,9,10,11,12],3,(.one 7 (.one 13 (.one 14 .fin))))] [6,20,21,22,23,24,25,26,27,28,29,30,31] [(_,_),(_,_),(_,_),(_,_)] (by kernel_rfl)
  ·refine And.intro ?_ ?_
   ·refine And.intro ?_ (And.intro ?_ (And.intro ?_ (trivial)))
    ·refine And.intro ?_ (And.intro ?_ (And.intro ?_ (trivial)))
     ·refine And.intro ?_ (And.intro ?_ (trivial))
      ·exact⟨rfl,rfl⟩
      ·conv=>whnf
       try (refine And.intro ⟨rfl,by first | rfl | (simp;done) | (simp;omega),by first | omega | (simp;omega)⟩ ?_;conv=>whnf)
       exact⟨rfl,rfl⟩
     ·refine And.intro ?_ (And.intro ?_ (trivial))
      ·exact⟨rfl,rfl⟩
      ·conv=>whnf
       try (refine And.intro ⟨rfl,by first | rfl | (simp;done) | (simp;omega),by first | omega | (simp;omega)⟩ ?_;conv=>whnf)
       exact⟨rfl,rfl⟩
     ·conv=>whnf
      try (refine And.intro ⟨rfl,by first | rfl | (simp;done) | (simp;omega),by first | omega | (simp;omega)⟩ ?_;conv=>whnf)
      refine And.intro ?_ (And.intro ?_ (trivial))
      ·exact⟨rfl,rfl⟩
      ·exact⟨rfl,rfl⟩
    ·refine And.intro ?_ (And.intro ?_ (trivial))
     ·refine And.intro ?_ (And.intro ?_ (trivial))
      ·exact⟨rfl,rfl⟩
      ·conv=>whnf
       try (refine And.intro ⟨rfl,by first | rfl | (simp;done) | (simp;omega),by first | omega | (simp;omega)⟩ ?_;conv=>whnf)
       exact⟨rfl,rfl⟩
     ·conv=>whnf
      try (refine And.intro ⟨rfl,by first | rfl | (simp;done) | (simp;omega),by first | omega | (simp;omega)⟩ ?_;conv=>whnf)
      exact⟨rfl,rfl⟩
    ·conv=>whnf
     try (refine And.intro ⟨rfl,by first | rfl | (simp;done) | (simp;omega),by first | omega | (simp;omega)⟩ ?_;conv=>whnf)
     refine And.intro ?_ (And.intro ?_ (trivial))
     ·refine And.intro ?_ (And.intro ?_ (trivial))
      ·exact⟨rfl,rfl⟩
      ·exact⟨rfl,rfl⟩
     ·exact⟨rfl,rfl⟩
   refine And.intro ?_ ?_
   ·conv=>whnf
    try (refine And.intro ⟨rfl,by first | rfl | (simp;done) | (simp;omega),by first | omega | (simp;omega)⟩ ?_;conv=>whnf)
    exact⟨rfl,rfl⟩
   refine And.intro ?_ ?_
   ·conv=>whnf
    try (refine And.intro ⟨rfl,by first | rfl | (simp;done) | (simp;omega),by first | omega | (simp;omega)⟩ ?_;conv=>whnf)
    try (refine And.intro ⟨rfl,by first | rfl | (simp;done) | (simp;omega),by first | omega | (simp;omega)⟩ ?_;conv=>whnf)
    exact⟨rfl,rfl⟩
   refine And.intro ?_ ?_
   ·refine And.intro ?_ (And.intro ?_ (trivial))
    ·conv=>whnf
     try (refine And.intro ⟨rfl,by first | rfl | (simp;done) | (simp;omega),by first | omega | (simp;omega)⟩ ?_;conv=>whnf)
     exact⟨rfl,rfl⟩
    ·conv=>whnf
     try (refine And.intro ⟨rfl,by first | rfl | (simp;done) | (simp;omega),by first | omega | (simp;omega)⟩ ?_;conv=>whnf)
     exact⟨rfl,rfl⟩
   refine And.intro ?_ ?_
   ·conv=>whnf
    try (refine And.intro ⟨rfl,by first | rfl | (simp;done) | (simp;omega),by first | omega | (simp;omega)⟩ ?_;conv=>whnf)
    exact⟨rfl,rfl⟩
   conv=>whnf
   exact trivial
  refine And.intro (Aa _).symm ?_
  refine And.intro (Aa _).symm ?_
  exact⟨.tp [.ag (EB st0), .ag (EH D), .v (.int .i64 e)],BI ⟨AG st0_sub,AG ⟨AH (f:=Bi) D.cells rfl rfl,AH (f:=D3) D.cache rfl rfl,ri,ri,trivial⟩,ri,trivial⟩,rfl⟩
theorem WD (g:Geo) (hg:A_ g=true):Fn Tryz.prog 22 [.ag (AF g)] fun r=>∃ D,r = .tp [.ag (EB (AP (Eo g).a (Eo g).l)), .ag (EH D)]/\Gd (Aq g) D (Eo g).F:=by
 obtain⟨D,h1,h2,h3,h4,h5⟩:=Wn hg
 have hfm:=P2 g ⟨#[]⟩ hg (by exact lab_nil)
 have hmn:=Py g (G2 g ⟨#[]⟩) hg h2 h3
 rw [h1] at hmn
 refine Fn.st Tryz.func22 rfl ?_
 conv=>whnf
 apply aDraw.treeK (0) tys_ok mixed (.one 0 (.one 1 (.three 2 (.three 3 (.one 4 (.one 5 (.one 6 (.one 7 (.two 8 (.one 9 (.one 10 (.one 11 (.one 12 .fin)))) 9 (.one 8 (.one 10 (.one 11 (.one 12 .fin))))))))) 8 (.two 3 (.one 4 (.one 5 (.one 6 (.one 7 (.one 9 (.one 10 (.one 11 (.one 12 .fin)))))))) 9 (.one 3 (.one 4 (.one 5 (.one 6 (.one 7 (.one 10 (.one 11 (.one 12 .fin))))))))) 9 (.two 3 (.one 4 (.one 5 (.one 6 (.one 7 (.one 8 (.one 10 (.one 11 (.one 12 .fin)))))))) 8 (.one 3 (.one 4 (.one 5 (.one 6 (.one 7 (.one 10 (.one 11 (.one 12 .fin)))))))))) 8 (.two 2 (.two 3 (.one 4 (.one 5 (.one 6 (.one 7 (.one 9 (.one 10 (.one 11 (.one 12 .fin)))))))) 9 (.one 3 (.one 4 (.one 5 (.one 6 (.one 7 (.one 10 (.one 11 (.one 12 .fin))))))))) 9 (.one 2 (.one 3 (.one 4 (.one 5 (.one 6 (.one 7 (.one 10 (.one 11 (.one 12 .fin)))))))))) 9 (.two 2 (.two 3 (.one 4 (.one 5 (.one 6 (.one 7 (.one 8 (.one 10 (.one 11 (.one 12 .fin)))))))) 8 (.one 3 (.one 4 (.one 5 (.one 6 (.one 7 (.one 10 (.one 11 (.one 12 .fin))))))))) 8 (.one 2 (.one 3 (.one 4 (.one 5 (.one 6 (.one 7 (.one 10 (.one 11 (.one 12 .fin))))))))))))) (by kernel_rfl)
 refine And.intro ?_ (And.intro ?_ ?_)
 conv=>whnf
 refine Fn.cl hfm ?_
 refine And.intro ?_ (And.intro ?_ ?_)
 conv=>whnf
 refine Fn.cl hmn ?_
 refine And.intro ?_ ?_
 conv=>whnf
 try (refine And.intro ⟨rfl,by first | rfl | (simp;done) | (simp;omega),by first | omega | (simp;omega)⟩ ?_;conv=>whnf)
 try (refine And.intro ⟨rfl,by first | rfl | (simp;done) | (simp;omega),by first | omega | (simp;omega)⟩ ?_;conv=>whnf)
 rotate_left 1
 conv=>whnf
 try (refine And.intro ⟨rfl,by first | rfl | (simp;done) | (simp;omega),by first | omega | (simp;omega)⟩ ?_;conv=>whnf)
 try (refine And.intro ⟨rfl,by first | rfl | (simp;done) | (simp;omega),by first | omega | (simp;omega)⟩ ?_;conv=>whnf)
 rotate_left 1
 refine And.intro ?_ ?_
 conv=>whnf
 refine Fn.cl hmn ?_
 conv=>whnf
 try (refine And.intro ⟨rfl,by first | rfl | (simp;done) | (simp;omega),by first | omega | (simp;omega)⟩ ?_;conv=>whnf)
 try (refine And.intro ⟨rfl,by first | rfl | (simp;done) | (simp;omega),by first | omega | (simp;omega)⟩ ?_;conv=>whnf)
 rotate_left 1
 conv=>whnf
 refine Fn.cl hmn ?_
 conv=>whnf
 try (refine And.intro ⟨rfl,by first | rfl | (simp;done) | (simp;omega),by first | omega | (simp;omega)⟩ ?_;conv=>whnf)
 try (refine And.intro ⟨rfl,by first | rfl | (simp;done) | (simp;omega),by first | omega | (simp;omega)⟩ ?_;conv=>whnf)
 rotate_left 1
 refine And.intro ?_ ?_
 conv=>whnf
 refine Fn.cl hmn ?_
 conv=>whnf
 try (refine And.intro ⟨rfl,by first | rfl | (simp;done) | (simp;omega),by first | omega | (simp;omega)⟩ ?_;conv=>whnf)
 try (refine And.intro ⟨rfl,by first | rfl | (simp;done) | (simp;omega),by first | omega | (simp;omega)⟩ ?_;conv=>whnf)
 rotate_left 1
 conv=>whnf
 refine Fn.cl hmn ?_
 conv=>whnf
 try (refine And.intro ⟨rfl,by first | rfl | (simp;done) | (simp;omega),by first | omega | (simp;omega)⟩ ?_;conv=>whnf)
 try (refine And.intro ⟨rfl,by first | rfl | (simp;done) | (simp;omega),by first | omega | (simp;omega)⟩ ?_;conv=>whnf)
 rotate_left 1
 refine And.intro ?_ ?_
 conv=>whnf
 refine Fn.cl hfm ?_
 refine And.intro ?_ ?_
 conv=>whnf
 refine Fn.cl hmn ?_
 conv=>whnf
 try (refine And.intro ⟨rfl,by first | rfl | (simp;done) | (simp;omega),by first | omega | (simp;omega)⟩ ?_;conv=>whnf)
 try (refine And.intro ⟨rfl,by first | rfl | (simp;done) | (simp;omega),by first | omega | (simp;omega)⟩ ?_;conv=>whnf)
 rotate_left 1
 conv=>whnf
 refine Fn.cl hmn ?_
 conv=>whnf
 try (refine And.intro ⟨rfl,by first | rfl | (simp;done) | (simp;omega),by first | omega | (simp;omega)⟩ ?_;conv=>whnf)
 try (refine And.intro ⟨rfl,by first | rfl | (simp;done) | (simp;omega),by first | omega | (simp;omega)⟩ ?_;conv=>whnf)
 rotate_left 1
 conv=>whnf
 refine Fn.cl hfm ?_
 conv=>whnf
 refine Fn.cl hmn ?_
 conv=>whnf
 try (refine And.intro ⟨rfl,by first | rfl | (simp;done) | (simp;omega),by first | omega | (simp;omega)⟩ ?_;conv=>whnf)
 try (refine And.intro ⟨rfl,by first | rfl | (simp;done) | (simp;omega),by first | omega | (simp;omega)⟩ ?_;conv=>whnf)
 rotate_left 1
 refine And.intro ?_ ?_
 conv=>whnf
 refine Fn.cl hfm ?_
 refine And.intro ?_ ?_
 conv=>whnf
 refine Fn.cl hmn ?_
 conv=>whnf
 try (refine And.intro ⟨rfl,by first | rfl | (simp;done) | (simp;omega),by first | omega | (simp;omega)⟩ ?_;conv=>whnf)
 try (refine And.intro ⟨rfl,by first | rfl | (simp;done) | (simp;omega),by first | omega | (simp;omega)⟩ ?_;conv=>whnf)
 rotate_left 1
 conv=>whnf
 refine Fn.cl hmn ?_
 conv=>whnf
 try (refine And.intro ⟨rfl,by first | rfl | (simp;done) | (simp;omega),by first | omega | (simp;omega)⟩ ?_;conv=>whnf)
 try (refine And.intro ⟨rfl,by first | rfl | (simp;done) | (simp;omega),by first | omega | (simp;omega)⟩ ?_;conv=>whnf)
 rotate_left 1
 conv=>whnf
 refine Fn.cl hfm ?_
 conv=>whnf
 refine Fn.cl hmn ?_
 conv=>whnf
 try (refine And.intro ⟨rfl,by first | rfl | (simp;done) | (simp;omega),by first | omega | (simp;omega)⟩ ?_;conv=>whnf)
 try (refine And.intro ⟨rfl,by first | rfl | (simp;done) | (simp;omega),by first | omega | (simp;omega)⟩ ?_;conv=>whnf)
 rotate_left 1
 all_goals
  apply aDraw.treeK (2) tys_ok mixed (.one 0 (.two 1 (.one 2 (.one 3 .fin)) 2 (.one 1 (.one 3 .fin)))) (by kernel_rfl)
  refine And.intro ?_ ?_
  conv=>whnf
  try (refine And.intro ⟨rfl,by first | rfl | (simp;done) | (simp;omega),by first | omega | (simp;omega)⟩ ?_;conv=>whnf)
  try (refine And.intro ⟨rfl,by first | rfl | (simp;done) | (simp;omega),by first | omega | (simp;omega)⟩ ?_;conv=>whnf)
  rotate_left 1
  conv=>whnf
  try (refine And.intro ⟨rfl,by first | rfl | (simp;done) | (simp;omega),by first | omega | (simp;omega)⟩ ?_;conv=>whnf)
  try (refine And.intro ⟨rfl,by first | rfl | (simp;done) | (simp;omega),by first | omega | (simp;omega)⟩ ?_;conv=>whnf)
  rotate_left 1
  all_goals
   exact⟨_,ri,D,rfl,h4⟩
theorem aDraw.conv {P:Program} {T:Tys} {n d0 id:Nat} {ops:Array Oper} {K:Fr->List AB->Prop} {fr:Fr} {H:List AB} (h:aDraw P T n d0 id ops (fun fr H=>∃ fr2 H2,ConvF fr H fr2 H2/\K fr2 H2) fr H):aDraw P T n d0 id ops K fr H:=
 ⟨fun w0 M0 ce c a hs hf he hd Q hq=>h.wp w0 M0 ce c a hs hf he hd Q fun c' fr' H' a' ⟨fr2,H2,hc,hk⟩ hs' hf' he'=>by
  obtain⟨c2,e,s2,f2,x2⟩:=hc _ _ _ _ _ hs' hf'
  have:=hq c2 fr2 H2 a' hk s2 f2 (he'.trans x2)
  rwa [e] at this⟩
theorem Pm (g:Geo) (d:Dk) (h:DkOk d):Fn Tryz.prog 33 [.ag (AF g), .ag (EH d), .v (.slice none 0 0)] fun r=>r = .ag (EH d):=by
 obtain⟨q1,q2,q3,q4⟩:=h.big
 have ho:=MU d q1 q2 q3 q4
 refine Fn.st Tryz.func33 rfl ?_
 conv=>whnf
 refine ACalls.beside ho rfl ?_
 rintro _ _ ⟨rfl,rfl⟩
 conv=>whnf
 refine aLoop.rounds 1 ?_
 refine And.intro (Aa _).symm ?_
 refine And.intro (Aa _).symm ?_
 exact⟨.ag (EH d),AG ⟨AH (f:=Bi) _ rfl rfl,AH (f:=D3) _ rfl rfl,ri,ri,trivial⟩,rfl⟩
theorem RdL.seal1 {c c1:Ctx} (x1:Ext c c1) {x y:AV} (r1:∀ v,Rd x c v->Rd y c1 v):∀ {l:List AV} {us:List Value} {i:Nat},RdL l c us->l[i]? = some x->RdL (l.set i y) c1 us
 | [],us,i,h,hi=>by simp at hi
 | a::l,us,0,h,hi=>by
  simp only [List.getElem?_cons_zero,Option.some.injEq] at hi
  subst hi
  simp only [List.set_cons_zero,RdL] at h |-
  obtain⟨u,vs,rfl,h1,h2⟩:=h
  exact⟨u,vs,rfl,r1 u h1,RdL.ext _ x1 h2⟩
 | a::l,us,i+1,h,hi=>by
  simp only [List.getElem?_cons_succ] at hi
  simp only [List.set_cons_succ,RdL] at h |-
  obtain⟨u,vs,rfl,h1,h2⟩:=h
  exact⟨u,vs,rfl,Rd.ext _ x1 h1,RdL.seal1 x1 r1 h2 hi⟩
theorem ACalls.sealArg {P:Program} {q:Bool} {f:FuncId} {args:List AV} {H:List AB} {K:AV->List AB->Prop} (i k:Nat) {t:TypeId} {sz:Nat} {es:List (List AV)} (hx:args[i]? = some (.ow k es.length)) (hk:H[k]? = some (.row t sz es))
  (hc:ACalls P q f (args.set i (.sl sz es.length fun j=>es.getD j [])) (H.set k .dead) K):ACalls P q f args H K:=by
 refine⟨hc.go,fun w0 M0 c us hs hr=>?_⟩
 obtain⟨c1,e1,s1,x1,r1⟩:=hs.freeze hk
 have:=hc.calls w0 M0 c1 us s1 (RdL.seal1 x1 r1 hr hx)
 rw [e1] at this
 refine this.mono ?_
 rintro e w' ⟨v,c',r,H2,rfl,rfl,q1,q2,q3,q4,q5⟩
 exact⟨v,c',r,H2,rfl,rfl,q1,q2,x1.trans q3,q4,q5⟩
theorem Wu {H:List AB} {s:Stt} {t tH tT:TypeId} (j a b:Nat) (hj:H[j]? = some (.box t (stX s (.ow a s.a.homes.length) (.ow b s.txns.length)))) (ha:H[a]? = some (.row tH 3 (s.a.homes.map CH))) (hb:H[b]? = some (.row tT 4 (s.txns.map CI))) (hab:a≠b) (hjb:j≠b) (hja:j≠a) :
  ConvH H (((((H.set a .dead).set j (.box t (stX s (.sl 3 (s.a.homes.map CH).length fun i=>(s.a.homes.map CH).getD i []) (.ow b s.txns.length)))).set b .dead).set j (.box t (stX s (.sl 3 (s.a.homes.map CH).length fun i=>(s.a.homes.map CH).getD i []) (.sl 4 (s.txns.map CI).length fun i=>(s.txns.map CI).getD i [])))).set j (.box t (EB s))):=by
 have hlt:=(List.getElem?_eq_some_iff.1 hj).1
 obtain⟨T,hT⟩:∃ T:AV,T = .sl 4 (s.txns.map CI).length fun i=>(s.txns.map CI).getD i []:=⟨_,rfl⟩
 obtain⟨M,hM⟩:∃ M:AV,M = .sl 3 (s.a.homes.map CH).length fun i=>(s.a.homes.map CH).getD i []:=⟨_,rfl⟩
 have t1:∀ (c:Ctx) (v:Value),Rd T c v->Rd (CW s.txns) c v:=by rw [hT];exact AH (f:=CI) s.txns (Aa _) rfl
 have m1:∀ (c:Ctx) (v:Value),Rd M c v->Rd (Hq s.a.homes) c v:=by rw [hM];exact AH (f:=CH) s.a.homes (Aa _) rfl
 rw [<-hT,<-hM]
 refine ConvH.trans (ConvH.sealBox j a (cs2:=stX s M (.ow b s.txns.length)) hj ha ?_) (ConvH.trans (ConvH.sealBox j b (cs2:=stX s M T) (t:=t) (cs:=stX s M (.ow b s.txns.length)) ?_ (es':=s.txns.map CI) (t':=tT) (sz':=4) ?_ ?_) (ConvH.subBox j (t:=t) (cs:=stX s M T) ?_ ⟨ri,ri,ri,ri,ri,ri,m1,t1,ri,ri,ri,ri,ri,ri,trivial⟩))
 ·rw [<-hM]
  simp only [stX,Ap,AT,EP (Aa _).symm,QC (show (b == a)=false by simpa using Ne.symm hab)]
  rfl
 ·rw [List.getElem?_set_self (by simpa using hlt)]
 ·rw [List.getElem?_set_ne hjb,List.getElem?_set_ne hab,hb]
 ·rw [<-hT]
  subst hM
  simp only [stX,Ap,AT,EP (Aa _).symm]
  rfl
 ·rw [List.getElem?_set_self (by simpa using hlt)]
theorem UH {H:List AB} {d:Dk} {t tC tW:TypeId} (j a b:Nat) (hj:H[j]? = some (.box t (G3 (.ow a d.cells.length) (.ow b d.cache.length) d.reqs d.left))) (ha:H[a]? = some (.row tC 3 (d.cells.map Bi))) (hb:H[b]? = some (.row tW 2 (d.cache.map D3))) (hab:a≠b) (hjb:j≠b) (hja:j≠a) :
  ConvH H (((((H.set a .dead).set j (.box t (G3 (.sl 3 (d.cells.map Bi).length fun i=>(d.cells.map Bi).getD i []) (.ow b d.cache.length) d.reqs d.left))).set b .dead).set j (.box t (G3 (.sl 3 (d.cells.map Bi).length fun i=>(d.cells.map Bi).getD i []) (.sl 2 (d.cache.map D3).length fun i=>(d.cache.map D3).getD i []) d.reqs d.left))).set j (.box t (EH d))):=by
 have hlt:=(List.getElem?_eq_some_iff.1 hj).1
 obtain⟨T,hT⟩:∃ T:AV,T = .sl 2 (d.cache.map D3).length fun i=>(d.cache.map D3).getD i []:=⟨_,rfl⟩
 obtain⟨M,hM⟩:∃ M:AV,M = .sl 3 (d.cells.map Bi).length fun i=>(d.cells.map Bi).getD i []:=⟨_,rfl⟩
 have t1:∀ (c:Ctx) (v:Value),Rd T c v->Rd (Kc d.cache) c v:=by rw [hT];exact AH (f:=D3) d.cache (Aa _) rfl
 have m1:∀ (c:Ctx) (v:Value),Rd M c v->Rd (M9 d.cells) c v:=by rw [hM];exact AH (f:=Bi) d.cells (Aa _) rfl
 rw [<-hT,<-hM]
 refine ConvH.trans (ConvH.sealBox j a (cs2:=G3 M (.ow b d.cache.length) d.reqs d.left) hj ha ?_) (ConvH.trans (ConvH.sealBox j b (cs2:=G3 M T d.reqs d.left) (t:=t) (cs:=G3 M (.ow b d.cache.length) d.reqs d.left) ?_ (es':=d.cache.map D3) (t':=tW) (sz':=2) ?_ ?_) (ConvH.subBox j (t:=t) (cs:=G3 M T d.reqs d.left) ?_ ⟨m1,t1,ri,ri,trivial⟩))
 ·rw [<-hM]
  simp only [G3,Ap,AT,EP (Aa _).symm,QC (show (b == a)=false by simpa using Ne.symm hab)]
  rfl
 ·rw [List.getElem?_set_self (by simpa using hlt)]
 ·rw [List.getElem?_set_ne hjb,List.getElem?_set_ne hab,hb]
 ·rw [<-hT]
  subst hM
  simp only [G3,Ap,AT,EP (Aa _).symm]
  rfl
 ·rw [List.getElem?_set_self (by simpa using hlt)]
theorem Vk {es:List (List AV)} {k:Nat} {e e':List AV} (h:SubL e e') (i:Nat):SubL ((es.set k e).getD i []) ((es.set k e').getD i []):=by
 rw [List.getD_eq_getElem?_getD,List.getD_eq_getElem?_getD,List.getElem?_set,List.getElem?_set]
 split
 ·split
  ·exact h
  ·exact SubL.refl _
 ·exact SubL.refl _
def H7 (n k:Nat):List (List UInt8):=List.replicate k zero8 ++ List.replicate (n - k) []
theorem T3 {n k:Nat} (h:k<=n):(H7 n k).length=n:=by simp [H7];omega
theorem T2 {n k:Nat} (h:k<n):(H7 n k).set k zero8=H7 n (k+1):=by
 obtain⟨m,rfl⟩:∃ m,n=k+1+m:=⟨n - (k+1),by omega⟩
 unfold H7
 rw [show k+1+m - k=m+1 by omega,show k+1+m - (k+1)=m by omega,Cq,List.set_append_right _ _ (by simp)]
 simp only [List.length_replicate,C8,List.set_cons_zero]
 rw [List.replicate_succ' (n:=k),As]
 rfl
theorem T1 (n i:Nat):SubL ((List.replicate ((n:Int).toNat) (List.map AV.v [Value.slice none 0 0])).getD i []) (((H7 n 0).map JO).getD i []):=by
 rw [Ab,H7,List.replicate_zero,Bn,Nat.sub_zero,List.map_replicate]
 by_cases h:i<n
 ·rw [show (List.replicate n (List.map AV.v [Value.slice none 0 0])).getD i []=List.map AV.v [Value.slice none 0 0] by simp [h],show (List.replicate n (JO [])).getD i []=JO [] by simp [h]]
  exact⟨AX 1 _,trivial⟩
 ·rw [show (List.replicate n (List.map AV.v [Value.slice none 0 0])).getD i []=[] by simp [h],show (List.replicate n (JO [])).getD i []=[] by simp [h]]
  trivial
theorem zero8_sub:SubL [.sl 1 (Int.toNat 8) fun i=>(List.replicate (Int.toNat 8) (List.map AV.v [Value.int IntKind.u8 0])).getD i []] (JO zero8):=⟨EO rfl rfl,trivial⟩
theorem Q5 (x:Int) : [AV.v (Value.int .u8 (IntKind.u8.wrap x))]=DG (UInt8.ofNat (IntKind.u8.wrap x).toNat):=by
 rw [DG,IntKind.wrap_u8]
 have h1:0<=x % 256/\x % 256<256:=by omega
 have h2:(UInt8.ofNat (x % 256).toNat).toNat=(x % 256).toNat:=Be (by show (x % 256).toNat<256;omega)
 rw [h2,BD h1.1]
theorem W4 (x0 x1 x2 x7:Int):∃ b:List UInt8,b.length=8/\ [[AV.v (Value.int .u8 (IntKind.u8.wrap x0))], [AV.v (Value.int .u8 (IntKind.u8.wrap x1))], [AV.v (Value.int .u8 (IntKind.u8.wrap x2))], [AV.v (Value.int .u8 1)], [AV.v (Value.int .u8 1)], [AV.v (Value.int .u8 1)], [AV.v (Value.int .u8 1)], [AV.v (Value.int .u8 (IntKind.u8.wrap x7))]]=b.map DG:=
 ⟨[UInt8.ofNat (IntKind.u8.wrap x0).toNat,UInt8.ofNat (IntKind.u8.wrap x1).toNat,UInt8.ofNat (IntKind.u8.wrap x2).toNat,1,1,1,1,UInt8.ofNat (IntKind.u8.wrap x7).toNat],rfl,by rw [Q5,Q5,Q5,Q5];rfl⟩
theorem XP {m:Nat} (h:Nat.ble 13 m=true):∀ z∈ [7,8,9,10,11,12],z<m:=fun z hz=>by
 have:=Ac h
 simp at hz
 omega
theorem Vo.mono {g:Geo} {K K':Int} {M:Md} (h:Vo g K M) (hk:K<=K'):Vo g K' M:=⟨h.an,h.ring,Int.le_trans h.gen hk,Int.le_trans h.seq hk,h.one,h.fb,h.m⟩
theorem Xy {m:Nat} (h:Nat.ble 12 m=true):∀ z∈ [6,7,8,9,10,11],z<m:=fun z hz=>by
 have:=Ac h
 simp at hz
 omega
theorem Xn {g:Geo} (hg:A_ g=true):1<=g.z*g.d/\g.z*g.d<=16:=by
 obtain⟨g1,g2,g3,g4,g5⟩:=Ak.1 hg
 rcases(show g.z=1\/g.z=2\/g.z=3\/g.z=4 by omega) with h | h | h | h <;> rw [h] <;> omega
@[reducible] def stZ:List AV:= [.v (.int .i64 0), .v (.int .i64 0), .v (.int .i64 0), .v (.int .i64 0), .v (.int .i64 0), .v (.string ⟨#[]⟩), .v (.slice none 0 0), .v (.slice none 0 0), .v (.bool false), .v (.int .i64 0), .v (.int .i64 0), .v (.int .i64 0), .v (.int .i64 0), .v (.slice none 0 0)]
@[reducible] def dkZ:List AV:= [.v (.slice none 0 0), .v (.slice none 0 0), .v (.int .i64 0), .v (.int .i64 0)]
@[reducible] def plH (g:Geo) (M:Md) (d:Dk):List AB:= [.box 23 (AF g), .box 34 stZ, .box 38 dkZ, .box 34 (EB (AP M.a M.l)), .box 38 (EH d), .row 49 1 (M.m.map JO)]
theorem LS (g:Geo) (L:List Q2) (hg:A_ g=true) (hl:L.length<=1000000):Fn Tryz.prog 10 [.ag (AF g),PG L, .v (.slice none 0 0)] fun r=>∃ M d,XI g L (min L.length 6) M/\Gd (Aq g) d M.F/\Vo g 14 M/\r = .tp [.ag (EB (AP M.a M.l)), .ag (EH d),II M.m]:=by
 obtain⟨g1,g2,g3,g4,g5⟩:=Ak.1 hg
 obtain⟨n1,n2⟩:=Xn hg
 obtain⟨n,hn⟩:∃ n:Nat,(n:Int)=g.z*g.d:=⟨(g.z*g.d).toNat,by omega⟩
 have hon:=WD g hg
 obtain⟨-, -, -, -, -,hvo⟩:=Wn hg
 refine Fn.st Tryz.func10 rfl ?_
 conv=>whnf
 refine Fn.closed hon rfl ?_
 rintro _ ⟨D,rfl,hD⟩
 conv=>whnf
 rw [wi (show -9223372036854775808<=g.z*g.d/\g.z*g.d<=9223372036854775807 by omega),<-hn]
 refine⟨⟨rfl,by omega,by omega⟩,?_⟩
 conv=>whnf
 refine aLoop.ruleRR Nat (fun k=>([(1,PG L),(2, .v (.slice none 0 0)),(3, .bp 0 0),(6, .bp 1 0),(7, .bp 2 0),(9, .bp 3 0),(10, .bp 4 0),(11, .v (.int .i64 (n:Nat))),(12, .ow 5 n),(13, .v (.int .i64 (k:Nat)))], [.box 23 (AF g), .box 34 stZ, .box 38 dkZ, .box 34 (EB (AP (Eo g).a (Eo g).l)), .box 38 (EH D), .row 49 1 ((H7 n k).map JO)])) (fun k=>k<=n) (fun k=>n - k) 0 (Ad _)
  (WkN.rc (ConvF.ofH (ConvH.subRow (k:=5) (es':=(H7 n 0).map JO) rfl (by simp [H7]) fun i=>T1 n i)) (s:= [0,1,2,3,4,5]) ⟨⟨rfl,rfl,rfl,rfl,rfl,rfl,rfl,rfl,rfl,rfl,trivial⟩,⟨rfl,rfl,rfl,rfl,rfl,rfl,trivial⟩,rfl,rfl,rfl,rfl,rfl⟩) ?_
 intro k hk
 conv=>whnf
 refine Aw (fun h6=>?_) (fun h6=>?_) <;> (repeat rw [Ab] at h6) <;> conv=>whnf
 ·have hk2:k<n:=by omega
  have hkl:=T3 hk
  repeat' (first | (refine aSeq.go ?_;conv=>whnf) | fail)
  refine⟨⟨by omega,by omega⟩,?_⟩
  refine⟨⟨by omega,by omega⟩,?_⟩
  refine⟨rfl,?_⟩
  conv=>whnf
  refine And.intro ⟨rfl,by rw [Aa,hkl],by show k<n;omega⟩ ?_
  conv=>whnf
  rw [Ab,show ((H7 n k).map JO).getD k []=JO ((H7 n k).getD k []) from AR (by omega)]
  exact⟨k+1,by omega,by omega,WkN.rc (ConvF.ofH (ConvH.subRow (k:=5) (es':=((H7 n k).map JO).set k (JO zero8)) rfl (by simp) fun j=>Vk zero8_sub j)) (s:= [0,1,2,3,4,5]) ⟨⟨rfl,rfl,rfl,rfl,rfl,rfl,rfl,rfl,rfl,A7 (by omega),trivial⟩,⟨rfl,rfl,rfl,rfl,rfl,congrArg (fun es=>some (AB.row 49 1 es)) (by rw [<-T2 hk2,BX]),trivial⟩,rfl,rfl,rfl,rfl,rfl⟩⟩
 have ek:k=n:=by omega
 subst ek
 have hm0:H7 k k=(Eo g).m:=by
  show _=List.replicate (g.z*g.d).toNat zero8
  unfold H7
  rw [<-hn]
  simp
 rw [hm0]
 conv=>whnf
 refine aLoop.ruleRR (Nat × Md × Dk) (fun x=>([(1,PG L),(2, .v (.slice none 0 0)),(3, .bp 0 0),(6, .bp 1 0),(7, .bp 2 0),(9, .bp 3 0),(10, .bp 4 0),(11, .v (.int .i64 (k:Nat))),(12, .ow 5 k),(14, .v (.int .i64 (x.1:Nat)))],plH g x.2.1 x.2.2)) (fun x=>x.1<=min L.length 6/\XI g L x.1 x.2.1/\Gd (Aq g) x.2.2 x.2.1.F/\Vo g (2+2*(x.1:Nat)) x.2.1) (fun x=>min L.length 6 - x.1) (0,Eo g,D) ⟨Ad _,rfl,hD,hvo⟩
  (WkN.r (s:= [0,1,2,3,4,5]) ⟨⟨rfl,rfl,rfl,rfl,rfl,rfl,rfl,rfl,rfl,rfl,trivial⟩,⟨rfl,rfl,rfl,rfl,rfl,rfl,trivial⟩,rfl,rfl,rfl,rfl,rfl⟩) ?_
 rintro⟨i,M,d⟩ ⟨hi,hpl,hd,hv⟩
 simp only at hi hpl hd hv
 by_cases him:i<min L.length 6
 ·have hiL:i<L.length:=by omega
  conv=>whnf
  rw [show decide ((i:Int)<(L.length:Nat))=true from decide_eq_true (by omega)]
  conv=>whnf
  rw [show decide ((i:Int)<6)=true from decide_eq_true (by omega)]
  conv=>whnf
  repeat' (first | (refine aSeq.go ?_;conv=>whnf) | fail)
  refine⟨⟨by omega,by omega⟩,?_⟩
  refine⟨by decide,?_⟩
  conv=>whnf
  have ek:IntKind.u64.wrap (k:Int)=k:=by rw [IntKind.wrap_u64];omega
  rw [ek]
  refine⟨by omega,?_⟩
  conv=>whnf
  obtain⟨A,hA⟩:∃ A,A=I_ (L.getD (i:Int).toNat ⟨0,0⟩).a (k:Nat):=⟨_,rfl⟩
  have hA2:0<=A/\A<(k:Nat):=by rw [hA];exact E6 (by omega) (by omega)
  rw [show IntKind.i64.wrap ((IntKind.u64.wrap (L.getD (i:Int).toNat ⟨0,0⟩).a).tmod (k:Int))=A from hA.symm]
  refine aDraw.conv ?_
  apply aDraw.treeK (0) tys_ok mixed (.one 0 (.one 1 (.one 2 (.one 3 (.one 4 (.one 5 (.one 6 (.one 7 (.one 8 (.one 9 (.one 10 (.one 11 (.one 12 (.one 13 (.one 14 (.one 15 (.one 16 (.one 17 (.one 18 .fin))))))))))))))))))) (by kernel_rfl)
  conv=>whnf
  try (refine And.intro (by first | omega | (simp;done)) ?_;conv=>whnf)
  try (refine And.intro (by first | omega | (simp;done)) ?_;conv=>whnf)
  try (refine And.intro (by first | omega | (simp;done)) ?_;conv=>whnf)
  try (refine And.intro (by first | omega | (simp;done)) ?_;conv=>whnf)
  refine⟨by decide,?_⟩
  conv=>whnf
  obtain⟨b,hb8,hbe⟩:=W4 (L.getD (i:Int).toNat ⟨0,0⟩).b ((L.getD (i:Int).toNat ⟨0,0⟩).b.fdiv (2 ^ min (Int.toNat 8) IntKind.i64.bits)) (i:Nat) A
  refine⟨_,_,ConvF.trans (ConvF.shutF 16 6 rfl rfl) (ConvF.sub 16 rfl (EO (L:=b) hb8.symm hbe)),?_⟩
  have e3:(3+2*(i:Nat):Int)=2+2*(i:Nat)+1:=by omega
  have hvol:=hv.vol hd
  have hbeg:=K4 g d (AP M.a M.l) hd.ok (hvol.sm hg)
  have hcm:=PB g M.a M.l d M.F (2+2*(i:Nat)) A b hg hvol (by omega) hd (fun q=>AS (hv.fb q) (by decide)) (by omega) hb8
  conv=>whnf
  refine ACalls.beside hbeg rfl ?_
  rintro _ _ ⟨rfl,rfl⟩
  conv=>whnf
  refine aSeq.cutR (Md × Dk) (fun x=>([(1,PG L),(2, .v (.slice none 0 0)),(3, .bp 0 0),(6, .bp 1 0),(7, .bp 2 0),(9, .bp 3 0),(10, .bp 4 0),(11, .v (.int .i64 (k:Nat))),(12, .ow 5 k),(14, .v (.int .i64 (i:Nat)))],plH g x.1 x.2)) (fun x=>Yo g M A b x.1/\Gd (Aq g) x.2 x.1.F/\Vo g (3+2*(i:Nat)) x.1) ?_ ?_
  ·conv=>whnf
   refine ACalls.sealArg 1 13 rfl rfl ?_
   refine ACalls.sealArg 2 14 rfl rfl ?_
   refine ACalls.sub [.bp 7 0,iA [A],II [b]] ⟨ri,Fg (L:= [A]) rfl rfl,Gn (L:= [b]) rfl rfl,trivial⟩ ?_
   refine ACalls.frame [7,8,9,10,11,12] hcm rfl rfl rfl rfl (by decide) (XP rfl) ⟨rfl,rfl,rfl,rfl,rfl,rfl,trivial⟩ ?_
   rintro _ _ (⟨rfl,ok1,ok2,d2,W,hd2,hW,hv2,rfl⟩ | ⟨e,he,rfl,hbad,d2,rfl⟩)
   ·conv=>whnf
    apply aDraw.treeK (1024) tys_ok mixed (.one 0 (.one 1 (.one 2 (.one 3 (.one 4 (.one 5 (.one 6 (.one 7 (.one 8 (.one 9 (.two 10 (.one 11 (.one 12 .fin)) 11 (.one 10 (.one 12 .fin))))))))))))) (by kernel_rfl)
    refine And.intro ?_ ?_
    conv=>whnf
    try (refine And.intro ⟨rfl,by first | rfl | (simp;done) | (simp;omega),by first | omega | (simp;omega)⟩ ?_;conv=>whnf)
    try (refine And.intro ⟨rfl,by first | rfl | (simp;done) | (simp;omega),by first | omega | (simp;omega)⟩ ?_;conv=>whnf)
    rotate_left 1
    conv=>whnf
    try (refine And.intro ⟨rfl,by first | rfl | (simp;done) | (simp;omega),by first | omega | (simp;omega)⟩ ?_;conv=>whnf)
    try (refine And.intro ⟨rfl,by first | rfl | (simp;done) | (simp;omega),by first | omega | (simp;omega)⟩ ?_;conv=>whnf)
    rotate_left 1
    all_goals
     refine⟨⟨by omega,by omega⟩,?_⟩
     conv=>whnf
     refine And.intro ⟨rfl,by rw [Aa];show k=M.m.length;have:=hv.m;omega,by omega⟩ ?_
     conv=>whnf
     rw [show (M.m.map JO).getD A.toNat []=JO (M.m.getD A.toNat []) from AR (by have:=hv.m;omega)]
     conv=>whnf
     exact⟨(⟨M.a,M.l ++ [Ln g M.a M.l M.F A b],JP M.F W,M.m.set A.toNat b⟩,d2),⟨.inl ⟨ok1,ok2,W,hW,rfl⟩,hd2,Vo.of (M:=⟨M.a,M.l ++ [Ln g M.a M.l M.F A b],JP M.F W,M.m.set A.toNat b⟩) (by rw [e3];exact hv2) (Pg hv.fb fun w hw=>(hW w hw).2) (by show ((M.m.set A.toNat b).length:Int)=_;rw [AO];exact hv.m)⟩,WkN.rc (ConvF.ofH (ConvH.trans (Wu (s:=AP M.a (M.l ++ [Ln g M.a M.l M.F A b])) 3 11 12 rfl rfl rfl (by decide) (by decide) (by decide)) (UH (d:=d2) 4 9 15 rfl rfl rfl (by decide) (by decide) (by decide)))) (s:= [0,1,2,3,4,5]) ⟨⟨rfl,rfl,rfl,rfl,rfl,rfl,rfl,rfl,rfl,rfl,trivial⟩,⟨rfl,rfl,rfl,rfl,rfl,congrArg (fun es=>some (AB.row 49 1 es)) (BX (f:=JO)).symm,trivial⟩,rfl,rfl,rfl,rfl,rfl⟩⟩
   ·conv=>whnf
    rw [show (e == 0)=false from beq_eq_false_iff_ne.2 he]
    exact⟨(M,d),⟨.inr ⟨hbad,rfl⟩,hd,hv.mono (by omega)⟩,WkN.r (s:= [0,1,2,3,4,5]) ⟨⟨rfl,rfl,rfl,rfl,rfl,rfl,rfl,rfl,rfl,rfl,trivial⟩,⟨rfl,rfl,rfl,rfl,rfl,rfl,trivial⟩,rfl,rfl,rfl,rfl,rfl⟩⟩
  rintro⟨M2,d2⟩ ⟨hcr,hd2,hv2⟩
  simp only at hcr hd2 hv2
  have hstep:∀ M3,M3=(if (L.getD i ⟨0,0⟩).b.tmod 3=0 then Xl g M2 else M2)->XI g L (i+1) M3:=fun M3 h=>⟨M,M2,hpl,⟨A,b,by omega,hb8,hcr⟩,h⟩
  refine⟨⟨by omega,by omega⟩,?_⟩
  refine⟨by decide,?_⟩
  conv=>whnf
  rw [Ab]
  refine⟨by decide,?_⟩
  conv=>whnf
  by_cases h3:(L.getD i ⟨0,0⟩).b.tmod 3=0
  rotate_left 1
  ·rw [show ((L.getD i ⟨0,0⟩).b.tmod 3 == 0)=false from beq_eq_false_iff_ne.2 h3]
   conv=>whnf
   exact⟨(i+1,M2,d2),⟨by show i+1<=min L.length 6;omega,hstep M2 (if_neg h3).symm,hd2,hv2.mono (by omega)⟩,by show min L.length 6 - (i+1)<min L.length 6 - i;omega,WkN.r (s:= [0,1,2,3,4,5]) ⟨⟨rfl,rfl,rfl,rfl,rfl,rfl,rfl,rfl,rfl,A7 (by omega),trivial⟩,⟨rfl,rfl,rfl,rfl,rfl,rfl,trivial⟩,rfl,rfl,rfl,rfl,rfl⟩⟩
  rw [show ((L.getD i ⟨0,0⟩).b.tmod 3 == 0)=true from beq_iff_eq.2 h3]
  have hvol2:=hv2.vol hd2
  have hbeg2:=K4 g d2 (AP M2.a M2.l) hd2.ok (hvol2.sm hg)
  obtain⟨a2,l2,F2,m2⟩:=M2
  conv=>whnf
  refine ACalls.beside hbeg2 rfl ?_
  rintro _ _ ⟨rfl,rfl⟩
  conv=>whnf
  cases l2 with
  | nil=>
   have hck:=PC g a2 d2
   refine ACalls.frame [6,7,8,9,10,11] hck rfl rfl rfl rfl (by decide) (Xy rfl) ⟨rfl,rfl,rfl,rfl,rfl,rfl,trivial⟩ ?_
   rintro _ _ ⟨rfl,rfl⟩
   conv=>whnf
   apply aDraw.treeK (1024) tys_ok mixed (.one 0 (.one 1 (.one 2 (.one 3 (.one 4 (.one 5 (.one 6 (.one 7 (.one 8 (.one 9 (.two 10 (.one 11 (.one 12 .fin)) 11 (.one 10 (.one 12 .fin))))))))))))) (by kernel_rfl)
   refine And.intro ?_ ?_
   conv=>whnf
   try (refine And.intro ⟨rfl,by first | rfl | (simp;done) | (simp;omega),by first | omega | (simp;omega)⟩ ?_;conv=>whnf)
   try (refine And.intro ⟨rfl,by first | rfl | (simp;done) | (simp;omega),by first | omega | (simp;omega)⟩ ?_;conv=>whnf)
   rotate_left 1
   conv=>whnf
   try (refine And.intro ⟨rfl,by first | rfl | (simp;done) | (simp;omega),by first | omega | (simp;omega)⟩ ?_;conv=>whnf)
   try (refine And.intro ⟨rfl,by first | rfl | (simp;done) | (simp;omega),by first | omega | (simp;omega)⟩ ?_;conv=>whnf)
   rotate_left 1
   all_goals
    exact⟨(i+1,⟨a2, [],F2,m2⟩,d2),⟨by show i+1<=min L.length 6;omega,hstep _ ((show (⟨a2, [],F2,m2⟩:Md)=Xl g ⟨a2, [],F2,m2⟩ from rfl).trans (if_pos h3).symm),hd2,hv2.mono (by omega)⟩,by show min L.length 6 - (i+1)<min L.length 6 - i;omega,WkN.rc (ConvF.ofH (ConvH.trans (Wu (s:=AP a2 []) 3 10 11 rfl rfl rfl (by decide) (by decide) (by decide)) (UH (d:=d2) 4 8 9 rfl rfl rfl (by decide) (by decide) (by decide)))) (s:= [0,1,2,3,4,5]) ⟨⟨rfl,rfl,rfl,rfl,rfl,rfl,rfl,rfl,rfl,A7 (by omega),trivial⟩,⟨rfl,rfl,rfl,rfl,rfl,rfl,trivial⟩,rfl,rfl,rfl,rfl,rfl⟩⟩
  | cons x r=>
   have hck:=RR g a2 x r d2 F2 (3+2*(i:Nat)) hg hvol2 (by omega) hd2
   refine ACalls.frame [6,7,8,9,10,11] hck rfl rfl rfl rfl (by decide) (Xy rfl) ⟨rfl,rfl,rfl,rfl,rfl,rfl,trivial⟩ ?_
   rintro _ _ ⟨rfl,d3,hd3,rfl⟩
   conv=>whnf
   have hvc:=Vo.ck hg hv2 (by omega) hd2 (d':=d3) hd3
   apply aDraw.treeK (1024) tys_ok mixed (.one 0 (.one 1 (.one 2 (.one 3 (.one 4 (.one 5 (.one 6 (.one 7 (.one 8 (.one 9 (.two 10 (.one 11 (.one 12 .fin)) 11 (.one 10 (.one 12 .fin))))))))))))) (by kernel_rfl)
   refine And.intro ?_ ?_
   conv=>whnf
   try (refine And.intro ⟨rfl,by first | rfl | (simp;done) | (simp;omega),by first | omega | (simp;omega)⟩ ?_;conv=>whnf)
   try (refine And.intro ⟨rfl,by first | rfl | (simp;done) | (simp;omega),by first | omega | (simp;omega)⟩ ?_;conv=>whnf)
   rotate_left 1
   conv=>whnf
   try (refine And.intro ⟨rfl,by first | rfl | (simp;done) | (simp;omega),by first | omega | (simp;omega)⟩ ?_;conv=>whnf)
   try (refine And.intro ⟨rfl,by first | rfl | (simp;done) | (simp;omega),by first | omega | (simp;omega)⟩ ?_;conv=>whnf)
   rotate_left 1
   all_goals
    exact⟨(i+1,⟨Bg g a2 x,r,Gs g a2 x F2,m2⟩,d3),⟨by show i+1<=min L.length 6;omega,hstep _ ((show (⟨Bg g a2 x,r,Gs g a2 x F2,m2⟩:Md)=Xl g ⟨a2,x::r,F2,m2⟩ from rfl).trans (if_pos h3).symm),hd3,hvc.mono (by omega)⟩,by show min L.length 6 - (i+1)<min L.length 6 - i;omega,WkN.rc (ConvF.ofH (UH (d:=d3) 4 8 12 rfl rfl rfl (by decide) (by decide) (by decide))) (s:= [0,1,2,3,4,5]) ⟨⟨rfl,rfl,rfl,rfl,rfl,rfl,rfl,rfl,rfl,A7 (by omega),trivial⟩,⟨rfl,rfl,rfl,rfl,rfl,rfl,trivial⟩,rfl,rfl,rfl,rfl,rfl⟩⟩
 ·have ei:i=min L.length 6:=by omega
  have hsp:=Pm g d hd.ok
  conv=>whnf
  by_cases hiL:i<L.length
  rw [show decide ((i:Int)<(L.length:Nat))=true from decide_eq_true (by omega)]
  conv=>whnf
  rw [show decide ((i:Int)<6)=false from decide_eq_false (by omega)]
  conv=>whnf
  rotate_left 1
  rw [show decide ((i:Int)<(L.length:Nat))=false from decide_eq_false (by omega)]
  conv=>whnf
  all_goals
   apply aDraw.treeK (0) tys_ok mixed (.one 0 (.one 1 (.one 2 (.one 3 (.one 5 (.one 4 (.one 6 (.one 7 (.one 8 .fin))))))))) (by kernel_rfl)
   conv=>whnf
   refine Fn.cl hsp ?_
   conv=>whnf
   try (refine And.intro ⟨rfl,by first | rfl | (simp;done) | (simp;omega),by first | omega | (simp;omega)⟩ ?_;conv=>whnf)
   try (refine And.intro ⟨rfl,by first | rfl | (simp;done) | (simp;omega),by first | omega | (simp;omega)⟩ ?_;conv=>whnf)
  all_goals
   refine And.intro (by rw [Aa];show k=M.m.length;have:=hv.m;omega) ?_
   conv=>whnf
   exact⟨.tp [.ag (EB (AP M.a M.l)), .ag (EH d),II M.m],BI (m:= [.ag (EB (AP M.a M.l)), .ag (EH d),II M.m]) ⟨ri,ri,Gn (by have:=hv.m;omega) rfl,trivial⟩,M,d,ei ▸ hpl,hd,hv.mono (by omega),rfl⟩
theorem Lc (l:List Tx) (x:Tx) (z w:Int):∀ k,k<=l.length->DM (l ++ [x]) z w k=DM l z w k
 | 0,_=>rfl
 | k+1,hk=>by
  have e:(l ++ [x]).getD k tz=l.getD k tz:=by
   rw [List.getD_eq_getElem?_getD,List.getD_eq_getElem?_getD,List.getElem?_append_left (by omega)]
  rw [DM,DM,e,Lc l x z w k (by omega)]
theorem WY (l:List Tx) (x:Tx) (z w:Int):Fx (l ++ [x]) z w=match FL x.images z w x.images.length with
  | some i=>some (i,x.seq)
  | none=>Fx l z w:=by
 unfold Fx
 rw [List.length_append,Ag,AJ,Am,DM,Lc l x z w _ (Nat.le_refl _),show (l ++ [x]).getD l.length tz=x by simp]
 cases FL x.images z w x.images.length <;> rfl
theorem Qa (x:Tx) (r:List Tx) (z w:Int):∀ k,DM (x::r) z w (k+1)=match DM r z w k with
  | some p=>some p
  | none=>match FL x.images z w x.images.length with
   | some i=>some (i,x.seq)
   | none=>none
 | 0=>rfl
 | k+1=>by
  rw [DM,Qa x r z w k,DM,show (x::r).getD (k+1) tz=r.getD k tz from rfl]
  cases FL (r.getD k tz).images z w (r.getD k tz).images.length <;> rfl
theorem NL {x:Gt} {a s:Int} {p:List UInt8} (he:x.err=0) (hx:x.bytes=AM a s p) (h:SP a s p):BE x a=some ⟨a,s,p⟩:=by
 obtain⟨h1,h2,h3,h4⟩:=Hb h
 unfold BE
 rw [he,hx,h1,h2,h3,h4,if_pos ⟨rfl,rfl,rfl⟩]
theorem SH {a s:Int} {p:List UInt8} {e:Ent} (h:SP a s p) (h8:p.length=8) (h1:e.stamp=s) (h2:((CG p:Nat):Int)=e.sum):Fk ⟨0,AM a s p⟩ a e=some p:=by
 unfold Fk
 rw [NL rfl rfl h]
 simp only
 rw [if_pos ⟨h1.symm,h8,h2⟩]
theorem Ry {g:Geo} {a s:Int} {p:List UInt8} (h:SP a s p):Cr g ⟨0,AM a s p⟩ a s=Ck g p:=by
 unfold Cr
 rw [NL rfl rfl h]
 simp only [if_true]
def Re (v:Int->List UInt8):Nat->List UInt8
 | 0=>zero8
 | k+1=>Hn (Re v k) (v (k:Nat))
structure ZoneV (g:Geo) (a:An) (l:List Tx) (F:Int->List UInt8) (z:Int) (t:List Ent) (v:Int->List UInt8):Prop where
 tab:FV g (AP a l) F z=some t
 len:∀ w, -1<=w->w<g.d->(v w).length=8
 ent:∀ w, -1<=w->w<g.d->(t.getD (F4 g w).toNat ez).lost=false/\((CG (v w):Nat):Int)=(t.getD (F4 g w).toNat ez).sum
 val:∀ w, -1<=w->w<g.d->match Fx l z w with
  | some p=>p.1.bytes=v w/\(t.getD (F4 g w).toNat ez).stamp=p.2
  | none=>Fk ⟨0,F (B3 g a z w)⟩ (B3 g a z w) (t.getD (F4 g w).toNat ez)=some (v w)
 par:v (-1)=Re v g.d.toNat
def Ya (g:Geo) (a:An) (l:List Tx) (F:Int->List UInt8) (V:Int->Int->List UInt8):Prop:=∀ z,0<=z->z<g.z->∃ t,ZoneV g a l F z t (V z)
theorem ZoneV.one {g:Geo} {a:An} {l:List Tx} {F:Int->List UInt8} {z:Int} {t:List Ent} {v:Int->List UInt8} (h:ZoneV g a l F z t v) {w:Int} (hw : -1<=w/\w<g.d):KA g (AP a l) F t z w=v w:=by
 have:=h.val w hw.1 hw.2
 unfold KA
 show (match Fx l z w with | some p=>p.1.bytes | none=>_)=_
 cases hf:Fx l z w with
 | some p=>rw [hf] at this;exact this.1
 | none=>
  rw [hf] at this
  simp only at this |-
  show (Fk ⟨0,F (B3 g a z w)⟩ (B3 g a z w) (t.getD (F4 g w).toNat ez)).getD []=_
  rw [this]
  rfl
theorem VX {n:Int} {F:Int->List UInt8} {q:Int} (h0:0<=q) (h1:q<n):Lo n F q=F q:=if_pos ⟨h0,h1⟩
theorem fold_zero:∀ k,Re (fun _=>zero8) k=zero8
 | 0=>rfl
 | k+1=>by rw [Re,fold_zero k];rfl
theorem Uc {g:Geo} (hg:A_ g=true):Ya g (Eo g).a (Eo g).l (Eo g).F fun _ _=>zero8:=by
 obtain⟨g1,g2,g3,g4,g5⟩:=Ak.1 hg
 intro z h0 h1
 obtain⟨k,rfl⟩:∃ k:Nat,z=(k:Nat):=⟨z.toNat,by omega⟩
 have hcb:=D_ hg
 have hpb:=Ga hg
 have ht0:=Ve hg
 have hzh:((Eo g).a.homes.getD k ⟨[],0,0⟩)=⟨(List.range (g.d+1).toNat).map Int.ofNat,g.d+1,0⟩:=by
  show (List.replicate g.z.toNat _).getD k _=_
  rw [List.getD_eq_getElem?_getD,List.getElem?_replicate,if_pos (by omega)]
  rfl
 have hF:∀ q,g.an+2*g.sl<=q->q<Aq g->(Eo g).F q=Gi g ⟨#[]⟩ q:=fun q hq hq2=>by
  show Lo (Aq g) (XM g _) q=_
  rw [VX (by omega) hq2]
  exact if_neg (by omega)
 have hti:=EZ hg (z:=(k:Nat)) (k:=0) ⟨h0,h1⟩ (by omega)
 have htab:FV g (AP (Eo g).a (Eo g).l) (Eo g).F (k:Nat)=some (DQ g):=by
  have hroot:D4 (Eo g).a (Eo g).l (k:Nat)=0:=by
   show ((Eo g).a.homes.getD ((k:Nat):Int).toNat ⟨[],0,0⟩).root=0
   rw [Ab,hzh]
  show (match Cr g ⟨0,(Eo g).F (AD g (k:Nat) 0)⟩ (AD g (k:Nat) 0) (D4 (Eo g).a (Eo g).l (k:Nat)) with | some t=>some t | none=>_)=_
  have e:=OE (g:=g) (s:=⟨#[]⟩) (z:=k) (k:=0) (by omega) h1 (by omega)
  rw [hroot,hF _ hti.1 hti.2.2,show AD g ((k:Nat):Int) (0:Int)=AD g (k:Nat) ((0:Nat):Int) from rfl,e,Ry ⟨by show 0<=AD g (k:Nat) 0;omega,by show AD g (k:Nat) 0<=65535;omega,by omega,by omega,by rw [DP];unfold DQ;rw [List.length_replicate];omega⟩,K3 ht0]
 have hent:∀ w, -1<=w->w<g.d->(DQ g).getD (F4 g w).toNat ez=ent0:=fun w hw hw2=>by
  have hat:0<=F4 g w/\F4 g w<=g.d:=by unfold F4;split <;> omega
  unfold DQ
  rw [List.getD_eq_getElem?_getD,List.getElem?_replicate,if_pos (by omega)]
  rfl
 refine⟨DQ g,htab,fun _ _ _=>rfl,fun w hw hw2=>?_,fun w hw hw2=>?_,(fold_zero _).symm⟩
 ·rw [hent w hw hw2];exact⟨rfl,rfl⟩
 ·show Fk ⟨0,(Eo g).F (B3 g (Eo g).a (k:Nat) w)⟩ (B3 g (Eo g).a (k:Nat) w) ((DQ g).getD (F4 g w).toNat ez)=some zero8
  have hat:0<=F4 g w/\F4 g w<=g.d:=by unfold F4;split <;> omega
  have hadr:B3 g (Eo g).a (k:Nat) w=BG g (k:Nat) ((F4 g w).toNat:Nat):=by
   unfold B3
   rw [Ab,hzh]
   congr 1
   rw [AR (d:=0) (by simp;omega),List.getD_eq_getElem?_getD,List.getElem?_range (by omega)]
   rfl
  have hsl:=G_ hg (z:=(k:Nat)) (s:=((F4 g w).toNat:Nat)) ⟨h0,h1⟩ (by unfold Cc;omega)
  rw [hadr,hF _ (by omega) hsl.2,Mr (by omega) (by omega) (by omega),hent w hw hw2]
  exact SH ⟨by omega,by omega,by omega,by omega,by decide⟩ rfl rfl rfl

theorem Ju {n:Int} {d:Dk} {F:Int->List UInt8} {l:List Wr} (h:Gd n d F) (hl:∀ w∈l,(0<=w.addr/\w.addr<n)/\w.bytes.length<=200) (hn:l.length<=2000):(d.putAll l).2.2=false/\Gd n (d.putAll l).1 (JP F l):=
 ⟨(h.putAll hl hn).2.2.1,(h.putAll hl hn).2.2.2⟩
theorem SD {g:Geo} (hg:A_ g=true) {a:An} {x:Tx} {r:List Tx} {d:Dk} {F:Int->List UInt8} (ha:AN g a=true) (ha2:AN g (Bg g a x)=true) (hxi:∀ y∈x.images,Bl g y=true) (hn:x.images.length<=30) (h:Gd (Aq g) d F):∃ d',Gd (Aq g) d' (Gs g a x F)/\ES g (AP a (x::r)) x r d=(AP (Bg g a x) r,d',((x.images.length:Nat):Int),0):=by
 have h1:=Ju h (I2 hg ha hxi (seq:=x.seq)) (by have:=FJ (g:=g) (a:=a) (seq:=x.seq) x.images;omega)
 have h2:=Ju h1.2 (EI hg ha2) (by rw [Cj];have:=(Ak.1 hg).2.2.2.2;omega)
 refine⟨_,h2.2,?_⟩
 unfold ES
 show (match d.putAll (Bt g a x.seq x.images) with | (d1,_,true)=>_ | (d1,_,false)=>match d1.putAll (Av g (Bg g a x)) with | (d2,_,true)=>_ | (d2,_,false)=>(_,d2,_,(0:Int)):Stt × Dk × Int × Int)=_
 generalize d.putAll (Bt g a x.seq x.images)=p at h1 h2 |-
 obtain⟨d1,n1,b1⟩:=p
 simp only at h1 h2 |-
 rw [h1.1]
 simp only
 generalize d1.putAll (Av g (Bg g a x))=q at h2 |-
 obtain⟨d2,n2,b2⟩:=q
 simp only at h2 |-
 rw [h2.1]
 rfl
theorem Vol.stepOk {g:Geo} {K:Int} {a:An} {x:Tx} {r:List Tx} {d:Dk} (hg:A_ g=true) (h:Vol g K d (AP a (x::r))) (hK:K<=4294967294):AN g (Bg g a x)=true:=
 (h.home hg (x:=x) (r:=r) rfl hK h.gd).an
theorem M6 (g:Geo) (a:An) (x:Tx) (r:List Tx) (d:Dk) (F:Int->List UInt8) (K:Int) (hg:A_ g=true) (hv:Vol g K d (AP a (x::r))) (hK:K<=4294967294) (h:Gd (Aq g) d F):Fn Tryz.prog 12 [.ag (AF g), .ag (EH d), .ag (EB (AP a (x::r)))] fun v=>∃ d',Gd (Aq g) d' (Gs g a x F)/\v = .tp [.ag (EB (AP (Bg g a x) r)), .ag (EH d'), .v (.int .i64 (x.images.length:Nat)), .v (.int .i64 0)]:=by
 have hsm:=hv.sm hg
 have ha:AN g a=true:=hv.an
 have hring:BP g (x::r) a.seq a.pos g.sl=true:=hv.ring
 obtain⟨a1,a2,a3,a4⟩:=DB ha
 have hseq:a.seq+(x::r).length<=K:=hv.seq
 have hgen:a.gen<=K:=hv.gen
 obtain⟨p1,p2,p3,p4⟩:=Do hring x (by simp)
 have hr0:=hring
 simp only [BP,Bool.and_eq_true,decide_eq_true_eq] at hr0
 obtain⟨⟨r1,r2,r3,r4,r5,r6,r7⟩,r8⟩:=hr0
 have hx30:x.images.length<=30:=(hsm.t.2 x (by show x∈x::r;simp)).1
 have hxi:∀ y∈x.images,Bl g y=true:=fun y hy=>Ao.1 p1 y hy
 obtain⟨d',q1,q2⟩:=SD (r:=r) hg ha (hv.stepOk hg hK) hxi hx30 h
 have hc:=UG g (AP a (x::r)) x r d F hg ha rfl hsm rfl (show a.gen<4294967295 by omega) (show a.seq<4294967295 by rw [Ag] at hseq;omega) r1 (by rw [r3];exact a3) r6 hxi rfl h.gc (hv.st hg) (by rw [q2];exact(hv.home hg (x:=x) (r:=r) rfl hK (d':=d') ⟨_,q1⟩).sm hg)
 rw [q2] at hc
 simp only at hc
 rw [if_neg (by decide),if_neg (by decide)] at hc
 exact hc.mono fun v hv=>⟨d',q1,hv⟩
theorem VW (g:Geo) (s:Stt) (d:Dk) (hs:s.txns=[]):ACalls Tryz.prog false 35 [.bp 0 0] (MB g s d) fun v H=>v = .tp [.v (.int .i64 0), .v (.int .i64 0)]/\H=bwG g s d:=by
 have hdrop:=odrop0_fn
 rw [<-hs] at hdrop
 refine ACalls.ofR tys_ok Tryz.func35 rfl rfl (Ac rfl) ?_
 conv=>whnf
 refine Fn.cl hdrop ?_
 exact⟨_, .tp [.v (.int .i64 0), .v (.int .i64 0)],bwG g s d,fun _ _ h=>h,WkN.rc (ConvF.ofH (ConvH.move 1 3 (by decide) rfl rfl)) (s:= [0,1,2,3,5]) ⟨⟨rfl,trivial⟩,⟨rfl,rfl,rfl,trivial,rfl,trivial⟩,rfl,rfl,rfl,rfl,rfl⟩,rfl,rfl⟩
theorem SC (g:Geo) (s:Stt) (d:Dk) (hs:s.txns=[]) (hsm:StSm s) (h:DkOk d) (hst:Pj g d s=true):Fn Tryz.prog 12 [.ag (AF g), .ag (EH d), .ag (EB s)] fun v=>v = .tp [.ag (EB s), .ag (EH d), .v (.int .i64 0), .v (.int .i64 0)]:=by
 have c1:=UK g d s h hst hsm
 have c2:=VW g s d hs
 have c3:=Lr s hsm
 have c4:=OW g s d h
 refine Fn.st Tryz.func12 rfl ?_
 conv=>whnf
 refine ACalls.beside c1 rfl ?_
 rintro _ _ ⟨rfl,rfl⟩
 conv=>whnf
 refine ACalls.frame [5,6,7,8] c2 rfl rfl rfl rfl (by decide) (PN rfl) ⟨rfl,rfl,rfl,rfl,trivial⟩ ?_
 rintro _ _ ⟨rfl,rfl⟩
 conv=>whnf
 refine Fn.cl c3 ?_
 conv=>whnf
 refine ACalls.frame [5,6,7,8,9] c4 rfl rfl rfl rfl (by decide) (PM rfl) ⟨rfl,rfl,rfl,rfl,rfl,trivial⟩ ?_
 rintro _ _ ⟨rfl,rfl⟩
 exact⟨_,ri,rfl⟩
theorem V5 {g:Geo} (hg:A_ g=true) {M:Md} (h:XI g [⟨1,1⟩] 1 M):∃ lba b,(0<=lba/\lba<g.z*g.d)/\M.a=(Eo g).a/\M.l=[Ln g (Eo g).a [] (Eo g).F lba b]/\(Ln g (Eo g).a [] (Eo g).F lba b).images.length=3/\∃ y∈(Ln g (Eo g).a [] (Eo g).F lba b).images,y.what=255/\y.zone=lba.tdiv g.d:=by
 obtain⟨g1,g2,g3,g4,g5⟩:=Ak.1 hg
 obtain⟨M1,M2,rfl,⟨lba,b,hl,hb,hc⟩,hM⟩:=h
 rw [if_neg (by decide)] at hM
 subst hM
 have hdz:0<=lba.tdiv g.d/\lba.tdiv g.d<g.z:=by
  rw [B8 hl.1]
  exact⟨Int.ediv_nonneg hl.1 (by omega),Int.ediv_lt_of_lt_mul (by omega) hl.2⟩
 obtain⟨t,ht⟩:=Uc hg _ hdz.1 hdz.2
 have ht:=ht.tab
 rcases hc with ⟨-, -,W, -,rfl⟩ | ⟨hbad, -⟩
 ·refine⟨lba,b,hl,rfl,rfl,?_,?_⟩
  ·show (JB g (AP (Eo g).a []) (Eo g).F _ lba b).length=3
   unfold JB
   rw [show FV g (AP (Eo g).a []) (Eo g).F (lba.tdiv g.d)=some t from ht]
   exact GO _ _ _ _ _
  ·show ∃ y∈JB g (AP (Eo g).a []) (Eo g).F _ lba b,_
   unfold JB
   rw [show FV g (AP (Eo g).a []) (Eo g).F (lba.tdiv g.d)=some t from ht]
   exact⟨⟨lba.tdiv g.d,255,Cp (BK g t (Fs g (AP (Eo g).a []) (Eo g).F t (lba.tdiv g.d)) [lba.tmod g.d] [b] ((Eo g).a.seq+(([]:List Tx).length:Int)))⟩,by unfold Dz;simp,rfl,rfl⟩
 ·rcases hbad with hb | hb
  ·have:D7 (Eo g).l=0:=rfl
   omega
  ·rw [show FV g (AP (Eo g).a (Eo g).l) (Eo g).F (lba.tdiv g.d)=some t from ht] at hb
   cases hb
theorem wakes24_fn:Fn Tryz.prog 11 [] fun r=>r = .v (.bool true):=by
 have h1:=Vh 0 1 0 0 1
 have hg:=Ti 0 1 0 0 1
 have hz:(Km 0 1 0 0 1).z=1:=by decide
 have hsl:(Km 0 1 0 0 1).sl=14:=by decide
 generalize Km 0 1 0 0 1=g at h1 hg hz hsl
 have hp:=LS g [⟨1,1⟩] hg (by decide)
 refine Fn.st Tryz.func11 rfl ?_
 conv=>whnf
 refine Fn.cl h1 ?_
 conv=>whnf
 refine ACalls.shut hp.go ?_
 refine⟨rfl,?_⟩
 conv=>whnf
 refine ACalls.sub [.ag (AF g),PG [⟨1,1⟩], .v (.slice none 0 0)] ⟨ri,AH (f:=XK) [⟨1,1⟩] rfl rfl,ri,trivial⟩ ?_
 refine Fn.closed hp rfl ?_
 rintro _ ⟨M,d,hpl,hd,hv,rfl⟩
 obtain⟨lba,b,hl,e1,e2,e3,y,hy,hy2,hy3⟩:=V5 hg hpl
 obtain⟨a,l,F,m⟩:=M
 simp only at e1 e2
 obtain⟨x,hx⟩:∃ x,x=Ln g (Eo g).a [] (Eo g).F lba b:=⟨_,rfl⟩
 have hxs:x.seq=1:=by rw [hx];rfl
 have hxp:x.pos=0:=by rw [hx];show (0+D7 []).tmod g.sl=0;rw [hsl];rfl
 have hxn:x.n=4:=by rw [hx];rfl
 have ha1:a.seq=1:=by rw [e1];rfl
 rw [<-hx] at e2 e3 hy
 clear hx
 subst e2
 have hvol:Vol g 14 d (AP a [x]):=hv.vol hd
 have c1:=M6 g a x [] d F 14 hg hvol (by decide) hd
 conv=>whnf
 refine Fn.closed c1 rfl ?_
 rintro _ ⟨d1,hd1,rfl⟩
 have hso:=hvol.stepOk hg (by decide)
 have hv2:Vol g 15 d1 (AP (Bg g a x) []):=hvol.home hg (x:=x) (r:= []) rfl (by decide) (d':=d1) ⟨_,hd1⟩
 have ha0:AN g a=true:=hvol.an
 have hroot:=Kl ha0 (t:=x) (fun y hy=>Ao.1 (Do hvol.ring x (by show x∈ [x];simp)).1 y hy) hy hy2
 have hhl:=(DB hso).2.2.2
 have hq1:(Bg g a x).seq=2:=by show a.seq+1=2;omega
 have hq2:(Bg g a x).pos=4:=by show (x.pos+x.n).tmod g.sl=4;rw [hxp,hxn,hsl];rfl
 obtain⟨S,hS⟩:∃ S,S=Bg g a x:=⟨_,rfl⟩
 rw [<-hS] at hso hv2 hroot hhl hq1 hq2 |-
 have c2:=SC g (AP S []) d1 rfl (hv2.sm hg) hd1.ok (hv2.st hg)
 conv=>whnf
 refine Fn.cl c2 ?_
 conv=>whnf
 rw [show (((x.images.length:Nat):Int) == 3)=true by rw [e3];rfl]
 conv=>whnf
 rw [show ((AP S []).a.seq == 2)=true by show (S.seq == 2)=true;rw [hq1];rfl]
 conv=>whnf
 rw [show ((AP S []).a.pos == 4)=true by show (S.pos == 4)=true;rw [hq2];rfl]
 conv=>whnf
 rw [show (((AP S []).a.homes.length:Int) == 1)=true by show ((S.homes.length:Int) == 1)=true;rw [hhl,hz];rfl]
 conv=>whnf
 refine And.intro ⟨by decide,by show (0:Int)<(S.homes.length:Nat);omega⟩ ?_
 conv=>whnf
 have hz0:y.zone.toNat=0:=by
  have:lba.tdiv g.d<g.z:=by
   rw [B8 hl.1]
   exact Int.ediv_lt_of_lt_mul (by have:=Ak.1 hg;omega) hl.2
  omega
 rw [hz0,hxs] at hroot
 rw [show (((AP S []).a.homes.getD (Int.toNat 0) ⟨[],0,0⟩).root == 1)=true by show ((S.homes.getD 0 ⟨[],0,0⟩).root == 1)=true;rw [hroot];rfl]
 exact⟨_,ri,rfl⟩
def Dk.faultX (d:Dk) (kind a frm bit bits:Int):Dk:=if (d.fault kind a frm bit bits).2=0 then (d.fault kind a frm bit bits).1 else dk0
theorem S9 {d:Dk} (h:DkOk d):Fn Tryz.prog 38 [.ag (EH d)] fun r=>r = .v (.int .i64 0):=by
 have:=M5 d (by have:=h.n;omega) (by have:=h.m;omega)
 rwa [Oq.2 h] at this
theorem Xz {m:Nat} (h:Nat.ble 5 m=true):∀ z∈ [2,3,4],z<m:=fun z hz=>by
 have:=Ac h
 simp at hz
 omega
theorem S6 (d:Dk) (a:Int) (h:DkOk d) (ha:0<=a/\a<d.cells.length):Fn Tryz.prog 13 [.ag (EH d), .v (.int .i64 a)] fun r=>r = .tp [.ag (EH (d.read a).1),bA (d.read a).2.1, .v (.int .i64 (d.read a).2.2)]:=by
 have hn:=h.n
 have hm:=h.m
 have w1:IntKind.i64.wrap ((d.cells.length:Int) - 1)=d.cells.length - 1:=wi (by omega)
 have i1:=Ny a 0 ((d.cells.length:Int) - 1)
 have hA:Cb a 0 ((d.cells.length:Int) - 1)=true:=A0.2 (by omega)
 rw [hA] at i1
 have hck:=S9 h
 have ho:=Rj d (by omega) (by omega)
 have hr:=UC (fun b hb=>CR b hb) d a h.l ha hm (fun c hc=>by have:=(h.c c hc).2;omega) (fun w hw=>by have:=(h.w w hw).2;omega)
 have hR:=h.read a
 generalize d.read a=R at hr hR
 obtain⟨D,b,e⟩:=R
 simp only at hr hR
 have ht:=ON D (by have:=hR.n;omega) (by have:=hR.m;omega) (fun c hc=>by have:=(hR.c c hc).2;omega) (fun w hw=>by have:=(hR.w w hw).2;omega)
 refine Fn.st Tryz.func13 rfl ?_
 conv=>whnf
 refine Fn.cl hck ?_
 conv=>whnf
 rw [w1]
 refine Fn.cl i1 ?_
 conv=>whnf
 refine ACalls.beside ho rfl ?_
 rintro _ _ ⟨rfl,rfl⟩
 conv=>whnf
 refine ACalls.frame [2,3,4] hr rfl rfl rfl rfl (by decide) (Xz rfl) ⟨rfl,rfl,rfl,trivial⟩ ?_
 rintro _ _ ⟨rfl,rfl⟩
 conv=>whnf
 refine ACalls.shut ht.go ?_
 refine And.intro (Aa _).symm ?_
 refine And.intro (Aa _).symm ?_
 conv=>whnf
 refine ACalls.sub [.ag (EH D)] ⟨AG ⟨AH (f:=Bi) D.cells rfl rfl,AH (f:=D3) D.cache rfl rfl,ri,ri,trivial⟩,trivial⟩ ?_
 refine Fn.cl ht ?_
 exact⟨_,ri,rfl⟩
def X6 (keep:Int) (i:Nat):Bool:=IntKind.i64.wrap ((BitVec.ofInt IntKind.i64.bits (keep.fdiv (2 ^ min (((i:Nat):Int).tmod 31).toNat IntKind.i64.bits))&&&BitVec.ofInt IntKind.i64.bits 1).toNat:Nat) == 1
def GT (d:Dk) (keep:Int):Nat->Dk
 | 0=>d
 | k+1=>if X6 keep k then (GT d keep k).fin (d.cache.getD k ⟨0, []⟩) else GT d keep k
def Dk.crash (d:Dk) (keep:Int):Dk:={ GT d keep d.cache.length with cache:= [],left:= -1 }
theorem M7 {d:Dk} (h:DkOk d) (keep:Int):∀ k,k<=d.cache.length->DkOk (GT d keep k)/\(GT d keep k).cells.length=d.cells.length/\(GT d keep k).cache=d.cache/\(GT d keep k).left=d.left
 | 0,_=>⟨h,rfl,rfl,rfl⟩
 | k+1,hk=>by
  obtain⟨h1,h2,h3,h4⟩:=M7 h keep k (by omega)
  have hw:=h.w _ (Ay (d:=(⟨0, []⟩:Wr)) (show k<d.cache.length by omega))
  have hf:=My (GT d keep k) (d.cache.getD k ⟨0, []⟩)
  show DkOk (if _ then _ else _)/\(if _ then _ else _:Dk).cells.length=_/\(if _ then _ else _:Dk).cache=_/\(if _ then _ else _:Dk).left=_
  split
  ·exact⟨h1.fin hw.2,by rw [Ri,h2],hf.1.trans h3,hf.2.2.trans h4⟩
  ·exact⟨h1,h2,h3,h4⟩
theorem DkOk.crash {d:Dk} (h:DkOk d) (keep:Int):DkOk (d.crash keep)/\(d.crash keep).cells.length=d.cells.length:=by
 obtain⟨h1,h2,h3,h4⟩:=M7 h keep d.cache.length (Nat.le_refl _)
 exact⟨⟨h1.n,by simp [Dk.crash],h1.r,by show (-1:Int)<= -1/\(-1:Int)<=_;decide,h1.c,fun w hw=>by simp [Dk.crash] at hw⟩,h2⟩
theorem M_ {n:Int} {d:Dk} {F:Int->List UInt8} (h:Gd n d F) {q:Int} (hq:0<=q/\q<n) {a s:Int} {p:List UInt8} (he:F q=AM a s p) (hok:SP a s p):(Fn Tryz.prog 13 [.ag (EH d), .v (.int .i64 q)] fun r=>r = .tp [.ag (EH d.req),bA (AM a s p), .v (.int .i64 0)])/\Fn Tryz.prog 15 [bA (AM a s p)] fun r=>r = .tp [.ag (R6 ⟨a,s,p⟩), .v (.int .i64 0)]:=by
 have h1:=S6 d q h.ok (by have:=h.len;omega)
 rw [h.read hq.1 hq.2,he] at h1
 have h2:=NX (AM a s p) (by rw [CM];have:=hok.2.2.2.2;omega)
 obtain⟨e1,e2,e3,e4⟩:=Hb hok
 rw [e1,if_pos rfl,e2,e3,e4] at h2
 exact⟨h1,h2⟩
@[reducible] def ctH (g:Geo) (s t:Stt) (x:Tx) (d d':Dk):List AB:= [.box 23 (AF g), .box 34 (EB s), .box 38 (EH d), .box 45 (CI x), .box 34 (EB t), .box 38 (EH d')]
theorem Qr (g:Geo) (l:List Q2):Fn Tryz.prog 3 [.ag (AF g),PG l] fun r=>r = .v (.bool true):=by
 have h1:=TH g
 have hw:=wakes24_fn
 cases hg:A_ g with
 | false=>
  rw [hg] at h1
  refine Fn.st Tryz.func3 rfl ?_
  conv=>whnf
  refine Fn.cl h1 ?_
  exact⟨_,ri,rfl⟩
 | true=>
  rw [hg] at h1
  obtain⟨g1,g2,g3,g4,g5⟩:=Ak.1 hg
  by_cases hl:l.length<=10
  rotate_left 1
  ·refine Fn.st Tryz.func3 rfl ?_
   conv=>whnf
   refine Fn.cl h1 ?_
   conv=>whnf
   rw [show decide ((l.length:Int) > 10)=true from decide_eq_true (by omega)]
   exact⟨_,ri,rfl⟩
  have hp:=LS g l hg (by omega)
  have hcb:=D_ hg
  refine Fn.st Tryz.func3 rfl ?_
  conv=>whnf
  refine Fn.cl h1 ?_
  conv=>whnf
  rw [show decide ((l.length:Int) > 10)=false from decide_eq_false (by omega)]
  conv=>whnf
  refine Fn.closed hp rfl ?_
  rintro _ ⟨M,d, -,hd,hv,rfl⟩
  obtain⟨a,L,F,m⟩:=M
  have hvol:Vol g 14 d (AP a L):=hv.vol hd
  cases L with
  | nil=>
   conv=>whnf
   refine Fn.cl hw ?_
   exact⟨_,ri,rfl⟩
  | cons x r=>
   have c1:=M6 g a x r d F 14 hg hvol (by decide) hd
   have hlen:1<=(x::r).length:=by simp
   have ha:AN g a=true:=hvol.an
   have hso:=hvol.stepOk hg (by decide)
   obtain⟨s1,s2,s3,s4⟩:=DB hso
   obtain⟨a1,a2,a3,a4⟩:=DB ha
   obtain⟨p1, -, -, -⟩:=Do hvol.ring x (by show x∈x::r;simp)
   have hxi:∀ y∈x.images,Bl g y=true:=fun y hy=>Ao.1 p1 y hy
   have hone:OneTab x.images:=hvol.one x (by show x∈x::r;simp)
   have hxs:x.seq=a.seq:=by
    have hr0:BP g (x::r) a.seq a.pos g.sl=true:=hvol.ring
    simp only [BP,Bool.and_eq_true,decide_eq_true_eq] at hr0
    exact hr0.1.1
   have hx30:x.images.length<=30:=((hvol.sm hg).t.2 x (by show x∈x::r;simp)).1
   conv=>whnf
   refine And.intro ⟨by decide,by show (0:Int)<((x::r).length:Nat);omega⟩ ?_
   conv=>whnf
   refine Fn.closed c1 rfl ?_
   rintro _ ⟨d',hd',rfl⟩
   conv=>whnf
   rw [show (((AP (Bg g a x) r).a.homes.length:Int) != g.z)=false from bne_eq_false_iff_eq.2 s4]
   conv=>whnf
   refine aLoop.ruleRR Nat (fun i=>([(2, .bp 0 0),(5, .bp 1 0),(8, .bp 3 0),(9, .bp 4 0),(10, .bp 5 0),(13, .v (.int .i64 (i:Nat)))],ctH g (AP a (x::r)) (AP (Bg g a x) r) x d d')) (fun i=>i<=x.images.length) (fun i=>x.images.length - i) 0 (Ad _)
    (WkN.r (s:= [0,1,2,3,4,5]) ⟨⟨rfl,rfl,rfl,rfl,rfl,rfl,trivial⟩,⟨rfl,rfl,rfl,rfl,rfl,rfl,trivial⟩,rfl,rfl,rfl,rfl,rfl⟩) ?_
   intro i hi
   by_cases hin:i<x.images.length
   ·conv=>whnf
    rw [show decide ((i:Int)<(x.images.length:Nat))=true from decide_eq_true (by omega)]
    conv=>whnf
    repeat' (first | (refine aSeq.go ?_;conv=>whnf) | fail)
    refine⟨⟨by omega,by omega⟩,?_⟩
    conv=>whnf
    rw [Ab]
    obtain⟨y,hy⟩:∃ y,y=x.images.getD i ⟨0,0, []⟩:=⟨_,rfl⟩
    have hym:y∈x.images:=by rw [hy];exact Ay hin
    have hyk:=hxi y hym
    obtain⟨hz, -⟩:=Cg hyk
    rw [<-hy]
    by_cases h255:y.what=255
    rotate_left 1
    ·rw [show (y.what != 255)=true from bne_iff_ne.2 h255]
     conv=>whnf
     repeat' (first | (refine aSeq.go ?_;conv=>whnf) | fail)
     exact⟨i+1,by omega,by omega,WkN.r (s:= [0,1,2,3,4,5]) ⟨⟨rfl,rfl,rfl,rfl,rfl,A7 (by omega),trivial⟩,⟨rfl,rfl,rfl,rfl,rfl,rfl,trivial⟩,rfl,rfl,rfl,rfl,rfl⟩⟩
    rw [show (y.what != 255)=false by rw [h255];rfl]
    conv=>whnf
    repeat' (first | (refine aSeq.go ?_;conv=>whnf) | fail)
    refine⟨⟨by omega,by omega⟩,?_⟩
    conv=>whnf
    rw [Ab,<-hy]
    repeat' (first | (refine aSeq.go ?_;conv=>whnf) | fail)
    refine aDraw.of tys_ok mixed [0,1,2,3,4,5,6,7,8,9,10,11,12,13,14,15,16,17,18,19] (by kernel_rfl) ?_
    conv=>whnf
    rw [show decide (y.zone<0)=false from decide_eq_false (by omega)]
    conv=>whnf
    rw [show decide (y.zone>=g.z)=false from decide_eq_false (by omega)]
    conv=>whnf
    refine And.intro ⟨by omega,by show y.zone<((Bg g a x).homes.length:Nat);omega⟩ ?_
    conv=>whnf
    have hroot:=Kl ha hxi hym h255
    rw [show (((AP (Bg g a x) r).a.homes.getD y.zone.toNat ⟨[],0,0⟩).root != x.seq)=false from bne_eq_false_iff_eq.2 hroot]
    conv=>whnf
    repeat' (first | (refine aSeq.go ?_;conv=>whnf) | fail)
    have hyl:=Eu hg hyk
    obtain⟨u1,u2,u3⟩:=EZ hg hz (k:=0) (by decide)
    obtain⟨v1,v2,v3⟩:=EZ hg hz (k:=1) (by decide)
    have t0:=EU g y.zone 0 hg hz (by decide)
    have t1:=EU g y.zone 1 hg hz (by decide)
    obtain⟨rd0,op0⟩:=M_ hd' (q:=AD g y.zone 0) (by omega) (LE hg ha hxi hone hym h255 (.inl rfl)) ⟨by omega,by omega,by omega,by omega,by omega⟩
    obtain⟨Wm,op1⟩:=M_ hd' (q:=AD g y.zone 1) (by omega) (LE hg ha hxi hone hym h255 (.inr rfl)) ⟨by omega,by omega,by omega,by omega,by omega⟩
    have hb:=Qt y.bytes (by omega)
    generalize AM (AD g y.zone 0) x.seq y.bytes=B0 at rd0 op0
    generalize AM (AD g y.zone 1) x.seq y.bytes=B1 at Wm op1
    refine aLoop.rounds 3 ?_
    conv=>whnf
    repeat' (first | (refine aSeq.go ?_;conv=>whnf) | fail)
    apply aDraw.treeM (0) tys_ok mixed (.one 0 (.one 1 (.one 2 (.one 3 (.two 4 (.two 5 (.one 6 (.one 7 (.one 8 (.one 9 (.one 10 (.one 11 (.one 12 (.one 13 .fin)))))))) 10 (.one 5 (.one 6 (.one 7 (.one 8 (.one 9 (.one 11 (.one 12 (.one 13 .fin))))))))) 10 (.one 4 (.one 5 (.one 6 (.one 7 (.one 8 (.one 9 (.one 11 (.one 12 (.one 13 .fin)))))))))))))) [16,17,18,115,116,117,118,119,120,121,122,123,124] (by kernel_rfl)
    ·refine And.intro ?_ ?_
     ·conv=>whnf
      refine Fn.cl t0 ?_
      refine And.intro ?_ ?_
      ·conv=>whnf
       refine Fn.cl rd0 ?_
       conv=>whnf
       try (refine And.intro ⟨rfl,by first | rfl | (simp;done) | (simp;omega),by first | omega | (simp;omega)⟩ ?_;conv=>whnf)
       exact⟨rfl,rfl⟩
      ·conv=>whnf
       refine Fn.cl rd0 ?_
       conv=>whnf
       try (refine And.intro ⟨rfl,by first | rfl | (simp;done) | (simp;omega),by first | omega | (simp;omega)⟩ ?_;conv=>whnf)
       exact⟨rfl,rfl⟩
     ·conv=>whnf
      refine Fn.cl t0 ?_
      conv=>whnf
      refine Fn.cl rd0 ?_
      conv=>whnf
      try (refine And.intro ⟨rfl,by first | rfl | (simp;done) | (simp;omega),by first | omega | (simp;omega)⟩ ?_;conv=>whnf)
      exact⟨rfl,rfl⟩
    conv=>whnf
    repeat' (first | (refine aSeq.go ?_;conv=>whnf) | fail)
    refine Fn.cl op0 ?_
    conv=>whnf
    apply aDraw.treeK (0) tys_ok mixed (.one 0 (.one 1 (.one 2 (.one 3 (.one 4 (.one 5 (.one 6 (.one 7 (.one 8 (.one 9 (.one 10 (.one 11 (.one 12 (.one 13 (.one 14 (.one 15 (.one 16 (.one 17 (.one 18 (.one 19 (.one 20 (.one 21 (.one 22 (.one 23 (.one 24 .fin))))))))))))))))))))))))) (by kernel_rfl)
    conv=>whnf
    try (first | rw [show (x.seq != x.seq)=false by simp] | skip;conv=>whnf)
    try (first | rw [show (x.seq != x.seq)=false by simp] | skip;conv=>whnf)
    try (first | rw [show (x.seq != x.seq)=false by simp] | skip;conv=>whnf)
    try (first | rw [show (x.seq != x.seq)=false by simp] | skip;conv=>whnf)
    try (refine And.intro (by first | omega | (simp;done)) ?_;conv=>whnf)
    try (first | rw [show (x.seq != x.seq)=false by simp] | skip;conv=>whnf)
    (rw [Ab,<-hy];refine Fn.cl hb ?_)
    conv=>whnf
    repeat' (first | (refine aSeq.go ?_;conv=>whnf) | fail)
    apply aDraw.treeM (0) tys_ok mixed (.one 0 (.one 1 (.one 2 (.one 3 (.two 4 (.two 5 (.one 6 (.one 7 (.one 8 (.one 9 (.one 10 (.one 11 (.one 12 (.one 13 .fin)))))))) 10 (.one 5 (.one 6 (.one 7 (.one 8 (.one 9 (.one 11 (.one 12 (.one 13 .fin))))))))) 10 (.one 4 (.one 5 (.one 6 (.one 7 (.one 8 (.one 9 (.one 11 (.one 12 (.one 13 .fin)))))))))))))) [16,17,18,115,116,117,118,119,120,121,122,123,124] (by kernel_rfl)
    ·refine And.intro ?_ ?_
     ·conv=>whnf
      refine Fn.cl t1 ?_
      refine And.intro ?_ ?_
      ·conv=>whnf
       refine Fn.cl Wm ?_
       conv=>whnf
       try (refine And.intro ⟨rfl,by first | rfl | (simp;done) | (simp;omega),by first | omega | (simp;omega)⟩ ?_;conv=>whnf)
       exact⟨rfl,rfl⟩
      ·conv=>whnf
       refine Fn.cl Wm ?_
       conv=>whnf
       try (refine And.intro ⟨rfl,by first | rfl | (simp;done) | (simp;omega),by first | omega | (simp;omega)⟩ ?_;conv=>whnf)
       exact⟨rfl,rfl⟩
     ·conv=>whnf
      refine Fn.cl t1 ?_
      conv=>whnf
      refine Fn.cl Wm ?_
      conv=>whnf
      try (refine And.intro ⟨rfl,by first | rfl | (simp;done) | (simp;omega),by first | omega | (simp;omega)⟩ ?_;conv=>whnf)
      exact⟨rfl,rfl⟩
    conv=>whnf
    repeat' (first | (refine aSeq.go ?_;conv=>whnf) | fail)
    refine Fn.cl op1 ?_
    conv=>whnf
    apply aDraw.treeK (0) tys_ok mixed (.one 0 (.one 1 (.one 2 (.one 3 (.one 4 (.one 5 (.one 6 (.one 7 (.one 8 (.one 9 (.one 10 (.one 11 (.one 12 (.one 13 (.one 14 (.one 15 (.one 16 (.one 17 (.one 18 (.one 19 (.one 20 (.one 21 (.one 22 (.one 23 (.one 24 .fin))))))))))))))))))))))))) (by kernel_rfl)
    conv=>whnf
    try (first | rw [show (x.seq != x.seq)=false by simp] | skip;conv=>whnf)
    try (first | rw [show (x.seq != x.seq)=false by simp] | skip;conv=>whnf)
    try (first | rw [show (x.seq != x.seq)=false by simp] | skip;conv=>whnf)
    try (first | rw [show (x.seq != x.seq)=false by simp] | skip;conv=>whnf)
    try (refine And.intro (by first | omega | (simp;done)) ?_;conv=>whnf)
    try (first | rw [show (x.seq != x.seq)=false by simp] | skip;conv=>whnf)
    (rw [Ab,<-hy];refine Fn.cl hb ?_)
    conv=>whnf
    repeat' (first | (refine aSeq.go ?_;conv=>whnf) | fail)
    exact⟨i+1,by omega,by omega,WkN.r (s:= [0,1,2,3,4,5]) ⟨⟨rfl,rfl,rfl,rfl,rfl,A7 (by omega),trivial⟩,⟨rfl,rfl,rfl,rfl,rfl,rfl,trivial⟩,rfl,rfl,rfl,rfl,rfl⟩⟩
   ·conv=>whnf
    rw [show decide ((i:Int)<(x.images.length:Nat))=false from decide_eq_false (by omega)]
    conv=>whnf
    repeat' (first | (refine aSeq.go ?_;conv=>whnf) | fail)
    refine aLoop.ruleRR Nat (fun j=>([(2, .bp 0 0),(5, .bp 1 0),(8, .bp 3 0),(9, .bp 4 0),(10, .bp 5 0),(21, .v (.int .i64 (j:Nat)))],ctH g (AP a (x::r)) (AP (Bg g a x) r) x d d')) (fun j=>(j:Int)<=g.an) (fun j=>g.an.toNat - j) 0 (by show (0:Int)<=g.an;omega)
     (WkN.r (s:= [0,1,2,3,4,5]) ⟨⟨rfl,rfl,rfl,rfl,rfl,rfl,trivial⟩,⟨rfl,rfl,rfl,rfl,rfl,rfl,trivial⟩,rfl,rfl,rfl,rfl,rfl⟩) ?_
    intro j hj
    by_cases hjn:(j:Int)<g.an
    ·have hanl:=(Dv hg hso 0 (Ad _))
     have hB:=Hk hg hso
     obtain⟨rdj,opj⟩:=M_ hd' (q:=(j:Nat)) ⟨by omega,by omega⟩ (Tf (by omega) hjn) ⟨by omega,by omega,by omega,by omega,by omega⟩
     generalize AM ((j:Nat):Int) (Bg g a x).gen (IJ (Bg g a x))=B at rdj opj
     conv=>whnf
     rw [show decide ((j:Int)<g.an)=true from decide_eq_true hjn]
     conv=>whnf
     repeat' (first | (refine aSeq.go ?_;conv=>whnf) | fail)
     refine Fn.cl rdj ?_
     conv=>whnf
     refine Fn.cl opj ?_
     conv=>whnf
     rw [show ((⟨((j:Nat):Int),(Bg g a x).gen,IJ (Bg g a x)⟩:Sec).stamp != (AP (Bg g a x) r).a.gen)=false from bne_eq_false_iff_eq.2 rfl]
     conv=>whnf
     rw [show ((AP (Bg g a x) r).a.gen != IntKind.i64.wrap ((AP a (x::r)).a.gen+1))=false from bne_eq_false_iff_eq.2 (by show a.gen+1=IntKind.i64.wrap (a.gen+1);rw [wi (by omega)])]
     conv=>whnf
     repeat' (first | (refine aSeq.go ?_;conv=>whnf) | fail)
     exact⟨j+1,by omega,by omega,WkN.r (s:= [0,1,2,3,4,5]) ⟨⟨rfl,rfl,rfl,rfl,rfl,A7 (by omega),trivial⟩,⟨rfl,rfl,rfl,rfl,rfl,rfl,trivial⟩,rfl,rfl,rfl,rfl,rfl⟩⟩
    ·conv=>whnf
     rw [show decide ((j:Int)<g.an)=false from decide_eq_false hjn]
     conv=>whnf
     repeat' (first | (refine aSeq.go ?_;conv=>whnf) | fail)
     refine Fn.cl hw ?_
     exact⟨_,ri,rfl⟩
end Go.Proofs.YtkolckdakddggaaGreatDoor.A
end
section
namespace Go.Proofs.YtkolckdakddggaaGreatDoor
open Go.ChangeShapes Go.WideShapes Go.ChangeAt Go.RowKit
theorem own_none:ownKnob Tryz.prog.godebug=none:=by kernel_rfl
theorem laidOut:laidOutB Tryz.prog=true:=by kernel_rfl

section
variable {H:Type} {enc:TypeId × Value->H}
theorem Uh {f:Func} {s:ChangeSpec} {apart fresh handsOn again:Bool} {W W':World} {args:Array Value} {ds:List (DataW H)} {before:List MemPlace}
  (hW:DataW.Whole enc Tryz.prog f.params.toList s.vars apart W args.toList ds [] before) (hv:s.vars=[]) (hvs:(s.fn H (ds ++ [])).vars=[])
  (hr:f.resultTypes = #[4]) (hfr:(s.fn H (ds ++ [])).results=[.lit (.bool true)]) (hfa:(s.fn H (ds ++ [])).args=ds)
  (hrow:∀ t∈f.params.toList,Tryz.prog.readableRec t=true/\t<Tryz.prog.types.size) (hb:Below W.heap.size W W') :
  s.post enc Tryz.prog f apart fresh handsOn again W args (.bool true) W':=by
 have hlt:∀ p∈before,p.block<W.heap.size:=fun p hp=>hW.lt p hp
 obtain⟨p,q,hA,hV,hpq,hz,hn⟩:=id hW
 rw [hv] at hV
 obtain⟨-,rfl⟩:=trodVars_none hV
 rw [List.append_nil] at hpq
 subst hpq
 have stay:∀ sp:Nat->Bool,(∀ x∈before,sp x.block=true)->DataW.TrodAll enc Tryz.prog W' 0 sp true f.params.toList args.toList ds before:=by
  intro sp hsp
  have go:∀ (ts:List TypeId) (vs:List Value) (es:List (DataW H)) (ps:List MemPlace),(∀ t∈ts,Tryz.prog.readableRec t=true/\t<Tryz.prog.types.size)->(∀ x∈ps,x∈before)->
    DataW.TrodAll enc Tryz.prog W 0 (fun _=>true) true ts vs es ps->DataW.TrodAll enc Tryz.prog W' 0 sp true ts vs es ps:=by
   intro ts
   induction ts with
   | nil=>
    intro vs es ps _ _ h
    cases vs <;> cases es <;> exact h
   | cons t ts ih=>
    intro vs es ps ht hin h
    cases vs with
    | nil=>cases es <;> exact h.elim
    | cons v vs=>
     cases es with
     | nil=>exact h.elim
     | cons e es=>
      obtain⟨p1,p2,h1,h2,rfl⟩:=h
      exact⟨p1,p2,WideElems.Trod_stays laidOut (ht t (by simp)).1 (ht t (by simp)).2 h1 (fun x hx=>hb.same (hlt x (hin x (by simp [hx])))) (fun x hx=>hsp x (hin x (by simp [hx]))),
       ih vs es p2 (fun t' ht'=>ht t' (by simp [ht'])) (fun x hx=>hin x (by simp [hx])) h2,rfl⟩
  exact go _ _ _ _ hrow (fun x hx=>hx) hA
 have hres:∀ (b:Nat) (sp:Nat->Bool) (hd:Bool),DataW.TrodAll enc Tryz.prog W' b sp hd f.resultTypes.toList ((Value.bool true).resultList f.resultTypes.size) (s.fn H (ds ++ [])).results []:=by
  intro b sp hd
  rw [hr,hfr]
  exact trodAll_mk1 ⟨1,by simp [DataW.trod,Value.cells,Tryz.underlying4]⟩
 have hold:∀ p∈before,(fun b=>decide (b<W.heap.size)) p.block=true:=fun p hp=>by simpa using hlt p hp
 have hvars:∀ sp:Nat->Bool,DataW.TrodVars enc Tryz.prog W' sp s.vars (s.fn H (ds ++ [])).vars []:=by
  intro sp;rw [hv,hvs];exact rfl
 refine⟨ds, [],before, [],before, [],hW,hres _ _ _,by rw [hfa];exact stay _ hold,hvars _,World.keptBut_mono (fun p hp=>⟨hp,?_⟩) (hb.frame (·∈before)),fun _=>?_⟩
 ·exact Or.inr (by simpa using hp)
 ·refine⟨ok_one hr rfl (by simp [Value.okWide,Tryz.underlying4,Cell.okWide,Cell.ok]),_,_,([] ++ before) ++ [],⟨[] ++ before, [],trodAll_append (stay _ (fun _ _=>rfl)) (hres _ _ _),hvars _,rfl,?_,?_⟩,?_⟩
  ·intro b off hp
   have hin:MemPlace.cell b off∈before:=by simpa using hp
   rw [hb.frozen (hlt _ hin)]
   exact hz b off hin
  ·intro ha
   have:=hn ha
   simpa using this
  ·intro p hp _
   simpa using hp
end
abbrev Uk : List (String × DataW Unit) := [("unicode/utf8.acceptRanges", Rows.laid_unicode_utf8_acceptRanges), ("unicode/utf8.first", Rows.laid_unicode_utf8_first)]
noncomputable def Jf (os:Os):World:=
 let w0:=World.holding Tryz.prog os ⟨#[], #[], []⟩
 let put (h:Array Obj) (g:Nat) (cs:Array Value):Array Obj:=h.modify g fun
  | .cells _ t frozen=> .cells cs t frozen
  | o=>o
 let h1:=put w0.heap 0 (Lib.firstTab.map fun z=>Value.int .u8 z).toArray
 let h2:=put h1 1 ((List.range 16).flatMap fun i=> [Value.int .u8 (Lib.accLo i),Value.int .u8 (Lib.accHi i)]).toArray
 { w0 with heap:=h2 }
theorem Uj (os:Os) (args:Array Value):laidMetH Tryz.prog Uk ((Jf os).forCall (fun _ _=>0) ⟨#[],args, []⟩).memory:=by
 rw [MakeChecks.laidMetH_plain _ _ _ (by kernel_rfl)]
 exact(LaidIn.of_run (l:=Uk) [1,0] 8 (by kernel_rfl) (by kernel_rfl) (by kernel_rfl) (by kernel_rfl)).met
theorem first_data:Rows.laid_unicode_utf8_first=Lib.firstData:=by kernel_rfl
theorem accept_data:(Rows.laid_unicode_utf8_acceptRanges:DataW Unit)=Lib.acceptData:=by kernel_rfl
theorem Sj {W:World} (h:laidMetH Tryz.prog Uk W):A.globOk W:=by
 rw [MakeChecks.laidMetH_plain _ _ _ (by kernel_rfl)] at h
 have h1:=Lib.laidMet.reads h (.head _)
 have h2:=Lib.laidMet.reads h (.tail _ (.head _))
 rw [accept_data] at h1
 rw [first_data] at h2
 exact utf8Tabs_of_readsT (U8Types.of196 Tryz.laysValid) ⟨by kernel_rfl,by kernel_rfl,by kernel_rfl,by kernel_rfl,by kernel_rfl,by kernel_rfl,by kernel_rfl⟩ h2 h1
end Go.Proofs.YtkolckdakddggaaGreatDoor
end
