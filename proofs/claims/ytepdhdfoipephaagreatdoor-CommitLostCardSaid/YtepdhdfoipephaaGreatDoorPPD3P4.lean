/-
Several texts in one.
-/
import Derived.Test.YtepdhdfoipephaaGreatDoorPPD3P3
import Derived.Test.YtepdhdfoipephaaGreatDoorPPD3P2
import Derived.Test.YtepdhdfoipephaaGreatDoorPPD3P1
import Derived.Maps.OwnSet
set_option maxRecDepth 100000
set_option maxHeartbeats 8000000
set_option linter.unusedSimpArgs false
set_option linter.unusedVariables false
set_option linter.deprecated false
namespace Go.Proofs.YtepdhdfoipephaaGreatDoor.A
section
open Go.RowKit
theorem UH (g:Geo) (x:Gt) (addr:Int) (hg:Bt g=true) (hx:x.bytes.length<=100000):Fn Tryz.prog 247 [.ag (Ba g), .ag (DJ x),iv addr] fun r=>r = .tp [.ag (EO ((E3 g x addr).getD an0)), .v (.bool (E3 g x addr).isSome)]:=by
 have hs:=MC x addr hx;by_cases h1:x.err=0/\CT x.bytes=0/\CA x.bytes=addr
 ·have hr:=SF g (Cy x.bytes) hg (by have:=Qv x.bytes;omega);have hS:E3 g x addr=match ES g (Cy x.bytes) with | some a=>if a.gen=Ck x.bytes then some a else none | none=>none:=by rw [E3,if_pos h1];try rfl
  have hO:BO x addr=some ⟨CA x.bytes,Ck x.bytes,Cy x.bytes⟩:=by
   unfold BO;simp [h1.1,h1.2.1,h1.2.2]
  rw [hO] at hs;cases hR:ES g (Cy x.bytes) with
  | none=>
   rw [hR] at hr hS;rw [hS];refine zT Tryz.func247 rfl ?_;conv=>whnf
   refine z_ hs ?_;conv=>whnf
   refine z_ hr ?_;exact⟨_,Gg _,rfl⟩
  | some a=>
   rw [hR] at hr hS;by_cases h4:a.gen=Ck x.bytes
   ·have hS:E3 g x addr=some a:=hS.trans (if_pos h4);rw [hS];refine zT Tryz.func247 rfl ?_;conv=>whnf
    refine z_ hs ?_;conv=>whnf
    refine z_ hr ?_;conv=>whnf
    refine A6 (fun hq=>absurd h4 hq) (fun _=>?_);exact⟨_,ri,rfl⟩
   ·have hS:E3 g x addr=none:=hS.trans (if_neg h4);rw [hS];refine zT Tryz.func247 rfl ?_;conv=>whnf
    refine z_ hs ?_;conv=>whnf
    refine z_ hr ?_;conv=>whnf
    refine A6 (fun _=>?_) (fun hq=>absurd hq h4);exact⟨_,Gg _,rfl⟩
 ·have hS:E3 g x addr=none:=by rw [E3,if_neg h1]
  have hO:BO x addr=none:=by
   unfold BO;rw [if_neg h1]
  rw [hO] at hs;rw [hS];refine zT Tryz.func247 rfl ?_;conv=>whnf
  refine z_ hs ?_;exact⟨_,Gg _,rfl⟩
def ZT (p:Option (An × Nat)):Int:=match p with | some (_,i)=>i | none=> -1
theorem Q5 (g:Geo) (l:List Gt) (hg:Bt g=true) (hl:l.length<=1000000) (hb:∀ x∈l,x.bytes.length<=100000):Fn Tryz.prog 200 [.ag (Ba g),FL l] fun r=>r = .tp [.ag (EO (ZU (Gu g l))),iv (ZT (Gu g l))]:=by
 refine zT Tryz.func200 rfl ?_;conv=>whnf
 refine zU Nat (fun k=>([(1,FL l),(2, .bp 0 0),(4, .bp 1 0),(6, .bp 2 0),(7,iv (ZT (ET g l k))),(8,iv k)], [.box 23 (Ba g), .box 33 [iv 0,iv 0,iv 0,iv 0,iv 0, .v (.string ⟨#[]⟩), .v (.slice none 0 0)], .box 33 (EO (ZU (ET g l k)))])) (fun k=>k<=l.length) (fun k=>l.length - k) 0 (Aj _)
  (z7 (zI (ConvH.subBox 2 rfl an0_sub)) (s:= [0,1,2]) tA) ?_
 intro k hk;have hsucc:=Iv g l k;conv=>whnf
 refine A6 (fun h6=>?_) (fun h6=>?_) <;> (repeat rw [Ab] at h6) <;> conv=>whnf
 ·have hk':k<l.length:=by omega
  have hx:=hb _ (A5 (d:=(⟨0, []⟩:Gt)) hk');have h2:=UH g (l.getD k ⟨0, []⟩) k hg hx;rw [Pf] at hsucc;repeat' (refine zZ ?_;conv=>whnf)
  apply zE (0) tys_ok mixed (.o [0,1,2,3,4,5] (.two 6 (.o [7,8,9,10,11,12] .fin) 10 (.o [6,7,8,9,11,12] .fin))) [9,10,17,18,19,20,21,22,23,24,25,26] (by kernel_rfl)
  ·conv=>whnf
   try (refine tI ?_;conv=>whnf)
   refine Af ?_ ?_
   ·conv=>whnf
    (rw [Ab];refine z_ h2 ?_)
    conv=>whnf
    try (refine tS ?_;conv=>whnf)
    exact tA
   ·conv=>whnf
    (rw [Ab];refine z_ h2 ?_)
    conv=>whnf
    try (refine tS ?_;conv=>whnf)
    exact tA
  conv=>whnf
  generalize E3 g (l.getD k ⟨0, []⟩) (k:Nat)=S at hsucc |-
  generalize ET g l k=P at hsucc |-
  cases S with
  | none=>
   conv=>whnf
   repeat' (refine zZ ?_;conv=>whnf)
   refine⟨k+1,hk',by omega,?_⟩;rw [show ET g l (k+1)=P from hsucc];exact zR (s:= [0,1,2]) ⟨⟨rfl,rfl,rfl,rfl,rfl,AR (by omega),tv⟩,tA,rfl,rfl,rfl,rfl,rfl⟩
  | some b=>
   cases P with
   | none=>
    conv=>whnf
    repeat' (refine zZ ?_;conv=>whnf)
    refine⟨k+1,hk',by omega,?_⟩;rw [show ET g l (k+1)=some (b,k) from hsucc];exact zR (s:= [0,1,2]) ⟨⟨rfl,rfl,rfl,rfl,rfl,AR (by omega),tv⟩,tA,rfl,rfl,rfl,rfl,rfl⟩
   | some q=>
    obtain⟨a,j⟩:=q;conv=>whnf
    by_cases h5:a.gen<b.gen
    ·have e:ET g l (k+1)=some (b,k):=hsucc.trans (if_pos h5);refine A6 (fun h7=>?_) (fun h7=>absurd h5 (Int.not_lt.2 (show b.gen<=a.gen from h7)));conv=>whnf
     repeat' (refine zZ ?_;conv=>whnf)
     refine⟨k+1,hk',by omega,?_⟩;rw [e];exact zR (s:= [0,1,2]) ⟨⟨rfl,rfl,rfl,rfl,rfl,AR (by omega),tv⟩,tA,rfl,rfl,rfl,rfl,rfl⟩
    ·have e:ET g l (k+1)=some (a,j):=hsucc.trans (if_neg h5);refine A6 (fun h7=>absurd (show a.gen<b.gen from h7) h5) (fun h7=>?_);conv=>whnf
     repeat' (refine zZ ?_;conv=>whnf)
     refine⟨k+1,hk',by omega,?_⟩;rw [e];exact zR (s:= [0,1,2]) ⟨⟨rfl,rfl,rfl,rfl,rfl,AR (by omega),tv⟩,tA,rfl,rfl,rfl,rfl,rfl⟩
 ·have ek:k=l.length:=by omega
  subst ek;exact⟨_,ri,rfl⟩
def TxJ (g:Geo) (a:An) (x y:List Gt) (pos seq left:Int) (k:Nat) (of_:Int) (ims:List Img) (more:List Wr):Prop:=
 (k=0/\of_=0/\ims=[]/\more=[])\/((1<=k/\(k:Int)<=of_/\of_<=30/\of_<=left/\ims.length<=k/\more.length<=k)/\∃ r im,ims=(if r.kind=1 then im ++ [r.img] else im)/\
  FW g a x y pos seq left=(let t:=BB (fun j=>DF g a x y pos seq left j of_) (of_ - k).toNat k r im more
   if t.1≠1 then (t.1,0, [], []) else (1,of_,t.2.1,t.2.2)))
section
variable {g:Geo} {a:An} {x y:List Gt} {pos seq left:Int}
theorem V8 {look:Int->Rc × Int × List Wr} {f:Nat} {k:Int} {r:Rc} {im:List Img} {w:List Wr} (h:(look k).2.1=1):BB look (f+1) k r im w=BB look f (k+1) (look k).1 (if r.kind=1 then im ++ [r.img] else im) (w ++ (look k).2.2):=by
 conv=>lhs;unfold BB
 dsimp only;rw [if_neg (not_not_intro h)]
theorem V7 {look:Int->Rc × Int × List Wr} {f:Nat} {k:Int} {r:Rc} {im:List Img} {w:List Wr} (h:(look k).2.1≠1):BB look (f+1) k r im w=((look k).2.1, [], []):=by
 conv=>lhs;unfold BB
 dsimp only;rw [if_pos h]
theorem TxJ.step {k:Nat} {of_:Int} {ims:List Img} {more:List Wr} (h:TxJ g a x y pos seq left k of_ ims more) (hk:k=0\/(k:Int)<of_) {q:Rc × Int × List Wr} (hq:DF g a x y pos seq left (k:Nat) of_=q) (h1:q.2.1=1) (ho:DX g q.1=true) (hi:DI q.1 a seq (k:Nat) of_ left=true) (hw:q.2.2.length<=1) :
  TxJ g a x y pos seq left (k+1) q.1.of_ (if q.1.kind=1 then ims ++ [q.1.img] else ims) (more ++ q.2.2):=by
 have hN:=JF ho hi;have hlen:(if q.1.kind=1 then ims ++ [q.1.img] else ims).length<=ims.length+1:=by split <;> simp
 rcases h with ⟨rfl,rfl,rfl,rfl⟩ | ⟨⟨k1,k2,k3,k4,k5,k6⟩,r,im,e1,e2⟩
 ·refine .inr ⟨⟨by omega,by omega,by omega,hN.2.2.2.2.1 rfl,by simpa using hlen,by simpa using hw⟩,q.1, [],rfl,?_⟩;have hq:DF g a x y pos seq left 0 0=q:=hq;unfold FW;dsimp only;rw [hq,if_neg (not_not_intro h1)];simp only [Bu];rfl
 ·have eo:q.1.of_=of_:=hN.2.2.2.2.2 (by omega);have hk:=hk.resolve_left (by omega);refine .inr ⟨⟨by omega,by omega,by omega,by omega,by omega,by rw [Ai];omega⟩,q.1,ims,rfl,?_⟩;rw [e2,eo];obtain⟨m,hm⟩:∃ m:Nat,(of_ - k).toNat=m+1:=⟨(of_ - k).toNat - 1,by omega⟩;rw [hm,V8 (by rw [hq];exact h1),hq,<-e1,show (of_ - ((k+1:Nat):Int)).toNat=m by omega,show ((k:Int)+1)=((k+1:Nat):Int) by omega]
theorem TxJ.stop {k:Nat} {of_:Int} {ims:List Img} {more:List Wr} (h:TxJ g a x y pos seq left k of_ ims more) (hk:k=0\/(k:Int)<of_) {q:Rc × Int × List Wr} (hq:DF g a x y pos seq left (k:Nat) of_=q) (h1:q.2.1≠1):FW g a x y pos seq left=(q.2.1,0, [], []):=by
 rcases h with ⟨rfl,rfl,rfl,rfl⟩ | ⟨⟨k1,k2,k3,k4,k5,k6⟩,r,im,e1,e2⟩
 ·have hq:DF g a x y pos seq left 0 0=q:=hq;unfold FW;dsimp only;rw [hq,if_pos h1]
 ·have hk:=hk.resolve_left (by omega);obtain⟨m,hm⟩:∃ m:Nat,(of_ - k).toNat=m+1:=⟨(of_ - k).toNat - 1,by omega⟩;rw [e2,hm,V7 (by rw [hq];exact h1),hq];dsimp only;rw [if_pos h1]
theorem TxJ.fin {k:Nat} {of_:Int} {ims:List Img} {more:List Wr} (h:TxJ g a x y pos seq left k of_ ims more) (hk:¬(k=0\/(k:Int)<of_)):FW g a x y pos seq left=(1,of_,ims,more):=by
 rcases h with ⟨rfl,rfl,rfl,rfl⟩ | ⟨⟨k1,k2,k3,k4,k5,k6⟩,r,im,e1,e2⟩
 ·exact absurd (.inl rfl) hk
 ·rw [e2,show (of_ - k).toNat=0 by omega];unfold BB;dsimp only;rw [if_neg (by decide),<-e1]
theorem TxJ.len {k:Nat} {of_:Int} {ims:List Img} {more:List Wr} (h:TxJ g a x y pos seq left k of_ ims more):k<=30/\ims.length<=30/\more.length<=30/\0<=of_/\of_<=30:=by
 rcases h with ⟨rfl,rfl,rfl,rfl⟩ | ⟨⟨k1,k2,k3,k4,k5,k6⟩, -⟩
 ·simp
 ·omega
end
theorem UG (g:Geo) (a:An) (x y:List Gt) (hg:Bt g=true) (ha:Bv g a=true) (hx:(x.length:Int)=g.sl) (hy:(y.length:Int)=g.sl) (hxb:∀ z∈x,z.bytes.length<=100000) (hyb:∀ z∈y,z.bytes.length<=100000) :
  Fn Tryz.prog 201 [.ag (Ba g), .ag (EO a),FL x,FL y] fun r=>r = .tp [Ep (D_ g a x y).1,Ml (D_ g a x y).2.1, .v (.int .i64 (D_ g a x y).2.2)]:=by
 obtain⟨h1,h2,h3,h4,h5⟩:=As.1 hg;have hq:=Jp ha;refine zT Tryz.func201 rfl ?_;conv=>whnf
 refine zA tys_ok mixed [0,1,2,3,4,5,6,7,8] (by kernel_rfl) ?_;conv=>whnf
 unfold D_;generalize hR:EF g a x y g.sl.toNat a.pos a.seq g.sl [] []=R;refine zP (Nat × Int × Int × Int × List Tx × List (List AV) × List Wr) (fun z=>([(2,FL x),(3,FL y),(4, .bp 0 0),(5, .bp 1 0),(8, .v (.slice none 0 0)),(9, .v (.slice none 0 0)),(10,iv 0),(11, .ow 2 z.2.2.2.2.2.1.length),(12, .ow 3 z.2.2.2.2.2.2.length),(13,iv z.2.1),(14,iv z.2.2.1),(15,iv z.2.2.2.1)], [.box 23 (Ba g), .box 33 (EO a), .row 112 4 z.2.2.2.2.2.1, .row 134 2 (z.2.2.2.2.2.2.map DZ)]))
  (fun z=>EF g a x y z.1 z.2.1 z.2.2.1 z.2.2.2.1 z.2.2.2.2.1 z.2.2.2.2.2.2=R/\z.2.2.2.1<=z.1/\(0<=z.2.1/\z.2.1<g.sl)/\(0<=z.2.2.1/\z.2.2.1<=4294967296)/\(z.2.2.2.2.1.length*2+z.2.2.2.1<=g.sl/\0<=z.2.2.2.1)/\z.2.2.2.2.2.2.length<=z.2.2.2.2.1.length*30/\SubLL z.2.2.2.2.2.1 (z.2.2.2.2.1.map Ei))
  (fun z=>z.1) (g.sl.toNat,a.pos,a.seq,g.sl, [], [], []) ⟨hR,show g.sl<=(g.sl.toNat:Int) by omega,hq.2,hq.1,⟨show (0:Int)*2+g.sl<=g.sl by omega,show 0<=g.sl by omega⟩,Ag 0,tv⟩ ⟨[(11,112,4),(12,134,2)],tA,tA,tA,rfl,rfl,rfl⟩ ?_
 rintro⟨f,pos,seq,left,l,rl,w⟩ ⟨b1,b2,b3,b4,b5,b6,b7⟩;dsimp only at b1 b2 b3 b4 b5 b6 b7 |-
 have b8:rl.length=l.length:=by have:=b7.len;rwa [Ac] at this
 conv=>whnf
 refine A6 (fun c1=>?A) (fun c1=>?B)
 case' A=>conv=>whnf
 case' A=>refine A6 (fun c2=>?A1) (fun c2=>?A2)
 case A1=>
  conv=>whnf
  cases f with
  | zero=>exfalso;omega
  | succ f=>
   unfold EF at b1;rw [if_pos ⟨c1,c2⟩] at b1;dsimp only at b1;have tf:=Ir (a:=a) (x:=x) (y:=y) (seq:=seq) (left:=left) hg b3;refine zP (Nat × Int × List Img × List Wr) (fun z=>([(2,FL x),(3,FL y),(4, .bp 0 0),(5, .bp 1 0),(8, .v (.slice none 0 0)),(9, .v (.slice none 0 0)),(10,iv 0),(11, .ow 2 rl.length),(12, .ow 3 w.length),(13,iv pos),(14,iv seq),(15,iv left),(16, .bp 4 0),(17, .ow 6 z.2.2.2.length),(18,iv z.2.1),(19,iv 1),(20,iv z.1)], [.box 23 (Ba g), .box 33 (EO a), .row 112 4 rl, .row 134 2 (w.map DZ), .box 112 [iv seq,iv pos,iv 0, .ow 5 z.2.2.1.length], .row 166 3 (z.2.2.1.map Dz), .row 134 2 (z.2.2.2.map DZ)]))
    (fun z=>TxJ g a x y pos seq left z.1 z.2.1 z.2.2.1 z.2.2.2) (fun z=>31 - z.1) (0,0, [], []) (.inl tA) ⟨[(1004003,166,3),(17,134,2)],tA,tA,tA,rfl,rfl,rfl⟩ ?_
   rintro⟨k,of_,ims,more⟩ hJ;dsimp only at hJ |-
   have hJl:=hJ.len;conv=>whnf
   refine A6 (fun d1=>?C) (fun d1=>?D)
   case' D=>conv=>whnf
   case' D=>refine A6 (fun d2=>?D1) (fun d2=>?D2)
   case D2=>
    conv=>whnf
    have hT:=hJ.fin (by omega);rw [hT] at b1 tf;dsimp only at b1 tf;rw [if_neg (by decide),if_neg (by decide)] at b1;obtain⟨-,⟨n1,n2,n3⟩,n4⟩:=tf.resolve_right (by omega);have hm:=AL (pos+of_) (show 0<g.sl by omega);have hm0:=Bf g.sl (show 0<=pos+of_ by omega);have w1:IntKind.i64.wrap (pos+of_)=pos+of_:=wi (by omega);have w2:IntKind.i64.wrap (seq+1)=seq+1:=wi (by omega);have w3:IntKind.i64.wrap (left - of_)=left - of_:=wi (by omega);refine⟨(by rw [Ac]),?_⟩;refine⟨rfl,?_⟩;refine⟨⟨rfl,by omega⟩,?_⟩;refine⟨(by rw [Ac]),?_⟩;refine⟨⟨by rw [Ac],by omega⟩,?_⟩;conv=>whnf
    rw [w1];refine⟨by omega,?_⟩;conv=>whnf
    rw [w2,w3];refine⟨(f,(pos+of_).tmod g.sl,seq+1,left - of_,l ++ [⟨seq,pos,of_,ims⟩],rl ++ [[iv seq,iv pos,iv of_, .sl 3 ims.length fun i=>(ims.map Dz).getD i []]],w ++ more),⟨b1,by dsimp only;omega,⟨hm0,hm⟩,by dsimp only;omega,?_,?_,?_⟩,Nat.lt_succ_self f, [],tv,⟨rfl,rfl,rfl,rfl,rfl,rfl,rfl,by rw [Ai];try rfl,by rw [Ai];try rfl,rfl,rfl,rfl,tv⟩,⟨rfl,rfl,rfl,by rw [A0],tv⟩,rfl,rfl,rfl⟩
    ·dsimp only;rw [Ai];simp only [Ap,Be];omega
    ·dsimp only;rw [Ai,Ai];simp only [Ap,Be];omega
    ·dsimp only;rw [A0];refine SubLL.app ?_ b7;exact⟨fun _ _ h=>h,fun _ _ h=>h,fun _ _ h=>h,B3 (f:=Dz) ims rfl rfl,tv⟩
   all_goals
    conv=>whnf
    have hk:k=0\/(k:Int)<of_:=by omega
    have hsl:=Hs (at_:=(k:Nat)) hg b3 (by omega);obtain⟨s,es⟩:=CX hsl.1;have es2:(IntKind.i64.wrap (pos+(k:Nat))).tmod g.sl=(s:Nat):=es;have hs1:(s:Int)<g.sl:=by rw [es] at hsl;exact hsl.2
    have hin:C0 (s:Nat) 0 (g.sl - 1)=true:=AD.2 (by omega);have rl1:=UM g a (x.getD s gz) (y.getD s gz) (s:Nat) seq (k:Nat) of_ left hg hin (hxb _ (A5 (by omega))) (hyb _ (A5 (by omega)));have hF:=Kk (g:=g) (a:=a) (x:=x.getD s gz) (y:=y.getD s gz) (slot:=(s:Nat)) (seq:=seq) (at_:=(k:Nat)) (of_:=of_) (left:=left) ⟨by omega,hs1⟩;have hrec:DF g a x y pos seq left (k:Nat) of_=((E6 g a (x.getD s gz) (y.getD s gz) (s:Nat) seq (k:Nat) of_ left).1,(E6 g a (x.getD s gz) (y.getD s gz) (s:Nat) seq (k:Nat) of_ left).2.2,(E6 g a (x.getD s gz) (y.getD s gz) (s:Nat) seq (k:Nat) of_ left).2.1.map fun c=>⟨Bj g c (s:Nat),BW g (E6 g a (x.getD s gz) (y.getD s gz) (s:Nat) seq (k:Nat) of_ left).1 c (s:Nat)⟩):=by
     unfold DF;dsimp only;rw [es,Ab]
    generalize E6 g a (x.getD s gz) (y.getD s gz) (s:Nat) seq (k:Nat) of_ left=Q at rl1 hF hrec;refine zZ ?_;refine⟨by omega,?_⟩;conv=>whnf
    rw [es2];conv=>whnf
    apply zL tys_ok mixed (.o [0,1,2,3,4,5,6,7,8,9,10,11,12,13,14] (.two 15 (.o [16,17,18,19,20,21,22,23] .fin) 20 (.o [15,16,17,18,19,21,22,23] .fin))) [22,23,24,60,61,62,63,64,65,66,67,68,69,70,71,72,73,74,75,76,77,78,79] (by kernel_rfl)
    ·conv=>whnf
     try (refine Af (by first | omega | exact ixA | exact ixB | (simp;done)) ?_;conv=>whnf)
     try (refine Af (by first | omega | exact ixA | exact ixB | (simp;done)) ?_;conv=>whnf)
     refine Af ?_ ?_
     ·conv=>whnf
      refine z_ rl1 ?_;conv=>whnf
      try (refine tS ?_;conv=>whnf)
      exact tA
     ·conv=>whnf
      refine z_ rl1 ?_;conv=>whnf
      try (refine tS ?_;conv=>whnf)
      exact tA
    conv=>whnf
    obtain⟨r,ws,how⟩:=Q;dsimp only at hF hrec |-
    refine A6 (fun f1=>?_) (fun f1=>?_) <;> (repeat rw [Ab] at f1) <;> conv=>whnf
    ·obtain⟨q1,rfl,rfl⟩:=hF.resolve_left (fun h=>f1 h.1);have hT:=hJ.stop hk hrec f1;rw [hT] at b1 tf;dsimp only at b1;rcases q1 with rfl | rfl
     ·rw [if_neg (by decide),if_pos (by decide)] at b1;subst b1;have hws:IntKind.i64.wrap (seq - 1)=seq - 1:=by rw [IntKind.wrap_i64];omega
      conv=>whnf
      rw [hws];conv=>whnf
      refine A6 (fun e1=>?_) (fun e1=>?_) <;> (repeat rw [Ab] at e1) <;> conv=>whnf
      ·exact⟨_,fun c u h=>J6 12 c u h,by rw [HE e1];try rfl⟩
      ·refine⟨rfl,?_⟩;refine⟨(by rw [Ac]),?_⟩;exact⟨.tp [Ep l,Ml w,iv 0],BS ⟨OU l b8 rfl b7,B3 w rfl rfl,ri,tv⟩,by rw [F0 (by omega)]⟩
     ·rw [if_pos (by decide)] at b1;subst b1;exact⟨_,fun c u h=>J6 12 c u h,rfl⟩
    ·subst f1;obtain⟨-,⟨o1,o2,o3⟩,o4,o5⟩:=hF.resolve_right (fun h=>by omega);have hJ2:=hJ.step hk hrec rfl o1 o3 (by rw [Ac];exact o4);dsimp only at hJ2;obtain⟨IM,hIM⟩:∃ IM,IM=(if r.kind=1 then ims ++ [r.img] else ims):=⟨_,rfl⟩;rw [<-hIM] at hJ2;have hJl2:=hJ2.len;refine aSeq.cut Unit (fun _=>([(2,FL x),(3,FL y),(4, .bp 0 0),(5, .bp 1 0),(8, .v (.slice none 0 0)),(9, .v (.slice none 0 0)),(10,iv 0),(11, .ow 2 rl.length),(12, .ow 3 w.length),(13,iv pos),(14,iv seq),(15,iv left),(16, .bp 4 0),(17, .ow 6 more.length),(18,iv r.of_),(19,iv 1),(20,iv k),(21,iv (s:Nat)),(22, .bp 7 0),(23,iA ws)], [.box 23 (Ba g), .box 33 (EO a), .row 112 4 rl, .row 134 2 (w.map DZ), .box 112 [iv seq,iv pos,iv 0, .ow 5 IM.length], .row 166 3 (IM.map Dz), .row 134 2 (more.map DZ), .box 168 (FX r)])) (fun _=>True) ?_ ?_
     ·conv=>whnf
      refine A6 (fun k1=>?_) (fun k1=>?_) <;> (repeat rw [Ab] at k1) <;> conv=>whnf
      ·rw [if_pos k1] at hIM;refine⟨rfl,?_⟩;refine⟨⟨by rw [Ac],by omega⟩,?_⟩;conv=>whnf
       exact⟨(),tv, [],tv,tA,⟨rfl,rfl,rfl,rfl,by rw [hIM,Ai];try rfl,by rw [hIM,A0];try rfl,rfl,rfl,tv⟩,rfl,rfl,rfl⟩
      ·rw [if_neg k1] at hIM;exact⟨(),tv, [],tv,tA,⟨rfl,rfl,rfl,rfl,by rw [hIM],by rw [hIM],rfl,rfl,tv⟩,rfl,rfl,rfl⟩
     ·rintro⟨⟩ -
      conv=>whnf
      cases ws with
      | nil=>
       rw [BP,AM] at hJ2;refine zv 1 ?_;conv=>whnf
       exact⟨(k+1,r.of_,IM,more),hJ2,by dsimp only;omega, [],tv,⟨rfl,rfl,rfl,rfl,rfl,rfl,rfl,rfl,rfl,rfl,rfl,rfl,rfl,rfl,rfl,rfl,AR (by omega),tv⟩,tA,rfl,rfl,rfl⟩
      | cons c t=>
       have et:t=[]:=by
        cases t with
        | nil=>rfl
        | cons _ _=>simp at o4
       subst et;have hL:=o5 c (by simp);have c1:=DE g c (s:Nat) hg hL;have c2:=IT g r c (s:Nat) o1 hL;refine zv 2 ?_;conv=>whnf
       apply zL tys_ok mixed (.o [0,1,2,3,4,5,6,8,9,10,11,12,13,14,7,15,16,17,18,19] .fin) [17,101,102,103,104,105,106,107,108,109,110,111,112,113,114,115,116,117,118,119] (by kernel_rfl)
       ·conv=>whnf
        try (refine Af (by first | omega | exact ixA | exact ixB | (simp;done)) ?_;conv=>whnf)
        try (refine Af (by first | omega | exact ixA | exact ixB | (simp;done)) ?_;conv=>whnf)
        refine z_ c1 ?_;conv=>whnf
        refine z_ c2 ?_;conv=>whnf
        try (refine tJ ?_;conv=>whnf)
        try (refine tK ?_;conv=>whnf)
        exact tA
       conv=>whnf
       exact⟨(k+1,r.of_,IM,more ++ [⟨Bj g c (s:Nat),BW g r c (s:Nat)⟩]),hJ2,by dsimp only;omega, [],tv,⟨rfl,rfl,rfl,rfl,rfl,rfl,rfl,rfl,rfl,rfl,rfl,rfl,rfl,by rw [Ai];try rfl,rfl,rfl,AR (by omega),tv⟩,⟨rfl,rfl,rfl,rfl,rfl,rfl,by rw [A0];try rfl,tv⟩,rfl,rfl,rfl⟩
 all_goals
  conv=>whnf
  have hb:some (l,w,seq)=R:=by
   cases f with
   | zero=>exact b1
   | succ f=>unfold EF at b1;rw [if_neg (by omega)] at b1;exact b1
  subst hb;have hws:IntKind.i64.wrap (seq - 1)=seq - 1:=by rw [IntKind.wrap_i64];omega
  rw [hws];conv=>whnf
  refine A6 (fun e1=>?_) (fun e1=>?_) <;> (repeat rw [Ab] at e1) <;> conv=>whnf
  ·exact⟨_,fun c u h=>J6 12 c u h,by rw [HE e1];try rfl⟩
  ·refine⟨rfl,?_⟩;refine⟨(by rw [Ac]),?_⟩;exact⟨.tp [Ep l,Ml w,iv 0],BS ⟨OU l b8 rfl b7,B3 w rfl rfl,ri,tv⟩,by rw [F0 (by omega)]⟩
def eK (d:Dk) (k:Nat):Int:=if d.live k then 0 else 8
def gK (d:Dk) (k:Nat) (a:Int):Gt:=if d.live k then Tz d a else ⟨8, []⟩
theorem JI {d:Dk} {j k:Nat} (h:d.live k) (hj:j<=k):d.live j:=by unfold Dk.live at *;omega
theorem WE {d:Dk} (hl : -1<=d.left):∀ k,¬d.live k->(d.adv k).left=0
 | 0,h=>by exfalso;apply h;unfold Dk.live;omega
 | k+1,h=>by
  by_cases hk:d.live k
  ·have:=WF k d h hk;rw [Jt k (k+1) d this (by omega)];exact this
  ·have:=WE hl k hk;rw [Jt k (k+1) d this (by omega)];exact this
theorem NR (g:Geo) (s:Stt) (d:Dk) (k:Nat) (a:Int) (h:DkOk d) (ha:0<=a/\a<d.cells.length) :
  ACalls Tryz.prog false 79 [.bp 0 0,iv a] (Ju g s (eK d k) (d.adv k)) fun r H=>r = .ag (DJ (gK d (k+1) a))/\H=Ju g s (eK d (k+1)) (d.adv (k+1)):=by
 have hd:=h.adv k;have hn:=(FU k d).1;have hl:=h.l;unfold eK gK;by_cases hk:d.live k
 ·have hr:=Yz g s (d.adv k) a hd (by rw [hn];exact ha);rw [if_pos hk];by_cases h0:(d.adv k).left=0
  ·have hk1:=(Qg k d hl.1 hk).1 h0;rw [if_pos h0,SO a h0] at hr;rw [if_neg hk1,if_neg hk1,Jt k (k+1) d h0 (by omega)];exact hr
  ·have hk1:d.live (k+1):=by
    by_cases e:d.live (k+1)
    ·exact e
    ·exact absurd ((Qg k d hl.1 hk).2 e) h0
   rw [if_neg h0,SN a h0] at hr;rw [if_pos hk1,if_pos hk1];exact hr
 ·have hk1:¬d.live (k+1):=fun h=>hk (JI h (by omega))
  have h0:=WE hl.1 k hk;rw [if_neg hk,if_neg hk1,if_neg hk1,Jt k (k+1) d h0 (by omega)];exact Y0 g s 8 (d.adv k) a (by decide)
theorem WN (g:Geo) (s:Stt) (d:Dk) (l:List Wr) (k:Nat) (h:DkOk d) (hl:∀ w∈l,R8 d.cells.length w) (hk:k<l.length) :
  ACalls Tryz.prog false 88 [.bp 0 0, .v (.int .i64 (l.getD k ⟨0, []⟩).addr),bA (l.getD k ⟨0, []⟩).bytes] (Ju g s (TC (d.writes (l.take k)).2.2) (d.writes (l.take k)).1) fun r H=>(∃ b,r = .v (.bool b))/\H=Ju g s (TC (d.writes (l.take (k+1))).2.2) (d.writes (l.take (k+1))).1:=by
 have hd:=HJ h hl k;have hm:=hl _ (A5 (d:=(⟨0, []⟩:Wr)) hk);have hlive:=fun hlv=>K5 (d:=d) hk hlv
 have hstay:=fun hlv=>JY (d:=d) hk hlv
 generalize d.writes (l.take (k+1))=Q' at hlive hstay |-
 generalize d.writes (l.take k)=Q at hd hlive hstay |-
 obtain⟨X,N,dead⟩:=Q;simp only at hd hlive hstay |-
 cases dead with
 | true=>
  rw [hstay rfl];exact(UC g s 8 X _ _ (by decide)).mono fun r H h=>⟨⟨false,h.1⟩,h.2⟩
 | false=>
  rw [hlive rfl];have hc:=UB g s X (l.getD k ⟨0, []⟩).addr (l.getD k ⟨0, []⟩).bytes hd.1 (by rw [hd.2];exact hm.1) hm.2;refine hc.mono fun r H h=>⟨⟨_,h.1⟩,?_⟩
  rw [h.2];show Ju g s _ _=Ju g s (if decide _=true then 8 else 0) _;congr 1;by_cases h8:(X.write (l.getD k ⟨0, []⟩).addr (l.getD k ⟨0, []⟩).bytes).2=8
  ·rw [if_pos h8,if_pos (decide_eq_true h8)]
  ·rw [if_neg h8,if_neg (by rw [decide_eq_false h8];decide)]
def UQ (d:Dk) (ats:List Int) (k:Nat):List Gt:=(List.range k).map fun j=>gK d (j+1) (ats.getD j 0)
theorem UP (d:Dk) (ats:List Int) (k:Nat):(UQ d ats (k+1)).map DJ=(UQ d ats k).map DJ ++ [DJ (gK d (k+1) (ats.getD k 0))]:=by simp [UQ,Bh]
theorem Xg (d:Dk) (ats:List Int) (k:Nat):(UQ d ats k).length=k:=by simp [UQ]
theorem Xh {d:Dk} {ats:List Int} (h:d.live ats.length):UQ d ats ats.length=Bz d ats:=by
 apply List.ext_getElem
 ·simp [UQ,Bz]
 ·intro i h1 h2;have hi:i<ats.length:=by simpa [UQ] using h1
  simp only [UQ,Bz,List.getElem_map,List.getElem_range];rw [gK,if_pos (JI h (by omega)),Aa,Ae hi];try rfl
def Xi (d:Dk) (g:Geo) (c:Nat) (k:Nat):List Gt:=(List.range k).map fun j=>gK d (2*j+1+c) (Bj g (c:Nat) (j:Nat))
theorem OV (d:Dk) (g:Geo) (c:Nat) (k:Nat):(Xi d g c (k+1)).map DJ=(Xi d g c k).map DJ ++ [DJ (gK d (2*k+1+c) (Bj g (c:Nat) (k:Nat)))]:=by simp [Xi,Bh]
theorem RO (d:Dk) (g:Geo) (c:Nat) (k:Nat):(Xi d g c k).length=k:=by simp [Xi]
theorem RP {d:Dk} {g:Geo} {c:Nat} (hc:c<=1) (h:d.live (2*g.sl.toNat)):Xi d g c g.sl.toNat=Bz d (BT g (c:Nat)):=by
 unfold Xi Bz BT;rw [List.map_map];refine Co fun j hj=>?_
 have hj:=AO.1 hj;rw [gK,if_pos (JI h (by omega))];try rfl
theorem X4 {d:Dk} {l:List Wr} (h:l≠ []):(if TC (d.writes l).2.2=0 then if (d.writes l).1.left=0 then 8 else 0 else TC (d.writes l).2.2:Int)=TC (d.mend l).2/\(if TC (d.writes l).2.2=0 then if (d.writes l).1.left=0 then (d.writes l).1 else (d.writes l).1.flush else (d.writes l).1)=(d.mend l).1:=by
 rw [Dk.mend,if_neg h];cases hd:(d.writes l).2.2 with
 | true=>rw [Fw hd];exact tA
 | false=>
  rw [E4 hd];by_cases h0:(d.writes l).1.left=0
  ·rw [if_pos h0,if_pos h0,if_pos h0];exact tA
  ·rw [if_neg h0,if_neg h0,if_neg h0];exact tA
theorem SH (g:Geo) (s:Stt) (d:Dk) (hg:Bt g=true) (h:DkOk d) (hn:(d.cells.length:Int)=A3 g) :
  ACalls Tryz.prog false 127 [.bp 0 0] (Ju g s 0 d) fun r H=>(∃ S,r = .ag (ER S)/\((Db g d).2.1=0->S=(Db g d).2.2))/\H=NG g s (Db g d).2.1 (Db g d).1:=by
 obtain⟨g1,g2,g3,g4,g5⟩:=As.1 hg;have hcg:=Eg hg;have hl:=h.l;have e0:eK d 0=0:=by unfold eK;rw [if_pos];unfold Dk.live;omega
 refine zS tys_ok Tryz.func127 rfl rfl (Ah rfl) ?_;conv=>whnf
 refine zU Nat (fun k=>([(0, .bp 0 0),(2, .bp 4 0),(3, .ow 5 k),(4,nilV),(5,nilV),(6,ze k)],Z8 g s (eK d k) (d.adv k) [.box 39 [ze 0,ze 0,ze 0,ze 0,ze 0, .v (.string ⟨#[]⟩),nilV,nilV, .v (.bool false),ze 0,ze 0,ze 0,ze 0,nilV], .row 151 2 ((UQ d (Dr g) k).map DJ)])) (fun k=>k<=g.an.toNat) (fun k=>g.an.toNat - k) 0 (Aj _)
  ⟨_,_,zB _ _, [(3,151,2)],tA, [0,1,2,3,4,5],⟨tA,⟨by rw [e0];try rfl,rfl,rfl,rfl,rfl,rfl,tv⟩,rfl,rfl,rfl,rfl,rfl⟩⟩ ?_
 intro k hk;conv=>whnf
 refine A6 (fun h6=>?_) (fun h6=>?_) <;> (repeat rw [Ab] at h6) <;> conv=>whnf
 ·have hk':k<g.an.toNat:=by omega
  have hr:=NR g s d k k h (by omega);repeat' (refine zZ ?_;conv=>whnf)
  refine zh [0,1,2,3] hr ?_;rintro _ _ ⟨rfl,rfl⟩;refine⟨rfl,?_⟩;refine⟨⟨by rw [Ac,Xg],by omega⟩,?_⟩;conv=>whnf
  exact⟨k+1,hk',by omega,zR (s:= [0,1,2,3,4,5]) ⟨⟨rfl,rfl,rfl,rfl,rfl,AR (by omega),tv⟩,⟨rfl,rfl,rfl,rfl,rfl,congrArg (fun l=>some (AB.row _ _ l)) (by rw [UP,N2 hk'];try rfl),tv⟩,rfl,rfl,rfl,rfl,rfl⟩⟩
 ·have ek:k=g.an.toNat:=by omega
  subst ek;by_cases hlv:d.live g.an.toNat
  ·have eA:eK d g.an.toNat=0:=by unfold eK;rw [if_pos hlv]
   rw [eA];have hrl:UQ d (Dr g) g.an.toNat=Bz d (Dr g):=by have:=Xh (d:=d) (ats:=Dr g) (by rw [Fj];exact hlv);rwa [Fj] at this
   rw [hrl];have hM:Db g d=match Gu g (Bz d (Dr g)) with | none=>(d.adv g.an.toNat,11,st0) | some (a,_)=>I0 g a (d.adv g.an.toNat):=by unfold Db;rw [if_pos hlv];try rfl
   have hnw:=Q5 g (Bz d (Dr g)) hg (by rw [DU,Fj];omega) (H9 h _);have hpo:=fun {a j}=>IY (g:=g) (l:=Bz d (Dr g)) hg (Bz d (Dr g)).length (a:=a) (j:=j)
   have hpo:∀ {a j},Gu g (Bz d (Dr g))=some (a,j)->Bv g a=true:=hpo;have hgl:(Bz d (Dr g)).length=g.an.toNat:=by rw [DU,Fj]
   generalize Bz d (Dr g)=L at hnw hpo hgl hM |-
   have hd1:=h.adv g.an.toNat;have hs1:=(FU g.an.toNat d).1;generalize d.adv g.an.toNat=d1 at hd1 hs1 hM |-
   conv=>whnf
   refine zQ hnw.go ?_;refine⟨(by rw [Ac,hgl]),?_⟩;conv=>whnf
   refine zY [.ag (Ba g),FL L] ⟨ri,B3 (f:=DJ) L hgl.symm rfl,tv⟩ ?_;refine z_ hnw ?_;conv=>whnf
   cases hP:Gu g L with
   | none=>
    rw [hP] at hM;replace hM:Db g d=(d1,11,st0):=hM;rw [hM];exact⟨.ag (ER st0), .ag (ER st0),NG g s 11 d1,Bm st0_sub,z7 (zI (zu 1 3 (by decide) rfl rfl)) (s:= [0,1,2,3,7]) tA,⟨st0,rfl,fun _=>rfl⟩,rfl⟩
   | some q=>
    obtain⟨a,j⟩:=q;have hao:=hpo hP;rw [hP] at hM;replace hM:Db g d=I0 g a d1:=hM;rw [hM];clear hM hnw;have hl1:=hd1.l;have e10:eK d1 0=0:=by unfold eK;rw [if_pos];unfold Dk.live;omega
    conv=>whnf
    refine zU Nat (fun k=>([(0, .bp 0 0),(2, .bp 4 0),(4, .ow 6 k),(5, .ow 7 k),(7, .bp 5 0),(9,ze k)],Z8 g s (eK d1 (2*k)) (d1.adv (2*k)) [.box 39 [ze 0,ze 0,ze 0,ze 0,ze 0, .v (.string ⟨#[]⟩),nilV,nilV, .v (.bool false),ze 0,ze 0,ze 0,ze 0,nilV], .box 33 (EO a), .row 151 2 ((Xi d1 g 0 k).map DJ), .row 151 2 ((Xi d1 g 1 k).map DJ)])) (fun k=>k<=g.sl.toNat) (fun k=>g.sl.toNat - k) 0 (Aj _)
     ⟨_,_,zB _ _, [(4,151,2),(5,151,2)],tA, [0,1,2,3,4,6,7,8],⟨tA,⟨by show _=some (AB.box _ (Zl _ _ _ (eK d1 0)));rw [e10];try rfl,rfl,rfl,rfl,rfl,rfl,rfl,rfl,tv⟩,rfl,rfl,rfl,rfl,rfl⟩⟩ ?_
    intro k hk;conv=>whnf
    refine A6 (fun h7=>?_) (fun h7=>?_) <;> (repeat rw [Ab] at h7) <;> conv=>whnf
    ·have hk':k<g.sl.toNat:=by omega
     have hla:=DE g 0 k hg (by simp only [Hz,Ad,AD];omega);have hlb:=DE g 1 k hg (by simp only [Hz,Ad,AD];omega);have hra:=NR g s d1 (2*k) (Bj g 0 k) hd1 (FJ hg (by rw [hs1];exact hn) (.inl rfl) (by omega));have hrb:=NR g s d1 (2*k+1) (Bj g 1 k) hd1 (FJ hg (by rw [hs1];exact hn) (.inr rfl) (by omega));repeat' (refine zZ ?_;conv=>whnf)
     refine z_ hla ?_;conv=>whnf
     refine zh [0,1,2,3] hra ?_;rintro _ _ ⟨rfl,rfl⟩;refine⟨rfl,?_⟩;refine⟨⟨by rw [Ac,RO],by omega⟩,?_⟩;conv=>whnf
     repeat' (refine zZ ?_;conv=>whnf)
     refine z_ hlb ?_;conv=>whnf
     refine zh [0,1,2,3] hrb ?_;rintro _ _ ⟨rfl,rfl⟩;refine⟨rfl,?_⟩;refine⟨⟨by rw [Ac,RO],by omega⟩,?_⟩;conv=>whnf
     repeat' (refine zZ ?_;conv=>whnf)
     exact⟨k+1,hk',by omega,zR (s:= [0,1,2,3,4,5,6,7]) ⟨⟨rfl,rfl,rfl,rfl,rfl,AR (by omega),tv⟩,⟨rfl,rfl,rfl,rfl,rfl,rfl,congrArg (fun l=>some (AB.row _ _ l)) (by rw [OV];try rfl),congrArg (fun l=>some (AB.row _ _ l)) (by rw [OV];try rfl),tv⟩,rfl,rfl,rfl,rfl,rfl⟩⟩
    ·have ek:k=g.sl.toNat:=by omega
     subst ek;unfold I0;by_cases hl2:d1.live (2*g.sl.toNat)
     ·have eB:eK d1 (2*g.sl.toNat)=0:=by unfold eK;rw [if_pos hl2]
      rw [eB,if_pos hl2,RP (by decide) hl2,RP (by decide) hl2];have hx1:(Bz d1 (BT g 0)).length=g.sl.toNat:=by rw [DU,Fc]
      have hx2:(Bz d1 (BT g 1)).length=g.sl.toNat:=by rw [DU,Fc]
      have hsc:=UG g a (Bz d1 (BT g 0)) (Bz d1 (BT g 1)) hg hao (by omega) (by omega) (H9 hd1 _) (H9 hd1 _);have hlast:=Lh (x:=Bz d1 (BT g 0)) (y:=Bz d1 (BT g 1)) hg hao;have hin:=Lg (x:=Bz d1 (BT g 0)) (y:=Bz d1 (BT g 1)) (n:=d1.cells.length) hg hao (by omega) (by omega) (by rw [hs1];exact hn);have c0:Bz d1 (BT g ((0:Nat):Int))=Bz d1 (BT g 0):=rfl;have c1:Bz d1 (BT g ((1:Nat):Int))=Bz d1 (BT g 1):=rfl;rw [c0,c1];clear c0 c1;generalize D_ g a (Bz d1 (BT g 0)) (Bz d1 (BT g 1))=S at hsc hlast hin |-
      obtain⟨T,W,e⟩:=S;simp only at hsc hlast hin;generalize Bz d1 (BT g 0)=X1 at hx1 hsc |-
      generalize Bz d1 (BT g 1)=X2 at hx2 hsc |-
      have hd2:=hd1.adv (2*g.sl.toNat);have hs2:=(FU (2*g.sl.toNat) d1).1;generalize d1.adv (2*g.sl.toNat)=d2 at hd2 hs2 |-
      conv=>whnf
      apply zV (0) tys_ok mixed (.o [0,1,2,3,4,5,6,7,8,9,10,11,12,13,14] .fin) (by kernel_rfl);conv=>whnf
      (refine zQ hsc.go ?_;(conv=>whnf);refine Af (by rw [Ac,hx1]) ?_;(conv=>whnf);refine Af (by rw [Ac,hx2]) ?_;(conv=>whnf);refine zY [.ag (Ba g), .ag (EO a),FL X1,FL X2] ⟨ri,ri,B3 (f:=DJ) X1 hx1.symm rfl,B3 (f:=DJ) X2 hx2.symm rfl,tv⟩ ?_;refine z_ hsc ?_)
      conv=>whnf
      unfold L4;by_cases he:e=0
      ·subst he;rw [if_neg (by simp)];have hin:=hin rfl;have hlast:=hlast rfl;simp only;conv=>whnf
       have hWin:∀ w∈W,R8 d2.cells.length w:=by rw [hs2];exact hin.1
       refine zU Nat (fun k=>([(0, .bp 0 0),(2, .bp 4 0),(7, .bp 5 0),(10,Ep T),(11,Ml W),(13,ze k)],Z8 g s (TC (d2.writes (W.take k)).2.2) (d2.writes (W.take k)).1 [.box 39 [ze 0,ze 0,ze 0,ze 0,ze 0, .v (.string ⟨#[]⟩),nilV,nilV, .v (.bool false),ze 0,ze 0,ze 0,ze 0,nilV], .box 33 (EO a)])) (fun k=>k<=W.length) (fun k=>W.length - k) 0 (Aj _)
        (zR (s:= [0,1,2,3,4,5]) tA) ?_
       intro k hk;conv=>whnf
       refine A6 (fun h8=>?_) (fun h8=>?_) <;> (repeat rw [Ab] at h8) <;> conv=>whnf
       ·have hk':k<W.length:=by omega
        have hw:=WN g s d2 W k hd2 hWin hk';repeat' (refine zZ ?_;conv=>whnf)
        apply zV (2 ^ 139) tys_ok mixed (.o [0,1,2,3,4,5,6,7,8,9,10,11] .fin) (by kernel_rfl);conv=>whnf
        try (refine tI ?_;conv=>whnf)
        try (refine tI ?_;conv=>whnf)
        (rw [Ab];refine zh [0,1,2,3] hw ?_;rintro _ _ ⟨⟨b,rfl⟩,rfl⟩)
        exact⟨k+1,hk',by omega,zR (s:= [0,1,2,3,4,5]) ⟨⟨rfl,rfl,rfl,rfl,rfl,AR (by omega),tv⟩,tA,rfl,rfl,rfl,rfl,rfl⟩⟩
       ·have ek:k=W.length:=by omega
        subst ek;rw [Ay];have hdw:=HJ hd2 hWin W.length;rw [Ay] at hdw;refine aSeq.cutR Unit (fun _=>([(0, .bp 0 0),(2, .bp 5 0),(7, .bp 6 0),(10,Ep T)],NG g s (TC (d2.mend W).2) (d2.mend W).1 ++ [AB.box 39 [ze 0,ze 0,ze 0,ze 0,ze 0, .v (.string ⟨#[]⟩),nilV,nilV, .v (.bool false),ze 0,ze 0,ze 0,ze 0,nilV],AB.box 33 (EO a)])) (fun _=>True) ?_ ?_
        ·by_cases hW:W=[]
         ·subst hW;exact⟨(),tv,z7 (zI (zu 1 3 (by decide) rfl rfl)) (s:= [0,1,2,3,6,4,5]) tA⟩
         ·have hWl:0<W.length:=DD.2 hW;obtain⟨m1,m2⟩:=X4 (d:=d2) hW;have hf:=UT g s (TC (d2.writes W).2.2) (d2.writes W).1 hdw.1;rw [m1,m2] at hf;conv=>whnf
          refine A6 (fun _=>?_) (fun hq=>absurd hq (by omega));conv=>whnf
          refine zh [0,1,2,3] hf ?_;rintro _ _ ⟨rfl,rfl⟩;exact⟨(),tv,zR (s:= [0,1,2,3,6,4,5]) tA⟩
        ·rintro _ _;have hdm:DkOk (d2.mend W).1/\(d2.mend W).1.cells.length=d2.cells.length:=by
          unfold Dk.mend;split
          ·exact⟨hd2,rfl⟩
          ·exact JC hd2 hWin
         generalize d2.mend W=M at hdm |-
         obtain⟨d3,dead⟩:=M;simp only at hdm |-
         cases dead with
         | true=>
          rw [if_pos rfl];conv=>whnf
          repeat' (refine zZ ?_;conv=>whnf)
          exact⟨.ag (ER st0), .ag (ER st0),NG g s 8 d3,Bm st0_sub,zR (s:= [0,1,2,3,4]) tA,⟨st0,rfl,fun _=>rfl⟩,rfl⟩
         | false=>
          rw [if_neg (by decide)];have hpa:=FT hao;unfold L3;by_cases hmx:a.gen=4294967295\/a.epoch=4294967295
          ·rw [if_pos hmx];conv=>whnf
           repeat' (refine zZ ?_;conv=>whnf)
           refine A6 (fun _=>?_) (fun q1=>?_)
           ·conv=>whnf
            repeat' (refine zZ ?_;conv=>whnf)
            exact⟨.ag (ER st0), .ag (ER st0),NG g s 14 d3,Bm st0_sub,zR (s:= [0,1,2,3,4]) tA,⟨st0,rfl,fun _=>rfl⟩,rfl⟩
           ·conv=>whnf
            refine A6 (fun _=>?_) (fun q2=>absurd hmx (by omega));conv=>whnf
            repeat' (refine zZ ?_;conv=>whnf)
            exact⟨.ag (ER st0), .ag (ER st0),NG g s 14 d3,Bm st0_sub,zR (s:= [0,1,2,3,4]) tA,⟨st0,rfl,fun _=>rfl⟩,rfl⟩
          ·rw [if_neg hmx];have hna:=L2 (n:=T.length) hao (fun e=>hmx (.inl e)) (fun e=>hmx (.inr e)) hlast.2;have hban:=Pb g s d3 (DH a T.length) hg hna hdm.1 (Mg hg hna (by rw [hdm.2,hs2,hs1];exact hn));have w1:IntKind.i64.wrap (a.gen+1)=a.gen+1:=wi (by omega);have w2:IntKind.i64.wrap (a.epoch+1)=a.epoch+1:=wi (by omega);have w3:IntKind.i64.wrap (IntKind.i64.wrap (a.seq+T.length) - 1)=a.seq+T.length - 1:=by
            rw [wi (n:=a.seq+T.length) (by omega)];exact wi (by omega)
           conv=>whnf
           repeat' (refine zZ ?_;conv=>whnf)
           refine A6 (fun q=>absurd q (by omega)) (fun q1=>?_);conv=>whnf
           refine A6 (fun q=>absurd q (by omega)) (fun q2=>?_);conv=>whnf
           repeat' (refine zZ ?_;conv=>whnf)
           rw [w1,w2,w3];refine zX [0,1,2,4] hban rfl rfl rfl rfl (by decide) (YG rfl rfl) tA ?_;rintro _ _ ⟨rfl,rfl⟩;have hpn:(d3.putAll (Bg g (DH a T.length))).2.1=(d3.writes (Bg g (DH a T.length))).2.1:=by
            cases hdd:(d3.writes (Bg g (DH a T.length))).2.2 with
            | true=>rw [Fw hdd]
            | false=>rw [E4 hdd];split <;> rfl
           rw [<-hpn];generalize d3.putAll (Bg g (DH a T.length))=Q;obtain⟨d4,n,dead⟩:=Q;simp only;cases dead with
           | true=>
            rw [if_pos rfl];conv=>whnf
            repeat' (refine zZ ?_;conv=>whnf)
            exact⟨.ag (ER (Bl (DH a T.length) T)), .ag (ER (Bl (DH a T.length) T)),NG g s 8 d4,Bm ⟨ri,ri,ri,ri,ri,ri,ri,ri,ri,ri,ri,ri,ri,Bp 1 _,tv⟩,zR (s:= [0,1,2,3,7]) tA,⟨_,rfl,fun h=>absurd h (show ¬(8:Int)=0 by decide)⟩,rfl⟩
           | false=>
            rw [if_neg (by decide)];by_cases hn0:n=0
            ·subst hn0;rw [if_pos rfl];conv=>whnf
             repeat' (refine zZ ?_;conv=>whnf)
             exact⟨.ag (ER (Bl (DH a T.length) T)), .ag (ER (Bl (DH a T.length) T)),NG g s 14 d4,Bm ⟨ri,ri,ri,ri,ri,ri,ri,ri,ri,ri,ri,ri,ri,Bp 1 _,tv⟩,zR (s:= [0,1,2,3,7]) tA,⟨_,rfl,fun h=>absurd h (show ¬(14:Int)=0 by decide)⟩,rfl⟩
            ·rw [if_neg hn0];have hnb:((n:Int) == 0)=false:=beq_eq_false_iff_ne.2 (by omega);conv=>whnf
             repeat' (refine zZ ?_;conv=>whnf)
             rw [hnb];conv=>whnf
             repeat' (refine zZ ?_;conv=>whnf)
             exact⟨.ag (ER (Bl (DH a T.length) T)), .ag (ER (Bl (DH a T.length) T)),NG g s 0 d4,Bm ⟨ri,ri,ri,ri,ri,ri,ri,ri,ri,ri,ri,ri,ri,Bp 1 _,tv⟩,zR (s:= [0,1,2,3,7]) tA,⟨_,rfl,fun _=>rfl⟩,rfl⟩
      ·rw [if_pos (by simpa using he)];have hb:(e != 0)=true:=bne_iff_ne.2 he;rw [hb];exact⟨.ag (ER st0), .ag (ER st0),NG g s e d2,Bm st0_sub,z7 (zI (zu 1 3 (by decide) rfl rfl)) (s:= [0,1,2,3,8]) tA,⟨st0,rfl,fun h=>absurd h he⟩,rfl⟩
     ·have eB:eK d1 (2*g.sl.toNat)=8:=by unfold eK;rw [if_neg hl2]
      rw [eB,if_neg hl2];exact⟨.ag (ER st0), .ag (ER st0),NG g s 8 (d1.adv (2*g.sl.toNat)),Bm st0_sub,z7 (zI (zu 1 3 (by decide) rfl rfl)) (s:= [0,1,2,3,8]) tA,⟨st0,rfl,fun _=>rfl⟩,rfl⟩
  ·have eA:eK d g.an.toNat=8:=by unfold eK;rw [if_neg hlv]
   have hM:Db g d=(d.adv g.an.toNat,8,st0):=by unfold Db;rw [if_neg hlv]
   rw [eA,hM];exact⟨.ag (ER st0), .ag (ER st0),NG g s 8 (d.adv g.an.toNat),Bm st0_sub,z7 (zI (zu 1 3 (by decide) rfl rfl)) (s:= [0,1,2,3,6]) tA,⟨st0,rfl,fun _=>rfl⟩,rfl⟩
theorem OC (l:List Tx) (hl:l.length<=1000000) (hi:∀ t∈l,t.images.length<=1000000/\∀ x∈t.images,x.bytes.length<=1000000000):Fn Tryz.prog 64 [Ep l] fun r=>r=Ep l:=by
 refine zT Tryz.func64 rfl ?_;conv=>whnf
 refine zU Nat (fun k=>([(0,Ep l),(3, .ow 0 k),(4,ze k)], [.row 112 4 ((l.take k).map Ei)])) (fun k=>k<=l.length) (fun k=>l.length - k) 0 (Aj _)
  ⟨_,_,zB _ _, [(3,112,4)],tA, [0],tA⟩ ?_
 intro k hk;conv=>whnf
 refine A6 (fun h6=>?_) (fun h6=>?_) <;> (repeat rw [Ab] at h6) <;> conv=>whnf
 ·have hk':k<l.length:=by omega
  have hm:=hi _ (A5 (d:=(⟨0,0,0, []⟩:Tx)) hk');have b1:=Mm (l.getD k ⟨0,0,0, []⟩).images hm.1 hm.2;have hl:k=((l.take k).map Ei).length:=by simp;omega
  apply zV (0) tys_ok mixed (.o [0,1,2,3,4,5,6,7,8,9,10,11,12,13,14,15,16,17,18,19,20,21,22,23,24,25] .fin) (by kernel_rfl);conv=>whnf
  try (refine tI ?_;conv=>whnf)
  try (refine tI ?_;conv=>whnf)
  try (refine tI ?_;conv=>whnf)
  try (refine tI ?_;conv=>whnf)
  refine z_ b1 ?_;conv=>whnf
  try (refine tJ ?_;conv=>whnf)
  try (refine tK ?_;conv=>whnf)
  all_goals exact⟨k+1,hk',by omega,zR (s:= [0]) ⟨⟨rfl,rfl,AR (by omega),tv⟩,⟨congrArg (fun l=>some (AB.row _ _ l)) (Gi (f:=Ei) (d:=(⟨0,0,0, []⟩:Tx)) hk').symm,tv⟩,rfl,rfl,rfl,rfl,rfl⟩⟩
 ·have ek:k=l.length:=by omega
  subst ek;rw [Ay];refine Af (Ac _).symm ?_;exact⟨Ep l,B3 (f:=Ei) l rfl rfl,rfl⟩
theorem N7 (s:Stt) (h:StSm s):Fn Tryz.prog 24 [.ag (ER s)] fun r=>r = .ag (ER s):=by
 have c1:=Mn s.a (by have:=h.h.1;omega) h.h.2;have c2:=OC s.txns (by have:=h.t.1;omega) (fun t ht=>⟨by have:=(h.t.2 t ht).1;omega,fun x hx=>by have:=(h.t.2 t ht).2 x hx;omega⟩);have c3:=JZ s.lost h.o;refine zT Tryz.func24 rfl ?_;conv=>whnf
 apply zV (0) tys_ok mixed (.o [0,1,3,4,6,7,8,2,10,5,9,11,12,13,14,15,16] .fin) (by kernel_rfl);conv=>whnf
 refine z_ c1 ?_;conv=>whnf
 refine z_ c2 ?_;conv=>whnf
 refine z_ c3 ?_;conv=>whnf
 try (refine tS ?_;conv=>whnf)
 try (refine tS ?_;conv=>whnf)
 try (refine tS ?_;conv=>whnf)
 all_goals exact⟨_,ri,rfl⟩
theorem DkOk.big {d:Dk} (h:DkOk d):d.cells.length<=1000000/\d.cache.length<=1000000/\(∀ c∈d.cells,c.bytes.length<=1000000000/\c.old.length<=1000000000)/\(∀ w∈d.cache,w.bytes.length<=1000000000):=
 ⟨by have:=h.n;omega,by have:=h.m;omega,fun c hc=>by have:=(h.c c hc).2;omega,fun w hw=>by have:=(h.w w hw).2;omega⟩
theorem SU (g:Geo) (d:Dk) (s:Stt) (h:DkOk d) (hs:StSm s):ACalls Tryz.prog false 29 [.ag (Ba g), .ag (Ey d), .ag (ER s)] [] fun r H=>r = .bp 0 0/\H=Ju g s 0 d:=by
 obtain⟨q1,q2,q3,q4⟩:=h.big;have c1:=Xb d q1 q2 q3 q4;have c2:=N7 s hs;refine zS tys_ok Tryz.func29 rfl rfl (Ah rfl) ?_;conv=>whnf
 apply zV (0) tys_ok mixed (.o [0,1,3,2,4,5,6,7] .fin) (by kernel_rfl);conv=>whnf
 (refine zW c1 rfl ?_;rintro _ _ ⟨rfl,rfl⟩)
 conv=>whnf
 refine z_ c2 ?_;exact⟨_, .bp 0 0,Ju g s 0 d,fun _ _ h=>h,zR (s:= [6,3,4,5]) tA,rfl,rfl⟩
@[reducible] def au (a:An) (x:AV):List AV:= [iv a.gen,iv a.epoch,iv a.pos,iv a.seq,iv a.last, .v (.string a.label),x]
@[reducible] def ak (s:Stt) (x y:AV):List AV:= [iv s.a.gen,iv s.a.epoch,iv s.a.pos,iv s.a.seq,iv s.a.last, .v (.string s.a.label),x,y, .v (.bool s.only),iv s.cursor,iv s.found,iv s.fixed,iv s.moved,iA s.lost]
@[reducible] def ZF (g:Geo) (x hm tx:AV) (s:Stt) (e:Int):List AV:= [iv g.z,iv g.d,iv g.sp,iv g.sl,iv g.an,x,iv s.a.gen,iv s.a.epoch,iv s.a.pos,iv s.a.seq,iv s.a.last, .v (.string s.a.label),hm,tx, .v (.bool s.only),iv s.cursor,iv s.found,iv s.fixed,iv s.moved,iA s.lost,iv e]
@[reducible] def am (g:Geo) (s:Stt) (e:Int) (d:Dk):List AB:= [.box 83 (ZF g (.bp 1 0) (.ow 4 s.a.homes.length) (.ow 5 s.txns.length) s e), .box 85 (HG (.ow 2 d.cells.length) (.ow 3 d.cache.length) d.reqs d.left), .row 128 3 (d.cells.map B4), .row 134 2 (d.cache.map DZ), .row 177 3 (s.a.homes.map Jv), .row 112 4 (s.txns.map Ei)]
@[reducible] def rwP (g:Geo) (s:Stt) (e:Int) (d:Dk):List AB:= [.box 83 (ZF g (.bp 1 0) (.ow 4 s.a.homes.length) (.ow 5 s.txns.length) s e), .box 85 (HG (.ow 2 d.cells.length) (.ow 6 d.cache.length) d.reqs d.left), .row 128 3 (d.cells.map B4), .dead, .row 177 3 (s.a.homes.map Jv), .row 112 4 (s.txns.map Ei), .row 134 2 (d.cache.map DZ)]

theorem LI {α:Type} {n i:Nat} {a d:α} (h:i<n):(List.replicate n a).getD i d=a:=by rw [Aa,CP h];try rfl
theorem Sp {i:Nat} (h:i<8):zero8.getD i 0=0:=by
 have:i=0\/i=1\/i=2\/i=3\/i=4\/i=5\/i=6\/i=7:=by omega
 rcases this with rfl | rfl | rfl | rfl | rfl | rfl | rfl | rfl <;> rfl
def K2 (cs:List Cel) (w:Wr):List Cel:=cs.set w.addr.toNat { cs.getD w.addr.toNat cz with bytes:=w.bytes }
def Em (cs:List Cel) (l:List Wr):List Cel:=l.foldl K2 cs
theorem PB (cs:List Cel) (w:Wr):(K2 cs w).length=cs.length:=by simp [K2]
theorem EK (l:List Wr):∀ cs:List Cel,(Em cs l).length=cs.length:=by
 induction l with
 | nil=>intro cs;rfl
 | cons w l ih=>intro cs;show (Em (K2 cs w) l).length=_;rw [ih,PB]
theorem Ib (cs:List Cel) {l:List Wr} {k:Nat} (h:k<l.length):Em cs (l.take (k+1))=K2 (Em cs (l.take k)) (l.getD k ⟨0, []⟩):=by
 unfold Em;rw [Bk,Cb,Ae h];simp [Aa,Ae h]
theorem Jk (cs:List Cel) (w:Wr):(K2 cs w).map B4=(cs.map B4).set w.addr.toNat (B4 { cs.getD w.addr.toNat cz with bytes:=w.bytes }):=by rw [K2,C6]
def I8 (g:Geo):List Cel:=List.replicate (A3 g).toNat cz
def GP (g:Geo) (c:Int):List Wr:=(List.range g.sl.toNat).map fun i=>⟨Bj g c (i:Nat),BW g zeroC c (i:Nat)⟩
def Ie (g:Geo) (z:Int):List Wr:=(List.range 2).map fun k=>⟨Bx g z (k:Nat),CB (Bx g z (k:Nat)) 0 (CF (EC g))⟩
def Hg (g:Geo) (z:Int):List Wr:=(List.range (C9 g).toNat).map fun i=>⟨BF g z (i:Nat),CB (BF g z (i:Nat)) 0 zero8⟩
def VH (g:Geo) (s:ByteArray):List Cel:=Em (I8 g) (Bg g (BZ g s))
def Og (g:Geo) (s:ByteArray):Nat->List Cel
 | 0=>VH g s
 | c+1=>Em (Og g s c) (GP g (c:Nat))
def GV (g:Geo) (s:ByteArray):Nat->List Cel
 | 0=>Og g s 2
 | z+1=>Em (Em (GV g s z) (Ie g (z:Nat))) (Hg g (z:Nat))
def GU (g:Geo) (s:ByteArray):Dk:=⟨GV g s g.z.toNat, [],0, -1⟩
theorem LN (g:Geo):(I8 g).length=(A3 g).toNat:=by simp [I8]
theorem VG (g:Geo) (s:ByteArray):(VH g s).length=(A3 g).toNat:=by rw [VH,EK,LN]
theorem LM (g:Geo) (s:ByteArray):∀ c,(Og g s c).length=(A3 g).toNat
 | 0=>VG g s
 | c+1=>by rw [Og,EK,LM g s c]
theorem G4 (g:Geo) (s:ByteArray):∀ z,(GV g s z).length=(A3 g).toNat
 | 0=>LM g s 2
 | z+1=>by rw [GV,EK,EK,G4 g s z]
theorem JB {α:Type} {f:Nat->α} {n k:Nat} {d:α} (h:k<n):((List.range n).map f).getD k d=f k:=by
 rw [Bd (d:=0) (by simpa using h),Aa,Bi h];try rfl
theorem HU {g:Geo} (hg:Bt g=true):DX g zeroC=true:=by
 simp [DX,hg,Eo,zeroC,FG]
theorem Jl (cs:List Cel) (l m:List Wr):Em cs (l ++ m)=Em (Em cs l) m:=by unfold Em;rw [Cb]
theorem GR (cs:List Cel) (i a:Nat) (x:Cel) (ha:a<cs.length):(cs.set i x).getD a cz=if i=a then x else cs.getD a cz:=by
 rw [Aa,List.getElem?_set];by_cases h:i=a
 ·subst h;rw [if_pos rfl,if_pos rfl,if_pos ha];try rfl
 ·rw [if_neg h,if_neg h,<-Aa]
theorem VE (cs:List Cel) (w:Wr) (a:Nat) (ha:a<cs.length):(K2 cs w).getD a cz=if w.addr.toNat=a then { cs.getD a cz with bytes:=w.bytes } else cs.getD a cz:=by
 unfold K2;rw [GR _ _ _ _ ha];split
 ·rename_i h;rw [h]
 ·rfl
theorem Nk {F:List UInt8}:∀ (l:List Wr) (cs:List Cel) (a:Nat),a<cs.length->(∀ w∈l,w.addr.toNat=a->w.bytes=F)->((∃ w∈l,w.addr.toNat=a)\/(cs.getD a cz).bytes=F)->(Em cs l).getD a cz={ cs.getD a cz with bytes:=F }
 | [],cs,a,_,_,h=>by
  rcases h with ⟨w,hw,_⟩ | h
  ·cases hw
  ·show cs.getD a cz=_;rw [<-h]
 | w::l,cs,a,ha,hF,h=>by
  have hs:=VE cs w a ha;have ha':a<(K2 cs w).length:=by rw [PB];exact ha
  have ih:=Nk (F:=F) l (K2 cs w) a ha' (fun x hx=>hF x (AZ _ hx));show (Em (K2 cs w) l).getD a cz=_;by_cases e:w.addr.toNat=a
  ·rw [if_pos e,hF w (by simp) e] at hs;rw [ih (.inr (by rw [hs])),hs]
  ·rw [if_neg e] at hs;rw [ih ?_,hs];rcases h with ⟨x,hx,hxa⟩ | h
   ·rcases Bb.1 hx with rfl | hx
    ·exact absurd hxa e
    ·exact .inl ⟨x,hx,hxa⟩
   ·exact .inr (by rw [hs];exact h)
def JX (g:Geo):Nat->List Wr
 | 0=> []
 | z+1=>JX g z ++ (Ie g (z:Nat) ++ Hg g (z:Nat))
def Of (g:Geo) (s:ByteArray):List Wr:=Bg g (BZ g s) ++ (GP g 0 ++ (GP g 1 ++ JX g g.z.toNat))
theorem VF (g:Geo) (s:ByteArray):∀ z,GV g s z=Em (I8 g) (Bg g (BZ g s) ++ (GP g 0 ++ (GP g 1 ++ JX g z)))
 | 0=>by
  show Em (Em (VH g s) (GP g 0)) (GP g 1)=_;rw [VH,<-Jl,<-Jl,JX,AM]
 | z+1=>by
  rw [GV,VF g s z,<-Jl,<-Jl,JX];simp only [A9]
def GT (g:Geo) (s:ByteArray) (a:Int):List UInt8:=
 if a<g.an then Dj (BZ g s) a else if a<g.an+g.sl then BW g zeroC 0 (a - g.an) else if a<g.an+2*g.sl then BW g zeroC 1 (a - g.an - g.sl)
 else if a<g.an+2*g.sl+2*g.z then CB a 0 (CF (EC g)) else CB a 0 zero8
theorem HI {g:Geo} (hg:Bt g=true):∀ (n:Nat) (w:Wr),(n:Int)<=g.z->(w∈JX g n↔(∃ z k:Nat,z<n/\k<2/\w=⟨Bx g z k,CB (Bx g z k) 0 (CF (EC g))⟩)\/∃ z i:Nat,z<n/\i<(C9 g).toNat/\w=⟨BF g z i,CB (BF g z i) 0 zero8⟩)
 | 0,w,_=>by simp [JX]
 | n+1,w,h=>by
  rw [JX,A4,A4,HI hg n w (by omega)];simp only [Ie,Hg,AK,AO];constructor
  ·rintro((⟨z,k,h1,h2,h3⟩ | ⟨z,i,h1,h2,h3⟩) | ⟨k,h1,h2⟩ | ⟨i,h1,h2⟩)
   ·exact .inl ⟨z,k,by omega,h2,h3⟩
   ·exact .inr ⟨z,i,by omega,h2,h3⟩
   ·exact .inl ⟨n,k,by omega,h1,h2.symm⟩
   ·exact .inr ⟨n,i,by omega,h1,h2.symm⟩
  ·rintro(⟨z,k,h1,h2,h3⟩ | ⟨z,i,h1,h2,h3⟩)
   ·by_cases e:z=n
    ·subst e;exact .inr (.inl ⟨k,h2,h3.symm⟩)
    ·exact .inl (.inl ⟨z,k,by omega,h2,h3⟩)
   ·by_cases e:z=n
    ·subst e;exact .inr (.inr ⟨i,h2,h3.symm⟩)
    ·exact .inl (.inr ⟨z,i,by omega,h2,h3⟩)
theorem Sg {g:Geo} {s:ByteArray} {a:Int} (h:a<g.an):GT g s a=Dj (BZ g s) a:=if_pos h
theorem LL {g:Geo} {s:ByteArray} {c:Int} {i:Nat} (hc:c=0\/c=1) (hi:(i:Int)<g.sl):GT g s (Bj g c i)=BW g zeroC c i:=by
 unfold GT Bj;rcases hc with rfl | rfl
 ·rw [if_neg (by omega),if_pos (by omega)];congr 1;omega
 ·rw [if_neg (by omega),if_neg (by omega),if_pos (by omega)];congr 1;omega
theorem PC {g:Geo} {s:ByteArray} {z k:Nat} (h0:0<=g.sl) (hz:(z:Int)<g.z) (hk:k<2):GT g s (Bx g z k)=CB (Bx g z k) 0 (CF (EC g)):=by
 unfold GT;have:Bx g z k=g.an+2*g.sl+2*z+k:=rfl;rw [if_neg (by omega),if_neg (by omega),if_neg (by omega),if_pos (by omega)]
theorem Nl {g:Geo} {s:ByteArray} {z i:Nat} (h0:0<=g.sl) (h1:0<=g.z) (h2:0<=C9 g):GT g s (BF g z i)=CB (BF g z i) 0 zero8:=by
 unfold GT;have:BF g z i=g.an+2*g.sl+2*g.z+z*C9 g+i:=rfl;have:0<=(z:Int)*C9 g:=CQ (by omega) h2;rw [if_neg (by omega),if_neg (by omega),if_neg (by omega),if_neg (by omega)]
theorem Pi {g:Geo} (hg:Bt g=true):0<C9 g:=by
 obtain⟨g1,g2,g3,g4,g5⟩:=As.1 hg;unfold C9;omega
theorem VD {g:Geo} {s:ByteArray} (hg:Bt g=true):∀ w∈Of g s,0<=w.addr/\w.bytes=GT g s w.addr:=by
 obtain⟨g1,g2,g3,g4,g5⟩:=As.1 hg;have hp:=Pi hg;intro w hw;simp only [Of,A4,HI hg g.z.toNat w (by omega)] at hw;rcases hw with hw | hw | hw | ⟨z,k,h1,h2,rfl⟩ | ⟨z,i,h1,h2,rfl⟩
 ·simp only [Bg,AK,AO] at hw;obtain⟨i,hi,rfl⟩:=hw;exact⟨by show (0:Int)<=(i:Nat);omega,(Sg (by show ((i:Nat):Int)<g.an;omega)).symm⟩
 ·simp only [GP,AK,AO] at hw;obtain⟨i,hi,rfl⟩:=hw;exact⟨by show 0<=Bj g 0 i;unfold Bj;omega,(LL (.inl rfl) (by omega)).symm⟩
 ·simp only [GP,AK,AO] at hw;obtain⟨i,hi,rfl⟩:=hw;exact⟨by show 0<=Bj g 1 i;unfold Bj;omega,(LL (.inr rfl) (by omega)).symm⟩
 ·exact⟨by show 0<=Bx g z k;unfold Bx;omega,(PC (by omega) (by omega) h2).symm⟩
 ·have:0<=(z:Int)*C9 g:=CQ (by omega) (by omega);exact⟨by show 0<=BF g z i;unfold BF;omega,(Nl (by omega) (by omega) (by omega)).symm⟩
theorem VC {g:Geo} {s:ByteArray} (hg:Bt g=true) {a:Int} (h0:0<=a) (h:a<A3 g):∃ w∈Of g s,w.addr=a:=by
 obtain⟨g1,g2,g3,g4,g5⟩:=As.1 hg;have hp:=Pi hg;by_cases h1:a<g.an
 ·refine⟨⟨a,Dj (BZ g s) a⟩,?_,rfl⟩;simp only [Of,A4,Bg,AK,AO];exact .inl ⟨a.toNat,by omega,by rw [Da h0]⟩
 ·have hlog:∀ (c:Int) (i:Nat),(c=0\/c=1)->(i:Int)<g.sl->∃ w∈Of g s,w.addr=Bj g c i:=fun c i hc hi=>by
   refine⟨⟨Bj g c i,BW g zeroC c i⟩,?_,rfl⟩;simp only [Of,A4,GP,AK,AO];rcases hc with rfl | rfl
   ·exact .inr (.inl ⟨i,by omega,rfl⟩)
   ·exact .inr (.inr (.inl ⟨i,by omega,rfl⟩))
  by_cases h2:a<g.an+g.sl
  ·obtain⟨w,hw,e⟩:=hlog 0 (a - g.an).toNat (.inl rfl) (by omega);exact⟨w,hw,by rw [e];unfold Bj;omega⟩
  ·by_cases h3:a<g.an+2*g.sl
   ·obtain⟨w,hw,e⟩:=hlog 1 (a - g.an - g.sl).toNat (.inr rfl) (by omega);exact⟨w,hw,by rw [e];unfold Bj;omega⟩
   ·by_cases h4:a<g.an+2*g.sl+2*g.z
    ·refine⟨⟨Bx g (((a - (g.an+2*g.sl)).toNat / 2:Nat)) ((a - (g.an+2*g.sl)).toNat % 2:Nat),CB (Bx g (((a - (g.an+2*g.sl)).toNat / 2:Nat)) ((a - (g.an+2*g.sl)).toNat % 2:Nat)) 0 (CF (EC g))⟩,?_,by show Bx g _ _=a;unfold Bx;omega⟩;simp only [Of,A4,HI hg g.z.toNat _ (by omega)];exact .inr (.inr (.inr (.inl ⟨_,_,by omega,by omega,rfl⟩)))
    ·have hq:a - (g.an+2*g.sl+2*g.z)=((a - (g.an+2*g.sl+2*g.z)).toNat:Int):=by omega
     generalize hX:(a - (g.an+2*g.sl+2*g.z)).toNat=X at hq;have hP:C9 g=((C9 g).toNat:Int):=by omega
     have hX2:X<g.z.toNat*(C9 g).toNat:=by
      have:(X:Int)<g.z*C9 g:=by unfold A3 at h;omega
      rw [hP,show g.z=(g.z.toNat:Int) by omega] at this
      exact_mod_cast this
     generalize hPn:(C9 g).toNat=p at hP hX2;have hp0:0<p:=by omega
     have hdm:(X / p)*p+X % p=X:=Nat.div_add_mod' X p;refine⟨⟨BF g ((X / p:Nat)) ((X % p:Nat)),CB (BF g ((X / p:Nat)) ((X % p:Nat))) 0 zero8⟩,?_,?_⟩
     ·simp only [Of,A4,HI hg g.z.toNat _ (by omega)];exact .inr (.inr (.inr (.inr ⟨X / p,X % p,Nat.div_lt_of_lt_mul (by rw [Nat.mul_comm];exact hX2),by rw [hPn];exact Nat.mod_lt _ hp0,rfl⟩)))
     ·show BF g _ _=a;unfold BF;rw [hP];have:((X / p:Nat):Int)*(p:Int)+((X % p:Nat):Int)=(X:Int):=by exact_mod_cast hdm
      omega
theorem PA {g:Geo} {s:ByteArray} (hg:Bt g=true) {a:Int} (h0:0<=a) (h:a<A3 g):(GU g s).cells.getD a.toNat cz=⟨0,GT g s a, []⟩:=by
 have hl:a.toNat<(I8 g).length:=by rw [LN];omega
 obtain⟨w,hw,e⟩:=VC (s:=s) hg h0 h;have hall:=VD (s:=s) hg;show (GV g s g.z.toNat).getD a.toNat cz=_;rw [VF];refine(Nk (F:=GT g s a) (Of g s) (I8 g) a.toNat hl (fun x hx hxa=>?_) (.inl ⟨w,hw,by rw [e]⟩)).trans ?_
 ·have:=hall x hx;rw [this.2];congr 1;omega
 ·have:(I8 g).getD a.toNat cz=cz:=by
   unfold I8;rw [Aa,CV];split <;> rfl
  rw [this];try rfl
structure Holds (d:Dk) (n:Int) (F:Int->List UInt8):Prop where
 len:(d.cells.length:Int)=n
 cache:d.cache=[]
 cell:∀ a:Int,0<=a->a<n->(d.cells.getD a.toNat cz).state=0/\(d.cells.getD a.toNat cz).bytes=F a
theorem Holds.got {d:Dk} {n:Int} {F:Int->List UInt8} (h:Holds d n F) {a:Int} (h0:0<=a) (h1:a<n):Tz d a=⟨0,F a⟩:=by
 obtain⟨e1,e2⟩:=h.cell a h0 h1;have hg:d.got a=((d.cells.getD a.toNat cz).bytes,0):=by
  unfold Dk.got;rw [h.cache];simp only [MX];rw [show (d.cells.getD a.toNat ⟨0, [], []⟩)=d.cells.getD a.toNat cz from rfl,if_pos e1]
 rw [Tz,hg,e2]
theorem Nj {g:Geo} {s:ByteArray} (hg:Bt g=true):Holds (GU g s) (A3 g) (GT g s):=by
 have hc:=Eg hg;obtain⟨g1,g2,g3,g4,g5⟩:=As.1 hg;refine⟨?_,rfl,fun a h0 h1=>by rw [PA hg h0 h1];exact tA⟩;show ((GV g s g.z.toNat).length:Int)=_;rw [G4];omega
def Dk.tick (k:Nat) (d:Dk):Dk:=⟨d.cells,d.cache,min (d.reqs+k) 1048576,if d.left<0 then d.left else d.left - k⟩
structure Lv (d:Dk) (k:Nat):Prop where
 r:0<=d.reqs/\d.reqs<=1048576
 l:d.left<0\/(k:Int)<=d.left
theorem Lv.le {d:Dk} {k j:Nat} (h:Lv d k) (hj:j<=k):Lv d j:=⟨h.r,by have:=h.l;omega⟩
theorem Lp {d:Dk} (h:0<=d.reqs/\d.reqs<=1048576) (_h0:d.left≠0) (hl:d.left<0\/1<=d.left):d.req=d.tick 1:=by
 unfold Dk.req Dk.tick;rw [wi (by omega)];congr 1
 ·split <;> omega
 ·split <;> split <;> omega
theorem Gn {d:Dk} (a b:Nat) (_hr:d.reqs<=1048576) (h:d.left<0\/(a:Int)<=d.left):(d.tick a).tick b=d.tick (a+b):=by
 unfold Dk.tick;congr 1
 ·simp only;omega
 ·simp only;by_cases h':d.left<0
  ·simp only [h',if_true]
  ·rw [if_neg h',if_neg (by omega),if_neg h'];omega
theorem M6 {d:Dk} (hr:d.reqs<=1048576):d.tick 0=d:=by
 unfold Dk.tick;obtain⟨c,ca,r,l⟩:=d;simp only [Dk.mk.injEq,true_and] at hr |-
 constructor
 ·omega
 ·split <;> omega
theorem IN {d:Dk} {a b:Nat} (h:Lv d (a+b)):Lv (d.tick a) b:=by
 have:=h.r;have:=h.l;refine⟨?_,?_⟩
 ·show 0<=min _ _/\min _ _<=_;omega
 ·show (if d.left<0 then d.left else d.left - a)<0\/(b:Int)<=(if d.left<0 then d.left else d.left - a);split <;> omega
theorem Mj {d:Dk}:∀ (k:Nat),Lv d k->d.adv k=d.tick k
 | 0,h=>(M6 h.r.2).symm
 | k+1,h=>by
  have ih:=Mj k (h.le (by omega));have h1:=IN (a:=k) (b:=1) h;have h2:=h1.l;show (if (d.adv k).left=0 then d.adv k else (d.adv k).req)=_;rw [ih,if_neg (by omega),Lp h1.r (by omega) (by omega),Gn k 1 h.r.2 (by have:=h.l;omega)]
def free (cs:List Cel) (w:Wr):Bool:=decide ((cs.getD w.addr.toNat cz).state≠2)
theorem Ql {d:Dk} {w:Wr} (h:Lv d 1) (hc:d.cache.length<2000):d.write w.addr w.bytes=if free d.cells w then (⟨d.cells,d.cache ++ [w],(d.tick 1).reqs,(d.tick 1).left⟩,0) else (d.tick 1,7):=by
 have:=h.l;unfold Dk.write free;rw [if_neg (by omega),Lp h.r (by omega) (by omega)];by_cases h2:(d.cells.getD w.addr.toNat cz).state=2
 ·rw [if_pos (.inl h2),if_neg (by simpa using h2)]
 ·rw [if_neg (by rintro(h3 | h3);exact h2 h3;omega),if_pos (by simpa using h2)];try rfl
theorem writes_go:∀ (l:List Wr) (d:Dk) (n:Nat),Lv d l.length->d.cache.length+l.length<=2000->l.foldl F3 (d,n,false)=(⟨d.cells,d.cache ++ l.filter (free d.cells),(d.tick l.length).reqs,(d.tick l.length).left⟩,n+(l.filter (free d.cells)).length,false)
 | [],d,n,h,_=>by
  show (d,n,false)=_;rw [show ([]:List Wr).length=0 from rfl,M6 h.r.2];simp only [List.filter_nil,AM,Be,C5]
 | w::l,d,n,h,hc=>by
  have hl:(w::l).length=l.length+1:=rfl;rw [hl] at h hc |-
  have hw:=Ql (w:=w) (h.le (show 1<=l.length+1 by omega)) (by omega);have h1:Lv (d.tick 1) l.length:=IN (by rw [CM];exact h);have ht:=Gn (d:=d) 1 l.length h.r.2 (by have:=h.l;omega);rw [CM] at ht;show l.foldl F3 (F3 (d,n,false) w)=_;have hs:F3 (d,n,false) w=(match d.write w.addr w.bytes with | (d,e)=>if e=8 then (d,n,true) else (d,n+(if e=0 then 1 else 0),false)):=by
   unfold F3;rw [if_neg (by simp)]
  rw [hs,hw];cases hf:free d.cells w with
  | true=>
   simp only [if_true];rw [if_neg (by decide)];have hgo:=writes_go l ⟨d.cells,d.cache ++ [w],(d.tick 1).reqs,(d.tick 1).left⟩ (n+1) ⟨h1.r,h1.l⟩ (by simp;omega);have e1:((⟨d.cells,d.cache ++ [w],(d.tick 1).reqs,(d.tick 1).left⟩:Dk).tick l.length).reqs=(d.tick (l.length+1)).reqs/\((⟨d.cells,d.cache ++ [w],(d.tick 1).reqs,(d.tick 1).left⟩:Dk).tick l.length).left=(d.tick (l.length+1)).left:=by rw [<-ht];exact tA
   rw [e1.1,e1.2] at hgo;rw [hgo];simp only [List.filter_cons,hf,if_true,Ap,A9,List.singleton_append,Prod.mk.injEq,and_true,true_and];omega
  | false=>
   simp only [Cu,if_false];rw [if_neg (by decide),if_neg (by decide)];rw [writes_go l (d.tick 1) (n+0) h1 (by show d.cache.length+_<=_;omega),ht];simp only [List.filter_cons,hf,Cu,if_false,C5];rfl
theorem O2 {d:Dk} {l:List Wr} (h:Lv d l.length) (hc:d.cache.length+l.length<=2000):d.writes l=(⟨d.cells,d.cache ++ l.filter (free d.cells),(d.tick l.length).reqs,(d.tick l.length).left⟩,(l.filter (free d.cells)).length,false):=by
 rw [Dk.writes,writes_go l d 0 h hc,Az]
def Fe (cs:List Cel) (w:Wr):List Cel:=if (cs.getD w.addr.toNat cz).state=2 then cs else cs.set w.addr.toNat ⟨0,w.bytes,(cs.getD w.addr.toNat cz).bytes⟩
def CK (cs:List Cel) (l:List Wr):List Cel:=l.foldl Fe cs
theorem G6 (cs:List Cel) (w:Wr):(Fe cs w).length=cs.length:=by unfold Fe;split <;> simp
theorem finL_len:∀ (l:List Wr) (cs:List Cel),(CK cs l).length=cs.length
 | [],_=>rfl
 | w::l,cs=>by show (CK (Fe cs w) l).length=_;rw [finL_len l,G6]
theorem T5 (d:Dk) (w:Wr):d.fin w={ d with cells:=Fe d.cells w }:=by unfold Dk.fin Fe;split <;> rfl
theorem allFin_cells:∀ (l:List Wr) (d:Dk),d.allFin l={ d with cells:=CK d.cells l }
 | [],_=>rfl
 | w::l,d=>by
  show (d.fin w).allFin l=_;rw [allFin_cells l,T5];try rfl
theorem FO (cs:List Cel) (w:Wr) (a:Nat) (ha:a<cs.length):(Fe cs w).getD a cz=if w.addr.toNat=a/\(cs.getD a cz).state≠2 then ⟨0,w.bytes,(cs.getD a cz).bytes⟩ else cs.getD a cz:=by
 unfold Fe;by_cases h:(cs.getD w.addr.toNat cz).state=2
 ·rw [if_pos h,if_neg];rintro⟨rfl,h2⟩;exact h2 h
 ·rw [if_neg h,GR _ _ _ _ ha];by_cases e:w.addr.toNat=a
  ·subst e;rw [if_pos rfl,if_pos ⟨rfl,h⟩]
  ·rw [if_neg e,if_neg (fun h=>e h.1)]
theorem finL_miss:∀ (l:List Wr) (cs:List Cel) (a:Nat),a<cs.length->(∀ w∈l,w.addr.toNat≠a)->(CK cs l).getD a cz=cs.getD a cz
 | [],_,_,_,_=>rfl
 | w::l,cs,a,ha,h=>by
  have hs:=FO cs w a ha;rw [if_neg (fun e=>h w (by simp) e.1)] at hs;show (CK (Fe cs w) l).getD a cz=_;rw [finL_miss l (Fe cs w) a (by rw [G6];exact ha) (fun x hx=>h x (AZ _ hx)),hs]
theorem finL_stuck:∀ (l:List Wr) (cs:List Cel) (a:Nat),a<cs.length->(cs.getD a cz).state=2->(CK cs l).getD a cz=cs.getD a cz
 | [],_,_,_,_=>rfl
 | w::l,cs,a,ha,h=>by
  have hs:=FO cs w a ha;rw [if_neg (fun e=>e.2 h)] at hs;show (CK (Fe cs w) l).getD a cz=_;rw [finL_stuck l (Fe cs w) a (by rw [G6];exact ha) (by rw [hs];exact h),hs]
theorem finL_any:∀ (l:List Wr) (cs:List Cel) (a:Nat),a<cs.length->(CK cs l).getD a cz=cs.getD a cz\/(cs.getD a cz).state≠2/\((CK cs l).getD a cz).state=0/\∃ w∈l,w.addr.toNat=a/\((CK cs l).getD a cz).bytes=w.bytes
 | [],_,_,_=> .inl rfl
 | w::l,cs,a,ha=>by
  have hs:=FO cs w a ha;have ih:=finL_any l (Fe cs w) a (by rw [G6];exact ha);by_cases e:w.addr.toNat=a/\(cs.getD a cz).state≠2
  ·rw [if_pos e] at hs;rcases ih with ih | ⟨h1,h2,x,hx,h3,h4⟩
   ·refine .inr ⟨e.2,?_,w,by simp,e.1,?_⟩
    ·show ((CK (Fe cs w) l).getD a cz).state=0;rw [ih,hs]
    ·show ((CK (Fe cs w) l).getD a cz).bytes=_;rw [ih,hs]
   ·exact .inr ⟨e.2,h2,x,AZ _ hx,h3,h4⟩
  ·rw [if_neg e] at hs;rcases ih with ih | ⟨h1,h2,x,hx,h3,h4⟩
   ·exact .inl (ih.trans hs)
   ·exact .inr ⟨by rw [hs] at h1;exact h1,h2,x,AZ _ hx,h3,h4⟩
theorem LX {F:List UInt8}:∀ (l:List Wr) (cs:List Cel) (a:Nat),a<cs.length->(cs.getD a cz).state≠2->(∀ w∈l,w.addr.toNat=a->w.bytes=F)->(∃ w∈l,w.addr.toNat=a)\/((cs.getD a cz).state=0/\(cs.getD a cz).bytes=F)->((CK cs l).getD a cz).state=0/\((CK cs l).getD a cz).bytes=F
 | [],cs,a,_,_,_,h=>by
  rcases h with ⟨w,hw,_⟩ | h
  ·cases hw
  ·exact h
 | w::l,cs,a,ha,h2,hF,h=>by
  have hs:=FO cs w a ha;have ha':a<(Fe cs w).length:=by rw [G6];exact ha
  show ((CK (Fe cs w) l).getD a cz).state=0/\((CK (Fe cs w) l).getD a cz).bytes=F;by_cases e:w.addr.toNat=a
  ·rw [if_pos ⟨e,h2⟩,hF w (by simp) e] at hs;exact LX l (Fe cs w) a ha' (by rw [hs];show (0:Int)≠2;decide) (fun x hx=>hF x (AZ _ hx)) (.inr (by rw [hs];exact tA))
  ·rw [if_neg (fun q=>e q.1)] at hs;refine LX l (Fe cs w) a ha' (by rw [hs];exact h2) (fun x hx=>hF x (AZ _ hx)) ?_;rcases h with ⟨x,hx,hxa⟩ | h
   ·rcases Bb.1 hx with rfl | hx
    ·exact absurd hxa e
    ·exact .inl ⟨x,hx,hxa⟩
   ·exact .inr (by rw [hs];exact h)
theorem finL_free:∀ (l:List Wr) (cs cs0:List Cel),(∀ a,(cs.getD a cz).state=2↔(cs0.getD a cz).state=2)->CK cs (l.filter (free cs0))=CK cs l
 | [],_,_,_=>rfl
 | w::l,cs,cs0,h=>by
  have hstep:∀ a,((Fe cs w).getD a cz).state=2↔(cs0.getD a cz).state=2:=fun a=>by
   rw [<-h a];by_cases ha:a<cs.length
   ·rw [FO cs w a ha];split
    ·rename_i e;constructor
     ·intro q;exact absurd q (by simp)
     ·intro q;exact absurd q e.2
    ·exact Iff.rfl
   ·rw [Aa,Aa,AE (by rw [G6];omega),AE (by omega)]
  show _=CK (Fe cs w) l;rw [List.filter_cons];by_cases hf:free cs0 w=true
  ·rw [if_pos hf];exact finL_free l (Fe cs w) cs0 hstep
  ·rw [if_neg hf];have:Fe cs w=cs:=by
    unfold Fe;rw [if_pos];simp only [free,decide_eq_true_eq,Decidable.not_not] at hf;exact(h _).2 hf
   rw [this];exact finL_free l cs cs0 h
theorem IX {d:Dk} {l:List Wr} (h:Lv d (l.length+1)) (hc:d.cache=[]) (hl:l.length<=2000):d.putAll l=(⟨CK d.cells l, [],(d.tick (l.length+1)).reqs,(d.tick (l.length+1)).left⟩,(l.filter (free d.cells)).length,false):=by
 have hw:=O2 (h.le (show l.length<=l.length+1 by omega)) (by rw [hc];simpa using hl);have h1:=IN (a:=l.length) (b:=1) h;have h2:=h1.l;rw [hc,Bu] at hw;unfold Dk.putAll;rw [hw];simp only [Cu,if_false];rw [if_neg (by show ¬(d.tick l.length).left=0;omega)];have ht:=Gn (d:=d) l.length 1 h.r.2 (by have:=h.l;omega);simp only [Prod.mk.injEq,and_true];unfold Dk.flush;rw [allFin_cells];have h3:Lv ⟨d.cells,l.filter (free d.cells),(d.tick l.length).reqs,(d.tick l.length).left⟩ 1:=⟨h1.r,h1.l⟩;have hr:=Lp (d:=⟨d.cells,l.filter (free d.cells),(d.tick l.length).reqs,(d.tick l.length).left⟩) h3.r (by show (d.tick l.length).left≠0;omega) (by show (d.tick l.length).left<0\/1<=(d.tick l.length).left;omega);rw [hr,<-ht];show (⟨CK d.cells (l.filter (free d.cells)), [],_,_⟩:Dk)=_;rw [finL_free l d.cells d.cells fun _=>Iff.rfl];try rfl
structure Gw (n:Int) (d:Dk) (F:Int->List UInt8) (l:List Wr):Prop where
 ok:DkOk d
 left:d.left = -1
 len:(d.cells.length:Int)=n
 cache:d.cache=l
 cell:∀ a:Int,0<=a->a<n->(d.cells.getD a.toNat cz).state=0/\(d.cells.getD a.toNat cz).bytes=F a
 old:∀ a:Int,0<=a->a<n->(d.cells.getD a.toNat cz).old=F (-1 - a)
abbrev Gd (n:Int) (d:Dk) (F:Int->List UInt8):Prop:=Gw n d F []
def Yr (F:Int->List UInt8) (w:Wr) (a:Int):List UInt8:=if 0<=a then (if w.addr=a then w.bytes else F a) else if w.addr = -1 - a then F w.addr else F a
def RB (F:Int->List UInt8) (l:List Wr):Int->List UInt8:=l.foldl Yr F
theorem KP {F:Int->List UInt8} (l:List Wr) (w:Wr):RB F (l ++ [w])=Yr (RB F l) w:=by
 unfold RB;rw [Cb];try rfl
theorem Gw.req {n:Int} {d:Dk} {F:Int->List UInt8} {l:List Wr} (h:Gw n d F l):Gw n d.req F l:=
 ⟨h.ok.req,by unfold Dk.req;rw [h.left];try rfl,h.len,h.cache,h.cell,h.old⟩
theorem Gd.got {n:Int} {d:Dk} {F:Int->List UInt8} (h:Gd n d F) {a:Int} (h0:0<=a) (h1:a<n):d.got a=(F a,0):=by
 have:=Holds.got ⟨h.len,h.cache,h.cell⟩ h0 h1;unfold Tz at this;injection this with e1 e2
 exact Prod.ext e2 e1
theorem Gd.read {n:Int} {d:Dk} {F:Int->List UInt8} (h:Gd n d F) {a:Int} (h0:0<=a) (h1:a<n):d.read a=(d.req,F a,0):=by
 unfold Dk.read;rw [if_neg (by rw [h.left];decide),h.got h0 h1]
theorem Gw.write {n:Int} {d:Dk} {F:Int->List UInt8} {l:List Wr} (h:Gw n d F l) (hl:l.length<2000) {a:Int} (h0:0<=a) (h1:a<n) {b:List UInt8} (hb:b.length<=200):(d.write a b).2=0/\Gw n (d.write a b).1 F (l ++ [⟨a,b⟩]):=by
 have hw:=h.ok.write (a:=a) (b:=b) (by rw [<-h.len] at h1;omega) hb;have e:d.write a b=({ d.req with cache:=d.cache ++ [⟨a,b⟩] },0):=by
  unfold Dk.write;rw [if_neg (by rw [h.left];decide),if_neg];rintro(h2 | h2)
  ·have:=(h.cell a h0 h1).1;unfold cz at this;omega
  ·rw [h.cache] at h2;omega
 rw [e] at hw |-
 exact⟨rfl,hw,h.req.left,h.len,by rw [h.cache],h.cell,h.old⟩
theorem Ok {cs:List Cel} {F:Int->List UInt8} {a:Int} (h0:0<=a) (h1:a.toNat<cs.length) (hc:(cs.getD a.toNat cz).state=0/\(cs.getD a.toNat cz).bytes=F a):∀ (n:Nat) (l:List Wr),l.length=n->(∀ w∈l,0<=w.addr)->((CK cs l).getD a.toNat cz).state=0/\((CK cs l).getD a.toNat cz).bytes=RB F l a
 | 0,l,hn,_=>by
  obtain rfl:=AQ.1 hn;exact hc
 | n+1,l,hn,hw=>by
  rcases CD l with rfl | ⟨m,w,rfl⟩
  ·cases hn
  ·have ih:=Ok h0 h1 hc n m (by simpa using hn) (fun x hx=>hw x (by simp [hx]));have hwa:=hw w (by simp);have e:CK cs (m ++ [w])=Fe (CK cs m) w:=by unfold CK;rw [Cb];try rfl
   have e2:=FO (CK cs m) w a.toNat (by rw [finL_len];exact h1);rw [CE,e,e2,KP];unfold Yr;rw [if_pos h0];by_cases hA:w.addr=a
   ·rw [if_pos hA,if_pos ⟨by rw [hA],by rw [ih.1];decide⟩];exact tA
   ·rw [if_neg hA,if_neg (fun h=>hA (by have:=h.1;omega))];exact ih
theorem Sj {cs:List Cel} {F:Int->List UInt8} {a:Int} (h0:0<=a) (h1:a.toNat<cs.length) (hc:(cs.getD a.toNat cz).state=0/\(cs.getD a.toNat cz).bytes=F a) (ho:(cs.getD a.toNat cz).old=F (-1 - a)):∀ (n:Nat) (l:List Wr),l.length=n->(∀ w∈l,0<=w.addr)->((CK cs l).getD a.toNat cz).old=RB F l (-1 - a)
 | 0,l,hn,_=>by
  obtain rfl:=AQ.1 hn;exact ho
 | n+1,l,hn,hw=>by
  rcases CD l with rfl | ⟨m,w,rfl⟩
  ·cases hn
  ·have ih:=Sj h0 h1 hc ho n m (by simpa using hn) (fun x hx=>hw x (by simp [hx]));have iu:=Ok h0 h1 hc n m (by simpa using hn) (fun x hx=>hw x (by simp [hx]));have hwa:=hw w (by simp);have e:CK cs (m ++ [w])=Fe (CK cs m) w:=by unfold CK;rw [Cb];try rfl
   have e2:=FO (CK cs m) w a.toNat (by rw [finL_len];exact h1);rw [CE,e,e2,KP];unfold Yr;rw [if_neg (show ¬(0:Int)<= -1 - a by omega),show -1 - (-1 - a)=a by omega];by_cases hA:w.addr=a
   ·rw [if_pos hA,if_pos ⟨by rw [hA],by rw [iu.1];decide⟩,hA];exact iu.2
   ·rw [if_neg hA,if_neg (fun h=>hA (by have:=h.1;omega))];exact ih
theorem Gw.flush {n:Int} {d:Dk} {F:Int->List UInt8} {l:List Wr} (h:Gw n d F l):Gd n d.flush (RB F l):=by
 have e:d.flush=⟨CK d.cells l, [],d.req.reqs,d.req.left⟩:=by
  unfold Dk.flush;rw [allFin_cells,h.cache];try rfl
 have ho:=h.ok.flush;rw [e] at ho |-
 have hl:=h.len;have hw0:∀ w∈l,0<=w.addr:=fun w hw=>by
  rw [<-h.cache] at hw;exact(h.ok.w w hw).1.1
 exact⟨ho,h.req.left,by show ((CK d.cells l).length:Int)=n;rw [finL_len];exact h.len,rfl,fun a h0 h1=>Ok h0 (by omega) (h.cell a h0 h1) _ l rfl hw0,fun a h0 h1=>Sj h0 (by omega) (h.cell a h0 h1) (h.old a h0 h1) _ l rfl hw0⟩
theorem OA {F:Int->List UInt8} {a:Int} (h0:0<=a):∀ (n:Nat) (l:List Wr),l.length=n->(∀ w∈l,w.addr≠a)->RB F l a=F a
 | 0,l,hn,_=>by
  obtain rfl:=AQ.1 hn;rfl
 | n+1,l,hn,h=>by
  rcases CD l with rfl | ⟨m,w,rfl⟩
  ·rfl
  ·have ih:=OA (F:=F) h0 n m (by simpa using hn) (fun x hx=>h x (by simp [hx]));rw [CE,KP];unfold Yr;rw [if_pos h0,if_neg (h w (by simp))];exact ih
def Vz (g:Geo) (a:An) (seq:Int) (x:Img):List Wr:=if x.what=255 then [⟨Bx g x.zone 0,CB (Bx g x.zone 0) seq x.bytes⟩,⟨Bx g x.zone 1,CB (Bx g x.zone 1) seq x.bytes⟩] else [⟨C3 g a x.zone x.what,CB (C3 g a x.zone x.what) seq x.bytes⟩]
def LB (g:Geo) (a:An) (seq:Int):List Img->List Wr
 | []=> []
 | x::r=>Vz g a seq x ++ LB g a seq r
def EA (a:An) (seq:Int) (x:Img):An:=if x.what=255 then { a with homes:=a.homes.set x.zone.toNat { a.homes.getD x.zone.toNat ⟨[],0,0⟩ with root:=seq } } else a
def Ew (a:An) (seq:Int) (l:List Img):An:=l.foldl (fun a x=>EA a seq x) a
theorem Qm (a:An) (seq:Int) (x:Img):(EA a seq x).homes.length=a.homes.length:=by unfold EA;split <;> simp
theorem OB (seq:Int):∀ (l:List Img) (a:An),(Ew a seq l).homes.length=a.homes.length
 | [],_=>rfl
 | x::r,a=>by
  show (Ew (EA a seq x) seq r).homes.length=_;rw [OB seq r,Qm]
theorem Su {g:Geo} {a:An} {seq:Int} {x:Img} (ha:Bv g a=true) (hs:0<=seq/\seq<=4294967295):Bv g (EA a seq x)=true:=by
 unfold EA;split
 ·by_cases hi:x.zone.toNat<a.homes.length
  ·simp only [Bv,Ad,decide_eq_true_eq,Au] at ha |-
   obtain⟨q1,q2,q3,q4,q5,q6,q7⟩:=ha;refine⟨q1,q2,q3,q4,q5,by rw [AX];exact q6,fun y hy=>?_⟩;rcases Cn hy with h | rfl
   ·exact q7 y h
   ·have hh:=q7 _ (A5 (d:=(⟨[],0,0⟩:Hm)) hi);simp only [DT,Ad] at hh |-
    exact⟨hh.1,hh.2.1,AD.2 hs,hh.2.2.2⟩
  ·rw [List.set_eq_of_length_le (by omega)];exact ha
 ·exact ha
theorem KQ {g:Geo} {seq:Int} (hs:0<=seq/\seq<=4294967295):∀ (l:List Img) {a:An},Bv g a=true->Bv g (Ew a seq l)=true
 | [],_,h=>h
 | x::r,_,h=>KQ hs r (Su h hs)
def OF (g:Geo) (a:An) (x:Tx):An:={ Ew a x.seq x.images with gen:=a.gen+1,pos:=(x.pos+x.n).tmod g.sl,seq:=a.seq+1,last:=max a.last a.seq }
theorem II (seq:Int):∀ (l:List Img) (a:An),(Ew a seq l).gen=a.gen/\(Ew a seq l).epoch=a.epoch/\(Ew a seq l).pos=a.pos/\(Ew a seq l).seq=a.seq/\(Ew a seq l).last=a.last/\(Ew a seq l).label=a.label
 | [],_=>tA
 | x::r,a=>by
  obtain⟨h1,h2,h3,h4,h5,h6⟩:=II seq r (EA a seq x);have e:(EA a seq x).gen=a.gen/\(EA a seq x).epoch=a.epoch/\(EA a seq x).pos=a.pos/\(EA a seq x).seq=a.seq/\(EA a seq x).last=a.last/\(EA a seq x).label=a.label:=by unfold EA;split <;> exact tA
  obtain⟨e1,e2,e3,e4,e5,e6⟩:=e;exact⟨h1.trans e1,h2.trans e2,h3.trans e3,h4.trans e4,h5.trans e5,h6.trans e6⟩
theorem U1 {g:Geo} {a:An} {x:Tx} (hg:Bt g=true) (ha:Bv g a=true) (h1:a.gen<4294967295) (h2:a.seq<4294967295) (hx:x.seq=a.seq) (hp:0<=x.pos) (hn:0<=x.n):Bv g (OF g a x)=true:=by
 obtain⟨g1,g2,g3,g4,g5⟩:=As.1 hg;have hh:=ha;simp only [Bv,AY,BE,B5,Ad,decide_eq_true_eq,AD] at hh;obtain⟨⟨w1,w2,w3,w4⟩,q2,q3,q4,q5,q6,q7⟩:=hh;have hu:=KQ (g:=g) (seq:=x.seq) (by omega) x.images ha;obtain⟨_,e2,_,_,_,e6⟩:=II x.seq x.images a;simp only [Bv,AY,BE,B5,Ad,decide_eq_true_eq,AD] at hu |-
 obtain⟨_,_,_,_,u5,u6,u7⟩:=hu;have hm0:0<=(x.pos+x.n).tmod g.sl:=Bf _ (by omega);have hm1:(x.pos+x.n).tmod g.sl<g.sl:=AL _ (by omega);refine⟨⟨?_,?_,?_,?_⟩,?_,?_,?_,u5,u6,u7⟩
 ·show 0<=a.gen+1/\a.gen+1<=_;omega
 ·show 0<=(Ew a x.seq x.images).epoch/\(Ew a x.seq x.images).epoch<=_;rw [e2];exact w2
 ·show 0<=a.seq+1/\a.seq+1<=_;omega
 ·show 0<=max a.last a.seq/\max a.last a.seq<=_;omega
 ·show 1<=a.seq+1;omega
 ·show a.seq+1 - 1<=max a.last a.seq;omega
 ·show 0<=(x.pos+x.n).tmod g.sl/\(x.pos+x.n).tmod g.sl<=g.sl - 1;omega
theorem OneTab.eq:∀ {l:List Img} (_:OneTab l) {x y:Img},x∈l->y∈l->x.what=255->y.what=255->x.zone=y.zone->x=y
 | w::l,h,x,y,hx,hy,h1,h2,h3=>by
  obtain⟨q1,q2⟩:=List.pairwise_cons.1 h;rcases Bb.1 hx with ex | mx
  ·rcases Bb.1 hy with ey | my
   ·rw [ex,ey]
   ·rw [ex] at h1 h3;exact absurd h3 (q1 y my h1 h2)
  ·rcases Bb.1 hy with ey | my
   ·rw [ey] at h2 h3;exact absurd h3.symm (q1 x mx h2 h1)
   ·exact OneTab.eq q2 mx my h1 h2 h3
theorem LA {g:Geo} {a:An} {seq:Int} {w:Wr}:∀ {l:List Img},w∈LB g a seq l↔∃ x∈l,w∈Vz g a seq x
 | []=>by simp [LB]
 | x::r=>by
  rw [LB,A4,LA];simp
theorem F8 {g:Geo} {x:Img} (h:By g x=true):(0<=x.zone/\x.zone<g.z)/\(x.what≠255-> -1<=x.what/\x.what<g.d/\x.bytes.length=8):=by
 simp only [By,Ad,AD] at h;refine⟨by omega,fun hw=>?_⟩;have h2:=h.2.2;rw [if_neg hw,Ad,AD,decide_eq_true_eq] at h2;omega
theorem V1 {g:Geo} {a:An} (ha:Bv g a=true) {z:Int} (hz:0<=z/\z<g.z):z.toNat<a.homes.length/\DT g (a.homes.getD z.toNat ⟨[],0,0⟩)=true:=by
 simp only [Bv,Ad,decide_eq_true_eq,Au] at ha;obtain⟨_,_,_,_,_,q6,q7⟩:=ha;have hi:z.toNat<a.homes.length:=by omega
 exact⟨hi,q7 _ (A5 (d:=(⟨[],0,0⟩:Hm)) hi)⟩
theorem Mk {g:Geo} (hg:Bt g=true) {a:An} (ha:Bv g a=true) {z w:Int} (hz:0<=z/\z<g.z) (hw : -1<=w/\w<g.d):∃ s,C3 g a z w=BF g z s/\0<=s/\s<C9 g:=by
 obtain⟨g1,g2,g3,g4,g5⟩:=As.1 hg;obtain⟨hi,hh⟩:=V1 ha hz;simp only [DT,Ad,decide_eq_true_eq,AD] at hh;obtain⟨p1,p2,p3,p4⟩:=hh;have hat:0<=Ej g w/\Ej g w<=g.d:=by unfold Ej;split <;> omega
 refine⟨_,rfl,?_⟩;have hk:(Ej g w).toNat<(a.homes.getD z.toNat ⟨[],0,0⟩).places.length:=by omega
 have hp:=Au.1 p4 (Ej g w).toNat (by simpa using hk);simp only [Ad,AD] at hp;unfold C9;omega
theorem GC {g:Geo} (hg:Bt g=true) {z s:Int} (hz:0<=z/\z<g.z) (hs:0<=s/\s<C9 g):g.an+2*g.sl+2*g.z<=BF g z s/\BF g z s<A3 g:=by
 obtain⟨g1,g2,g3,g4,g5⟩:=As.1 hg;have hp:=GJ hg;have h1:=GA hg (z:=z) (by omega);have h2:z*C9 g+C9 g<=g.z*C9 g:=by
  have:=Cj (show z+1<=g.z by omega) (show 0<=C9 g by omega);rw [Int.add_mul,Int.one_mul] at this;exact this
 unfold BF A3;omega
theorem J1 {g:Geo} (hg:Bt g=true) {z k:Int} (hz:0<=z/\z<g.z) (hk:0<=k/\k<=1):g.an+2*g.sl<=Bx g z k/\Bx g z k<g.an+2*g.sl+2*g.z/\Bx g z k<A3 g:=by
 obtain⟨g1,g2,g3,g4,g5⟩:=As.1 hg;have hp:=GJ hg;have h1:=GA hg (z:=g.z) (by omega);unfold Bx A3;omega

def Gk (l:List (List UInt8)):AV:= .sl 1 l.length fun i=> [bA (l.getD i [])]
theorem Sr (b:List UInt8):Fn Tryz.prog 264 [bA b] fun r=>r = .v (.bool (((b.length:Nat):Int) != 8)):=by
 refine zT Tryz.func264 rfl ?_;exact⟨_,ri,rfl⟩
theorem Yv (l:List (List UInt8))  (hl:l.length<=1000000):Fn Tryz.prog 261 [Gk l, .v (.func (.func 264) #[] #[])] fun r=>r = iv (Ue (fun b=>(((b.length:Nat):Int) != 8)) l):=by
 refine zT Tryz.func261 rfl ?_;conv=>whnf
 refine zP Nat (fun k=>([(0,Gk l),(1, .v (.func (.func 264) #[] #[])),(7,iv l.length),(8,iv k)], [])) (fun k=>k<=l.length/\(l.take k).any (fun b=>(((b.length:Nat):Int) != 8))=false) (fun k=>l.length - k) 0 ⟨Aj _,by simp⟩ ⟨[],tv,tA,tv,rfl,rfl,rfl⟩ ?_;rintro k ⟨hk,hI⟩;conv=>whnf
 refine Am (fun h2=>?_) (fun h2=>?_) <;> simp at h2 <;> conv=>whnf
 ·refine⟨by first | omega | (refine⟨rfl,?_,?_⟩ <;> first | omega | (simp only [Ac];done) | (simp only [Ac];omega)) | (simp only [Ac];omega),?_⟩;conv=>whnf
  refine z_ (Sr (l.getD k [])) ?_;conv=>whnf
  refine Am (fun h3=>?_) (fun h3=>?_) <;> conv=>whnf
  ·exact⟨_,ri,by rw [HY (d:= []) h2 hI (by first | exact h3 | (rw [Ab] at h3;exact h3) | simpa using h3)]⟩
  ·refine⟨k+1,⟨by omega,DV (d:= []) h2 hI (by first | exact h3 | (rw [Ab] at h3;exact h3) | simpa using h3)⟩,by omega, [],tv,⟨rfl,rfl,rfl,AR (by omega),tv⟩,tv,rfl,rfl,rfl⟩
 ·exact⟨_,ri,by rw [Aw h2] at hI;rw [G2 hI]⟩
theorem Yw (l:List (List UInt8))  (hl:l.length<=1000000):Fn Tryz.prog 228 [Gk l, .v (.func (.func 264) #[] #[])] fun r=>r = .v (.bool (l.any (fun b=>(((b.length:Nat):Int) != 8)))):=by
 refine zT Tryz.func228 rfl ?_;conv=>whnf
 refine z_ (Yv l  hl) ?_;exact⟨_,ri,by rw [JM]⟩

theorem J2 (l:List (List UInt8)) (hl:l.length<=1000000) (h:∀ b∈l,b.length=8):Fn Tryz.prog 234 [Gk l] fun r=>r = .v (.bool true):=by
 have hc:=Yw l hl;have e:(l.any fun b=>(((b.length:Nat):Int) != 8))=false:=by
  rw [List.any_eq_false];intro b hb;rw [h b hb];decide
 rw [e] at hc;refine zT Tryz.func234 rfl ?_;conv=>whnf
 refine z_ hc ?_;exact⟨_,ri,rfl⟩
theorem So (b:List UInt8):Fn Tryz.prog 227 [bA b] fun r=>r = .v (.bool ((((b.length:Nat):Int) != 0)&&(((b.length:Nat):Int) != 8))):=by
 refine zT Tryz.func227 rfl ?_;conv=>whnf
 by_cases h:((b.length:Nat):Int)=0
 ·rw [show (((b.length:Nat):Int) != 0)=false from bne_eq_false_iff_eq.2 h];exact⟨_,ri,rfl⟩
 ·rw [show (((b.length:Nat):Int) != 0)=true from bne_iff_ne.2 h];exact⟨_,ri,by rw [BA]⟩
theorem Yl (l:List (List UInt8))  (hl:l.length<=1000000):Fn Tryz.prog 261 [Gk l, .v (.func (.func 227) #[] #[])] fun r=>r = iv (Ue (fun b=>((((b.length:Nat):Int) != 0)&&(((b.length:Nat):Int) != 8))) l):=by
 refine zT Tryz.func261 rfl ?_;conv=>whnf
 refine zP Nat (fun k=>([(0,Gk l),(1, .v (.func (.func 227) #[] #[])),(7,iv l.length),(8,iv k)], [])) (fun k=>k<=l.length/\(l.take k).any (fun b=>((((b.length:Nat):Int) != 0)&&(((b.length:Nat):Int) != 8)))=false) (fun k=>l.length - k) 0 ⟨Aj _,by simp⟩ ⟨[],tv,tA,tv,rfl,rfl,rfl⟩ ?_;rintro k ⟨hk,hI⟩;conv=>whnf
 refine Am (fun h2=>?_) (fun h2=>?_) <;> simp at h2 <;> conv=>whnf
 ·refine⟨by first | omega | (refine⟨rfl,?_,?_⟩ <;> first | omega | (simp only [Ac];done) | (simp only [Ac];omega)) | (simp only [Ac];omega),?_⟩;conv=>whnf
  refine z_ (So (l.getD k [])) ?_;conv=>whnf
  refine Am (fun h3=>?_) (fun h3=>?_) <;> conv=>whnf
  ·exact⟨_,ri,by rw [HY (d:= []) h2 hI (by first | exact h3 | (rw [Ab] at h3;exact h3) | simpa using h3)]⟩
  ·refine⟨k+1,⟨by omega,DV (d:= []) h2 hI (by first | exact h3 | (rw [Ab] at h3;exact h3) | simpa using h3)⟩,by omega, [],tv,⟨rfl,rfl,rfl,AR (by omega),tv⟩,tv,rfl,rfl,rfl⟩
 ·exact⟨_,ri,by rw [Aw h2] at hI;rw [G2 hI]⟩
theorem Ym (l:List (List UInt8))  (hl:l.length<=1000000):Fn Tryz.prog 228 [Gk l, .v (.func (.func 227) #[] #[])] fun r=>r = .v (.bool (l.any (fun b=>((((b.length:Nat):Int) != 0)&&(((b.length:Nat):Int) != 8))))):=by
 refine zT Tryz.func228 rfl ?_;conv=>whnf
 refine z_ (Yl l  hl) ?_;exact⟨_,ri,by rw [JM]⟩

@[reducible] def zlH (g:Geo) (t:List Ent) (had:List (List UInt8)):List AB:= [.box 298 [iv g.d,BN t,Gk had]]
def Ga (L b:List UInt8) (k:Nat):List UInt8:=Hn (L.take k) (b.take k) ++ L.drop k
theorem Tj {L b:List UInt8} (h:L.length<=b.length) (k:Nat):(Ga L b k).length=L.length:=by
 simp only [Ga,Ai,Gl,At,Ak];omega
theorem Tk {L b:List UInt8} {k:Nat} (h:k<L.length) (h2:L.length<=b.length):(Ga L b k).getD k 0=L.getD k 0:=by
 have e:(Hn (L.take k) (b.take k)).length=k:=by rw [Gl,At,At];omega
 rw [Ga,Aa,A8 (by omega),e,CL,BC,C5,<-Aa]
theorem Ti {L b:List UInt8} {k:Nat} (h:k<L.length) (h2:L.length<=b.length):(Ga L b k).set k (L.getD k 0 ^^^ b.getD k 0)=Ga L b (k+1):=by
 have e:(Hn (L.take k) (b.take k)).length=k:=by rw [Gl,At,At];omega
 have e2:Hn (L.take (k+1)) (b.take (k+1))=Hn (L.take k) (b.take k) ++ [L.getD k 0 ^^^ b.getD k 0]:=by
  rw [Bk,Bk,Ae h,Ae (by omega),Hn,List.zipWith_append (by rw [At,At];omega),Aa,Aa,Ae h,Ae (show k<b.length by omega)];try rfl
 rw [Ga,Ga,List.set_append_right _ _ (by omega),e,CL,A_ h,e2,A9];try rfl
theorem Tl {L b:List UInt8} (h:L.length=b.length):Ga L b L.length=Hn L b:=by
 rw [Ga,List.drop_length,AM,Ay,h,Ay]
theorem Sn {l:List UInt8} {k:Nat} (h:k<l.length):(l.map E7).getD k []=E7 (l.getD k 0):=Bd h
theorem Uh (L b:List UInt8) (h:L.length=b.length) (hl:L.length<=1000000):ACalls Tryz.prog false 263 [.ow 0 L.length,bA b] [.row 5 1 (L.map E7)] fun r H=>r = .tp []/\H=[.row 5 1 ((Hn L b).map E7)]:=by
 refine zS tys_ok Tryz.func263 rfl rfl (Ah rfl) ?_;conv=>whnf
 refine zU Nat (fun k=>([(0, .ow 0 L.length),(6,bA b),(7,iv (b.length:Nat)),(8,iv (k:Nat))], [.row 5 1 ((Ga L b k).map E7)])) (fun k=>k<=b.length) (fun k=>b.length - k) 0 (Aj _)
  (zR (s:= [0]) tA) ?_
 intro k hk;conv=>whnf
 refine A6 (fun h6=>?_) (fun h6=>?_) <;> (repeat rw [Ab] at h6) <;> conv=>whnf
 ·have hk':k<b.length:=by omega
  have hml:=Tj (L:=L) (b:=b) (by omega) k;repeat' (refine zZ ?_;conv=>whnf)
  refine⟨⟨by omega,by omega⟩,?_⟩;conv=>whnf
  repeat' (refine zZ ?_;conv=>whnf)
  refine⟨⟨by omega,by omega⟩,?_⟩;refine⟨⟨rfl,by rw [Ac,hml],by omega⟩,?_⟩;rw [Ab,Sn (by omega),Tk (by omega) (by omega)];refine⟨⟨by omega,by omega⟩,?_⟩;refine⟨⟨rfl,by rw [Ac,hml],by omega⟩,?_⟩;rw [Ab,Sn (by omega)];refine⟨k+1,hk',by omega,zR (s:= [0]) ⟨⟨rfl,rfl,rfl,AR (by omega),tv⟩,⟨?_,tv⟩,rfl,rfl,rfl,rfl,rfl⟩⟩;have e:((Ga L b k).map E7).set k (E7 (L.getD k 0 ^^^ b.getD k 0))=(Ga L b (k+1)).map E7:=by rw [<-C6,Ti (by omega) (by omega)]
  have ex:=Ur (L.getD k 0) (b.getD k 0).toNat (b.getD k 0).toNat_lt;rw [UInt8.ofNat_toNat] at ex;rw [<-e];show some (AB.row _ _ _)=some (AB.row _ _ _);rw [show E7 (L.getD k 0 ^^^ b.getD k 0)=[AV.v (.int .u8 ((L.getD k 0 ^^^ b.getD k 0).toNat:Nat))] from rfl,<-ex]
 ·have ek:k=b.length:=by omega
  subst ek;exact⟨_, .tp [], [.row 5 1 ((Hn L b).map E7)],fun _ _ h=>h,zR (s:= [0]) ⟨tA,⟨congrArg (fun z=>some (AB.row 5 1 (List.map E7 z))) (show Ga L b b.length=Hn L b by rw [<-h];exact Tl h),tv⟩,rfl,rfl,rfl,rfl,rfl⟩,rfl,rfl⟩
theorem Sq (l:List (List UInt8)) (hl:l.length<=1000000) (h:∀ b∈l,b.length=8):Fn Tryz.prog 262 [iv 8,Gk l] fun r=>r = .v (.bool true):=by
 refine zT Tryz.func262 rfl ?_;conv=>whnf
 refine zU Nat (fun k=>([(0,iv 8),(7,Gk l),(8,iv (l.length:Nat)),(9,iv (k:Nat))], [])) (fun k=>k<=l.length) (fun k=>l.length - k) 0 (Aj _)
  (zR (s:= []) tA) ?_
 intro k hk;conv=>whnf
 refine A6 (fun h6=>?_) (fun h6=>?_) <;> (repeat rw [Ab] at h6) <;> conv=>whnf
 ·have hk':k<l.length:=by omega
  have h8:=h _ (A5 (d:=([]:List UInt8)) hk');repeat' (refine zZ ?_;conv=>whnf)
  refine⟨⟨by omega,by omega⟩,?_⟩;conv=>whnf
  repeat' (refine zZ ?_;conv=>whnf)
  rw [show (((l.getD (k:Int).toNat []).length:Int) != 8)=false from bne_eq_false_iff_eq.2 (by rw [Ab,h8];try rfl)];exact⟨k+1,hk',by omega,zR (s:= []) ⟨⟨rfl,rfl,rfl,AR (by omega),tv⟩,tv,rfl,rfl,rfl,rfl,rfl⟩⟩
 ·exact⟨_,ri,rfl⟩
def FV (l:List (List UInt8)):List UInt8:=l.foldl Hn zero8
theorem xorL_len:∀ (l:List (List UInt8)) (a:List UInt8),a.length=8->(∀ b∈l,b.length=8)->(l.foldl Hn a).length=8
 | [],_,h,_=>h
 | b::l,a,h,hl=>xorL_len l _ (by rw [Gl,h,hl b (by simp)];rfl) fun c hc=>hl c (by simp [hc])
theorem N5 (l:List (List UInt8)) (hl:l.length<=1000000) (h:∀ b∈l,b.length=8):Fn Tryz.prog 230 [Gk l,iv 8] fun r=>r = .tp [bA (FV l),iv 0]:=by
 have ha:=Sq l hl h;refine zT Tryz.func230 rfl ?_;conv=>whnf
 refine z_ ha ?_;refine⟨⟨rfl,by decide,by decide⟩,?_⟩;conv=>whnf
 refine zU Nat (fun k=>([(0,Gk l),(6, .ow 0 8),(23,Gk l),(24,iv (l.length:Nat)),(25,iv (k:Nat))], [.row 5 1 ((FV (l.take k)).map E7)])) (fun k=>k<=l.length) (fun k=>l.length - k) 0 (Aj _)
  (zR (s:= [0]) tA) ?_
 intro k hk;conv=>whnf
 refine A6 (fun h6=>?_) (fun h6=>?_) <;> (repeat rw [Ab] at h6) <;> conv=>whnf
 ·have hk':k<l.length:=by omega
  have h8:=h _ (A5 (d:=([]:List UInt8)) hk');have hx:(FV (l.take k)).length=8:=xorL_len _ _ rfl fun b hb=>h b (Cf hb)
  have hi:=Uh (FV (l.take k)) (l.getD k []) (by omega) (by omega);rw [hx] at hi;have hs:Hn (FV (l.take k)) (l.getD k [])=FV (l.take (k+1)):=by
   unfold FV;rw [Bk,Cb,Aa,Ae hk'];try rfl
  rw [hs] at hi;repeat' (refine zZ ?_;conv=>whnf)
  refine⟨⟨by omega,by omega⟩,?_⟩;conv=>whnf
  rw [Ab];repeat' (refine zZ ?_;conv=>whnf)
  refine hi.mono ?_;rintro _ _ ⟨rfl,rfl⟩;exact⟨k+1,hk',by omega,zR (s:= [0]) ⟨⟨rfl,rfl,rfl,rfl,AR (by omega),tv⟩,tA,rfl,rfl,rfl,rfl,rfl⟩⟩
 ·have ek:k=l.length:=by omega
  subst ek;have hx:(FV l).length=8:=xorL_len _ _ rfl h;rw [Ay];refine⟨(by rw [Ac,hx]),?_⟩;exact⟨.tp [bA (FV l),iv 0],BS (m:= [bA (FV l),iv 0]) ⟨HN hx.symm rfl,ri,tv⟩,rfl⟩
theorem PI (stamp:Int) (b:List UInt8) (hs:0<=stamp/\stamp<=4294967295) (hb:b.length=8):Fn Tryz.prog 236 [iv stamp,bA b] fun r=>r = .tp [.ag (CY ⟨stamp,(CJ b:Nat),false⟩),iv 0]:=by
 have h1:=IP b;refine zT Tryz.func236 rfl ?_;conv=>whnf
 rw [show decide (stamp<0)=false from decide_eq_false (by omega)];conv=>whnf
 rw [show decide (stamp > 4294967295)=false from decide_eq_false (by omega)];conv=>whnf
 rw [show ((b.length:Int) != 8)=false from bne_eq_false_iff_eq.2 (by rw [hb];try rfl)];conv=>whnf
 refine z_ h1 ?_;exact⟨_,ri,rfl⟩
theorem VQ (l:List Ent) (hl:l.length<=1000000000):ACalls Tryz.prog false 265 [BN l] [] fun r H=>r = .ow 0 l.length/\H=[.row 97 3 (l.map CY)]:=by
 refine zz tys_ok Tryz.func265 rfl rfl (by show 1<=_;decide) ?_;refine Af (fun h=>?_) ?_
 ·conv=>whnf
  have h0:=AQ.1 h;subst h0;exact⟨_, .ow 0 0, [.row 97 3 []],fun _ _ h=>h,zJ ⟨[(0,97,3)],tA,tA,tA,rfl,rfl,rfl⟩,rfl,rfl⟩
 ·refine⟨⟨rfl,by omega⟩,?_⟩;exact⟨.ow 0 l.length, .ow 0 l.length, [.row 97 3 (l.map CY)],fun _ _ h=>by rwa [Az] at h,zJ ⟨[],tv,tA,⟨(congrArg (AB.row _ _) (Hy (d:=(⟨0,0,false⟩:Ent)) CY l)).symm,tv⟩,rfl,rfl,rfl⟩,rfl,rfl⟩
theorem Sz (t:List Ent) (ht:t.length<=1000000):ACalls Tryz.prog false 235 [.ag [BN t]] [] fun r H=>r = .ag [.ow 0 t.length]/\H=[.row 97 3 (t.map CY)]:=by
 have h1:=VQ t (by omega);refine zS tys_ok Tryz.func235 rfl rfl (Ah rfl) ?_;conv=>whnf
 refine zW h1 rfl ?_;rintro _ _ ⟨rfl,rfl⟩;exact⟨.ag [.ow 2 t.length], .ag [.ow 0 t.length], [.row 97 3 (t.map CY)],fun _ _ h=>h,zR (s:= [2]) tA,rfl,rfl⟩
section
variable (g:Geo) (t:List Ent) (had:List (List UInt8)) (ats:List Int) (bs:List (List UInt8)) (stamp:Int)
def E_ (i:Nat):List Ent:=(List.range i).map (Ja g t had ats bs stamp) ++ t.drop i
theorem Pn {i:Nat} (h:i<=t.length):(E_ g t had ats bs stamp i).length=t.length:=by simp [E_];omega
theorem Lu {i:Nat} (h:i<t.length) (e:Ent):(E_ g t had ats bs stamp i).set i e=(List.range i).map (Ja g t had ats bs stamp) ++ e::t.drop (i+1):=by
 rw [E_,List.set_append_right _ _ (by simp),Ac,Ca,CL,A_ h];try rfl
theorem Y6 {i:Nat} (h:i<t.length):(E_ g t had ats bs stamp i).set i (t.getD i ez)=E_ g t had ats bs stamp i:=by
 rw [Lu g t had ats bs stamp h,E_,A_ h,Aa,Ae h];try rfl
theorem JE {i:Nat} (h:i<t.length):(E_ g t had ats bs stamp i).set i (Ja g t had ats bs stamp i)=E_ g t had ats bs stamp (i+1):=by
 rw [Lu g t had ats bs stamp h,E_,Bh,A0,A9];try rfl
end
inductive TrJ where
 | fin
 | jump (k:Nat)
 | one (i:Nat) (r:TrJ)
 | non
 | alt (i:Nat) (a:TrJ) (r:TrJ)
def TrJ.o (l:List Nat) (t:TrJ):TrJ:=l.foldr .one t
abbrev Seg:=List Nat × Nat × TrJ
def segGet:List Seg->Nat->Option Seg
 | [],_=>none
 | x::_,0=>some x
 | _::r,k+1=>segGet r k
def TrJ.depth (sg:List Seg):TrJ->Nat
 | .fin=>0
 | .jump k=>match segGet sg k with | some s=>s.2.1 | none=>0
 | .one _ r=>r.depth sg+1
 | .non=>0
 | .alt _ a r=>max (a.depth sg+1) (r.depth sg)
def TrJ.alts:TrJ->List Nat
 | .alt i _ r=>i::r.alts
 | _=> []
def eqB:List Bool->List Bool->Bool
 | [], []=>true
 | a::l,b::m=>(a == b)&&eqB l m
 | _,_=>false
theorem eqB_eq:∀ {l m:List Bool},eqB l m=true->l=m
 | [], [],_=>rfl
 | a::l,b::m,h=>by
  simp only [eqB,Ad,beq_iff_eq] at h;rw [h.1,eqB_eq h.2]
 | [],_::_,h=>by simp [eqB] at h
 | _::_, [],h=>by simp [eqB] at h
def eqN:List Nat->List Nat->Bool
 | [], []=>true
 | a::l,b::m=>Nat.beq a b&&eqN l m
 | _,_=>false
theorem eqN_eq:∀ {l m:List Nat},eqN l m=true->l=m
 | [], [],_=>rfl
 | a::l,b::m,h=>by
  simp only [eqN,Ad] at h;rw [Al h.1,eqN_eq h.2]
 | [],_::_,h=>by simp [eqN] at h
 | _::_, [],h=>by simp [eqN] at h
def N0 (n:Nat) (s:List Nat):Array Bool:=s.foldl (fun l i=>l.setIfInBounds i true) (Array.replicate n false)
abbrev Sts:=List (Fr × List AB)
def sget:Sts->Nat->Fr × List AB
 | [],_=>([], [])
 | x::_,0=>x
 | _::r,k+1=>sget r k
section
variable {P:Program} {ops:Array Oper} {B:List Nat} {Q:Exit->Act->World->Prop} {mk:Nat}
def F_ (ops:Array Oper) (B:List Nat) (mk:Nat) (sg:List Seg) (me:Nat):TrJ->Bool->Array Bool->Bool
 | .fin,f,l=>f&&(Region.ready .any ops l).isEmpty
 | .jump k,f,l=>f&&Nat.blt me k&&(match segGet sg k with | some s=>eqB l.toList (N0 ops.size s.1).toList | none=>false)
 | .one i r,f,l=>f&&(match ops[i]? with
   | none=>false
   | some o=>match isEff o.op with
    | true=>(match Region.ready .any ops l with | [j]=>Nat.beq i j | _=>false)&&(qM mk i o.op || !Jd ops B mk i)
    | false=>match mk.testBit i with
     | true=>(match Region.ready .any ops l with | [j]=>Nat.beq i j | _=>false)&&(qM mk i o.op || !Jd ops B mk i)
     | false=>Region.free .any ops l i&&(Region.ready .any ops l).contains i)&&F_ ops B mk sg me r true (l.setIfInBounds i true)
 | .non,f,_=>!f
 | .alt i a r,f,l=>(!f || eqN (Region.ready .any ops l) (i::r.alts))&&K3 ops B mk i&&F_ ops B mk sg me a true (l.setIfInBounds i true)&&F_ ops B mk sg me r false l
def Po (P:Program) (T:Tys) (n mk:Nat) (ops:Array Oper) (ds:List Nat) (st:Sts) (K:Fr->List AB->Prop):TrJ->Fr->List AB->Prop
 | .fin,fr,H=>K fr H
 | .jump k,fr,H=>canonK ds fr fun l=>l=(sget st k).1/\H=(sget st k).2
 | .one i r,fr,H=>ED P T n mk ops i fr H fun fr H=>Po P T n mk ops ds st K r fr H
 | .non,_,_=>True
 | .alt i a r,fr,H=>(ED P T n mk ops i fr H fun fr H=>Po P T n mk ops ds st K a fr H)/\Po P T n mk ops ds st K r fr H
def NW (P:Program) (T:Tys) (n mk:Nat) (ops:Array Oper) (ds:List Nat) (st:Sts) (K:Fr->List AB->Prop):List Seg->Nat->Prop
 | [],_=>True
 | s::r,k=>Po P T n mk ops ds st K s.2.2 (sget st k).1 (sget st k).2/\NW P T n mk ops ds st K r (k+1)
def J4 (ops:Array Oper) (B:List Nat) (mk:Nat) (sg:List Seg):List Seg->Nat->Bool
 | [],_=>true
 | s::r,k=>F_ ops B mk sg k s.2.2 true (N0 ops.size s.1)&&Nat.ble (s.2.2.depth sg) s.2.1&&J4 ops B mk sg r (k+1)
variable {T:Tys} {w0:Fl} {M0:Ms} {n d0:Nat} {ce:Ctx}
theorem Lx {ds:List Nat} {st:Sts} {K:Fr->List AB->Prop}:∀ {sg:List Seg} {k0 k:Nat} {s:Seg},NW P T n mk ops ds st K sg k0->segGet sg k=some s->Po P T n mk ops ds st K s.2.2 (sget st (k0+k)).1 (sget st (k0+k)).2
 | [],_,_,_,_,h=>by simp [segGet] at h
 | x::r,k0,0,s,h,hs=>by
  simp only [segGet,Option.some.injEq] at hs;subst hs;exact h.1
 | x::r,k0,k+1,s,h,hs=>by
  have:=Lx (k:=k) h.2 hs;rw [show k0+(k+1)=k0+1+k by omega];exact this
theorem Lf {sg0:List Seg}:∀ {sg:List Seg} {k0 k:Nat} {s:Seg},J4 ops B mk sg0 sg k0=true->segGet sg k=some s->F_ ops B mk sg0 (k0+k) s.2.2 true (N0 ops.size s.1)=true/\s.2.2.depth sg0<=s.2.1
 | [],_,_,_,_,h=>by simp [segGet] at h
 | x::r,k0,0,s,h,hs=>by
  simp only [segGet,Option.some.injEq] at hs;subst hs;simp only [J4,Ad] at h;exact⟨h.1.1,Ah h.1.2⟩
 | x::r,k0,k+1,s,h,hs=>by
  simp only [J4,Ad] at h;have:=Lf (k:=k) h.2 hs;rw [show k0+(k+1)=k0+1+k by omega];exact this
theorem segGet_lt:∀ {sg:List Seg} {k:Nat} {s:Seg},segGet sg k=some s->k<sg.length
 | [],_,_,h=>by simp [segGet] at h
 | _::_,0,_,_=>by simp
 | _::r,k+1,s,h=>by
  have:=segGet_lt (sg:=r) (k:=k) h;simp;omega
def Yj (P:Program) (T:Tys) (ops:Array Oper) (B:List Nat) (mk n:Nat) (Q:Exit->Act->World->Prop) (w0:Fl) (M0:Ms) (ce:Ctx) (st:Sts) (sg:List Seg) (k:Nat):Prop:=
 ∀ (s:Seg) (m:Nat) (c:Ctx) (a:Act),segGet sg k=some s->s.2.1<=m->Cl ops (N0 ops.size s.1)->HS w0 M0 c (sget st k).2->FR w0 c n (sget st k).1 a->Ext ce c->HeldM P ops B mk Q m (N0 ops.size s.1) a c.w
theorem Fa (hT:TOk P T) (hB:Gf ops B=true) (hns:Region.noSelect ops=true) {ds:List Nat} {st:Sts} {sg:List Seg} {K:Fr->List AB->Prop} (hq:∀ a w,DY w0 M0 ce n K a w->Q .normal a w) (hpan:∀ c a w,¬Q (.panic c) a w) {me:Nat} (hseg:∀ k,me<k->Yj P T ops B mk n Q w0 M0 ce st sg k) :
  ∀ (r:TrJ) (m:Nat) (l:Array Bool) (c:Ctx) (fr:Fr) (H:List AB) (a:Act),Cl ops l->HS w0 M0 c H->FR w0 c n fr a->Ext ce c->Po P T n mk ops ds st K r fr H->
   (F_ ops B mk sg me r true l=true->r.depth sg<=m->HeldM P ops B mk Q m l a c.w)/\
   (F_ ops B mk sg me r false l=true->r.depth sg<=m+1->∀ j∈r.alts,j∈Region.ready .any ops l->wpOp P ops Q j (fun a' w'=>(Jd ops B mk j=true->Old c.w w')/\HeldM P ops B mk Q m (l.setIfInBounds j true) a' w') a c.w)
 | .fin,m,l,c,fr,H,a,hcl,hs,hf,he,h=>by
  refine⟨fun hd hm=>?_,fun _ _ j hj=>by simp [TrJ.alts] at hj⟩;simp only [F_,BA,List.isEmpty_iff] at hd;cases m with
  | zero=>exact⟨hd,hq _ _ ⟨c,fr,H,rfl,h,hs,hf,he⟩⟩
  | succ m=>exact⟨fun _=>hq _ _ ⟨c,fr,H,rfl,h,hs,hf,he⟩,by rw [hd];simp⟩
 | .jump k,m,l,c,fr,H,a,hcl,hs,hf,he,h=>by
  refine⟨fun hd hm=>?_,fun _ _ j hj=>by simp [TrJ.alts] at hj⟩;simp only [F_,BA,Ad] at hd;simp only [TrJ.depth] at hm;obtain⟨hlt,hd⟩:=hd;cases hg:segGet sg k with
  | none=>rw [hg] at hd;simp at hd
  | some s=>
   rw [hg] at hd hm;simp only at hd hm;have hl:l=N0 ops.size s.1:=Array.ext' (eqB_eq hd);obtain⟨e1,e2⟩:=canonK_iff h;subst hl;refine hseg k (Aq (Nat.lt_succ_self me) (Ah hlt)) s m c a hg hm hcl (e2 ▸ hs) (e1 ▸ hf.canon _) he
 | .non,m,l,c,fr,H,a,hcl,hs,hf,he,h=>by
  refine⟨fun hd hm=>by simp [F_] at hd,fun _ _ j hj=>by simp [TrJ.alts] at hj⟩
 | .alt i x r,m,l,c,fr,H,a,hcl,hs,hf,he,h=>by
  obtain⟨h1,h2⟩:=h;have key:∀ m,TrJ.depth sg (.alt i x r)<=m+1->K3 ops B mk i=true->F_ ops B mk sg me x true (l.setIfInBounds i true)=true->i∈Region.ready .any ops l->wpOp P ops Q i (fun a' w'=>(Jd ops B mk i=true->Old c.w w')/\HeldM P ops B mk Q m (l.setIfInBounds i true) a' w') a c.w:=by
   intro m hm hk hx hr;simp only [TrJ.depth] at hm;unfold K3 at hk;split at hk
   ·rename_i o ho;refine Fh hT ho hk hs hf he (fun c' fr' H' a' q1 q2 q3 q4=>(Fa hT hB hns hq hpan hseg x m _ c' fr' H' a' (hcl.set hr) q1 q2 q3 q4).1 hx (by omega)) h1
   ·cases hk
  refine⟨fun hd hm=>?_,fun hd hm j hj hr=>?_⟩
  ·simp only [F_,Bool.not_true,Bool.false_or,Ad] at hd;obtain⟨⟨⟨hr,hi⟩,hx⟩,hy⟩:=hd;have hr':=eqN_eq hr;cases m with
   | zero=>simp only [TrJ.depth] at hm;omega
   | succ m=>
    refine⟨fun h0=>(by rw [hr'] at h0;cases h0),fun j hj=>?_⟩;have hj0:=hj;rw [hr',Bb] at hj;rcases hj with rfl | hj
    ·exact key m hm hi hx hj0
    ·refine(Fa hT hB hns hq hpan hseg r m l c fr H a hcl hs hf he h2).2 hy ?_ j hj hj0;simp only [TrJ.depth] at hm;omega
  ·simp only [F_,Bool.not_false,Bool.true_or,BA,Ad] at hd;obtain⟨⟨hi,hx⟩,hy⟩:=hd;simp only [TrJ.alts,Bb] at hj;rcases hj with rfl | hj
   ·exact key m hm hi hx hr
   ·refine(Fa hT hB hns hq hpan hseg r m l c fr H a hcl hs hf he h2).2 hy ?_ j hj hr;simp only [TrJ.depth] at hm;omega
 | .one i r,m,l,c,fr,H,a,hcl,hs,hf,he,h=>by
  refine⟨fun hd hm=>?_,fun _ _ j hj=>by simp [TrJ.alts] at hj⟩;cases m with
  | zero=>simp [TrJ.depth] at hm
  | succ m=>
   simp only [TrJ.depth,Nat.add_le_add_iff_right] at hm;simp only [F_,BA,Ad] at hd;obtain⟨hd1,hd2⟩:=hd;simp only [Po] at h;cases ho:ops[i]? with
   | none=>rw [ho] at hd1;simp at hd1
   | some o=>
    rw [ho] at hd1;simp only at hd1;have only:(match Region.ready .any ops l with | [j]=>Nat.beq i j | _=>false)=true->(qM mk i o.op || !Jd ops B mk i)=true->HeldM P ops B mk Q (m+1) l a c.w:=by
     intro hr hmq;have hr':Region.ready .any ops l=[i]:=by
      split at hr
      ·rename_i j hj;rw [hj,Al hr]
      ·cases hr
     have hri:i∈Region.ready .any ops l:=by rw [hr'];simp
     refine⟨fun h0=>(by rw [hr'] at h0;cases h0),fun j hj=>?_⟩;rw [hr',AF] at hj;subst hj;exact Fh hT ho hmq hs hf he (fun c' fr' H' a' q1 q2 q3 q4=>(Fa hT hB hns hq hpan hseg r m _ c' fr' H' a' (hcl.set hri) q1 q2 q3 q4).1 hd2 hm) h
    cases hE:isEff o.op with
    | true=>
     rw [hE] at hd1;simp only [Ad] at hd1;exact only hd1.1 hd1.2
    | false=>
     rw [hE] at hd1;dsimp only at hd1;cases hM:mk.testBit i with
     | true=>
      rw [hM] at hd1;simp only [Ad] at hd1;exact only hd1.1 hd1.2
     | false=>
     rw [hM] at hd1;simp only [Ad] at hd1;obtain⟨hfree,hr⟩:=hd1;have hri:i∈Region.ready .any ops l:=by simpa using hr
     simp only [ED,Ek] at h;rw [show ops.toList[i]? = some o by simpa using ho] at h;simp only at h;have step:∀ v fr2,YieldsIf P ops (fun w'=>pureOp o.op=true\/Old c.w w') o v a->FR w0 c n fr2 (a.put o.dst v)->Po P T n mk ops ds st K r fr2 H->HeldM P ops B mk Q (m+1) l a c.w:=by
      intro v fr2 hy hf2 h2;exact HeldM.first1 hB ho hM hE (Region.noSelect_spec hns) (fun c a w h=>(hpan _ _ _ h).elim) m l a c.w hcl (Region.free_spec ho hfree) hri hy
       ((Fa hT hB hns hq hpan hseg r m _ c fr2 H _ (hcl.set hri) hs hf2 he h2).1 hd2 hm)
     rcases D0 hf h with ⟨hw,fr',hf',h⟩ | ⟨hw,fr',hf',h⟩
     ·unfold Hq at h;rw [hE] at h;obtain⟨rr,v,h1,h2,h3⟩:=(G7 hT hs hf' h).y;obtain⟨fr2,h4,h5⟩:=Cs hf' h3 h1;exact step v fr2 (.inl ⟨hw,h2⟩) h5 h4
     ·obtain⟨fr2,h4,h5⟩:=Cs (v:=undef) hf' (by simp [Rd]) h;exact step undef fr2 (.inr ⟨hw,rfl⟩) h5 h4
theorem Le (hT:TOk P T) (hB:Gf ops B=true) (hns:Region.noSelect ops=true) {ds:List Nat} {st:Sts} {sg:List Seg} {K:Fr->List AB->Prop} (hq:∀ a w,DY w0 M0 ce n K a w->Q .normal a w) (hpan:∀ c a w,¬Q (.panic c) a w) (hok:J4 ops B mk sg sg 0=true) (h:NW P T n mk ops ds st K sg 0):∀ (z k:Nat),sg.length<=z+k->Yj P T ops B mk n Q w0 M0 ce st sg k
 | 0,k,hz,s,m,c,a,hg,_,_,_,_,_=>by
  have:=segGet_lt hg;omega
 | z+1,k,hz,s,m,c,a,hg,hm,hcl,hs,hf,he=>by
  obtain⟨h1,h2⟩:=Lf hok hg;have h3:=Lx h hg;rw [Az] at h1 h3;exact(Fa hT hB hns hq hpan (fun k' hk'=>Le hT hB hns hq hpan hok h z k' (by omega)) s.2.2 m _ c _ _ a hcl hs hf he h3).1 h1 (by omega)
def Yh (ops:Array Oper) (mk:Nat) (sg:List Seg):Bool:=Gf ops (JU ops)&&Region.noSelect ops&&(match sg with | ([],d,_)::_=>Nat.ble d ops.size | _=>false)&&J4 ops (JU ops) mk sg sg 0
theorem aDraw.dag (mk:Nat) (hT:TOk P T) (hm:P.follows .mixedOrders=true) {id:Nat} {K:Fr->List AB->Prop} {fr:Fr} {H:List AB} (sg:List Seg) (ds:List Nat) (st:Sts) {F:Fr} {H2:List AB} (hok:Yh ops mk sg=true)
  (h:NW P T n mk ops (ds ++ slots fr) ((fr,H)::st) (fun fr' H'=>canonK (ds ++ slots fr) fr' fun l=>l=F/\H'=H2) sg 0) (hk:K F H2):aDraw P T n d0 id ops K fr H:=by
 simp only [Yh,Ad] at hok;obtain⟨⟨⟨hB,hns⟩,hlen⟩,hok⟩:=hok;refine⟨fun w0 M0 ce c a hs hf he hd Q hQ=>?_⟩;refine wp_mono (Q:=fun e a w=>e = .normal/\DY w0 M0 ce n (fun fr' H'=>canonK (ds ++ slots fr) fr' fun l=>l=F/\H'=H2) a w) ?_ ?_
 ·refine wp_region_any hm (HeldM.any (B:=JU ops) (mk:=mk) _ _ _ _ ?_);have hb:=(Below.refl c.w.heap.size c.w).drew;obtain⟨h1,h2⟩:=hs.grow hb;have hcl:Cl ops (Array.replicate ops.size false):=by
   intro j o hj hlj;rcases BV j ops.size with h' | h'
   ·simp [h'] at hlj
   ·simp [BI h'] at hj
  cases sg with
  | nil=>simp at hlen
  | cons s sg=>
   obtain⟨s1,d,tr⟩:=s;cases s1 with
   | cons _ _=>simp at hlen
   | nil=>
    exact Le (w0:=w0) (M0:=M0) (ce:=ce) (st:=(fr,H)::st) hT hB hns (fun a w hl=>⟨rfl,hl⟩) (fun c a w h=>by cases h.1) hok h _ 0 (Ag _) ([],d,tr) _ { c with w:=c.w.drew } a rfl (Ah hlen) hcl h1 (hf.ext h2) (he.trans h2)
 ·rintro e a w ⟨rfl,c',fr',H',rfl,h1,h2,h3,h4⟩;obtain⟨e1,rfl⟩:=canonK_iff h1;exact hQ c' F H' a hk h2 (e1 ▸ h3.canon _) h4
end
theorem Vr {d:Dk} (hd:DkOk d) (hl:d.left<0) (k:Nat):Lv d k:=⟨hd.r, .inl hl⟩
theorem OD (k:Nat) (d:Dk) (l:List Int):Bz (d.tick k) l=Bz d l:=rfl
theorem finL_two:∀ (l:List Wr) (cs:List Cel) (a:Nat),((CK cs l).getD a cz).state=2↔(cs.getD a cz).state=2:=fun l cs a=>by
 by_cases ha:a<cs.length
 ·by_cases h:(cs.getD a cz).state=2
  ·rw [finL_stuck l cs a ha h]
  ·rcases finL_any l cs a ha with e | ⟨_,e,_⟩
   ·rw [e]
   ·rw [e];exact⟨fun q=>absurd q (by decide),fun q=>absurd q h⟩
 ·rw [Aa,Aa,AE (by rw [finL_len];omega),AE (by omega)]
theorem VA (l:List Wr) (cs:List Cel):free (CK cs l)=free cs:=by
 funext w;unfold free;rw [Dx,decide_eq_true_eq,decide_eq_true_eq];exact not_congr (finL_two l cs _)
def Pt (g:Geo) (w:List Wr):Nat:=g.an.toNat+2*g.sl.toNat+(if w=[] then 0 else w.length+1)+(g.an.toNat+1)
theorem Pu {g:Geo} {d:Dk} {a:An} {j:Nat} {L:List Tx} {w:List Wr} (hg:Bt g=true) (hd:DkOk d) (hn:(d.cells.length:Int)=A3 g) (hc:d.cache=[]) (hl:d.left<0) (hp:Gu g (Bz d (Dr g))=some (a,j)) (hs:D_ g a (Bz d (BT g 0)) (Bz d (BT g 1))=(L,w,0)) (h1:a.gen≠4294967295) (h2:a.epoch≠4294967295) :
  Db g d=(⟨CK (CK d.cells w) (Bg g (DH a L.length)), [],(d.tick (Pt g w)).reqs,d.left⟩,if ((Bg g (DH a L.length)).filter (free d.cells)).length=0 then 14 else 0,if ((Bg g (DH a L.length)).filter (free d.cells)).length=0 then st0 else Bl (DH a L.length) L):=by
 obtain⟨g1,g2,g3,g4,g5⟩:=As.1 hg;have hao:=IY hg _ hp;have hin:=Lg (x:=Bz d (BT g 0)) (y:=Bz d (BT g 1)) (n:=d.cells.length) hg hao (by rw [DU,Fc];omega) (by rw [DU,Fc];omega) hn;rw [hs] at hin;obtain⟨hw1,hw2⟩:=hin rfl;simp only at hw1 hw2;have hlv:∀ k,d.live k:=fun k=> .inl hl
 have htl:∀ k,(d.tick k).left=d.left:=fun k=>if_pos hl
 have hr:=hd.r;unfold Db;rw [if_pos (hlv _),hp];simp only;unfold I0;rw [Mj _ (Vr hd hl _),if_pos (show (d.tick g.an.toNat).live _ from .inl (by rw [htl];exact hl)),OD,OD,hs];rw [Mj _ (show Lv (d.tick g.an.toNat) (2*g.sl.toNat) from IN (Vr hd hl _)),Gn _ _ hr.2 (.inl hl)];unfold L4;simp only [ne_eq,not_true,if_false];have hm:(d.tick (g.an.toNat+2*g.sl.toNat)).mend w=(⟨CK d.cells w, [],(d.tick (g.an.toNat+2*g.sl.toNat+(if w=[] then 0 else w.length+1))).reqs,d.left⟩,false):=by
  unfold Dk.mend;by_cases hw:w=[]
  ·subst hw;rw [if_pos rfl,if_pos rfl,C5];simp only [Prod.mk.injEq,and_true];show (d.tick _:Dk)=_;unfold Dk.tick;rw [hc,if_pos hl];try rfl
  ·rw [if_neg hw,if_neg hw,IX (IN (Vr hd hl _)) hc (by omega),Gn _ _ hr.2 (.inl hl)];simp only [htl];rfl
 rw [hm];simp only [Cu,if_false];unfold L3;rw [if_neg (by rintro(h | h);exact h1 h;exact h2 h)];obtain⟨K,hK⟩:∃ K,K=g.an.toNat+2*g.sl.toNat+(if w=[] then 0 else w.length+1):=⟨_,rfl⟩;rw [<-hK];have hrk:0<=(d.tick K).reqs/\(d.tick K).reqs<=1048576:=by show 0<=min _ _/\min _ _<=_;omega
 have hlen:=F2 g (DH a L.length);rw [IX (d:=⟨CK d.cells w, [],(d.tick K).reqs,d.left⟩) ⟨hrk, .inl hl⟩ rfl (by omega)];simp only [Cu,if_false,VA,hlen];have e1:((⟨CK d.cells w, [],(d.tick K).reqs,d.left⟩:Dk).tick (g.an.toNat+1)).left=d.left:=if_pos hl;have e2:((⟨CK d.cells w, [],(d.tick K).reqs,d.left⟩:Dk).tick (g.an.toNat+1)).reqs=(d.tick (Pt g w)).reqs:=by
  show min ((d.tick K).reqs+((g.an.toNat+1:Nat):Int)) _=min _ _;show min (min (d.reqs+(K:Nat)) 1048576+((g.an.toNat+1:Nat):Int)) 1048576=min (d.reqs+(Pt g w:Nat)) 1048576;unfold Pt;rw [<-hK];omega
 rw [e1,e2];split <;> rfl
theorem Lt (g:Geo) (l:List Gt):∀ k,(ET g l k=none->∀ i,i<k->E3 g (l.getD i ⟨0, []⟩) (i:Nat)=none)/\∀ a j,ET g l k=some (a,j)->j<k/\E3 g (l.getD j ⟨0, []⟩) (j:Nat)=some a/\∀ i b,i<k->E3 g (l.getD i ⟨0, []⟩) (i:Nat)=some b->b.gen<=a.gen
 | 0=>⟨fun _ i hi=>by omega,fun a j h=>by cases h⟩
 | k+1=>by
  obtain⟨ih1,ih2⟩:=Lt g l k;rw [Iv,Pf];cases hS:E3 g (l.getD k ⟨0, []⟩) (k:Nat) with
  | none=>
   refine⟨fun h i hi=>?_,fun a j h=>?_⟩
   ·by_cases e:i=k
    ·rw [e];exact hS
    ·exact ih1 h i (by omega)
   ·obtain⟨q1,q2,q3⟩:=ih2 a j h;refine⟨by omega,q2,fun i b hi hb=>?_⟩;by_cases e:i=k
    ·rw [e,hS] at hb;cases hb
    ·exact q3 i b (by omega) hb
  | some c=>
   cases hP:ET g l k with
   | none=>
    refine⟨fun h=>(by cases h),fun a j h=>?_⟩;cases h;refine⟨by omega,hS,fun i b hi hb=>?_⟩;by_cases e:i=k
    ·rw [e,hS] at hb;cases hb;exact C7 _
    ·rw [ih1 hP i (by omega)] at hb;cases hb
   | some q=>
    obtain⟨a0,j0⟩:=q;obtain⟨q1,q2,q3⟩:=ih2 a0 j0 hP;simp only;by_cases hlt:a0.gen<c.gen
    ·rw [if_pos hlt];refine⟨fun h=>(by cases h),fun a j h=>?_⟩;cases h;refine⟨by omega,hS,fun i b hi hb=>?_⟩;by_cases e:i=k
     ·rw [e,hS] at hb;cases hb;exact C7 _
     ·have:=q3 i b (by omega) hb;omega
    ·rw [if_neg hlt];refine⟨fun h=>(by cases h),fun a j h=>?_⟩;cases h;refine⟨by omega,q2,fun i b hi hb=>?_⟩;by_cases e:i=k
     ·rw [e,hS] at hb;cases hb;omega
     ·exact q3 i b (by omega) hb
theorem R6 {g:Geo} {d:Dk} {i:Nat} (hi:i<g.an.toNat):(Bz d (Dr g)).getD i ⟨0, []⟩=Tz d (i:Nat):=by
 rw [Bz,Bd (d:=0) (by rw [Fj];exact hi),N2 hi]
theorem Qz {g:Geo} {a:An} {i:Nat} (hg:Bt g=true) (ha:Bv g a=true) (hi:(i:Int)<=65535):E3 g ⟨0,Dj a i⟩ i=some a:=by
 obtain⟨e1,e2,e3,e4⟩:=J5 (N1 hg ha (i:=(i:Nat)) ⟨by omega,hi⟩);unfold E3;rw [if_pos ⟨rfl,e1,e2⟩];show (match ES g (Cy (Dj a i)) with | some a_1=>if a_1.gen=Ck (Dj a i) then some a_1 else none | none=>none)=_;rw [show Cy (Dj a i)=Mh a from e4,SR hg ha,show Ck (Dj a i)=a.gen from e3];simp
section
variable {g:Geo} {a:An} {fill:UInt8} {sizes:List Int}
end
theorem L8 {g:Geo} {c s:Int} (hc:c=0\/c=1) (hs:0<=s/\s<g.sl):g.an<=Bj g c s/\Bj g c s<g.an+2*g.sl:=by
 unfold Bj;rcases hc with rfl | rfl <;> omega
section
variable {g:Geo} {s:ByteArray} {a:An} {fill:UInt8} {sizes:List Int}
theorem Jq {b:An} (hg:Bt g=true) (hb:Bv g b=true) (i:Int):(Dj b i).length<=200:=by
 have:=JW hg hb;rw [Dj,EW];omega
end
theorem KA {cs:List Cel} {n:Nat} (h:cs.length=n) {k:Nat} (hk:k<n):(cs.map B4).getD k []=B4 (cs.getD k cz):=Bd (by omega)
theorem WS {g:Geo} (hg:Bt g=true):F7 g (EC g)=true:=by
 obtain⟨g1,g2,g3,g4,g5⟩:=As.1 hg;have hz:=HM zero8;simp only [F7,hg,EC,BD,Ad,decide_eq_true_eq,BA];refine⟨⟨by omega,?_⟩,?_⟩
 ·rw [Au];intro e he;rw [CN he];simp [DL,ent0,H4,C0];exact decide_eq_true (by omega)
 ·have:Gj (List.replicate (g.d+1).toNat ent0) g.d.toNat=false:=by
   unfold Gj;rw [CP (by omega)];try rfl
  rw [this];try rfl
theorem Ux {g:Geo} (hg:Bt g=true) {a:Int} (ha:0<=a/\a<=65535):WL a 0 (CF (EC g)):=by
 obtain⟨g1,g2,g3,g4,g5⟩:=As.1 hg;refine⟨ha.1,ha.2,C7 _,by decide,?_⟩;rw [EB,EC,BD];omega
section
variable {g:Geo} {s:ByteArray} {a b:An} {fill:UInt8} {sizes:List Int} {d:Dk}
theorem Q_ {F:Int->List UInt8} {n:Int} (h:Holds d n F) (l:List Int) (hl:∀ x∈l,0<=x/\x<n):Bz d l=l.map fun x=>⟨0,F x⟩:=by
 unfold Bz;refine Co fun x hx=>?_
 exact h.got (hl x hx).1 (hl x hx).2
theorem Tc (hg:Bt g=true) {c:Int} (hc:c=0\/c=1):∀ x∈BT g c,0<=x/\x<A3 g:=fun x hx=>by
 obtain⟨g1,g2,g3,g4,g5⟩:=As.1 hg;have hcg:=Eg hg;simp only [BT,AK,AO] at hx;obtain⟨i,hi,rfl⟩:=hx;have:=L8 (g:=g) hc (s:=(i:Nat)) (by omega);omega
theorem Tq {F:Int->List UInt8} (hg:Bt g=true) {c:An} (h:Holds d (A3 g) F) {r:Int} {l:Int}:Holds ⟨CK d.cells (Bg g c), [],r,l⟩ (A3 g) (fun x=>if x<g.an then Dj c x else F x):=by
 obtain⟨g1,g2,g3,g4,g5⟩:=As.1 hg;have hcg:=Eg hg;refine⟨by rw [<-h.len];show ((CK d.cells _).length:Int)=_;rw [finL_len],rfl,fun x h0 h1=>?_⟩;obtain⟨e1,e2⟩:=h.cell x h0 h1;have hlt:x.toNat<d.cells.length:=by have:=h.len;omega
 show ((CK d.cells _).getD x.toNat cz).state=0/\((CK d.cells _).getD x.toNat cz).bytes=_;have hmem:∀ w∈Bg g c,∃ i:Nat,i<g.an.toNat/\w=⟨(i:Nat),Dj c (i:Nat)⟩:=fun w hw=>by
  simp only [Bg,AK,AO] at hw;obtain⟨i,hi,rfl⟩:=hw;exact⟨i,hi,rfl⟩
 by_cases hx:x<g.an
 ·rw [if_pos hx];refine LX _ _ _ hlt (by rw [e1];decide) (fun w hw hwa=>?_) (.inl ⟨⟨x,Dj c x⟩,?_,rfl⟩)
  ·obtain⟨i,hi,rfl⟩:=hmem w hw;have:((i:Nat):Int).toNat=x.toNat:=hwa;show Dj c (i:Nat)=_;congr 1;omega
  ·simp only [Bg,AK,AO];exact⟨x.toNat,by omega,by rw [Da h0]⟩
 ·rw [if_neg hx,finL_miss _ _ _ hlt (fun w hw e=>?_)]
  ·exact⟨e1,e2⟩
  ·obtain⟨i,hi,rfl⟩:=hmem w hw;have:((i:Nat):Int).toNat=x.toNat:=e;omega
theorem VB {n:Int} {F:Int->List UInt8} (h:Holds d n F) (l:List Wr) (hl:∀ w∈l,0<=w.addr/\w.addr<n):l.filter (free d.cells)=l:=by
 rw [List.filter_eq_self];intro w hw;unfold free;rw [(h.cell w.addr (hl w hw).1 (hl w hw).2).1];try rfl
end



theorem OW (g:Geo) (s:ByteArray) (hg:Bt g=true) (hs:FK s.data.toList=0):ACalls Tryz.prog false 57 [.ag (Ba g), .v (.string s)] [] fun r H=>r = .ag [.ow 0 (A3 g).toNat,nilV,ze 0,ze (-1)]/\H=[.row 128 3 ((GU g s).cells.map B4)]:=by
 obtain⟨g1,g2,g3,g4,g5⟩:=As.1 hg;have hcg:=Eg hg;have hp:=GJ hg;have hN:1<=(A3 g).toNat/\(A3 g).toNat<=300:=by
  have:g.z*C9 g<=4*7:=Int.mul_le_mul (by omega) (by omega) (by omega) (by omega);unfold A3 at hcg |-
  omega
 have hcN:A3 g=((A3 g).toNat:Int):=by omega
 have hao:=No hg hs;have hA:=VL g s hg;have hC:=QH g hg;rw [hcN] at hC;have hD:=UL (A3 g).toNat hN;refine zS tys_ok Tryz.func57 rfl rfl (Ah rfl) ?_;conv=>whnf
 refine z_ hC ?_;conv=>whnf
 refine zW hD rfl ?_;rintro _ _ ⟨rfl,rfl⟩;conv=>whnf
 refine z_ hA ?_;conv=>whnf
 refine zU Nat (fun k=>([(2, .bp 0 0),(4, .bp 1 0),(5, .bp 2 0),(6, .bp 3 0),(7,ze k)], [.box 23 (Ba g), .box 43 [nilV,nilV,ze 0,ze 0], .box 43 [.ow 4 (A3 g).toNat,nilV,ze 0,ze (-1)], .box 33 (EO (BZ g s)), .row 128 3 ((Em (I8 g) ((Bg g (BZ g s)).take k)).map B4)])) (fun k=>k<=g.an.toNat) (fun k=>g.an.toNat - k) 0 (Aj _)
  ?_ ?_
 ·refine z7 (zI (z8 (k:=2) rfl (es':=(I8 g).map B4) (by simp [I8]) fun i=>?_)) (s:= [0,1,3,4,2]) tA;rw [I8,List.map_replicate];by_cases hi:i<(A3 g).toNat
  ·rw [LI hi,LI hi];exact⟨fun _ _ h=>h,Bp 1 _,Bp 1 _,tv⟩
  ·rw [Aa,Aa,AE (by simpa using hi),AE (by simpa using hi)];exact SubL.refl _
 ·intro k hk;conv=>whnf
  refine A6 (fun h6=>?_) (fun h6=>?_) <;> (repeat rw [Ab] at h6) <;> conv=>whnf
  ·have hk':k<(Bg g (BZ g s)).length:=by rw [F2];omega
   have hsx:=Ib (I8 g) hk';rw [Kw (by omega)] at hsx;have hlx:(Em (I8 g) ((Bg g (BZ g s)).take k)).length=(A3 g).toNat:=by rw [EK,LN]
   generalize Em (I8 g) ((Bg g (BZ g s)).take k)=cs at hsx hlx |-
   have hnc:=Ls g (BZ g s) k hg hao (by omega);have hE:(cs.map B4).getD (k:Int).toNat []=B4 (cs.getD (k:Int).toNat cz):=KA hlx (by omega);repeat' (refine zZ ?_;conv=>whnf)
   apply zV (0) tys_ok mixed (.o [0,1,2,3,4,5,6,7,8] .fin) (by kernel_rfl);conv=>whnf
   refine z_ hnc ?_;conv=>whnf
   try (refine tI ?_;conv=>whnf)
   try (refine tS ?_;conv=>whnf)
   (first | rw [hE] | skip)
   conv=>whnf
   all_goals exact⟨k+1,by omega,by omega,zR (s:= [0,1,2,3,4]) ⟨⟨rfl,rfl,rfl,rfl,AR (by omega),tv⟩,⟨rfl,rfl,rfl,rfl,congrArg (fun l=>some (AB.row _ _ l)) (by rw [hsx,Jk];try rfl),tv⟩,rfl,rfl,rfl,rfl,rfl⟩⟩
  ·have ek:k=(Bg g (BZ g s)).length:=by rw [F2];omega
   rw [ek,Ay];repeat' (refine zZ ?_;conv=>whnf)
   refine zU Nat (fun c=>([(2, .bp 0 0),(4, .bp 1 0),(5, .bp 2 0),(6, .bp 3 0),(8,ze c)], [.box 23 (Ba g), .box 43 [nilV,nilV,ze 0,ze 0], .box 43 [.ow 4 (A3 g).toNat,nilV,ze 0,ze (-1)], .box 33 (EO (BZ g s)), .row 128 3 ((Og g s c).map B4)])) (fun c=>c<=2) (fun c=>2 - c) 0 (Aj _)
    (zR (s:= [0,1,2,3,4]) tA) ?_
   intro c hc;conv=>whnf
   refine A6 (fun h7=>?_) (fun h7=>?_) <;> (repeat rw [Ab] at h7) <;> conv=>whnf
   ·have hc01:(c:Int)=0\/(c:Int)=1:=by omega
    repeat' (refine zZ ?_;conv=>whnf)
    refine zU Nat (fun i=>([(2, .bp 0 0),(4, .bp 1 0),(5, .bp 2 0),(6, .bp 3 0),(8,ze c),(9,ze i)], [.box 23 (Ba g), .box 43 [nilV,nilV,ze 0,ze 0], .box 43 [.ow 4 (A3 g).toNat,nilV,ze 0,ze (-1)], .box 33 (EO (BZ g s)), .row 128 3 ((Em (Og g s c) ((GP g c).take i)).map B4)])) (fun i=>i<=g.sl.toNat) (fun i=>g.sl.toNat - i) 0 (Aj _)
     (zR (s:= [0,1,2,3,4]) tA) ?_
    intro i hi;conv=>whnf
    refine A6 (fun h8=>?_) (fun h8=>?_) <;> (repeat rw [Ab] at h8) <;> conv=>whnf
    ·have hlw:(GP g c).length=g.sl.toNat:=by simp [GP]
     have hi':i<(GP g c).length:=by omega
     have hsx:=Ib (Og g s c) hi';rw [show (GP g c).getD i ⟨0, []⟩=⟨Bj g c (i:Nat),BW g zeroC c (i:Nat)⟩ from JB (by omega)] at hsx;have hlx:(Em (Og g s c) ((GP g c).take i)).length=(A3 g).toNat:=by rw [EK,LM]
     generalize Em (Og g s c) ((GP g c).take i)=cs at hsx hlx |-
     have hokl:Hz g c i=true:=by simp only [Hz,Ad,AD];omega
     have hla:=DE g c i hg hokl;have hin:=FJ (n:=(A3 g).toNat) hg hcN.symm hc01 (s:=i) (by omega);have hrc:=IT g zeroC c i (HU hg) hokl;have hE:(cs.map B4).getD (Bj g c i).toNat []=B4 (cs.getD (Bj g c i).toNat cz):=KA hlx (by omega);repeat' (refine zZ ?_;conv=>whnf)
     apply zV (0) tys_ok mixed (.o [0,1,2,3,4,6,7,8,9,5,10,11,12,13] .fin) (by kernel_rfl);conv=>whnf
     refine z_ hla ?_;conv=>whnf
     (refine zY [.ag (Ba g), .ag (FX zeroC),ze c,ze i] (by repeat' (first | exact trivial | exact fun _ _ h=>h | exact Bp _ _ | refine Af ?_ ?_ | refine Bm ?_)) ?_;refine z_ hrc ?_)
     conv=>whnf
     try (refine tI ?_;conv=>whnf)
     try (refine tS ?_;conv=>whnf)
     (first | rw [hE] | skip)
     conv=>whnf
     all_goals exact⟨i+1,by omega,by omega,zR (s:= [0,1,2,3,4]) ⟨⟨rfl,rfl,rfl,rfl,rfl,AR (by omega),tv⟩,⟨rfl,rfl,rfl,rfl,congrArg (fun l=>some (AB.row _ _ l)) (by rw [hsx,Jk];try rfl),tv⟩,rfl,rfl,rfl,rfl,rfl⟩⟩
    ·have ei:i=(GP g c).length:=by simp [GP];omega
     repeat' (refine zZ ?_;conv=>whnf)
     exact⟨c+1,by omega,by omega,zR (s:= [0,1,2,3,4]) ⟨⟨rfl,rfl,rfl,rfl,AR (by omega),tv⟩,⟨rfl,rfl,rfl,rfl,by rw [ei,Ay];try rfl,tv⟩,rfl,rfl,rfl,rfl,rfl⟩⟩
   ·have ec:c=2:=by omega
    subst ec;have hT:=WT g hg;have hz8:=HM zero8;have hB:=WR (EC g) (by rw [EC,BD];omega) (fun e he=>by rw [CN he];simp only [ent0];omega);repeat' (refine zZ ?_;conv=>whnf)
    refine z_ hT ?_;conv=>whnf
    refine z_ hB ?_;conv=>whnf
    repeat' (refine zZ ?_;conv=>whnf)
    refine zU Nat (fun z=>([(2, .bp 0 0),(4, .bp 1 0),(5, .bp 2 0),(10,bA (CF (EC g))),(11,ze z)], [.box 23 (Ba g), .box 43 [nilV,nilV,ze 0,ze 0], .box 43 [.ow 4 (A3 g).toNat,nilV,ze 0,ze (-1)], .box 33 (EO (BZ g s)), .row 128 3 ((GV g s z).map B4)])) (fun z=>z<=g.z.toNat) (fun z=>g.z.toNat - z) 0 (Aj _)
     (zR (s:= [0,1,2,3,4]) tA) ?_
    intro z hz;conv=>whnf
    refine A6 (fun h9=>?_) (fun h9=>?_) <;> (repeat rw [Ab] at h9) <;> conv=>whnf
    ·have htb:∀ k:Nat,k<2->0<=Bx g z k/\Bx g z k<((A3 g).toNat:Int):=fun k hk=>by unfold Bx;omega
     have hmul:(z:Int)*C9 g<=(g.z - 1)*C9 g:=Cj (by omega) (by omega);have hz0:0<=(z:Int)*C9 g:=CQ (by omega) (by omega);have hsb:∀ k:Nat,(k:Int)<C9 g->0<=BF g z k/\BF g z k<((A3 g).toNat:Int):=fun k hk=>by
      rw [<-hcN];unfold BF A3;rw [Int.sub_mul,Int.one_mul] at hmul;omega
     repeat' (refine zZ ?_;conv=>whnf)
     refine zU Nat (fun k=>([(2, .bp 0 0),(4, .bp 1 0),(5, .bp 2 0),(10,bA (CF (EC g))),(11,ze z),(12,ze k)], [.box 23 (Ba g), .box 43 [nilV,nilV,ze 0,ze 0], .box 43 [.ow 4 (A3 g).toNat,nilV,ze 0,ze (-1)], .box 33 (EO (BZ g s)), .row 128 3 ((Em (GV g s z) ((Ie g z).take k)).map B4)])) (fun k=>k<=2) (fun k=>2 - k) 0 (Aj _)
      (zR (s:= [0,1,2,3,4]) tA) ?_
     intro k hk;conv=>whnf
     refine A6 (fun h10=>?_) (fun h10=>?_) <;> (repeat rw [Ab] at h10) <;> conv=>whnf
     ·have hlw:(Ie g z).length=2:=by simp [Ie]
      have hk':k<(Ie g z).length:=by omega
      have hsx:=Ib (GV g s z) hk';rw [show (Ie g z).getD k ⟨0, []⟩=⟨Bx g z (k:Nat),CB (Bx g z (k:Nat)) 0 (CF (EC g))⟩ from JB (by omega)] at hsx;have hlx:(Em (GV g s z) ((Ie g z).take k)).length=(A3 g).toNat:=by rw [EK,G4]
      generalize Em (GV g s z) ((Ie g z).take k)=cs at hsx hlx |-
      have hgt:=SB g z k hg (by omega) (by omega);have hin:=htb k (by omega);have hmk:=HT (Bx g z k) 0 (CF (EC g)) (Ux hg (by omega));have hE:(cs.map B4).getD (Bx g z k).toNat []=B4 (cs.getD (Bx g z k).toNat cz):=KA hlx (by omega);repeat' (refine zZ ?_;conv=>whnf)
      refine z_ hgt ?_;conv=>whnf
      apply zV (0) tys_ok mixed (.o [0,1,2,3,4,5,6,7,8] .fin) (by kernel_rfl);conv=>whnf
      refine z_ hmk ?_;conv=>whnf
      try (refine tI ?_;conv=>whnf)
      try (refine tS ?_;conv=>whnf)
      (first | rw [hE] | skip)
      conv=>whnf
      all_goals exact⟨k+1,by omega,by omega,zR (s:= [0,1,2,3,4]) ⟨⟨rfl,rfl,rfl,rfl,rfl,AR (by omega),tv⟩,⟨rfl,rfl,rfl,rfl,congrArg (fun l=>some (AB.row _ _ l)) (by rw [hsx,Jk];try rfl),tv⟩,rfl,rfl,rfl,rfl,rfl⟩⟩
     ·have ek:k=(Ie g z).length:=by simp [Ie];omega
      rw [ek,Ay];have hpr:=NK g hg;repeat' (refine zZ ?_;conv=>whnf)
      refine zU Nat (fun i=>([(2, .bp 0 0),(4, .bp 1 0),(5, .bp 2 0),(10,bA (CF (EC g))),(11,ze z),(14,ze i)], [.box 23 (Ba g), .box 43 [nilV,nilV,ze 0,ze 0], .box 43 [.ow 4 (A3 g).toNat,nilV,ze 0,ze (-1)], .box 33 (EO (BZ g s)), .row 128 3 ((Em (Em (GV g s z) (Ie g z)) ((Hg g z).take i)).map B4)])) (fun i=>i<=(C9 g).toNat) (fun i=>(C9 g).toNat - i) 0 (Aj _)
       (zR (s:= [0,1,2,3,4]) tA) ?_
      intro i hi;conv=>whnf
      refine z_ hpr ?_;conv=>whnf
      refine A6 (fun h11=>?_) (fun h11=>?_) <;> (repeat rw [Ab] at h11) <;> conv=>whnf
      ·have hlw:(Hg g z).length=(C9 g).toNat:=by simp [Hg]
       have hi':i<(Hg g z).length:=by omega
       have hsx:=Ib (Em (GV g s z) (Ie g z)) hi';rw [show (Hg g z).getD i ⟨0, []⟩=⟨BF g z (i:Nat),CB (BF g z (i:Nat)) 0 zero8⟩ from JB (by omega)] at hsx;have hlx:(Em (Em (GV g s z) (Ie g z)) ((Hg g z).take i)).length=(A3 g).toNat:=by rw [EK,EK,G4]
       generalize Em (Em (GV g s z) (Ie g z)) ((Hg g z).take i)=cs at hsx hlx |-
       have hgt:=Lk g z i hg (by omega) (by omega);have hin:=hsb i (by omega);have hmk:=HT (BF g z i) 0 zero8 ⟨hin.1,by omega,C7 _,by decide,by decide⟩;have hE:(cs.map B4).getD (BF g z i).toNat []=B4 (cs.getD (BF g z i).toNat cz):=KA hlx (by omega);repeat' (refine zZ ?_;conv=>whnf)
       refine z_ hgt ?_;conv=>whnf
       apply zV (0) tys_ok mixed (.o [0,1,2,3,4,5,6,7,8] .fin) (by kernel_rfl);conv=>whnf
       (try (refine Af ⟨rfl,by decide,by decide⟩ ?_;conv=>whnf);refine zQ hmk.go ?_;(conv=>whnf);refine Af rfl ?_;(conv=>whnf);refine zY [ze (BF g z i),ze 0,bA zero8] ⟨ri,ri,fun c v h=>zH rfl (fun i hi=>by have hi':i<8:=hi;rw [LI (by exact hi'),Sp hi'];try rfl) h,tv⟩ ?_;refine z_ hmk ?_)
       conv=>whnf
       try (refine tI ?_;conv=>whnf)
       try (refine tS ?_;conv=>whnf)
       (first | rw [hE] | skip)
       conv=>whnf
       all_goals exact⟨i+1,by omega,by omega,zR (s:= [0,1,2,3,4]) ⟨⟨rfl,rfl,rfl,rfl,rfl,AR (by omega),tv⟩,⟨rfl,rfl,rfl,rfl,congrArg (fun l=>some (AB.row _ _ l)) (by rw [hsx,Jk];try rfl),tv⟩,rfl,rfl,rfl,rfl,rfl⟩⟩
      ·have ei:i=(Hg g z).length:=by simp [Hg];omega
       repeat' (refine zZ ?_;conv=>whnf)
       exact⟨z+1,by omega,by omega,zR (s:= [0,1,2,3,4]) ⟨⟨rfl,rfl,rfl,rfl,AR (by omega),tv⟩,⟨rfl,rfl,rfl,rfl,by rw [ei,Ay];try rfl,tv⟩,rfl,rfl,rfl,rfl,rfl⟩⟩
    ·have ez:z=g.z.toNat:=by omega
     subst ez;exact⟨_, .ag [.ow 0 (A3 g).toNat,nilV,ze 0,ze (-1)], [.row 128 3 ((GV g s g.z.toNat).map B4)],fun _ _ h=>h,zR (s:= [4]) tA,rfl,rfl⟩
theorem Q8 (g:Geo) (s:ByteArray) (hg:Bt g=true) (hs:FK s.data.toList=0):Fn Tryz.prog 57 [.ag (Ba g), .v (.string s)] fun r=>r = .ag (Ey (GU g s)):=by
 refine ACalls.fn (OW g s hg hs) ?_;rintro _ _ ⟨rfl,rfl⟩;refine⟨_,z6 _,?_⟩;conv=>whnf
 refine Af (by rw [Ac];exact(G4 g s _).symm) ?_;exact⟨.ag (Ey (GU g s)),Bm ⟨B3 (f:=B4) (GV g s g.z.toNat) (by rw [G4]) rfl,Bp 2 _,ri,ri,tv⟩,rfl⟩


section
variable {g:Geo} {s:ByteArray} {b:An} {fill:UInt8} {sizes:List Int} {D:Dk}
end
theorem StSm.big {S:Stt} (h:StSm S):StBig S:=
 ⟨by have:=h.l;omega,by have:=h.h.1;omega,⟨by have:=h.t.1;omega,fun t ht=>⟨by have:=(h.t.2 t ht).1;omega,fun x hx=>by have:=(h.t.2 t ht).2 x hx;omega⟩⟩,by have:=h.o;omega⟩
structure Vol (g:Geo) (K:Int) (d:Dk) (s:Stt):Prop where
 gd:∃ F,Gd (A3 g) d F
 an:Bv g s.a=true
 ring:CG g s.txns s.a.seq s.a.pos g.sl=true
 rest:s.only=false/\s.cursor=0/\s.found=0/\s.fixed=0/\s.moved=0/\s.lost=[]
 gen:s.a.gen<=K
 seq:s.a.seq+s.txns.length<=K
 one:∀ t∈s.txns,OneTab t.images
theorem FQ {g:Geo} {a:An} (ha:Bv g a=true):(0<=a.gen/\a.gen<=4294967295)/\(1<=a.seq/\a.seq<=4294967295)/\(0<=a.pos/\a.pos<g.sl)/\(a.homes.length:Int)=g.z:=by
 simp only [Bv,AY,BE,B5,Ad,decide_eq_true_eq,AD] at ha;omega
theorem Kf {g:Geo}:∀ {l:List Tx} {seq pos a b:Int},a<=b->CG g l seq pos a=true->CG g l seq pos b=true
 | [],_,_,_,_,_,_=>rfl
 | t::r,seq,pos,a,b,hab,h=>by
  simp only [CG,Ad,decide_eq_true_eq] at h |-
  obtain⟨⟨h1,h2,h3,h4,h5,h6,h7⟩,h8⟩:=h;exact⟨⟨h1,h2,h3,h4,by omega,h6,h7⟩,Kf (by omega) h8⟩
theorem DP {g:Geo}:∀ {l:List Tx} {seq pos left:Int},CG g l seq pos left=true->∀ t∈l,t.images.all (By g)=true/\t.n=t.images.length+1/\2<=t.n/\t.n<=max left 0
 | t::r,seq,pos,left,h,x,hx=>by
  simp only [CG,Ad,decide_eq_true_eq] at h;obtain⟨⟨h1,h2,h3,h4,h5,h6,h7⟩,h8⟩:=h;rcases Bb.1 hx with rfl | hx
  ·exact⟨h7,h6,h4,by omega⟩
  ·have:=DP h8 x hx;exact⟨this.1,this.2.1,this.2.2.1,by omega⟩
theorem G3 {g:Geo} (hg:Bt g=true) {x:Img} (h:By g x=true):x.bytes.length<=45:=by
 obtain⟨g1,g2,g3,g4,g5⟩:=As.1 hg;by_cases hw:x.what=255
 ·simp only [By,Ad] at h;have h2:=h.2.2;rw [if_pos hw] at h2;by_cases hl:x.bytes.length=9*(g.d+1).toNat
  ·omega
  ·rw [J9 (.inl hl)] at h2;cases h2
 ·have:=(F8 h).2 hw;omega
theorem Vol.st {g:Geo} {K:Int} {d:Dk} {s:Stt} (hg:Bt g=true) (h:Vol g K d s):Lb g d s=true:=by
 obtain⟨F,hF⟩:=h.gd;obtain⟨r1,r2,r3,r4,r5,r6⟩:=h.rest;have hu:=KS hg;have hh:Ef g s=true:=by
  unfold Ef;rw [r3,r4,r5,r6];try rfl
 unfold Lb;rw [hg,Lz.2 hF.ok,decide_eq_true hF.len,h.an,h.ring,r2,hh,decide_eq_true (show (0:Int)<Gh g by omega)];try rfl
theorem Vol.sm {g:Geo} {K:Int} {d:Dk} {s:Stt} (hg:Bt g=true) (h:Vol g K d s):StSm s:=by
 obtain⟨g1,g2,g3,g4,g5⟩:=As.1 hg;have hr:=DP h.ring;have hin:=Gq hg (C7 _) h.ring;have hlen:(s.txns.length:Int)<=30:=by
  have:∀ l:List Tx,(∀ t∈l,2<=t.n)->2*(l.length:Int)<=sumT l:=by
   intro l;induction l with
   | nil=>intro _;simp [sumT]
   | cons t r ih=>
    intro hl;have h1:=hl t (by simp);have h2:=ih fun x hx=>hl x (AZ _ hx)
    rw [sumT,Ap];omega
  have:=this s.txns fun t ht=>(hr t ht).2.2.1
  have:=hin.2;omega
 refine⟨⟨(G9 hg h.an 0 (Aj _)).2.1,fun x hx=>Kv hg h.an x hx⟩,(G9 hg h.an 0 (Aj _)).2.2.2.1,⟨by omega,fun t ht=>?_⟩,by rw [h.rest.2.2.2.2.2];simp⟩;obtain⟨q1,q2,q3,q4⟩:=hr t ht;refine⟨by omega,fun i hi=>?_⟩;have:=G3 hg (Au.1 q1 i hi);omega
theorem Vol.add {g:Geo} {K:Int} {d d':Dk} {s:Stt} (hg:Bt g=true) (h:Vol g K d s) (hK:K<=4294967294) (hd:∃ F,Gd (A3 g) d' F) {x:Tx} (e1:x.seq=s.a.seq+s.txns.length) (e3:x.pos=(s.a.pos+Df s.txns).tmod g.sl) (e4:2<=x.n) (e5:x.n<=g.sl - Df s.txns) (e6:x.n=x.images.length+1) (e7:∀ y∈x.images,By g y=true) (e8:OneTab x.images):Vol g (K+1) d' { s with txns:=s.txns ++ [x] }:=by
 obtain⟨a1,a2,a3,a4⟩:=FQ h.an;have hin:=Gq hg (C7 _) h.ring;rw [Ss hin.1] at e3 e5;have hs:=h.seq;refine⟨hd,h.an,Ke hg a3.1 a3.2 (C7 _) h.ring e1 (by omega) e3 e4 e5 e6 (Au.2 e7),h.rest,by have:=h.gen;show s.a.gen<=K+1;omega,?_,fun t ht=>?_⟩
 ·show s.a.seq+((s.txns ++ [x]).length:Nat)<=K+1;simp only [Ai,Ap,Be];omega
 ·rcases A4.1 ht with q | q
  ·exact h.one t q
  ·rw [AF] at q;exact q ▸ e8
theorem Vol.home {g:Geo} {K:Int} {d d':Dk} {s:Stt} (hg:Bt g=true) {x:Tx} {r:List Tx} (hx:s.txns=x::r) (h:Vol g K d s) (hK:K<=4294967294) (hd:∃ F,Gd (A3 g) d' F):Vol g (K+1) d' { s with a:=OF g s.a x,txns:=r }:=by
 obtain⟨a1,a2,a3,a4⟩:=FQ h.an;have hs:=h.seq;have hgn:=h.gen;have hr:=h.ring;rw [hx,Ap] at hs;rw [hx] at hr;have hin:=(Gq hg (C7 _) hr).1 x (by simp);simp only [CG,Ad,decide_eq_true_eq] at hr;obtain⟨⟨h1,h2,h3,h4,h5,h6,h7⟩,h8⟩:=hr;refine⟨hd,U1 hg h.an (by omega) (by omega) h1 (by omega) (by omega),?_,h.rest,by show s.a.gen+1<=K+1;omega,?_,fun t ht=>h.one t (by rw [hx];exact AZ _ ht)⟩
 ·show CG g r (s.a.seq+1) ((x.pos+x.n).tmod g.sl) g.sl=true;rw [h3];exact Kf (by omega) h8
 ·show s.a.seq+1+(r.length:Int)<=K+1;omega
theorem Ox {g:Geo} {a:An} {w:Wr} (hw:w∈Bg g a):∃ i:Nat,(i:Int)<g.an/\w=⟨(i:Nat),Dj a (i:Nat)⟩:=by
 simp only [Bg,AK,AO] at hw;obtain⟨i,hi,rfl⟩:=hw;exact⟨i,by omega,rfl⟩
def Uz (g:Geo) (a:An) (x:Tx) (F:Int->List UInt8):Int->List UInt8:=RB (RB F (LB g a x.seq x.images)) (Bg g (OF g a x))
def ZW (g:Geo):Stt:=Bl (DH (BZ g ⟨#[]⟩) 0) []
def ab (g:Geo) (a:An) (q:Int):List UInt8:=if q<g.an then Dj a q else GT g ⟨#[]⟩ q
theorem P8 {g:Geo} (hg:Bt g=true) {d:Dk} (h:Holds d (A3 g) (GT g ⟨#[]⟩)) {c:Int} (hc:c=0\/c=1):Bz d (BT g c)=Gm g [] 0 c g.sl.toNat:=by
 rw [Q_ h _ (Tc hg hc)];unfold BT Gm;rw [List.map_map];refine Co fun i hi=>?_
 have hi:=AO.1 hi;show (⟨0,GT g ⟨#[]⟩ (Bj g c (i:Nat))⟩:Gt)=_;rw [LL hc (by omega)];try rfl
theorem U7 {g:Geo} (hg:Bt g=true) {b:An} (hp:b.pos=0) (hl:¬b.seq - 1<b.last) {d:Dk} (h:Holds d (A3 g) (GT g ⟨#[]⟩)):D_ g b (Bz d (BT g 0)) (Bz d (BT g 1))=([], [],0):=by
 obtain⟨g1,g2,g3,g4,g5⟩:=As.1 hg;have hok:LogOk g [] 0:=⟨by simp,by simp,fun s i k _ h=>(nomatch (show (none:Option (Nat × Int))=some (i,k) from h)),fun s _=>HU hg⟩;rw [NF,P8 hg h (.inl rfl),P8 hg h (.inr rfl),RK hg hok (.inl rfl),RK hg hok (.inr rfl)];obtain⟨n,hn⟩:∃ n,g.sl.toNat=n+1:=⟨g.sl.toNat - 1,by omega⟩;have hz:Hh g [] 0 (fun _=>false) 0=some zeroC:=by
  unfold Hh;rw [if_pos (by omega)];try rfl
 have hs:Cc g 0 0=0:=by
  show (IntKind.i64.wrap 0).tmod g.sl=0;rw [show IntKind.i64.wrap 0=0 from rfl,Int.zero_tmod]
 have h0:DI zeroC b b.seq 0 0 g.sl=false:=decide_eq_false fun h=>h.1 rfl
 have hr:(C2 g b (Hh g [] 0 fun _=>false) (Hh g [] 0 fun _=>false) 0 b.seq g.sl 0 0).2.1=2:=by
  show (Cz (Hh g [] 0 (fun _=>false) (Cc g 0 0)) (Hh g [] 0 (fun _=>false) (Cc g 0 0)) (Ed (Hh g [] 0 (fun _=>false) (Cc g 0 0)) b b.seq 0 0 g.sl) (Ed (Hh g [] 0 (fun _=>false) (Cc g 0 0)) b b.seq 0 0 g.sl)).2.2=2;rw [hs,hz];show (Cz (some zeroC) (some zeroC) (DI zeroC b b.seq 0 0 g.sl) (DI zeroC b b.seq 0 0 g.sl)).2.2=2;rw [h0];try rfl
 have ht:(FB g b (Hh g [] 0 fun _=>false) (Hh g [] 0 fun _=>false) 0 b.seq g.sl).1=2:=by
  unfold FB;simp only;rw [if_pos (by rw [hr];decide)];exact hr
 unfold ME;rw [hn,hp,EY];split
 ·simp only;rw [ht,if_neg (by decide),if_pos (by decide),F0 hl]
 ·exact F0 hl
theorem Rg {g:Geo} (hg:Bt g=true) (hb:Bv g (BZ g ⟨#[]⟩)=true) (x:Int):(GT g ⟨#[]⟩ x).length<=200:=by
 unfold GT;split
 ·exact Jq hg hb x
 ·split
  ·exact D4 (HU hg) _ _
  ·split
   ·exact D4 (HU hg) _ _
   ·split
    ·rw [EW,EB];unfold EC;rw [BD];have:=(As.1 hg).2.1;omega
    ·rw [EW];decide
theorem XJ {g:Geo} (hg:Bt g=true) (hb:Bv g (BZ g ⟨#[]⟩)=true):DkOk (GU g ⟨#[]⟩):=by
 have hcb:=HH hg;have h:=Nj (g:=g) (s:=⟨#[]⟩) hg;have hlen:=h.len;refine⟨by omega,by rw [h.cache];simp,by show (0:Int)<=0/\(0:Int)<=_;decide,by show (-1:Int)<= -1/\(-1:Int)<=_;decide,fun c hc=>?_,fun w hw=>by rw [h.cache] at hw;cases hw⟩;obtain⟨i,hi,rfl⟩:=List.getElem_of_mem hc;have hci:=PA (g:=g) (s:=⟨#[]⟩) hg (a:=((i:Nat):Int)) (by omega) (by omega);have e:(GU g ⟨#[]⟩).cells.getD ((i:Nat):Int).toNat cz=(GU g ⟨#[]⟩).cells[i]:=by
  rw [Ab,Aa,Ae hi];try rfl
 rw [e] at hci;rw [hci];exact⟨⟨C7 _,by show (0:Int)<=2;decide⟩,Rg hg hb _,by simp⟩
theorem YD {g:Geo} (hg:Bt g=true) (hb:Bv g (BZ g ⟨#[]⟩)=true) {d:Dk} (h:Holds d (A3 g) (GT g ⟨#[]⟩)):Gu g (Bz d (Dr g))=some (BZ g ⟨#[]⟩,(aa (Gu g (Bz d (Dr g))))):=by
 obtain⟨g1,g2,g3,g4,g5⟩:=As.1 hg;have hcg:=Eg hg;have hsp:=Lt g (Bz d (Dr g)) (Bz d (Dr g)).length;rw [DU,Fj] at hsp;have hsay:∀ i,i<g.an.toNat->E3 g ((Bz d (Dr g)).getD i ⟨0, []⟩) (i:Nat)=some (BZ g ⟨#[]⟩):=fun i hi=>by
  rw [R6 hi,h.got (by omega) (by omega),Sg (by omega)];exact Qz hg hb (by omega)
 have hpk:Gu g (Bz d (Dr g))=ET g (Bz d (Dr g)) g.an.toNat:=by rw [Gu,DU,Fj]
 rw [hpk];cases hP:ET g (Bz d (Dr g)) g.an.toNat with
 | none=>
  have:=hsp.1 hP 0 (by omega);rw [hsay 0 (by omega)] at this;cases this
 | some q=>
  obtain⟨a0,j⟩:=q;obtain⟨q1,q2,q3⟩:=hsp.2 a0 j hP;rw [hsay j q1] at q2;cases q2;rfl
def QO (g:Geo) (c:An) (q:Int):List UInt8:=if q<0 then ((CK (GU g ⟨#[]⟩).cells (Bg g c)).getD (-1 - q).toNat cz).old else ab g c q
theorem Y9 {g:Geo} (hg:Bt g=true):∃ D,Db g (GU g ⟨#[]⟩)=(D,0,ZW g)/\DkOk (GU g ⟨#[]⟩)/\((GU g ⟨#[]⟩).cells.length:Int)=A3 g/\Vol g 2 D (ZW g)/\Gd (A3 g) D (QO g (DH (BZ g ⟨#[]⟩) 0)):=by
 obtain⟨g1,g2,g3,g4,g5⟩:=As.1 hg;have hs:FK (⟨#[]⟩:ByteArray).data.toList=0:=lab_nil;have hf:=Nj (g:=g) (s:=⟨#[]⟩) hg;have hb:=No (g:=g) (s:=⟨#[]⟩) hg hs;have hdk:DkOk (GU g ⟨#[]⟩):=XJ hg hb;have hcg:=Eg hg;have hsc:=U7 hg (b:=BZ g ⟨#[]⟩) rfl (by show ¬(1:Int) - 1<0;decide) hf;have hm:=Pu hg hdk hf.len hf.cache (by show (-1:Int)<0;decide) (YD hg hb hf) hsc (by show (1:Int)≠_;decide) (by show (0:Int)≠_;decide);have hna:=F2 g (DH (BZ g ⟨#[]⟩) ([]:List Tx).length);rw [VB hf _ (fun w hw=>by
  simp only [Bg,AK,AO] at hw;obtain⟨i,hi,rfl⟩:=hw;exact⟨by show (0:Int)<=(i:Nat);omega,by show ((i:Nat):Int)<_;omega⟩),if_neg (by omega),if_neg (by omega)] at hm
 have hD:=S_ hg hdk hf.len;rw [hm] at hD;have hn:=L2 (n:=0) hb (by show (1:Int)≠_;decide) (by show (0:Int)≠_;decide) (by show (1:Int)+0 - 1<=_;decide);have hfin:=Tq (r:=((GU g ⟨#[]⟩).tick (Pt g [])).reqs) (l:=(GU g ⟨#[]⟩).left) hg (c:=DH (BZ g ⟨#[]⟩) ([]:List Tx).length) hf;have hgd:Gd (A3 g) _ (QO g (DH (BZ g ⟨#[]⟩) 0)):=⟨hD.1,rfl,hfin.len,hfin.cache,fun a h0 h1=>by
  unfold QO;rw [if_neg (by omega)];exact hfin.cell a h0 h1,fun a h0 h1=>by
  unfold QO;rw [if_pos (by omega),show -1 - (-1 - a)=a by omega];try rfl⟩
 exact⟨_,hm,hdk,hf.len,⟨⟨_,hgd⟩,hn,rfl,tA,(by show (1:Int)+1<=2;decide),(by show (1:Int)+(0:Nat)<=2;decide),fun t ht=>by cases ht⟩,hgd⟩
structure LogB (l:List Tx):Prop where
 n:l.length<=1000000
 i:∀ t∈l,t.images.length<=1000000/\∀ x∈t.images,x.bytes.length<=1000000000
def Gp (g:Geo) (s:Stt) (F:Int->List UInt8) (z:Int):Option (List Ent):=match CC s.txns z 255 with
 | some p=>BX g p.1.bytes
 | none=>match CO g ⟨0,F (Bx g z 0)⟩ (Bx g z 0) (EI s.a s.txns z) with
  | some t=>some t
  | none=>CO g ⟨0,F (Bx g z 1)⟩ (Bx g z 1) (EI s.a s.txns z)
def Mp (g:Geo) (s:Stt) (F:Int->List UInt8) (t:List Ent) (z w:Int):List UInt8:=match CC s.txns z w with
 | some p=>p.1.bytes
 | none=>(Di ⟨0,F (C3 g s.a z w)⟩ (C3 g s.a z w) (t.getD (Ej g w).toNat ez)).getD []
def Ii (b:List UInt8):List AV:= [bA b]
theorem ConvF.sealTp {fr:Fr} {H:List AB} (i k:Nat) {x z:AV} {t:TypeId} {sz:Nat} {es:List (List AV)} (hx:fget fr i = .tp [x, .ow k es.length,z]) (hk:hget H k=some (.row t sz es)):ConvF fr H ((i, .tp [x, .sl sz es.length fun j=>es.getD j [],z])::fr) (H.set k .dead):=fun _ _ c _ _ hs hf=>by
 rw [hget_eq] at hk;obtain⟨c1,e1,s1,x1,r1⟩:=hs.freeze hk;refine⟨c1,e1,s1,(hf.ext x1).cons i _ ?_,x1⟩;have h0:=hf.get i;have h1:=(hf.ext x1).get i;rw [hx] at h0 h1;simp only [Rd] at h0 h1;obtain⟨us,e,h0⟩:=h0;obtain⟨us',e',h1⟩:=h1;have eu:us'=us:=by
  have:=e.symm.trans e';injection this with this
  simpa using this.symm
 subst eu;obtain⟨y1,l1,rfl,a1,y2,l2,rfl,a2,y3,l3,rfl,a3,rfl⟩:=h0;obtain⟨z1,m1,q1,b1,z2,m2,q2,b2,z3,m3,q3,b3,q4⟩:=h1;subst q2 q3 q4;simp only [List.cons.injEq,and_true] at q1;obtain⟨rfl,rfl,rfl⟩:=q1;simp only [Rd];exact⟨_,e,_,_,rfl,b1,_,_,rfl,r1 _ a2,_,_,rfl,b3,rfl⟩
theorem EM {L:List (List UInt8)} {n:Nat} {es:List (List AV)} (hn:n=L.length) (he:es=L.map Ii) (c:Ctx) (v:Value) (h:Rd (.sl 1 n fun i=>es.getD i []) c v):Rd (Gk L) c v:=B3 (f:=Ii) L hn he c v h
def XF (g:Geo) (s:Stt) (F:Int->List UInt8) (t:List Ent) (z:Int) (k:Nat):List (List UInt8):=(List.range k).map fun i=>Mp g s F t z (i:Nat)
def EJ (g:Geo) (s:Stt) (F:Int->List UInt8) (t:List Ent) (z:Int):List (List UInt8):=XF g s F t z g.d.toNat ++ [Mp g s F t z (-1)]
theorem RE {g:Geo} {s:Stt} {F:Int->List UInt8} {z:Int} {t:List Ent} (h:Gp g s F z=some t):F7 g t=true:=by
 have hr:∀ {b:List UInt8} {t:List Ent},BX g b=some t->F7 g t=true:=fun {b t} h=>by
  unfold BX at h;split at h
  ·rename_i hh;obtain rfl:=Option.some.inj h;exact hh.1
  ·cases h
 have ho:∀ {x:Gt} {a r:Int} {t:List Ent},CO g x a r=some t->F7 g t=true:=fun {x a r t} h=>by
  unfold CO at h;split at h
  ·split at h
   ·exact hr h
   ·cases h
  ·cases h
 unfold Gp at h;split at h
 ·exact hr h
 ·split at h
  ·rename_i hh;obtain rfl:=Option.some.inj h;exact ho hh
  ·exact ho h
theorem GM {g:Geo} {t:List Ent} (h:F7 g t=true):(t.length:Int)=g.d+1:=by
 unfold F7 at h
 grind
theorem I_ {g:Geo} {s:Stt} {F:Int->List UInt8} {t:List Ent} {z w:Int} (hi:∀ t∈s.txns,∀ x∈t.images,By g x=true) (hw:w≠255):(Mp g s F t z w).length=0\/(Mp g s F t z w).length=8:=by
 unfold Mp;split
 ·rename_i p hp;obtain⟨x,q⟩:=p;obtain⟨t',ht, -,hx, -,e⟩:=G5 (Ag _) hp;exact .inr ((F8 (hi t' ht x hx)).2 (by rw [e];exact hw)).2.2
 ·unfold Di;split
  ·split
   ·rename_i h;exact .inr h.2.1
   ·exact .inl rfl
  ·exact .inl rfl
theorem Fx {L:List Int} {n:Nat} {es:List (List AV)} (hn:n=L.length) (he:es=L.map fun x=> [AV.v (.int .i64 x)]) (c:Ctx) (v:Value) (h:Rd (.sl 1 n fun i=>es.getD i []) c v):Rd (iA L) c v:=B3 (f:=fun x=> [AV.v (.int .i64 x)]) L hn he c v h
def Jg (g:Geo) (s:Stt) (F:Int->List UInt8) (seq lba:Int) (b:List UInt8):List Img:=match Gp g s F (lba.tdiv g.d) with
 | some t=>Ch (lba.tdiv g.d) (B8 g t (EJ g s F t (lba.tdiv g.d)) [lba.tmod g.d] [b] seq) (EQ g t (EJ g s F t (lba.tdiv g.d)) [lba.tmod g.d] [b] g.d.toNat) [lba.tmod g.d] [b]
 | none=> []
theorem Xd {L L':List Img} {n:Nat} (e:L=L') (hn:n=L'.length) (c:Ctx) (v:Value) (h:Rd (.sl 3 n fun j=>((List.range L'.length).map fun i=>Dz (L'.getD i ⟨0,0, []⟩)).getD j []) c v):Rd (En L) c v:=by
 subst e;refine zH hn (fun i hi=>?_) h;have:i<L.length:=by omega
 simp [this]
theorem NQ {g:Geo} {seq epoch:Int} {x:Img} (hg:Bt g=true) (h2:C0 seq 0 4294967295=true) (h3:C0 epoch 0 4294967295=true) (h7:By g x=true) {k n:Nat} (hk:k<n) (hn:n=3):DX g ⟨1,seq,epoch,(k:Nat),n+1,x⟩=true:=by
 simp only [DX,hg,Eo,EU,h2,h3,h7,BA,B5];simp only [if_neg (show ¬(1:Int)=0 by omega),if_true,Ad,AD];omega
theorem NP {g:Geo} {seq epoch:Int} (hg:Bt g=true) (h2:C0 seq 0 4294967295=true) (h3:C0 epoch 0 4294967295=true) {n:Nat} (hn:n=3):DX g ⟨2,seq,epoch,(n:Nat),n+1,noImg⟩=true:=by
 subst hn;simp only [DX,hg,Eo,EU,h2,h3,BA];simp only [if_neg (show ¬(2:Int)=0 by omega),if_neg (show ¬(2:Int)=1 by omega),if_true,Ad,AD,beq_iff_eq,FG,noImg];simp
@[reducible] def rwQ (g:Geo) (a:An) (l:List Tx) (x:Tx) (d:Dk):List AB:= [.box 83 (ZF g (.bp 1 0) (.ow 4 a.homes.length) (.ow 5 (l.length+1)) (Bl a l) 0), .box 85 (HG (.ow 2 d.cells.length) (.ow 6 d.cache.length) d.reqs d.left), .row 128 3 (d.cells.map B4), .dead, .row 177 3 (a.homes.map Jv), .row 112 4 (l.map Ei ++ [Ei x]), .row 134 2 (d.cache.map DZ)]
def IB (g:Geo) (a:An) (l:List Tx) (F:Int->List UInt8) (lba:Int) (b:List UInt8):Tx:=⟨a.seq+(l.length:Int),(a.pos+Df l).tmod g.sl,4,Jg g (Bl a l) F (a.seq+(l.length:Int)) lba b⟩
theorem in01:(0:Int)<=((0:Nat):Int)/\((0:Nat):Int)<((1:Nat):Int):=by decide
def ZM (A:Int) (p:Bool):AV:=match p with
 | true=>iA [A]
 | false=> .v (.slice none 0 0)
def ah (b:List UInt8) (p:Bool):AV:=match p with
 | true=>Gk [b]
 | false=> .v (.slice none 0 0)
def Zu (L:List Img) (p:Bool):AV:=match p with
 | true=>En L
 | false=> .v (.slice none 0 0)
def YW (b:Bool):List AV:= [.v (.bool b)]
def Z3 (l:List Bool):AV:= .sl 1 l.length fun i=>YW (l.getD i false)
theorem YV {L:List Bool} {n:Nat} {es:List (List AV)} (hn:n=L.length) (he:es=L.map YW) (c:Ctx) (v:Value) (h:Rd (.sl 1 n fun i=>es.getD i []) c v):Rd (Z3 L) c v:=B3 (f:=YW) L hn he c v h
theorem Cd {l:List Nat} {m:Nat} (h:(l.all fun z=>Nat.ble (z+1) m)=true):∀ z∈l,z<m:=fun z hz=>Ah (Au.1 h z hz)
section
variable {g:Geo} {t:List Ent} {had:List (List UInt8)} {A:Int} {b:List UInt8} {stamp:Int}
end

end
section
open Go.RowKit Go.Shelf
attribute [local go_sem] Oper.semAt_some

theorem Wv (F:Fence) (n:Nat) (h7:F.fn 255) (hro:F.round=none) (hn:1<=n) (l Bs n₀ b off len cap:Nat) (X0 X1 X2 X3:Nat->Value) (hlen:len<=1000000000) (hb:b<n₀) (hBn:Bs<n₀) (J Jx:List Nat->World->Prop)
  (hY:∀ pre x W,J pre W->pre.length<len->x<len->YieldAt F (n - 1) Tryz.prog l #[.int .i64 (x:Nat), .agg #[X0 x,X1 x,X2 x,X3 x]] W fun e W'=>
   (e = .returned (.bool true)/\J (pre ++ [x]) W'/\Below n₀ W W')\/(e = .returned (.bool false)/\Jx (pre ++ [x]) W'))
  (W:World) (hBs:W.cell? ⟨Bs,0,none⟩=some (.slice (some ⟨b,off,none⟩) len cap)) (hc0:∀ j,j<len->W.cell? ⟨b,off+j*4,none⟩=some (X0 j)) (hc1:∀ j,j<len->W.cell? ⟨b,off+j*4+1,none⟩=some (X1 j)) (hc2:∀ j,j<len->W.cell? ⟨b,off+j*4+2,none⟩=some (X2 j)) (hc3:∀ j,j<len->W.cell? ⟨b,off+j*4+3,none⟩=some (X3 j)) (h0:J [] W) :
  CallsIn F n Tryz.prog 255 #[.func (.yield l) #[] #[], .pointer (some ⟨Bs,0,none⟩)] W fun e W'=>(∃ v,e = .returned v)/\
   ((∃ ys,ys=Dd len len/\J ys W')\/(∃ pre,(∃ k,k<=len/\pre=Dd len k)/\Jx pre W')):=by
 have Hc0:=Lib.hid hc0;have Hc1:=Lib.hid hc1;have Hc2:=Lib.hid hc2;have Hc3:=Lib.hid hc3;clear hc0 hc1 hc2 hc3;refine callsIn_of_wp Tryz.func255 rfl h7 ?_ hro;simp only [Tryz.ntmps255,BR,Ap,Be,Nat.reduceAdd,Nat.reduceSub,CS,CR,D5,C_,Bu,Bn]
 gi_wp2
 gi_loopw [3] (fun i wr=>∃ k:Nat,k<=len/\i = .int .i64 ((len:Int) - 1 - k)/\J (Dd len k) wr/\Below n₀ W wr)
  (fun i _=>(intOf i+1).toNat)
 case atStart=>exact⟨0,Aj _,by simp,h0,Below.refl _ _⟩
 case round=>
  obtain⟨k,hk,rfl,hJs,hnx⟩:=hrel;by_cases hlt:k<len
  ·obtain⟨m,hmk⟩:∃ m,len=k+1+m:=⟨len - (k+1),by omega⟩;rw [show (len:Int) - 1 - k=(m:Int) by omega];obtain⟨fn,tmps,assign,body,hy,hR⟩:=hY _ m wr hJs (by rw [G_];exact hlt) (by omega);have e0:=(hnx.cell (p:=⟨b,off+m*4,none⟩) hb).trans (Hc0.out m (by omega));have e1:=(hnx.cell (p:=⟨b,off+m*4+1,none⟩) hb).trans (Hc1.out m (by omega));have e2:=(hnx.cell (p:=⟨b,off+m*4+2,none⟩) hb).trans (Hc2.out m (by omega));have e3:=(hnx.cell (p:=⟨b,off+m*4+3,none⟩) hb).trans (Hc3.out m (by omega));have eb:=(hnx.cell (p:=⟨Bs,0,none⟩) hBn).trans hBs;have hm:(m:Int)<(len:Int):=by omega
   have Hm:=Lib.hid hmk;clear hmk
   gi_wp2
   refine hR.mono ?_;rintro e W3 (⟨rfl,hJ3,hk3⟩ | ⟨rfl,hJx3⟩)
   ·gi_wp2
    go_roundw
    case rel=>exact⟨k+1,by omega,congrArg (Value.int .i64) (by have:=Hm.out;omega),by rw [Fi,show len - 1 - k=m by have:=Hm.out;omega];exact hJ3,hnx.trans hk3⟩
    case measure=>simp [intOf]
   ·gi_wp2
    refine bodyPost_ret (results_none rfl _ _ _) rfl ?_;exact⟨⟨_,rfl⟩, .inr ⟨_,⟨k+1,by omega,by rw [Fi,show len - 1 - k=m by have:=Hm.out;omega]⟩,hJx3⟩⟩
  ·obtain rfl:k=len:=by omega
   rw [show ((k:Nat):Int) - 1 - k = -1 by omega]
   gi_wp2
   go_end0
   exact⟨⟨_,rfl⟩, .inl ⟨_,rfl,hJs⟩⟩

theorem Ww (F:Fence) (n:Nat) (h7:F.fn 255) (hro:F.round=none) (l Bs:Nat) (a:Option Addr) (cap:Nat) (J:List Nat->World->Prop) (W:World) (hBs:W.cell? ⟨Bs,0,none⟩=some (.slice a 0 cap)) (h0:J [] W) :
  CallsIn F n Tryz.prog 255 #[.func (.yield l) #[] #[], .pointer (some ⟨Bs,0,none⟩)] W fun e W'=>(∃ v,e = .returned v)/\J [] W':=by
 refine callsIn_of_wp Tryz.func255 rfl h7 ?_ hro;simp only [Tryz.ntmps255,BR,Ap,Be,Nat.reduceAdd,Nat.reduceSub,CS,CR,D5,C_,Bu,Bn]
 gi_wp2
 gi_loopw [3] (fun i wr=>i = .int .i64 (-1)/\J [] wr) (fun _ _=>0)
 case atStart=>exact⟨rfl,h0⟩
 case round=>
  obtain⟨rfl,hJs⟩:=hrel
  gi_wp2
  go_end0
  exact⟨⟨_,rfl⟩,hJs⟩

theorem Rz (F:Fence) (n:Nat) (h7:F.fn 255) (hro:F.round=none) (hn:1<=n) (Bs n₀:Nat) (a:Option Addr) (len cap:Nat) (X0 X1 X2 X3:Nat->Value) (hlen:len<=1000000000) (w:World) (hBs:Bs<n₀) (hn₀:n₀<=w.heap.size)
  (hc:w.cell? ⟨Bs,0,none⟩=some (.slice a len cap)) (hI:0<len->∃ b off,a=some ⟨b,off,none⟩/\b<n₀/\∀ j,j<len->w.cell? ⟨b,off+j*4,none⟩=some (X0 j)/\w.cell? ⟨b,off+j*4+1,none⟩=some (X1 j)/\w.cell? ⟨b,off+j*4+2,none⟩=some (X2 j)/\w.cell? ⟨b,off+j*4+3,none⟩=some (X3 j)) :
  SeqStopsK F n Tryz.prog 255 #[.pointer (some ⟨Bs,0,none⟩)] (fun x:Fin len=> #[Value.int .i64 x.val, .agg #[X0 x,X1 x,X2 x,X3 x]]) (Below n₀) (fun ys=>ys.map Fin.val=Dd len len) (fun pre=>∃ k,k<=len/\pre.map Fin.val=Dd len k) len w:=fun l J Jx W hW _ _ hY h0=>by
 have hc':=(hW.cell (p:=⟨Bs,0,none⟩) (by show Bs<_;omega)).trans hc;rcases Nat.eq_zero_or_pos len with rfl | hp
 ·exact(Ww F n h7 hro l Bs a cap (fun _ W=>J [] W) W hc' h0).mono fun e W' ⟨he,hj⟩=>⟨he, .inl ⟨[],rfl,hj⟩⟩
 ·obtain⟨b,off,rfl,hb,hj⟩:=hI hp;refine(Wv F n h7 hro hn l Bs n₀ b off len cap X0 X1 X2 X3 hlen hb hBs (fun pre W=>∃ q:List (Fin len),q.map Fin.val=pre/\J q W) (fun pre W=>∃ q:List (Fin len),q.map Fin.val=pre/\Jx q W) ?_ W hc' (fun j h=>(hW.cell (p:=⟨b,off+j*4,none⟩) (by show b<_;omega)).trans (hj j h).1) (fun j h=>(hW.cell (p:=⟨b,off+j*4+1,none⟩) (by show b<_;omega)).trans (hj j h).2.1) (fun j h=>(hW.cell (p:=⟨b,off+j*4+2,none⟩) (by show b<_;omega)).trans (hj j h).2.2.1) (fun j h=>(hW.cell (p:=⟨b,off+j*4+3,none⟩) (by show b<_;omega)).trans (hj j h).2.2.2) ⟨[],rfl,h0⟩).mono ?_
  ·rintro pre x W1 ⟨q,hq,hJ⟩ hlt hx;obtain⟨fn,tmps,assign,body,hy,hR⟩:=hY q ⟨x,hx⟩ W1 hJ (by rw [<-hq,Ac] at hlt;exact hlt);refine⟨fn,tmps,assign,body,hy,hR.mono ?_⟩;rintro e W' (⟨he,h1,h2⟩ | ⟨he,h1⟩)
   ·exact .inl ⟨he,⟨_,by simp [hq],h1⟩,h2⟩
   ·exact .inr ⟨he,⟨_,by simp [hq],h1⟩⟩
  ·rintro e W' ⟨he,⟨ys,rfl,q,hq,hJ⟩ | ⟨pre,⟨k,hk,rfl⟩,q,hq,hJ⟩⟩
   ·exact⟨he, .inl ⟨q,hq,hJ⟩⟩
   ·exact⟨he, .inr ⟨q,⟨k,hk,hq⟩,hJ⟩⟩

theorem bktx_is:IsBack Tryz.prog 255 4:=by
 refine⟨enters_of Tryz.func255 (by kernel_rfl) rfl,fun m hm B a len cap X w hlen hc hl hI=>?_⟩;have e:(fun x:Fin len=>(#[Value.int .i64 x.val, .agg (X x.val).toArray]:Array Value))=fun x:Fin len=> #[Value.int .i64 x.val, .agg #[(X x.val).getD 0 undef,(X x.val).getD 1 undef,(X x.val).getD 2 undef,(X x.val).getD 3 undef]]:=by
  funext x;have:=hl x.val;match h:X x.val with
  | [u0,u1,u2,u3]=>rfl
  | []=>rw [h] at this;simp at this
  | [_]=>rw [h] at this;simp at this
  | [_,_]=>rw [h] at this;simp at this
  | [_,_,_]=>rw [h] at this;simp at this
  | _::_::_::_::_::_=>rw [h] at this;simp at this
 rw [e];refine Rz Fence.wide m trivial rfl hm B w.heap.size a len cap (fun j=>(X j).getD 0 undef) (fun j=>(X j).getD 1 undef) (fun j=>(X j).getD 2 undef) (fun j=>(X j).getD 3 undef) hlen w (World.block_lt_of_cell? w _ hc) (Ag _) hc fun hp=>?_
 obtain⟨b,off,h1,h2,h3⟩:=hI hp;refine⟨b,off,h1,h2,fun j hj=>?_⟩;have h4:=hl j;match h:X j with
 | [u0,u1,u2,u3]=>exact⟨h3 j hj 0 u0 (by rw [h];rfl),h3 j hj 1 u1 (by rw [h];rfl),h3 j hj 2 u2 (by rw [h];rfl),h3 j hj 3 u3 (by rw [h];rfl)⟩
 | []=>rw [h] at h4;simp at h4
 | [_]=>rw [h] at h4;simp at h4
 | [_,_]=>rw [h] at h4;simp at h4
 | [_,_,_]=>rw [h] at h4;simp at h4
 | _::_::_::_::_::_=>rw [h] at h4;simp at h4

theorem Wx (F:Fence) (n:Nat) (h7:F.fn 256) (hro:F.round=none) (hn:1<=n) (l Bs n₀ b off len cap:Nat) (X0 X1 X2:Nat->Value) (hlen:len<=1000000000) (hb:b<n₀) (hBn:Bs<n₀) (J Jx:List Nat->World->Prop)
  (hY:∀ pre x W,J pre W->pre.length<len->x<len->YieldAt F (n - 1) Tryz.prog l #[.int .i64 (x:Nat), .agg #[X0 x,X1 x,X2 x]] W fun e W'=>
   (e = .returned (.bool true)/\J (pre ++ [x]) W'/\Below n₀ W W')\/(e = .returned (.bool false)/\Jx (pre ++ [x]) W'))
  (W:World) (hBs:W.cell? ⟨Bs,0,none⟩=some (.slice (some ⟨b,off,none⟩) len cap)) (hc0:∀ j,j<len->W.cell? ⟨b,off+j*3,none⟩=some (X0 j)) (hc1:∀ j,j<len->W.cell? ⟨b,off+j*3+1,none⟩=some (X1 j)) (hc2:∀ j,j<len->W.cell? ⟨b,off+j*3+2,none⟩=some (X2 j)) (h0:J [] W) :
  CallsIn F n Tryz.prog 256 #[.func (.yield l) #[] #[], .pointer (some ⟨Bs,0,none⟩)] W fun e W'=>(∃ v,e = .returned v)/\
   ((∃ ys,ys=Dd len len/\J ys W')\/(∃ pre,(∃ k,k<=len/\pre=Dd len k)/\Jx pre W')):=by
 have Hc0:=Lib.hid hc0;have Hc1:=Lib.hid hc1;have Hc2:=Lib.hid hc2;clear hc0 hc1 hc2;refine callsIn_of_wp Tryz.func256 rfl h7 ?_ hro;simp only [Tryz.ntmps256,BR,Ap,Be,Nat.reduceAdd,Nat.reduceSub,CS,CR,D5,C_,Bu,Bn]
 gi_wp2
 gi_loopw [3] (fun i wr=>∃ k:Nat,k<=len/\i = .int .i64 ((len:Int) - 1 - k)/\J (Dd len k) wr/\Below n₀ W wr)
  (fun i _=>(intOf i+1).toNat)
 case atStart=>exact⟨0,Aj _,by simp,h0,Below.refl _ _⟩
 case round=>
  obtain⟨k,hk,rfl,hJs,hnx⟩:=hrel;by_cases hlt:k<len
  ·obtain⟨m,hmk⟩:∃ m,len=k+1+m:=⟨len - (k+1),by omega⟩;rw [show (len:Int) - 1 - k=(m:Int) by omega];obtain⟨fn,tmps,assign,body,hy,hR⟩:=hY _ m wr hJs (by rw [G_];exact hlt) (by omega);have e0:=(hnx.cell (p:=⟨b,off+m*3,none⟩) hb).trans (Hc0.out m (by omega));have e1:=(hnx.cell (p:=⟨b,off+m*3+1,none⟩) hb).trans (Hc1.out m (by omega));have e2:=(hnx.cell (p:=⟨b,off+m*3+2,none⟩) hb).trans (Hc2.out m (by omega));have eb:=(hnx.cell (p:=⟨Bs,0,none⟩) hBn).trans hBs;have hm:(m:Int)<(len:Int):=by omega
   have Hm:=Lib.hid hmk;clear hmk
   gi_wp2
   refine hR.mono ?_;rintro e W3 (⟨rfl,hJ3,hk3⟩ | ⟨rfl,hJx3⟩)
   ·gi_wp2
    go_roundw
    case rel=>exact⟨k+1,by omega,congrArg (Value.int .i64) (by have:=Hm.out;omega),by rw [Fi,show len - 1 - k=m by have:=Hm.out;omega];exact hJ3,hnx.trans hk3⟩
    case measure=>simp [intOf]
   ·gi_wp2
    refine bodyPost_ret (results_none rfl _ _ _) rfl ?_;exact⟨⟨_,rfl⟩, .inr ⟨_,⟨k+1,by omega,by rw [Fi,show len - 1 - k=m by have:=Hm.out;omega]⟩,hJx3⟩⟩
  ·obtain rfl:k=len:=by omega
   rw [show ((k:Nat):Int) - 1 - k = -1 by omega]
   gi_wp2
   go_end0
   exact⟨⟨_,rfl⟩, .inl ⟨_,rfl,hJs⟩⟩

theorem Wy (F:Fence) (n:Nat) (h7:F.fn 256) (hro:F.round=none) (l Bs:Nat) (a:Option Addr) (cap:Nat) (J:List Nat->World->Prop) (W:World) (hBs:W.cell? ⟨Bs,0,none⟩=some (.slice a 0 cap)) (h0:J [] W) :
  CallsIn F n Tryz.prog 256 #[.func (.yield l) #[] #[], .pointer (some ⟨Bs,0,none⟩)] W fun e W'=>(∃ v,e = .returned v)/\J [] W':=by
 refine callsIn_of_wp Tryz.func256 rfl h7 ?_ hro;simp only [Tryz.ntmps256,BR,Ap,Be,Nat.reduceAdd,Nat.reduceSub,CS,CR,D5,C_,Bu,Bn]
 gi_wp2
 gi_loopw [3] (fun i wr=>i = .int .i64 (-1)/\J [] wr) (fun _ _=>0)
 case atStart=>exact⟨rfl,h0⟩
 case round=>
  obtain⟨rfl,hJs⟩:=hrel
  gi_wp2
  go_end0
  exact⟨⟨_,rfl⟩,hJs⟩

theorem R0 (F:Fence) (n:Nat) (h7:F.fn 256) (hro:F.round=none) (hn:1<=n) (Bs n₀:Nat) (a:Option Addr) (len cap:Nat) (X0 X1 X2:Nat->Value) (hlen:len<=1000000000) (w:World) (hBs:Bs<n₀) (hn₀:n₀<=w.heap.size)
  (hc:w.cell? ⟨Bs,0,none⟩=some (.slice a len cap)) (hI:0<len->∃ b off,a=some ⟨b,off,none⟩/\b<n₀/\∀ j,j<len->w.cell? ⟨b,off+j*3,none⟩=some (X0 j)/\w.cell? ⟨b,off+j*3+1,none⟩=some (X1 j)/\w.cell? ⟨b,off+j*3+2,none⟩=some (X2 j)) :
  SeqStopsK F n Tryz.prog 256 #[.pointer (some ⟨Bs,0,none⟩)] (fun x:Fin len=> #[Value.int .i64 x.val, .agg #[X0 x,X1 x,X2 x]]) (Below n₀) (fun ys=>ys.map Fin.val=Dd len len) (fun pre=>∃ k,k<=len/\pre.map Fin.val=Dd len k) len w:=fun l J Jx W hW _ _ hY h0=>by
 have hc':=(hW.cell (p:=⟨Bs,0,none⟩) (by show Bs<_;omega)).trans hc;rcases Nat.eq_zero_or_pos len with rfl | hp
 ·exact(Wy F n h7 hro l Bs a cap (fun _ W=>J [] W) W hc' h0).mono fun e W' ⟨he,hj⟩=>⟨he, .inl ⟨[],rfl,hj⟩⟩
 ·obtain⟨b,off,rfl,hb,hj⟩:=hI hp;refine(Wx F n h7 hro hn l Bs n₀ b off len cap X0 X1 X2 hlen hb hBs (fun pre W=>∃ q:List (Fin len),q.map Fin.val=pre/\J q W) (fun pre W=>∃ q:List (Fin len),q.map Fin.val=pre/\Jx q W) ?_ W hc' (fun j h=>(hW.cell (p:=⟨b,off+j*3,none⟩) (by show b<_;omega)).trans (hj j h).1) (fun j h=>(hW.cell (p:=⟨b,off+j*3+1,none⟩) (by show b<_;omega)).trans (hj j h).2.1) (fun j h=>(hW.cell (p:=⟨b,off+j*3+2,none⟩) (by show b<_;omega)).trans (hj j h).2.2) ⟨[],rfl,h0⟩).mono ?_
  ·rintro pre x W1 ⟨q,hq,hJ⟩ hlt hx;obtain⟨fn,tmps,assign,body,hy,hR⟩:=hY q ⟨x,hx⟩ W1 hJ (by rw [<-hq,Ac] at hlt;exact hlt);refine⟨fn,tmps,assign,body,hy,hR.mono ?_⟩;rintro e W' (⟨he,h1,h2⟩ | ⟨he,h1⟩)
   ·exact .inl ⟨he,⟨_,by simp [hq],h1⟩,h2⟩
   ·exact .inr ⟨he,⟨_,by simp [hq],h1⟩⟩
  ·rintro e W' ⟨he,⟨ys,rfl,q,hq,hJ⟩ | ⟨pre,⟨k,hk,rfl⟩,q,hq,hJ⟩⟩
   ·exact⟨he, .inl ⟨q,hq,hJ⟩⟩
   ·exact⟨he, .inr ⟨q,⟨k,hk,hq⟩,hJ⟩⟩

theorem bkim_is:IsBack Tryz.prog 256 3:=by
 refine⟨enters_of Tryz.func256 (by kernel_rfl) rfl,fun m hm B a len cap X w hlen hc hl hI=>?_⟩;have e:(fun x:Fin len=>(#[Value.int .i64 x.val, .agg (X x.val).toArray]:Array Value))=fun x:Fin len=> #[Value.int .i64 x.val, .agg #[(X x.val).getD 0 undef,(X x.val).getD 1 undef,(X x.val).getD 2 undef]]:=by
  funext x;have:=hl x.val;match h:X x.val with
  | [u0,u1,u2]=>rfl
  | []=>rw [h] at this;simp at this
  | [_]=>rw [h] at this;simp at this
  | [_,_]=>rw [h] at this;simp at this
  | _::_::_::_::_=>rw [h] at this;simp at this
 rw [e];refine R0 Fence.wide m trivial rfl hm B w.heap.size a len cap (fun j=>(X j).getD 0 undef) (fun j=>(X j).getD 1 undef) (fun j=>(X j).getD 2 undef) hlen w (World.block_lt_of_cell? w _ hc) (Ag _) hc fun hp=>?_
 obtain⟨b,off,h1,h2,h3⟩:=hI hp;refine⟨b,off,h1,h2,fun j hj=>?_⟩;have h4:=hl j;match h:X j with
 | [u0,u1,u2]=>exact⟨h3 j hj 0 u0 (by rw [h];rfl),h3 j hj 1 u1 (by rw [h];rfl),h3 j hj 2 u2 (by rw [h];rfl)⟩
 | []=>rw [h] at h4;simp at h4
 | [_]=>rw [h] at h4;simp at h4
 | [_,_]=>rw [h] at h4;simp at h4
 | _::_::_::_::_=>rw [h] at h4;simp at h4

end
section
open Go.RowKit
def Fz (l:List Img) (z w:Int):Nat->Option Nat
 | 0=>none
 | k+1=>if (l.getD k iz).zone=z/\(l.getD k iz).what=w then some k else Fz l z w k
def Hj (l:List Tx) (z w:Int):Nat->Option (Nat × Nat)
 | 0=>none
 | k+1=>match Fz (l.getD k tz).images z w (l.getD k tz).images.length with
  | some i=>some (k,i)
  | none=>Hj l z w k
theorem Si (l:List Img) (z w:Int):∀ k,D3 l z w k=(Fz l z w k).map fun i=>l.getD i iz
 | 0=>rfl
 | k+1=>by
  rw [D3,Fz,Si l z w k];split <;> rfl
theorem Oj (l:List Tx) (z w:Int):∀ k,FN l z w k=(Hj l z w k).map fun p=>((l.getD p.1 tz).images.getD p.2 iz,(l.getD p.1 tz).seq)
 | 0=>rfl
 | k+1=>by
  rw [FN,Hj,Si];cases Fz (l.getD k tz).images z w (l.getD k tz).images.length with
  | some i=>rfl
  | none=>exact Oj l z w k
theorem LT {l:List Img} {z w:Int}:∀ {k:Nat},Fz l z w k=none->∀ j,j<k->¬((l.getD j iz).zone=z/\(l.getD j iz).what=w)
 | k+1,h,j,hj=>by
  rw [Fz] at h;split at h
  ·cases h
  ·rename_i hc;rcases Nat.lt_succ_iff_lt_or_eq.1 hj with q | rfl
   ·exact LT h j q
   ·exact hc
theorem Nr {l:List Img} {z w:Int} {j:Nat} (h:(l.getD j iz).zone=z/\(l.getD j iz).what=w):∀ (k:Nat),j<k->(∀ i,j<i->i<k->¬((l.getD i iz).zone=z/\(l.getD i iz).what=w))->Fz l z w k=some j
 | k+1,hj,hn=>by
  rw [Fz];by_cases e:j=k
  ·subst e;rw [if_pos h]
  ·rw [if_neg (hn k (by omega) (by omega))];exact Nr h k (by omega) fun i q1 q2=>hn i q1 (by omega)
theorem LU {l:List Img} {z w:Int} {j:Nat}:∀ {k:Nat},Fz l z w k=some j->j<k/\(l.getD j iz).zone=z/\(l.getD j iz).what=w
 | k+1,h=>by
  rw [Fz] at h;split at h
  ·rename_i hc;obtain rfl:=Option.some.inj h;exact⟨by omega,hc⟩
  ·have:=LU h;exact⟨by omega,this.2⟩
theorem Ns {l:List Tx} {z w:Int} {j i:Nat} (h:Fz (l.getD j tz).images z w (l.getD j tz).images.length=some i):∀ (k:Nat),j<k->(∀ q,j<q->q<k->Fz (l.getD q tz).images z w (l.getD q tz).images.length=none)->Hj l z w k=some (j,i)
 | k+1,hj,hn=>by
  rw [Hj];by_cases e:j=k
  ·subst e;rw [h]
  ·rw [hn k (by omega) (by omega)];exact Ns h k (by omega) fun q q1 q2=>hn q q1 (by omega)
theorem LV {l:List Tx} {z w:Int}:∀ (k:Nat),(∀ q,q<k->Fz (l.getD q tz).images z w (l.getD q tz).images.length=none)->Hj l z w k=none
 | 0,_=>rfl
 | k+1,hn=>by
  rw [Hj,hn k (by omega)];exact LV k fun q hq=>hn q (by omega)
theorem LW {l:List Tx} {z w:Int} {p:Nat × Nat}:∀ {k:Nat},Hj l z w k=some p->p.1<k/\p.2<(l.getD p.1 tz).images.length
 | k+1,h=>by
  rw [Hj] at h;split at h
  ·rename_i i hi;obtain rfl:=Option.some.inj h;exact⟨Nat.lt_succ_self k,(LU hi).1⟩
  ·have:=LW h;exact⟨by omega,this.2⟩
theorem Wu (a:Option Addr) (len cap:Nat) (w:World) :
  Calls Tryz.prog 220 #[.slice a len cap] w fun e w'=>e = .returned (.func (.func 255) #[] #[.pointer (some ⟨w.heap.size,0,none⟩)])/\w.alloc (.cells #[.slice a len cap] 34)=w':=by
 go_enter Tryz.func220,Tryz.ntmps220
 go_wp2
 go_ret
 exact tA
theorem P_ (a:Option Addr) (len cap:Nat) (w:World) :
  Calls Tryz.prog 221 #[.slice a len cap] w fun e w'=>e = .returned (.func (.func 256) #[] #[.pointer (some ⟨w.heap.size,0,none⟩)])/\w.alloc (.cells #[.slice a len cap] 110)=w':=by
 go_enter Tryz.func221,Tryz.ntmps221
 go_wp2
 go_ret
 exact tA
theorem Ou {P:Program} {f g:FuncId} {t:TypeId} (hg:WI P f) (h:∀ a len cap w,Calls P f #[.slice a len cap] w fun e w'=>e = .returned (.func (.func g) #[] #[.pointer (some ⟨w.heap.size,0,none⟩)])/\w.alloc (.cells #[.slice a len cap] t)=w') (x:AV) (Hin:List AB) (hx:∀ c u,Rd x c u->∃ a len cap,u = .slice a len cap):ACalls P false f [x] Hin fun r H=>r = .fn g [.bp Hin.length 0]/\H=Hin ++ [.box t [x]]:=by
 refine⟨hg,fun w0 M0 c us hs hr=>?_⟩;have hr0:=hr;simp only [RdL] at hr;obtain⟨u,_,rfl,hu,rfl⟩:=hr;obtain⟨a,len,cap,rfl⟩:=hx _ _ hu;obtain⟨c',e1,e2,e3,e4⟩:=hs.box t hr0 (by simp [Value.oneCell']);refine(h a len cap c.w).mono ?_;rintro e w' ⟨rfl,rfl⟩;refine⟨_,c',_,_,rfl,by rw [e1],tA,e2,e3,?_,fun e=>by cases e⟩;simp only [Rd,RdL];exact⟨_,rfl,_,_,rfl,by simpa only [Rd] using e4,rfl⟩
theorem ND {sz n:Nat} {get:Nat->List AV} (c:Ctx) (u:Value) (hu:Rd (.sl sz n get) c u):∃ a len cap,u = .slice a len cap:=by
 simp only [Rd] at hu;obtain⟨a,p,h, -⟩:=hu;exact⟨_,_,_,h⟩
theorem Pr (l:List Tx) (z w:Int) (hl:l.length<=1000000) (hi:∀ t∈l,t.images.length<=1000000):Fn Tryz.prog 169 [Ep l,iv z,iv w] fun r=>r=(match Hj l z w l.length with | some p=> .tp [iv (p.1:Nat),iv (p.2:Nat), .v (.bool true)] | none=> .tp [iv 0,iv 0, .v (.bool false)]):=by
 refine zT Tryz.func169 rfl ?_;conv=>whnf
 refine(Ou ⟨_,Tryz.func220,rfl,by decide⟩ Wu (Ep l) _ ND).mono ?_;rintro _ _ ⟨rfl,rfl⟩;conv=>whnf
 refine aRF.back tys_ok bktx_is (B:=5) (len:=l.length) (E:=fun i=>Ei (l.getD i ⟨0,0,0, []⟩)) rfl rfl tA (by omega) rfl (by decide) rfl [(4, .rp [iv z]),(5, .rp [iv w])] ⟨.inr ⟨0,_,_,rfl,rfl,rfl,rfl⟩, .inr ⟨1,_,_,rfl,rfl,rfl,rfl⟩,tv⟩ (fun i=>(Fz (l.getD i tz).images z w (l.getD i tz).images.length).isSome) ?_ ?_ ?_
 ·intro i hik hh;have hn:Fz (l.getD i tz).images z w (l.getD i tz).images.length=none:=by simpa using hh
  have him:=hi _ (A5 (d:=tz) hik);obtain⟨t,ht⟩:∃ t,t=l.getD i tz:=⟨_,rfl⟩;rw [show l.getD i ⟨0,0,0, []⟩=t from ht.symm];rw [<-ht] at hn him;refine⟨rfl,?_⟩;conv=>whnf
  refine(Ou ⟨_,Tryz.func221,rfl,by decide⟩ P_ (En t.images) _ ND).mono ?_;rintro _ _ ⟨rfl,rfl⟩;conv=>whnf
  refine aRF.back tys_ok bkim_is (B:=2) (len:=t.images.length) (E:=fun j=>Dz (t.images.getD j ⟨0,0, []⟩)) rfl rfl tA (by omega) rfl (by decide) rfl [(4, .rp [iv z]),(5, .rp [iv w])] ⟨.inl tA, .inl tA,tv⟩ (fun _=>false) ?_ ?_ ?_
  ·intro j hj _;have hnj:=LT hn j hj;refine⟨rfl,?_⟩;conv=>whnf
   by_cases hz:(t.images.getD j ⟨0,0, []⟩).zone=z
   ·rw [show ((t.images.getD j ⟨0,0, []⟩).zone == z)=true from beq_iff_eq.2 hz];conv=>whnf
    rw [show ((t.images.getD j ⟨0,0, []⟩).what == w)=false from beq_eq_false_iff_ne.2 fun e=>hnj ⟨hz,e⟩];conv=>whnf
   ·rw [show ((t.images.getD j ⟨0,0, []⟩).zone == z)=false from beq_eq_false_iff_ne.2 hz];conv=>whnf
  ·intro j hj h;cases h
  ·intro _;conv=>whnf
 ·intro i hik hh;obtain⟨i0,hi0⟩:=Cr.1 hh;have him:=hi _ (A5 (d:=tz) hik);obtain⟨t,ht⟩:∃ t,t=l.getD i tz:=⟨_,rfl⟩;rw [show l.getD i ⟨0,0,0, []⟩=t from ht.symm];rw [<-ht] at hi0 him;refine⟨rfl,?_⟩;conv=>whnf
  refine(Ou ⟨_,Tryz.func221,rfl,by decide⟩ P_ (En t.images) _ ND).mono ?_;rintro _ _ ⟨rfl,rfl⟩;conv=>whnf
  refine aRF.back tys_ok bkim_is (B:=8) (len:=t.images.length) (E:=fun j=>Dz (t.images.getD j ⟨0,0, []⟩)) rfl rfl tA (by omega) rfl (by decide) rfl [(4, .rp [iv z]),(5, .rp [iv w])] ⟨.inr ⟨0,_,_,rfl,rfl,rfl,rfl⟩, .inr ⟨1,_,_,rfl,rfl,rfl,rfl⟩,tv⟩ (fun j=>decide ((t.images.getD j iz).zone=z/\(t.images.getD j iz).what=w)) ?_ ?_ ?_
  ·intro j hj hnj;have hnj:=of_decide_eq_false hnj;refine⟨rfl,?_⟩;conv=>whnf
   by_cases hz:(t.images.getD j ⟨0,0, []⟩).zone=z
   ·rw [show ((t.images.getD j ⟨0,0, []⟩).zone == z)=true from beq_iff_eq.2 hz];conv=>whnf
    rw [show ((t.images.getD j ⟨0,0, []⟩).what == w)=false from beq_eq_false_iff_ne.2 fun e=>hnj ⟨hz,e⟩];conv=>whnf
   ·rw [show ((t.images.getD j ⟨0,0, []⟩).zone == z)=false from beq_eq_false_iff_ne.2 hz];conv=>whnf
  ·intro j hj hy;have hy:=of_decide_eq_true hy;refine⟨rfl,?_⟩;conv=>whnf
   rw [show ((t.images.getD j ⟨0,0, []⟩).zone == z)=true from beq_iff_eq.2 hy.1];conv=>whnf
   rw [show ((t.images.getD j ⟨0,0, []⟩).what == w)=true from beq_iff_eq.2 hy.2];refine⟨by simp,rfl,fun hord=>?_⟩;refine⟨by simp,rfl,fun hord2=>?_⟩;conv=>whnf
   have hJ:Fz (l.getD i tz).images z w (l.getD i tz).images.length=some j:=by
    rw [<-ht];exact Nr hy _ hj fun q q1 q2=>of_decide_eq_false (hord q q1 q2)
   rw [Ns hJ l.length hik fun q q1 q2=>by simpa using hord2 q q1 q2];exact⟨_,ri,rfl⟩
  ·intro hno;exfalso;have:=LU hi0;exact of_decide_eq_false (hno i0 this.1) this.2
 ·intro hh;have hn:=LV (l:=l) (z:=z) (w:=w) l.length fun q hq=>by simpa using hh q hq
  conv=>whnf
  rw [hn];exact⟨_,ri,rfl⟩
def flatY:AV->Bool
 | .v _=>true
 | .top=>true
 | _=>false
def flatP:AV->Bool
 | .v _=>true
 | .ow _ _=>true
 | .sl _ 0 _=>true
 | _=>false
def flatQ:AV->Bool
 | .v _=>true
 | .ow _ _=>true
 | .ag l=>l.all flatP
 | _=>false
def flatS:List AB->Bool
 | []=>true
 | .row _ _ es::r=>es.flatten.all flatY&&flatS r
 | _::_=>false
theorem PF {c c':Ctx}:∀ {l:List AV} {us:List Value},l.all flatY=true->RdL l c us->RdL l c' us
 | [],us,_,h=>by simpa only [RdL] using h
 | x::l,us,hf,h=>by
  rw [AY,Ad] at hf;simp only [RdL] at h |-
  obtain⟨u,vs,rfl,h1,h2⟩:=h;refine⟨u,vs,rfl,?_,PF hf.2 h2⟩;cases x <;> simp [flatY] at hf
  ·simp only [Rd]
  ·simpa only [Rd] using h1
theorem LQ {c c':Ctx} (hr:c'.rho=c.rho) (hl:c'.len=c.len) (hd:c'.dom=c.dom) {x:AV} (hx:flatP x=true) {u:Value} (h:Rd x c u):Rd x c' u:=by
 cases x with
 | v y=>simpa only [Rd] using h
 | ow k n=>
  simp only [Rd] at h |-
  rw [hr,hl,hd];exact h
 | sl sz n get=>
  cases n with
  | zero=>
   simp only [Rd] at h |-
   obtain⟨a,k,h1,h2,h3, -⟩:=h;exact⟨a,k,h1,h2,h3, .inl trivial⟩
  | succ n=>cases hx
 | _=>simp [flatP] at hx
theorem VJ {c c':Ctx} (hr:c'.rho=c.rho) (hl:c'.len=c.len) (hd:c'.dom=c.dom) {x:AV} (hx:flatQ x=true) {u:Value} (h:Rd x c u):Rd x c' u:=by
 cases x with
 | v y=>exact LQ hr hl hd rfl h
 | ow k n=>exact LQ hr hl hd rfl h
 | ag l=>
  simp only [Rd] at h |-
  obtain⟨xs,rfl,hxs⟩:=h;refine⟨xs,rfl,?_⟩;simp only [flatQ] at hx;induction l generalizing xs with
  | nil=>simpa only [RdL] using hxs
  | cons y l ih=>
   rw [AY,Ad] at hx;simp only [RdL] at hxs |-
   obtain⟨u,us,rfl,h1,h2⟩:=hxs;exact⟨u,us,rfl,LQ hr hl hd hx.1 h1,ih hx.2 us h2⟩
 | _=>simp [flatQ] at hx
theorem flatS_mem:∀ {R:List AB} {y:AB},flatS R=true->y∈R->∃ t sz es,y = .row t sz es/\es.flatten.all flatY=true
 | .row t sz es::r,y,h,hy=>by
  rw [flatS,Ad] at h;rcases Bb.1 hy with rfl | hy
  ·exact⟨t,sz,es,rfl,h.1⟩
  ·exact flatS_mem h.2 hy
theorem ACalls.fnO {P:Program} {q:Bool} {f:FuncId} {args:List AV} {K:AV->List AB->Prop} (h:ACalls P q f args [] K) (hK:∀ r R,K r R->∀ y∈R,∃ t sz es,y = .row t sz es):FnO P f args K:=by
 refine⟨h.go,fun c0 us hg hd hM hr=>?_⟩;let ce:Ctx:={ c0 with base:=0 };have hce:Ext c0 ce:=⟨rfl,rfl,rfl,Ag _,fun _ _ h=>⟨h,rfl⟩,Ag _,fun _ _=>Ag _,fun _ _ _=>rfl,fun _ _ _ h=>h⟩;have hHS:HS (Fl.all c0.w hg) c0.M ce []:=⟨zm _ hg,rfl,hd,fun _ _=>Iff.rfl,hM,by simp,by simp,by simp⟩;refine(h.calls (Fl.all c0.w hg) c0.M ce us hHS (RdL.ext _ hce hr)).mono ?_;rintro e w' ⟨v,c',r,H',rfl,q1,q2,q3,q4,q5, -⟩;exact⟨v,r,c',H',rfl,q2,q1,q3,q5,hK r H' q2⟩
theorem FnO.lendC {P:Program} {f:FuncId} {args args':List AV} {H:List AB} {K:AV->List AB->Prop} {q:Bool} {k:AV->List AB->Prop} (h:FnO P f args' K) (hs:sealA args H fun a _=>a=args') (hk:∀ r R,K r R->∃ R',ConvH R R'/\(flatQ r=true/\flatS R'=true)/\appK H R' 0 fun d H=>Ds (r.shift d) fun r=>k r H):ACalls P q f args H k:=by
 refine⟨h.go,fun w0 M0 c us hs0 hr=>?_⟩;obtain⟨l',H',c',rfl,h2,h3,h4,h5,_⟩:=sealA_sound hs0 hr hs;have hglob:globOk c'.closed.w:=h3.glob;have hc:=h.calls c'.closed us hglob rfl h3.lt h5;have ew:c'.closed.w=c.w:=h2
 suffices hh:Calls P f us.toArray c'.closed.w fun e w'=>∃ v c1 r H1,e = .returned v/\c1.w=w'/\k r H1/\HS w0 M0 c1 H1/\Ext c c1/\Rd r c1 v/\(q=true->Old c.w w') by
  rw [ew] at hh;exact hh
 refine hc.mono ?_;rintro e w' ⟨v,r,c1,R1,rfl,q1,rfl,q21,q31, -⟩;obtain⟨R,hconv,⟨f1,f2⟩,hkk⟩:=hk r R1 q1;obtain⟨c2,ew2,q2,x2⟩:=hconv _ _ _ q21;have q3:Rd r c2 v:=Rd.ext _ x2 q31;have q4:∀ y∈R,∃ t sz es,y = .row t sz es:=fun y hy=>by
  obtain⟨t,sz,es,e, -⟩:=flatS_mem f2 hy;exact⟨t,sz,es,e⟩
 -- the same memory;what the caller holds is not read
 obtain⟨c3,e3⟩:∃ c3:Ctx,c3={ c2 with M:=fun b=>c2.M b\/c.M b }:=⟨_,rfl⟩;have hsub:∀ b,b<c.w.heap.size->c'.M b->c.M b:=fun b hb hm=>by
  by_cases hx:c.M b
  ·exact hx
  ·exact absurd hm (h4.keep b hb hx).1
 have hlow:=q2.low;have q2':HS (Fl.all c.w hs0.glob) c.M c3 R:=by
  subst e3;refine⟨⟨?_,?_,?_,?_,?_⟩,q2.base,q2.dom,fun b hb=>?_,fun b hb=>?_,fun i y hi=>?_,fun i y g hi hl ho=>?_,q2.dis⟩
  ·have:=hlow.os;rw [show (Fl.all c'.closed.w hglob).w=c.w from ew] at this;exact this
  ·have:=hlow.tape;rw [show (Fl.all c'.closed.w hglob).w=c.w from ew] at this;exact this
  ·have:=hlow.output;rw [show (Fl.all c'.closed.w hglob).w=c.w from ew] at this;exact this
  ·have:=hlow.size;rw [show (Fl.all c'.closed.w hglob).w=c.w from ew] at this;exact this
  ·intro b hb;have:=hlow.block b (by show b<c'.closed.w.heap.size;rw [ew];exact hb);rw [show (Fl.all c'.closed.w hglob).w=c.w from ew] at this;exact this
  ·have hb':b<c.w.heap.size:=hb;have:=q2.foreign b (by show b<c'.closed.w.heap.size;rw [ew];exact hb');exact⟨fun hx=>hx.elim (fun hx=>hsub b hb' (this.1 hx)) (fun hx=>hx),fun hx=> .inr hx⟩
  ·have hsz:c.w.heap.size<=c2.w.heap.size:=by
    have:=hlow.size;rw [show (Fl.all c'.closed.w hglob).w=c.w from ew] at this;exact this
   rcases hb with hb | hb
   ·exact q2.lt b hb
   ·exact Aq (hs0.lt b hb) hsz
  ·obtain⟨t,sz,es,rfl,hfl⟩:=flatS_mem f2 (D7 hi);obtain⟨a1,a2,a3,xs,a4,a5,a6⟩:=q2.blk i _ hi;exact⟨a1,a2,a3,xs,a4,PF hfl a5,a6⟩
  ·have:=q2.own i y g hi hl ho;refine⟨.inl this.1,fun hx=>this.2 ?_⟩;show g<c'.closed.w.heap.size;rw [ew];exact hx
 have q3':Rd r c3 v:=VJ (by rw [e3]) (by rw [e3]) (by rw [e3]) f1 q3;have q5:c3.w=c2.w:=by rw [e3]
 obtain⟨p1,p2⟩:=hs0.beside (c':=c3) q2' q4;have h1:=BK (appK_iff hkk);rw [Az,<-hs0.dom] at h1;exact⟨v,c.beside c3,_,_,rfl,by show c3.w=_;rw [q5,ew2],h1,p1,p2,Rd.shift r q3',fun _=>by have:=q2'.low.below.old;rw [q5,ew2] at this;exact this⟩
theorem SubL.tops:∀ (l:List AV),SubL l (List.replicate l.length .top)
 | []=>trivial
 | x::l=>⟨fun _ _ _=>by simp [Rd],SubL.tops l⟩
def Gv (x:Gt) (addr stamp:Int):Option (List UInt8):=match BO x addr with
 | some s=>if s.stamp=stamp then some s.pay else none
 | none=>none
theorem Vc {x:Gt} {addr stamp:Int} {b:List UInt8} (h:Gv x addr stamp=some b):b.length<=x.bytes.length:=by
 unfold Gv BO at h;split at h
 ·rename_i s hs;split at hs
  ·obtain rfl:=Option.some.inj hs;split at h
   ·obtain rfl:=Option.some.inj h;simp [Cy];omega
   ·cases h
  ·cases hs
 ·cases h
theorem FH (b:Bool):∀ (c:Ctx) (v:Value),Rd (.tp [.v (.slice none 0 0), .v (.bool b)]) c v->Rd (.tp [bA [], .v (.bool b)]) c v:=BS ⟨Bp 1 _,ri,tv⟩
theorem Sl (x:Gt) (addr stamp:Int) (hl:x.bytes.length<=100000):Fn Tryz.prog 209 [.ag (DJ x),iv addr,iv stamp] fun r=>r = .tp [bA ((Gv x addr stamp).getD []), .v (.bool (Gv x addr stamp).isSome)]:=by
 have ho:=U3 x.bytes hl;by_cases h0:x.err=0;rotate_left 1
 ·have e:Gv x addr stamp=none:=by
   unfold Gv BO;rw [if_neg (fun h=>h0 h.1)]
  rw [e];refine zT Tryz.func209 rfl ?_;conv=>whnf
  rw [show (x.err != 0)=true from bne_iff_ne.2 h0];exact⟨_,FH false,rfl⟩
 by_cases h1:CT x.bytes=0;rotate_left 1
 ·have e:Gv x addr stamp=none:=by
   unfold Gv BO;rw [if_neg (fun h=>h1 h.2.1)]
  rw [e];rw [if_neg h1] at ho;refine zT Tryz.func209 rfl ?_;conv=>whnf
  rw [show (x.err != 0)=false from bne_eq_false_iff_eq.2 h0];conv=>whnf
  refine z_ ho ?_;conv=>whnf
  rw [show (CT x.bytes != 0)=true from bne_iff_ne.2 h1];exact⟨_,FH false,rfl⟩
 rw [if_pos h1,h1] at ho;by_cases h2:CA x.bytes=addr;rotate_left 1
 ·have e:Gv x addr stamp=none:=by
   unfold Gv BO;rw [if_neg (fun h=>h2 h.2.2)]
  rw [e];refine zT Tryz.func209 rfl ?_;conv=>whnf
  rw [show (x.err != 0)=false from bne_eq_false_iff_eq.2 h0];conv=>whnf
  refine z_ ho ?_;conv=>whnf
  rw [show ((⟨CA x.bytes,Ck x.bytes,Cy x.bytes⟩:Sec).addr != addr)=true from bne_iff_ne.2 h2];exact⟨_,FH false,rfl⟩
 have es:BO x addr=some ⟨CA x.bytes,Ck x.bytes,Cy x.bytes⟩:=by unfold BO;rw [if_pos ⟨h0,h1,h2⟩]
 by_cases h3:Ck x.bytes=stamp
 ·have e:Gv x addr stamp=some (Cy x.bytes):=by unfold Gv;rw [es];simp only;rw [if_pos h3]
  rw [e];refine zT Tryz.func209 rfl ?_;conv=>whnf
  rw [show (x.err != 0)=false from bne_eq_false_iff_eq.2 h0];conv=>whnf
  refine z_ ho ?_;conv=>whnf
  rw [show ((⟨CA x.bytes,Ck x.bytes,Cy x.bytes⟩:Sec).addr != addr)=false from bne_eq_false_iff_eq.2 h2];conv=>whnf
  rw [show ((⟨CA x.bytes,Ck x.bytes,Cy x.bytes⟩:Sec).stamp != stamp)=false from bne_eq_false_iff_eq.2 h3];exact⟨_,ri,rfl⟩
 ·have e:Gv x addr stamp=none:=by unfold Gv;rw [es];simp only;rw [if_neg h3]
  rw [e];refine zT Tryz.func209 rfl ?_;conv=>whnf
  rw [show (x.err != 0)=false from bne_eq_false_iff_eq.2 h0];conv=>whnf
  refine z_ ho ?_;conv=>whnf
  rw [show ((⟨CA x.bytes,Ck x.bytes,Cy x.bytes⟩:Sec).addr != addr)=false from bne_eq_false_iff_eq.2 h2];conv=>whnf
  rw [show ((⟨CA x.bytes,Ck x.bytes,Cy x.bytes⟩:Sec).stamp != stamp)=true from bne_iff_ne.2 h3];exact⟨_,FH false,rfl⟩
theorem Rx (x:Gt) (addr:Int) (e:Ent):Di x addr e=match Gv x addr e.stamp with
  | some b=>if b.length=8/\((CJ b:Nat):Int)=e.sum then some b else none
  | none=>none:=by
 unfold Di Gv;cases BO x addr with
 | none=>rfl
 | some s=>
  simp only;by_cases h:s.stamp=e.stamp
  ·rw [if_pos h];simp only;by_cases h2:s.pay.length=8/\((CJ s.pay:Nat):Int)=e.sum
   ·rw [if_pos h2,if_pos ⟨h,h2⟩]
   ·rw [if_neg h2,if_neg (fun q=>h2 q.2)]
  ·rw [if_neg h,if_neg (fun q=>h q.1)]
theorem TB (x:Gt) (addr:Int) (e:Ent) (hl:x.bytes.length<=100000):Fn Tryz.prog 171 [.ag (DJ x),iv addr, .ag (CY e)] fun r=>r = .tp [bA ((Di x addr e).getD []), .v (.bool (Di x addr e).isSome)]:=by
 have hp:=Sl x addr e.stamp hl;rw [Rx];cases hq:Gv x addr e.stamp with
 | none=>
  rw [hq] at hp;refine zT Tryz.func171 rfl ?_;conv=>whnf
  refine z_ hp ?_;conv=>whnf
  apply zV (0) tys_ok mixed (.o [0,1,2,3,4,5,6,7,8,10,11,9,12,13] .fin) (by kernel_rfl);conv=>whnf
  (skip)
  exact⟨_,FH false,rfl⟩
 | some b=>
  rw [hq] at hp;replace hp:Fn Tryz.prog 209 [.ag (DJ x),iv addr,iv e.stamp] fun r=>r = .tp [bA b, .v (.bool true)]:=hp
  have hs:=IP b;simp only;by_cases h8:b.length=8;rotate_left 1
  ·rw [if_neg (fun h=>h8 h.1)];refine zT Tryz.func171 rfl ?_;conv=>whnf
   refine z_ hp ?_;conv=>whnf
   apply zV (0) tys_ok mixed (.o [0,1,2,3,4,5,6,7,8,10,11,9,12,13] .fin) (by kernel_rfl);conv=>whnf
   (rw [show ((b.length:Int) != 8)=true from bne_iff_ne.2 (by omega)])
   conv=>whnf
   all_goals
    exact⟨_,FH false,rfl⟩
  by_cases hE:((CJ b:Nat):Int)=e.sum
  ·rw [if_pos ⟨h8,hE⟩];refine zT Tryz.func171 rfl ?_;conv=>whnf
   refine z_ hp ?_;conv=>whnf
   apply zV (0) tys_ok mixed (.o [0,1,2,3,4,5,6,7,8,10,11,9,12,13] .fin) (by kernel_rfl);conv=>whnf
   (rw [show ((b.length:Int) != 8)=false from bne_eq_false_iff_eq.2 (by omega)];(conv=>whnf);refine z_ hs ?_)
   conv=>whnf
   all_goals
    rw [show (((CJ b:Nat):Int) != e.sum)=false from bne_eq_false_iff_eq.2 hE];exact⟨_,ri,rfl⟩
  ·rw [if_neg (fun h=>hE h.2)];refine zT Tryz.func171 rfl ?_;conv=>whnf
   refine z_ hp ?_;conv=>whnf
   apply zV (0) tys_ok mixed (.o [0,1,2,3,4,5,6,7,8,10,11,9,12,13] .fin) (by kernel_rfl);conv=>whnf
   (rw [show ((b.length:Int) != 8)=false from bne_eq_false_iff_eq.2 (by omega)];(conv=>whnf);refine z_ hs ?_)
   conv=>whnf
   all_goals
    rw [show (((CJ b:Nat):Int) != e.sum)=true from bne_iff_ne.2 hE];exact⟨_,FH false,rfl⟩
theorem KX (g:Geo) (x:Gt) (addr root:Int):CO g x addr root=match Gv x addr root with
  | some b=>BX g b
  | none=>none:=by
 unfold CO Gv;cases BO x addr with
 | none=>rfl
 | some s=>
  simp only;by_cases h:s.stamp=root
  ·rw [if_pos h,if_pos h]
  ·rw [if_neg h,if_neg h]
theorem Qo {g:Geo} {b:List UInt8} (hg:Bt g=true):(DN g b=0↔(BX g b).isSome=true):=by
 unfold DN;rw [hg,if_neg (by decide)];split <;> simp_all
theorem T8 (g:Geo) (x:Gt) (addr root:Int) (hg:Bt g=true) (hl:x.bytes.length<=100000):Fn Tryz.prog 139 [.ag (Ba g), .ag (DJ x),iv addr,iv root] fun r=>r = .tp [.ag [BN ((CO g x addr root).getD [])], .v (.bool (CO g x addr root).isSome)]:=by
 have hp:=Sl x addr root hl;have hG:Fn Tryz.prog 51 [.ag (Ba g)] fun r=>r = .v (F1 (Bt g)):=DK g.z g.d g.sp g.sl g.an
 rw [hg] at hG;rw [KX];cases hq:Gv x addr root with
 | none=>
  rw [hq] at hp;refine zT Tryz.func139 rfl ?_;conv=>whnf
  refine z_ hp ?_;exact⟨_,BS (m:= [.ag [BN []], .v (.bool false)]) ⟨Bm ⟨Bp 3 _,tv⟩,ri,tv⟩,rfl⟩
 | some b=>
  rw [hq] at hp;replace hp:Fn Tryz.prog 209 [.ag (DJ x),iv addr,iv root] fun r=>r = .tp [bA b, .v (.bool true)]:=hp
  have hbl:=Vc hq;have hr:=KU g b (by omega);rw [hg,if_pos rfl] at hr;have hz:=Qo (b:=b) hg;simp only;refine zT Tryz.func139 rfl ?_;conv=>whnf
  refine z_ hp ?_;conv=>whnf
  refine z_ hG ?_;conv=>whnf
  refine z_ hr ?_;conv=>whnf
  cases hR:BX g b with
  | none=>
   rw [hR] at hz;rw [show (DN g b == 0)=false from beq_eq_false_iff_ne.2 fun e=>by have:=hz.1 e;cases this];exact⟨_,ri,rfl⟩
  | some t=>
   rw [hR] at hz;rw [show (DN g b == 0)=true from beq_iff_eq.2 (hz.2 rfl)];exact⟨_,ri,rfl⟩
theorem Vg (a:An) (l:List Tx) (z:Int) (hz:0<=z/\z<a.homes.length) (hl:l.length<=1000000) (hi:∀ t∈l,t.images.length<=1000000):Fn Tryz.prog 136 [.ag (EO a),Ep l,iv z] fun r=>r = .tp [iv (EI a l z),iv 0]:=by
 have hf:=Pr l z 255 hl hi;have e:CC l z 255=_:=Oj l z 255 l.length;unfold EI;rw [e];cases hA:Hj l z 255 l.length with
 | none=>
  rw [hA] at hf;refine zT Tryz.func136 rfl ?_;conv=>whnf
  rw [show decide (z<0)=false from decide_eq_false (by omega)];conv=>whnf
  rw [show decide (z>=(a.homes.length:Nat))=false from decide_eq_false (by omega)];conv=>whnf
  refine z_ hf ?_;refine⟨⟨by omega,by omega⟩,?_⟩;exact⟨_,ri,rfl⟩
 | some p=>
  obtain⟨k,i⟩:=p;rw [hA] at hf;obtain⟨hk,hi2⟩:=LW hA;simp only at hk hi2;replace hf:Fn Tryz.prog 169 [Ep l,iv z,iv 255] fun r=>r = .tp [iv (k:Nat),iv (i:Nat), .v (.bool true)]:=hf
  have ixA:(0:Int)<=(k:Nat)/\((k:Nat):Int)<(l.length:Nat):=by omega
  refine zT Tryz.func136 rfl ?_;conv=>whnf
  rw [show decide (z<0)=false from decide_eq_false (by omega)];conv=>whnf
  rw [show decide (z>=(a.homes.length:Nat))=false from decide_eq_false (by omega)];conv=>whnf
  refine z_ hf ?_;refine⟨ixA,?_⟩;exact⟨_,ri,rfl⟩
theorem ACalls.lendBox2 {P:Program} {q:Bool} {f:FuncId} {x:AV} {H:List AB} {K:AV->List AB->Prop} (j k:Nat) {t t':TypeId} {sz':Nat} {ar ar2 cs cs2:List AV} {es':List (List AV)} (hj:H[j]? = some (.box t cs)) (hk:H[k]? = some (.row t' sz' es'))
  (he:cs.map (AV.slIn k es'.length (.sl sz' es'.length fun i=>es'.getD i []))=cs2) (ha:ar.map (AV.slIn k es'.length (.sl sz' es'.length fun i=>es'.getD i []))=ar2) (hc:ACalls P q f [x, .ag ar2] ((H.set k .dead).set j (.box t cs2)) K):ACalls P q f [x, .ag ar] H K:=by
 refine⟨hc.go,fun w0 M0 c us hs hr=>?_⟩;subst he;subst ha;have hjk:j≠k:=by rintro rfl;rw [hj] at hk;cases hk
 obtain⟨c1,e1,s1,x1,r1⟩:=hs.freeze hk;have hj1:(H.set k .dead)[j]? = some (.box t cs):=by rw [AC (Ne.symm hjk)];exact hj
 have h8:∀ (l:List AV) (us:List Value),RdL l c us->RdL (l.map (AV.slIn k es'.length (.sl sz' es'.length fun i=>es'.getD i []))) c1 us:=by
  intro l;induction l with
  | nil=>intro us h;simp only [RdL] at h;subst h;simp [RdL]
  | cons x l ih=>
   intro us h;simp only [RdL] at h;obtain⟨u,vs,rfl,a1,a2⟩:=h;simp only [AA,RdL];refine⟨u,vs,rfl,?_,ih vs a2⟩;unfold AV.slIn;split
   ·rename_i i n;split
    ·rename_i hik;subst hik;split
     ·grind
     ·simp [Rd]
    ·exact Rd.ext _ x1 a1
   ·exact Rd.ext _ x1 a1
 have s2:HS w0 M0 c1 ((H.set k .dead).set j (.box t (cs.map (AV.slIn k es'.length (.sl sz' es'.length fun i=>es'.getD i []))))):=by
  refine s1.recell hj1 rfl ?_;rintro⟨g,xs,h1,h2,_,h4⟩;obtain⟨g0,ys,q1,q2,q3,_⟩:=hs.blk j _ hj;have hg:=x1.box j _ (hs.klt hj) q1;rw [h1] at hg;injection hg with hg
  injection hg with hg
  injection hg with hg
  subst hg;rw [e1,q2] at h2;injection h2 with h2
  have hxy:ys.toArray=xs.toArray:=by injection h2
  have hxy:ys=xs:=by simpa using hxy
  subst hxy;exact⟨g,ys,h1,by rw [e1];exact q2,h8 _ _ q3,h4⟩
 have hr2:RdL [x, .ag (ar.map (AV.slIn k es'.length (.sl sz' es'.length fun i=>es'.getD i [])))] c1 us:=by
  simp only [RdL] at hr;obtain⟨u1,_,rfl,p1,u2,_,rfl,p2,rfl⟩:=hr;simp only [Rd] at p2;obtain⟨zs,rfl,p3⟩:=p2;simp only [RdL];exact⟨u1,_,rfl,Rd.ext _ x1 p1,_,_,rfl,by simp only [Rd];exact⟨zs,rfl,h8 _ _ p3⟩,rfl⟩
 have:=hc.calls w0 M0 c1 us s2 hr2;rw [e1] at this;refine this.mono ?_;rintro e w' ⟨v,c',r,H2,rfl,rfl,q1,q2,q3,q4,q5⟩;exact⟨v,c',r,H2,rfl,rfl,q1,q2,x1.trans q3,q4,q5⟩
theorem Kc {a s:Int} {p:List UInt8} (h:p.length<=96):(CB a s p).length<=200:=by rw [EW];omega
theorem Gw.puts {n:Int} {d:Dk} {F:Int->List UInt8} {W l:List Wr} (h:Gw n d F W) (hl:∀ w∈l,(0<=w.addr/\w.addr<n)/\w.bytes.length<=200) (hn:W.length+l.length<=2000):∀ k:Nat,k<=l.length->(d.writes (l.take k)).2.1=k/\(d.writes (l.take k)).2.2=false/\Gw n (d.writes (l.take k)).1 F (W ++ l.take k)
 | 0,_=>⟨rfl,rfl,by rw [List.take_zero,AM];exact h⟩
 | k+1,hk=>by
  obtain⟨q1,q2,q3⟩:=Gw.puts h hl hn k (by omega);have hx:=K5 (d:=d) (l:=l) (k:=k) (by omega) q2;have hm:=hl _ (A5 (d:=(⟨0, []⟩:Wr)) (show k<l.length by omega));obtain⟨e0,hw⟩:=q3.write (by rw [Ai,At];omega) hm.1.1 hm.1.2 hm.2;rw [hx,e0];refine⟨by simp only [q1];rfl,rfl,?_⟩;have e:l.take (k+1)=l.take k ++ [l.getD k ⟨0, []⟩]:=by
   rw [Bk,Ae (by omega),Aa,Ae (by omega)];try rfl
  rw [e,<-A9];exact hw
theorem Gd.putAll {n:Int} {d:Dk} {F:Int->List UInt8} {l:List Wr} (h:Gd n d F) (hl:∀ w∈l,(0<=w.addr/\w.addr<n)/\w.bytes.length<=200) (hn:l.length<=2000):(d.writes l).2.1=l.length/\(d.putAll l).2.1=l.length/\(d.putAll l).2.2=false/\Gd n (d.putAll l).1 (RB F l):=by
 obtain⟨q1,q2,q3⟩:=Gw.puts h hl (by simpa using hn) l.length (Ag _);rw [Ay] at q1 q2 q3;have e:=E4 q2;rw [if_neg (by rw [q3.left];decide)] at e;rw [e];exact⟨q1,q1,rfl,by simpa using q3.flush⟩
theorem Qf {g:Geo} {a:An} (hg:Bt g=true) (ha:Bv g a=true):∀ w∈Bg g a,(0<=w.addr/\w.addr<A3 g)/\w.bytes.length<=200:=fun w hw=>by
 obtain⟨g1,g2,g3,g4,g5⟩:=As.1 hg;have hcb:=Eg hg;obtain⟨i,hi,rfl⟩:=Ox hw;exact⟨⟨by show 0<=((i:Nat):Int);omega,by show ((i:Nat):Int)<A3 g;omega⟩,Jq hg ha _⟩
@[reducible] def rwZ (g:Geo) (s:Stt) (d:Dk):List AB:= [.box 83 (Zl g (.bp 1 0) s 0), .box 85 (HG (.ow 2 d.cells.length) (.ow 6 d.cache.length) d.reqs d.left), .row 128 3 (d.cells.map B4), .dead, .dead, .dead, .row 134 2 (d.cache.map DZ)]
theorem RH {k:Nat} {m:Nat} {x:AV} {n:Nat} (h:n=m):AV.slIn k m x (.ow k n)=x:=by
 subst h;simp [AV.slIn]

def FP (d:Dk) (a:Int) (c:Cel):Dk:={ d with cells:=d.cells.set a.toNat c }
def Dk.fault (d:Dk) (kind a frm bit bits:Int):Dk × Int:=
 if C0 a 0 ((d.cells.length:Int) - 1)=false then (d,1) else if 0<d.cache.length then (d,9) else
 let c:=d.cells.getD a.toNat cz
 if kind=11 then (FP d a { c with state:=if c.state=0 then 1 else c.state },0)
 else if kind=12 then (FP d a { c with state:=2 },0)
 else if kind=13 then (if bit<0\/bits<0 then (d,1) else (FP d a { c with bytes:=Nm c.bytes bit bits },0))
 else if kind=14 then (FP d a { c with bytes:=c.old },0)
 else if kind=15 then (if C0 frm 0 ((d.cells.length:Int) - 1)=false then (d,1) else (FP d a { c with bytes:=(d.cells.getD frm.toNat cz).bytes },0))
 else (d,1)
theorem Wm {d:Dk} {a:Int} (ha:0<=a/\a<d.cells.length):(d.cells.map B4).getD a.toNat []=B4 (d.cells.getD a.toNat cz):=Bd (by omega)
theorem Wl {d:Dk} {a:Int} (ha:0<=a/\a<d.cells.length):FP d a (d.cells.getD a.toNat cz)=d:=by
 unfold FP;obtain⟨c,w,r,l⟩:=d;simp only [Dk.mk.injEq,and_true];simp only at ha;rw [Aa,Ae (by omega),BG,List.set_getElem_self]
structure Q4 where
 a:Int
 b:Int
 c:Int
 d:Int
theorem XW {d:Dk} {a:Int} {c:Cel} (h:DkOk d) (hc:(0<=c.state/\c.state<=2)/\c.bytes.length<=200/\c.old.length<=200):DkOk (FP d a c):=by
 refine⟨by simpa [FP] using h.n,h.m,h.r,h.l,fun x hx=>?_,fun w hw=>by simpa [FP] using h.w w hw⟩;rcases Cn hx with hx | rfl
 ·exact h.c x hx
 ·exact hc
theorem Sf {d:Dk} (h:DkOk d) (i:Nat):(0<=(d.cells.getD i cz).state/\(d.cells.getD i cz).state<=2)/\(d.cells.getD i cz).bytes.length<=200/\(d.cells.getD i cz).old.length<=200:=by
 by_cases hi:i<d.cells.length
 ·exact h.c _ (A5 (d:=cz) hi)
 ·rw [Aa,AE (by omega)];exact⟨⟨C7 _,show (0:Int)<=2 by decide⟩,by simp [cz],by simp [cz]⟩
theorem DkOk.fault {d:Dk} (h:DkOk d) (kind a frm bit bits:Int):DkOk (d.fault kind a frm bit bits).1/\(d.fault kind a frm bit bits).1.cells.length=d.cells.length/\(d.fault kind a frm bit bits).1.cache=d.cache/\(d.fault kind a frm bit bits).1.left=d.left/\(d.fault kind a frm bit bits).1.reqs=d.reqs:=by
 have hc:=Sf h a.toNat;have hf:=Sf h frm.toNat;have go:∀ c:Cel,((0<=c.state/\c.state<=2)/\c.bytes.length<=200/\c.old.length<=200)->DkOk (FP d a c)/\(FP d a c).cells.length=d.cells.length/\(FP d a c).cache=d.cache/\(FP d a c).left=d.left/\(FP d a c).reqs=d.reqs:=fun c h1=>⟨XW h h1,by simp [FP],rfl,rfl,rfl⟩
 have st:DkOk d/\d.cells.length=d.cells.length/\d.cache=d.cache/\d.left=d.left/\d.reqs=d.reqs:=⟨h,rfl,rfl,rfl,rfl⟩;unfold Dk.fault;split
 ·exact st
 ·split
  ·exact st
  ·simp only;split
   ·refine go _ ⟨?_,hc.2⟩;simp only;split
    ·exact⟨by decide,by decide⟩
    ·exact hc.1
   ·split
    ·exact go _ ⟨⟨show (0:Int)<=2 by decide,C7 2⟩,hc.2⟩
    ·split
     ·split
      ·exact st
      ·exact go _ ⟨hc.1,by simp only [GW];exact hc.2.1,hc.2.2⟩
     ·split
      ·exact go _ ⟨hc.1,hc.2.2,hc.2.2⟩
      ·split
       ·split
        ·exact st
        ·exact go _ ⟨hc.1,hf.2.1,hc.2.2⟩
       ·exact st
end
section
open Go.RowKit Go.ChangeShapes Go.WideShapes Go.ChangeAt Go.Deep
section
variable {H:Type} {enc:TypeId × Value->H} {w:World}
end
end
section
open Go.RowKit
structure Q2 where
 a:Int
 b:Int
section
open Go.ChangeShapes Go.WideShapes Go.ChangeAt Go.Deep
variable {H:Type} {enc:TypeId × Value->H} {w:World}
end
structure Md where
 a:An
 l:List Tx
 F:Int->List UInt8
 m:List (List UInt8)
def aj (g:Geo) (M:Md) (lba:Int) (b:List UInt8) (M':Md):Prop:=
 (Df M.l+4<=g.sl/\(Gp g (Bl M.a M.l) M.F (lba.tdiv g.d)).isSome=true/\∃ W:List Wr,(∀ w∈W,(g.an<=w.addr/\w.addr<g.an+2*g.sl/\CA w.bytes=w.addr)/\w.bytes.length<=200)/\M'=⟨M.a,M.l ++ [IB g M.a M.l M.F lba b],RB M.F W,M.m.set lba.toNat b⟩)
 \/((g.sl<Df M.l+4\/Gp g (Bl M.a M.l) M.F (lba.tdiv g.d)=none)/\M'=M)
def ZZ (g:Geo) (M:Md):Md:=match M.l with
 | []=>M
 | x::r=>⟨OF g M.a x,r,Uz g M.a x M.F,M.m⟩
def Kr (n:Int) (F:Int->List UInt8) (q:Int):List UInt8:=if -n<=q/\q<n then F q else []
def Dg (g:Geo):Md:=⟨DH (BZ g ⟨#[]⟩) 0, [],Kr (A3 g) (QO g (DH (BZ g ⟨#[]⟩) 0)),List.replicate (g.z*g.d).toNat zero8⟩
structure Vo (g:Geo) (K:Int) (M:Md):Prop where
 an:Bv g M.a=true
 ring:CG g M.l M.a.seq M.a.pos g.sl=true
 gen:M.a.gen<=K
 seq:M.a.seq+M.l.length<=K
 one:∀ t∈M.l,OneTab t.images
 fb:∀ q,(M.F q).length<=200
 m:(M.m.length:Int)=g.z*g.d
theorem Vo.vol {g:Geo} {K:Int} {M:Md} (h:Vo g K M) {d:Dk} (hd:Gd (A3 g) d M.F):Vol g K d (Bl M.a M.l):=⟨⟨_,hd⟩,h.an,h.ring,tA,h.gen,h.seq,h.one⟩
theorem Vo.of {g:Geo} {K:Int} {M:Md} {d:Dk} (h:Vol g K d (Bl M.a M.l)) (hf:∀ q,(M.F q).length<=200) (hm:(M.m.length:Int)=g.z*g.d):Vo g K M:=⟨h.an,h.ring,h.gen,h.seq,h.one,hf,hm⟩
theorem MY {a:Int}:∀ (n:Nat) (l:List Wr) (w:Wr),l.length=n->In l a=some w->w∈l
 | 0,l,w,hn,h=>by
  obtain rfl:=AQ.1 hn;rw [MX] at h;cases h
 | n+1,l,w,hn,h=>by
  rcases CD l with rfl | ⟨m,x,rfl⟩
  ·cases hn
  ·rw [CE] at h |-
   rw [I1] at h;split at h
   ·obtain rfl:=Option.some.inj h;simp
   ·exact List.mem_append_left _ (MY n m w (by simpa using hn) h)
theorem Uo {F:Int->List UInt8} {n:Nat} (hF:∀ q,(F q).length<=n) {W:List Wr} (hW:∀ w∈W,w.bytes.length<=n) (q:Int):(RB F W q).length<=n:=by
 induction W generalizing F with
 | nil=>exact hF q
 | cons w W ih=>
  refine ih (F:=Yr F w) (fun q=>?_) fun x hx=>hW x (AZ _ hx)
  unfold Yr;split
  ·split
   ·exact hW w List.mem_cons_self
   ·exact hF q
  ·split
   ·exact hF _
   ·exact hF q
theorem Uy {g:Geo} (hg:Bt g=true) {a:An} {x:Tx} (ha:Bv g (OF g a x)=true) {F:Int->List UInt8} (hF:∀ q,(F q).length<=200) (hx:∀ y∈x.images,By g y=true) (q:Int):(Uz g a x F q).length<=200:=by
 unfold Uz;refine Uo (Uo hF fun w hw=>?_) (fun w hw=>(Qf hg ha w hw).2) q;obtain⟨y,hy,hw⟩:=LA.1 hw;have:=G3 hg (hx y hy);unfold Vz at hw;split at hw
 ·simp only [Bb,List.not_mem_nil,or_false] at hw;rcases hw with rfl | rfl <;> exact Kc (by omega)
 ·rw [AF] at hw;rw [hw];exact Kc (by omega)
theorem Vo.ck {g:Geo} (hg:Bt g=true) {K:Int} {M:Md} (h:Vo g K M) (hK:K<=4294967294) {d d':Dk} (hd:Gd (A3 g) d M.F) (hd':Gd (A3 g) d' (ZZ g M).F):Vo g (K+1) (ZZ g M):=by
 obtain⟨a,l,F,m⟩:=M;cases l with
 | nil=>exact⟨h.an,h.ring,by have q:a.gen<=K:=h.gen;show a.gen<=K+1;omega,by have q:a.seq+(([]:List Tx).length:Int)<=K:=h.seq;show a.seq+(([]:List Tx).length:Int)<=K+1;omega,h.one,h.fb,h.m⟩
 | cons x r=>
  have hv:=h.vol hd;have h2:=hv.home hg (x:=x) (r:=r) rfl hK (d':=d') ⟨_,hd'⟩;have hi:=(DP h.ring x (List.mem_cons_self)).1;exact Vo.of (d:=d') h2 (Uy hg h2.an h.fb (Au.1 hi)) h.m
theorem Gd.clip {n:Int} {d:Dk} {F:Int->List UInt8} (h:Gd n d F):Gd n d (Kr n F)/\∀ q,(Kr n F q).length<=200:=by
 have hl:=h.len;refine⟨⟨h.ok,h.left,h.len,h.cache,fun q h0 h1=>?_,fun q h0 h1=>?_⟩,fun q=>?_⟩
 ·have:=h.cell q h0 h1;unfold Kr;rw [if_pos ⟨by omega,h1⟩];exact this
 ·have:=h.old q h0 h1;unfold Kr;rw [if_pos ⟨by omega,by omega⟩];exact this
 ·unfold Kr;split
  ·rename_i hq;by_cases h0:0<=q
   ·have hc:=(h.cell q h0 hq.2).2;rw [<-hc];exact(h.ok.c _ (A5 (by omega))).2.1
   ·have hc:=h.old (-1 - q) (by omega) (by omega);rw [show -1 - (-1 - q)=q by omega] at hc;rw [<-hc];exact(h.ok.c _ (A5 (by omega))).2.2
  ·simp
theorem Vj {g:Geo} (hg:Bt g=true):∃ D,Db g (GU g ⟨#[]⟩)=(D,0,Bl (Dg g).a (Dg g).l)/\DkOk (GU g ⟨#[]⟩)/\((GU g ⟨#[]⟩).cells.length:Int)=A3 g/\Gd (A3 g) D (Dg g).F/\Vo g 2 (Dg g):=by
 obtain⟨D,h1,h2,h3,h4,h5⟩:=Y9 hg;obtain⟨q1,q2⟩:=h5.clip;refine⟨D,h1,h2,h3,q1,Vo.of (d:=D) (M:=Dg g) ⟨⟨_,q1⟩,h4.an,h4.ring,h4.rest,h4.gen,h4.seq,h4.one⟩ q2 ?_⟩;obtain⟨g1,g2,g3,g4,g5⟩:=As.1 hg;have:0<=g.z*g.d:=CQ (by omega) (by omega);show (((List.replicate (g.z*g.d).toNat zero8).length:Nat):Int)=_;rw [BD];omega
structure Gc (n:Int) (d:Dk) (F:Int->List UInt8) (l:List Wr):Prop where
 ok:DkOk d
 len:(d.cells.length:Int)=n
 cache:d.cache=l
 cell:∀ a:Int,0<=a->a<n->(d.cells.getD a.toNat cz).state=0/\(d.cells.getD a.toNat cz).bytes=F a
theorem Gw.gc {n:Int} {d:Dk} {F:Int->List UInt8} {l:List Wr} (h:Gw n d F l):Gc n d F l:=⟨h.ok,h.len,h.cache,h.cell⟩
theorem Gc.write {n:Int} {d:Dk} {F:Int->List UInt8} {l:List Wr} (h:Gc n d F l) (hl:l.length<2000) {a:Int} (h0:0<=a) (h1:a<n) {b:List UInt8} (hb:b.length<=200):(d.left=0/\d.write a b=(d,8))\/(d.left≠0/\(d.write a b).2=0/\Gc n (d.write a b).1 F (l ++ [⟨a,b⟩])):=by
 by_cases hz:d.left=0
 ·exact .inl ⟨hz,by unfold Dk.write;rw [if_pos hz]⟩
 ·have hw:=h.ok.write (a:=a) (b:=b) (by rw [<-h.len] at h1;omega) hb;have e:d.write a b=({ d.req with cache:=d.cache ++ [⟨a,b⟩] },0):=by
   unfold Dk.write;rw [if_neg hz,if_neg];rintro(h2 | h2)
   ·have:=(h.cell a h0 h1).1;unfold cz at this;omega
   ·rw [h.cache] at h2;omega
  rw [e] at hw |-
  exact .inr ⟨hz,rfl,hw,h.len,by rw [h.cache],h.cell⟩
theorem Gc.puts {n:Int} {d:Dk} {F:Int->List UInt8} {W l:List Wr} (h:Gc n d F W) (hl:∀ w∈l,(0<=w.addr/\w.addr<n)/\w.bytes.length<=200) (hn:W.length+l.length<=2000):∀ k:Nat,k<=l.length->(d.writes (l.take k)).2.2=false->(d.writes (l.take k)).2.1=k/\Gc n (d.writes (l.take k)).1 F (W ++ l.take k)
 | 0,_,_=>⟨rfl,by rw [List.take_zero,AM];exact h⟩
 | k+1,hk,hv=>by
  have hx0:=FZ d (l:=l) (k:=k) (by omega);have hv0:(d.writes (l.take k)).2.2=false:=by
   cases hc:(d.writes (l.take k)).2.2 with
   | false=>rfl
   | true=>
    rw [hx0] at hv;unfold F3 at hv;rw [hc] at hv;simp only [if_true] at hv;rw [hc] at hv;cases hv
  obtain⟨q1,q3⟩:=Gc.puts h hl hn k (by omega) hv0;have hx:=K5 (d:=d) (l:=l) (k:=k) (by omega) hv0;have hm:=hl _ (A5 (d:=(⟨0, []⟩:Wr)) (show k<l.length by omega));rcases q3.write (by rw [Ai,At];omega) hm.1.1 hm.1.2 hm.2 with ⟨-,e8⟩ | ⟨-,e0,hw⟩
  ·rw [hx,e8] at hv;cases hv
  ·rw [hx,e0];have e:l.take (k+1)=l.take k ++ [l.getD k ⟨0, []⟩]:=by
    rw [Bk,Ae (by omega),Aa,Ae (by omega)];try rfl
   refine⟨by simp only [q1];rfl,?_⟩;rw [e,<-A9];exact hw
theorem Gc.flush {n:Int} {d:Dk} {F:Int->List UInt8} {l:List Wr} (h:Gc n d F l):Gc n d.flush (RB F l) []:=by
 have e:d.flush=⟨CK d.cells l, [],d.req.reqs,d.req.left⟩:=by
  unfold Dk.flush;rw [allFin_cells,h.cache];try rfl
 have ho:=h.ok.flush;rw [e] at ho |-
 refine⟨ho,by show ((CK d.cells l).length:Int)=n;rw [finL_len];exact h.len,rfl,fun a h0 h1=>?_⟩;have hl:=h.len;refine Ok h0 (by omega) (h.cell a h0 h1) _ l rfl fun w hw=>?_
 rw [<-h.cache] at hw;exact(h.ok.w w hw).1.1
theorem Gc.putAll {n:Int} {d:Dk} {F:Int->List UInt8} {l:List Wr} (h:Gc n d F []) (hl:∀ w∈l,(0<=w.addr/\w.addr<n)/\w.bytes.length<=200) (hn:l.length<=2000) (hv:(d.putAll l).2.2=false):(d.putAll l).2.1=l.length/\Gc n (d.putAll l).1 (RB F l) []:=by
 cases hw:(d.writes l).2.2 with
 | true=>rw [Fw hw] at hv;cases hv
 | false=>
  have hp:=Gc.puts h hl (by simpa using hn) l.length (Ag _);rw [Ay] at hp;obtain⟨q1,q2⟩:=hp hw;have e:=E4 hw;by_cases h0:(d.writes l).1.left=0
  ·rw [if_pos h0] at e;rw [e] at hv;cases hv
  ·rw [if_neg h0] at e;rw [e];exact⟨q1,by simpa using q2.flush⟩

theorem MM (g:Geo) (w:Int) (hw : -1<=w/\w<g.d):Fn Tryz.prog 223 [.ag (Ba g),iv w] fun r=>r = .tp [iv (Ej g w), .v (.bool true)]:=by
 unfold Ej;by_cases h:w = -1
 ·rw [if_pos h];refine zT Tryz.func223 rfl ?_;conv=>whnf
  rw [show (w == -1)=true by simpa using h];exact⟨_,ri,rfl⟩
 ·rw [if_neg h];refine zT Tryz.func223 rfl ?_;conv=>whnf
  rw [show (w == -1)=false by simpa using h];refine zA tys_ok mixed [0,1,2,3,4,5,6,7,8,9,10] (by kernel_rfl) ?_;conv=>whnf
  rw [show decide (w>=0)=true from decide_eq_true (by omega)];conv=>whnf
  rw [show decide (w<g.d)=true from decide_eq_true (by omega)];exact⟨_,ri,rfl⟩
theorem Me {g:Geo} {a:An} (hg:Bt g=true) (ha:Bv g a=true):a.label.size<=1000000/\a.homes.length<=1000/\∀ h∈a.homes,h.places.length<=1000000:=by
 have:=G9 hg ha 0 (Aj _);exact⟨by have:=this.2.2.2.1;omega,by have:=this.2.1;omega,fun h hh=>Kv hg ha h hh⟩
theorem SW (g:Geo) (a:An) (z w:Int) (hg:Bt g=true) (ha:Bv g a=true) (hz:0<=z/\z<g.z) (hw : -1<=w/\w<g.d):Fn Tryz.prog 222 [.ag (Ba g), .ag (EO a),iv z,iv w] fun r=>r = iv 0:=by
 obtain⟨s1,s2, -⟩:=Me hg ha;have c1:=N3 g a s1 (by omega);rw [hg,ha] at c1;have c2:=MM g w hw;refine zT Tryz.func222 rfl ?_;conv=>whnf
 refine z_ c1 ?_;conv=>whnf
 refine z_ c2 ?_;conv=>whnf
 rw [show decide (z<0)=false from decide_eq_false (by omega)];conv=>whnf
 rw [show decide (z>=g.z)=false from decide_eq_false (by omega)];exact⟨_,ri,rfl⟩
theorem Ve (g:Geo) (a:An) (z w:Int) (hg:Bt g=true) (ha:Bv g a=true) (hz:0<=z/\z<g.z) (hw : -1<=w/\w<g.d):Fn Tryz.prog 170 [.ag (Ba g), .ag (EO a),iv z,iv w] fun r=>r = .tp [iv (C3 g a z w),iv 0]:=by
 obtain⟨g1,g2,g3,g4,g5⟩:=As.1 hg;obtain⟨hi,hh⟩:=V1 ha hz;simp only [DT,Ad,decide_eq_true_eq,AD] at hh;obtain⟨p1,p2,p3,p4⟩:=hh;have hat:0<=Ej g w/\Ej g w<=g.d:=by unfold Ej;split <;> omega
 have hk:(Ej g w).toNat<(a.homes.getD z.toNat ⟨[],0,0⟩).places.length:=by omega
 have hp:=Au.1 p4 (Ej g w).toNat (by simpa using hk);simp only [Ad,AD] at hp;have c1:=SW g a z w hg ha hz hw;have c2:=MM g w hw;have c3:=V4 g z ((a.homes.getD z.toNat ⟨[],0,0⟩).places.getD (Ej g w).toNat 0) hg hz (by unfold C9;omega);refine zT Tryz.func170 rfl ?_;conv=>whnf
 refine z_ c1 ?_;conv=>whnf
 refine z_ c2 ?_;conv=>whnf
 apply zL tys_ok mixed (.o [0,1,2,3,4,5,6,7,8,9,10,11,12,13,14,15] .fin) [8,9,27,28,29,30,31,32,33,34,35,36,37,38,39,40] (by kernel_rfl)
 ·conv=>whnf
  try (refine Af (by first | omega | exact ixA | exact ixB | (simp;done)) ?_;conv=>whnf)
  try (refine Af (by first | omega | exact ixA | exact ixB | (simp;done)) ?_;conv=>whnf)
  refine z_ c3 ?_;exact tA
 exact⟨_,ri,rfl⟩
theorem Nf (g:Geo) (lba:Int) (hg:Bt g=true) (h:0<=lba/\lba<g.z*g.d):Fn Tryz.prog 103 [.ag (Ba g),iv lba] fun r=>r = .tp [iv (lba.tdiv g.d),iv (lba.tmod g.d),iv 0]:=by
 obtain⟨h1,h2,h3,h4,h5⟩:=As.1 hg;have hG:Fn Tryz.prog 51 [.ag (Ba g)] fun r=>r = .v (F1 (Bt g)):=DK g.z g.d g.sp g.sl g.an
 rw [hg] at hG;have hp:g.z*g.d<=16:=Int.le_trans (Cj h1.2 (by omega)) (by omega);have hw:IntKind.i64.wrap (IntKind.i64.wrap (g.z*g.d) - 1)=g.z*g.d - 1:=by rw [wi (n:=g.z*g.d) (by omega),wi (by omega)]
 have hn:=I7 lba 0 (IntKind.i64.wrap (IntKind.i64.wrap (g.z*g.d) - 1));rw [show C0 lba 0 (IntKind.i64.wrap (IntKind.i64.wrap (g.z*g.d) - 1))=true from AD.2 (by rw [hw];omega)] at hn;have hq:lba.tdiv g.d=lba / g.d:=AU h.1;have hq2:0<=lba / g.d/\lba / g.d<=lba:=⟨Dw h.1 (by omega),Int.ediv_le_self _ h.1⟩;refine zT Tryz.func103 rfl ?_;conv=>whnf
 refine z_ hG ?_;conv=>whnf
 refine z_ hn ?_;conv=>whnf
 have hd0:g.d≠0:=by omega
 refine zA tys_ok mixed [0,1,2,3,4,5,6,7,8,9,10] (by kernel_rfl) ?_;refine⟨hd0,?_⟩;refine⟨hd0,?_⟩;exact⟨_,ri,by rw [wi (n:=lba.tdiv g.d) (by omega)]⟩
theorem TP (g:Geo) (w:Int):Fn Tryz.prog 172 [.ag (Ba g),iv w] fun r=>r = iv (Ej g w):=by
 unfold Ej;by_cases h:w = -1
 ·rw [if_pos h];refine zT Tryz.func172 rfl ?_;conv=>whnf
  rw [show (w == -1)=true by simpa using h];exact⟨_,ri,rfl⟩
 ·rw [if_neg h];refine zT Tryz.func172 rfl ?_;conv=>whnf
  rw [show (w == -1)=false by simpa using h];exact⟨_,ri,rfl⟩
end
section
open Go.RowKit Go.Maps
theorem Fn.at {P:Program} {f:FuncId} {args:List AV} {K:AV->Prop} (h:Fn P f args K) {c0:Ctx} (hd:c0.dom=0) (hM:∀ b,c0.M b->b<c0.w.heap.size) (hg:globOk c0.w) {W:World} (hB:Below c0.w.heap.size c0.w W) {us:List Value} (hr:RdL args { c0 with w:=W } us) :
  Calls P f us.toArray W fun e w'=>∃ v r,e = .returned v/\K r/\Below W.heap.size W w'/\Rd r { c0 with w:=w' } v:=
 h.2 { c0 with w:=W } us hd (fun b hb=>Aq (hM b hb) hB.size) (hg.keep hB.size hB.block) hr
theorem MN {w w':World} {P:Program} {k:TypeId} {R:Value->Option (DataW Unit × List MemPlace)} {b n:Nat} {D:DataW Unit} (h:w.ownsMap P k R b n D) (hB:Below w.heap.size w w'):w'.ownsMap P k R b n D:=by
 have hl:=h.lt;obtain⟨es,clock,hb,r⟩:=h;exact⟨es,clock,(hB.block b hl).trans hb,r⟩
theorem und_map:Tryz.prog.underlying 303=some (.map 3 4):=by kernel_rfl
theorem und_int:Tryz.prog.underlying 3=some (.int .i64):=by kernel_rfl
theorem und_bool:Tryz.prog.underlying 4=some .bool:=by kernel_rfl
theorem SG (g:Geo) (A:Int) (hg:Bt g=true) (h:0<=A/\A<g.z*g.d):Fn Tryz.prog 175 [.ag (Ba g),iA [A]] fun r=>r = .tp [iv 4,iv 0]:=by
 refine⟨⟨_,Tryz.func175,rfl,by decide⟩,fun c0 us hd hM hgl hr=>?_⟩;obtain⟨u1,u2,rfl,h1,h2⟩:=ZG hr;have hu1:u1 = .agg #[.int .i64 g.z, .int .i64 g.d, .int .i64 g.sp, .int .i64 g.sl, .int .i64 g.an]:=by
  simp only [Ba,Rd,RdL] at h1;obtain⟨xs,rfl,a1,_,rfl,rfl,a2,_,rfl,rfl,a3,_,rfl,rfl,a4,_,rfl,rfl,a5,_,rfl,rfl,rfl⟩:=h1;rfl
 have hs:=Qp h2;obtain⟨a,k,rfl⟩:=hs.form;subst hu1;have hC:Fn Tryz.prog 51 [.ag (Ba g)] fun r=>r = .v (F1 (Bt g)):=DK g.z g.d g.sp g.sl g.an
 rw [hg] at hC;have hS:=Nf g A hg h;have hX:=P4 [] A (by decide);have hkb:k<=maxLen:=hs.cap.2.2;obtain⟨b,o,rfl, -,hx⟩:=Oc hs (k:=0) (show 0<1 by decide);have rg:∀ W,Rd (.ag (Ba g)) { c0 with w:=W } (.agg #[.int .i64 g.z, .int .i64 g.d, .int .i64 g.sp, .int .i64 g.sl, .int .i64 g.an]):=fun W=>by
  simp [Rd,RdL,Ba]
 have cC:∀ W,Below c0.w.heap.size c0.w W->Calls Tryz.prog 51 #[.agg #[.int .i64 g.z, .int .i64 g.d, .int .i64 g.sp, .int .i64 g.sl, .int .i64 g.an]] W fun e w'=>e = .returned (.int .i64 0)/\Below W.heap.size W w':=fun W hB=>(hC.at hd hM hgl hB (us:= [_]) (by simpa [RdL] using rg W)).mono fun e w' ⟨v,r,h1,h2,h3,h4⟩=>by
  subst h2;simp only [Rd] at h4;subst h4;exact⟨h1,h3⟩
 have cS:∀ W,Below c0.w.heap.size c0.w W->Calls Tryz.prog 103 #[.agg #[.int .i64 g.z, .int .i64 g.d, .int .i64 g.sp, .int .i64 g.sl, .int .i64 g.an], .int .i64 A] W fun e w'=>e = .returned (.tuple #[.int .i64 (A.tdiv g.d), .int .i64 (A.tmod g.d), .int .i64 0])/\Below W.heap.size W w':=fun W hB=>(hS.at hd hM hgl hB (us:= [_,_]) (by simpa [RdL,Rd] using rg W)).mono fun e w' ⟨v,r,h1,h2,h3,h4⟩=>by
  subst h2;simp only [Rd,RdL] at h4;obtain⟨xs,rfl,a1,_,rfl,rfl,a2,_,rfl,rfl,a3,_,rfl,rfl,rfl⟩:=h4;exact⟨h1,h3⟩
 have cX:∀ W v,Below c0.w.heap.size c0.w W->Rd (iA []) { c0 with w:=W } v->Calls Tryz.prog 115 #[v, .int .i64 A] W fun e w'=>e = .returned (.bool false)/\Below W.heap.size W w':=fun W v hB hv=>(hX.at hd hM hgl hB (us:= [v,_]) (by simpa [RdL,Rd] using hv)).mono fun e w' ⟨v,r,h1,h2,h3,h4⟩=>by
  subst h2;simp only [Rd] at h4;subst h4;exact⟨h1,h3⟩
 have hmm:=@run_makeMap Tryz.prog;clear hC hS hX hr h2 h1 hs rg
 go_enter Tryz.func175,Tryz.ntmps175
 go_wp2_with fail
 have hB1:Below c0.w.heap.size c0.w (c0.w.alloc (.cells #[.int .i64 g.z, .int .i64 g.d, .int .i64 g.sp, .int .i64 g.sl, .int .i64 g.an] 23)):=(Below.refl _ _).alloc (Ag _) _;((with_reducible refine(cC _ hB1).mono ?_);rintro e w1 ⟨rfl,hBa⟩);have hs1:c0.w.heap.size+1<=w1.heap.size:=by have:=hBa.size;simpa using this
 have hBw:=Lib.hid (hB1.trans (hBa.mono (by simp)));have hbk:=Lib.hid ((hBa.block c0.w.heap.size (by simp)).trans (heap_alloc_new _ _));clear hB1 hBa cC
 go_wp2_with fail
 refine wp_loop_rounds 2 ?_;rw [rounds_succ];have hB2:=Lib.hid (hBw.out.alloc (by omega) (.map #[] 0));have hcell:∀ i,(w1.alloc (.map #[] 0)).cell? ⟨c0.w.heap.size,i,none⟩ = #[Value.int .i64 g.z, .int .i64 g.d, .int .i64 g.sp, .int .i64 g.sl, .int .i64 g.an][i]? :=fun i=>by
  simp only [World.cell?];rw [Below.heap_alloc _ _ _ (by omega),hbk.out];try rfl
 have hx2:(w1.alloc (.map #[] 0)).cell? ⟨b,o,none⟩=some (.int .i64 A):=by
  have q:=World.block_lt_of_cell? c0.w _ hx;exact(hB2.out.cell (by exact q)).trans hx
 have hown:(w1.alloc (.map #[] 0)).ownsMap Tryz.prog 3 (plainElem (H:=Unit) Tryz.prog 4) w1.heap.size 0 (.map []):=World.ownsMap_made _ _ _ _;generalize hW:w1.alloc (.map #[] 0)=W2 at *
 go_wp2_with fail
 ((with_reducible refine(cS _ hB2.out).mono ?_);rintro e w2 ⟨rfl,hBb⟩);have hB3:=Lib.hid (hB2.out.trans (hBb.mono hB2.out.size));have hown2:=MN hown hBb;have hs2:=hBb.size;have hs3:c0.w.heap.size<W2.heap.size:=by rw [<-hW];simp;omega
 have hcell2:∀ i,w2.cell? ⟨c0.w.heap.size,i,none⟩ = #[Value.int .i64 g.z, .int .i64 g.d, .int .i64 g.sp, .int .i64 g.sl, .int .i64 g.an][i]? :=fun i=>(hBb.cell (p:=⟨c0.w.heap.size,i,none⟩) hs3).trans (hcell i)
 clear hcell hx2 hown cS
 go_wp2_with fail
 ((with_reducible refine(cX _ _ hB3.out ?_).mono ?_))
 ·simp only [iA,Rd];exact⟨_,k,rfl,Aj _,hkb, .inl rfl⟩
 rintro e w3 ⟨rfl,hBc⟩;have hB4:=Lib.hid (hB3.out.trans (hBc.mono hB3.out.size));have hown3:=MN hown2 hBc;have hs4:=hBc.size;have hZ:(Lit.int .i64 (A.tdiv g.d)).wf=true:=by
  obtain⟨h1,h2,h3,h4,h5⟩:=As.1 hg;have hp:g.z*g.d<=16:=Int.le_trans (Cj h1.2 (by omega)) (by omega);have hq:A.tdiv g.d=A / g.d:=AU h.1;have hq2:0<=A / g.d/\A / g.d<=A:=⟨Dw h.1 (by omega),Int.ediv_le_self _ h.1⟩;have : -9223372036854775808<=A.tdiv g.d/\A.tdiv g.d<=9223372036854775807:=by omega
  simp only [Lit.wf];rw [Ad];exact⟨decide_eq_true this.1,decide_eq_true this.2⟩
 have hkey:keyOf Tryz.prog 3 (.int .i64 (A.tdiv g.d))=some (.int .i64 (A.tdiv g.d)):=keyOf_int_mk und_int hZ;clear hcell2 hown2 cX
 go_wp2_with (first
  | (at_mapUpdate;refine wpList_mapUpdate_own _ rfl _ _ _ 303 rfl 3 4 (int_keyed und_int) und_map (plainElem (H:=Unit) Tryz.prog 4) w1.heap.size 0 _ rfl hown3 (by unfold maxLen;omega) _ _ _ rfl rfl hkey _ [] (plainElem_bool und_bool true) ?_;intro w4 hown4 hgrow4)
  | go_in)
 rw [rounds_succ];have hsz:Maps.size ((DataW.map (H:=Unit) []).put (Lit.int .i64 (A.tdiv g.d)) (.lit (.bool true)))=1:=rfl;have hB5:=Lib.hid (hB4.out.grown hgrow4 (by have:=hB4.out.size;omega) (fun j hj=>by cases hj;omega))
 go_wp2_with (first
  | (at_len;refine wpList_len_own _ rfl _ 303 rfl 3 4 und_map _ w1.heap.size (0+1) _ rfl hown4 ?_)
  | go_in)
 go_ret2
 refine⟨_,_,rfl,rfl,hB5.out,?_⟩;simp only [Rd,RdL];exact⟨_,rfl,_,_,rfl,rfl,_,_,rfl,rfl,rfl⟩
end
section
open Go.RowKit
theorem HW (l:List Tx) (z w:Int) (hl:l.length<=1000000) (hi:∀ t∈l,t.images.length<=1000000/\∀ x∈t.images,x.bytes.length<=1000000000):ACalls Tryz.prog false 104 [.ow 0 l.length,iv z,iv w] [.row 112 4 (l.map Ei)] fun r H=>r=(match CC l z w with | some p=> .tp [bA p.1.bytes,iv p.2, .v (.bool true)] | none=> .tp [bA [],iv 0, .v (.bool false)])/\H=[.row 112 4 (l.map Ei)]:=by
 have hf:=Pr l z w hl (fun t ht=>(hi t ht).1);have e:CC l z w=_:=Oj l z w l.length;rw [e];have tsub:SubL [.sl 4 l.length fun i=>(l.map Ei).getD i [],iv z,iv w] [Ep l,iv z,iv w]:=⟨B3 (f:=Ei) l rfl rfl,ri,ri,tv⟩;cases hA:Hj l z w l.length with
 | none=>
  rw [hA] at hf;refine zS tys_ok Tryz.func104 rfl rfl (Ah rfl) ?_;conv=>whnf
  refine zj (args':= [.sl 4 l.length fun i=>(l.map Ei).getD i [],iv z,iv w]) (hf.subA tsub) ⟨(Ac _).symm,rfl⟩ ?_;rintro _ rfl;refine⟨rfl,?_⟩;exact⟨_, .tp [bA [],iv 0, .v (.bool false)], [.row 112 4 (l.map Ei)],BS (m:= [bA [],iv 0, .v (.bool false)]) ⟨Bp 1 _,ri,ri,tv⟩,zR (s:= [0]) tA,rfl,rfl⟩
 | some p=>
  obtain⟨k,i⟩:=p;rw [hA] at hf;obtain⟨hk,hi2⟩:=LW hA;simp only at hk hi2;have hm:=hi _ (A5 (d:=tz) hk);have hc:=BM ((l.getD k tz).images.getD i iz).bytes (hm.2 _ (A5 hi2));replace hf:Fn Tryz.prog 169 [Ep l,iv z,iv w] fun r=>r = .tp [iv (k:Nat),iv (i:Nat), .v (.bool true)]:=hf
  have ixA:(0:Int)<=(k:Nat)/\((k:Nat):Int)<(l.length:Nat):=by omega
  have ixB:(0:Int)<=(i:Nat)/\((i:Nat):Int)<((l.getD k tz).images.length:Nat):=⟨Int.natCast_nonneg _,Int.ofNat_lt.2 hi2⟩;have hE:(l.map Ei).getD (k:Int).toNat []=Ei (l.getD k tz):=by rw [Ab];exact Bd hk
  refine zS tys_ok Tryz.func104 rfl rfl (Ah rfl) ?_;conv=>whnf
  refine zj (args':= [.sl 4 l.length fun i=>(l.map Ei).getD i [],iv z,iv w]) (hf.subA tsub) ⟨(Ac _).symm,rfl⟩ ?_;rintro _ rfl;refine⟨rfl,?_⟩;conv=>whnf
  apply zV (0) tys_ok mixed (.o [0,1,2,3,4,5,6,7,8,10,11,12,13,14,9,15,16,17] .fin) (by kernel_rfl);conv=>whnf
  try (refine tI ?_;conv=>whnf)
  try (first | (refine Af ⟨rfl,(Ac _).symm,by rw [Ab];exact hk⟩ ?_;(conv=>whnf);rw [hE]) | skip;conv=>whnf)
  try (refine tI ?_;conv=>whnf)
  try (first | (refine Af ⟨rfl,(Ac _).symm,by rw [Ab];exact hk⟩ ?_;(conv=>whnf);rw [hE]) | skip;conv=>whnf)
  try (refine tI ?_;conv=>whnf)
  try (first | (refine Af ⟨rfl,(Ac _).symm,by rw [Ab];exact hk⟩ ?_;(conv=>whnf);rw [hE]) | skip;conv=>whnf)
  refine z_ hc ?_;conv=>whnf
  all_goals exact⟨_, .tp [bA ((l.getD k tz).images.getD i iz).bytes, .v (.int .i64 (l.getD k tz).seq), .v (.bool true)], [.row 112 4 (l.map Ei)],fun _ _ h=>h,zR (s:= [0]) tA,rfl,rfl⟩
theorem Vf (l:List Tx) (hl:l.length<=1000000) (hi:∀ t∈l,t.images.length<=1000000/\∀ x∈t.images,x.bytes.length<=1000000000):ACalls Tryz.prog false 117 [Ep l] [] fun r H=>r = .ow 0 l.length/\H=[.row 112 4 (l.map Ei)]:=by
 have hc:=M5 l (by omega);refine zS tys_ok Tryz.func117 rfl rfl (Ah rfl) ?_;conv=>whnf
 refine zW hc rfl ?_;rintro _ _ ⟨rfl,rfl⟩;conv=>whnf
 refine zU Nat (fun k=>([(0, .ow 0 l.length),(9,iv l.length),(10,iv k)], [.row 112 4 (l.map Ei)])) (fun k=>k<=l.length) (fun k=>l.length - k) 0 (Aj _)
  (zR (s:= [0]) tA) ?_
 intro k hk;conv=>whnf
 refine A6 (fun h6=>?_) (fun h6=>?_) <;> (repeat rw [Ab] at h6) <;> conv=>whnf
 ·have hk':k<l.length:=by omega
  have hm:=hi _ (A5 (d:=(⟨0,0,0, []⟩:Tx)) hk');have hE:(l.map Ei).getD (k:Int).toNat []=Ei (l.getD k ⟨0,0,0, []⟩):=by rw [Ab];exact Bd hk'
  have ho:=Nb (l.getD k ⟨0,0,0, []⟩).images (by omega);repeat' (refine zZ ?_;conv=>whnf)
  refine⟨⟨by omega,by omega⟩,?_⟩;conv=>whnf
  refine Af ⟨rfl,(Ac _).symm,by rw [Ab];exact hk'⟩ ?_;conv=>whnf
  rw [hE];conv=>whnf
  refine ACalls.pre (ConvH.rowo (k:=0) rfl) ?_;refine zW ho rfl ?_;rintro _ _ ⟨rfl,rfl⟩;refine⟨⟨by omega,by omega⟩,?_⟩;conv=>whnf
  refine Af ⟨rfl,(Ac _).symm,by rw [Ab];exact hk'⟩ ?_;conv=>whnf
  rw [hE];refine⟨⟨by omega,by omega⟩,?_⟩;conv=>whnf
  refine Af ⟨rfl,by rw [AX,Ac],by rw [Ab];exact hk'⟩ ?_;conv=>whnf
  rw [Bo (by rw [Ab,Ac];exact hk')];conv=>whnf
  obtain⟨t,ht⟩:∃ t,t=l.getD k ⟨0,0,0, []⟩:=⟨_,rfl⟩;rw [<-ht] at hm hE |-
  have hS:∀ x∈l.map Ei,AV.ltL x 0=true:=Uv l;have hro:AV.ltL ((l.map Ei).set k (Ud t 1)).flatten 2=true:=Ld hS rfl;refine zU Nat (fun j=>([(0, .ow 0 l.length),(3,iv k),(9,iv l.length),(10,iv k),(27, .ow 1 t.images.length),(28,iv t.images.length),(29,iv j)], [.rowo 112 4 ((l.map Ei).set k (Ud t 1)) 2, .row 166 3 (t.images.map Dz)])) (fun j=>j<=t.images.length) (fun j=>t.images.length - j) 0 (Aj _)
   (zR (s:= [0,1]) ⟨tA,⟨⟨hro,_,by rw [HP hS rfl];try rfl⟩,rfl,tv⟩,rfl,rfl,rfl,rfl,rfl⟩) ?_
  intro j hj;conv=>whnf
  refine A6 (fun h7=>?_) (fun h7=>?_) <;> (repeat rw [Ab] at h7) <;> conv=>whnf
  ·have hj':j<t.images.length:=by omega
   have hF:(t.images.map Dz).getD (j:Int).toNat []=Dz (t.images.getD j ⟨0,0, []⟩):=by rw [Ab];exact Bd hj'
   have hG:((l.map Ei).set k (Ud t 1)).getD (k:Int).toNat []=Ud t 1:=by rw [Ab];exact Bo (by rw [Ac];exact hk')
   have b1:=BM (t.images.getD j ⟨0,0, []⟩).bytes (hm.2 _ (A5 hj'));refine⟨⟨by omega,by omega⟩,?_⟩;conv=>whnf
   refine Af ⟨rfl,(Ac _).symm,by rw [Ab];exact hj'⟩ ?_;conv=>whnf
   rw [hF];conv=>whnf
   apply zV (0) tys_ok mixed (.o [0,1,2,3,4,5,6,7,8,9,10,11] .fin) (by kernel_rfl);conv=>whnf
   try (refine tI ?_;conv=>whnf)
   try (first | (refine Af ⟨rfl,by rw [AX,Ac],by rw [Ab];exact hk'⟩ ?_;(conv=>whnf);rw [hG]) | skip;conv=>whnf)
   try (first | (refine Af ⟨rfl,by rw [AX,Ac],by rw [Ab];exact hk'⟩ ?_;(conv=>whnf);rw [hG]) | skip;conv=>whnf)
   refine z_ b1 ?_;conv=>whnf
   try (refine tI ?_;conv=>whnf)
   try (refine tS ?_;conv=>whnf)
   (first | rw [hF] | skip)
   conv=>whnf
   all_goals refine⟨j+1,hj',by omega,z7 (zI (z8 (k:=1) rfl (es':=t.images.map Dz) (by simp) ?_)) (s:= [0,1]) ⟨⟨rfl,rfl,rfl,rfl,rfl,rfl,AR (by omega),tv⟩,⟨⟨hro,_,by rw [HP hS rfl];try rfl⟩,rfl,tv⟩,rfl,rfl,rfl,rfl,rfl⟩⟩
   all_goals
    intro i;rw [Ab];refine Fu (f:=Dz) (d:=(⟨0,0, []⟩:Img)) hj' ?_ i;exact⟨fun _ _ h=>h,fun _ _ h=>h,fun _ _ h=>h,tv⟩
  ·exact⟨k+1,hk',by omega,z7 (zI (MO hk' ht)) (s:= [0]) ⟨⟨rfl,rfl,AR (by omega),tv⟩,tA,rfl,rfl,rfl,rfl,rfl⟩⟩
 ·exact⟨.ow 0 l.length, .ow 0 l.length, [.row 112 4 (l.map Ei)],fun _ _ h=>h,zR (s:= [0]) tA,rfl,rfl⟩
@[reducible] def stT (s:Stt) (tx lo:AV):List AV:= [iv s.a.gen,iv s.a.epoch,iv s.a.pos,iv s.a.seq,iv s.a.last, .v (.string s.a.label),K1 s.a.homes,tx, .v (.bool s.only),iv s.cursor,iv s.found,iv s.fixed,iv s.moved,lo]
theorem TU (s:Stt) (h:StSm s):ACalls Tryz.prog false 47 [.ag (ER s)] [] fun r H=>r = .ag (stT s (.ow 0 s.txns.length) (.ow 1 s.lost.length))/\H=[.row 112 4 (s.txns.map Ei), .row 3 1 (s.lost.map Oz)]:=by
 have c1:=Qd s.a (by have:=h.h.1;omega) h.h.2;have c2:=Vf s.txns (by have:=h.t.1;omega) (fun t ht=>⟨by have:=(h.t.2 t ht).1;omega,fun x hx=>by have:=(h.t.2 t ht).2 x hx;omega⟩);have c3:=LE s.lost (by have:=h.o;omega);refine zS tys_ok Tryz.func47 rfl rfl (Ah rfl) ?_;conv=>whnf
 apply zV (0) tys_ok mixed (.o [0,1,3,4,6,7,8,2,10,5,9,11,12,13,14,15,16] .fin) (by kernel_rfl);conv=>whnf
 refine z_ c1 ?_;conv=>whnf
 (refine zW c2 rfl ?_;rintro _ _ ⟨rfl,rfl⟩)
 conv=>whnf
 (refine zW c3 rfl ?_;rintro _ _ ⟨rfl,rfl⟩)
 conv=>whnf
 try (refine tS ?_;conv=>whnf)
 try (refine tS ?_;conv=>whnf)
 try (refine tS ?_;conv=>whnf)
 all_goals exact⟨_, .ag (stT s (.ow 0 s.txns.length) (.ow 1 s.lost.length)), [.row 112 4 (s.txns.map Ei), .row 3 1 (s.lost.map Oz)],fun _ _ h=>h,zR (s:= [2,3]) tA,rfl,rfl⟩
@[reducible] def Yi (g:Geo) (x tx lo:AV) (s:Stt):List AV:= [iv g.z,iv g.d,iv g.sp,iv g.sl,iv g.an,x,iv s.a.gen,iv s.a.epoch,iv s.a.pos,iv s.a.seq,iv s.a.last, .v (.string s.a.label),K1 s.a.homes,tx, .v (.bool s.only),iv s.cursor,iv s.found,iv s.fixed,iv s.moved,lo]
@[reducible] def F5 (g:Geo) (s:Stt) (d:Dk):List AB:= [.box 116 (Yi g (.bp 1 0) (.ow 4 s.txns.length) (iA s.lost) s), .box 185 (HG (.ow 2 d.cells.length) (.ow 3 d.cache.length) d.reqs d.left), .row 128 3 (d.cells.map B4), .row 134 2 (d.cache.map DZ), .row 112 4 (s.txns.map Ei)]
@[reducible] def bwM (g:Geo) (s:Stt) (d:Dk):List AB:= [.box 23 (Ba g), .box 43 (Ey d), .box 39 (ER s), .box 185 (HG (.ow 4 d.cells.length) (.ow 5 d.cache.length) d.reqs d.left), .row 128 3 (d.cells.map B4), .row 134 2 (d.cache.map DZ), .row 112 4 (s.txns.map Ei)]
theorem Ot (g:Geo) (d:Dk) (s:Stt) (h:DkOk d) (hst:Lb g d s=true) (hs:StSm s):ACalls Tryz.prog false 42 [.ag (Ba g), .ag (Ey d), .ag (ER s)] [] fun r H=>r = .tp [.bp 0 0,iv 0]/\H=F5 g s d:=by
 have hN:=h.n;have hM:=h.m;have c1:=Nz g d s (by omega) (by omega) hs.big;rw [hst] at c1;have c2:=XP d (by omega) (by omega);have c3:=TU s hs;refine zS tys_ok Tryz.func42 rfl rfl (Ah rfl) ?_;conv=>whnf
 refine z_ c1 ?_;conv=>whnf
 apply zV (0) tys_ok mixed (.o [0,1,3,2,4,5,6,7,8] .fin) (by kernel_rfl);conv=>whnf
 (refine zW c2 rfl ?_;rintro _ _ ⟨rfl,rfl⟩)
 conv=>whnf
 (refine zW c3 rfl ?_;rintro _ _ ⟨rfl,rfl⟩)
 conv=>whnf
 have hx:ConvH (bwM g s d ++ [.row 3 1 (s.lost.map Oz), .box 116 (Yi g (.bp 3 0) (.ow 6 s.txns.length) (.ow 7 s.lost.length) s)]) (bwM g s d ++ [.dead, .box 116 (Yi g (.bp 3 0) (.ow 6 s.txns.length) (iA s.lost) s)]):=by
  refine ConvH.trans (zo 8 7 (cs2:=Yi g (.bp 3 0) (.ow 6 s.txns.length) (.sl 1 (s.lost.map Oz).length fun i=>(s.lost.map Oz).getD i []) s) rfl rfl ?_) (ConvH.subBox 8 rfl ⟨ri,ri,ri,ri,ri,ri,ri,ri,ri,ri,ri,ri,ri,ri,ri,ri,ri,ri,ri,B3 (f:=Oz) (d:=0) s.lost (Ac _) rfl,tv⟩);simp only [AA,BP,RH (Ac _).symm];rfl
 all_goals exact⟨_, .tp [.bp 0 0,iv 0],F5 g s d,fun _ _ h=>h,z7 (zI hx) (s:= [8,3,4,5,6]) tA,rfl,rfl⟩
theorem LR (l:List Tx) (x:Tx) (z w:Int):∀ k,k<=l.length->FN (l ++ [x]) z w k=FN l z w k
 | 0,_=>rfl
 | k+1,hk=>by
  have e:(l ++ [x]).getD k tz=l.getD k tz:=by
   rw [Aa,Aa,A7 (by omega)]
  rw [FN,FN,e,LR l x z w k (by omega)]
theorem GX (l:List Tx) (x:Tx) (z w:Int):CC (l ++ [x]) z w=match D3 x.images z w x.images.length with
  | some i=>some (i,x.seq)
  | none=>CC l z w:=by
 unfold CC;rw [Ai,Ap,Be,Az,FN,LR l x z w _ (Ag _),show (l ++ [x]).getD l.length tz=x by simp];cases D3 x.images z w x.images.length <;> rfl
theorem Rh (x:Tx) (r:List Tx) (z w:Int):∀ k,FN (x::r) z w (k+1)=match FN r z w k with
  | some p=>some p
  | none=>match D3 x.images z w x.images.length with
   | some i=>some (i,x.seq)
   | none=>none
 | 0=>rfl
 | k+1=>by
  rw [FN,Rh x r z w k,FN,show (x::r).getD (k+1) tz=r.getD k tz from rfl];cases D3 (r.getD k tz).images z w (r.getD k tz).images.length <;> rfl
theorem ON {x:Gt} {a s:Int} {p:List UInt8} (he:x.err=0) (hx:x.bytes=CB a s p) (h:WL a s p):BO x a=some ⟨a,s,p⟩:=by
 obtain⟨h1,h2,h3,h4⟩:=J5 h;unfold BO;rw [he,hx,h1,h2,h3,h4,if_pos tA]
theorem TV {a s:Int} {p:List UInt8} {e:Ent} (h:WL a s p) (h8:p.length=8) (h1:e.stamp=s) (h2:((CJ p:Nat):Int)=e.sum):Di ⟨0,CB a s p⟩ a e=some p:=by
 unfold Di;rw [ON rfl rfl h];simp only;rw [if_pos ⟨h1.symm,h8,h2⟩]
theorem S2 {g:Geo} {a s:Int} {p:List UInt8} (h:WL a s p):CO g ⟨0,CB a s p⟩ a s=BX g p:=by
 unfold CO;rw [ON rfl rfl h];simp only [if_true]
def Ni (v:Int->List UInt8):Nat->List UInt8
 | 0=>zero8
 | k+1=>Hn (Ni v k) (v (k:Nat))
structure ZoneV (g:Geo) (a:An) (l:List Tx) (F:Int->List UInt8) (z:Int) (t:List Ent) (v:Int->List UInt8):Prop where
 tab:Gp g (Bl a l) F z=some t
 len:∀ w, -1<=w->w<g.d->(v w).length=8
 ent:∀ w, -1<=w->w<g.d->(t.getD (Ej g w).toNat ez).lost=false/\((CJ (v w):Nat):Int)=(t.getD (Ej g w).toNat ez).sum
 val:∀ w, -1<=w->w<g.d->match CC l z w with
  | some p=>p.1.bytes=v w/\(t.getD (Ej g w).toNat ez).stamp=p.2
  | none=>Di ⟨0,F (C3 g a z w)⟩ (C3 g a z w) (t.getD (Ej g w).toNat ez)=some (v w)
 par:v (-1)=Ni v g.d.toNat
def VolV (g:Geo) (a:An) (l:List Tx) (F:Int->List UInt8) (V:Int->Int->List UInt8):Prop:=∀ z,0<=z->z<g.z->∃ t,ZoneV g a l F z t (V z)
theorem ZoneV.one {g:Geo} {a:An} {l:List Tx} {F:Int->List UInt8} {z:Int} {t:List Ent} {v:Int->List UInt8} (h:ZoneV g a l F z t v) {w:Int} (hw : -1<=w/\w<g.d):Mp g (Bl a l) F t z w=v w:=by
 have:=h.val w hw.1 hw.2;unfold Mp;show (match CC l z w with | some p=>p.1.bytes | none=>_)=_;cases hf:CC l z w with
 | some p=>rw [hf] at this;exact this.1
 | none=>
  rw [hf] at this;simp only at this |-
  show (Di ⟨0,F (C3 g a z w)⟩ (C3 g a z w) (t.getD (Ej g w).toNat ez)).getD []=_;rw [this];try rfl
theorem XV {n:Int} {F:Int->List UInt8} {q:Int} (h0:0<=q) (h1:q<n):Kr n F q=F q:=if_pos ⟨by omega,h1⟩
theorem fold_zero:∀ k,Ni (fun _=>zero8) k=zero8
 | 0=>rfl
 | k+1=>by rw [Ni,fold_zero k];rfl
theorem Pw {g:Geo} (hg:Bt g=true):VolV g (Dg g).a (Dg g).l (Dg g).F fun _ _=>zero8:=by
 obtain⟨g1,g2,g3,g4,g5⟩:=As.1 hg;intro z h0 h1;obtain⟨k,rfl⟩:∃ k:Nat,z=(k:Nat):=⟨z.toNat,by omega⟩;have hcb:=HH hg;have hpb:=GJ hg;have ht0:=WS hg;have hzh:((Dg g).a.homes.getD k ⟨[],0,0⟩)=⟨(List.range (g.d+1).toNat).map Int.ofNat,g.d+1,0⟩:=by
  show (List.replicate g.z.toNat _).getD k _=_;rw [Aa,CV,if_pos (by omega)];try rfl
 have hF:∀ q,g.an+2*g.sl<=q->q<A3 g->(Dg g).F q=GT g ⟨#[]⟩ q:=fun q hq hq2=>by
  show Kr (A3 g) (QO g _) q=_;rw [XV (by omega) hq2];unfold QO;rw [if_neg (by omega)];exact if_neg (by omega)
 have hti:=J1 hg (z:=(k:Nat)) (k:=0) ⟨h0,h1⟩ (by omega);have htab:Gp g (Bl (Dg g).a (Dg g).l) (Dg g).F (k:Nat)=some (EC g):=by
  have hroot:EI (Dg g).a (Dg g).l (k:Nat)=0:=by
   show ((Dg g).a.homes.getD ((k:Nat):Int).toNat ⟨[],0,0⟩).root=0;rw [Ab,hzh]
  show (match CO g ⟨0,(Dg g).F (Bx g (k:Nat) 0)⟩ (Bx g (k:Nat) 0) (EI (Dg g).a (Dg g).l (k:Nat)) with | some t=>some t | none=>_)=_;have e:=PC (g:=g) (s:=⟨#[]⟩) (z:=k) (k:=0) (by omega) h1 (by omega);rw [hroot,hF _ hti.1 hti.2.2,show Bx g ((k:Nat):Int) (0:Int)=Bx g (k:Nat) ((0:Nat):Int) from rfl,e,S2 ⟨by show 0<=Bx g (k:Nat) 0;omega,by show Bx g (k:Nat) 0<=65535;omega,by omega,by omega,by rw [EB];unfold EC;rw [BD];omega⟩,GH ht0]
 have hent:∀ w, -1<=w->w<g.d->(EC g).getD (Ej g w).toNat ez=ent0:=fun w hw hw2=>by
  have hat:0<=Ej g w/\Ej g w<=g.d:=by unfold Ej;split <;> omega
  unfold EC;rw [Aa,CV,if_pos (by omega)];try rfl
 refine⟨EC g,htab,fun _ _ _=>rfl,fun w hw hw2=>?_,fun w hw hw2=>?_,(fold_zero _).symm⟩
 ·rw [hent w hw hw2];exact tA
 ·show Di ⟨0,(Dg g).F (C3 g (Dg g).a (k:Nat) w)⟩ (C3 g (Dg g).a (k:Nat) w) ((EC g).getD (Ej g w).toNat ez)=some zero8;have hat:0<=Ej g w/\Ej g w<=g.d:=by unfold Ej;split <;> omega
  have hadr:C3 g (Dg g).a (k:Nat) w=BF g (k:Nat) ((Ej g w).toNat:Nat):=by
   unfold C3;rw [Ab,hzh];congr 1;rw [Bd (d:=0) (by simp;omega),Aa,Bi (by omega)];try rfl
  have hsl:=GC hg (z:=(k:Nat)) (s:=((Ej g w).toNat:Nat)) ⟨h0,h1⟩ (by unfold C9;omega);rw [hadr,hF _ (by omega) hsl.2,Nl (by omega) (by omega) (by omega),hent w hw hw2];exact TV ⟨by omega,by omega,by omega,by omega,by decide⟩ rfl rfl rfl
theorem LS (l m:List Img) (z w:Int):∀ k,k<=l.length->D3 (l ++ m) z w k=D3 l z w k
 | 0,_=>rfl
 | k+1,hk=>by
  have e:(l ++ m).getD k iz=l.getD k iz:=by
   rw [Aa,Aa,A7 (by omega)]
  rw [D3,D3,e,LS l m z w k (by omega)]
theorem T4 (l m:List Img) (z w:Int):∀ k,k<=m.length->D3 (l ++ m) z w (l.length+k)=match D3 m z w k with
  | some i=>some i
  | none=>D3 l z w l.length
 | 0,_=>LS l m z w _ (Ag _)
 | k+1,hk=>by
  have e:(l ++ m).getD (l.length+k) iz=m.getD k iz:=by
   rw [Aa,Aa,A8 (by omega),Nat.add_sub_cancel_left]
  rw [<-DA,D3,D3,e];split
  ·rfl
  ·exact T4 l m z w k (by omega)
theorem I9 {l:List Img} {z w:Int} (h:∀ x∈l,x.zone≠z):∀ k,k<=l.length->D3 l z w k=none
 | 0,_=>rfl
 | k+1,hk=>by
  rw [D3,if_neg (fun q=>h _ (A5 (by omega)) q.1),I9 h k (by omega)]
def Tn (z:Int) (ats:List Int) (bs:List (List UInt8)) (w:Int):Option Img:=(Ec ats bs w.toNat ats.length).map fun b=>⟨z,w,b⟩
theorem Nq (z:Int) (ats:List Int) (bs:List (List UInt8)) (m:List Img) {w:Int} (hw:0<=w):∀ k,k<=ats.length->D3 (((List.range ats.length).map fun i=>(⟨z,ats.getD i 0,bs.getD i []⟩:Img)) ++ m) z w k=(Ec ats bs w.toNat k).map fun b=>⟨z,w,b⟩
 | 0,_=>rfl
 | k+1,hk=>by
  have e:(((List.range ats.length).map fun i=>(⟨z,ats.getD i 0,bs.getD i []⟩:Img)) ++ m).getD k iz=⟨z,ats.getD k 0,bs.getD k []⟩:=by
   rw [Aa,A7 (by simp;omega),AW,Bi (by omega)];try rfl
  rw [D3,e,Ec,Nq z ats bs m hw k (by omega)];by_cases h:ats.getD k 0=w
  ·rw [if_pos ⟨rfl,h⟩,if_pos (by rw [h];omega)];simp only [Du,h]
  ·rw [if_neg (fun q=>h q.2),if_neg (by omega)]
theorem GY (z:Int) (t:List Ent) (par:List UInt8) (ats:List Int) (bs:List (List UInt8)) (ha:∀ a∈ats,0<=a/\a<255) (w:Int) (hw:w=255\/(-1<=w/\w<255)):D3 (Ch z t par ats bs) z w (Ch z t par ats bs).length=if w=255 then some ⟨z,255,CF t⟩ else if w = -1 then some ⟨z, -1,par⟩ else Tn z ats bs w:=by
 have hl:=Fy z t par ats bs;have e1:(Ch z t par ats bs).getD (ats.length+1) iz=⟨z,255,CF t⟩:=by
  unfold Ch;rw [Aa,A8 (by simp),show ats.length+1 - ((List.range ats.length).map fun i=>(⟨z,ats.getD i 0,bs.getD i []⟩:Img)).length=1 by simp];try rfl
 have e0:(Ch z t par ats bs).getD ats.length iz=⟨z, -1,par⟩:=by
  unfold Ch;rw [Aa,A8 (by simp),show ats.length - ((List.range ats.length).map fun i=>(⟨z,ats.getD i 0,bs.getD i []⟩:Img)).length=0 by simp];try rfl
 rw [hl,D3,D3,e1,e0];by_cases h1:w=255
 ·rw [if_pos ⟨rfl,h1.symm⟩,if_pos h1]
 ·rw [if_neg (fun q=>h1 q.2.symm),if_neg h1];by_cases h2:w = -1
  ·rw [if_pos ⟨rfl,h2.symm⟩,if_pos h2]
  ·rw [if_neg (fun q=>h2 q.2.symm),if_neg h2];exact Nq z ats bs _ (by omega) _ (Ag _)
def St (V:Int->Int->List UInt8) (x:Tx) (z w:Int):List UInt8:=match D3 x.images z w x.images.length with
 | some i=>i.bytes
 | none=>V z w
def Z7 (g:Geo) (a:An) (l:List Tx) (F:Int->List UInt8) (x:Tx) (z:Int):Prop:=
 (∀ w,D3 x.images z w x.images.length=none)
 \/∃ t ats bs,Gp g (Bl a l) F z=some t/\ats.length=bs.length/\(∀ b∈bs,b.length=8)/\∀ w,w=255\/(-1<=w/\w<g.d)->D3 x.images z w x.images.length=if w=255 then some ⟨z,255,CF (B8 g t (EJ g (Bl a l) F t z) ats bs x.seq)⟩ else if w = -1 then some ⟨z, -1,EQ g t (EJ g (Bl a l) F t z) ats bs g.d.toNat⟩ else Tn z ats bs w
theorem YK {g:Geo} (hg:Bt g=true) {s:Stt} {F:Int->List UInt8} {t:List Ent} {z:Int} {i:Nat} (hi:(i:Int)<g.d):(EJ g s F t z).getD i []=Mp g s F t z (i:Nat):=by
 unfold EJ XF;rw [Aa,A7 (by simp;omega),AW,Bi (by omega)];try rfl
theorem WG {g:Geo} (hg:Bt g=true) {a:An} {l:List Tx} {x:Tx} (hseq:0<=x.seq/\x.seq<=4294967295) (hl:∀ t∈l,∀ y∈t.images,By g y=true) {F:Int->List UInt8} {V:Int->Int->List UInt8} (h:VolV g a l F V) (hx:∀ z,0<=z->z<g.z->Z7 g a l F x z):VolV g a (l ++ [x]) F (St V x):=by
 obtain⟨g1,g2,g3,g4,g5⟩:=As.1 hg;intro z h0 h1;obtain⟨t,ht⟩:=h z h0 h1;rcases hx z h0 h1 with hn | ⟨t',ats,bs,e1,e2,e3,e4⟩
 ·have hv:∀ w,St V x z w=V z w:=fun w=>by unfold St;rw [hn w]
  have hf:∀ w,CC (l ++ [x]) z w=CC l z w:=fun w=>by rw [GX,hn w]
  have hvz:St V x z=V z:=funext hv;refine⟨t,?_,fun w q1 q2=>by rw [hv];exact ht.len w q1 q2,fun w q1 q2=>by rw [hv];exact ht.ent w q1 q2,fun w q1 q2=>?_,by rw [hvz];exact ht.par⟩
  ·have:=ht.tab;unfold Gp EI at this |-
   show (match CC (l ++ [x]) z 255 with | some p=>_ | none=>match CO g _ _ (match CC (l ++ [x]) z 255 with | some p=>p.2 | none=>_) with | some t=>some t | none=>CO g _ _ (match CC (l ++ [x]) z 255 with | some p=>p.2 | none=>_))=_;rw [hf 255];exact this
  ·rw [hf w,hv];exact ht.val w q1 q2
 ·have et:t'=t:=by
   have:=ht.tab;rw [e1] at this;exact Option.some.inj this
  subst et;have htok:=RE ht.tab;have htl:=GM htok;have hhad:∀ i:Nat,(i:Int)<g.d->(EJ g (Bl a l) F t' z).getD i []=V z (i:Nat):=fun i hi=>by
   rw [YK hg hi];exact ht.one ⟨by omega,hi⟩
  have hatN:∀ i:Nat,(i:Int)<g.d->(Ej g (i:Nat)).toNat=i:=fun i hi=>by unfold Ej;rw [if_neg (by omega)];omega
  have hkn:∀ i:Nat,(i:Int)<g.d->BJ g t' (EJ g (Bl a l) F t' z) i=V z (i:Nat):=fun i hi=>by
   have:=(ht.ent (i:Nat) (by omega) hi).1;rw [hatN i hi] at this;unfold BJ;rw [this,if_neg (by decide),hhad i hi,if_pos (by rw [ht.len (i:Nat) (by omega) hi];decide)]
  have hup:∀ i:Nat,(i:Int)<g.d->St V x z (i:Nat)=FY g t' (EJ g (Bl a l) F t' z) ats bs i:=fun i hi=>by
   have e:=e4 (i:Nat) (.inr ⟨by omega,hi⟩);rw [if_neg (by omega),if_neg (by omega)] at e;unfold St FY;rw [e,Tn,Ab];cases Ec ats bs i ats.length with
   | some b=>rfl
   | none=>exact(hkn i hi).symm
  have hbn:∀ i:Nat,(i:Int)<g.d->(FY g t' (EJ g (Bl a l) F t' z) ats bs i).length=8:=fun i hi=>by
   unfold FY;cases hp:Ec ats bs i ats.length with
   | some b=>exact JD e3 (by omega) _ b (Ag _) hp
   | none=>
    show (BJ g t' _ i).length=8;rw [hkn i hi];exact ht.len (i:Nat) (by omega) hi
  have hpar:∀ k:Nat,(k:Int)<=g.d->EQ g t' (EJ g (Bl a l) F t' z) ats bs k=Ni (St V x z) k:=by
   intro k;induction k with
   | zero=>intro _;rfl
   | succ k ih=>
    intro hk;rw [EQ,if_neg (by rw [hbn k (by omega)];decide),ih (by omega),Ni,hup k (by omega)]
  have hpv:St V x z (-1)=EQ g t' (EJ g (Bl a l) F t' z) ats bs g.d.toNat:=by
   have e:=e4 (-1) (.inr ⟨by omega,by omega⟩);rw [if_neg (by omega),if_pos rfl] at e;unfold St;rw [e]
  have hhb:∀ b∈EJ g (Bl a l) F t' z,b.length=0\/b.length=8:=fun b hb=>by
   unfold EJ XF at hb;rcases A4.1 hb with q | q
   ·obtain⟨i,hi,rfl⟩:=AK.1 q;exact I_ (s:=Bl a l) hl (by have:=AO.1 hi;omega)
   ·rw [AF] at q;subst q;exact I_ (s:=Bl a l) (w:= -1) hl (by decide)
  have hpl:(EQ g t' (EJ g (Bl a l) F t' z) ats bs g.d.toNat).length=8:=Gx hhb e3 (by omega) _;have hwt:=Fs (g:=g) (t:=t') (had:=EJ g (Bl a l) F t' z) (ats:=ats) (bs:=bs) hg htok (stamp:=x.seq) hseq;have htab:Gp g (Bl a (l ++ [x])) F z=some (B8 g t' (EJ g (Bl a l) F t' z) ats bs x.seq):=by
   have e:=e4 255 (.inl rfl);rw [if_pos rfl] at e;unfold Gp;show (match CC (l ++ [x]) z 255 with | some p=>BX g p.1.bytes | none=>_)=_;rw [GX,e];exact GH hwt
  have hent:∀ i:Nat,(i:Int)<g.d->(B8 g t' (EJ g (Bl a l) F t' z) ats bs x.seq).getD i ez=match Ec ats bs i ats.length with
    | some b=>⟨x.seq,(CJ b:Nat),false⟩
    | none=>t'.getD i ez:=fun i hi=>by
   unfold B8;rw [Aa,A7 (by simp;omega),AW,Bi (by omega)];show Ja g t' _ ats bs x.seq i=_;unfold Ja;rw [if_neg (by rw [hbn i hi];decide)];cases Ec ats bs i ats.length <;> rfl
  have hentp:(B8 g t' (EJ g (Bl a l) F t' z) ats bs x.seq).getD (Ej g (-1)).toNat ez=⟨x.seq,(CJ (St V x z (-1)):Nat),false⟩:=by
   rw [show (Ej g (-1)).toNat=g.d.toNat by unfold Ej;rw [if_pos rfl]];unfold B8;rw [Aa,A8 (by simp),show g.d.toNat - ((List.range g.d.toNat).map (Ja g t' (EJ g (Bl a l) F t' z) ats bs x.seq)).length=0 by simp,hpv];try rfl
  refine⟨_,htab,fun w q1 q2=>?_,fun w q1 q2=>?_,fun w q1 q2=>?_,?_⟩
  ·by_cases hw:w = -1
   ·rw [hw,hpv];exact hpl
   ·obtain⟨i,rfl⟩:∃ i:Nat,w=(i:Nat):=⟨w.toNat,by omega⟩;rw [hup i q2];exact hbn i q2
  ·by_cases hw:w = -1
   ·rw [hw,hentp];exact tA
   ·obtain⟨i,rfl⟩:∃ i:Nat,w=(i:Nat):=⟨w.toNat,by omega⟩;rw [hatN i q2,hent i q2,hup i q2];unfold FY;cases hp:Ec ats bs i ats.length with
    | some b=>exact tA
    | none=>
     have:=ht.ent (i:Nat) q1 q2;rw [hatN i q2] at this;simp only;rw [hkn i q2];exact this
  ·rw [GX];have e:=e4 w (.inr ⟨q1,q2⟩);rw [if_neg (by omega)] at e;by_cases hw:w = -1
   ·subst hw;rw [if_pos rfl] at e;rw [e,hentp,hpv];exact tA
   ·obtain⟨i,rfl⟩:∃ i:Nat,w=(i:Nat):=⟨w.toNat,by omega⟩;rw [if_neg hw,Tn,Ab] at e;rw [e,hatN i q2,hent i q2,hup i q2];unfold FY;cases hp:Ec ats bs i ats.length with
    | some b=>exact tA
    | none=>
     have:=ht.val (i:Nat) q1 q2;rw [hatN i q2] at this;simp only [Option.map_none];rw [hkn i q2];exact this
  ·rw [hpv];exact hpar _ (by omega)
theorem YS {g:Geo} (hg:Bt g=true) {a:An} {l:List Tx} {F:Int->List UInt8} {lba:Int} {b:List UInt8} (hlba:0<=lba/\lba<g.z*g.d) (hb:b.length=8) (ht:(Gp g (Bl a l) F (lba.tdiv g.d)).isSome=true):∀ z,0<=z->z<g.z->Z7 g a l F (IB g a l F lba b) z:=by
 obtain⟨g1,g2,g3,g4,g5⟩:=As.1 hg;intro z h0 h1;obtain⟨t,ht⟩:=Cr.1 ht;have hm:0<=lba.tmod g.d/\lba.tmod g.d<g.d:=⟨Bf _ hlba.1,AL _ (by omega)⟩;have ei:(IB g a l F lba b).images=Ch (lba.tdiv g.d) (B8 g t (EJ g (Bl a l) F t (lba.tdiv g.d)) [lba.tmod g.d] [b] (a.seq+(l.length:Int))) (EQ g t (EJ g (Bl a l) F t (lba.tdiv g.d)) [lba.tmod g.d] [b] g.d.toNat) [lba.tmod g.d] [b]:=by
  show Jg g (Bl a l) F _ lba b=_;unfold Jg;rw [ht]
 by_cases hz:z=lba.tdiv g.d
 ·refine .inr ⟨t, [lba.tmod g.d], [b],by rw [hz];exact ht,rfl,fun x hx=>by rw [AF] at hx;rw [hx];exact hb,fun w hw=>?_⟩;rw [ei,hz];exact GY _ _ _ _ _ (fun x hx=>by rw [AF] at hx;omega) w (by omega)
 ·refine .inl fun w=>?_
  rw [ei];refine I9 (fun y hy=>?_) _ (Ag _);have:y.zone=lba.tdiv g.d:=by
   unfold Ch at hy;rcases A4.1 hy with q | q
   ·obtain⟨i, -,rfl⟩:=AK.1 q;rfl
   ·simp only [Bb,List.not_mem_nil,or_false] at q;rcases q with rfl | rfl <;> rfl
  rw [this];exact fun e=>hz e.symm
theorem YR {g:Geo} (hg:Bt g=true) {a:An} {l:List Tx} {F:Int->List UInt8} {lba:Int} {b:List UInt8} (hlba:0<=lba/\lba<g.z*g.d) (ht:(Gp g (Bl a l) F (lba.tdiv g.d)).isSome=true) (V:Int->Int->List UInt8) {z w:Int} (hw:0<=w/\w<g.d):St V (IB g a l F lba b) z w=if z=lba.tdiv g.d/\w=lba.tmod g.d then b else V z w:=by
 obtain⟨g1,g2,g3,g4,g5⟩:=As.1 hg;obtain⟨t,ht⟩:=Cr.1 ht;have hm:0<=lba.tmod g.d/\lba.tmod g.d<g.d:=⟨Bf _ hlba.1,AL _ (by omega)⟩;have ei:(IB g a l F lba b).images=Ch (lba.tdiv g.d) (B8 g t (EJ g (Bl a l) F t (lba.tdiv g.d)) [lba.tmod g.d] [b] (a.seq+(l.length:Int))) (EQ g t (EJ g (Bl a l) F t (lba.tdiv g.d)) [lba.tmod g.d] [b] g.d.toNat) [lba.tmod g.d] [b]:=by
  show Jg g (Bl a l) F _ lba b=_;unfold Jg;rw [ht]
 unfold St;rw [ei];by_cases hz:z=lba.tdiv g.d
 ·rw [hz,GY _ _ _ _ _ (fun x hx=>by rw [AF] at hx;omega) w (by omega),if_neg (by omega),if_neg (by omega)];have ep:Tn (lba.tdiv g.d) [lba.tmod g.d] [b] w=if lba.tmod g.d=((w.toNat:Nat):Int) then some ⟨lba.tdiv g.d,w,b⟩ else none:=by
   show ((if lba.tmod g.d=((w.toNat:Nat):Int) then some b else none:Option (List UInt8)).map fun b=>(⟨lba.tdiv g.d,w,b⟩:Img))=_;split <;> rfl
  rw [ep];by_cases e:lba.tmod g.d=((w.toNat:Nat):Int)
  ·rw [if_pos e,if_pos ⟨rfl,by omega⟩]
  ·rw [if_neg e,if_neg (fun q:_/\_=>e (by omega))]
 ·rw [if_neg (fun q=>hz q.1),I9 (fun y hy=>?_) _ (Ag _)];have:y.zone=lba.tdiv g.d:=by
   unfold Ch at hy;rcases A4.1 hy with q | q
   ·obtain⟨i, -,rfl⟩:=AK.1 q;rfl
   ·simp only [Bb,List.not_mem_nil,or_false] at q;rcases q with rfl | rfl <;> rfl
  rw [this];exact fun e=>hz e.symm
theorem RR {g:Geo} {b:List UInt8} {t:List Ent} (h:BX g b=some t):t.length=(g.d+1).toNat:=by
 unfold BX at h;split at h
 ·rw [<-Option.some.inj h,entsOf_len]
 ·cases h
theorem OE {g:Geo} {x:Gt} {q r:Int} {t:List Ent} (h:CO g x q r=some t):t.length=(g.d+1).toNat:=by
 rw [KX] at h;split at h
 ·exact RR h
 ·cases h
def O0 (g:Geo) (i:Nat):Int:=if (i:Int)=g.d then -1 else (i:Nat)
theorem XH (g:Geo) (s:Stt) (d:Dk) (a:Int) (h:DkOk d) (ha:0<=a/\a<d.cells.length) :
  ACalls Tryz.prog false 138 [.bp 0 0,iv a] (F5 g s d) fun r H=>r = .ag (DJ ⟨(d.read a).2.2,(d.read a).2.1⟩)/\H=F5 g s (d.read a).1:=by
 have hr:=VR BM d a h.l ha h.m (fun c hc=>by have:=(h.c c hc).2.1;omega) (fun w hw=>by have:=(h.w w hw).2;omega);refine zS tys_ok Tryz.func138 rfl rfl (Ah rfl) ?_;conv=>whnf
 refine zh [1,2,3] hr ?_;rintro _ _ ⟨rfl,rfl⟩;exact⟨_, .ag (DJ ⟨(d.read a).2.2,(d.read a).2.1⟩),F5 g s (d.read a).1,fun _ _ h=>h,zR (s:= [0,1,2,3,4]) tA,rfl,rfl⟩
theorem PV (g:Geo) (s:Stt) (d:Dk) (a:Int) (b:List UInt8) (h:DkOk d) (ha:0<=a/\a<d.cells.length) (hb:b.length<=200) :
  ACalls Tryz.prog false 182 [.bp 0 0,iv a,bA b] (F5 g s d) fun r H=>r = .tp [.v (.bool (decide ((d.write a b).2=0))),iv (if (d.write a b).2=8 then 8 else 0)]/\H=F5 g s (d.write a b).1:=by
 have hr:=TE BM d a b h.l ha h.m (by omega);have he:(d.write a b).2=8\/(d.write a b).2=7\/(d.write a b).2=0:=by
  unfold Dk.write;split
  ·exact .inl rfl
  ·split
   ·exact .inr (.inl rfl)
   ·exact .inr (.inr rfl)
 generalize d.write a b=q at hr he |-
 obtain⟨d',e⟩:=q;simp only at hr he |-
 refine zS tys_ok Tryz.func182 rfl rfl (Ah rfl) ?_;conv=>whnf
 refine zh [1,2,3] hr ?_;rintro _ _ ⟨rfl,rfl⟩;rcases he with rfl | rfl | rfl
 all_goals
  exact⟨_,_,F5 g s d',fun _ _ h=>h,zR (s:= [0,1,2,3,4]) tA,rfl,rfl⟩
structure Gr where
 f:Int->Gt
 cells:List Cel
 cache:List Wr
instance:CoeFun Gr fun _=>Int->Gt:=⟨Gr.f⟩
structure Gs (n:Int) (d:Dk) (G:Gr):Prop where
 ok:DkOk d
 left:d.left = -1
 len:(d.cells.length:Int)=n
 got:∀ a:Int,0<=a->a<n->d.got a=((G a).bytes,(G a).err)
 cells:d.cells=G.cells
 cache:d.cache=G.cache
theorem Gs.req {n:Int} {d:Dk} {G:Gr} (h:Gs n d G):Gs n d.req G:=⟨h.ok.req,by unfold Dk.req;rw [h.left];try rfl,h.len,h.got,h.cells,h.cache⟩
theorem Gs.read {n:Int} {d:Dk} {G:Gr} (h:Gs n d G) {a:Int} (h0:0<=a) (h1:a<n):d.read a=(d.req,(G a).bytes,(G a).err):=by
 unfold Dk.read;rw [if_neg (by rw [h.left];decide),h.got a h0 h1]
def DW (d:Dk):Gr:=⟨fun a=>⟨(d.got a).2,(d.got a).1⟩,d.cells,d.cache⟩
theorem Gs.of {n:Int} {d:Dk} (h:DkOk d) (hl:d.left = -1) (hn:(d.cells.length:Int)=n):Gs n d (DW d):=⟨h,hl,hn,fun _ _ _=>rfl,rfl,rfl⟩
def EV (g:Geo) (s:Stt) (G:Gr) (z:Int):Option (List Ent):=match CC s.txns z 255 with
 | some p=>BX g p.1.bytes
 | none=>match CO g (G (Bx g z 0)) (Bx g z 0) (EI s.a s.txns z) with
  | some t=>some t
  | none=>CO g (G (Bx g z 1)) (Bx g z 1) (EI s.a s.txns z)
def DB (g:Geo) (s:Stt) (G:Gr) (t:List Ent) (z w:Int):List UInt8:=match CC s.txns z w with
 | some p=>p.1.bytes
 | none=>(Di (G (C3 g s.a z w)) (C3 g s.a z w) (t.getD (Ej g w).toNat ez)).getD []
def E9 (g:Geo) (s:Stt) (G:Gr) (t:List Ent) (z:Int):List (List UInt8):=(List.range (g.d.toNat+1)).map fun i=>DB g s G t z (O0 g i)
theorem Yt {g:Geo} (hg:Bt g=true) {s:Stt} {G:Gr} {z:Int} {t:List Ent} (h:EV g s G z=some t):(t.length:Int)=g.d+1:=by
 have g5:=As.1 hg;have:t.length=(g.d+1).toNat:=by
  unfold EV at h;split at h
  ·exact RR h
  ·split at h
   ·rename_i q;rw [<-Option.some.inj h];exact OE q
   ·exact OE h
 omega
theorem Se (g:Geo) (s:Stt) (d:Dk) (G:Gr) (a:Int) (h:Gs (A3 g) d G) (ha:0<=a/\a<A3 g) :
  ACalls Tryz.prog false 138 [.bp 0 0,iv a] (F5 g s d) fun r H=>r = .ag (DJ (G a))/\∃ d',Gs (A3 g) d' G/\H=F5 g s d':=by
 have hr:=XH g s d a h.ok (by rw [h.len];exact ha);rw [h.read ha.1 ha.2] at hr;exact hr.mono fun r H hh=>⟨hh.1,d.req,h.req,hh.2⟩
end
end Go.Proofs.YtepdhdfoipephaaGreatDoor.A
