/-
Several texts in one.
-/
import Derived.Test.YtepdhdfoipephaaGreatDoorPPD1P3
import Derived.Test.YtepdhdfoipephaaGreatDoorPPD1P2
import Derived.Test.YtepdhdfoipephaaGreatDoorPPD1P1
import Derived.Maps.OwnSet
set_option maxRecDepth 100000
set_option maxHeartbeats 8000000
set_option linter.unusedSimpArgs false
set_option linter.unusedVariables false
set_option linter.deprecated false
namespace Go.Proofs.YtepdhdfoipephaaGreatDoor.A
section
open Go.RowKit
theorem XV {x y:Wr} (h1:x.addr=y.addr) (h2:x.bytes=y.bytes):x=y:=by
 cases x;cases y;simp_all
theorem Sm (l m:List Wr) (hl:l.length<=1000000000) (hb:∀ x∈l,x.bytes.length<=100000000000):Fn Tryz.prog 58 [I8 l,I8 m] fun r=>r = .v (.bool (decide (l=m))):=by
 refine zT Tryz.func58 rfl ?_;conv=>whnf
 refine A8 (fun h=>?_) (fun h=>?_) <;> (repeat rw [Ab] at h) <;> conv=>whnf
 ·exact⟨_,ri,by rw [decide_eq_false (fun e=>h (by rw [e]))]⟩
 refine zP Nat (fun k=>([(0,I8 l),(1,I8 m),(5,iv k)], [])) (fun k=>k<=l.length/\l.take k=m.take k) (fun k=>l.length - k) 0 ⟨Aj _,by simp⟩ ⟨[],tv,tA,tv,rfl,rfl,rfl⟩ ?_;rintro k ⟨hk,hI⟩;conv=>whnf
 refine A8 (fun h2=>?_) (fun h2=>?_) <;> (repeat rw [Ab] at h2) <;> conv=>whnf
 ·have hm:=hb _ (A7 (d:=⟨0, []⟩) (show k<l.length by omega));refine zM tys_ok mixed (by kernel_rfl) ?_;conv=>whnf
  repeat' (first | (refine zZ ?_;conv=>whnf) | (refine A8 (fun _=>?_) (fun _=>?_) <;> conv=>whnf) | (refine z_ (Hz (l.getD k ⟨0, []⟩).bytes (m.getD k ⟨0, []⟩).bytes hm) ?_;conv=>whnf) | (refine Af (by first | omega | exact of_decide_eq_true rfl) ?_;conv=>whnf) | fail)
  all_goals first
   | exact⟨_,ri,by rw [decide_eq_false (Ip (fun e=>absurd (congrArg Wr.addr e) ‹_›))]⟩
   | exact⟨_,ri,by rw [decide_eq_false (Ip (fun e=>absurd (congrArg Wr.bytes e) ‹_›))]⟩
   | exact⟨k+1,⟨by omega,IF hI (by omega) (by omega) (XV ‹_› ‹_›)⟩,by omega,⟨[],tv,⟨rfl,rfl,AS (by omega),tv⟩,tv,rfl,rfl,rfl⟩⟩
 ·exact⟨_,ri,by rw [decide_eq_true (LP hI (by omega) (by omega))]⟩
def TxJ (g:Geo) (a:An) (x y:List Gt) (pos seq left:Int) (k:Nat) (of_:Int) (ims:List Img) (more:List Wr):Prop:=
 (k=0/\of_=0/\ims=[]/\more=[])\/((1<=k/\(k:Int)<=of_/\of_<=30/\of_<=left/\ims.length<=k/\more.length<=k)/\∃ r im,ims=(if r.kind=1 then im ++ [r.img] else im)/\
  FP g a x y pos seq left=(let t:=B8 (fun j=>D7 g a x y pos seq left j of_) (of_ - k).toNat k r im more
   if t.1≠1 then (t.1,0, [], []) else (1,of_,t.2.1,t.2.2)))
section
variable {g:Geo} {a:An} {x y:List Gt} {pos seq left:Int}
theorem V7 {look:Int->Rc × Int × List Wr} {f:Nat} {k:Int} {r:Rc} {im:List Img} {w:List Wr} (h:(look k).2.1=1):B8 look (f+1) k r im w=B8 look f (k+1) (look k).1 (if r.kind=1 then im ++ [r.img] else im) (w ++ (look k).2.2):=by
 conv=>lhs;unfold B8
 dsimp only;rw [if_neg (not_not_intro h)]
theorem V6 {look:Int->Rc × Int × List Wr} {f:Nat} {k:Int} {r:Rc} {im:List Img} {w:List Wr} (h:(look k).2.1≠1):B8 look (f+1) k r im w=((look k).2.1, [], []):=by
 conv=>lhs;unfold B8
 dsimp only;rw [if_pos h]
theorem TxJ.step {k:Nat} {of_:Int} {ims:List Img} {more:List Wr} (h:TxJ g a x y pos seq left k of_ ims more) (hk:k=0\/(k:Int)<of_) {q:Rc × Int × List Wr} (hq:D7 g a x y pos seq left (k:Nat) of_=q) (h1:q.2.1=1) (ho:DR g q.1=true) (hi:DA q.1 a seq (k:Nat) of_ left=true) (hw:q.2.2.length<=1) :
  TxJ g a x y pos seq left (k+1) q.1.of_ (if q.1.kind=1 then ims ++ [q.1.img] else ims) (more ++ q.2.2):=by
 have hN:=J6 ho hi;have hlen:(if q.1.kind=1 then ims ++ [q.1.img] else ims).length<=ims.length+1:=by split <;> simp
 rcases h with ⟨rfl,rfl,rfl,rfl⟩ | ⟨⟨k1,k2,k3,k4,k5,k6⟩,r,im,e1,e2⟩
 ·refine .inr ⟨⟨by omega,by omega,by omega,hN.2.2.2.2.1 rfl,by simpa using hlen,by simpa using hw⟩,q.1, [],rfl,?_⟩;have hq:D7 g a x y pos seq left 0 0=q:=hq;unfold FP;dsimp only;rw [hq,if_neg (not_not_intro h1)];simp only [Br];rfl
 ·have eo:q.1.of_=of_:=hN.2.2.2.2.2 (by omega);have hk:=hk.resolve_left (by omega);refine .inr ⟨⟨by omega,by omega,by omega,by omega,by omega,by rw [Ai];omega⟩,q.1,ims,rfl,?_⟩;rw [e2,eo];obtain⟨m,hm⟩:∃ m:Nat,(of_ - k).toNat=m+1:=⟨(of_ - k).toNat - 1,by omega⟩;rw [hm,V7 (by rw [hq];exact h1),hq,<-e1,show (of_ - ((k+1:Nat):Int)).toNat=m by omega,show ((k:Int)+1)=((k+1:Nat):Int) by omega]
theorem TxJ.stop {k:Nat} {of_:Int} {ims:List Img} {more:List Wr} (h:TxJ g a x y pos seq left k of_ ims more) (hk:k=0\/(k:Int)<of_) {q:Rc × Int × List Wr} (hq:D7 g a x y pos seq left (k:Nat) of_=q) (h1:q.2.1≠1):FP g a x y pos seq left=(q.2.1,0, [], []):=by
 rcases h with ⟨rfl,rfl,rfl,rfl⟩ | ⟨⟨k1,k2,k3,k4,k5,k6⟩,r,im,e1,e2⟩
 ·have hq:D7 g a x y pos seq left 0 0=q:=hq;unfold FP;dsimp only;rw [hq,if_pos h1]
 ·have hk:=hk.resolve_left (by omega);obtain⟨m,hm⟩:∃ m:Nat,(of_ - k).toNat=m+1:=⟨(of_ - k).toNat - 1,by omega⟩;rw [e2,hm,V6 (by rw [hq];exact h1),hq];dsimp only;rw [if_pos h1]
theorem TxJ.fin {k:Nat} {of_:Int} {ims:List Img} {more:List Wr} (h:TxJ g a x y pos seq left k of_ ims more) (hk:¬(k=0\/(k:Int)<of_)):FP g a x y pos seq left=(1,of_,ims,more):=by
 rcases h with ⟨rfl,rfl,rfl,rfl⟩ | ⟨⟨k1,k2,k3,k4,k5,k6⟩,r,im,e1,e2⟩
 ·exact absurd (.inl rfl) hk
 ·rw [e2,show (of_ - k).toNat=0 by omega];unfold B8;dsimp only;rw [if_neg (by decide),<-e1]
theorem TxJ.len {k:Nat} {of_:Int} {ims:List Img} {more:List Wr} (h:TxJ g a x y pos seq left k of_ ims more):k<=30/\ims.length<=30/\more.length<=30/\0<=of_/\of_<=30:=by
 rcases h with ⟨rfl,rfl,rfl,rfl⟩ | ⟨⟨k1,k2,k3,k4,k5,k6⟩, -⟩
 ·simp
 ·omega
end
theorem UE (g:Geo) (a:An) (x y:List Gt) (hg:Bp g=true) (ha:Bu g a=true) (hx:(x.length:Int)=g.sl) (hy:(y.length:Int)=g.sl) (hxb:∀ z∈x,z.bytes.length<=100000) (hyb:∀ z∈y,z.bytes.length<=100000) :
  Fn Tryz.prog 201 [.ag (AZ g), .ag (EH a),FH x,FH y] fun r=>r = .tp [Ef (DT g a x y).1,I8 (DT g a x y).2.1, .v (.int .i64 (DT g a x y).2.2)]:=by
 obtain⟨h1,h2,h3,h4,h5⟩:=As.1 hg;have hq:=Jh ha;refine zT Tryz.func201 rfl ?_;conv=>whnf
 refine z7 tys_ok mixed [0,1,2,3,4,5,6,7,8] (by kernel_rfl) ?_;conv=>whnf
 unfold DT;generalize hR:E7 g a x y g.sl.toNat a.pos a.seq g.sl [] []=R;refine zP (Nat × Int × Int × Int × List Tx × List (List AV) × List Wr) (fun z=>([(2,FH x),(3,FH y),(4, .bp 0 0),(5, .bp 1 0),(8, .v (.slice none 0 0)),(9, .v (.slice none 0 0)),(10,iv 0),(11, .ow 2 z.2.2.2.2.2.1.length),(12, .ow 3 z.2.2.2.2.2.2.length),(13,iv z.2.1),(14,iv z.2.2.1),(15,iv z.2.2.2.1)], [.box 23 (AZ g), .box 33 (EH a), .row 112 4 z.2.2.2.2.2.1, .row 134 2 (z.2.2.2.2.2.2.map Eu)]))
  (fun z=>E7 g a x y z.1 z.2.1 z.2.2.1 z.2.2.2.1 z.2.2.2.2.1 z.2.2.2.2.2.2=R/\z.2.2.2.1<=z.1/\(0<=z.2.1/\z.2.1<g.sl)/\(0<=z.2.2.1/\z.2.2.1<=4294967296)/\(z.2.2.2.2.1.length*2+z.2.2.2.1<=g.sl/\0<=z.2.2.2.1)/\z.2.2.2.2.2.2.length<=z.2.2.2.2.1.length*30/\SubLL z.2.2.2.2.2.1 (z.2.2.2.2.1.map Ea))
  (fun z=>z.1) (g.sl.toNat,a.pos,a.seq,g.sl, [], [], []) ⟨hR,show g.sl<=(g.sl.toNat:Int) by omega,hq.2,hq.1,⟨show (0:Int)*2+g.sl<=g.sl by omega,show 0<=g.sl by omega⟩,Ag 0,tv⟩ ⟨[(11,112,4),(12,134,2)],tA,tA,tA,rfl,rfl,rfl⟩ ?_
 rintro⟨f,pos,seq,left,l,rl,w⟩ ⟨b1,b2,b3,b4,b5,b6,b7⟩;dsimp only at b1 b2 b3 b4 b5 b6 b7 |-
 have b8:rl.length=l.length:=by have:=b7.len;rwa [Ac] at this
 conv=>whnf
 refine A8 (fun c1=>?A) (fun c1=>?B)
 case' A=>conv=>whnf
 case' A=>refine A8 (fun c2=>?A1) (fun c2=>?A2)
 case A1=>
  conv=>whnf
  cases f with
  | zero=>exfalso;omega
  | succ f=>
   unfold E7 at b1;rw [if_pos ⟨c1,c2⟩] at b1;dsimp only at b1;have tf:=Ig (a:=a) (x:=x) (y:=y) (seq:=seq) (left:=left) hg b3;refine zP (Nat × Int × List Img × List Wr) (fun z=>([(2,FH x),(3,FH y),(4, .bp 0 0),(5, .bp 1 0),(8, .v (.slice none 0 0)),(9, .v (.slice none 0 0)),(10,iv 0),(11, .ow 2 rl.length),(12, .ow 3 w.length),(13,iv pos),(14,iv seq),(15,iv left),(16, .bp 4 0),(17, .ow 6 z.2.2.2.length),(18,iv z.2.1),(19,iv 1),(20,iv z.1)], [.box 23 (AZ g), .box 33 (EH a), .row 112 4 rl, .row 134 2 (w.map Eu), .box 112 [iv seq,iv pos,iv 0, .ow 5 z.2.2.1.length], .row 166 3 (z.2.2.1.map Ds), .row 134 2 (z.2.2.2.map Eu)]))
    (fun z=>TxJ g a x y pos seq left z.1 z.2.1 z.2.2.1 z.2.2.2) (fun z=>31 - z.1) (0,0, [], []) (.inl tA) ⟨[(1004003,166,3),(17,134,2)],tA,tA,tA,rfl,rfl,rfl⟩ ?_
   rintro⟨k,of_,ims,more⟩ hJ;dsimp only at hJ |-
   have hJl:=hJ.len;conv=>whnf
   refine A8 (fun d1=>?C) (fun d1=>?D)
   case' D=>conv=>whnf
   case' D=>refine A8 (fun d2=>?D1) (fun d2=>?D2)
   case D2=>
    conv=>whnf
    have hT:=hJ.fin (by omega);rw [hT] at b1 tf;dsimp only at b1 tf;rw [if_neg (by decide),if_neg (by decide)] at b1;obtain⟨-,⟨n1,n2,n3⟩,n4⟩:=tf.resolve_right (by omega);have hm:=AR (pos+of_) (show 0<g.sl by omega);have hm0:=Bc g.sl (show 0<=pos+of_ by omega);have w1:IntKind.i64.wrap (pos+of_)=pos+of_:=wi (by omega);have w2:IntKind.i64.wrap (seq+1)=seq+1:=wi (by omega);have w3:IntKind.i64.wrap (left - of_)=left - of_:=wi (by omega);refine⟨(by rw [Ac]),?_⟩;refine⟨rfl,?_⟩;refine⟨⟨rfl,by omega⟩,?_⟩;refine⟨(by rw [Ac]),?_⟩;refine⟨⟨by rw [Ac],by omega⟩,?_⟩;conv=>whnf
    rw [w1];refine⟨by omega,?_⟩;conv=>whnf
    rw [w2,w3];refine⟨(f,(pos+of_).tmod g.sl,seq+1,left - of_,l ++ [⟨seq,pos,of_,ims⟩],rl ++ [[iv seq,iv pos,iv of_, .sl 3 ims.length fun i=>(ims.map Ds).getD i []]],w ++ more),⟨b1,by dsimp only;omega,⟨hm0,hm⟩,by dsimp only;omega,?_,?_,?_⟩,Nat.lt_succ_self f, [],tv,⟨rfl,rfl,rfl,rfl,rfl,rfl,rfl,by rw [Ai];try rfl,by rw [Ai];try rfl,rfl,rfl,rfl,tv⟩,⟨rfl,rfl,rfl,by rw [A3],tv⟩,rfl,rfl,rfl⟩
    ·dsimp only;rw [Ai];simp only [Ap,Bb];omega
    ·dsimp only;rw [Ai,Ai];simp only [Ap,Bb];omega
    ·dsimp only;rw [A3];refine SubLL.app ?_ b7;exact⟨fun _ _ h=>h,fun _ _ h=>h,fun _ _ h=>h,B5 (f:=Ds) ims rfl rfl,tv⟩
   all_goals
    conv=>whnf
    have hk:k=0\/(k:Int)<of_:=by omega
    have hsl:=He (at_:=(k:Nat)) hg b3 (by omega);obtain⟨s,es⟩:=Int.eq_ofNat_of_zero_le hsl.1;have es2:(IntKind.i64.wrap (pos+(k:Nat))).tmod g.sl=(s:Nat):=es;have hs1:(s:Int)<g.sl:=by rw [es] at hsl;exact hsl.2
    have hin:C5 (s:Nat) 0 (g.sl - 1)=true:=AF.2 (by omega);have rl1:=UK g a (x.getD s gz) (y.getD s gz) (s:Nat) seq (k:Nat) of_ left hg hin (hxb _ (A7 (by omega))) (hyb _ (A7 (by omega)));have hF:=Kb (g:=g) (a:=a) (x:=x.getD s gz) (y:=y.getD s gz) (slot:=(s:Nat)) (seq:=seq) (at_:=(k:Nat)) (of_:=of_) (left:=left) ⟨by omega,hs1⟩;have hrec:D7 g a x y pos seq left (k:Nat) of_=((Ez g a (x.getD s gz) (y.getD s gz) (s:Nat) seq (k:Nat) of_ left).1,(Ez g a (x.getD s gz) (y.getD s gz) (s:Nat) seq (k:Nat) of_ left).2.2,(Ez g a (x.getD s gz) (y.getD s gz) (s:Nat) seq (k:Nat) of_ left).2.1.map fun c=>⟨Bf g c (s:Nat),BU g (Ez g a (x.getD s gz) (y.getD s gz) (s:Nat) seq (k:Nat) of_ left).1 c (s:Nat)⟩):=by
     unfold D7;dsimp only;rw [es,Ab]
    generalize Ez g a (x.getD s gz) (y.getD s gz) (s:Nat) seq (k:Nat) of_ left=Q at rl1 hF hrec;refine zZ ?_;refine⟨by omega,?_⟩;conv=>whnf
    rw [es2];conv=>whnf
    apply zL tys_ok mixed (.o [0,1,2,3,4,5,6,7,8,9,10,11,12,13,14] (.two 15 (.o [16,17,18,19,20,21,22,23] .fin) 20 (.o [15,16,17,18,19,21,22,23] .fin))) [22,23,24,60,61,62,63,64,65,66,67,68,69,70,71,72,73,74,75,76,77,78,79] (by kernel_rfl)
    ·conv=>whnf
     try (refine Af (by first | omega | exact ixA | exact ixB | (simp;done)) ?_;conv=>whnf)
     try (refine Af (by first | omega | exact ixA | exact ixB | (simp;done)) ?_;conv=>whnf)
     refine Af ?_ ?_
     ·conv=>whnf
      refine z_ rl1 ?_;conv=>whnf
      try (refine tS ?_;conv=>whnf)
      exact tA
     ·conv=>whnf
      refine z_ rl1 ?_;conv=>whnf
      try (refine tS ?_;conv=>whnf)
      exact tA
    conv=>whnf
    obtain⟨r,ws,how⟩:=Q;dsimp only at hF hrec |-
    refine A8 (fun f1=>?_) (fun f1=>?_) <;> (repeat rw [Ab] at f1) <;> conv=>whnf
    ·obtain⟨q1,rfl,rfl⟩:=hF.resolve_left (fun h=>f1 h.1);have hT:=hJ.stop hk hrec f1;rw [hT] at b1 tf;dsimp only at b1;rcases q1 with rfl | rfl
     ·rw [if_neg (by decide),if_pos (by decide)] at b1;subst b1;have hws:IntKind.i64.wrap (seq - 1)=seq - 1:=by rw [IntKind.wrap_i64];omega
      conv=>whnf
      rw [hws];conv=>whnf
      refine A8 (fun e1=>?_) (fun e1=>?_) <;> (repeat rw [Ab] at e1) <;> conv=>whnf
      ·exact⟨_,fun c u h=>Jw 12 c u h,by rw [Hw e1];try rfl⟩
      ·refine⟨rfl,?_⟩;refine⟨(by rw [Ac]),?_⟩;exact⟨.tp [Ef l,I8 w,iv 0],BQ ⟨OI l b8 rfl b7,B5 w rfl rfl,ri,tv⟩,by rw [Fs (by omega)]⟩
     ·rw [if_pos (by decide)] at b1;subst b1;exact⟨_,fun c u h=>Jw 12 c u h,rfl⟩
    ·subst f1;obtain⟨-,⟨o1,o2,o3⟩,o4,o5⟩:=hF.resolve_right (fun h=>by omega);have hJ2:=hJ.step hk hrec rfl o1 o3 (by rw [Ac];exact o4);dsimp only at hJ2;obtain⟨IM,hIM⟩:∃ IM,IM=(if r.kind=1 then ims ++ [r.img] else ims):=⟨_,rfl⟩;rw [<-hIM] at hJ2;have hJl2:=hJ2.len;refine aSeq.cut Unit (fun _=>([(2,FH x),(3,FH y),(4, .bp 0 0),(5, .bp 1 0),(8, .v (.slice none 0 0)),(9, .v (.slice none 0 0)),(10,iv 0),(11, .ow 2 rl.length),(12, .ow 3 w.length),(13,iv pos),(14,iv seq),(15,iv left),(16, .bp 4 0),(17, .ow 6 more.length),(18,iv r.of_),(19,iv 1),(20,iv k),(21,iv (s:Nat)),(22, .bp 7 0),(23,iA ws)], [.box 23 (AZ g), .box 33 (EH a), .row 112 4 rl, .row 134 2 (w.map Eu), .box 112 [iv seq,iv pos,iv 0, .ow 5 IM.length], .row 166 3 (IM.map Ds), .row 134 2 (more.map Eu), .box 168 (FQ r)])) (fun _=>True) ?_ ?_
     ·conv=>whnf
      refine A8 (fun k1=>?_) (fun k1=>?_) <;> (repeat rw [Ab] at k1) <;> conv=>whnf
      ·rw [if_pos k1] at hIM;refine⟨rfl,?_⟩;refine⟨⟨by rw [Ac],by omega⟩,?_⟩;conv=>whnf
       exact⟨(),tv, [],tv,tA,⟨rfl,rfl,rfl,rfl,by rw [hIM,Ai];try rfl,by rw [hIM,A3];try rfl,rfl,rfl,tv⟩,rfl,rfl,rfl⟩
      ·rw [if_neg k1] at hIM;exact⟨(),tv, [],tv,tA,⟨rfl,rfl,rfl,rfl,by rw [hIM],by rw [hIM],rfl,rfl,tv⟩,rfl,rfl,rfl⟩
     ·rintro⟨⟩ -
      conv=>whnf
      cases ws with
      | nil=>
       rw [BJ,AL] at hJ2;refine zu 1 ?_;conv=>whnf
       exact⟨(k+1,r.of_,IM,more),hJ2,by dsimp only;omega, [],tv,⟨rfl,rfl,rfl,rfl,rfl,rfl,rfl,rfl,rfl,rfl,rfl,rfl,rfl,rfl,rfl,rfl,AS (by omega),tv⟩,tA,rfl,rfl,rfl⟩
      | cons c t=>
       have et:t=[]:=by
        cases t with
        | nil=>rfl
        | cons _ _=>simp at o4
       subst et;have hL:=o5 c (by simp);have c1:=D6 g c (s:Nat) hg hL;have c2:=IL g r c (s:Nat) o1 hL;refine zu 2 ?_;conv=>whnf
       apply zL tys_ok mixed (.o [0,1,2,3,4,5,6,8,9,10,11,12,13,14,7,15,16,17,18,19] .fin) [17,101,102,103,104,105,106,107,108,109,110,111,112,113,114,115,116,117,118,119] (by kernel_rfl)
       ·conv=>whnf
        try (refine Af (by first | omega | exact ixA | exact ixB | (simp;done)) ?_;conv=>whnf)
        try (refine Af (by first | omega | exact ixA | exact ixB | (simp;done)) ?_;conv=>whnf)
        refine z_ c1 ?_;conv=>whnf
        refine z_ c2 ?_;conv=>whnf
        try (refine tJ ?_;conv=>whnf)
        try (refine tK ?_;conv=>whnf)
        exact tA
       conv=>whnf
       exact⟨(k+1,r.of_,IM,more ++ [⟨Bf g c (s:Nat),BU g r c (s:Nat)⟩]),hJ2,by dsimp only;omega, [],tv,⟨rfl,rfl,rfl,rfl,rfl,rfl,rfl,rfl,rfl,rfl,rfl,rfl,rfl,by rw [Ai];try rfl,rfl,rfl,AS (by omega),tv⟩,⟨rfl,rfl,rfl,rfl,rfl,rfl,by rw [A3];try rfl,tv⟩,rfl,rfl,rfl⟩
 all_goals
  conv=>whnf
  have hb:some (l,w,seq)=R:=by
   cases f with
   | zero=>exact b1
   | succ f=>unfold E7 at b1;rw [if_neg (by omega)] at b1;exact b1
  subst hb;have hws:IntKind.i64.wrap (seq - 1)=seq - 1:=by rw [IntKind.wrap_i64];omega
  rw [hws];conv=>whnf
  refine A8 (fun e1=>?_) (fun e1=>?_) <;> (repeat rw [Ab] at e1) <;> conv=>whnf
  ·exact⟨_,fun c u h=>Jw 12 c u h,by rw [Hw e1];try rfl⟩
  ·refine⟨rfl,?_⟩;refine⟨(by rw [Ac]),?_⟩;exact⟨.tp [Ef l,I8 w,iv 0],BQ ⟨OI l b8 rfl b7,B5 w rfl rfl,ri,tv⟩,by rw [Fs (by omega)]⟩
def eK (d:Dk) (k:Nat):Int:=if d.live k then 0 else 8
def gK (d:Dk) (k:Nat) (a:Int):Gt:=if d.live k then To d a else ⟨8, []⟩
theorem J9 {d:Dk} {j k:Nat} (h:d.live k) (hj:j<=k):d.live j:=by unfold Dk.live at *;omega
theorem Wt {d:Dk} (hl : -1<=d.left):∀ k,¬d.live k->(d.adv k).left=0
 | 0,h=>by exfalso;apply h;unfold Dk.live;omega
 | k+1,h=>by
  by_cases hk:d.live k
  ·have:=Wu k d h hk;rw [Jl k (k+1) d this (by omega)];exact this
  ·have:=Wt hl k hk;rw [Jl k (k+1) d this (by omega)];exact this
theorem NI (g:Geo) (s:Stt) (d:Dk) (k:Nat) (a:Int) (h:DkOk d) (ha:0<=a/\a<d.cells.length) :
  ACalls Tryz.prog false 79 [.bp 0 0,iv a] (Jm g s (eK d k) (d.adv k)) fun r H=>r = .ag (DB (gK d (k+1) a))/\H=Jm g s (eK d (k+1)) (d.adv (k+1)):=by
 have hd:=h.adv k;have hn:=(FM k d).1;have hl:=h.l;unfold eK gK;by_cases hk:d.live k
 ·have hr:=Yh g s (d.adv k) a hd (by rw [hn];exact ha);rw [if_pos hk];by_cases h0:(d.adv k).left=0
  ·have hk1:=(PW k d hl.1 hk).1 h0;rw [if_pos h0,SI a h0] at hr;rw [if_neg hk1,if_neg hk1,Jl k (k+1) d h0 (by omega)];exact hr
  ·have hk1:d.live (k+1):=by
    by_cases e:d.live (k+1)
    ·exact e
    ·exact absurd ((PW k d hl.1 hk).2 e) h0
   rw [if_neg h0,SH a h0] at hr;rw [if_pos hk1,if_pos hk1];exact hr
 ·have hk1:¬d.live (k+1):=fun h=>hk (J9 h (by omega))
  have h0:=Wt hl.1 k hk;rw [if_neg hk,if_neg hk1,if_neg hk1,Jl k (k+1) d h0 (by omega)];exact Yi g s 8 (d.adv k) a (by decide)
theorem W5 (g:Geo) (s:Stt) (d:Dk) (l:List Wr) (k:Nat) (h:DkOk d) (hl:∀ w∈l,Ru d.cells.length w) (hk:k<l.length) :
  ACalls Tryz.prog false 88 [.bp 0 0, .v (.int .i64 (l.getD k ⟨0, []⟩).addr),bA (l.getD k ⟨0, []⟩).bytes] (Jm g s (T2 (d.writes (l.take k)).2.2) (d.writes (l.take k)).1) fun r H=>(∃ b,r = .v (.bool b))/\H=Jm g s (T2 (d.writes (l.take (k+1))).2.2) (d.writes (l.take (k+1))).1:=by
 have hd:=H4 h hl k;have hm:=hl _ (A7 (d:=(⟨0, []⟩:Wr)) hk);have hlive:=fun hlv=>Kz (d:=d) hk hlv
 have hstay:=fun hlv=>JP (d:=d) hk hlv
 generalize d.writes (l.take (k+1))=Q' at hlive hstay |-
 generalize d.writes (l.take k)=Q at hd hlive hstay |-
 obtain⟨X,N,dead⟩:=Q;simp only at hd hlive hstay |-
 cases dead with
 | true=>
  rw [hstay rfl];exact(U9 g s 8 X _ _ (by decide)).mono fun r H h=>⟨⟨false,h.1⟩,h.2⟩
 | false=>
  rw [hlive rfl];have hc:=U8 g s X (l.getD k ⟨0, []⟩).addr (l.getD k ⟨0, []⟩).bytes hd.1 (by rw [hd.2];exact hm.1) hm.2;refine hc.mono fun r H h=>⟨⟨_,h.1⟩,?_⟩
  rw [h.2];show Jm g s _ _=Jm g s (if decide _=true then 8 else 0) _;congr 1;by_cases h8:(X.write (l.getD k ⟨0, []⟩).addr (l.getD k ⟨0, []⟩).bytes).2=8
  ·rw [if_pos h8,if_pos (decide_eq_true h8)]
  ·rw [if_neg h8,if_neg (by rw [decide_eq_false h8];decide)]
def UO (d:Dk) (ats:List Int) (k:Nat):List Gt:=(List.range k).map fun j=>gK d (j+1) (ats.getD j 0)
theorem UN (d:Dk) (ats:List Int) (k:Nat):(UO d ats (k+1)).map DB=(UO d ats k).map DB ++ [DB (gK d (k+1) (ats.getD k 0))]:=by simp [UO,Be]
theorem WP (d:Dk) (ats:List Int) (k:Nat):(UO d ats k).length=k:=by simp [UO]
theorem WQ {d:Dk} {ats:List Int} (h:d.live ats.length):UO d ats ats.length=By d ats:=by
 apply List.ext_getElem
 ·simp [UO,By]
 ·intro i h1 h2;have hi:i<ats.length:=by simpa [UO] using h1
  simp only [UO,By,List.getElem_map,List.getElem_range];rw [gK,if_pos (J9 h (by omega)),Aa,Ae hi];try rfl
def WR (d:Dk) (g:Geo) (c:Nat) (k:Nat):List Gt:=(List.range k).map fun j=>gK d (2*j+1+c) (Bf g (c:Nat) (j:Nat))
theorem OJ (d:Dk) (g:Geo) (c:Nat) (k:Nat):(WR d g c (k+1)).map DB=(WR d g c k).map DB ++ [DB (gK d (2*k+1+c) (Bf g (c:Nat) (k:Nat)))]:=by simp [WR,Be]
theorem RE (d:Dk) (g:Geo) (c:Nat) (k:Nat):(WR d g c k).length=k:=by simp [WR]
theorem RF {d:Dk} {g:Geo} {c:Nat} (hc:c<=1) (h:d.live (2*g.sl.toNat)):WR d g c g.sl.toNat=By d (BR g (c:Nat)):=by
 unfold WR By BR;rw [List.map_map];refine Ck fun j hj=>?_
 have hj:=AM.1 hj;rw [gK,if_pos (J9 h (by omega))];try rfl
theorem Xi {d:Dk} {l:List Wr} (h:l≠ []):(if T2 (d.writes l).2.2=0 then if (d.writes l).1.left=0 then 8 else 0 else T2 (d.writes l).2.2:Int)=T2 (d.mend l).2/\(if T2 (d.writes l).2.2=0 then if (d.writes l).1.left=0 then (d.writes l).1 else (d.writes l).1.flush else (d.writes l).1)=(d.mend l).1:=by
 rw [Dk.mend,if_neg h];cases hd:(d.writes l).2.2 with
 | true=>rw [Fo hd];exact tA
 | false=>
  rw [Ex hd];by_cases h0:(d.writes l).1.left=0
  ·rw [if_pos h0,if_pos h0,if_pos h0];exact tA
  ·rw [if_neg h0,if_neg h0,if_neg h0];exact tA
theorem SB (g:Geo) (s:Stt) (d:Dk) (hg:Bp g=true) (h:DkOk d) (hn:(d.cells.length:Int)=A4 g) :
  ACalls Tryz.prog false 127 [.bp 0 0] (Jm g s 0 d) fun r H=>(∃ S,r = .ag (E5 S)/\((CZ g d).2.1=0->S=(CZ g d).2.2))/\H=N7 g s (CZ g d).2.1 (CZ g d).1:=by
 obtain⟨g1,g2,g3,g4,g5⟩:=As.1 hg;have hcg:=DZ hg;have hl:=h.l;have e0:eK d 0=0:=by unfold eK;rw [if_pos];unfold Dk.live;omega
 refine zS tys_ok Tryz.func127 rfl rfl (Ah rfl) ?_;conv=>whnf
 refine zU Nat (fun k=>([(0, .bp 0 0),(2, .bp 4 0),(3, .ow 5 k),(4,nilV),(5,nilV),(6,ze k)],Zw g s (eK d k) (d.adv k) [.box 39 [ze 0,ze 0,ze 0,ze 0,ze 0, .v (.string ⟨#[]⟩),nilV,nilV, .v (.bool false),ze 0,ze 0,ze 0,ze 0,nilV], .row 151 2 ((UO d (Dl g) k).map DB)])) (fun k=>k<=g.an.toNat) (fun k=>g.an.toNat - k) 0 (Aj _)
  ⟨_,_,zC _ _, [(3,151,2)],tA, [0,1,2,3,4,5],⟨tA,⟨by rw [e0];try rfl,rfl,rfl,rfl,rfl,rfl,tv⟩,rfl,rfl,rfl,rfl,rfl⟩⟩ ?_
 intro k hk;conv=>whnf
 refine A8 (fun h6=>?_) (fun h6=>?_) <;> (repeat rw [Ab] at h6) <;> conv=>whnf
 ·have hk':k<g.an.toNat:=by omega
  have hr:=NI g s d k k h (by omega);repeat' (refine zZ ?_;conv=>whnf)
  refine zh [0,1,2,3] hr ?_;rintro _ _ ⟨rfl,rfl⟩;refine⟨rfl,?_⟩;refine⟨⟨by rw [Ac,WP],by omega⟩,?_⟩;conv=>whnf
  exact⟨k+1,hk',by omega,zR (s:= [0,1,2,3,4,5]) ⟨⟨rfl,rfl,rfl,rfl,rfl,AS (by omega),tv⟩,⟨rfl,rfl,rfl,rfl,rfl,congrArg (fun l=>some (AB.row _ _ l)) (by rw [UN,Nt hk'];try rfl),tv⟩,rfl,rfl,rfl,rfl,rfl⟩⟩
 ·have ek:k=g.an.toNat:=by omega
  subst ek;by_cases hlv:d.live g.an.toNat
  ·have eA:eK d g.an.toNat=0:=by unfold eK;rw [if_pos hlv]
   rw [eA];have hrl:UO d (Dl g) g.an.toNat=By d (Dl g):=by have:=WQ (d:=d) (ats:=Dl g) (by rw [Fd];exact hlv);rwa [Fd] at this
   rw [hrl];have hM:CZ g d=match Gj g (By d (Dl g)) with | none=>(d.adv g.an.toNat,11,st0) | some (a,_)=>Iq g a (d.adv g.an.toNat):=by unfold CZ;rw [if_pos hlv];try rfl
   have hnw:=Qt g (By d (Dl g)) hg (by rw [DO,Fd];omega) (Hu h _);have hpo:=fun {a j}=>IS (g:=g) (l:=By d (Dl g)) hg (By d (Dl g)).length (a:=a) (j:=j)
   have hpo:∀ {a j},Gj g (By d (Dl g))=some (a,j)->Bu g a=true:=hpo;have hgl:(By d (Dl g)).length=g.an.toNat:=by rw [DO,Fd]
   generalize By d (Dl g)=L at hnw hpo hgl hM |-
   have hd1:=h.adv g.an.toNat;have hs1:=(FM g.an.toNat d).1;generalize d.adv g.an.toNat=d1 at hd1 hs1 hM |-
   conv=>whnf
   refine zQ hnw.go ?_;refine⟨(by rw [Ac,hgl]),?_⟩;conv=>whnf
   refine zY [.ag (AZ g),FH L] ⟨ri,B5 (f:=DB) L hgl.symm rfl,tv⟩ ?_;refine z_ hnw ?_;conv=>whnf
   cases hP:Gj g L with
   | none=>
    rw [hP] at hM;replace hM:CZ g d=(d1,11,st0):=hM;rw [hM];exact⟨.ag (E5 st0), .ag (E5 st0),N7 g s 11 d1,Bi st0_sub,z8 (zI (zw 1 3 (by decide) rfl rfl)) (s:= [0,1,2,3,7]) tA,⟨st0,rfl,fun _=>rfl⟩,rfl⟩
   | some q=>
    obtain⟨a,j⟩:=q;have hao:=hpo hP;rw [hP] at hM;replace hM:CZ g d=Iq g a d1:=hM;rw [hM];clear hM hnw;have hl1:=hd1.l;have e10:eK d1 0=0:=by unfold eK;rw [if_pos];unfold Dk.live;omega
    conv=>whnf
    refine zU Nat (fun k=>([(0, .bp 0 0),(2, .bp 4 0),(4, .ow 6 k),(5, .ow 7 k),(7, .bp 5 0),(9,ze k)],Zw g s (eK d1 (2*k)) (d1.adv (2*k)) [.box 39 [ze 0,ze 0,ze 0,ze 0,ze 0, .v (.string ⟨#[]⟩),nilV,nilV, .v (.bool false),ze 0,ze 0,ze 0,ze 0,nilV], .box 33 (EH a), .row 151 2 ((WR d1 g 0 k).map DB), .row 151 2 ((WR d1 g 1 k).map DB)])) (fun k=>k<=g.sl.toNat) (fun k=>g.sl.toNat - k) 0 (Aj _)
     ⟨_,_,zC _ _, [(4,151,2),(5,151,2)],tA, [0,1,2,3,4,6,7,8],⟨tA,⟨by show _=some (AB.box _ (Y_ _ _ _ (eK d1 0)));rw [e10];try rfl,rfl,rfl,rfl,rfl,rfl,rfl,rfl,tv⟩,rfl,rfl,rfl,rfl,rfl⟩⟩ ?_
    intro k hk;conv=>whnf
    refine A8 (fun h7=>?_) (fun h7=>?_) <;> (repeat rw [Ab] at h7) <;> conv=>whnf
    ·have hk':k<g.sl.toNat:=by omega
     have hla:=D6 g 0 k hg (by simp only [Hn,Ad,AF];omega);have hlb:=D6 g 1 k hg (by simp only [Hn,Ad,AF];omega);have hra:=NI g s d1 (2*k) (Bf g 0 k) hd1 (FF hg (by rw [hs1];exact hn) (.inl rfl) (by omega));have hrb:=NI g s d1 (2*k+1) (Bf g 1 k) hd1 (FF hg (by rw [hs1];exact hn) (.inr rfl) (by omega));repeat' (refine zZ ?_;conv=>whnf)
     refine z_ hla ?_;conv=>whnf
     refine zh [0,1,2,3] hra ?_;rintro _ _ ⟨rfl,rfl⟩;refine⟨rfl,?_⟩;refine⟨⟨by rw [Ac,RE],by omega⟩,?_⟩;conv=>whnf
     repeat' (refine zZ ?_;conv=>whnf)
     refine z_ hlb ?_;conv=>whnf
     refine zh [0,1,2,3] hrb ?_;rintro _ _ ⟨rfl,rfl⟩;refine⟨rfl,?_⟩;refine⟨⟨by rw [Ac,RE],by omega⟩,?_⟩;conv=>whnf
     repeat' (refine zZ ?_;conv=>whnf)
     exact⟨k+1,hk',by omega,zR (s:= [0,1,2,3,4,5,6,7]) ⟨⟨rfl,rfl,rfl,rfl,rfl,AS (by omega),tv⟩,⟨rfl,rfl,rfl,rfl,rfl,rfl,congrArg (fun l=>some (AB.row _ _ l)) (by rw [OJ];try rfl),congrArg (fun l=>some (AB.row _ _ l)) (by rw [OJ];try rfl),tv⟩,rfl,rfl,rfl,rfl,rfl⟩⟩
    ·have ek:k=g.sl.toNat:=by omega
     subst ek;unfold Iq;by_cases hl2:d1.live (2*g.sl.toNat)
     ·have eB:eK d1 (2*g.sl.toNat)=0:=by unfold eK;rw [if_pos hl2]
      rw [eB,if_pos hl2,RF (by decide) hl2,RF (by decide) hl2];have hx1:(By d1 (BR g 0)).length=g.sl.toNat:=by rw [DO,EV]
      have hx2:(By d1 (BR g 1)).length=g.sl.toNat:=by rw [DO,EV]
      have hsc:=UE g a (By d1 (BR g 0)) (By d1 (BR g 1)) hg hao (by omega) (by omega) (Hu hd1 _) (Hu hd1 _);have hlast:=La (x:=By d1 (BR g 0)) (y:=By d1 (BR g 1)) hg hao;have hin:=K_ (x:=By d1 (BR g 0)) (y:=By d1 (BR g 1)) (n:=d1.cells.length) hg hao (by omega) (by omega) (by rw [hs1];exact hn);have c0:By d1 (BR g ((0:Nat):Int))=By d1 (BR g 0):=rfl;have c1:By d1 (BR g ((1:Nat):Int))=By d1 (BR g 1):=rfl;rw [c0,c1];clear c0 c1;generalize DT g a (By d1 (BR g 0)) (By d1 (BR g 1))=S at hsc hlast hin |-
      obtain⟨T,W,e⟩:=S;simp only at hsc hlast hin;generalize By d1 (BR g 0)=X1 at hx1 hsc |-
      generalize By d1 (BR g 1)=X2 at hx2 hsc |-
      have hd2:=hd1.adv (2*g.sl.toNat);have hs2:=(FM (2*g.sl.toNat) d1).1;generalize d1.adv (2*g.sl.toNat)=d2 at hd2 hs2 |-
      conv=>whnf
      apply zV (0) tys_ok mixed (.o [0,1,2,3,4,5,6,7,8,9,10,11,12,13,14] .fin) (by kernel_rfl);conv=>whnf
      (refine zQ hsc.go ?_;(conv=>whnf);refine Af (by rw [Ac,hx1]) ?_;(conv=>whnf);refine Af (by rw [Ac,hx2]) ?_;(conv=>whnf);refine zY [.ag (AZ g), .ag (EH a),FH X1,FH X2] ⟨ri,ri,B5 (f:=DB) X1 hx1.symm rfl,B5 (f:=DB) X2 hx2.symm rfl,tv⟩ ?_;refine z_ hsc ?_)
      conv=>whnf
      unfold Lu;by_cases he:e=0
      ·subst he;rw [if_neg (by simp)];have hin:=hin rfl;have hlast:=hlast rfl;simp only;conv=>whnf
       have hWin:∀ w∈W,Ru d2.cells.length w:=by rw [hs2];exact hin.1
       refine zU Nat (fun k=>([(0, .bp 0 0),(2, .bp 4 0),(7, .bp 5 0),(10,Ef T),(11,I8 W),(13,ze k)],Zw g s (T2 (d2.writes (W.take k)).2.2) (d2.writes (W.take k)).1 [.box 39 [ze 0,ze 0,ze 0,ze 0,ze 0, .v (.string ⟨#[]⟩),nilV,nilV, .v (.bool false),ze 0,ze 0,ze 0,ze 0,nilV], .box 33 (EH a)])) (fun k=>k<=W.length) (fun k=>W.length - k) 0 (Aj _)
        (zR (s:= [0,1,2,3,4,5]) tA) ?_
       intro k hk;conv=>whnf
       refine A8 (fun h8=>?_) (fun h8=>?_) <;> (repeat rw [Ab] at h8) <;> conv=>whnf
       ·have hk':k<W.length:=by omega
        have hw:=W5 g s d2 W k hd2 hWin hk';repeat' (refine zZ ?_;conv=>whnf)
        apply zV (2 ^ 139) tys_ok mixed (.o [0,1,2,3,4,5,6,7,8,9,10,11] .fin) (by kernel_rfl);conv=>whnf
        try (refine tI ?_;conv=>whnf)
        try (refine tI ?_;conv=>whnf)
        (rw [Ab];refine zh [0,1,2,3] hw ?_;rintro _ _ ⟨⟨b,rfl⟩,rfl⟩)
        exact⟨k+1,hk',by omega,zR (s:= [0,1,2,3,4,5]) ⟨⟨rfl,rfl,rfl,rfl,rfl,AS (by omega),tv⟩,tA,rfl,rfl,rfl,rfl,rfl⟩⟩
       ·have ek:k=W.length:=by omega
        subst ek;rw [Aw];have hdw:=H4 hd2 hWin W.length;rw [Aw] at hdw;refine aSeq.cutR Unit (fun _=>([(0, .bp 0 0),(2, .bp 5 0),(7, .bp 6 0),(10,Ef T)],N7 g s (T2 (d2.mend W).2) (d2.mend W).1 ++ [AB.box 39 [ze 0,ze 0,ze 0,ze 0,ze 0, .v (.string ⟨#[]⟩),nilV,nilV, .v (.bool false),ze 0,ze 0,ze 0,ze 0,nilV],AB.box 33 (EH a)])) (fun _=>True) ?_ ?_
        ·by_cases hW:W=[]
         ·subst hW;exact⟨(),tv,z8 (zI (zw 1 3 (by decide) rfl rfl)) (s:= [0,1,2,3,6,4,5]) tA⟩
         ·have hWl:0<W.length:=D5.2 hW;obtain⟨m1,m2⟩:=Xi (d:=d2) hW;have hf:=UR g s (T2 (d2.writes W).2.2) (d2.writes W).1 hdw.1;rw [m1,m2] at hf;conv=>whnf
          refine A8 (fun _=>?_) (fun hq=>absurd hq (by omega));conv=>whnf
          refine zh [0,1,2,3] hf ?_;rintro _ _ ⟨rfl,rfl⟩;exact⟨(),tv,zR (s:= [0,1,2,3,6,4,5]) tA⟩
        ·rintro _ _;have hdm:DkOk (d2.mend W).1/\(d2.mend W).1.cells.length=d2.cells.length:=by
          unfold Dk.mend;split
          ·exact⟨hd2,rfl⟩
          ·exact J3 hd2 hWin
         generalize d2.mend W=M at hdm |-
         obtain⟨d3,dead⟩:=M;simp only at hdm |-
         cases dead with
         | true=>
          rw [if_pos rfl];conv=>whnf
          repeat' (refine zZ ?_;conv=>whnf)
          exact⟨.ag (E5 st0), .ag (E5 st0),N7 g s 8 d3,Bi st0_sub,zR (s:= [0,1,2,3,4]) tA,⟨st0,rfl,fun _=>rfl⟩,rfl⟩
         | false=>
          rw [if_neg (by decide)];have hpa:=FL hao;unfold Lt;by_cases hmx:a.gen=4294967295\/a.epoch=4294967295
          ·rw [if_pos hmx];conv=>whnf
           repeat' (refine zZ ?_;conv=>whnf)
           refine A8 (fun _=>?_) (fun q1=>?_)
           ·conv=>whnf
            repeat' (refine zZ ?_;conv=>whnf)
            exact⟨.ag (E5 st0), .ag (E5 st0),N7 g s 14 d3,Bi st0_sub,zR (s:= [0,1,2,3,4]) tA,⟨st0,rfl,fun _=>rfl⟩,rfl⟩
           ·conv=>whnf
            refine A8 (fun _=>?_) (fun q2=>absurd hmx (by omega));conv=>whnf
            repeat' (refine zZ ?_;conv=>whnf)
            exact⟨.ag (E5 st0), .ag (E5 st0),N7 g s 14 d3,Bi st0_sub,zR (s:= [0,1,2,3,4]) tA,⟨st0,rfl,fun _=>rfl⟩,rfl⟩
          ·rw [if_neg hmx];have hna:=Ls (n:=T.length) hao (fun e=>hmx (.inl e)) (fun e=>hmx (.inr e)) hlast.2;have hban:=OR g s d3 (D9 a T.length) hg hna hdm.1 (LY hg hna (by rw [hdm.2,hs2,hs1];exact hn));have w1:IntKind.i64.wrap (a.gen+1)=a.gen+1:=wi (by omega);have w2:IntKind.i64.wrap (a.epoch+1)=a.epoch+1:=wi (by omega);have w3:IntKind.i64.wrap (IntKind.i64.wrap (a.seq+T.length) - 1)=a.seq+T.length - 1:=by
            rw [wi (n:=a.seq+T.length) (by omega)];exact wi (by omega)
           conv=>whnf
           repeat' (refine zZ ?_;conv=>whnf)
           refine A8 (fun q=>absurd q (by omega)) (fun q1=>?_);conv=>whnf
           refine A8 (fun q=>absurd q (by omega)) (fun q2=>?_);conv=>whnf
           repeat' (refine zZ ?_;conv=>whnf)
           rw [w1,w2,w3];refine zX [0,1,2,4] hban rfl rfl rfl rfl (by decide) (Yy rfl rfl) tA ?_;rintro _ _ ⟨rfl,rfl⟩;have hpn:(d3.putAll (Bd g (D9 a T.length))).2.1=(d3.writes (Bd g (D9 a T.length))).2.1:=by
            cases hdd:(d3.writes (Bd g (D9 a T.length))).2.2 with
            | true=>rw [Fo hdd]
            | false=>rw [Ex hdd];split <;> rfl
           rw [<-hpn];generalize d3.putAll (Bd g (D9 a T.length))=Q;obtain⟨d4,n,dead⟩:=Q;simp only;cases dead with
           | true=>
            rw [if_pos rfl];conv=>whnf
            repeat' (refine zZ ?_;conv=>whnf)
            exact⟨.ag (E5 (Bl (D9 a T.length) T)), .ag (E5 (Bl (D9 a T.length) T)),N7 g s 8 d4,Bi ⟨ri,ri,ri,ri,ri,ri,ri,ri,ri,ri,ri,ri,ri,Bt 1 _,tv⟩,zR (s:= [0,1,2,3,7]) tA,⟨_,rfl,fun h=>absurd h (show ¬(8:Int)=0 by decide)⟩,rfl⟩
           | false=>
            rw [if_neg (by decide)];by_cases hn0:n=0
            ·subst hn0;rw [if_pos rfl];conv=>whnf
             repeat' (refine zZ ?_;conv=>whnf)
             exact⟨.ag (E5 (Bl (D9 a T.length) T)), .ag (E5 (Bl (D9 a T.length) T)),N7 g s 14 d4,Bi ⟨ri,ri,ri,ri,ri,ri,ri,ri,ri,ri,ri,ri,ri,Bt 1 _,tv⟩,zR (s:= [0,1,2,3,7]) tA,⟨_,rfl,fun h=>absurd h (show ¬(14:Int)=0 by decide)⟩,rfl⟩
            ·rw [if_neg hn0];have hnb:((n:Int) == 0)=false:=beq_eq_false_iff_ne.2 (by omega);conv=>whnf
             repeat' (refine zZ ?_;conv=>whnf)
             rw [hnb];conv=>whnf
             repeat' (refine zZ ?_;conv=>whnf)
             exact⟨.ag (E5 (Bl (D9 a T.length) T)), .ag (E5 (Bl (D9 a T.length) T)),N7 g s 0 d4,Bi ⟨ri,ri,ri,ri,ri,ri,ri,ri,ri,ri,ri,ri,ri,Bt 1 _,tv⟩,zR (s:= [0,1,2,3,7]) tA,⟨_,rfl,fun _=>rfl⟩,rfl⟩
      ·rw [if_pos (by simpa using he)];have hb:(e != 0)=true:=bne_iff_ne.2 he;rw [hb];exact⟨.ag (E5 st0), .ag (E5 st0),N7 g s e d2,Bi st0_sub,z8 (zI (zw 1 3 (by decide) rfl rfl)) (s:= [0,1,2,3,8]) tA,⟨st0,rfl,fun h=>absurd h he⟩,rfl⟩
     ·have eB:eK d1 (2*g.sl.toNat)=8:=by unfold eK;rw [if_neg hl2]
      rw [eB,if_neg hl2];exact⟨.ag (E5 st0), .ag (E5 st0),N7 g s 8 (d1.adv (2*g.sl.toNat)),Bi st0_sub,z8 (zI (zw 1 3 (by decide) rfl rfl)) (s:= [0,1,2,3,8]) tA,⟨st0,rfl,fun _=>rfl⟩,rfl⟩
  ·have eA:eK d g.an.toNat=8:=by unfold eK;rw [if_neg hlv]
   have hM:CZ g d=(d.adv g.an.toNat,8,st0):=by unfold CZ;rw [if_neg hlv]
   rw [eA,hM];exact⟨.ag (E5 st0), .ag (E5 st0),N7 g s 8 (d.adv g.an.toNat),Bi st0_sub,z8 (zI (zw 1 3 (by decide) rfl rfl)) (s:= [0,1,2,3,6]) tA,⟨st0,rfl,fun _=>rfl⟩,rfl⟩
theorem O1 (l:List Tx) (hl:l.length<=1000000) (hi:∀ t∈l,t.images.length<=1000000/\∀ x∈t.images,x.bytes.length<=1000000000):Fn Tryz.prog 64 [Ef l] fun r=>r=Ef l:=by
 refine zT Tryz.func64 rfl ?_;conv=>whnf
 refine zU Nat (fun k=>([(0,Ef l),(3, .ow 0 k),(4,ze k)], [.row 112 4 ((l.take k).map Ea)])) (fun k=>k<=l.length) (fun k=>l.length - k) 0 (Aj _)
  ⟨_,_,zC _ _, [(3,112,4)],tA, [0],tA⟩ ?_
 intro k hk;conv=>whnf
 refine A8 (fun h6=>?_) (fun h6=>?_) <;> (repeat rw [Ab] at h6) <;> conv=>whnf
 ·have hk':k<l.length:=by omega
  have hm:=hi _ (A7 (d:=(⟨0,0,0, []⟩:Tx)) hk');have b1:=Mb (l.getD k ⟨0,0,0, []⟩).images hm.1 hm.2;have hl:k=((l.take k).map Ea).length:=by simp;omega
  apply zV (0) tys_ok mixed (.o [0,1,2,3,4,5,6,7,8,9,10,11,12,13,14,15,16,17,18,19,20,21,22,23,24,25] .fin) (by kernel_rfl);conv=>whnf
  try (refine tI ?_;conv=>whnf)
  try (refine tI ?_;conv=>whnf)
  try (refine tI ?_;conv=>whnf)
  try (refine tI ?_;conv=>whnf)
  refine z_ b1 ?_;conv=>whnf
  try (refine tJ ?_;conv=>whnf)
  try (refine tK ?_;conv=>whnf)
  all_goals exact⟨k+1,hk',by omega,zR (s:= [0]) ⟨⟨rfl,rfl,AS (by omega),tv⟩,⟨congrArg (fun l=>some (AB.row _ _ l)) (Ga (f:=Ea) (d:=(⟨0,0,0, []⟩:Tx)) hk').symm,tv⟩,rfl,rfl,rfl,rfl,rfl⟩⟩
 ·have ek:k=l.length:=by omega
  subst ek;rw [Aw];refine Af (Ac _).symm ?_;exact⟨Ef l,B5 (f:=Ea) l rfl rfl,rfl⟩
theorem Nx (s:Stt) (h:StSm s):Fn Tryz.prog 24 [.ag (E5 s)] fun r=>r = .ag (E5 s):=by
 have c1:=Mc s.a (by have:=h.h.1;omega) h.h.2;have c2:=O1 s.txns (by have:=h.t.1;omega) (fun t ht=>⟨by have:=(h.t.2 t ht).1;omega,fun x hx=>by have:=(h.t.2 t ht).2 x hx;omega⟩);have c3:=JQ s.lost h.o;refine zT Tryz.func24 rfl ?_;conv=>whnf
 apply zV (0) tys_ok mixed (.o [0,1,3,4,6,7,8,2,10,5,9,11,12,13,14,15,16] .fin) (by kernel_rfl);conv=>whnf
 refine z_ c1 ?_;conv=>whnf
 refine z_ c2 ?_;conv=>whnf
 refine z_ c3 ?_;conv=>whnf
 try (refine tS ?_;conv=>whnf)
 try (refine tS ?_;conv=>whnf)
 try (refine tS ?_;conv=>whnf)
 all_goals exact⟨_,ri,rfl⟩
theorem DkOk.big {d:Dk} (h:DkOk d):d.cells.length<=1000000/\d.cache.length<=1000000/\(∀ c∈d.cells,c.bytes.length<=1000000000/\c.old.length<=1000000000)/\(∀ w∈d.cache,w.bytes.length<=1000000000):=
 ⟨by have:=h.n;omega,by have:=h.m;omega,fun c hc=>by have:=(h.c c hc).2;omega,fun w hw=>by have:=(h.w w hw).2;omega⟩
theorem SO (g:Geo) (d:Dk) (s:Stt) (h:DkOk d) (hs:StSm s):ACalls Tryz.prog false 29 [.ag (AZ g), .ag (Et d), .ag (E5 s)] [] fun r H=>r = .bp 0 0/\H=Jm g s 0 d:=by
 obtain⟨q1,q2,q3,q4⟩:=h.big;have c1:=WK d q1 q2 q3 q4;have c2:=Nx s hs;refine zS tys_ok Tryz.func29 rfl rfl (Ah rfl) ?_;conv=>whnf
 apply zV (0) tys_ok mixed (.o [0,1,3,2,4,5,6,7] .fin) (by kernel_rfl);conv=>whnf
 (refine zW c1 rfl ?_;rintro _ _ ⟨rfl,rfl⟩)
 conv=>whnf
 refine z_ c2 ?_;exact⟨_, .bp 0 0,Jm g s 0 d,fun _ _ h=>h,zR (s:= [6,3,4,5]) tA,rfl,rfl⟩
@[reducible] def aa (a:An) (x:AV):List AV:= [iv a.gen,iv a.epoch,iv a.pos,iv a.seq,iv a.last, .v (.string a.label),x]
@[reducible] def ZV (s:Stt) (x y:AV):List AV:= [iv s.a.gen,iv s.a.epoch,iv s.a.pos,iv s.a.seq,iv s.a.last, .v (.string s.a.label),x,y, .v (.bool s.only),iv s.cursor,iv s.found,iv s.fixed,iv s.moved,iA s.lost]
@[reducible] def Z2 (g:Geo) (x hm tx:AV) (s:Stt) (e:Int):List AV:= [iv g.z,iv g.d,iv g.sp,iv g.sl,iv g.an,x,iv s.a.gen,iv s.a.epoch,iv s.a.pos,iv s.a.seq,iv s.a.last, .v (.string s.a.label),hm,tx, .v (.bool s.only),iv s.cursor,iv s.found,iv s.fixed,iv s.moved,iA s.lost,iv e]
@[reducible] def ZX (g:Geo) (s:Stt) (e:Int) (d:Dk):List AB:= [.box 83 (Z2 g (.bp 1 0) (.ow 4 s.a.homes.length) (.ow 5 s.txns.length) s e), .box 85 (I3 (.ow 2 d.cells.length) (.ow 3 d.cache.length) d.reqs d.left), .row 128 3 (d.cells.map BF), .row 134 2 (d.cache.map Eu), .row 177 3 (s.a.homes.map Jn), .row 112 4 (s.txns.map Ea)]
@[reducible] def rwP (g:Geo) (s:Stt) (e:Int) (d:Dk):List AB:= [.box 83 (Z2 g (.bp 1 0) (.ow 4 s.a.homes.length) (.ow 5 s.txns.length) s e), .box 85 (I3 (.ow 2 d.cells.length) (.ow 6 d.cache.length) d.reqs d.left), .row 128 3 (d.cells.map BF), .dead, .row 177 3 (s.a.homes.map Jn), .row 112 4 (s.txns.map Ea), .row 134 2 (d.cache.map Eu)]

theorem L9 {α:Type} {n i:Nat} {a d:α} (h:i<n):(List.replicate n a).getD i d=a:=by rw [Aa,CO h];try rfl
theorem Sj {i:Nat} (h:i<8):zero8.getD i 0=0:=by
 have:i=0\/i=1\/i=2\/i=3\/i=4\/i=5\/i=6\/i=7:=by omega
 rcases this with rfl | rfl | rfl | rfl | rfl | rfl | rfl | rfl <;> rfl
def Kv (cs:List Cel) (w:Wr):List Cel:=cs.set w.addr.toNat { cs.getD w.addr.toNat cz with bytes:=w.bytes }
def Ec (cs:List Cel) (l:List Wr):List Cel:=l.foldl Kv cs
theorem P0 (cs:List Cel) (w:Wr):(Kv cs w).length=cs.length:=by simp [Kv]
theorem EE (l:List Wr):∀ cs:List Cel,(Ec cs l).length=cs.length:=by
 induction l with
 | nil=>intro cs;rfl
 | cons w l ih=>intro cs;show (Ec (Kv cs w) l).length=_;rw [ih,P0]
theorem HM (cs:List Cel) {l:List Wr} {k:Nat} (h:k<l.length):Ec cs (l.take (k+1))=Kv (Ec cs (l.take k)) (l.getD k ⟨0, []⟩):=by
 unfold Ec;rw [Bg,B_,Ae h];simp [Aa,Ae h]
theorem Jc (cs:List Cel) (w:Wr):(Kv cs w).map BF=(cs.map BF).set w.addr.toNat (BF { cs.getD w.addr.toNat cz with bytes:=w.bytes }):=by rw [Kv,Dz]
def Iz (g:Geo):List Cel:=List.replicate (A4 g).toNat cz
def GH (g:Geo) (c:Int):List Wr:=(List.range g.sl.toNat).map fun i=>⟨Bf g c (i:Nat),BU g zeroC c (i:Nat)⟩
def HR (g:Geo) (z:Int):List Wr:=(List.range 2).map fun k=>⟨Bw g z (k:Nat),CA (Bw g z (k:Nat)) 0 (CM (E3 g))⟩
def GU (g:Geo) (z:Int):List Wr:=(List.range (CH g).toNat).map fun i=>⟨Cr g z (i:Nat),CA (Cr g z (i:Nat)) 0 zero8⟩
def VH (g:Geo) (s:ByteArray):List Cel:=Ec (Iz g) (Bd g (BX g s))
def NY (g:Geo) (s:ByteArray):Nat->List Cel
 | 0=>VH g s
 | c+1=>Ec (NY g s c) (GH g (c:Nat))
def GN (g:Geo) (s:ByteArray):Nat->List Cel
 | 0=>NY g s 2
 | z+1=>Ec (Ec (GN g s z) (HR g (z:Nat))) (GU g (z:Nat))
def GM (g:Geo) (s:ByteArray):Dk:=⟨GN g s g.z.toNat, [],0, -1⟩
theorem LE (g:Geo):(Iz g).length=(A4 g).toNat:=by simp [Iz]
theorem VG (g:Geo) (s:ByteArray):(VH g s).length=(A4 g).toNat:=by rw [VH,EE,LE]
theorem LD (g:Geo) (s:ByteArray):∀ c,(NY g s c).length=(A4 g).toNat
 | 0=>VG g s
 | c+1=>by rw [NY,EE,LD g s c]
theorem Gx (g:Geo) (s:ByteArray):∀ z,(GN g s z).length=(A4 g).toNat
 | 0=>LD g s 2
 | z+1=>by rw [GN,EE,EE,Gx g s z]
theorem J2 {α:Type} {f:Nat->α} {n k:Nat} {d:α} (h:k<n):((List.range n).map f).getD k d=f k:=by
 rw [Bh (d:=0) (by simpa using h),Aa,Bq h];try rfl
theorem HE {g:Geo} (hg:Bp g=true):DR g zeroC=true:=by
 simp [DR,hg,Ee,zeroC,FC]
theorem Jd (cs:List Cel) (l m:List Wr):Ec cs (l ++ m)=Ec (Ec cs l) m:=by unfold Ec;rw [B_]
theorem GJ (cs:List Cel) (i a:Nat) (x:Cel) (ha:a<cs.length):(cs.set i x).getD a cz=if i=a then x else cs.getD a cz:=by
 rw [Aa,List.getElem?_set];by_cases h:i=a
 ·subst h;rw [if_pos rfl,if_pos rfl,if_pos ha];try rfl
 ·rw [if_neg h,if_neg h,<-Aa]
theorem VE (cs:List Cel) (w:Wr) (a:Nat) (ha:a<cs.length):(Kv cs w).getD a cz=if w.addr.toNat=a then { cs.getD a cz with bytes:=w.bytes } else cs.getD a cz:=by
 unfold Kv;rw [GJ _ _ _ _ ha];split
 ·rename_i h;rw [h]
 ·rfl
theorem Nc {F:List UInt8}:∀ (l:List Wr) (cs:List Cel) (a:Nat),a<cs.length->(∀ w∈l,w.addr.toNat=a->w.bytes=F)->((∃ w∈l,w.addr.toNat=a)\/(cs.getD a cz).bytes=F)->(Ec cs l).getD a cz={ cs.getD a cz with bytes:=F }
 | [],cs,a,_,_,h=>by
  rcases h with ⟨w,hw,_⟩ | h
  ·cases hw
  ·show cs.getD a cz=_;rw [<-h]
 | w::l,cs,a,ha,hF,h=>by
  have hs:=VE cs w a ha;have ha':a<(Kv cs w).length:=by rw [P0];exact ha
  have ih:=Nc (F:=F) l (Kv cs w) a ha' (fun x hx=>hF x (AU _ hx));show (Ec (Kv cs w) l).getD a cz=_;by_cases e:w.addr.toNat=a
  ·rw [if_pos e,hF w (by simp) e] at hs;rw [ih (.inr (by rw [hs])),hs]
  ·rw [if_neg e] at hs;rw [ih ?_,hs];rcases h with ⟨x,hx,hxa⟩ | h
   ·rcases A_.1 hx with rfl | hx
    ·exact absurd hxa e
    ·exact .inl ⟨x,hx,hxa⟩
   ·exact .inr (by rw [hs];exact h)
def JO (g:Geo):Nat->List Wr
 | 0=> []
 | z+1=>JO g z ++ (HR g (z:Nat) ++ GU g (z:Nat))
def NX (g:Geo) (s:ByteArray):List Wr:=Bd g (BX g s) ++ (GH g 0 ++ (GH g 1 ++ JO g g.z.toNat))
theorem VF (g:Geo) (s:ByteArray):∀ z,GN g s z=Ec (Iz g) (Bd g (BX g s) ++ (GH g 0 ++ (GH g 1 ++ JO g z)))
 | 0=>by
  show Ec (Ec (VH g s) (GH g 0)) (GH g 1)=_;rw [VH,<-Jd,<-Jd,JO,AL]
 | z+1=>by
  rw [GN,VF g s z,<-Jd,<-Jd,JO];simp only [A6]
def GL (g:Geo) (s:ByteArray) (a:Int):List UInt8:=
 if a<g.an then De (BX g s) a else if a<g.an+g.sl then BU g zeroC 0 (a - g.an) else if a<g.an+2*g.sl then BU g zeroC 1 (a - g.an - g.sl)
 else if a<g.an+2*g.sl+2*g.z then CA a 0 (CM (E3 g)) else CA a 0 zero8
theorem H0 {g:Geo} (hg:Bp g=true):∀ (n:Nat) (w:Wr),(n:Int)<=g.z->(w∈JO g n↔(∃ z k:Nat,z<n/\k<2/\w=⟨Bw g z k,CA (Bw g z k) 0 (CM (E3 g))⟩)\/∃ z i:Nat,z<n/\i<(CH g).toNat/\w=⟨Cr g z i,CA (Cr g z i) 0 zero8⟩)
 | 0,w,_=>by simp [JO]
 | n+1,w,h=>by
  rw [JO,A0,A0,H0 hg n w (by omega)];simp only [HR,GU,AK,AM];constructor
  ·rintro((⟨z,k,h1,h2,h3⟩ | ⟨z,i,h1,h2,h3⟩) | ⟨k,h1,h2⟩ | ⟨i,h1,h2⟩)
   ·exact .inl ⟨z,k,by omega,h2,h3⟩
   ·exact .inr ⟨z,i,by omega,h2,h3⟩
   ·exact .inl ⟨n,k,by omega,h1,h2.symm⟩
   ·exact .inr ⟨n,i,by omega,h1,h2.symm⟩
  ·rintro(⟨z,k,h1,h2,h3⟩ | ⟨z,i,h1,h2,h3⟩)
   ·by_cases e:z=n
    ·subst e;exact .inr (.inl ⟨k,h2,h3.symm⟩)
    ·exact .inl (.inl ⟨z,k,by omega,h2,h3⟩)
   ·by_cases e:z=n
    ·subst e;exact .inr (.inr ⟨i,h2,h3.symm⟩)
    ·exact .inl (.inr ⟨z,i,by omega,h2,h3⟩)
theorem RX {g:Geo} {s:ByteArray} {a:Int} (h:a<g.an):GL g s a=De (BX g s) a:=if_pos h
theorem LC {g:Geo} {s:ByteArray} {c:Int} {i:Nat} (hc:c=0\/c=1) (hi:(i:Int)<g.sl):GL g s (Bf g c i)=BU g zeroC c i:=by
 unfold GL Bf;rcases hc with rfl | rfl
 ·rw [if_neg (by omega),if_pos (by omega)];congr 1;omega
 ·rw [if_neg (by omega),if_neg (by omega),if_pos (by omega)];congr 1;omega
theorem P1 {g:Geo} {s:ByteArray} {z k:Nat} (h0:0<=g.sl) (hz:(z:Int)<g.z) (hk:k<2):GL g s (Bw g z k)=CA (Bw g z k) 0 (CM (E3 g)):=by
 unfold GL;have:Bw g z k=g.an+2*g.sl+2*z+k:=rfl;rw [if_neg (by omega),if_neg (by omega),if_neg (by omega),if_pos (by omega)]
theorem Nd {g:Geo} {s:ByteArray} {z i:Nat} (h0:0<=g.sl) (h1:0<=g.z) (h2:0<=CH g):GL g s (Cr g z i)=CA (Cr g z i) 0 zero8:=by
 unfold GL;have:Cr g z i=g.an+2*g.sl+2*g.z+z*CH g+i:=rfl;have:0<=(z:Int)*CH g:=CP (by omega) h2;rw [if_neg (by omega),if_neg (by omega),if_neg (by omega),if_neg (by omega)]
theorem OY {g:Geo} (hg:Bp g=true):0<CH g:=by
 obtain⟨g1,g2,g3,g4,g5⟩:=As.1 hg;unfold CH;omega
theorem VD {g:Geo} {s:ByteArray} (hg:Bp g=true):∀ w∈NX g s,0<=w.addr/\w.bytes=GL g s w.addr:=by
 obtain⟨g1,g2,g3,g4,g5⟩:=As.1 hg;have hp:=OY hg;intro w hw;simp only [NX,A0,H0 hg g.z.toNat w (by omega)] at hw;rcases hw with hw | hw | hw | ⟨z,k,h1,h2,rfl⟩ | ⟨z,i,h1,h2,rfl⟩
 ·simp only [Bd,AK,AM] at hw;obtain⟨i,hi,rfl⟩:=hw;exact⟨by show (0:Int)<=(i:Nat);omega,(RX (by show ((i:Nat):Int)<g.an;omega)).symm⟩
 ·simp only [GH,AK,AM] at hw;obtain⟨i,hi,rfl⟩:=hw;exact⟨by show 0<=Bf g 0 i;unfold Bf;omega,(LC (.inl rfl) (by omega)).symm⟩
 ·simp only [GH,AK,AM] at hw;obtain⟨i,hi,rfl⟩:=hw;exact⟨by show 0<=Bf g 1 i;unfold Bf;omega,(LC (.inr rfl) (by omega)).symm⟩
 ·exact⟨by show 0<=Bw g z k;unfold Bw;omega,(P1 (by omega) (by omega) h2).symm⟩
 ·have:0<=(z:Int)*CH g:=CP (by omega) (by omega);exact⟨by show 0<=Cr g z i;unfold Cr;omega,(Nd (by omega) (by omega) (by omega)).symm⟩
theorem VC {g:Geo} {s:ByteArray} (hg:Bp g=true) {a:Int} (h0:0<=a) (h:a<A4 g):∃ w∈NX g s,w.addr=a:=by
 obtain⟨g1,g2,g3,g4,g5⟩:=As.1 hg;have hp:=OY hg;by_cases h1:a<g.an
 ·refine⟨⟨a,De (BX g s) a⟩,?_,rfl⟩;simp only [NX,A0,Bd,AK,AM];exact .inl ⟨a.toNat,by omega,by rw [C6 h0]⟩
 ·have hlog:∀ (c:Int) (i:Nat),(c=0\/c=1)->(i:Int)<g.sl->∃ w∈NX g s,w.addr=Bf g c i:=fun c i hc hi=>by
   refine⟨⟨Bf g c i,BU g zeroC c i⟩,?_,rfl⟩;simp only [NX,A0,GH,AK,AM];rcases hc with rfl | rfl
   ·exact .inr (.inl ⟨i,by omega,rfl⟩)
   ·exact .inr (.inr (.inl ⟨i,by omega,rfl⟩))
  by_cases h2:a<g.an+g.sl
  ·obtain⟨w,hw,e⟩:=hlog 0 (a - g.an).toNat (.inl rfl) (by omega);exact⟨w,hw,by rw [e];unfold Bf;omega⟩
  ·by_cases h3:a<g.an+2*g.sl
   ·obtain⟨w,hw,e⟩:=hlog 1 (a - g.an - g.sl).toNat (.inr rfl) (by omega);exact⟨w,hw,by rw [e];unfold Bf;omega⟩
   ·by_cases h4:a<g.an+2*g.sl+2*g.z
    ·refine⟨⟨Bw g (((a - (g.an+2*g.sl)).toNat / 2:Nat)) ((a - (g.an+2*g.sl)).toNat % 2:Nat),CA (Bw g (((a - (g.an+2*g.sl)).toNat / 2:Nat)) ((a - (g.an+2*g.sl)).toNat % 2:Nat)) 0 (CM (E3 g))⟩,?_,by show Bw g _ _=a;unfold Bw;omega⟩;simp only [NX,A0,H0 hg g.z.toNat _ (by omega)];exact .inr (.inr (.inr (.inl ⟨_,_,by omega,by omega,rfl⟩)))
    ·have hq:a - (g.an+2*g.sl+2*g.z)=((a - (g.an+2*g.sl+2*g.z)).toNat:Int):=by omega
     generalize hX:(a - (g.an+2*g.sl+2*g.z)).toNat=X at hq;have hP:CH g=((CH g).toNat:Int):=by omega
     have hX2:X<g.z.toNat*(CH g).toNat:=by
      have:(X:Int)<g.z*CH g:=by unfold A4 at h;omega
      rw [hP,show g.z=(g.z.toNat:Int) by omega] at this
      exact_mod_cast this
     generalize hPn:(CH g).toNat=p at hP hX2;have hp0:0<p:=by omega
     have hdm:(X / p)*p+X % p=X:=Nat.div_add_mod' X p;refine⟨⟨Cr g ((X / p:Nat)) ((X % p:Nat)),CA (Cr g ((X / p:Nat)) ((X % p:Nat))) 0 zero8⟩,?_,?_⟩
     ·simp only [NX,A0,H0 hg g.z.toNat _ (by omega)];exact .inr (.inr (.inr (.inr ⟨X / p,X % p,Nat.div_lt_of_lt_mul (by rw [Nat.mul_comm];exact hX2),by rw [hPn];exact Nat.mod_lt _ hp0,rfl⟩)))
     ·show Cr g _ _=a;unfold Cr;rw [hP];have:((X / p:Nat):Int)*(p:Int)+((X % p:Nat):Int)=(X:Int):=by exact_mod_cast hdm
      omega
theorem Pz {g:Geo} {s:ByteArray} (hg:Bp g=true) {a:Int} (h0:0<=a) (h:a<A4 g):(GM g s).cells.getD a.toNat cz=⟨0,GL g s a, []⟩:=by
 have hl:a.toNat<(Iz g).length:=by rw [LE];omega
 obtain⟨w,hw,e⟩:=VC (s:=s) hg h0 h;have hall:=VD (s:=s) hg;show (GN g s g.z.toNat).getD a.toNat cz=_;rw [VF];refine(Nc (F:=GL g s a) (NX g s) (Iz g) a.toNat hl (fun x hx hxa=>?_) (.inl ⟨w,hw,by rw [e]⟩)).trans ?_
 ·have:=hall x hx;rw [this.2];congr 1;omega
 ·have:(Iz g).getD a.toNat cz=cz:=by
   unfold Iz;rw [Aa,List.getElem?_replicate];split <;> rfl
  rw [this];try rfl
structure Holds (d:Dk) (n:Int) (F:Int->List UInt8):Prop where
 len:(d.cells.length:Int)=n
 cache:d.cache=[]
 cell:∀ a:Int,0<=a->a<n->(d.cells.getD a.toNat cz).state=0/\(d.cells.getD a.toNat cz).bytes=F a
theorem Holds.got {d:Dk} {n:Int} {F:Int->List UInt8} (h:Holds d n F) {a:Int} (h0:0<=a) (h1:a<n):To d a=⟨0,F a⟩:=by
 obtain⟨e1,e2⟩:=h.cell a h0 h1;have hg:d.got a=((d.cells.getD a.toNat cz).bytes,0):=by
  unfold Dk.got;rw [h.cache];simp only [MQ];rw [show (d.cells.getD a.toNat ⟨0, [], []⟩)=d.cells.getD a.toNat cz from rfl,if_pos e1]
 rw [To,hg,e2]
theorem Nb {g:Geo} {s:ByteArray} (hg:Bp g=true):Holds (GM g s) (A4 g) (GL g s):=by
 have hc:=DZ hg;obtain⟨g1,g2,g3,g4,g5⟩:=As.1 hg;refine⟨?_,rfl,fun a h0 h1=>by rw [Pz hg h0 h1];exact tA⟩;show ((GN g s g.z.toNat).length:Int)=_;rw [Gx];omega
def Dk.tick (k:Nat) (d:Dk):Dk:=⟨d.cells,d.cache,min (d.reqs+k) 1048576,if d.left<0 then d.left else d.left - k⟩
structure Lv (d:Dk) (k:Nat):Prop where
 r:0<=d.reqs/\d.reqs<=1048576
 l:d.left<0\/(k:Int)<=d.left
theorem Lv.le {d:Dk} {k j:Nat} (h:Lv d k) (hj:j<=k):Lv d j:=⟨h.r,by have:=h.l;omega⟩
theorem Lh {d:Dk} (h:0<=d.reqs/\d.reqs<=1048576) (_h0:d.left≠0) (hl:d.left<0\/1<=d.left):d.req=d.tick 1:=by
 unfold Dk.req Dk.tick;rw [wi (by omega)];congr 1
 ·split <;> omega
 ·split <;> split <;> omega
theorem Gg {d:Dk} (a b:Nat) (_hr:d.reqs<=1048576) (h:d.left<0\/(a:Int)<=d.left):(d.tick a).tick b=d.tick (a+b):=by
 unfold Dk.tick;congr 1
 ·simp only;omega
 ·simp only;by_cases h':d.left<0
  ·simp only [h',if_true]
  ·rw [if_neg h',if_neg (by omega),if_neg h'];omega
theorem Mw {d:Dk} (hr:d.reqs<=1048576):d.tick 0=d:=by
 unfold Dk.tick;obtain⟨c,ca,r,l⟩:=d;simp only [Dk.mk.injEq,true_and] at hr |-
 constructor
 ·omega
 ·split <;> omega
theorem IE {d:Dk} {a b:Nat} (h:Lv d (a+b)):Lv (d.tick a) b:=by
 have:=h.r;have:=h.l;refine⟨?_,?_⟩
 ·show 0<=min _ _/\min _ _<=_;omega
 ·show (if d.left<0 then d.left else d.left - a)<0\/(b:Int)<=(if d.left<0 then d.left else d.left - a);split <;> omega
theorem L_ {d:Dk}:∀ (k:Nat),Lv d k->d.adv k=d.tick k
 | 0,h=>(Mw h.r.2).symm
 | k+1,h=>by
  have ih:=L_ k (h.le (by omega));have h1:=IE (a:=k) (b:=1) h;have h2:=h1.l;show (if (d.adv k).left=0 then d.adv k else (d.adv k).req)=_;rw [ih,if_neg (by omega),Lh h1.r (by omega) (by omega),Gg k 1 h.r.2 (by have:=h.l;omega)]
def free (cs:List Cel) (w:Wr):Bool:=decide ((cs.getD w.addr.toNat cz).state≠2)
theorem Qa {d:Dk} {w:Wr} (h:Lv d 1) (hc:d.cache.length<2000):d.write w.addr w.bytes=if free d.cells w then (⟨d.cells,d.cache ++ [w],(d.tick 1).reqs,(d.tick 1).left⟩,0) else (d.tick 1,7):=by
 have:=h.l;unfold Dk.write free;rw [if_neg (by omega),Lh h.r (by omega) (by omega)];by_cases h2:(d.cells.getD w.addr.toNat cz).state=2
 ·rw [if_pos (.inl h2),if_neg (by simpa using h2)]
 ·rw [if_neg (by rintro(h3 | h3);exact h2 h3;omega),if_pos (by simpa using h2)];try rfl
theorem writes_go:∀ (l:List Wr) (d:Dk) (n:Nat),Lv d l.length->d.cache.length+l.length<=2000->l.foldl Fw (d,n,false)=(⟨d.cells,d.cache ++ l.filter (free d.cells),(d.tick l.length).reqs,(d.tick l.length).left⟩,n+(l.filter (free d.cells)).length,false)
 | [],d,n,h,_=>by
  show (d,n,false)=_;rw [show ([]:List Wr).length=0 from rfl,Mw h.r.2];simp only [List.filter_nil,AL,Bb,C4]
 | w::l,d,n,h,hc=>by
  have hl:(w::l).length=l.length+1:=rfl;rw [hl] at h hc |-
  have hw:=Qa (w:=w) (h.le (show 1<=l.length+1 by omega)) (by omega);have h1:Lv (d.tick 1) l.length:=IE (by rw [CK];exact h);have ht:=Gg (d:=d) 1 l.length h.r.2 (by have:=h.l;omega);rw [CK] at ht;show l.foldl Fw (Fw (d,n,false) w)=_;have hs:Fw (d,n,false) w=(match d.write w.addr w.bytes with | (d,e)=>if e=8 then (d,n,true) else (d,n+(if e=0 then 1 else 0),false)):=by
   unfold Fw;rw [if_neg (by simp)]
  rw [hs,hw];cases hf:free d.cells w with
  | true=>
   simp only [if_true];rw [if_neg (by decide)];have hgo:=writes_go l ⟨d.cells,d.cache ++ [w],(d.tick 1).reqs,(d.tick 1).left⟩ (n+1) ⟨h1.r,h1.l⟩ (by simp;omega);have e1:((⟨d.cells,d.cache ++ [w],(d.tick 1).reqs,(d.tick 1).left⟩:Dk).tick l.length).reqs=(d.tick (l.length+1)).reqs/\((⟨d.cells,d.cache ++ [w],(d.tick 1).reqs,(d.tick 1).left⟩:Dk).tick l.length).left=(d.tick (l.length+1)).left:=by rw [<-ht];exact tA
   rw [e1.1,e1.2] at hgo;rw [hgo];simp only [List.filter_cons,hf,if_true,Ap,A6,List.singleton_append,Prod.mk.injEq,and_true,true_and];omega
  | false=>
   simp only [Cu,if_false];rw [if_neg (by decide),if_neg (by decide)];rw [writes_go l (d.tick 1) (n+0) h1 (by show d.cache.length+_<=_;omega),ht];simp only [List.filter_cons,hf,Cu,if_false,C4];rfl
theorem Oq {d:Dk} {l:List Wr} (h:Lv d l.length) (hc:d.cache.length+l.length<=2000):d.writes l=(⟨d.cells,d.cache ++ l.filter (free d.cells),(d.tick l.length).reqs,(d.tick l.length).left⟩,(l.filter (free d.cells)).length,false):=by
 rw [Dk.writes,writes_go l d 0 h hc,Az]
def EZ (cs:List Cel) (w:Wr):List Cel:=if (cs.getD w.addr.toNat cz).state=2 then cs else cs.set w.addr.toNat ⟨0,w.bytes,(cs.getD w.addr.toNat cz).bytes⟩
def CI (cs:List Cel) (l:List Wr):List Cel:=l.foldl EZ cs
theorem Gz (cs:List Cel) (w:Wr):(EZ cs w).length=cs.length:=by unfold EZ;split <;> simp
theorem finL_len:∀ (l:List Wr) (cs:List Cel),(CI cs l).length=cs.length
 | [],_=>rfl
 | w::l,cs=>by show (CI (EZ cs w) l).length=_;rw [finL_len l,Gz]
theorem Tt (d:Dk) (w:Wr):d.fin w={ d with cells:=EZ d.cells w }:=by unfold Dk.fin EZ;split <;> rfl
theorem allFin_cells:∀ (l:List Wr) (d:Dk),d.allFin l={ d with cells:=CI d.cells l }
 | [],_=>rfl
 | w::l,d=>by
  show (d.fin w).allFin l=_;rw [allFin_cells l,Tt];try rfl
theorem FK (cs:List Cel) (w:Wr) (a:Nat) (ha:a<cs.length):(EZ cs w).getD a cz=if w.addr.toNat=a/\(cs.getD a cz).state≠2 then ⟨0,w.bytes,(cs.getD a cz).bytes⟩ else cs.getD a cz:=by
 unfold EZ;by_cases h:(cs.getD w.addr.toNat cz).state=2
 ·rw [if_pos h,if_neg];rintro⟨rfl,h2⟩;exact h2 h
 ·rw [if_neg h,GJ _ _ _ _ ha];by_cases e:w.addr.toNat=a
  ·subst e;rw [if_pos rfl,if_pos ⟨rfl,h⟩]
  ·rw [if_neg e,if_neg (fun h=>e h.1)]
theorem finL_miss:∀ (l:List Wr) (cs:List Cel) (a:Nat),a<cs.length->(∀ w∈l,w.addr.toNat≠a)->(CI cs l).getD a cz=cs.getD a cz
 | [],_,_,_,_=>rfl
 | w::l,cs,a,ha,h=>by
  have hs:=FK cs w a ha;rw [if_neg (fun e=>h w (by simp) e.1)] at hs;show (CI (EZ cs w) l).getD a cz=_;rw [finL_miss l (EZ cs w) a (by rw [Gz];exact ha) (fun x hx=>h x (AU _ hx)),hs]
theorem finL_stuck:∀ (l:List Wr) (cs:List Cel) (a:Nat),a<cs.length->(cs.getD a cz).state=2->(CI cs l).getD a cz=cs.getD a cz
 | [],_,_,_,_=>rfl
 | w::l,cs,a,ha,h=>by
  have hs:=FK cs w a ha;rw [if_neg (fun e=>e.2 h)] at hs;show (CI (EZ cs w) l).getD a cz=_;rw [finL_stuck l (EZ cs w) a (by rw [Gz];exact ha) (by rw [hs];exact h),hs]
theorem finL_any:∀ (l:List Wr) (cs:List Cel) (a:Nat),a<cs.length->(CI cs l).getD a cz=cs.getD a cz\/(cs.getD a cz).state≠2/\((CI cs l).getD a cz).state=0/\∃ w∈l,w.addr.toNat=a/\((CI cs l).getD a cz).bytes=w.bytes
 | [],_,_,_=> .inl rfl
 | w::l,cs,a,ha=>by
  have hs:=FK cs w a ha;have ih:=finL_any l (EZ cs w) a (by rw [Gz];exact ha);by_cases e:w.addr.toNat=a/\(cs.getD a cz).state≠2
  ·rw [if_pos e] at hs;rcases ih with ih | ⟨h1,h2,x,hx,h3,h4⟩
   ·refine .inr ⟨e.2,?_,w,by simp,e.1,?_⟩
    ·show ((CI (EZ cs w) l).getD a cz).state=0;rw [ih,hs]
    ·show ((CI (EZ cs w) l).getD a cz).bytes=_;rw [ih,hs]
   ·exact .inr ⟨e.2,h2,x,AU _ hx,h3,h4⟩
  ·rw [if_neg e] at hs;rcases ih with ih | ⟨h1,h2,x,hx,h3,h4⟩
   ·exact .inl (ih.trans hs)
   ·exact .inr ⟨by rw [hs] at h1;exact h1,h2,x,AU _ hx,h3,h4⟩
theorem LO {F:List UInt8}:∀ (l:List Wr) (cs:List Cel) (a:Nat),a<cs.length->(cs.getD a cz).state≠2->(∀ w∈l,w.addr.toNat=a->w.bytes=F)->(∃ w∈l,w.addr.toNat=a)\/((cs.getD a cz).state=0/\(cs.getD a cz).bytes=F)->((CI cs l).getD a cz).state=0/\((CI cs l).getD a cz).bytes=F
 | [],cs,a,_,_,_,h=>by
  rcases h with ⟨w,hw,_⟩ | h
  ·cases hw
  ·exact h
 | w::l,cs,a,ha,h2,hF,h=>by
  have hs:=FK cs w a ha;have ha':a<(EZ cs w).length:=by rw [Gz];exact ha
  show ((CI (EZ cs w) l).getD a cz).state=0/\((CI (EZ cs w) l).getD a cz).bytes=F;by_cases e:w.addr.toNat=a
  ·rw [if_pos ⟨e,h2⟩,hF w (by simp) e] at hs;exact LO l (EZ cs w) a ha' (by rw [hs];show (0:Int)≠2;decide) (fun x hx=>hF x (AU _ hx)) (.inr (by rw [hs];exact tA))
  ·rw [if_neg (fun q=>e q.1)] at hs;refine LO l (EZ cs w) a ha' (by rw [hs];exact h2) (fun x hx=>hF x (AU _ hx)) ?_;rcases h with ⟨x,hx,hxa⟩ | h
   ·rcases A_.1 hx with rfl | hx
    ·exact absurd hxa e
    ·exact .inl ⟨x,hx,hxa⟩
   ·exact .inr (by rw [hs];exact h)
theorem finL_free:∀ (l:List Wr) (cs cs0:List Cel),(∀ a,(cs.getD a cz).state=2↔(cs0.getD a cz).state=2)->CI cs (l.filter (free cs0))=CI cs l
 | [],_,_,_=>rfl
 | w::l,cs,cs0,h=>by
  have hstep:∀ a,((EZ cs w).getD a cz).state=2↔(cs0.getD a cz).state=2:=fun a=>by
   rw [<-h a];by_cases ha:a<cs.length
   ·rw [FK cs w a ha];split
    ·rename_i e;constructor
     ·intro q;exact absurd q (by simp)
     ·intro q;exact absurd q e.2
    ·exact Iff.rfl
   ·rw [Aa,Aa,AI (by rw [Gz];omega),AI (by omega)]
  show _=CI (EZ cs w) l;rw [List.filter_cons];by_cases hf:free cs0 w=true
  ·rw [if_pos hf];exact finL_free l (EZ cs w) cs0 hstep
  ·rw [if_neg hf];have:EZ cs w=cs:=by
    unfold EZ;rw [if_pos];simp only [free,decide_eq_true_eq,Decidable.not_not] at hf;exact(h _).2 hf
   rw [this];exact finL_free l cs cs0 h
theorem IR {d:Dk} {l:List Wr} (h:Lv d (l.length+1)) (hc:d.cache=[]) (hl:l.length<=2000):d.putAll l=(⟨CI d.cells l, [],(d.tick (l.length+1)).reqs,(d.tick (l.length+1)).left⟩,(l.filter (free d.cells)).length,false):=by
 have hw:=Oq (h.le (show l.length<=l.length+1 by omega)) (by rw [hc];simpa using hl);have h1:=IE (a:=l.length) (b:=1) h;have h2:=h1.l;rw [hc,Br] at hw;unfold Dk.putAll;rw [hw];simp only [Cu,if_false];rw [if_neg (by show ¬(d.tick l.length).left=0;omega)];have ht:=Gg (d:=d) l.length 1 h.r.2 (by have:=h.l;omega);simp only [Prod.mk.injEq,and_true];unfold Dk.flush;rw [allFin_cells];have h3:Lv ⟨d.cells,l.filter (free d.cells),(d.tick l.length).reqs,(d.tick l.length).left⟩ 1:=⟨h1.r,h1.l⟩;have hr:=Lh (d:=⟨d.cells,l.filter (free d.cells),(d.tick l.length).reqs,(d.tick l.length).left⟩) h3.r (by show (d.tick l.length).left≠0;omega) (by show (d.tick l.length).left<0\/1<=(d.tick l.length).left;omega);rw [hr,<-ht];show (⟨CI d.cells (l.filter (free d.cells)), [],_,_⟩:Dk)=_;rw [finL_free l d.cells d.cells fun _=>Iff.rfl];try rfl
structure Gw (n:Int) (d:Dk) (F:Int->List UInt8) (l:List Wr):Prop where
 ok:DkOk d
 left:d.left = -1
 len:(d.cells.length:Int)=n
 cache:d.cache=l
 cell:∀ a:Int,0<=a->a<n->(d.cells.getD a.toNat cz).state=0/\(d.cells.getD a.toNat cz).bytes=F a
 old:∀ a:Int,0<=a->a<n->(d.cells.getD a.toNat cz).old=F (-1 - a)
abbrev Gd (n:Int) (d:Dk) (F:Int->List UInt8):Prop:=Gw n d F []
def XZ (F:Int->List UInt8) (w:Wr) (a:Int):List UInt8:=if 0<=a then (if w.addr=a then w.bytes else F a) else if w.addr = -1 - a then F w.addr else F a
def Ry (F:Int->List UInt8) (l:List Wr):Int->List UInt8:=l.foldl XZ F
theorem KJ {F:Int->List UInt8} (l:List Wr) (w:Wr):Ry F (l ++ [w])=XZ (Ry F l) w:=by
 unfold Ry;rw [B_];try rfl
theorem Gw.req {n:Int} {d:Dk} {F:Int->List UInt8} {l:List Wr} (h:Gw n d F l):Gw n d.req F l:=
 ⟨h.ok.req,by unfold Dk.req;rw [h.left];try rfl,h.len,h.cache,h.cell,h.old⟩
theorem Gd.got {n:Int} {d:Dk} {F:Int->List UInt8} (h:Gd n d F) {a:Int} (h0:0<=a) (h1:a<n):d.got a=(F a,0):=by
 have:=Holds.got ⟨h.len,h.cache,h.cell⟩ h0 h1;unfold To at this;injection this with e1 e2
 exact Prod.ext e2 e1
theorem Gd.read {n:Int} {d:Dk} {F:Int->List UInt8} (h:Gd n d F) {a:Int} (h0:0<=a) (h1:a<n):d.read a=(d.req,F a,0):=by
 unfold Dk.read;rw [if_neg (by rw [h.left];decide),h.got h0 h1]
theorem Gw.write {n:Int} {d:Dk} {F:Int->List UInt8} {l:List Wr} (h:Gw n d F l) (hl:l.length<2000) {a:Int} (h0:0<=a) (h1:a<n) {b:List UInt8} (hb:b.length<=200):(d.write a b).2=0/\Gw n (d.write a b).1 F (l ++ [⟨a,b⟩]):=by
 have hw:=h.ok.write (a:=a) (b:=b) (by rw [<-h.len] at h1;omega) hb;have e:d.write a b=({ d.req with cache:=d.cache ++ [⟨a,b⟩] },0):=by
  unfold Dk.write;rw [if_neg (by rw [h.left];decide),if_neg];rintro(h2 | h2)
  ·have:=(h.cell a h0 h1).1;unfold cz at this;omega
  ·rw [h.cache] at h2;omega
 rw [e] at hw |-
 exact⟨rfl,hw,h.req.left,h.len,by rw [h.cache],h.cell,h.old⟩
theorem Od {cs:List Cel} {F:Int->List UInt8} {a:Int} (h0:0<=a) (h1:a.toNat<cs.length) (hc:(cs.getD a.toNat cz).state=0/\(cs.getD a.toNat cz).bytes=F a):∀ (n:Nat) (l:List Wr),l.length=n->(∀ w∈l,0<=w.addr)->((CI cs l).getD a.toNat cz).state=0/\((CI cs l).getD a.toNat cz).bytes=Ry F l a
 | 0,l,hn,_=>by
  obtain rfl:=AQ.1 hn;exact hc
 | n+1,l,hn,hw=>by
  rcases CC l with rfl | ⟨m,w,rfl⟩
  ·cases hn
  ·have ih:=Od h0 h1 hc n m (by simpa using hn) (fun x hx=>hw x (by simp [hx]));have hwa:=hw w (by simp);have e:CI cs (m ++ [w])=EZ (CI cs m) w:=by unfold CI;rw [B_];try rfl
   have e2:=FK (CI cs m) w a.toNat (by rw [finL_len];exact h1);rw [CD,e,e2,KJ];unfold XZ;rw [if_pos h0];by_cases hA:w.addr=a
   ·rw [if_pos hA,if_pos ⟨by rw [hA],by rw [ih.1];decide⟩];exact tA
   ·rw [if_neg hA,if_neg (fun h=>hA (by have:=h.1;omega))];exact ih
theorem R_ {cs:List Cel} {F:Int->List UInt8} {a:Int} (h0:0<=a) (h1:a.toNat<cs.length) (hc:(cs.getD a.toNat cz).state=0/\(cs.getD a.toNat cz).bytes=F a) (ho:(cs.getD a.toNat cz).old=F (-1 - a)):∀ (n:Nat) (l:List Wr),l.length=n->(∀ w∈l,0<=w.addr)->((CI cs l).getD a.toNat cz).old=Ry F l (-1 - a)
 | 0,l,hn,_=>by
  obtain rfl:=AQ.1 hn;exact ho
 | n+1,l,hn,hw=>by
  rcases CC l with rfl | ⟨m,w,rfl⟩
  ·cases hn
  ·have ih:=R_ h0 h1 hc ho n m (by simpa using hn) (fun x hx=>hw x (by simp [hx]));have iu:=Od h0 h1 hc n m (by simpa using hn) (fun x hx=>hw x (by simp [hx]));have hwa:=hw w (by simp);have e:CI cs (m ++ [w])=EZ (CI cs m) w:=by unfold CI;rw [B_];try rfl
   have e2:=FK (CI cs m) w a.toNat (by rw [finL_len];exact h1);rw [CD,e,e2,KJ];unfold XZ;rw [if_neg (show ¬(0:Int)<= -1 - a by omega),show -1 - (-1 - a)=a by omega];by_cases hA:w.addr=a
   ·rw [if_pos hA,if_pos ⟨by rw [hA],by rw [iu.1];decide⟩,hA];exact iu.2
   ·rw [if_neg hA,if_neg (fun h=>hA (by have:=h.1;omega))];exact ih
theorem Gw.flush {n:Int} {d:Dk} {F:Int->List UInt8} {l:List Wr} (h:Gw n d F l):Gd n d.flush (Ry F l):=by
 have e:d.flush=⟨CI d.cells l, [],d.req.reqs,d.req.left⟩:=by
  unfold Dk.flush;rw [allFin_cells,h.cache];try rfl
 have ho:=h.ok.flush;rw [e] at ho |-
 have hl:=h.len;have hw0:∀ w∈l,0<=w.addr:=fun w hw=>by
  rw [<-h.cache] at hw;exact(h.ok.w w hw).1.1
 exact⟨ho,h.req.left,by show ((CI d.cells l).length:Int)=n;rw [finL_len];exact h.len,rfl,fun a h0 h1=>Od h0 (by omega) (h.cell a h0 h1) _ l rfl hw0,fun a h0 h1=>R_ h0 (by omega) (h.cell a h0 h1) (h.old a h0 h1) _ l rfl hw0⟩
theorem Oz {F:Int->List UInt8} {a:Int} (h0:0<=a):∀ (n:Nat) (l:List Wr),l.length=n->(∀ w∈l,w.addr≠a)->Ry F l a=F a
 | 0,l,hn,_=>by
  obtain rfl:=AQ.1 hn;rfl
 | n+1,l,hn,h=>by
  rcases CC l with rfl | ⟨m,w,rfl⟩
  ·rfl
  ·have ih:=Oz (F:=F) h0 n m (by simpa using hn) (fun x hx=>h x (by simp [hx]));rw [CD,KJ];unfold XZ;rw [if_pos h0,if_neg (h w (by simp))];exact ih
def Vx (g:Geo) (a:An) (seq:Int) (x:Img):List Wr:=if x.what=255 then [⟨Bw g x.zone 0,CA (Bw g x.zone 0) seq x.bytes⟩,⟨Bw g x.zone 1,CA (Bw g x.zone 1) seq x.bytes⟩] else [⟨DG g a x.zone x.what,CA (DG g a x.zone x.what) seq x.bytes⟩]
def L2 (g:Geo) (a:An) (seq:Int):List Img->List Wr
 | []=> []
 | x::r=>Vx g a seq x ++ L2 g a seq r
def E1 (a:An) (seq:Int) (x:Img):An:=if x.what=255 then { a with homes:=a.homes.set x.zone.toNat { a.homes.getD x.zone.toNat ⟨[],0,0⟩ with root:=seq } } else a
def En (a:An) (seq:Int) (l:List Img):An:=l.foldl (fun a x=>E1 a seq x) a
theorem Qb (a:An) (seq:Int) (x:Img):(E1 a seq x).homes.length=a.homes.length:=by unfold E1;split <;> simp
theorem O0 (seq:Int):∀ (l:List Img) (a:An),(En a seq l).homes.length=a.homes.length
 | [],_=>rfl
 | x::r,a=>by
  show (En (E1 a seq x) seq r).homes.length=_;rw [O0 seq r,Qb]
theorem Sp {g:Geo} {a:An} {seq:Int} {x:Img} (ha:Bu g a=true) (hs:0<=seq/\seq<=4294967295):Bu g (E1 a seq x)=true:=by
 unfold E1;split
 ·by_cases hi:x.zone.toNat<a.homes.length
  ·simp only [Bu,Ad,decide_eq_true_eq,Au] at ha |-
   obtain⟨q1,q2,q3,q4,q5,q6,q7⟩:=ha;refine⟨q1,q2,q3,q4,q5,by rw [AX];exact q6,fun y hy=>?_⟩;rcases Cj hy with h | rfl
   ·exact q7 y h
   ·have hh:=q7 _ (A7 (d:=(⟨[],0,0⟩:Hm)) hi);simp only [DN,Ad] at hh |-
    exact⟨hh.1,hh.2.1,AF.2 hs,hh.2.2.2⟩
  ·rw [List.set_eq_of_length_le (by omega)];exact ha
 ·exact ha
theorem KL {g:Geo} {seq:Int} (hs:0<=seq/\seq<=4294967295):∀ (l:List Img) {a:An},Bu g a=true->Bu g (En a seq l)=true
 | [],_,h=>h
 | x::r,_,h=>KL hs r (Sp h hs)
def O5 (g:Geo) (a:An) (x:Tx):An:={ En a x.seq x.images with gen:=a.gen+1,pos:=(x.pos+x.n).tmod g.sl,seq:=a.seq+1,last:=max a.last a.seq }
theorem IA (seq:Int):∀ (l:List Img) (a:An),(En a seq l).gen=a.gen/\(En a seq l).epoch=a.epoch/\(En a seq l).pos=a.pos/\(En a seq l).seq=a.seq/\(En a seq l).last=a.last/\(En a seq l).label=a.label
 | [],_=>tA
 | x::r,a=>by
  obtain⟨h1,h2,h3,h4,h5,h6⟩:=IA seq r (E1 a seq x);have e:(E1 a seq x).gen=a.gen/\(E1 a seq x).epoch=a.epoch/\(E1 a seq x).pos=a.pos/\(E1 a seq x).seq=a.seq/\(E1 a seq x).last=a.last/\(E1 a seq x).label=a.label:=by unfold E1;split <;> exact tA
  obtain⟨e1,e2,e3,e4,e5,e6⟩:=e;exact⟨h1.trans e1,h2.trans e2,h3.trans e3,h4.trans e4,h5.trans e5,h6.trans e6⟩
theorem Uy {g:Geo} {a:An} {x:Tx} (hg:Bp g=true) (ha:Bu g a=true) (h1:a.gen<4294967295) (h2:a.seq<4294967295) (hx:x.seq=a.seq) (hp:0<=x.pos) (hn:0<=x.n):Bu g (O5 g a x)=true:=by
 obtain⟨g1,g2,g3,g4,g5⟩:=As.1 hg;have hh:=ha;simp only [Bu,AT,BB,Bz,Ad,decide_eq_true_eq,AF] at hh;obtain⟨⟨w1,w2,w3,w4⟩,q2,q3,q4,q5,q6,q7⟩:=hh;have hu:=KL (g:=g) (seq:=x.seq) (by omega) x.images ha;obtain⟨_,e2,_,_,_,e6⟩:=IA x.seq x.images a;simp only [Bu,AT,BB,Bz,Ad,decide_eq_true_eq,AF] at hu |-
 obtain⟨_,_,_,_,u5,u6,u7⟩:=hu;have hm0:0<=(x.pos+x.n).tmod g.sl:=Bc _ (by omega);have hm1:(x.pos+x.n).tmod g.sl<g.sl:=AR _ (by omega);refine⟨⟨?_,?_,?_,?_⟩,?_,?_,?_,u5,u6,u7⟩
 ·show 0<=a.gen+1/\a.gen+1<=_;omega
 ·show 0<=(En a x.seq x.images).epoch/\(En a x.seq x.images).epoch<=_;rw [e2];exact w2
 ·show 0<=a.seq+1/\a.seq+1<=_;omega
 ·show 0<=max a.last a.seq/\max a.last a.seq<=_;omega
 ·show 1<=a.seq+1;omega
 ·show a.seq+1 - 1<=max a.last a.seq;omega
 ·show 0<=(x.pos+x.n).tmod g.sl/\(x.pos+x.n).tmod g.sl<=g.sl - 1;omega
theorem OneTab.eq:∀ {l:List Img} (_:OneTab l) {x y:Img},x∈l->y∈l->x.what=255->y.what=255->x.zone=y.zone->x=y
 | w::l,h,x,y,hx,hy,h1,h2,h3=>by
  obtain⟨q1,q2⟩:=List.pairwise_cons.1 h;rcases A_.1 hx with ex | mx
  ·rcases A_.1 hy with ey | my
   ·rw [ex,ey]
   ·rw [ex] at h1 h3;exact absurd h3 (q1 y my h1 h2)
  ·rcases A_.1 hy with ey | my
   ·rw [ey] at h2 h3;exact absurd h3.symm (q1 x mx h2 h1)
   ·exact OneTab.eq q2 mx my h1 h2 h3
theorem L1 {g:Geo} {a:An} {seq:Int} {w:Wr}:∀ {l:List Img},w∈L2 g a seq l↔∃ x∈l,w∈Vx g a seq x
 | []=>by simp [L2]
 | x::r=>by
  rw [L2,A0,L1];simp
theorem F3 {g:Geo} {x:Img} (h:Bx g x=true):(0<=x.zone/\x.zone<g.z)/\(x.what≠255-> -1<=x.what/\x.what<g.d/\x.bytes.length=8):=by
 simp only [Bx,Ad,AF] at h;refine⟨by omega,fun hw=>?_⟩;have h2:=h.2.2;rw [if_neg hw,Ad,AF,decide_eq_true_eq] at h2;omega
theorem V0 {g:Geo} {a:An} (ha:Bu g a=true) {z:Int} (hz:0<=z/\z<g.z):z.toNat<a.homes.length/\DN g (a.homes.getD z.toNat ⟨[],0,0⟩)=true:=by
 simp only [Bu,Ad,decide_eq_true_eq,Au] at ha;obtain⟨_,_,_,_,_,q6,q7⟩:=ha;have hi:z.toNat<a.homes.length:=by omega
 exact⟨hi,q7 _ (A7 (d:=(⟨[],0,0⟩:Hm)) hi)⟩
theorem Ma {g:Geo} (hg:Bp g=true) {a:An} (ha:Bu g a=true) {z w:Int} (hz:0<=z/\z<g.z) (hw : -1<=w/\w<g.d):∃ s,DG g a z w=Cr g z s/\0<=s/\s<CH g:=by
 obtain⟨g1,g2,g3,g4,g5⟩:=As.1 hg;obtain⟨hi,hh⟩:=V0 ha hz;simp only [DN,Ad,decide_eq_true_eq,AF] at hh;obtain⟨p1,p2,p3,p4⟩:=hh;have hat:0<=Fz g w/\Fz g w<=g.d:=by unfold Fz;split <;> omega
 refine⟨_,rfl,?_⟩;have hk:(Fz g w).toNat<(a.homes.getD z.toNat ⟨[],0,0⟩).places.length:=by omega
 have hp:=Au.1 p4 (Fz g w).toNat (by simpa using hk);simp only [Ad,AF] at hp;unfold CH;omega
theorem K3 {g:Geo} (hg:Bp g=true) {z s:Int} (hz:0<=z/\z<g.z) (hs:0<=s/\s<CH g):g.an+2*g.sl+2*g.z<=Cr g z s/\Cr g z s<A4 g:=by
 obtain⟨g1,g2,g3,g4,g5⟩:=As.1 hg;have hp:=GB hg;have h1:=G3 hg (z:=z) (by omega);have h2:z*CH g+CH g<=g.z*CH g:=by
  have:=Cg (show z+1<=g.z by omega) (show 0<=CH g by omega);rw [Int.add_mul,Int.one_mul] at this;exact this
 unfold Cr A4;omega
theorem N0 {g:Geo} (hg:Bp g=true) {z k:Int} (hz:0<=z/\z<g.z) (hk:0<=k/\k<=1):g.an+2*g.sl<=Bw g z k/\Bw g z k<g.an+2*g.sl+2*g.z/\Bw g z k<A4 g:=by
 obtain⟨g1,g2,g3,g4,g5⟩:=As.1 hg;have hp:=GB hg;have h1:=G3 hg (z:=g.z) (by omega);unfold Bw A4;omega

def FN (l:List (List UInt8)):AV:= .sl 1 l.length fun i=> [bA (l.getD i [])]
theorem Sn (b:List UInt8):Fn Tryz.prog 264 [bA b] fun r=>r = .v (.bool (((b.length:Nat):Int) != 8)):=by
 refine zT Tryz.func264 rfl ?_;exact⟨_,ri,rfl⟩
theorem Yd (l:List (List UInt8))  (hl:l.length<=1000000):Fn Tryz.prog 261 [FN l, .v (.func (.func 264) #[] #[])] fun r=>r = iv (Ud (fun b=>(((b.length:Nat):Int) != 8)) l):=by
 refine zT Tryz.func261 rfl ?_;conv=>whnf
 refine zP Nat (fun k=>([(0,FN l),(1, .v (.func (.func 264) #[] #[])),(7,iv l.length),(8,iv k)], [])) (fun k=>k<=l.length/\(l.take k).any (fun b=>(((b.length:Nat):Int) != 8))=false) (fun k=>l.length - k) 0 ⟨Aj _,by simp⟩ ⟨[],tv,tA,tv,rfl,rfl,rfl⟩ ?_;rintro k ⟨hk,hI⟩;conv=>whnf
 refine Am (fun h2=>?_) (fun h2=>?_) <;> simp at h2 <;> conv=>whnf
 ·refine⟨by first | omega | (refine⟨rfl,?_,?_⟩ <;> first | omega | (simp only [Ac];done) | (simp only [Ac];omega)) | (simp only [Ac];omega),?_⟩;conv=>whnf
  refine z_ (Sn (l.getD k [])) ?_;conv=>whnf
  refine Am (fun h3=>?_) (fun h3=>?_) <;> conv=>whnf
  ·exact⟨_,ri,by rw [HI (d:= []) h2 hI (by first | exact h3 | (rw [Ab] at h3;exact h3) | simpa using h3)]⟩
  ·refine⟨k+1,⟨by omega,DP (d:= []) h2 hI (by first | exact h3 | (rw [Ab] at h3;exact h3) | simpa using h3)⟩,by omega, [],tv,⟨rfl,rfl,rfl,AS (by omega),tv⟩,tv,rfl,rfl,rfl⟩
 ·exact⟨_,ri,by rw [Ay h2] at hI;rw [Gu hI]⟩
theorem Ye (l:List (List UInt8))  (hl:l.length<=1000000):Fn Tryz.prog 228 [FN l, .v (.func (.func 264) #[] #[])] fun r=>r = .v (.bool (l.any (fun b=>(((b.length:Nat):Int) != 8)))):=by
 refine zT Tryz.func228 rfl ?_;conv=>whnf
 refine z_ (Yd l  hl) ?_;exact⟨_,ri,by rw [JD]⟩

theorem Js (l:List (List UInt8)) (hl:l.length<=1000000) (h:∀ b∈l,b.length=8):Fn Tryz.prog 234 [FN l] fun r=>r = .v (.bool true):=by
 have hc:=Ye l hl;have e:(l.any fun b=>(((b.length:Nat):Int) != 8))=false:=by
  rw [List.any_eq_false];intro b hb;rw [h b hb];decide
 rw [e] at hc;refine zT Tryz.func234 rfl ?_;conv=>whnf
 refine z_ hc ?_;exact⟨_,ri,rfl⟩
theorem Si (b:List UInt8):Fn Tryz.prog 227 [bA b] fun r=>r = .v (.bool ((((b.length:Nat):Int) != 0)&&(((b.length:Nat):Int) != 8))):=by
 refine zT Tryz.func227 rfl ?_;conv=>whnf
 by_cases h:((b.length:Nat):Int)=0
 ·rw [show (((b.length:Nat):Int) != 0)=false from bne_eq_false_iff_eq.2 h];exact⟨_,ri,rfl⟩
 ·rw [show (((b.length:Nat):Int) != 0)=true from bne_iff_ne.2 h];exact⟨_,ri,by rw [B7]⟩
theorem XS (l:List (List UInt8))  (hl:l.length<=1000000):Fn Tryz.prog 261 [FN l, .v (.func (.func 227) #[] #[])] fun r=>r = iv (Ud (fun b=>((((b.length:Nat):Int) != 0)&&(((b.length:Nat):Int) != 8))) l):=by
 refine zT Tryz.func261 rfl ?_;conv=>whnf
 refine zP Nat (fun k=>([(0,FN l),(1, .v (.func (.func 227) #[] #[])),(7,iv l.length),(8,iv k)], [])) (fun k=>k<=l.length/\(l.take k).any (fun b=>((((b.length:Nat):Int) != 0)&&(((b.length:Nat):Int) != 8)))=false) (fun k=>l.length - k) 0 ⟨Aj _,by simp⟩ ⟨[],tv,tA,tv,rfl,rfl,rfl⟩ ?_;rintro k ⟨hk,hI⟩;conv=>whnf
 refine Am (fun h2=>?_) (fun h2=>?_) <;> simp at h2 <;> conv=>whnf
 ·refine⟨by first | omega | (refine⟨rfl,?_,?_⟩ <;> first | omega | (simp only [Ac];done) | (simp only [Ac];omega)) | (simp only [Ac];omega),?_⟩;conv=>whnf
  refine z_ (Si (l.getD k [])) ?_;conv=>whnf
  refine Am (fun h3=>?_) (fun h3=>?_) <;> conv=>whnf
  ·exact⟨_,ri,by rw [HI (d:= []) h2 hI (by first | exact h3 | (rw [Ab] at h3;exact h3) | simpa using h3)]⟩
  ·refine⟨k+1,⟨by omega,DP (d:= []) h2 hI (by first | exact h3 | (rw [Ab] at h3;exact h3) | simpa using h3)⟩,by omega, [],tv,⟨rfl,rfl,rfl,AS (by omega),tv⟩,tv,rfl,rfl,rfl⟩
 ·exact⟨_,ri,by rw [Ay h2] at hI;rw [Gu hI]⟩
theorem XT (l:List (List UInt8))  (hl:l.length<=1000000):Fn Tryz.prog 228 [FN l, .v (.func (.func 227) #[] #[])] fun r=>r = .v (.bool (l.any (fun b=>((((b.length:Nat):Int) != 0)&&(((b.length:Nat):Int) != 8))))):=by
 refine zT Tryz.func228 rfl ?_;conv=>whnf
 refine z_ (XS l  hl) ?_;exact⟨_,ri,by rw [JD]⟩

@[reducible] def zlH (g:Geo) (t:List Ent) (had:List (List UInt8)):List AB:= [.box 298 [iv g.d,BM t,FN had]]
def FW (L b:List UInt8) (k:Nat):List UInt8:=G_ (L.take k) (b.take k) ++ L.drop k
theorem Td {L b:List UInt8} (h:L.length<=b.length) (k:Nat):(FW L b k).length=L.length:=by
 simp only [FW,Ai,Ge,At,Ak];omega
theorem Te {L b:List UInt8} {k:Nat} (h:k<L.length) (h2:L.length<=b.length):(FW L b k).getD k 0=L.getD k 0:=by
 have e:(G_ (L.take k) (b.take k)).length=k:=by rw [Ge,At,At];omega
 rw [FW,Aa,A5 (by omega),e,CJ,B9,C4,<-Aa]
theorem Tc {L b:List UInt8} {k:Nat} (h:k<L.length) (h2:L.length<=b.length):(FW L b k).set k (L.getD k 0 ^^^ b.getD k 0)=FW L b (k+1):=by
 have e:(G_ (L.take k) (b.take k)).length=k:=by rw [Ge,At,At];omega
 have e2:G_ (L.take (k+1)) (b.take (k+1))=G_ (L.take k) (b.take k) ++ [L.getD k 0 ^^^ b.getD k 0]:=by
  rw [Bg,Bg,Ae h,Ae (by omega),G_,List.zipWith_append (by rw [At,At];omega),Aa,Aa,Ae h,Ae (show k<b.length by omega)];try rfl
 rw [FW,FW,List.set_append_right _ _ (by omega),e,CJ,AY h,e2,A6];try rfl
theorem Tf {L b:List UInt8} (h:L.length=b.length):FW L b L.length=G_ L b:=by
 rw [FW,List.drop_length,AL,Aw,h,Aw]
theorem Sg {l:List UInt8} {k:Nat} (h:k<l.length):(l.map Eg).getD k []=Eg (l.getD k 0):=Bh h
theorem Ug (L b:List UInt8) (h:L.length=b.length) (hl:L.length<=1000000):ACalls Tryz.prog false 263 [.ow 0 L.length,bA b] [.row 5 1 (L.map Eg)] fun r H=>r = .tp []/\H=[.row 5 1 ((G_ L b).map Eg)]:=by
 refine zS tys_ok Tryz.func263 rfl rfl (Ah rfl) ?_;conv=>whnf
 refine zU Nat (fun k=>([(0, .ow 0 L.length),(6,bA b),(7,iv (b.length:Nat)),(8,iv (k:Nat))], [.row 5 1 ((FW L b k).map Eg)])) (fun k=>k<=b.length) (fun k=>b.length - k) 0 (Aj _)
  (zR (s:= [0]) tA) ?_
 intro k hk;conv=>whnf
 refine A8 (fun h6=>?_) (fun h6=>?_) <;> (repeat rw [Ab] at h6) <;> conv=>whnf
 ·have hk':k<b.length:=by omega
  have hml:=Td (L:=L) (b:=b) (by omega) k;repeat' (refine zZ ?_;conv=>whnf)
  refine⟨⟨by omega,by omega⟩,?_⟩;conv=>whnf
  repeat' (refine zZ ?_;conv=>whnf)
  refine⟨⟨by omega,by omega⟩,?_⟩;refine⟨⟨rfl,by rw [Ac,hml],by omega⟩,?_⟩;rw [Ab,Sg (by omega),Te (by omega) (by omega)];refine⟨⟨by omega,by omega⟩,?_⟩;refine⟨⟨rfl,by rw [Ac,hml],by omega⟩,?_⟩;rw [Ab,Sg (by omega)];refine⟨k+1,hk',by omega,zR (s:= [0]) ⟨⟨rfl,rfl,rfl,AS (by omega),tv⟩,⟨?_,tv⟩,rfl,rfl,rfl,rfl,rfl⟩⟩;have e:((FW L b k).map Eg).set k (Eg (L.getD k 0 ^^^ b.getD k 0))=(FW L b (k+1)).map Eg:=by rw [<-Dz,Tc (by omega) (by omega)]
  have ex:=X_ (L.getD k 0) (b.getD k 0).toNat (b.getD k 0).toNat_lt;rw [UInt8.ofNat_toNat] at ex;rw [<-e];show some (AB.row _ _ _)=some (AB.row _ _ _);rw [show Eg (L.getD k 0 ^^^ b.getD k 0)=[AV.v (.int .u8 ((L.getD k 0 ^^^ b.getD k 0).toNat:Nat))] from rfl,<-ex]
 ·have ek:k=b.length:=by omega
  subst ek;exact⟨_, .tp [], [.row 5 1 ((G_ L b).map Eg)],fun _ _ h=>h,zR (s:= [0]) ⟨tA,⟨congrArg (fun z=>some (AB.row 5 1 (List.map Eg z))) (show FW L b b.length=G_ L b by rw [<-h];exact Tf h),tv⟩,rfl,rfl,rfl,rfl,rfl⟩,rfl,rfl⟩
theorem Sl (l:List (List UInt8)) (hl:l.length<=1000000) (h:∀ b∈l,b.length=8):Fn Tryz.prog 262 [iv 8,FN l] fun r=>r = .v (.bool true):=by
 refine zT Tryz.func262 rfl ?_;conv=>whnf
 refine zU Nat (fun k=>([(0,iv 8),(7,FN l),(8,iv (l.length:Nat)),(9,iv (k:Nat))], [])) (fun k=>k<=l.length) (fun k=>l.length - k) 0 (Aj _)
  (zR (s:= []) tA) ?_
 intro k hk;conv=>whnf
 refine A8 (fun h6=>?_) (fun h6=>?_) <;> (repeat rw [Ab] at h6) <;> conv=>whnf
 ·have hk':k<l.length:=by omega
  have h8:=h _ (A7 (d:=([]:List UInt8)) hk');repeat' (refine zZ ?_;conv=>whnf)
  refine⟨⟨by omega,by omega⟩,?_⟩;conv=>whnf
  repeat' (refine zZ ?_;conv=>whnf)
  rw [show (((l.getD (k:Int).toNat []).length:Int) != 8)=false from bne_eq_false_iff_eq.2 (by rw [Ab,h8];try rfl)];exact⟨k+1,hk',by omega,zR (s:= []) ⟨⟨rfl,rfl,rfl,AS (by omega),tv⟩,tv,rfl,rfl,rfl,rfl,rfl⟩⟩
 ·exact⟨_,ri,rfl⟩
def FO (l:List (List UInt8)):List UInt8:=l.foldl G_ zero8
theorem xorL_len:∀ (l:List (List UInt8)) (a:List UInt8),a.length=8->(∀ b∈l,b.length=8)->(l.foldl G_ a).length=8
 | [],_,h,_=>h
 | b::l,a,h,hl=>xorL_len l _ (by rw [Ge,h,hl b (by simp)];rfl) fun c hc=>hl c (by simp [hc])
theorem Nv (l:List (List UInt8)) (hl:l.length<=1000000) (h:∀ b∈l,b.length=8):Fn Tryz.prog 230 [FN l,iv 8] fun r=>r = .tp [bA (FO l),iv 0]:=by
 have ha:=Sl l hl h;refine zT Tryz.func230 rfl ?_;conv=>whnf
 refine z_ ha ?_;refine⟨⟨rfl,by decide,by decide⟩,?_⟩;conv=>whnf
 refine zU Nat (fun k=>([(0,FN l),(6, .ow 0 8),(23,FN l),(24,iv (l.length:Nat)),(25,iv (k:Nat))], [.row 5 1 ((FO (l.take k)).map Eg)])) (fun k=>k<=l.length) (fun k=>l.length - k) 0 (Aj _)
  (zR (s:= [0]) tA) ?_
 intro k hk;conv=>whnf
 refine A8 (fun h6=>?_) (fun h6=>?_) <;> (repeat rw [Ab] at h6) <;> conv=>whnf
 ·have hk':k<l.length:=by omega
  have h8:=h _ (A7 (d:=([]:List UInt8)) hk');have hx:(FO (l.take k)).length=8:=xorL_len _ _ rfl fun b hb=>h b (Cc hb)
  have hi:=Ug (FO (l.take k)) (l.getD k []) (by omega) (by omega);rw [hx] at hi;have hs:G_ (FO (l.take k)) (l.getD k [])=FO (l.take (k+1)):=by
   unfold FO;rw [Bg,B_,Aa,Ae hk'];try rfl
  rw [hs] at hi;repeat' (refine zZ ?_;conv=>whnf)
  refine⟨⟨by omega,by omega⟩,?_⟩;conv=>whnf
  rw [Ab];repeat' (refine zZ ?_;conv=>whnf)
  refine hi.mono ?_;rintro _ _ ⟨rfl,rfl⟩;exact⟨k+1,hk',by omega,zR (s:= [0]) ⟨⟨rfl,rfl,rfl,rfl,AS (by omega),tv⟩,tA,rfl,rfl,rfl,rfl,rfl⟩⟩
 ·have ek:k=l.length:=by omega
  subst ek;have hx:(FO l).length=8:=xorL_len _ _ rfl h;rw [Aw];refine⟨(by rw [Ac,hx]),?_⟩;exact⟨.tp [bA (FO l),iv 0],BQ (m:= [bA (FO l),iv 0]) ⟨H7 hx.symm rfl,ri,tv⟩,rfl⟩
theorem P7 (stamp:Int) (b:List UInt8) (hs:0<=stamp/\stamp<=4294967295) (hb:b.length=8):Fn Tryz.prog 236 [iv stamp,bA b] fun r=>r = .tp [.ag (CW ⟨stamp,(CS b:Nat),false⟩),iv 0]:=by
 have h1:=IG b;refine zT Tryz.func236 rfl ?_;conv=>whnf
 rw [show decide (stamp<0)=false from decide_eq_false (by omega)];conv=>whnf
 rw [show decide (stamp > 4294967295)=false from decide_eq_false (by omega)];conv=>whnf
 rw [show ((b.length:Int) != 8)=false from bne_eq_false_iff_eq.2 (by rw [hb];try rfl)];conv=>whnf
 refine z_ h1 ?_;exact⟨_,ri,rfl⟩
theorem VQ (l:List Ent) (hl:l.length<=1000000000):ACalls Tryz.prog false 265 [BM l] [] fun r H=>r = .ow 0 l.length/\H=[.row 97 3 (l.map CW)]:=by
 refine z6 tys_ok Tryz.func265 rfl rfl (by show 1<=_;decide) ?_;refine Af (fun h=>?_) ?_
 ·conv=>whnf
  have h0:=AQ.1 h;subst h0;exact⟨_, .ow 0 0, [.row 97 3 []],fun _ _ h=>h,zJ ⟨[(0,97,3)],tA,tA,tA,rfl,rfl,rfl⟩,rfl,rfl⟩
 ·refine⟨⟨rfl,by omega⟩,?_⟩;exact⟨.ow 0 l.length, .ow 0 l.length, [.row 97 3 (l.map CW)],fun _ _ h=>by rwa [Az] at h,zJ ⟨[],tv,tA,⟨(congrArg (AB.row _ _) (Hk (d:=(⟨0,0,false⟩:Ent)) CW l)).symm,tv⟩,rfl,rfl,rfl⟩,rfl,rfl⟩
theorem Su (t:List Ent) (ht:t.length<=1000000):ACalls Tryz.prog false 235 [.ag [BM t]] [] fun r H=>r = .ag [.ow 0 t.length]/\H=[.row 97 3 (t.map CW)]:=by
 have h1:=VQ t (by omega);refine zS tys_ok Tryz.func235 rfl rfl (Ah rfl) ?_;conv=>whnf
 refine zW h1 rfl ?_;rintro _ _ ⟨rfl,rfl⟩;exact⟨.ag [.ow 2 t.length], .ag [.ow 0 t.length], [.row 97 3 (t.map CW)],fun _ _ h=>h,zR (s:= [2]) tA,rfl,rfl⟩
section
variable (g:Geo) (t:List Ent) (had:List (List UInt8)) (ats:List Int) (bs:List (List UInt8)) (stamp:Int)
def ER (i:Nat):List Ent:=(List.range i).map (Ks g t had ats bs stamp) ++ t.drop i
theorem Pb {i:Nat} (h:i<=t.length):(ER g t had ats bs stamp i).length=t.length:=by simp [ER];omega
theorem Lm {i:Nat} (h:i<t.length) (e:Ent):(ER g t had ats bs stamp i).set i e=(List.range i).map (Ks g t had ats bs stamp) ++ e::t.drop (i+1):=by
 rw [ER,List.set_append_right _ _ (by simp),Ac,Cm,CJ,AY h];try rfl
theorem Yo {i:Nat} (h:i<t.length):(ER g t had ats bs stamp i).set i (t.getD i ez)=ER g t had ats bs stamp i:=by
 rw [Lm g t had ats bs stamp h,ER,AY h,Aa,Ae h];try rfl
theorem J5 {i:Nat} (h:i<t.length):(ER g t had ats bs stamp i).set i (Ks g t had ats bs stamp i)=ER g t had ats bs stamp (i+1):=by
 rw [Lm g t had ats bs stamp h,ER,Be,A3,A6];try rfl
end
inductive TrJ where
 | fin
 | jump (k:Nat)
 | one (i:Nat) (r:TrJ)
 | non
 | alt (i:Nat) (a:TrJ) (r:TrJ)
def TrJ.o (l:List Nat) (t:TrJ):TrJ:=l.foldr .one t
abbrev Seg:=List Nat × Nat × TrJ
def segGet:List Seg->Nat->Option Seg
 | [],_=>none
 | x::_,0=>some x
 | _::r,k+1=>segGet r k
def TrJ.depth (sg:List Seg):TrJ->Nat
 | .fin=>0
 | .jump k=>match segGet sg k with | some s=>s.2.1 | none=>0
 | .one _ r=>r.depth sg+1
 | .non=>0
 | .alt _ a r=>max (a.depth sg+1) (r.depth sg)
def TrJ.alts:TrJ->List Nat
 | .alt i _ r=>i::r.alts
 | _=> []
def eqB:List Bool->List Bool->Bool
 | [], []=>true
 | a::l,b::m=>(a == b)&&eqB l m
 | _,_=>false
theorem eqB_eq:∀ {l m:List Bool},eqB l m=true->l=m
 | [], [],_=>rfl
 | a::l,b::m,h=>by
  simp only [eqB,Ad,beq_iff_eq] at h;rw [h.1,eqB_eq h.2]
 | [],_::_,h=>by simp [eqB] at h
 | _::_, [],h=>by simp [eqB] at h
def eqN:List Nat->List Nat->Bool
 | [], []=>true
 | a::l,b::m=>Nat.beq a b&&eqN l m
 | _,_=>false
theorem eqN_eq:∀ {l m:List Nat},eqN l m=true->l=m
 | [], [],_=>rfl
 | a::l,b::m,h=>by
  simp only [eqN,Ad] at h;rw [Al h.1,eqN_eq h.2]
 | [],_::_,h=>by simp [eqN] at h
 | _::_, [],h=>by simp [eqN] at h
def Nr (n:Nat) (s:List Nat):Array Bool:=s.foldl (fun l i=>l.setIfInBounds i true) (Array.replicate n false)
abbrev Sts:=List (Fr × List AB)
def sget:Sts->Nat->Fr × List AB
 | [],_=>([], [])
 | x::_,0=>x
 | _::r,k+1=>sget r k
section
variable {P:Program} {ops:Array Oper} {B:List Nat} {Q:Exit->Act->World->Prop} {mk:Nat}
def FV (ops:Array Oper) (B:List Nat) (mk:Nat) (sg:List Seg) (me:Nat):TrJ->Bool->Array Bool->Bool
 | .fin,f,l=>f&&(Region.ready .any ops l).isEmpty
 | .jump k,f,l=>f&&Nat.blt me k&&(match segGet sg k with | some s=>eqB l.toList (Nr ops.size s.1).toList | none=>false)
 | .one i r,f,l=>f&&(match ops[i]? with
   | none=>false
   | some o=>match isEff o.op with
    | true=>(match Region.ready .any ops l with | [j]=>Nat.beq i j | _=>false)&&(qM mk i o.op || !IW ops B mk i)
    | false=>match mk.testBit i with
     | true=>(match Region.ready .any ops l with | [j]=>Nat.beq i j | _=>false)&&(qM mk i o.op || !IW ops B mk i)
     | false=>Region.free .any ops l i&&(Region.ready .any ops l).contains i)&&FV ops B mk sg me r true (l.setIfInBounds i true)
 | .non,f,_=>!f
 | .alt i a r,f,l=>(!f || eqN (Region.ready .any ops l) (i::r.alts))&&Kw ops B mk i&&FV ops B mk sg me a true (l.setIfInBounds i true)&&FV ops B mk sg me r false l
def Pc (P:Program) (T:Tys) (n mk:Nat) (ops:Array Oper) (ds:List Nat) (st:Sts) (K:Fr->List AB->Prop):TrJ->Fr->List AB->Prop
 | .fin,fr,H=>K fr H
 | .jump k,fr,H=>canonK ds fr fun l=>l=(sget st k).1/\H=(sget st k).2
 | .one i r,fr,H=>E4 P T n mk ops i fr H fun fr H=>Pc P T n mk ops ds st K r fr H
 | .non,_,_=>True
 | .alt i a r,fr,H=>(E4 P T n mk ops i fr H fun fr H=>Pc P T n mk ops ds st K a fr H)/\Pc P T n mk ops ds st K r fr H
def NN (P:Program) (T:Tys) (n mk:Nat) (ops:Array Oper) (ds:List Nat) (st:Sts) (K:Fr->List AB->Prop):List Seg->Nat->Prop
 | [],_=>True
 | s::r,k=>Pc P T n mk ops ds st K s.2.2 (sget st k).1 (sget st k).2/\NN P T n mk ops ds st K r (k+1)
def Ju (ops:Array Oper) (B:List Nat) (mk:Nat) (sg:List Seg):List Seg->Nat->Bool
 | [],_=>true
 | s::r,k=>FV ops B mk sg k s.2.2 true (Nr ops.size s.1)&&Nat.ble (s.2.2.depth sg) s.2.1&&Ju ops B mk sg r (k+1)
variable {T:Tys} {w0:Fl} {M0:Ms} {n d0:Nat} {ce:Ctx}
theorem Lo {ds:List Nat} {st:Sts} {K:Fr->List AB->Prop}:∀ {sg:List Seg} {k0 k:Nat} {s:Seg},NN P T n mk ops ds st K sg k0->segGet sg k=some s->Pc P T n mk ops ds st K s.2.2 (sget st (k0+k)).1 (sget st (k0+k)).2
 | [],_,_,_,_,h=>by simp [segGet] at h
 | x::r,k0,0,s,h,hs=>by
  simp only [segGet,Option.some.injEq] at hs;subst hs;exact h.1
 | x::r,k0,k+1,s,h,hs=>by
  have:=Lo (k:=k) h.2 hs;rw [show k0+(k+1)=k0+1+k by omega];exact this
theorem KZ {sg0:List Seg}:∀ {sg:List Seg} {k0 k:Nat} {s:Seg},Ju ops B mk sg0 sg k0=true->segGet sg k=some s->FV ops B mk sg0 (k0+k) s.2.2 true (Nr ops.size s.1)=true/\s.2.2.depth sg0<=s.2.1
 | [],_,_,_,_,h=>by simp [segGet] at h
 | x::r,k0,0,s,h,hs=>by
  simp only [segGet,Option.some.injEq] at hs;subst hs;simp only [Ju,Ad] at h;exact⟨h.1.1,Ah h.1.2⟩
 | x::r,k0,k+1,s,h,hs=>by
  simp only [Ju,Ad] at h;have:=KZ (k:=k) h.2 hs;rw [show k0+(k+1)=k0+1+k by omega];exact this
theorem segGet_lt:∀ {sg:List Seg} {k:Nat} {s:Seg},segGet sg k=some s->k<sg.length
 | [],_,_,h=>by simp [segGet] at h
 | _::_,0,_,_=>by simp
 | _::r,k+1,s,h=>by
  have:=segGet_lt (sg:=r) (k:=k) h;simp;omega
def XQ (P:Program) (T:Tys) (ops:Array Oper) (B:List Nat) (mk n:Nat) (Q:Exit->Act->World->Prop) (w0:Fl) (M0:Ms) (ce:Ctx) (st:Sts) (sg:List Seg) (k:Nat):Prop:=
 ∀ (s:Seg) (m:Nat) (c:Ctx) (a:Act),segGet sg k=some s->s.2.1<=m->Cl ops (Nr ops.size s.1)->HS w0 M0 c (sget st k).2->FR w0 c n (sget st k).1 a->Ext ce c->HeldM P ops B mk Q m (Nr ops.size s.1) a c.w
theorem ES (hT:TOk P T) (hB:FY ops B=true) (hns:Region.noSelect ops=true) {ds:List Nat} {st:Sts} {sg:List Seg} {K:Fr->List AB->Prop} (hq:∀ a w,DS w0 M0 ce n K a w->Q .normal a w) (hpan:∀ c a w,¬Q (.panic c) a w) {me:Nat} (hseg:∀ k,me<k->XQ P T ops B mk n Q w0 M0 ce st sg k) :
  ∀ (r:TrJ) (m:Nat) (l:Array Bool) (c:Ctx) (fr:Fr) (H:List AB) (a:Act),Cl ops l->HS w0 M0 c H->FR w0 c n fr a->Ext ce c->Pc P T n mk ops ds st K r fr H->
   (FV ops B mk sg me r true l=true->r.depth sg<=m->HeldM P ops B mk Q m l a c.w)/\
   (FV ops B mk sg me r false l=true->r.depth sg<=m+1->∀ j∈r.alts,j∈Region.ready .any ops l->wpOp P ops Q j (fun a' w'=>(IW ops B mk j=true->Old c.w w')/\HeldM P ops B mk Q m (l.setIfInBounds j true) a' w') a c.w)
 | .fin,m,l,c,fr,H,a,hcl,hs,hf,he,h=>by
  refine⟨fun hd hm=>?_,fun _ _ j hj=>by simp [TrJ.alts] at hj⟩;simp only [FV,B7,List.isEmpty_iff] at hd;cases m with
  | zero=>exact⟨hd,hq _ _ ⟨c,fr,H,rfl,h,hs,hf,he⟩⟩
  | succ m=>exact⟨fun _=>hq _ _ ⟨c,fr,H,rfl,h,hs,hf,he⟩,by rw [hd];simp⟩
 | .jump k,m,l,c,fr,H,a,hcl,hs,hf,he,h=>by
  refine⟨fun hd hm=>?_,fun _ _ j hj=>by simp [TrJ.alts] at hj⟩;simp only [FV,B7,Ad] at hd;simp only [TrJ.depth] at hm;obtain⟨hlt,hd⟩:=hd;cases hg:segGet sg k with
  | none=>rw [hg] at hd;simp at hd
  | some s=>
   rw [hg] at hd hm;simp only at hd hm;have hl:l=Nr ops.size s.1:=Array.ext' (eqB_eq hd);obtain⟨e1,e2⟩:=canonK_iff h;subst hl;refine hseg k (Aq (Nat.lt_succ_self me) (Ah hlt)) s m c a hg hm hcl (e2 ▸ hs) (e1 ▸ hf.canon _) he
 | .non,m,l,c,fr,H,a,hcl,hs,hf,he,h=>by
  refine⟨fun hd hm=>by simp [FV] at hd,fun _ _ j hj=>by simp [TrJ.alts] at hj⟩
 | .alt i x r,m,l,c,fr,H,a,hcl,hs,hf,he,h=>by
  obtain⟨h1,h2⟩:=h;have key:∀ m,TrJ.depth sg (.alt i x r)<=m+1->Kw ops B mk i=true->FV ops B mk sg me x true (l.setIfInBounds i true)=true->i∈Region.ready .any ops l->wpOp P ops Q i (fun a' w'=>(IW ops B mk i=true->Old c.w w')/\HeldM P ops B mk Q m (l.setIfInBounds i true) a' w') a c.w:=by
   intro m hm hk hx hr;simp only [TrJ.depth] at hm;unfold Kw at hk;split at hk
   ·rename_i o ho;refine Fa hT ho hk hs hf he (fun c' fr' H' a' q1 q2 q3 q4=>(ES hT hB hns hq hpan hseg x m _ c' fr' H' a' (hcl.set hr) q1 q2 q3 q4).1 hx (by omega)) h1
   ·cases hk
  refine⟨fun hd hm=>?_,fun hd hm j hj hr=>?_⟩
  ·simp only [FV,Bool.not_true,Bool.false_or,Ad] at hd;obtain⟨⟨⟨hr,hi⟩,hx⟩,hy⟩:=hd;have hr':=eqN_eq hr;cases m with
   | zero=>simp only [TrJ.depth] at hm;omega
   | succ m=>
    refine⟨fun h0=>(by rw [hr'] at h0;cases h0),fun j hj=>?_⟩;have hj0:=hj;rw [hr',A_] at hj;rcases hj with rfl | hj
    ·exact key m hm hi hx hj0
    ·refine(ES hT hB hns hq hpan hseg r m l c fr H a hcl hs hf he h2).2 hy ?_ j hj hj0;simp only [TrJ.depth] at hm;omega
  ·simp only [FV,Bool.not_false,Bool.true_or,B7,Ad] at hd;obtain⟨⟨hi,hx⟩,hy⟩:=hd;simp only [TrJ.alts,A_] at hj;rcases hj with rfl | hj
   ·exact key m hm hi hx hr
   ·refine(ES hT hB hns hq hpan hseg r m l c fr H a hcl hs hf he h2).2 hy ?_ j hj hr;simp only [TrJ.depth] at hm;omega
 | .one i r,m,l,c,fr,H,a,hcl,hs,hf,he,h=>by
  refine⟨fun hd hm=>?_,fun _ _ j hj=>by simp [TrJ.alts] at hj⟩;cases m with
  | zero=>simp [TrJ.depth] at hm
  | succ m=>
   simp only [TrJ.depth,Nat.add_le_add_iff_right] at hm;simp only [FV,B7,Ad] at hd;obtain⟨hd1,hd2⟩:=hd;simp only [Pc] at h;cases ho:ops[i]? with
   | none=>rw [ho] at hd1;simp at hd1
   | some o=>
    rw [ho] at hd1;simp only at hd1;have only:(match Region.ready .any ops l with | [j]=>Nat.beq i j | _=>false)=true->(qM mk i o.op || !IW ops B mk i)=true->HeldM P ops B mk Q (m+1) l a c.w:=by
     intro hr hmq;have hr':Region.ready .any ops l=[i]:=by
      split at hr
      ·rename_i j hj;rw [hj,Al hr]
      ·cases hr
     have hri:i∈Region.ready .any ops l:=by rw [hr'];simp
     refine⟨fun h0=>(by rw [hr'] at h0;cases h0),fun j hj=>?_⟩;rw [hr',AE] at hj;subst hj;exact Fa hT ho hmq hs hf he (fun c' fr' H' a' q1 q2 q3 q4=>(ES hT hB hns hq hpan hseg r m _ c' fr' H' a' (hcl.set hri) q1 q2 q3 q4).1 hd2 hm) h
    cases hE:isEff o.op with
    | true=>
     rw [hE] at hd1;simp only [Ad] at hd1;exact only hd1.1 hd1.2
    | false=>
     rw [hE] at hd1;dsimp only at hd1;cases hM:mk.testBit i with
     | true=>
      rw [hM] at hd1;simp only [Ad] at hd1;exact only hd1.1 hd1.2
     | false=>
     rw [hM] at hd1;simp only [Ad] at hd1;obtain⟨hfree,hr⟩:=hd1;have hri:i∈Region.ready .any ops l:=by simpa using hr
     simp only [E4,Eb] at h;rw [show ops.toList[i]? = some o by simpa using ho] at h;simp only at h;have step:∀ v fr2,YieldsIf P ops (fun w'=>pureOp o.op=true\/Old c.w w') o v a->FR w0 c n fr2 (a.put o.dst v)->Pc P T n mk ops ds st K r fr2 H->HeldM P ops B mk Q (m+1) l a c.w:=by
      intro v fr2 hy hf2 h2;exact HeldM.first1 hB ho hM hE (Region.noSelect_spec hns) (fun c a w h=>(hpan _ _ _ h).elim) m l a c.w hcl (Region.free_spec ho hfree) hri hy
       ((ES hT hB hns hq hpan hseg r m _ c fr2 H _ (hcl.set hri) hs hf2 he h2).1 hd2 hm)
     rcases Dt hf h with ⟨hw,fr',hf',h⟩ | ⟨hw,fr',hf',h⟩
     ·unfold Hd at h;rw [hE] at h;obtain⟨rr,v,h1,h2,h3⟩:=(G0 hT hs hf' h).y;obtain⟨fr2,h4,h5⟩:=Cs hf' h3 h1;exact step v fr2 (.inl ⟨hw,h2⟩) h5 h4
     ·obtain⟨fr2,h4,h5⟩:=Cs (v:=undef) hf' (by simp [Rd]) h;exact step undef fr2 (.inr ⟨hw,rfl⟩) h5 h4
theorem KY (hT:TOk P T) (hB:FY ops B=true) (hns:Region.noSelect ops=true) {ds:List Nat} {st:Sts} {sg:List Seg} {K:Fr->List AB->Prop} (hq:∀ a w,DS w0 M0 ce n K a w->Q .normal a w) (hpan:∀ c a w,¬Q (.panic c) a w) (hok:Ju ops B mk sg sg 0=true) (h:NN P T n mk ops ds st K sg 0):∀ (z k:Nat),sg.length<=z+k->XQ P T ops B mk n Q w0 M0 ce st sg k
 | 0,k,hz,s,m,c,a,hg,_,_,_,_,_=>by
  have:=segGet_lt hg;omega
 | z+1,k,hz,s,m,c,a,hg,hm,hcl,hs,hf,he=>by
  obtain⟨h1,h2⟩:=KZ hok hg;have h3:=Lo h hg;rw [Az] at h1 h3;exact(ES hT hB hns hq hpan (fun k' hk'=>KY hT hB hns hq hpan hok h z k' (by omega)) s.2.2 m _ c _ _ a hcl hs hf he h3).1 h1 (by omega)
def XO (ops:Array Oper) (mk:Nat) (sg:List Seg):Bool:=FY ops (JM ops)&&Region.noSelect ops&&(match sg with | ([],d,_)::_=>Nat.ble d ops.size | _=>false)&&Ju ops (JM ops) mk sg sg 0
theorem aDraw.dag (mk:Nat) (hT:TOk P T) (hm:P.follows .mixedOrders=true) {id:Nat} {K:Fr->List AB->Prop} {fr:Fr} {H:List AB} (sg:List Seg) (ds:List Nat) (st:Sts) {F:Fr} {H2:List AB} (hok:XO ops mk sg=true)
  (h:NN P T n mk ops (ds ++ slots fr) ((fr,H)::st) (fun fr' H'=>canonK (ds ++ slots fr) fr' fun l=>l=F/\H'=H2) sg 0) (hk:K F H2):aDraw P T n d0 id ops K fr H:=by
 simp only [XO,Ad] at hok;obtain⟨⟨⟨hB,hns⟩,hlen⟩,hok⟩:=hok;refine⟨fun w0 M0 ce c a hs hf he hd Q hQ=>?_⟩;refine wp_mono (Q:=fun e a w=>e = .normal/\DS w0 M0 ce n (fun fr' H'=>canonK (ds ++ slots fr) fr' fun l=>l=F/\H'=H2) a w) ?_ ?_
 ·refine wp_region_any hm (HeldM.any (B:=JM ops) (mk:=mk) _ _ _ _ ?_);have hb:=(Below.refl c.w.heap.size c.w).drew;obtain⟨h1,h2⟩:=hs.grow hb;have hcl:Cl ops (Array.replicate ops.size false):=by
   intro j o hj hlj;rcases BT j ops.size with h' | h'
   ·simp [h'] at hlj
   ·simp [BE h'] at hj
  cases sg with
  | nil=>simp at hlen
  | cons s sg=>
   obtain⟨s1,d,tr⟩:=s;cases s1 with
   | cons _ _=>simp at hlen
   | nil=>
    exact KY (w0:=w0) (M0:=M0) (ce:=ce) (st:=(fr,H)::st) hT hB hns (fun a w hl=>⟨rfl,hl⟩) (fun c a w h=>by cases h.1) hok h _ 0 (Ag _) ([],d,tr) _ { c with w:=c.w.drew } a rfl (Ah hlen) hcl h1 (hf.ext h2) (he.trans h2)
 ·rintro e a w ⟨rfl,c',fr',H',rfl,h1,h2,h3,h4⟩;obtain⟨e1,rfl⟩:=canonK_iff h1;exact hQ c' F H' a hk h2 (e1 ▸ h3.canon _) h4
end
theorem Vn {d:Dk} (hd:DkOk d) (hl:d.left<0) (k:Nat):Lv d k:=⟨hd.r, .inl hl⟩
theorem O2 (k:Nat) (d:Dk) (l:List Int):By (d.tick k) l=By d l:=rfl
theorem finL_two:∀ (l:List Wr) (cs:List Cel) (a:Nat),((CI cs l).getD a cz).state=2↔(cs.getD a cz).state=2:=fun l cs a=>by
 by_cases ha:a<cs.length
 ·by_cases h:(cs.getD a cz).state=2
  ·rw [finL_stuck l cs a ha h]
  ·rcases finL_any l cs a ha with e | ⟨_,e,_⟩
   ·rw [e]
   ·rw [e];exact⟨fun q=>absurd q (by decide),fun q=>absurd q h⟩
 ·rw [Aa,Aa,AI (by rw [finL_len];omega),AI (by omega)]
theorem VA (l:List Wr) (cs:List Cel):free (CI cs l)=free cs:=by
 funext w;unfold free;rw [Dq,decide_eq_true_eq,decide_eq_true_eq];exact not_congr (finL_two l cs _)
def Pi (g:Geo) (w:List Wr):Nat:=g.an.toNat+2*g.sl.toNat+(if w=[] then 0 else w.length+1)+(g.an.toNat+1)
theorem Pj {g:Geo} {d:Dk} {a:An} {j:Nat} {L:List Tx} {w:List Wr} (hg:Bp g=true) (hd:DkOk d) (hn:(d.cells.length:Int)=A4 g) (hc:d.cache=[]) (hl:d.left<0) (hp:Gj g (By d (Dl g))=some (a,j)) (hs:DT g a (By d (BR g 0)) (By d (BR g 1))=(L,w,0)) (h1:a.gen≠4294967295) (h2:a.epoch≠4294967295) :
  CZ g d=(⟨CI (CI d.cells w) (Bd g (D9 a L.length)), [],(d.tick (Pi g w)).reqs,d.left⟩,if ((Bd g (D9 a L.length)).filter (free d.cells)).length=0 then 14 else 0,if ((Bd g (D9 a L.length)).filter (free d.cells)).length=0 then st0 else Bl (D9 a L.length) L):=by
 obtain⟨g1,g2,g3,g4,g5⟩:=As.1 hg;have hao:=IS hg _ hp;have hin:=K_ (x:=By d (BR g 0)) (y:=By d (BR g 1)) (n:=d.cells.length) hg hao (by rw [DO,EV];omega) (by rw [DO,EV];omega) hn;rw [hs] at hin;obtain⟨hw1,hw2⟩:=hin rfl;simp only at hw1 hw2;have hlv:∀ k,d.live k:=fun k=> .inl hl
 have htl:∀ k,(d.tick k).left=d.left:=fun k=>if_pos hl
 have hr:=hd.r;unfold CZ;rw [if_pos (hlv _),hp];simp only;unfold Iq;rw [L_ _ (Vn hd hl _),if_pos (show (d.tick g.an.toNat).live _ from .inl (by rw [htl];exact hl)),O2,O2,hs];rw [L_ _ (show Lv (d.tick g.an.toNat) (2*g.sl.toNat) from IE (Vn hd hl _)),Gg _ _ hr.2 (.inl hl)];unfold Lu;simp only [ne_eq,not_true,if_false];have hm:(d.tick (g.an.toNat+2*g.sl.toNat)).mend w=(⟨CI d.cells w, [],(d.tick (g.an.toNat+2*g.sl.toNat+(if w=[] then 0 else w.length+1))).reqs,d.left⟩,false):=by
  unfold Dk.mend;by_cases hw:w=[]
  ·subst hw;rw [if_pos rfl,if_pos rfl,C4];simp only [Prod.mk.injEq,and_true];show (d.tick _:Dk)=_;unfold Dk.tick;rw [hc,if_pos hl];try rfl
  ·rw [if_neg hw,if_neg hw,IR (IE (Vn hd hl _)) hc (by omega),Gg _ _ hr.2 (.inl hl)];simp only [htl];rfl
 rw [hm];simp only [Cu,if_false];unfold Lt;rw [if_neg (by rintro(h | h);exact h1 h;exact h2 h)];obtain⟨K,hK⟩:∃ K,K=g.an.toNat+2*g.sl.toNat+(if w=[] then 0 else w.length+1):=⟨_,rfl⟩;rw [<-hK];have hrk:0<=(d.tick K).reqs/\(d.tick K).reqs<=1048576:=by show 0<=min _ _/\min _ _<=_;omega
 have hlen:=Fv g (D9 a L.length);rw [IR (d:=⟨CI d.cells w, [],(d.tick K).reqs,d.left⟩) ⟨hrk, .inl hl⟩ rfl (by omega)];simp only [Cu,if_false,VA,hlen];have e1:((⟨CI d.cells w, [],(d.tick K).reqs,d.left⟩:Dk).tick (g.an.toNat+1)).left=d.left:=if_pos hl;have e2:((⟨CI d.cells w, [],(d.tick K).reqs,d.left⟩:Dk).tick (g.an.toNat+1)).reqs=(d.tick (Pi g w)).reqs:=by
  show min ((d.tick K).reqs+((g.an.toNat+1:Nat):Int)) _=min _ _;show min (min (d.reqs+(K:Nat)) 1048576+((g.an.toNat+1:Nat):Int)) 1048576=min (d.reqs+(Pi g w:Nat)) 1048576;unfold Pi;rw [<-hK];omega
 rw [e1,e2];split <;> rfl
theorem Ll (g:Geo) (l:List Gt):∀ k,(EL g l k=none->∀ i,i<k->Ew g (l.getD i ⟨0, []⟩) (i:Nat)=none)/\∀ a j,EL g l k=some (a,j)->j<k/\Ew g (l.getD j ⟨0, []⟩) (j:Nat)=some a/\∀ i b,i<k->Ew g (l.getD i ⟨0, []⟩) (i:Nat)=some b->b.gen<=a.gen
 | 0=>⟨fun _ i hi=>by omega,fun a j h=>by cases h⟩
 | k+1=>by
  obtain⟨ih1,ih2⟩:=Ll g l k;rw [Il,OV];cases hS:Ew g (l.getD k ⟨0, []⟩) (k:Nat) with
  | none=>
   refine⟨fun h i hi=>?_,fun a j h=>?_⟩
   ·by_cases e:i=k
    ·rw [e];exact hS
    ·exact ih1 h i (by omega)
   ·obtain⟨q1,q2,q3⟩:=ih2 a j h;refine⟨by omega,q2,fun i b hi hb=>?_⟩;by_cases e:i=k
    ·rw [e,hS] at hb;cases hb
    ·exact q3 i b (by omega) hb
  | some c=>
   cases hP:EL g l k with
   | none=>
    refine⟨fun h=>(by cases h),fun a j h=>?_⟩;cases h;refine⟨by omega,hS,fun i b hi hb=>?_⟩;by_cases e:i=k
    ·rw [e,hS] at hb;cases hb;exact Cy _
    ·rw [ih1 hP i (by omega)] at hb;cases hb
   | some q=>
    obtain⟨a0,j0⟩:=q;obtain⟨q1,q2,q3⟩:=ih2 a0 j0 hP;simp only;by_cases hlt:a0.gen<c.gen
    ·rw [if_pos hlt];refine⟨fun h=>(by cases h),fun a j h=>?_⟩;cases h;refine⟨by omega,hS,fun i b hi hb=>?_⟩;by_cases e:i=k
     ·rw [e,hS] at hb;cases hb;exact Cy _
     ·have:=q3 i b (by omega) hb;omega
    ·rw [if_neg hlt];refine⟨fun h=>(by cases h),fun a j h=>?_⟩;cases h;refine⟨by omega,q2,fun i b hi hb=>?_⟩;by_cases e:i=k
     ·rw [e,hS] at hb;cases hb;omega
     ·exact q3 i b (by omega) hb
theorem Rs {g:Geo} {d:Dk} {i:Nat} (hi:i<g.an.toNat):(By d (Dl g)).getD i ⟨0, []⟩=To d (i:Nat):=by
 rw [By,Bh (d:=0) (by rw [Fd];exact hi),Nt hi]
theorem Qp {g:Geo} {a:An} {i:Nat} (hg:Bp g=true) (ha:Bu g a=true) (hi:(i:Int)<=65535):Ew g ⟨0,De a i⟩ i=some a:=by
 obtain⟨e1,e2,e3,e4⟩:=Jv (Ns hg ha (i:=(i:Nat)) ⟨by omega,hi⟩);unfold Ew;rw [if_pos ⟨rfl,e1,e2⟩];show (match EK g (Cz (De a i)) with | some a_1=>if a_1.gen=Ch (De a i) then some a_1 else none | none=>none)=_;rw [show Cz (De a i)=LZ a from e4,SL hg ha,show Ch (De a i)=a.gen from e3];simp
section
variable {g:Geo} {a:An} {fill:UInt8} {sizes:List Int}
end
theorem Lz {g:Geo} {c s:Int} (hc:c=0\/c=1) (hs:0<=s/\s<g.sl):g.an<=Bf g c s/\Bf g c s<g.an+2*g.sl:=by
 unfold Bf;rcases hc with rfl | rfl <;> omega
section
variable {g:Geo} {s:ByteArray} {a:An} {fill:UInt8} {sizes:List Int}
theorem Ji {b:An} (hg:Bp g=true) (hb:Bu g b=true) (i:Int):(De b i).length<=200:=by
 have:=JN hg hb;rw [De,EN];omega
end
theorem K4 {cs:List Cel} {n:Nat} (h:cs.length=n) {k:Nat} (hk:k<n):(cs.map BF).getD k []=BF (cs.getD k cz):=Bh (by omega)
theorem WB {g:Geo} (hg:Bp g=true):FB g (E3 g)=true:=by
 obtain⟨g1,g2,g3,g4,g5⟩:=As.1 hg;have hz:=H6 zero8;simp only [FB,hg,E3,BA,Ad,decide_eq_true_eq,B7];refine⟨⟨by omega,?_⟩,?_⟩
 ·rw [Au];intro e he;rw [CL he];simp [DD,ent0,Hp,C5];exact decide_eq_true (by omega)
 ·have:Gb (List.replicate (g.d+1).toNat ent0) g.d.toNat=false:=by
   unfold Gb;rw [CO (by omega)];try rfl
  rw [this];try rfl
theorem Uu {g:Geo} (hg:Bp g=true) {a:Int} (ha:0<=a/\a<=65535):W0 a 0 (CM (E3 g)):=by
 obtain⟨g1,g2,g3,g4,g5⟩:=As.1 hg;refine⟨ha.1,ha.2,Cy _,by decide,?_⟩;rw [E2,E3,BA];omega
section
variable {g:Geo} {s:ByteArray} {a b:An} {fill:UInt8} {sizes:List Int} {d:Dk}
theorem QQ {F:Int->List UInt8} {n:Int} (h:Holds d n F) (l:List Int) (hl:∀ x∈l,0<=x/\x<n):By d l=l.map fun x=>⟨0,F x⟩:=by
 unfold By;refine Ck fun x hx=>?_
 exact h.got (hl x hx).1 (hl x hx).2
theorem SX (hg:Bp g=true) {c:Int} (hc:c=0\/c=1):∀ x∈BR g c,0<=x/\x<A4 g:=fun x hx=>by
 obtain⟨g1,g2,g3,g4,g5⟩:=As.1 hg;have hcg:=DZ hg;simp only [BR,AK,AM] at hx;obtain⟨i,hi,rfl⟩:=hx;have:=Lz (g:=g) hc (s:=(i:Nat)) (by omega);omega
theorem Tj {F:Int->List UInt8} (hg:Bp g=true) {c:An} (h:Holds d (A4 g) F) {r:Int} {l:Int}:Holds ⟨CI d.cells (Bd g c), [],r,l⟩ (A4 g) (fun x=>if x<g.an then De c x else F x):=by
 obtain⟨g1,g2,g3,g4,g5⟩:=As.1 hg;have hcg:=DZ hg;refine⟨by rw [<-h.len];show ((CI d.cells _).length:Int)=_;rw [finL_len],rfl,fun x h0 h1=>?_⟩;obtain⟨e1,e2⟩:=h.cell x h0 h1;have hlt:x.toNat<d.cells.length:=by have:=h.len;omega
 show ((CI d.cells _).getD x.toNat cz).state=0/\((CI d.cells _).getD x.toNat cz).bytes=_;have hmem:∀ w∈Bd g c,∃ i:Nat,i<g.an.toNat/\w=⟨(i:Nat),De c (i:Nat)⟩:=fun w hw=>by
  simp only [Bd,AK,AM] at hw;obtain⟨i,hi,rfl⟩:=hw;exact⟨i,hi,rfl⟩
 by_cases hx:x<g.an
 ·rw [if_pos hx];refine LO _ _ _ hlt (by rw [e1];decide) (fun w hw hwa=>?_) (.inl ⟨⟨x,De c x⟩,?_,rfl⟩)
  ·obtain⟨i,hi,rfl⟩:=hmem w hw;have:((i:Nat):Int).toNat=x.toNat:=hwa;show De c (i:Nat)=_;congr 1;omega
  ·simp only [Bd,AK,AM];exact⟨x.toNat,by omega,by rw [C6 h0]⟩
 ·rw [if_neg hx,finL_miss _ _ _ hlt (fun w hw e=>?_)]
  ·exact⟨e1,e2⟩
  ·obtain⟨i,hi,rfl⟩:=hmem w hw;have:((i:Nat):Int).toNat=x.toNat:=e;omega
theorem VB {n:Int} {F:Int->List UInt8} (h:Holds d n F) (l:List Wr) (hl:∀ w∈l,0<=w.addr/\w.addr<n):l.filter (free d.cells)=l:=by
 rw [List.filter_eq_self];intro w hw;unfold free;rw [(h.cell w.addr (hl w hw).1 (hl w hw).2).1];try rfl
end
theorem Nz {α:Type} {d:α} {l m:List α} {k:Nat} (hl:k<l.length) (hm:k<m.length) (h:l.take k=m.take k) (e:l.getD k d=m.getD k d):l.take (k+1)=m.take (k+1):=by
 rw [Aa,Aa,Ae hl,Ae hm] at e;have e:l[k]=m[k]:=by simpa using e
 rw [AD hl,AD hm,h,e]
theorem VT {d e:Dk}:d=e↔d.cells=e.cells/\d.cache=e.cache/\d.reqs=e.reqs/\d.left=e.left:=by
 cases d;cases e;simp
theorem Se {c d:Cel}:c=d↔c.state=d.state/\c.bytes=d.bytes/\c.old=d.old:=by
 cases c;cases d;simp
theorem Vv (d e:Dk) (h1:d.cells.length<=1000000) (h2:d.cache.length<=1000000) (hb:∀ c∈d.cells,c.bytes.length<=100000000000/\c.old.length<=100000000000) (hw:∀ w∈d.cache,w.bytes.length<=100000000000):Fn Tryz.prog 21 [.ag (Et d), .ag (Et e)] fun r=>r = .v (.bool (decide (d=e))):=by
 have c1:=Sm d.cache e.cache (by omega) hw;refine zT Tryz.func21 rfl ?_;conv=>whnf
 repeat' (first | (refine Am (fun h=>?_) (fun h=>?_) <;> (try simp at h) <;> conv=>whnf) | (refine zM tys_ok mixed (by kernel_rfl) ?_;conv=>whnf) | (refine zZ ?_;conv=>whnf) | (refine z_ c1 ?_;conv=>whnf) | (refine Af (by omega) ?_;conv=>whnf))
 all_goals try (exact⟨_,ri,by rw [decide_eq_false];rw [VT];intro hx;simp_all⟩)
 have hlen:d.cells.length=e.cells.length:=by omega
 have hrest:d=e↔d.cells=e.cells:=by rw [VT];simp [*]
 refine zU Nat (fun k=>([(2, .bp 0 0),(3, .bp 1 0),(5,iv k)], [.box 43 (Et d), .box 43 (Et e)])) (fun k=>k<=d.cells.length/\d.cells.take k=e.cells.take k) (fun k=>d.cells.length - k) 0 ⟨Aj _,rfl⟩
  (zR (s:= [0,1]) tA) ?_
 rintro k ⟨hk,hI⟩;conv=>whnf
 refine A8 (fun h6=>?_) (fun h6=>?_) <;> (repeat rw [Ab] at h6) <;> conv=>whnf
 ·have hk':k<d.cells.length:=by omega
  have hk2:k<e.cells.length:=by omega
  have hm:=hb _ (A7 (d:=(⟨0, [], []⟩:Cel)) hk');have b1:=Hz (d.cells.getD k ⟨0, [], []⟩).bytes (e.cells.getD k ⟨0, [], []⟩).bytes hm.1;have b2:=Hz (d.cells.getD k ⟨0, [], []⟩).old (e.cells.getD k ⟨0, [], []⟩).old hm.2;have hno:d.cells.getD k ⟨0, [], []⟩≠e.cells.getD k ⟨0, [], []⟩->decide (d=e)=false:=fun hne=>decide_eq_false fun x=>hne (by rw [x])
  have hyes:=Nz (d:=(⟨0, [], []⟩:Cel)) hk' hk2 hI;rw [Se] at hyes;rw [Ne,Se] at hno;clear hrest hI hlen;repeat' (refine zZ ?_;conv=>whnf)
  refine zM tys_ok mixed (by kernel_rfl) ?_;refine⟨⟨by omega,by omega⟩,?_⟩;refine⟨⟨by omega,by omega⟩,?_⟩;conv=>whnf
  rw [Ab];generalize hx:d.cells.getD k ⟨0, [], []⟩=x at b1 b2 hno hyes |-
  generalize hy:e.cells.getD k ⟨0, [], []⟩=y at b1 b2 hno hyes |-
  refine A8 (fun q1=>?_) (fun q1=>?_)
  ·exact⟨_,ri,by rw [hno fun e=>q1 e.1]⟩
  ·refine⟨⟨by omega,by omega⟩,?_⟩;refine⟨⟨by omega,by omega⟩,?_⟩;conv=>whnf
   rw [Ab,hx,hy];refine z_ b1 ?_;conv=>whnf
   by_cases q2:x.bytes=y.bytes
   ·rw [decide_eq_true q2];refine⟨⟨by omega,by omega⟩,?_⟩;refine⟨⟨by omega,by omega⟩,?_⟩;conv=>whnf
    rw [Ab,hx,hy];refine z_ b2 ?_;conv=>whnf
    by_cases q3:x.old=y.old
    ·rw [decide_eq_true q3];exact⟨k+1,⟨hk',hyes ⟨q1,q2,q3⟩⟩,by omega,zR (s:= [0,1]) ⟨⟨rfl,rfl,AS (by omega),tv⟩,tA,rfl,rfl,rfl,rfl,rfl⟩⟩
    ·rw [decide_eq_false q3];exact⟨_,ri,by rw [hno fun e=>q3 e.2.2]⟩
   ·rw [decide_eq_false q2];exact⟨_,ri,by rw [hno fun e=>q2 e.2.1]⟩
 ·have ek:k=d.cells.length:=by omega
  subst ek;have he:d.cells=e.cells:=by
   rw [Aw,hlen,Aw] at hI;exact hI
  exact⟨_,ri,by rw [decide_eq_true (hrest.2 he)]⟩

theorem OK (g:Geo) (s:ByteArray) (hg:Bp g=true) (hs:FG s.data.toList=0):ACalls Tryz.prog false 57 [.ag (AZ g), .v (.string s)] [] fun r H=>r = .ag [.ow 0 (A4 g).toNat,nilV,ze 0,ze (-1)]/\H=[.row 128 3 ((GM g s).cells.map BF)]:=by
 obtain⟨g1,g2,g3,g4,g5⟩:=As.1 hg;have hcg:=DZ hg;have hp:=GB hg;have hN:1<=(A4 g).toNat/\(A4 g).toNat<=300:=by
  have:g.z*CH g<=4*7:=Int.mul_le_mul (by omega) (by omega) (by omega) (by omega);unfold A4 at hcg |-
  omega
 have hcN:A4 g=((A4 g).toNat:Int):=by omega
 have hao:=Ng hg hs;have hA:=VL g s hg;have hC:=Q7 g hg;rw [hcN] at hC;have hD:=UJ (A4 g).toNat hN;refine zS tys_ok Tryz.func57 rfl rfl (Ah rfl) ?_;conv=>whnf
 refine z_ hC ?_;conv=>whnf
 refine zW hD rfl ?_;rintro _ _ ⟨rfl,rfl⟩;conv=>whnf
 refine z_ hA ?_;conv=>whnf
 refine zU Nat (fun k=>([(2, .bp 0 0),(4, .bp 1 0),(5, .bp 2 0),(6, .bp 3 0),(7,ze k)], [.box 23 (AZ g), .box 43 [nilV,nilV,ze 0,ze 0], .box 43 [.ow 4 (A4 g).toNat,nilV,ze 0,ze (-1)], .box 33 (EH (BX g s)), .row 128 3 ((Ec (Iz g) ((Bd g (BX g s)).take k)).map BF)])) (fun k=>k<=g.an.toNat) (fun k=>g.an.toNat - k) 0 (Aj _)
  ?_ ?_
 ·refine z8 (zI (zy (k:=2) rfl (es':=(Iz g).map BF) (by simp [Iz]) fun i=>?_)) (s:= [0,1,3,4,2]) tA;rw [Iz,List.map_replicate];by_cases hi:i<(A4 g).toNat
  ·rw [L9 hi,L9 hi];exact⟨fun _ _ h=>h,Bt 1 _,Bt 1 _,tv⟩
  ·rw [Aa,Aa,AI (by simpa using hi),AI (by simpa using hi)];exact SubL.refl _
 ·intro k hk;conv=>whnf
  refine A8 (fun h6=>?_) (fun h6=>?_) <;> (repeat rw [Ab] at h6) <;> conv=>whnf
  ·have hk':k<(Bd g (BX g s)).length:=by rw [Fv];omega
   have hsx:=HM (Iz g) hk';rw [Kn (by omega)] at hsx;have hlx:(Ec (Iz g) ((Bd g (BX g s)).take k)).length=(A4 g).toNat:=by rw [EE,LE]
   generalize Ec (Iz g) ((Bd g (BX g s)).take k)=cs at hsx hlx |-
   have hnc:=Lk g (BX g s) k hg hao (by omega);have hE:(cs.map BF).getD (k:Int).toNat []=BF (cs.getD (k:Int).toNat cz):=K4 hlx (by omega);repeat' (refine zZ ?_;conv=>whnf)
   apply zV (0) tys_ok mixed (.o [0,1,2,3,4,5,6,7,8] .fin) (by kernel_rfl);conv=>whnf
   refine z_ hnc ?_;conv=>whnf
   try (refine tI ?_;conv=>whnf)
   try (refine tS ?_;conv=>whnf)
   (first | rw [hE] | skip)
   conv=>whnf
   all_goals exact⟨k+1,by omega,by omega,zR (s:= [0,1,2,3,4]) ⟨⟨rfl,rfl,rfl,rfl,AS (by omega),tv⟩,⟨rfl,rfl,rfl,rfl,congrArg (fun l=>some (AB.row _ _ l)) (by rw [hsx,Jc];try rfl),tv⟩,rfl,rfl,rfl,rfl,rfl⟩⟩
  ·have ek:k=(Bd g (BX g s)).length:=by rw [Fv];omega
   rw [ek,Aw];repeat' (refine zZ ?_;conv=>whnf)
   refine zU Nat (fun c=>([(2, .bp 0 0),(4, .bp 1 0),(5, .bp 2 0),(6, .bp 3 0),(8,ze c)], [.box 23 (AZ g), .box 43 [nilV,nilV,ze 0,ze 0], .box 43 [.ow 4 (A4 g).toNat,nilV,ze 0,ze (-1)], .box 33 (EH (BX g s)), .row 128 3 ((NY g s c).map BF)])) (fun c=>c<=2) (fun c=>2 - c) 0 (Aj _)
    (zR (s:= [0,1,2,3,4]) tA) ?_
   intro c hc;conv=>whnf
   refine A8 (fun h7=>?_) (fun h7=>?_) <;> (repeat rw [Ab] at h7) <;> conv=>whnf
   ·have hc01:(c:Int)=0\/(c:Int)=1:=by omega
    repeat' (refine zZ ?_;conv=>whnf)
    refine zU Nat (fun i=>([(2, .bp 0 0),(4, .bp 1 0),(5, .bp 2 0),(6, .bp 3 0),(8,ze c),(9,ze i)], [.box 23 (AZ g), .box 43 [nilV,nilV,ze 0,ze 0], .box 43 [.ow 4 (A4 g).toNat,nilV,ze 0,ze (-1)], .box 33 (EH (BX g s)), .row 128 3 ((Ec (NY g s c) ((GH g c).take i)).map BF)])) (fun i=>i<=g.sl.toNat) (fun i=>g.sl.toNat - i) 0 (Aj _)
     (zR (s:= [0,1,2,3,4]) tA) ?_
    intro i hi;conv=>whnf
    refine A8 (fun h8=>?_) (fun h8=>?_) <;> (repeat rw [Ab] at h8) <;> conv=>whnf
    ·have hlw:(GH g c).length=g.sl.toNat:=by simp [GH]
     have hi':i<(GH g c).length:=by omega
     have hsx:=HM (NY g s c) hi';rw [show (GH g c).getD i ⟨0, []⟩=⟨Bf g c (i:Nat),BU g zeroC c (i:Nat)⟩ from J2 (by omega)] at hsx;have hlx:(Ec (NY g s c) ((GH g c).take i)).length=(A4 g).toNat:=by rw [EE,LD]
     generalize Ec (NY g s c) ((GH g c).take i)=cs at hsx hlx |-
     have hokl:Hn g c i=true:=by simp only [Hn,Ad,AF];omega
     have hla:=D6 g c i hg hokl;have hin:=FF (n:=(A4 g).toNat) hg hcN.symm hc01 (s:=i) (by omega);have hrc:=IL g zeroC c i (HE hg) hokl;have hE:(cs.map BF).getD (Bf g c i).toNat []=BF (cs.getD (Bf g c i).toNat cz):=K4 hlx (by omega);repeat' (refine zZ ?_;conv=>whnf)
     apply zV (0) tys_ok mixed (.o [0,1,2,3,4,6,7,8,9,5,10,11,12,13] .fin) (by kernel_rfl);conv=>whnf
     refine z_ hla ?_;conv=>whnf
     (refine zY [.ag (AZ g), .ag (FQ zeroC),ze c,ze i] (by repeat' (first | exact trivial | exact fun _ _ h=>h | exact Bt _ _ | refine Af ?_ ?_ | refine Bi ?_)) ?_;refine z_ hrc ?_)
     conv=>whnf
     try (refine tI ?_;conv=>whnf)
     try (refine tS ?_;conv=>whnf)
     (first | rw [hE] | skip)
     conv=>whnf
     all_goals exact⟨i+1,by omega,by omega,zR (s:= [0,1,2,3,4]) ⟨⟨rfl,rfl,rfl,rfl,rfl,AS (by omega),tv⟩,⟨rfl,rfl,rfl,rfl,congrArg (fun l=>some (AB.row _ _ l)) (by rw [hsx,Jc];try rfl),tv⟩,rfl,rfl,rfl,rfl,rfl⟩⟩
    ·have ei:i=(GH g c).length:=by simp [GH];omega
     repeat' (refine zZ ?_;conv=>whnf)
     exact⟨c+1,by omega,by omega,zR (s:= [0,1,2,3,4]) ⟨⟨rfl,rfl,rfl,rfl,AS (by omega),tv⟩,⟨rfl,rfl,rfl,rfl,by rw [ei,Aw];try rfl,tv⟩,rfl,rfl,rfl,rfl,rfl⟩⟩
   ·have ec:c=2:=by omega
    subst ec;have hT:=WC g hg;have hz8:=H6 zero8;have hB:=WA (E3 g) (by rw [E3,BA];omega) (fun e he=>by rw [CL he];simp only [ent0];omega);repeat' (refine zZ ?_;conv=>whnf)
    refine z_ hT ?_;conv=>whnf
    refine z_ hB ?_;conv=>whnf
    repeat' (refine zZ ?_;conv=>whnf)
    refine zU Nat (fun z=>([(2, .bp 0 0),(4, .bp 1 0),(5, .bp 2 0),(10,bA (CM (E3 g))),(11,ze z)], [.box 23 (AZ g), .box 43 [nilV,nilV,ze 0,ze 0], .box 43 [.ow 4 (A4 g).toNat,nilV,ze 0,ze (-1)], .box 33 (EH (BX g s)), .row 128 3 ((GN g s z).map BF)])) (fun z=>z<=g.z.toNat) (fun z=>g.z.toNat - z) 0 (Aj _)
     (zR (s:= [0,1,2,3,4]) tA) ?_
    intro z hz;conv=>whnf
    refine A8 (fun h9=>?_) (fun h9=>?_) <;> (repeat rw [Ab] at h9) <;> conv=>whnf
    ·have htb:∀ k:Nat,k<2->0<=Bw g z k/\Bw g z k<((A4 g).toNat:Int):=fun k hk=>by unfold Bw;omega
     have hmul:(z:Int)*CH g<=(g.z - 1)*CH g:=Cg (by omega) (by omega);have hz0:0<=(z:Int)*CH g:=CP (by omega) (by omega);have hsb:∀ k:Nat,(k:Int)<CH g->0<=Cr g z k/\Cr g z k<((A4 g).toNat:Int):=fun k hk=>by
      rw [<-hcN];unfold Cr A4;rw [Int.sub_mul,Int.one_mul] at hmul;omega
     repeat' (refine zZ ?_;conv=>whnf)
     refine zU Nat (fun k=>([(2, .bp 0 0),(4, .bp 1 0),(5, .bp 2 0),(10,bA (CM (E3 g))),(11,ze z),(12,ze k)], [.box 23 (AZ g), .box 43 [nilV,nilV,ze 0,ze 0], .box 43 [.ow 4 (A4 g).toNat,nilV,ze 0,ze (-1)], .box 33 (EH (BX g s)), .row 128 3 ((Ec (GN g s z) ((HR g z).take k)).map BF)])) (fun k=>k<=2) (fun k=>2 - k) 0 (Aj _)
      (zR (s:= [0,1,2,3,4]) tA) ?_
     intro k hk;conv=>whnf
     refine A8 (fun h10=>?_) (fun h10=>?_) <;> (repeat rw [Ab] at h10) <;> conv=>whnf
     ·have hlw:(HR g z).length=2:=by simp [HR]
      have hk':k<(HR g z).length:=by omega
      have hsx:=HM (GN g s z) hk';rw [show (HR g z).getD k ⟨0, []⟩=⟨Bw g z (k:Nat),CA (Bw g z (k:Nat)) 0 (CM (E3 g))⟩ from J2 (by omega)] at hsx;have hlx:(Ec (GN g s z) ((HR g z).take k)).length=(A4 g).toNat:=by rw [EE,Gx]
      generalize Ec (GN g s z) ((HR g z).take k)=cs at hsx hlx |-
      have hgt:=S5 g z k hg (by omega) (by omega);have hin:=htb k (by omega);have hmk:=HC (Bw g z k) 0 (CM (E3 g)) (Uu hg (by omega));have hE:(cs.map BF).getD (Bw g z k).toNat []=BF (cs.getD (Bw g z k).toNat cz):=K4 hlx (by omega);repeat' (refine zZ ?_;conv=>whnf)
      refine z_ hgt ?_;conv=>whnf
      apply zV (0) tys_ok mixed (.o [0,1,2,3,4,5,6,7,8] .fin) (by kernel_rfl);conv=>whnf
      refine z_ hmk ?_;conv=>whnf
      try (refine tI ?_;conv=>whnf)
      try (refine tS ?_;conv=>whnf)
      (first | rw [hE] | skip)
      conv=>whnf
      all_goals exact⟨k+1,by omega,by omega,zR (s:= [0,1,2,3,4]) ⟨⟨rfl,rfl,rfl,rfl,rfl,AS (by omega),tv⟩,⟨rfl,rfl,rfl,rfl,congrArg (fun l=>some (AB.row _ _ l)) (by rw [hsx,Jc];try rfl),tv⟩,rfl,rfl,rfl,rfl,rfl⟩⟩
     ·have ek:k=(HR g z).length:=by simp [HR];omega
      rw [ek,Aw];have hpr:=NB g hg;repeat' (refine zZ ?_;conv=>whnf)
      refine zU Nat (fun i=>([(2, .bp 0 0),(4, .bp 1 0),(5, .bp 2 0),(10,bA (CM (E3 g))),(11,ze z),(14,ze i)], [.box 23 (AZ g), .box 43 [nilV,nilV,ze 0,ze 0], .box 43 [.ow 4 (A4 g).toNat,nilV,ze 0,ze (-1)], .box 33 (EH (BX g s)), .row 128 3 ((Ec (Ec (GN g s z) (HR g z)) ((GU g z).take i)).map BF)])) (fun i=>i<=(CH g).toNat) (fun i=>(CH g).toNat - i) 0 (Aj _)
       (zR (s:= [0,1,2,3,4]) tA) ?_
      intro i hi;conv=>whnf
      refine z_ hpr ?_;conv=>whnf
      refine A8 (fun h11=>?_) (fun h11=>?_) <;> (repeat rw [Ab] at h11) <;> conv=>whnf
      ·have hlw:(GU g z).length=(CH g).toNat:=by simp [GU]
       have hi':i<(GU g z).length:=by omega
       have hsx:=HM (Ec (GN g s z) (HR g z)) hi';rw [show (GU g z).getD i ⟨0, []⟩=⟨Cr g z (i:Nat),CA (Cr g z (i:Nat)) 0 zero8⟩ from J2 (by omega)] at hsx;have hlx:(Ec (Ec (GN g s z) (HR g z)) ((GU g z).take i)).length=(A4 g).toNat:=by rw [EE,EE,Gx]
       generalize Ec (Ec (GN g s z) (HR g z)) ((GU g z).take i)=cs at hsx hlx |-
       have hgt:=UD g z i hg (by omega) (by omega);have hin:=hsb i (by omega);have hmk:=HC (Cr g z i) 0 zero8 ⟨hin.1,by omega,Cy _,by decide,by decide⟩;have hE:(cs.map BF).getD (Cr g z i).toNat []=BF (cs.getD (Cr g z i).toNat cz):=K4 hlx (by omega);repeat' (refine zZ ?_;conv=>whnf)
       refine z_ hgt ?_;conv=>whnf
       apply zV (0) tys_ok mixed (.o [0,1,2,3,4,5,6,7,8] .fin) (by kernel_rfl);conv=>whnf
       (try (refine Af ⟨rfl,by decide,by decide⟩ ?_;conv=>whnf);refine zQ hmk.go ?_;(conv=>whnf);refine Af rfl ?_;(conv=>whnf);refine zY [ze (Cr g z i),ze 0,bA zero8] ⟨ri,ri,fun c v h=>zH rfl (fun i hi=>by have hi':i<8:=hi;rw [L9 (by exact hi'),Sj hi'];try rfl) h,tv⟩ ?_;refine z_ hmk ?_)
       conv=>whnf
       try (refine tI ?_;conv=>whnf)
       try (refine tS ?_;conv=>whnf)
       (first | rw [hE] | skip)
       conv=>whnf
       all_goals exact⟨i+1,by omega,by omega,zR (s:= [0,1,2,3,4]) ⟨⟨rfl,rfl,rfl,rfl,rfl,AS (by omega),tv⟩,⟨rfl,rfl,rfl,rfl,congrArg (fun l=>some (AB.row _ _ l)) (by rw [hsx,Jc];try rfl),tv⟩,rfl,rfl,rfl,rfl,rfl⟩⟩
      ·have ei:i=(GU g z).length:=by simp [GU];omega
       repeat' (refine zZ ?_;conv=>whnf)
       exact⟨z+1,by omega,by omega,zR (s:= [0,1,2,3,4]) ⟨⟨rfl,rfl,rfl,rfl,AS (by omega),tv⟩,⟨rfl,rfl,rfl,rfl,by rw [ei,Aw];try rfl,tv⟩,rfl,rfl,rfl,rfl,rfl⟩⟩
    ·have ez:z=g.z.toNat:=by omega
     subst ez;exact⟨_, .ag [.ow 0 (A4 g).toNat,nilV,ze 0,ze (-1)], [.row 128 3 ((GN g s g.z.toNat).map BF)],fun _ _ h=>h,zR (s:= [4]) tA,rfl,rfl⟩
theorem Qw (g:Geo) (s:ByteArray) (hg:Bp g=true) (hs:FG s.data.toList=0):Fn Tryz.prog 57 [.ag (AZ g), .v (.string s)] fun r=>r = .ag (Et (GM g s)):=by
 refine ACalls.fn (OK g s hg hs) ?_;rintro _ _ ⟨rfl,rfl⟩;refine⟨_,zA _,?_⟩;conv=>whnf
 refine Af (by rw [Ac];exact(Gx g s _).symm) ?_;exact⟨.ag (Et (GM g s)),Bi ⟨B5 (f:=BF) (GN g s g.z.toNat) (by rw [Gx]) rfl,Bt 2 _,ri,ri,tv⟩,rfl⟩


section
variable {g:Geo} {s:ByteArray} {b:An} {fill:UInt8} {sizes:List Int} {D:Dk}
end
theorem StSm.big {S:Stt} (h:StSm S):StBig S:=
 ⟨by have:=h.l;omega,by have:=h.h.1;omega,⟨by have:=h.t.1;omega,fun t ht=>⟨by have:=(h.t.2 t ht).1;omega,fun x hx=>by have:=(h.t.2 t ht).2 x hx;omega⟩⟩,by have:=h.o;omega⟩
structure Vol (g:Geo) (K:Int) (d:Dk) (s:Stt):Prop where
 gd:∃ F,Gd (A4 g) d F
 an:Bu g s.a=true
 ring:CE g s.txns s.a.seq s.a.pos g.sl=true
 rest:s.only=false/\s.cursor=0/\s.found=0/\s.fixed=0/\s.moved=0/\s.lost=[]
 gen:s.a.gen<=K
 seq:s.a.seq+s.txns.length<=K
 one:∀ t∈s.txns,OneTab t.images
theorem Fu {g:Geo} {a:An} (ha:Bu g a=true):(0<=a.gen/\a.gen<=4294967295)/\(1<=a.seq/\a.seq<=4294967295)/\(0<=a.pos/\a.pos<g.sl)/\(a.homes.length:Int)=g.z:=by
 simp only [Bu,AT,BB,Bz,Ad,decide_eq_true_eq,AF] at ha;omega
theorem JX {g:Geo}:∀ {l:List Tx} {seq pos a b:Int},a<=b->CE g l seq pos a=true->CE g l seq pos b=true
 | [],_,_,_,_,_,_=>rfl
 | t::r,seq,pos,a,b,hab,h=>by
  simp only [CE,Ad,decide_eq_true_eq] at h |-
  obtain⟨⟨h1,h2,h3,h4,h5,h6,h7⟩,h8⟩:=h;exact⟨⟨h1,h2,h3,h4,by omega,h6,h7⟩,JX (by omega) h8⟩
theorem DJ {g:Geo}:∀ {l:List Tx} {seq pos left:Int},CE g l seq pos left=true->∀ t∈l,t.images.all (Bx g)=true/\t.n=t.images.length+1/\2<=t.n/\t.n<=max left 0
 | t::r,seq,pos,left,h,x,hx=>by
  simp only [CE,Ad,decide_eq_true_eq] at h;obtain⟨⟨h1,h2,h3,h4,h5,h6,h7⟩,h8⟩:=h;rcases A_.1 hx with rfl | hx
  ·exact⟨h7,h6,h4,by omega⟩
  ·have:=DJ h8 x hx;exact⟨this.1,this.2.1,this.2.2.1,by omega⟩
theorem Gv {g:Geo} (hg:Bp g=true) {x:Img} (h:Bx g x=true):x.bytes.length<=45:=by
 obtain⟨g1,g2,g3,g4,g5⟩:=As.1 hg;by_cases hw:x.what=255
 ·simp only [Bx,Ad] at h;have h2:=h.2.2;rw [if_pos hw] at h2;by_cases hl:x.bytes.length=9*(g.d+1).toNat
  ·omega
  ·rw [J0 (.inl hl)] at h2;cases h2
 ·have:=(F3 h).2 hw;omega
theorem Vol.st {g:Geo} {K:Int} {d:Dk} {s:Stt} (hg:Bp g=true) (h:Vol g K d s):Mf g d s=true:=by
 obtain⟨F,hF⟩:=h.gd;obtain⟨r1,r2,r3,r4,r5,r6⟩:=h.rest;have hu:=KN hg;have hh:DY g s=true:=by
  unfold DY;rw [r3,r4,r5,r6];try rfl
 unfold Mf;rw [hg,Pf.2 hF.ok,decide_eq_true hF.len,h.an,h.ring,r2,hh,decide_eq_true (show (0:Int)<F_ g by omega)];try rfl
theorem Vol.sm {g:Geo} {K:Int} {d:Dk} {s:Stt} (hg:Bp g=true) (h:Vol g K d s):StSm s:=by
 obtain⟨g1,g2,g3,g4,g5⟩:=As.1 hg;have hr:=DJ h.ring;have hin:=F2 hg (Cy _) h.ring;have hlen:(s.txns.length:Int)<=30:=by
  have:∀ l:List Tx,(∀ t∈l,2<=t.n)->2*(l.length:Int)<=sumT l:=by
   intro l;induction l with
   | nil=>intro _;simp [sumT]
   | cons t r ih=>
    intro hl;have h1:=hl t (by simp);have h2:=ih fun x hx=>hl x (AU _ hx)
    rw [sumT,Ap];omega
  have:=this s.txns fun t ht=>(hr t ht).2.2.1
  have:=hin.2;omega
 refine⟨⟨(G2 hg h.an 0 (Aj _)).2.1,fun x hx=>Km hg h.an x hx⟩,(G2 hg h.an 0 (Aj _)).2.2.2.1,⟨by omega,fun t ht=>?_⟩,by rw [h.rest.2.2.2.2.2];simp⟩;obtain⟨q1,q2,q3,q4⟩:=hr t ht;refine⟨by omega,fun i hi=>?_⟩;have:=Gv hg (Au.1 q1 i hi);omega
theorem Vol.add {g:Geo} {K:Int} {d d':Dk} {s:Stt} (hg:Bp g=true) (h:Vol g K d s) (hK:K<=4294967294) (hd:∃ F,Gd (A4 g) d' F) {x:Tx} (e1:x.seq=s.a.seq+s.txns.length) (e3:x.pos=(s.a.pos+C7 s.txns).tmod g.sl) (e4:2<=x.n) (e5:x.n<=g.sl - C7 s.txns) (e6:x.n=x.images.length+1) (e7:∀ y∈x.images,Bx g y=true) (e8:OneTab x.images):Vol g (K+1) d' { s with txns:=s.txns ++ [x] }:=by
 obtain⟨a1,a2,a3,a4⟩:=Fu h.an;have hin:=F2 hg (Cy _) h.ring;rw [Jp hin.1] at e3 e5;have hs:=h.seq;refine⟨hd,h.an,JW hg a3.1 a3.2 (Cy _) h.ring e1 (by omega) e3 e4 e5 e6 (Au.2 e7),h.rest,by have:=h.gen;show s.a.gen<=K+1;omega,?_,fun t ht=>?_⟩
 ·show s.a.seq+((s.txns ++ [x]).length:Nat)<=K+1;simp only [Ai,Ap,Bb];omega
 ·rcases A0.1 ht with q | q
  ·exact h.one t q
  ·rw [AE] at q;exact q ▸ e8
theorem Vol.home {g:Geo} {K:Int} {d d':Dk} {s:Stt} (hg:Bp g=true) {x:Tx} {r:List Tx} (hx:s.txns=x::r) (h:Vol g K d s) (hK:K<=4294967294) (hd:∃ F,Gd (A4 g) d' F):Vol g (K+1) d' { s with a:=O5 g s.a x,txns:=r }:=by
 obtain⟨a1,a2,a3,a4⟩:=Fu h.an;have hs:=h.seq;have hgn:=h.gen;have hr:=h.ring;rw [hx,Ap] at hs;rw [hx] at hr;have hin:=(F2 hg (Cy _) hr).1 x (by simp);simp only [CE,Ad,decide_eq_true_eq] at hr;obtain⟨⟨h1,h2,h3,h4,h5,h6,h7⟩,h8⟩:=hr;refine⟨hd,Uy hg h.an (by omega) (by omega) h1 (by omega) (by omega),?_,h.rest,by show s.a.gen+1<=K+1;omega,?_,fun t ht=>h.one t (by rw [hx];exact AU _ ht)⟩
 ·show CE g r (s.a.seq+1) ((x.pos+x.n).tmod g.sl) g.sl=true;rw [h3];exact JX (by omega) h8
 ·show s.a.seq+1+(r.length:Int)<=K+1;omega
theorem Ol {g:Geo} {a:An} {w:Wr} (hw:w∈Bd g a):∃ i:Nat,(i:Int)<g.an/\w=⟨(i:Nat),De a (i:Nat)⟩:=by
 simp only [Bd,AK,AM] at hw;obtain⟨i,hi,rfl⟩:=hw;exact⟨i,by omega,rfl⟩
def Uw (g:Geo) (a:An) (x:Tx) (F:Int->List UInt8):Int->List UInt8:=Ry (Ry F (L2 g a x.seq x.images)) (Bd g (O5 g a x))
def ZJ (g:Geo):Stt:=Bl (D9 (BX g ⟨#[]⟩) 0) []
def ZP (g:Geo) (a:An) (q:Int):List UInt8:=if q<g.an then De a q else GL g ⟨#[]⟩ q
theorem Px {g:Geo} (hg:Bp g=true) {d:Dk} (h:Holds d (A4 g) (GL g ⟨#[]⟩)) {c:Int} (hc:c=0\/c=1):By d (BR g c)=Gf g [] 0 c g.sl.toNat:=by
 rw [QQ h _ (SX hg hc)];unfold BR Gf;rw [List.map_map];refine Ck fun i hi=>?_
 have hi:=AM.1 hi;show (⟨0,GL g ⟨#[]⟩ (Bf g c (i:Nat))⟩:Gt)=_;rw [LC hc (by omega)];try rfl
theorem U4 {g:Geo} (hg:Bp g=true) {b:An} (hp:b.pos=0) (hl:¬b.seq - 1<b.last) {d:Dk} (h:Holds d (A4 g) (GL g ⟨#[]⟩)):DT g b (By d (BR g 0)) (By d (BR g 1))=([], [],0):=by
 obtain⟨g1,g2,g3,g4,g5⟩:=As.1 hg;have hok:LogOk g [] 0:=⟨by simp,by simp,fun s i k _ h=>(nomatch (show (none:Option (Nat × Int))=some (i,k) from h)),fun s _=>HE hg⟩;rw [N6,Px hg h (.inl rfl),Px hg h (.inr rfl),RA hg hok (.inl rfl),RA hg hok (.inr rfl)];obtain⟨n,hn⟩:∃ n,g.sl.toNat=n+1:=⟨g.sl.toNat - 1,by omega⟩;have hz:GV g [] 0 (fun _=>false) 0=some zeroC:=by
  unfold GV;rw [if_pos (by omega)];try rfl
 have hs:Ca g 0 0=0:=by
  show (IntKind.i64.wrap 0).tmod g.sl=0;rw [show IntKind.i64.wrap 0=0 from rfl,Int.zero_tmod]
 have h0:DA zeroC b b.seq 0 0 g.sl=false:=decide_eq_false fun h=>h.1 rfl
 have hr:(C2 g b (GV g [] 0 fun _=>false) (GV g [] 0 fun _=>false) 0 b.seq g.sl 0 0).2.1=2:=by
  show (C0 (GV g [] 0 (fun _=>false) (Ca g 0 0)) (GV g [] 0 (fun _=>false) (Ca g 0 0)) (DW (GV g [] 0 (fun _=>false) (Ca g 0 0)) b b.seq 0 0 g.sl) (DW (GV g [] 0 (fun _=>false) (Ca g 0 0)) b b.seq 0 0 g.sl)).2.2=2;rw [hs,hz];show (C0 (some zeroC) (some zeroC) (DA zeroC b b.seq 0 0 g.sl) (DA zeroC b b.seq 0 0 g.sl)).2.2=2;rw [h0];try rfl
 have ht:(F6 g b (GV g [] 0 fun _=>false) (GV g [] 0 fun _=>false) 0 b.seq g.sl).1=2:=by
  unfold F6;simp only;rw [if_pos (by rw [hr];decide)];exact hr
 unfold M7;rw [hn,hp,EO];split
 ·simp only;rw [ht,if_neg (by decide),if_pos (by decide),Fs hl]
 ·exact Fs hl
theorem QV {g:Geo} (hg:Bp g=true) (hb:Bu g (BX g ⟨#[]⟩)=true) (x:Int):(GL g ⟨#[]⟩ x).length<=200:=by
 unfold GL;split
 ·exact Ji hg hb x
 ·split
  ·exact Dv (HE hg) _ _
  ·split
   ·exact Dv (HE hg) _ _
   ·split
    ·rw [EN,E2];unfold E3;rw [BA];have:=(As.1 hg).2.1;omega
    ·rw [EN];decide
theorem Xy {g:Geo} (hg:Bp g=true) (hb:Bu g (BX g ⟨#[]⟩)=true):DkOk (GM g ⟨#[]⟩):=by
 have hcb:=Hy hg;have h:=Nb (g:=g) (s:=⟨#[]⟩) hg;have hlen:=h.len;refine⟨by omega,by rw [h.cache];simp,by show (0:Int)<=0/\(0:Int)<=_;decide,by show (-1:Int)<= -1/\(-1:Int)<=_;decide,fun c hc=>?_,fun w hw=>by rw [h.cache] at hw;cases hw⟩;obtain⟨i,hi,rfl⟩:=List.getElem_of_mem hc;have hci:=Pz (g:=g) (s:=⟨#[]⟩) hg (a:=((i:Nat):Int)) (by omega) (by omega);have e:(GM g ⟨#[]⟩).cells.getD ((i:Nat):Int).toNat cz=(GM g ⟨#[]⟩).cells[i]:=by
  rw [Ab,Aa,Ae hi];try rfl
 rw [e] at hci;rw [hci];exact⟨⟨Cy _,by show (0:Int)<=2;decide⟩,QV hg hb _,by simp⟩
theorem Yv {g:Geo} (hg:Bp g=true) (hb:Bu g (BX g ⟨#[]⟩)=true) {d:Dk} (h:Holds d (A4 g) (GL g ⟨#[]⟩)):Gj g (By d (Dl g))=some (BX g ⟨#[]⟩,(ZO (Gj g (By d (Dl g))))):=by
 obtain⟨g1,g2,g3,g4,g5⟩:=As.1 hg;have hcg:=DZ hg;have hsp:=Ll g (By d (Dl g)) (By d (Dl g)).length;rw [DO,Fd] at hsp;have hsay:∀ i,i<g.an.toNat->Ew g ((By d (Dl g)).getD i ⟨0, []⟩) (i:Nat)=some (BX g ⟨#[]⟩):=fun i hi=>by
  rw [Rs hi,h.got (by omega) (by omega),RX (by omega)];exact Qp hg hb (by omega)
 have hpk:Gj g (By d (Dl g))=EL g (By d (Dl g)) g.an.toNat:=by rw [Gj,DO,Fd]
 rw [hpk];cases hP:EL g (By d (Dl g)) g.an.toNat with
 | none=>
  have:=hsp.1 hP 0 (by omega);rw [hsay 0 (by omega)] at this;cases this
 | some q=>
  obtain⟨a0,j⟩:=q;obtain⟨q1,q2,q3⟩:=hsp.2 a0 j hP;rw [hsay j q1] at q2;cases q2;rfl
def QF (g:Geo) (c:An) (q:Int):List UInt8:=if q<0 then ((CI (GM g ⟨#[]⟩).cells (Bd g c)).getD (-1 - q).toNat cz).old else ZP g c q
theorem Yq {g:Geo} (hg:Bp g=true):∃ D,CZ g (GM g ⟨#[]⟩)=(D,0,ZJ g)/\DkOk (GM g ⟨#[]⟩)/\((GM g ⟨#[]⟩).cells.length:Int)=A4 g/\Vol g 2 D (ZJ g)/\Gd (A4 g) D (QF g (D9 (BX g ⟨#[]⟩) 0)):=by
 obtain⟨g1,g2,g3,g4,g5⟩:=As.1 hg;have hs:FG (⟨#[]⟩:ByteArray).data.toList=0:=lab_nil;have hf:=Nb (g:=g) (s:=⟨#[]⟩) hg;have hb:=Ng (g:=g) (s:=⟨#[]⟩) hg hs;have hdk:DkOk (GM g ⟨#[]⟩):=Xy hg hb;have hcg:=DZ hg;have hsc:=U4 hg (b:=BX g ⟨#[]⟩) rfl (by show ¬(1:Int) - 1<0;decide) hf;have hm:=Pj hg hdk hf.len hf.cache (by show (-1:Int)<0;decide) (Yv hg hb hf) hsc (by show (1:Int)≠_;decide) (by show (0:Int)≠_;decide);have hna:=Fv g (D9 (BX g ⟨#[]⟩) ([]:List Tx).length);rw [VB hf _ (fun w hw=>by
  simp only [Bd,AK,AM] at hw;obtain⟨i,hi,rfl⟩:=hw;exact⟨by show (0:Int)<=(i:Nat);omega,by show ((i:Nat):Int)<_;omega⟩),if_neg (by omega),if_neg (by omega)] at hm
 have hD:=SU hg hdk hf.len;rw [hm] at hD;have hn:=Ls (n:=0) hb (by show (1:Int)≠_;decide) (by show (0:Int)≠_;decide) (by show (1:Int)+0 - 1<=_;decide);have hfin:=Tj (r:=((GM g ⟨#[]⟩).tick (Pi g [])).reqs) (l:=(GM g ⟨#[]⟩).left) hg (c:=D9 (BX g ⟨#[]⟩) ([]:List Tx).length) hf;have hgd:Gd (A4 g) _ (QF g (D9 (BX g ⟨#[]⟩) 0)):=⟨hD.1,rfl,hfin.len,hfin.cache,fun a h0 h1=>by
  unfold QF;rw [if_neg (by omega)];exact hfin.cell a h0 h1,fun a h0 h1=>by
  unfold QF;rw [if_pos (by omega),show -1 - (-1 - a)=a by omega];try rfl⟩
 exact⟨_,hm,hdk,hf.len,⟨⟨_,hgd⟩,hn,rfl,tA,(by show (1:Int)+1<=2;decide),(by show (1:Int)+(0:Nat)<=2;decide),fun t ht=>by cases ht⟩,hgd⟩
structure LogB (l:List Tx):Prop where
 n:l.length<=1000000
 i:∀ t∈l,t.images.length<=1000000/\∀ x∈t.images,x.bytes.length<=1000000000
def G5 (g:Geo) (s:Stt) (F:Int->List UInt8) (z:Int):Option (List Ent):=match Da s.txns z 255 with
 | some p=>BZ g p.1.bytes
 | none=>match CN g ⟨0,F (Bw g z 0)⟩ (Bw g z 0) (EA s.a s.txns z) with
  | some t=>some t
  | none=>CN g ⟨0,F (Bw g z 1)⟩ (Bw g z 1) (EA s.a s.txns z)
def Mg (g:Geo) (s:Stt) (F:Int->List UInt8) (t:List Ent) (z w:Int):List UInt8:=match Da s.txns z w with
 | some p=>p.1.bytes
 | none=>(DQ ⟨0,F (DG g s.a z w)⟩ (DG g s.a z w) (t.getD (Fz g w).toNat ez)).getD []
def HY (b:List UInt8):List AV:= [bA b]
theorem ConvF.sealTp {fr:Fr} {H:List AB} (i k:Nat) {x z:AV} {t:TypeId} {sz:Nat} {es:List (List AV)} (hx:fget fr i = .tp [x, .ow k es.length,z]) (hk:hget H k=some (.row t sz es)):ConvF fr H ((i, .tp [x, .sl sz es.length fun j=>es.getD j [],z])::fr) (H.set k .dead):=fun _ _ c _ _ hs hf=>by
 rw [hget_eq] at hk;obtain⟨c1,e1,s1,x1,r1⟩:=hs.freeze hk;refine⟨c1,e1,s1,(hf.ext x1).cons i _ ?_,x1⟩;have h0:=hf.get i;have h1:=(hf.ext x1).get i;rw [hx] at h0 h1;simp only [Rd] at h0 h1;obtain⟨us,e,h0⟩:=h0;obtain⟨us',e',h1⟩:=h1;have eu:us'=us:=by
  have:=e.symm.trans e';injection this with this
  simpa using this.symm
 subst eu;obtain⟨y1,l1,rfl,a1,y2,l2,rfl,a2,y3,l3,rfl,a3,rfl⟩:=h0;obtain⟨z1,m1,q1,b1,z2,m2,q2,b2,z3,m3,q3,b3,q4⟩:=h1;subst q2 q3 q4;simp only [List.cons.injEq,and_true] at q1;obtain⟨rfl,rfl,rfl⟩:=q1;simp only [Rd];exact⟨_,e,_,_,rfl,b1,_,_,rfl,r1 _ a2,_,_,rfl,b3,rfl⟩
theorem Fc {L:List (List UInt8)} {n:Nat} {es:List (List AV)} (hn:n=L.length) (he:es=L.map HY) (c:Ctx) (v:Value) (h:Rd (.sl 1 n fun i=>es.getD i []) c v):Rd (FN L) c v:=B5 (f:=HY) L hn he c v h
def Xu (g:Geo) (s:Stt) (F:Int->List UInt8) (t:List Ent) (z:Int) (k:Nat):List (List UInt8):=(List.range k).map fun i=>Mg g s F t z (i:Nat)
def ED (g:Geo) (s:Stt) (F:Int->List UInt8) (t:List Ent) (z:Int):List (List UInt8):=Xu g s F t z g.d.toNat ++ [Mg g s F t z (-1)]
theorem R3 {g:Geo} {s:Stt} {F:Int->List UInt8} {z:Int} {t:List Ent} (h:G5 g s F z=some t):FB g t=true:=by
 have hr:∀ {b:List UInt8} {t:List Ent},BZ g b=some t->FB g t=true:=fun {b t} h=>by
  unfold BZ at h;split at h
  ·rename_i hh;obtain rfl:=Option.some.inj h;exact hh.1
  ·cases h
 have ho:∀ {x:Gt} {a r:Int} {t:List Ent},CN g x a r=some t->FB g t=true:=fun {x a r t} h=>by
  unfold CN at h;split at h
  ·split at h
   ·exact hr h
   ·cases h
  ·cases h
 unfold G5 at h;split at h
 ·exact hr h
 ·split at h
  ·rename_i hh;obtain rfl:=Option.some.inj h;exact ho hh
  ·exact ho h
theorem GE {g:Geo} {t:List Ent} (h:FB g t=true):(t.length:Int)=g.d+1:=by
 unfold FB at h
 grind
theorem IU {g:Geo} {s:Stt} {F:Int->List UInt8} {t:List Ent} {z w:Int} (hi:∀ t∈s.txns,∀ x∈t.images,Bx g x=true) (hw:w≠255):(Mg g s F t z w).length=0\/(Mg g s F t z w).length=8:=by
 unfold Mg;split
 ·rename_i p hp;obtain⟨x,q⟩:=p;obtain⟨t',ht, -,hx, -,e⟩:=Gy (Ag _) hp;exact .inr ((F3 (hi t' ht x hx)).2 (by rw [e];exact hw)).2.2
 ·unfold DQ;split
  ·split
   ·rename_i h;exact .inr h.2.1
   ·exact .inl rfl
  ·exact .inl rfl
theorem EB {L:List Int} {n:Nat} {es:List (List AV)} (hn:n=L.length) (he:es=L.map fun x=> [AV.v (.int .i64 x)]) (c:Ctx) (v:Value) (h:Rd (.sl 1 n fun i=>es.getD i []) c v):Rd (iA L) c v:=B5 (f:=fun x=> [AV.v (.int .i64 x)]) L hn he c v h
def IZ (g:Geo) (s:Stt) (F:Int->List UInt8) (seq lba:Int) (b:List UInt8):List Img:=match G5 g s F (lba.tdiv g.d) with
 | some t=>Cq (lba.tdiv g.d) (BD g t (ED g s F t (lba.tdiv g.d)) [lba.tmod g.d] [b] seq) (EQ g t (ED g s F t (lba.tdiv g.d)) [lba.tmod g.d] [b] g.d.toNat) [lba.tmod g.d] [b]
 | none=> []
theorem WM {L L':List Img} {n:Nat} (e:L=L') (hn:n=L'.length) (c:Ctx) (v:Value) (h:Rd (.sl 3 n fun j=>((List.range L'.length).map fun i=>Ds (L'.getD i ⟨0,0, []⟩)).getD j []) c v):Rd (Ed L) c v:=by
 subst e;refine zH hn (fun i hi=>?_) h;have:i<L.length:=by omega
 simp [this]
theorem NH {g:Geo} {seq epoch:Int} {x:Img} (hg:Bp g=true) (h2:C5 seq 0 4294967295=true) (h3:C5 epoch 0 4294967295=true) (h7:Bx g x=true) {k n:Nat} (hk:k<n) (hn:n=3):DR g ⟨1,seq,epoch,(k:Nat),n+1,x⟩=true:=by
 simp only [DR,hg,Ee,EM,h2,h3,h7,B7,Bz];simp only [if_neg (show ¬(1:Int)=0 by omega),if_true,Ad,AF];omega
theorem NG {g:Geo} {seq epoch:Int} (hg:Bp g=true) (h2:C5 seq 0 4294967295=true) (h3:C5 epoch 0 4294967295=true) {n:Nat} (hn:n=3):DR g ⟨2,seq,epoch,(n:Nat),n+1,noImg⟩=true:=by
 subst hn;simp only [DR,hg,Ee,EM,h2,h3,B7];simp only [if_neg (show ¬(2:Int)=0 by omega),if_neg (show ¬(2:Int)=1 by omega),if_true,Ad,AF,beq_iff_eq,FC,noImg];simp
@[reducible] def rwQ (g:Geo) (a:An) (l:List Tx) (x:Tx) (d:Dk):List AB:= [.box 83 (Z2 g (.bp 1 0) (.ow 4 a.homes.length) (.ow 5 (l.length+1)) (Bl a l) 0), .box 85 (I3 (.ow 2 d.cells.length) (.ow 6 d.cache.length) d.reqs d.left), .row 128 3 (d.cells.map BF), .dead, .row 177 3 (a.homes.map Jn), .row 112 4 (l.map Ea ++ [Ea x]), .row 134 2 (d.cache.map Eu)]
def Hx (g:Geo) (a:An) (l:List Tx) (F:Int->List UInt8) (lba:Int) (b:List UInt8):Tx:=⟨a.seq+(l.length:Int),(a.pos+C7 l).tmod g.sl,4,IZ g (Bl a l) F (a.seq+(l.length:Int)) lba b⟩
theorem in01:(0:Int)<=((0:Nat):Int)/\((0:Nat):Int)<((1:Nat):Int):=by decide
def Z9 (A:Int) (p:Bool):AV:=match p with
 | true=>iA [A]
 | false=> .v (.slice none 0 0)
def ZS (b:List UInt8) (p:Bool):AV:=match p with
 | true=>FN [b]
 | false=> .v (.slice none 0 0)
def Zh (L:List Img) (p:Bool):AV:=match p with
 | true=>Ed L
 | false=> .v (.slice none 0 0)
def YH (b:Bool):List AV:= [.v (.bool b)]
def Zr (l:List Bool):AV:= .sl 1 l.length fun i=>YH (l.getD i false)
theorem YG {L:List Bool} {n:Nat} {es:List (List AV)} (hn:n=L.length) (he:es=L.map YH) (c:Ctx) (v:Value) (h:Rd (.sl 1 n fun i=>es.getD i []) c v):Rd (Zr L) c v:=B5 (f:=YH) L hn he c v h
theorem BV {l:List Nat} {m:Nat} (h:(l.all fun z=>Nat.ble (z+1) m)=true):∀ z∈l,z<m:=fun z hz=>Ah (Au.1 h z hz)
section
variable {g:Geo} {t:List Ent} {had:List (List UInt8)} {A:Int} {b:List UInt8} {stamp:Int}
end

end
section
open Go.RowKit Go.Shelf
attribute [local go_sem] Oper.semAt_some

theorem We (F:Fence) (n:Nat) (h7:F.fn 255) (hro:F.round=none) (hn:1<=n) (l Bs n₀ b off len cap:Nat) (X0 X1 X2 X3:Nat->Value) (hlen:len<=1000000000) (hb:b<n₀) (hBn:Bs<n₀) (J Jx:List Nat->World->Prop)
  (hY:∀ pre x W,J pre W->pre.length<len->x<len->YieldAt F (n - 1) Tryz.prog l #[.int .i64 (x:Nat), .agg #[X0 x,X1 x,X2 x,X3 x]] W fun e W'=>
   (e = .returned (.bool true)/\J (pre ++ [x]) W'/\Below n₀ W W')\/(e = .returned (.bool false)/\Jx (pre ++ [x]) W'))
  (W:World) (hBs:W.cell? ⟨Bs,0,none⟩=some (.slice (some ⟨b,off,none⟩) len cap)) (hc0:∀ j,j<len->W.cell? ⟨b,off+j*4,none⟩=some (X0 j)) (hc1:∀ j,j<len->W.cell? ⟨b,off+j*4+1,none⟩=some (X1 j)) (hc2:∀ j,j<len->W.cell? ⟨b,off+j*4+2,none⟩=some (X2 j)) (hc3:∀ j,j<len->W.cell? ⟨b,off+j*4+3,none⟩=some (X3 j)) (h0:J [] W) :
  CallsIn F n Tryz.prog 255 #[.func (.yield l) #[] #[], .pointer (some ⟨Bs,0,none⟩)] W fun e W'=>(∃ v,e = .returned v)/\
   ((∃ ys,ys=Db len len/\J ys W')\/(∃ pre,(∃ k,k<=len/\pre=Db len k)/\Jx pre W')):=by
 have Hc0:=Lib.hid hc0;have Hc1:=Lib.hid hc1;have Hc2:=Lib.hid hc2;have Hc3:=Lib.hid hc3;clear hc0 hc1 hc2 hc3;refine callsIn_of_wp Tryz.func255 rfl h7 ?_ hro;simp only [Tryz.ntmps255,BP,Ap,Bb,Nat.reduceAdd,Nat.reduceSub,CR,CQ,Dw,CY,Br,Bj]
 gi_wp2
 gi_loopw [3] (fun i wr=>∃ k:Nat,k<=len/\i = .int .i64 ((len:Int) - 1 - k)/\J (Db len k) wr/\Below n₀ W wr)
  (fun i _=>(intOf i+1).toNat)
 case atStart=>exact⟨0,Aj _,by simp,h0,Below.refl _ _⟩
 case round=>
  obtain⟨k,hk,rfl,hJs,hnx⟩:=hrel;by_cases hlt:k<len
  ·obtain⟨m,hmk⟩:∃ m,len=k+1+m:=⟨len - (k+1),by omega⟩;rw [show (len:Int) - 1 - k=(m:Int) by omega];obtain⟨fn,tmps,assign,body,hy,hR⟩:=hY _ m wr hJs (by rw [GP];exact hlt) (by omega);have e0:=(hnx.cell (p:=⟨b,off+m*4,none⟩) hb).trans (Hc0.out m (by omega));have e1:=(hnx.cell (p:=⟨b,off+m*4+1,none⟩) hb).trans (Hc1.out m (by omega));have e2:=(hnx.cell (p:=⟨b,off+m*4+2,none⟩) hb).trans (Hc2.out m (by omega));have e3:=(hnx.cell (p:=⟨b,off+m*4+3,none⟩) hb).trans (Hc3.out m (by omega));have eb:=(hnx.cell (p:=⟨Bs,0,none⟩) hBn).trans hBs;have hm:(m:Int)<(len:Int):=by omega
   have Hm:=Lib.hid hmk;clear hmk
   gi_wp2
   refine hR.mono ?_;rintro e W3 (⟨rfl,hJ3,hk3⟩ | ⟨rfl,hJx3⟩)
   ·gi_wp2
    go_roundw
    case rel=>exact⟨k+1,by omega,congrArg (Value.int .i64) (by have:=Hm.out;omega),by rw [Fb,show len - 1 - k=m by have:=Hm.out;omega];exact hJ3,hnx.trans hk3⟩
    case measure=>simp [intOf]
   ·gi_wp2
    refine bodyPost_ret (results_none rfl _ _ _) rfl ?_;exact⟨⟨_,rfl⟩, .inr ⟨_,⟨k+1,by omega,by rw [Fb,show len - 1 - k=m by have:=Hm.out;omega]⟩,hJx3⟩⟩
  ·obtain rfl:k=len:=by omega
   rw [show ((k:Nat):Int) - 1 - k = -1 by omega]
   gi_wp2
   go_end0
   exact⟨⟨_,rfl⟩, .inl ⟨_,rfl,hJs⟩⟩

theorem Wf (F:Fence) (n:Nat) (h7:F.fn 255) (hro:F.round=none) (l Bs:Nat) (a:Option Addr) (cap:Nat) (J:List Nat->World->Prop) (W:World) (hBs:W.cell? ⟨Bs,0,none⟩=some (.slice a 0 cap)) (h0:J [] W) :
  CallsIn F n Tryz.prog 255 #[.func (.yield l) #[] #[], .pointer (some ⟨Bs,0,none⟩)] W fun e W'=>(∃ v,e = .returned v)/\J [] W':=by
 refine callsIn_of_wp Tryz.func255 rfl h7 ?_ hro;simp only [Tryz.ntmps255,BP,Ap,Bb,Nat.reduceAdd,Nat.reduceSub,CR,CQ,Dw,CY,Br,Bj]
 gi_wp2
 gi_loopw [3] (fun i wr=>i = .int .i64 (-1)/\J [] wr) (fun _ _=>0)
 case atStart=>exact⟨rfl,h0⟩
 case round=>
  obtain⟨rfl,hJs⟩:=hrel
  gi_wp2
  go_end0
  exact⟨⟨_,rfl⟩,hJs⟩

theorem Rm (F:Fence) (n:Nat) (h7:F.fn 255) (hro:F.round=none) (hn:1<=n) (Bs n₀:Nat) (a:Option Addr) (len cap:Nat) (X0 X1 X2 X3:Nat->Value) (hlen:len<=1000000000) (w:World) (hBs:Bs<n₀) (hn₀:n₀<=w.heap.size)
  (hc:w.cell? ⟨Bs,0,none⟩=some (.slice a len cap)) (hI:0<len->∃ b off,a=some ⟨b,off,none⟩/\b<n₀/\∀ j,j<len->w.cell? ⟨b,off+j*4,none⟩=some (X0 j)/\w.cell? ⟨b,off+j*4+1,none⟩=some (X1 j)/\w.cell? ⟨b,off+j*4+2,none⟩=some (X2 j)/\w.cell? ⟨b,off+j*4+3,none⟩=some (X3 j)) :
  SeqStopsK F n Tryz.prog 255 #[.pointer (some ⟨Bs,0,none⟩)] (fun x:Fin len=> #[Value.int .i64 x.val, .agg #[X0 x,X1 x,X2 x,X3 x]]) (Below n₀) (fun ys=>ys.map Fin.val=Db len len) (fun pre=>∃ k,k<=len/\pre.map Fin.val=Db len k) len w:=fun l J Jx W hW _ _ hY h0=>by
 have hc':=(hW.cell (p:=⟨Bs,0,none⟩) (by show Bs<_;omega)).trans hc;rcases Nat.eq_zero_or_pos len with rfl | hp
 ·exact(Wf F n h7 hro l Bs a cap (fun _ W=>J [] W) W hc' h0).mono fun e W' ⟨he,hj⟩=>⟨he, .inl ⟨[],rfl,hj⟩⟩
 ·obtain⟨b,off,rfl,hb,hj⟩:=hI hp;refine(We F n h7 hro hn l Bs n₀ b off len cap X0 X1 X2 X3 hlen hb hBs (fun pre W=>∃ q:List (Fin len),q.map Fin.val=pre/\J q W) (fun pre W=>∃ q:List (Fin len),q.map Fin.val=pre/\Jx q W) ?_ W hc' (fun j h=>(hW.cell (p:=⟨b,off+j*4,none⟩) (by show b<_;omega)).trans (hj j h).1) (fun j h=>(hW.cell (p:=⟨b,off+j*4+1,none⟩) (by show b<_;omega)).trans (hj j h).2.1) (fun j h=>(hW.cell (p:=⟨b,off+j*4+2,none⟩) (by show b<_;omega)).trans (hj j h).2.2.1) (fun j h=>(hW.cell (p:=⟨b,off+j*4+3,none⟩) (by show b<_;omega)).trans (hj j h).2.2.2) ⟨[],rfl,h0⟩).mono ?_
  ·rintro pre x W1 ⟨q,hq,hJ⟩ hlt hx;obtain⟨fn,tmps,assign,body,hy,hR⟩:=hY q ⟨x,hx⟩ W1 hJ (by rw [<-hq,Ac] at hlt;exact hlt);refine⟨fn,tmps,assign,body,hy,hR.mono ?_⟩;rintro e W' (⟨he,h1,h2⟩ | ⟨he,h1⟩)
   ·exact .inl ⟨he,⟨_,by simp [hq],h1⟩,h2⟩
   ·exact .inr ⟨he,⟨_,by simp [hq],h1⟩⟩
  ·rintro e W' ⟨he,⟨ys,rfl,q,hq,hJ⟩ | ⟨pre,⟨k,hk,rfl⟩,q,hq,hJ⟩⟩
   ·exact⟨he, .inl ⟨q,hq,hJ⟩⟩
   ·exact⟨he, .inr ⟨q,⟨k,hk,hq⟩,hJ⟩⟩

theorem bktx_is:IsBack Tryz.prog 255 4:=by
 refine⟨enters_of Tryz.func255 (by kernel_rfl) rfl,fun m hm B a len cap X w hlen hc hl hI=>?_⟩;have e:(fun x:Fin len=>(#[Value.int .i64 x.val, .agg (X x.val).toArray]:Array Value))=fun x:Fin len=> #[Value.int .i64 x.val, .agg #[(X x.val).getD 0 undef,(X x.val).getD 1 undef,(X x.val).getD 2 undef,(X x.val).getD 3 undef]]:=by
  funext x;have:=hl x.val;match h:X x.val with
  | [u0,u1,u2,u3]=>rfl
  | []=>rw [h] at this;simp at this
  | [_]=>rw [h] at this;simp at this
  | [_,_]=>rw [h] at this;simp at this
  | [_,_,_]=>rw [h] at this;simp at this
  | _::_::_::_::_::_=>rw [h] at this;simp at this
 rw [e];refine Rm Fence.wide m trivial rfl hm B w.heap.size a len cap (fun j=>(X j).getD 0 undef) (fun j=>(X j).getD 1 undef) (fun j=>(X j).getD 2 undef) (fun j=>(X j).getD 3 undef) hlen w (World.block_lt_of_cell? w _ hc) (Ag _) hc fun hp=>?_
 obtain⟨b,off,h1,h2,h3⟩:=hI hp;refine⟨b,off,h1,h2,fun j hj=>?_⟩;have h4:=hl j;match h:X j with
 | [u0,u1,u2,u3]=>exact⟨h3 j hj 0 u0 (by rw [h];rfl),h3 j hj 1 u1 (by rw [h];rfl),h3 j hj 2 u2 (by rw [h];rfl),h3 j hj 3 u3 (by rw [h];rfl)⟩
 | []=>rw [h] at h4;simp at h4
 | [_]=>rw [h] at h4;simp at h4
 | [_,_]=>rw [h] at h4;simp at h4
 | [_,_,_]=>rw [h] at h4;simp at h4
 | _::_::_::_::_::_=>rw [h] at h4;simp at h4

theorem Wg (F:Fence) (n:Nat) (h7:F.fn 256) (hro:F.round=none) (hn:1<=n) (l Bs n₀ b off len cap:Nat) (X0 X1 X2:Nat->Value) (hlen:len<=1000000000) (hb:b<n₀) (hBn:Bs<n₀) (J Jx:List Nat->World->Prop)
  (hY:∀ pre x W,J pre W->pre.length<len->x<len->YieldAt F (n - 1) Tryz.prog l #[.int .i64 (x:Nat), .agg #[X0 x,X1 x,X2 x]] W fun e W'=>
   (e = .returned (.bool true)/\J (pre ++ [x]) W'/\Below n₀ W W')\/(e = .returned (.bool false)/\Jx (pre ++ [x]) W'))
  (W:World) (hBs:W.cell? ⟨Bs,0,none⟩=some (.slice (some ⟨b,off,none⟩) len cap)) (hc0:∀ j,j<len->W.cell? ⟨b,off+j*3,none⟩=some (X0 j)) (hc1:∀ j,j<len->W.cell? ⟨b,off+j*3+1,none⟩=some (X1 j)) (hc2:∀ j,j<len->W.cell? ⟨b,off+j*3+2,none⟩=some (X2 j)) (h0:J [] W) :
  CallsIn F n Tryz.prog 256 #[.func (.yield l) #[] #[], .pointer (some ⟨Bs,0,none⟩)] W fun e W'=>(∃ v,e = .returned v)/\
   ((∃ ys,ys=Db len len/\J ys W')\/(∃ pre,(∃ k,k<=len/\pre=Db len k)/\Jx pre W')):=by
 have Hc0:=Lib.hid hc0;have Hc1:=Lib.hid hc1;have Hc2:=Lib.hid hc2;clear hc0 hc1 hc2;refine callsIn_of_wp Tryz.func256 rfl h7 ?_ hro;simp only [Tryz.ntmps256,BP,Ap,Bb,Nat.reduceAdd,Nat.reduceSub,CR,CQ,Dw,CY,Br,Bj]
 gi_wp2
 gi_loopw [3] (fun i wr=>∃ k:Nat,k<=len/\i = .int .i64 ((len:Int) - 1 - k)/\J (Db len k) wr/\Below n₀ W wr)
  (fun i _=>(intOf i+1).toNat)
 case atStart=>exact⟨0,Aj _,by simp,h0,Below.refl _ _⟩
 case round=>
  obtain⟨k,hk,rfl,hJs,hnx⟩:=hrel;by_cases hlt:k<len
  ·obtain⟨m,hmk⟩:∃ m,len=k+1+m:=⟨len - (k+1),by omega⟩;rw [show (len:Int) - 1 - k=(m:Int) by omega];obtain⟨fn,tmps,assign,body,hy,hR⟩:=hY _ m wr hJs (by rw [GP];exact hlt) (by omega);have e0:=(hnx.cell (p:=⟨b,off+m*3,none⟩) hb).trans (Hc0.out m (by omega));have e1:=(hnx.cell (p:=⟨b,off+m*3+1,none⟩) hb).trans (Hc1.out m (by omega));have e2:=(hnx.cell (p:=⟨b,off+m*3+2,none⟩) hb).trans (Hc2.out m (by omega));have eb:=(hnx.cell (p:=⟨Bs,0,none⟩) hBn).trans hBs;have hm:(m:Int)<(len:Int):=by omega
   have Hm:=Lib.hid hmk;clear hmk
   gi_wp2
   refine hR.mono ?_;rintro e W3 (⟨rfl,hJ3,hk3⟩ | ⟨rfl,hJx3⟩)
   ·gi_wp2
    go_roundw
    case rel=>exact⟨k+1,by omega,congrArg (Value.int .i64) (by have:=Hm.out;omega),by rw [Fb,show len - 1 - k=m by have:=Hm.out;omega];exact hJ3,hnx.trans hk3⟩
    case measure=>simp [intOf]
   ·gi_wp2
    refine bodyPost_ret (results_none rfl _ _ _) rfl ?_;exact⟨⟨_,rfl⟩, .inr ⟨_,⟨k+1,by omega,by rw [Fb,show len - 1 - k=m by have:=Hm.out;omega]⟩,hJx3⟩⟩
  ·obtain rfl:k=len:=by omega
   rw [show ((k:Nat):Int) - 1 - k = -1 by omega]
   gi_wp2
   go_end0
   exact⟨⟨_,rfl⟩, .inl ⟨_,rfl,hJs⟩⟩

theorem Wh (F:Fence) (n:Nat) (h7:F.fn 256) (hro:F.round=none) (l Bs:Nat) (a:Option Addr) (cap:Nat) (J:List Nat->World->Prop) (W:World) (hBs:W.cell? ⟨Bs,0,none⟩=some (.slice a 0 cap)) (h0:J [] W) :
  CallsIn F n Tryz.prog 256 #[.func (.yield l) #[] #[], .pointer (some ⟨Bs,0,none⟩)] W fun e W'=>(∃ v,e = .returned v)/\J [] W':=by
 refine callsIn_of_wp Tryz.func256 rfl h7 ?_ hro;simp only [Tryz.ntmps256,BP,Ap,Bb,Nat.reduceAdd,Nat.reduceSub,CR,CQ,Dw,CY,Br,Bj]
 gi_wp2
 gi_loopw [3] (fun i wr=>i = .int .i64 (-1)/\J [] wr) (fun _ _=>0)
 case atStart=>exact⟨rfl,h0⟩
 case round=>
  obtain⟨rfl,hJs⟩:=hrel
  gi_wp2
  go_end0
  exact⟨⟨_,rfl⟩,hJs⟩

theorem Rn (F:Fence) (n:Nat) (h7:F.fn 256) (hro:F.round=none) (hn:1<=n) (Bs n₀:Nat) (a:Option Addr) (len cap:Nat) (X0 X1 X2:Nat->Value) (hlen:len<=1000000000) (w:World) (hBs:Bs<n₀) (hn₀:n₀<=w.heap.size)
  (hc:w.cell? ⟨Bs,0,none⟩=some (.slice a len cap)) (hI:0<len->∃ b off,a=some ⟨b,off,none⟩/\b<n₀/\∀ j,j<len->w.cell? ⟨b,off+j*3,none⟩=some (X0 j)/\w.cell? ⟨b,off+j*3+1,none⟩=some (X1 j)/\w.cell? ⟨b,off+j*3+2,none⟩=some (X2 j)) :
  SeqStopsK F n Tryz.prog 256 #[.pointer (some ⟨Bs,0,none⟩)] (fun x:Fin len=> #[Value.int .i64 x.val, .agg #[X0 x,X1 x,X2 x]]) (Below n₀) (fun ys=>ys.map Fin.val=Db len len) (fun pre=>∃ k,k<=len/\pre.map Fin.val=Db len k) len w:=fun l J Jx W hW _ _ hY h0=>by
 have hc':=(hW.cell (p:=⟨Bs,0,none⟩) (by show Bs<_;omega)).trans hc;rcases Nat.eq_zero_or_pos len with rfl | hp
 ·exact(Wh F n h7 hro l Bs a cap (fun _ W=>J [] W) W hc' h0).mono fun e W' ⟨he,hj⟩=>⟨he, .inl ⟨[],rfl,hj⟩⟩
 ·obtain⟨b,off,rfl,hb,hj⟩:=hI hp;refine(Wg F n h7 hro hn l Bs n₀ b off len cap X0 X1 X2 hlen hb hBs (fun pre W=>∃ q:List (Fin len),q.map Fin.val=pre/\J q W) (fun pre W=>∃ q:List (Fin len),q.map Fin.val=pre/\Jx q W) ?_ W hc' (fun j h=>(hW.cell (p:=⟨b,off+j*3,none⟩) (by show b<_;omega)).trans (hj j h).1) (fun j h=>(hW.cell (p:=⟨b,off+j*3+1,none⟩) (by show b<_;omega)).trans (hj j h).2.1) (fun j h=>(hW.cell (p:=⟨b,off+j*3+2,none⟩) (by show b<_;omega)).trans (hj j h).2.2) ⟨[],rfl,h0⟩).mono ?_
  ·rintro pre x W1 ⟨q,hq,hJ⟩ hlt hx;obtain⟨fn,tmps,assign,body,hy,hR⟩:=hY q ⟨x,hx⟩ W1 hJ (by rw [<-hq,Ac] at hlt;exact hlt);refine⟨fn,tmps,assign,body,hy,hR.mono ?_⟩;rintro e W' (⟨he,h1,h2⟩ | ⟨he,h1⟩)
   ·exact .inl ⟨he,⟨_,by simp [hq],h1⟩,h2⟩
   ·exact .inr ⟨he,⟨_,by simp [hq],h1⟩⟩
  ·rintro e W' ⟨he,⟨ys,rfl,q,hq,hJ⟩ | ⟨pre,⟨k,hk,rfl⟩,q,hq,hJ⟩⟩
   ·exact⟨he, .inl ⟨q,hq,hJ⟩⟩
   ·exact⟨he, .inr ⟨q,⟨k,hk,hq⟩,hJ⟩⟩

theorem bkim_is:IsBack Tryz.prog 256 3:=by
 refine⟨enters_of Tryz.func256 (by kernel_rfl) rfl,fun m hm B a len cap X w hlen hc hl hI=>?_⟩;have e:(fun x:Fin len=>(#[Value.int .i64 x.val, .agg (X x.val).toArray]:Array Value))=fun x:Fin len=> #[Value.int .i64 x.val, .agg #[(X x.val).getD 0 undef,(X x.val).getD 1 undef,(X x.val).getD 2 undef]]:=by
  funext x;have:=hl x.val;match h:X x.val with
  | [u0,u1,u2]=>rfl
  | []=>rw [h] at this;simp at this
  | [_]=>rw [h] at this;simp at this
  | [_,_]=>rw [h] at this;simp at this
  | _::_::_::_::_=>rw [h] at this;simp at this
 rw [e];refine Rn Fence.wide m trivial rfl hm B w.heap.size a len cap (fun j=>(X j).getD 0 undef) (fun j=>(X j).getD 1 undef) (fun j=>(X j).getD 2 undef) hlen w (World.block_lt_of_cell? w _ hc) (Ag _) hc fun hp=>?_
 obtain⟨b,off,h1,h2,h3⟩:=hI hp;refine⟨b,off,h1,h2,fun j hj=>?_⟩;have h4:=hl j;match h:X j with
 | [u0,u1,u2]=>exact⟨h3 j hj 0 u0 (by rw [h];rfl),h3 j hj 1 u1 (by rw [h];rfl),h3 j hj 2 u2 (by rw [h];rfl)⟩
 | []=>rw [h] at h4;simp at h4
 | [_]=>rw [h] at h4;simp at h4
 | [_,_]=>rw [h] at h4;simp at h4
 | _::_::_::_::_=>rw [h] at h4;simp at h4

end
section
open Go.RowKit
def Fq (l:List Img) (z w:Int):Nat->Option Nat
 | 0=>none
 | k+1=>if (l.getD k iz).zone=z/\(l.getD k iz).what=w then some k else Fq l z w k
def GY (l:List Tx) (z w:Int):Nat->Option (Nat × Nat)
 | 0=>none
 | k+1=>match Fq (l.getD k tz).images z w (l.getD k tz).images.length with
  | some i=>some (k,i)
  | none=>GY l z w k
theorem RZ (l:List Img) (z w:Int):∀ k,Du l z w k=(Fq l z w k).map fun i=>l.getD i iz
 | 0=>rfl
 | k+1=>by
  rw [Du,Fq,RZ l z w k];split <;> rfl
theorem Oc (l:List Tx) (z w:Int):∀ k,FJ l z w k=(GY l z w k).map fun p=>((l.getD p.1 tz).images.getD p.2 iz,(l.getD p.1 tz).seq)
 | 0=>rfl
 | k+1=>by
  rw [FJ,GY,RZ];cases Fq (l.getD k tz).images z w (l.getD k tz).images.length with
  | some i=>rfl
  | none=>exact Oc l z w k
theorem LK {l:List Img} {z w:Int}:∀ {k:Nat},Fq l z w k=none->∀ j,j<k->¬((l.getD j iz).zone=z/\(l.getD j iz).what=w)
 | k+1,h,j,hj=>by
  rw [Fq] at h;split at h
  ·cases h
  ·rename_i hc;rcases Nat.lt_succ_iff_lt_or_eq.1 hj with q | rfl
   ·exact LK h j q
   ·exact hc
theorem Nj {l:List Img} {z w:Int} {j:Nat} (h:(l.getD j iz).zone=z/\(l.getD j iz).what=w):∀ (k:Nat),j<k->(∀ i,j<i->i<k->¬((l.getD i iz).zone=z/\(l.getD i iz).what=w))->Fq l z w k=some j
 | k+1,hj,hn=>by
  rw [Fq];by_cases e:j=k
  ·subst e;rw [if_pos h]
  ·rw [if_neg (hn k (by omega) (by omega))];exact Nj h k (by omega) fun i q1 q2=>hn i q1 (by omega)
theorem LL {l:List Img} {z w:Int} {j:Nat}:∀ {k:Nat},Fq l z w k=some j->j<k/\(l.getD j iz).zone=z/\(l.getD j iz).what=w
 | k+1,h=>by
  rw [Fq] at h;split at h
  ·rename_i hc;obtain rfl:=Option.some.inj h;exact⟨by omega,hc⟩
  ·have:=LL h;exact⟨by omega,this.2⟩
theorem Nk {l:List Tx} {z w:Int} {j i:Nat} (h:Fq (l.getD j tz).images z w (l.getD j tz).images.length=some i):∀ (k:Nat),j<k->(∀ q,j<q->q<k->Fq (l.getD q tz).images z w (l.getD q tz).images.length=none)->GY l z w k=some (j,i)
 | k+1,hj,hn=>by
  rw [GY];by_cases e:j=k
  ·subst e;rw [h]
  ·rw [hn k (by omega) (by omega)];exact Nk h k (by omega) fun q q1 q2=>hn q q1 (by omega)
theorem LM {l:List Tx} {z w:Int}:∀ (k:Nat),(∀ q,q<k->Fq (l.getD q tz).images z w (l.getD q tz).images.length=none)->GY l z w k=none
 | 0,_=>rfl
 | k+1,hn=>by
  rw [GY,hn k (by omega)];exact LM k fun q hq=>hn q (by omega)
theorem LN {l:List Tx} {z w:Int} {p:Nat × Nat}:∀ {k:Nat},GY l z w k=some p->p.1<k/\p.2<(l.getD p.1 tz).images.length
 | k+1,h=>by
  rw [GY] at h;split at h
  ·rename_i i hi;obtain rfl:=Option.some.inj h;exact⟨Nat.lt_succ_self k,(LL hi).1⟩
  ·have:=LN h;exact⟨by omega,this.2⟩
theorem Wd (a:Option Addr) (len cap:Nat) (w:World) :
  Calls Tryz.prog 220 #[.slice a len cap] w fun e w'=>e = .returned (.func (.func 255) #[] #[.pointer (some ⟨w.heap.size,0,none⟩)])/\w.alloc (.cells #[.slice a len cap] 34)=w':=by
 go_enter Tryz.func220,Tryz.ntmps220
 go_wp2
 go_ret
 exact tA
theorem PR (a:Option Addr) (len cap:Nat) (w:World) :
  Calls Tryz.prog 221 #[.slice a len cap] w fun e w'=>e = .returned (.func (.func 256) #[] #[.pointer (some ⟨w.heap.size,0,none⟩)])/\w.alloc (.cells #[.slice a len cap] 110)=w':=by
 go_enter Tryz.func221,Tryz.ntmps221
 go_wp2
 go_ret
 exact tA
theorem Oi {P:Program} {f g:FuncId} {t:TypeId} (hg:Wx P f) (h:∀ a len cap w,Calls P f #[.slice a len cap] w fun e w'=>e = .returned (.func (.func g) #[] #[.pointer (some ⟨w.heap.size,0,none⟩)])/\w.alloc (.cells #[.slice a len cap] t)=w') (x:AV) (Hin:List AB) (hx:∀ c u,Rd x c u->∃ a len cap,u = .slice a len cap):ACalls P false f [x] Hin fun r H=>r = .fn g [.bp Hin.length 0]/\H=Hin ++ [.box t [x]]:=by
 refine⟨hg,fun w0 M0 c us hs hr=>?_⟩;have hr0:=hr;simp only [RdL] at hr;obtain⟨u,_,rfl,hu,rfl⟩:=hr;obtain⟨a,len,cap,rfl⟩:=hx _ _ hu;obtain⟨c',e1,e2,e3,e4⟩:=hs.box t hr0 (by simp [Value.oneCell']);refine(h a len cap c.w).mono ?_;rintro e w' ⟨rfl,rfl⟩;refine⟨_,c',_,_,rfl,by rw [e1],tA,e2,e3,?_,fun e=>by cases e⟩;simp only [Rd,RdL];exact⟨_,rfl,_,_,rfl,by simpa only [Rd] using e4,rfl⟩
theorem N4 {sz n:Nat} {get:Nat->List AV} (c:Ctx) (u:Value) (hu:Rd (.sl sz n get) c u):∃ a len cap,u = .slice a len cap:=by
 simp only [Rd] at hu;obtain⟨a,p,h, -⟩:=hu;exact⟨_,_,_,h⟩
theorem Pg (l:List Tx) (z w:Int) (hl:l.length<=1000000) (hi:∀ t∈l,t.images.length<=1000000):Fn Tryz.prog 169 [Ef l,iv z,iv w] fun r=>r=(match GY l z w l.length with | some p=> .tp [iv (p.1:Nat),iv (p.2:Nat), .v (.bool true)] | none=> .tp [iv 0,iv 0, .v (.bool false)]):=by
 refine zT Tryz.func169 rfl ?_;conv=>whnf
 refine(Oi ⟨_,Tryz.func220,rfl,by decide⟩ Wd (Ef l) _ N4).mono ?_;rintro _ _ ⟨rfl,rfl⟩;conv=>whnf
 refine aRF.back tys_ok bktx_is (B:=5) (len:=l.length) (E:=fun i=>Ea (l.getD i ⟨0,0,0, []⟩)) rfl rfl tA (by omega) rfl (by decide) rfl [(4, .rp [iv z]),(5, .rp [iv w])] ⟨.inr ⟨0,_,_,rfl,rfl,rfl,rfl⟩, .inr ⟨1,_,_,rfl,rfl,rfl,rfl⟩,tv⟩ (fun i=>(Fq (l.getD i tz).images z w (l.getD i tz).images.length).isSome) ?_ ?_ ?_
 ·intro i hik hh;have hn:Fq (l.getD i tz).images z w (l.getD i tz).images.length=none:=by simpa using hh
  have him:=hi _ (A7 (d:=tz) hik);obtain⟨t,ht⟩:∃ t,t=l.getD i tz:=⟨_,rfl⟩;rw [show l.getD i ⟨0,0,0, []⟩=t from ht.symm];rw [<-ht] at hn him;refine⟨rfl,?_⟩;conv=>whnf
  refine(Oi ⟨_,Tryz.func221,rfl,by decide⟩ PR (Ed t.images) _ N4).mono ?_;rintro _ _ ⟨rfl,rfl⟩;conv=>whnf
  refine aRF.back tys_ok bkim_is (B:=2) (len:=t.images.length) (E:=fun j=>Ds (t.images.getD j ⟨0,0, []⟩)) rfl rfl tA (by omega) rfl (by decide) rfl [(4, .rp [iv z]),(5, .rp [iv w])] ⟨.inl tA, .inl tA,tv⟩ (fun _=>false) ?_ ?_ ?_
  ·intro j hj _;have hnj:=LK hn j hj;refine⟨rfl,?_⟩;conv=>whnf
   by_cases hz:(t.images.getD j ⟨0,0, []⟩).zone=z
   ·rw [show ((t.images.getD j ⟨0,0, []⟩).zone == z)=true from beq_iff_eq.2 hz];conv=>whnf
    rw [show ((t.images.getD j ⟨0,0, []⟩).what == w)=false from beq_eq_false_iff_ne.2 fun e=>hnj ⟨hz,e⟩];conv=>whnf
   ·rw [show ((t.images.getD j ⟨0,0, []⟩).zone == z)=false from beq_eq_false_iff_ne.2 hz];conv=>whnf
  ·intro j hj h;cases h
  ·intro _;conv=>whnf
 ·intro i hik hh;obtain⟨i0,hi0⟩:=Cp.1 hh;have him:=hi _ (A7 (d:=tz) hik);obtain⟨t,ht⟩:∃ t,t=l.getD i tz:=⟨_,rfl⟩;rw [show l.getD i ⟨0,0,0, []⟩=t from ht.symm];rw [<-ht] at hi0 him;refine⟨rfl,?_⟩;conv=>whnf
  refine(Oi ⟨_,Tryz.func221,rfl,by decide⟩ PR (Ed t.images) _ N4).mono ?_;rintro _ _ ⟨rfl,rfl⟩;conv=>whnf
  refine aRF.back tys_ok bkim_is (B:=8) (len:=t.images.length) (E:=fun j=>Ds (t.images.getD j ⟨0,0, []⟩)) rfl rfl tA (by omega) rfl (by decide) rfl [(4, .rp [iv z]),(5, .rp [iv w])] ⟨.inr ⟨0,_,_,rfl,rfl,rfl,rfl⟩, .inr ⟨1,_,_,rfl,rfl,rfl,rfl⟩,tv⟩ (fun j=>decide ((t.images.getD j iz).zone=z/\(t.images.getD j iz).what=w)) ?_ ?_ ?_
  ·intro j hj hnj;have hnj:=of_decide_eq_false hnj;refine⟨rfl,?_⟩;conv=>whnf
   by_cases hz:(t.images.getD j ⟨0,0, []⟩).zone=z
   ·rw [show ((t.images.getD j ⟨0,0, []⟩).zone == z)=true from beq_iff_eq.2 hz];conv=>whnf
    rw [show ((t.images.getD j ⟨0,0, []⟩).what == w)=false from beq_eq_false_iff_ne.2 fun e=>hnj ⟨hz,e⟩];conv=>whnf
   ·rw [show ((t.images.getD j ⟨0,0, []⟩).zone == z)=false from beq_eq_false_iff_ne.2 hz];conv=>whnf
  ·intro j hj hy;have hy:=of_decide_eq_true hy;refine⟨rfl,?_⟩;conv=>whnf
   rw [show ((t.images.getD j ⟨0,0, []⟩).zone == z)=true from beq_iff_eq.2 hy.1];conv=>whnf
   rw [show ((t.images.getD j ⟨0,0, []⟩).what == w)=true from beq_iff_eq.2 hy.2];refine⟨by simp,rfl,fun hord=>?_⟩;refine⟨by simp,rfl,fun hord2=>?_⟩;conv=>whnf
   have hJ:Fq (l.getD i tz).images z w (l.getD i tz).images.length=some j:=by
    rw [<-ht];exact Nj hy _ hj fun q q1 q2=>of_decide_eq_false (hord q q1 q2)
   rw [Nk hJ l.length hik fun q q1 q2=>by simpa using hord2 q q1 q2];exact⟨_,ri,rfl⟩
  ·intro hno;exfalso;have:=LL hi0;exact of_decide_eq_false (hno i0 this.1) this.2
 ·intro hh;have hn:=LM (l:=l) (z:=z) (w:=w) l.length fun q hq=>by simpa using hh q hq
  conv=>whnf
  rw [hn];exact⟨_,ri,rfl⟩
def flatY:AV->Bool
 | .v _=>true
 | .top=>true
 | _=>false
def flatP:AV->Bool
 | .v _=>true
 | .ow _ _=>true
 | .sl _ 0 _=>true
 | _=>false
def flatQ:AV->Bool
 | .v _=>true
 | .ow _ _=>true
 | .ag l=>l.all flatP
 | _=>false
def flatS:List AB->Bool
 | []=>true
 | .row _ _ es::r=>es.flatten.all flatY&&flatS r
 | _::_=>false
theorem P4 {c c':Ctx}:∀ {l:List AV} {us:List Value},l.all flatY=true->RdL l c us->RdL l c' us
 | [],us,_,h=>by simpa only [RdL] using h
 | x::l,us,hf,h=>by
  rw [AT,Ad] at hf;simp only [RdL] at h |-
  obtain⟨u,vs,rfl,h1,h2⟩:=h;refine⟨u,vs,rfl,?_,P4 hf.2 h2⟩;cases x <;> simp [flatY] at hf
  ·simp only [Rd]
  ·simpa only [Rd] using h1
theorem LH {c c':Ctx} (hr:c'.rho=c.rho) (hl:c'.len=c.len) (hd:c'.dom=c.dom) {x:AV} (hx:flatP x=true) {u:Value} (h:Rd x c u):Rd x c' u:=by
 cases x with
 | v y=>simpa only [Rd] using h
 | ow k n=>
  simp only [Rd] at h |-
  rw [hr,hl,hd];exact h
 | sl sz n get=>
  cases n with
  | zero=>
   simp only [Rd] at h |-
   obtain⟨a,k,h1,h2,h3, -⟩:=h;exact⟨a,k,h1,h2,h3, .inl trivial⟩
  | succ n=>cases hx
 | _=>simp [flatP] at hx
theorem VJ {c c':Ctx} (hr:c'.rho=c.rho) (hl:c'.len=c.len) (hd:c'.dom=c.dom) {x:AV} (hx:flatQ x=true) {u:Value} (h:Rd x c u):Rd x c' u:=by
 cases x with
 | v y=>exact LH hr hl hd rfl h
 | ow k n=>exact LH hr hl hd rfl h
 | ag l=>
  simp only [Rd] at h |-
  obtain⟨xs,rfl,hxs⟩:=h;refine⟨xs,rfl,?_⟩;simp only [flatQ] at hx;induction l generalizing xs with
  | nil=>simpa only [RdL] using hxs
  | cons y l ih=>
   rw [AT,Ad] at hx;simp only [RdL] at hxs |-
   obtain⟨u,us,rfl,h1,h2⟩:=hxs;exact⟨u,us,rfl,LH hr hl hd hx.1 h1,ih hx.2 us h2⟩
 | _=>simp [flatQ] at hx
theorem flatS_mem:∀ {R:List AB} {y:AB},flatS R=true->y∈R->∃ t sz es,y = .row t sz es/\es.flatten.all flatY=true
 | .row t sz es::r,y,h,hy=>by
  rw [flatS,Ad] at h;rcases A_.1 hy with rfl | hy
  ·exact⟨t,sz,es,rfl,h.1⟩
  ·exact flatS_mem h.2 hy
theorem ACalls.fnO {P:Program} {q:Bool} {f:FuncId} {args:List AV} {K:AV->List AB->Prop} (h:ACalls P q f args [] K) (hK:∀ r R,K r R->∀ y∈R,∃ t sz es,y = .row t sz es):FnO P f args K:=by
 refine⟨h.go,fun c0 us hg hd hM hr=>?_⟩;let ce:Ctx:={ c0 with base:=0 };have hce:Ext c0 ce:=⟨rfl,rfl,rfl,Ag _,fun _ _ h=>⟨h,rfl⟩,Ag _,fun _ _=>Ag _,fun _ _ _=>rfl,fun _ _ _ h=>h⟩;have hHS:HS (Fl.all c0.w hg) c0.M ce []:=⟨zn _ hg,rfl,hd,fun _ _=>Iff.rfl,hM,by simp,by simp,by simp⟩;refine(h.calls (Fl.all c0.w hg) c0.M ce us hHS (RdL.ext _ hce hr)).mono ?_;rintro e w' ⟨v,c',r,H',rfl,q1,q2,q3,q4,q5, -⟩;exact⟨v,r,c',H',rfl,q2,q1,q3,q5,hK r H' q2⟩
theorem FnO.lendC {P:Program} {f:FuncId} {args args':List AV} {H:List AB} {K:AV->List AB->Prop} {q:Bool} {k:AV->List AB->Prop} (h:FnO P f args' K) (hs:sealA args H fun a _=>a=args') (hk:∀ r R,K r R->∃ R',ConvH R R'/\(flatQ r=true/\flatS R'=true)/\appK H R' 0 fun d H=>Dm (r.shift d) fun r=>k r H):ACalls P q f args H k:=by
 refine⟨h.go,fun w0 M0 c us hs0 hr=>?_⟩;obtain⟨l',H',c',rfl,h2,h3,h4,h5,_⟩:=sealA_sound hs0 hr hs;have hglob:globOk c'.closed.w:=h3.glob;have hc:=h.calls c'.closed us hglob rfl h3.lt h5;have ew:c'.closed.w=c.w:=h2
 suffices hh:Calls P f us.toArray c'.closed.w fun e w'=>∃ v c1 r H1,e = .returned v/\c1.w=w'/\k r H1/\HS w0 M0 c1 H1/\Ext c c1/\Rd r c1 v/\(q=true->Old c.w w') by
  rw [ew] at hh;exact hh
 refine hc.mono ?_;rintro e w' ⟨v,r,c1,R1,rfl,q1,rfl,q21,q31, -⟩;obtain⟨R,hconv,⟨f1,f2⟩,hkk⟩:=hk r R1 q1;obtain⟨c2,ew2,q2,x2⟩:=hconv _ _ _ q21;have q3:Rd r c2 v:=Rd.ext _ x2 q31;have q4:∀ y∈R,∃ t sz es,y = .row t sz es:=fun y hy=>by
  obtain⟨t,sz,es,e, -⟩:=flatS_mem f2 hy;exact⟨t,sz,es,e⟩
 -- the same memory;what the caller holds is not read
 obtain⟨c3,e3⟩:∃ c3:Ctx,c3={ c2 with M:=fun b=>c2.M b\/c.M b }:=⟨_,rfl⟩;have hsub:∀ b,b<c.w.heap.size->c'.M b->c.M b:=fun b hb hm=>by
  by_cases hx:c.M b
  ·exact hx
  ·exact absurd hm (h4.keep b hb hx).1
 have hlow:=q2.low;have q2':HS (Fl.all c.w hs0.glob) c.M c3 R:=by
  subst e3;refine⟨⟨?_,?_,?_,?_,?_⟩,q2.base,q2.dom,fun b hb=>?_,fun b hb=>?_,fun i y hi=>?_,fun i y g hi hl ho=>?_,q2.dis⟩
  ·have:=hlow.os;rw [show (Fl.all c'.closed.w hglob).w=c.w from ew] at this;exact this
  ·have:=hlow.tape;rw [show (Fl.all c'.closed.w hglob).w=c.w from ew] at this;exact this
  ·have:=hlow.output;rw [show (Fl.all c'.closed.w hglob).w=c.w from ew] at this;exact this
  ·have:=hlow.size;rw [show (Fl.all c'.closed.w hglob).w=c.w from ew] at this;exact this
  ·intro b hb;have:=hlow.block b (by show b<c'.closed.w.heap.size;rw [ew];exact hb);rw [show (Fl.all c'.closed.w hglob).w=c.w from ew] at this;exact this
  ·have hb':b<c.w.heap.size:=hb;have:=q2.foreign b (by show b<c'.closed.w.heap.size;rw [ew];exact hb');exact⟨fun hx=>hx.elim (fun hx=>hsub b hb' (this.1 hx)) (fun hx=>hx),fun hx=> .inr hx⟩
  ·have hsz:c.w.heap.size<=c2.w.heap.size:=by
    have:=hlow.size;rw [show (Fl.all c'.closed.w hglob).w=c.w from ew] at this;exact this
   rcases hb with hb | hb
   ·exact q2.lt b hb
   ·exact Aq (hs0.lt b hb) hsz
  ·obtain⟨t,sz,es,rfl,hfl⟩:=flatS_mem f2 (Dy hi);obtain⟨a1,a2,a3,xs,a4,a5,a6⟩:=q2.blk i _ hi;exact⟨a1,a2,a3,xs,a4,P4 hfl a5,a6⟩
  ·have:=q2.own i y g hi hl ho;refine⟨.inl this.1,fun hx=>this.2 ?_⟩;show g<c'.closed.w.heap.size;rw [ew];exact hx
 have q3':Rd r c3 v:=VJ (by rw [e3]) (by rw [e3]) (by rw [e3]) f1 q3;have q5:c3.w=c2.w:=by rw [e3]
 obtain⟨p1,p2⟩:=hs0.beside (c':=c3) q2' q4;have h1:=BG (appK_iff hkk);rw [Az,<-hs0.dom] at h1;exact⟨v,c.beside c3,_,_,rfl,by show c3.w=_;rw [q5,ew2],h1,p1,p2,Rd.shift r q3',fun _=>by have:=q2'.low.below.old;rw [q5,ew2] at this;exact this⟩
theorem SubL.tops:∀ (l:List AV),SubL l (List.replicate l.length .top)
 | []=>trivial
 | x::l=>⟨fun _ _ _=>by simp [Rd],SubL.tops l⟩
def Gk (x:Gt) (addr stamp:Int):Option (List UInt8):=match BO x addr with
 | some s=>if s.stamp=stamp then some s.pay else none
 | none=>none
theorem U_ {x:Gt} {addr stamp:Int} {b:List UInt8} (h:Gk x addr stamp=some b):b.length<=x.bytes.length:=by
 unfold Gk BO at h;split at h
 ·rename_i s hs;split at hs
  ·obtain rfl:=Option.some.inj hs;split at h
   ·obtain rfl:=Option.some.inj h;simp [Cz];omega
   ·cases h
  ·cases hs
 ·cases h
theorem FD (b:Bool):∀ (c:Ctx) (v:Value),Rd (.tp [.v (.slice none 0 0), .v (.bool b)]) c v->Rd (.tp [bA [], .v (.bool b)]) c v:=BQ ⟨Bt 1 _,ri,tv⟩
theorem Sa (x:Gt) (addr stamp:Int) (hl:x.bytes.length<=100000):Fn Tryz.prog 209 [.ag (DB x),iv addr,iv stamp] fun r=>r = .tp [bA ((Gk x addr stamp).getD []), .v (.bool (Gk x addr stamp).isSome)]:=by
 have ho:=U0 x.bytes hl;by_cases h0:x.err=0;rotate_left 1
 ·have e:Gk x addr stamp=none:=by
   unfold Gk BO;rw [if_neg (fun h=>h0 h.1)]
  rw [e];refine zT Tryz.func209 rfl ?_;conv=>whnf
  rw [show (x.err != 0)=true from bne_iff_ne.2 h0];exact⟨_,FD false,rfl⟩
 by_cases h1:CT x.bytes=0;rotate_left 1
 ·have e:Gk x addr stamp=none:=by
   unfold Gk BO;rw [if_neg (fun h=>h1 h.2.1)]
  rw [e];rw [if_neg h1] at ho;refine zT Tryz.func209 rfl ?_;conv=>whnf
  rw [show (x.err != 0)=false from bne_eq_false_iff_eq.2 h0];conv=>whnf
  refine z_ ho ?_;conv=>whnf
  rw [show (CT x.bytes != 0)=true from bne_iff_ne.2 h1];exact⟨_,FD false,rfl⟩
 rw [if_pos h1,h1] at ho;by_cases h2:C9 x.bytes=addr;rotate_left 1
 ·have e:Gk x addr stamp=none:=by
   unfold Gk BO;rw [if_neg (fun h=>h2 h.2.2)]
  rw [e];refine zT Tryz.func209 rfl ?_;conv=>whnf
  rw [show (x.err != 0)=false from bne_eq_false_iff_eq.2 h0];conv=>whnf
  refine z_ ho ?_;conv=>whnf
  rw [show ((⟨C9 x.bytes,Ch x.bytes,Cz x.bytes⟩:Sec).addr != addr)=true from bne_iff_ne.2 h2];exact⟨_,FD false,rfl⟩
 have es:BO x addr=some ⟨C9 x.bytes,Ch x.bytes,Cz x.bytes⟩:=by unfold BO;rw [if_pos ⟨h0,h1,h2⟩]
 by_cases h3:Ch x.bytes=stamp
 ·have e:Gk x addr stamp=some (Cz x.bytes):=by unfold Gk;rw [es];simp only;rw [if_pos h3]
  rw [e];refine zT Tryz.func209 rfl ?_;conv=>whnf
  rw [show (x.err != 0)=false from bne_eq_false_iff_eq.2 h0];conv=>whnf
  refine z_ ho ?_;conv=>whnf
  rw [show ((⟨C9 x.bytes,Ch x.bytes,Cz x.bytes⟩:Sec).addr != addr)=false from bne_eq_false_iff_eq.2 h2];conv=>whnf
  rw [show ((⟨C9 x.bytes,Ch x.bytes,Cz x.bytes⟩:Sec).stamp != stamp)=false from bne_eq_false_iff_eq.2 h3];exact⟨_,ri,rfl⟩
 ·have e:Gk x addr stamp=none:=by unfold Gk;rw [es];simp only;rw [if_neg h3]
  rw [e];refine zT Tryz.func209 rfl ?_;conv=>whnf
  rw [show (x.err != 0)=false from bne_eq_false_iff_eq.2 h0];conv=>whnf
  refine z_ ho ?_;conv=>whnf
  rw [show ((⟨C9 x.bytes,Ch x.bytes,Cz x.bytes⟩:Sec).addr != addr)=false from bne_eq_false_iff_eq.2 h2];conv=>whnf
  rw [show ((⟨C9 x.bytes,Ch x.bytes,Cz x.bytes⟩:Sec).stamp != stamp)=true from bne_iff_ne.2 h3];exact⟨_,FD false,rfl⟩
theorem Rk (x:Gt) (addr:Int) (e:Ent):DQ x addr e=match Gk x addr e.stamp with
  | some b=>if b.length=8/\((CS b:Nat):Int)=e.sum then some b else none
  | none=>none:=by
 unfold DQ Gk;cases BO x addr with
 | none=>rfl
 | some s=>
  simp only;by_cases h:s.stamp=e.stamp
  ·rw [if_pos h];simp only;by_cases h2:s.pay.length=8/\((CS s.pay:Nat):Int)=e.sum
   ·rw [if_pos h2,if_pos ⟨h,h2⟩]
   ·rw [if_neg h2,if_neg (fun q=>h2 q.2)]
  ·rw [if_neg h,if_neg (fun q=>h q.1)]
theorem T1 (x:Gt) (addr:Int) (e:Ent) (hl:x.bytes.length<=100000):Fn Tryz.prog 171 [.ag (DB x),iv addr, .ag (CW e)] fun r=>r = .tp [bA ((DQ x addr e).getD []), .v (.bool (DQ x addr e).isSome)]:=by
 have hp:=Sa x addr e.stamp hl;rw [Rk];cases hq:Gk x addr e.stamp with
 | none=>
  rw [hq] at hp;refine zT Tryz.func171 rfl ?_;conv=>whnf
  refine z_ hp ?_;conv=>whnf
  apply zV (0) tys_ok mixed (.o [0,1,2,3,4,5,6,7,8,10,11,9,12,13] .fin) (by kernel_rfl);conv=>whnf
  (skip)
  exact⟨_,FD false,rfl⟩
 | some b=>
  rw [hq] at hp;replace hp:Fn Tryz.prog 209 [.ag (DB x),iv addr,iv e.stamp] fun r=>r = .tp [bA b, .v (.bool true)]:=hp
  have hs:=IG b;simp only;by_cases h8:b.length=8;rotate_left 1
  ·rw [if_neg (fun h=>h8 h.1)];refine zT Tryz.func171 rfl ?_;conv=>whnf
   refine z_ hp ?_;conv=>whnf
   apply zV (0) tys_ok mixed (.o [0,1,2,3,4,5,6,7,8,10,11,9,12,13] .fin) (by kernel_rfl);conv=>whnf
   (rw [show ((b.length:Int) != 8)=true from bne_iff_ne.2 (by omega)])
   conv=>whnf
   all_goals
    exact⟨_,FD false,rfl⟩
  by_cases hE:((CS b:Nat):Int)=e.sum
  ·rw [if_pos ⟨h8,hE⟩];refine zT Tryz.func171 rfl ?_;conv=>whnf
   refine z_ hp ?_;conv=>whnf
   apply zV (0) tys_ok mixed (.o [0,1,2,3,4,5,6,7,8,10,11,9,12,13] .fin) (by kernel_rfl);conv=>whnf
   (rw [show ((b.length:Int) != 8)=false from bne_eq_false_iff_eq.2 (by omega)];(conv=>whnf);refine z_ hs ?_)
   conv=>whnf
   all_goals
    rw [show (((CS b:Nat):Int) != e.sum)=false from bne_eq_false_iff_eq.2 hE];exact⟨_,ri,rfl⟩
  ·rw [if_neg (fun h=>hE h.2)];refine zT Tryz.func171 rfl ?_;conv=>whnf
   refine z_ hp ?_;conv=>whnf
   apply zV (0) tys_ok mixed (.o [0,1,2,3,4,5,6,7,8,10,11,9,12,13] .fin) (by kernel_rfl);conv=>whnf
   (rw [show ((b.length:Int) != 8)=false from bne_eq_false_iff_eq.2 (by omega)];(conv=>whnf);refine z_ hs ?_)
   conv=>whnf
   all_goals
    rw [show (((CS b:Nat):Int) != e.sum)=true from bne_iff_ne.2 hE];exact⟨_,FD false,rfl⟩
theorem KR (g:Geo) (x:Gt) (addr root:Int):CN g x addr root=match Gk x addr root with
  | some b=>BZ g b
  | none=>none:=by
 unfold CN Gk;cases BO x addr with
 | none=>rfl
 | some s=>
  simp only;by_cases h:s.stamp=root
  ·rw [if_pos h,if_pos h]
  ·rw [if_neg h,if_neg h]
theorem Qe {g:Geo} {b:List UInt8} (hg:Bp g=true):(DH g b=0↔(BZ g b).isSome=true):=by
 unfold DH;rw [hg,if_neg (by decide)];split <;> simp_all
theorem Tw (g:Geo) (x:Gt) (addr root:Int) (hg:Bp g=true) (hl:x.bytes.length<=100000):Fn Tryz.prog 139 [.ag (AZ g), .ag (DB x),iv addr,iv root] fun r=>r = .tp [.ag [BM ((CN g x addr root).getD [])], .v (.bool (CN g x addr root).isSome)]:=by
 have hp:=Sa x addr root hl;have hG:Fn Tryz.prog 51 [.ag (AZ g)] fun r=>r = .v (Ft (Bp g)):=DC g.z g.d g.sp g.sl g.an
 rw [hg] at hG;rw [KR];cases hq:Gk x addr root with
 | none=>
  rw [hq] at hp;refine zT Tryz.func139 rfl ?_;conv=>whnf
  refine z_ hp ?_;exact⟨_,BQ (m:= [.ag [BM []], .v (.bool false)]) ⟨Bi ⟨Bt 3 _,tv⟩,ri,tv⟩,rfl⟩
 | some b=>
  rw [hq] at hp;replace hp:Fn Tryz.prog 209 [.ag (DB x),iv addr,iv root] fun r=>r = .tp [bA b, .v (.bool true)]:=hp
  have hbl:=U_ hq;have hr:=KO g b (by omega);rw [hg,if_pos rfl] at hr;have hz:=Qe (b:=b) hg;simp only;refine zT Tryz.func139 rfl ?_;conv=>whnf
  refine z_ hp ?_;conv=>whnf
  refine z_ hG ?_;conv=>whnf
  refine z_ hr ?_;conv=>whnf
  cases hR:BZ g b with
  | none=>
   rw [hR] at hz;rw [show (DH g b == 0)=false from beq_eq_false_iff_ne.2 fun e=>by have:=hz.1 e;cases this];exact⟨_,ri,rfl⟩
  | some t=>
   rw [hR] at hz;rw [show (DH g b == 0)=true from beq_iff_eq.2 (hz.2 rfl)];exact⟨_,ri,rfl⟩
theorem Vd (a:An) (l:List Tx) (z:Int) (hz:0<=z/\z<a.homes.length) (hl:l.length<=1000000) (hi:∀ t∈l,t.images.length<=1000000):Fn Tryz.prog 136 [.ag (EH a),Ef l,iv z] fun r=>r = .tp [iv (EA a l z),iv 0]:=by
 have hf:=Pg l z 255 hl hi;have e:Da l z 255=_:=Oc l z 255 l.length;unfold EA;rw [e];cases hA:GY l z 255 l.length with
 | none=>
  rw [hA] at hf;refine zT Tryz.func136 rfl ?_;conv=>whnf
  rw [show decide (z<0)=false from decide_eq_false (by omega)];conv=>whnf
  rw [show decide (z>=(a.homes.length:Nat))=false from decide_eq_false (by omega)];conv=>whnf
  refine z_ hf ?_;refine⟨⟨by omega,by omega⟩,?_⟩;exact⟨_,ri,rfl⟩
 | some p=>
  obtain⟨k,i⟩:=p;rw [hA] at hf;obtain⟨hk,hi2⟩:=LN hA;simp only at hk hi2;replace hf:Fn Tryz.prog 169 [Ef l,iv z,iv 255] fun r=>r = .tp [iv (k:Nat),iv (i:Nat), .v (.bool true)]:=hf
  have ixA:(0:Int)<=(k:Nat)/\((k:Nat):Int)<(l.length:Nat):=by omega
  refine zT Tryz.func136 rfl ?_;conv=>whnf
  rw [show decide (z<0)=false from decide_eq_false (by omega)];conv=>whnf
  rw [show decide (z>=(a.homes.length:Nat))=false from decide_eq_false (by omega)];conv=>whnf
  refine z_ hf ?_;refine⟨ixA,?_⟩;exact⟨_,ri,rfl⟩
theorem ACalls.lendBox2 {P:Program} {q:Bool} {f:FuncId} {x:AV} {H:List AB} {K:AV->List AB->Prop} (j k:Nat) {t t':TypeId} {sz':Nat} {ar ar2 cs cs2:List AV} {es':List (List AV)} (hj:H[j]? = some (.box t cs)) (hk:H[k]? = some (.row t' sz' es'))
  (he:cs.map (AV.slIn k es'.length (.sl sz' es'.length fun i=>es'.getD i []))=cs2) (ha:ar.map (AV.slIn k es'.length (.sl sz' es'.length fun i=>es'.getD i []))=ar2) (hc:ACalls P q f [x, .ag ar2] ((H.set k .dead).set j (.box t cs2)) K):ACalls P q f [x, .ag ar] H K:=by
 refine⟨hc.go,fun w0 M0 c us hs hr=>?_⟩;subst he;subst ha;have hjk:j≠k:=by rintro rfl;rw [hj] at hk;cases hk
 obtain⟨c1,e1,s1,x1,r1⟩:=hs.freeze hk;have hj1:(H.set k .dead)[j]? = some (.box t cs):=by rw [AC (Ne.symm hjk)];exact hj
 have h8:∀ (l:List AV) (us:List Value),RdL l c us->RdL (l.map (AV.slIn k es'.length (.sl sz' es'.length fun i=>es'.getD i []))) c1 us:=by
  intro l;induction l with
  | nil=>intro us h;simp only [RdL] at h;subst h;simp [RdL]
  | cons x l ih=>
   intro us h;simp only [RdL] at h;obtain⟨u,vs,rfl,a1,a2⟩:=h;simp only [A9,RdL];refine⟨u,vs,rfl,?_,ih vs a2⟩;unfold AV.slIn;split
   ·rename_i i n;split
    ·rename_i hik;subst hik;split
     ·grind
     ·simp [Rd]
    ·exact Rd.ext _ x1 a1
   ·exact Rd.ext _ x1 a1
 have s2:HS w0 M0 c1 ((H.set k .dead).set j (.box t (cs.map (AV.slIn k es'.length (.sl sz' es'.length fun i=>es'.getD i []))))):=by
  refine s1.recell hj1 rfl ?_;rintro⟨g,xs,h1,h2,_,h4⟩;obtain⟨g0,ys,q1,q2,q3,_⟩:=hs.blk j _ hj;have hg:=x1.box j _ (hs.klt hj) q1;rw [h1] at hg;injection hg with hg
  injection hg with hg
  injection hg with hg
  subst hg;rw [e1,q2] at h2;injection h2 with h2
  have hxy:ys.toArray=xs.toArray:=by injection h2
  have hxy:ys=xs:=by simpa using hxy
  subst hxy;exact⟨g,ys,h1,by rw [e1];exact q2,h8 _ _ q3,h4⟩
 have hr2:RdL [x, .ag (ar.map (AV.slIn k es'.length (.sl sz' es'.length fun i=>es'.getD i [])))] c1 us:=by
  simp only [RdL] at hr;obtain⟨u1,_,rfl,p1,u2,_,rfl,p2,rfl⟩:=hr;simp only [Rd] at p2;obtain⟨zs,rfl,p3⟩:=p2;simp only [RdL];exact⟨u1,_,rfl,Rd.ext _ x1 p1,_,_,rfl,by simp only [Rd];exact⟨zs,rfl,h8 _ _ p3⟩,rfl⟩
 have:=hc.calls w0 M0 c1 us s2 hr2;rw [e1] at this;refine this.mono ?_;rintro e w' ⟨v,c',r,H2,rfl,rfl,q1,q2,q3,q4,q5⟩;exact⟨v,c',r,H2,rfl,rfl,q1,q2,x1.trans q3,q4,q5⟩
theorem JU {a s:Int} {p:List UInt8} (h:p.length<=96):(CA a s p).length<=200:=by rw [EN];omega
theorem Gw.puts {n:Int} {d:Dk} {F:Int->List UInt8} {W l:List Wr} (h:Gw n d F W) (hl:∀ w∈l,(0<=w.addr/\w.addr<n)/\w.bytes.length<=200) (hn:W.length+l.length<=2000):∀ k:Nat,k<=l.length->(d.writes (l.take k)).2.1=k/\(d.writes (l.take k)).2.2=false/\Gw n (d.writes (l.take k)).1 F (W ++ l.take k)
 | 0,_=>⟨rfl,rfl,by rw [List.take_zero,AL];exact h⟩
 | k+1,hk=>by
  obtain⟨q1,q2,q3⟩:=Gw.puts h hl hn k (by omega);have hx:=Kz (d:=d) (l:=l) (k:=k) (by omega) q2;have hm:=hl _ (A7 (d:=(⟨0, []⟩:Wr)) (show k<l.length by omega));obtain⟨e0,hw⟩:=q3.write (by rw [Ai,At];omega) hm.1.1 hm.1.2 hm.2;rw [hx,e0];refine⟨by simp only [q1];rfl,rfl,?_⟩;have e:l.take (k+1)=l.take k ++ [l.getD k ⟨0, []⟩]:=by
   rw [Bg,Ae (by omega),Aa,Ae (by omega)];try rfl
  rw [e,<-A6];exact hw
theorem Gd.putAll {n:Int} {d:Dk} {F:Int->List UInt8} {l:List Wr} (h:Gd n d F) (hl:∀ w∈l,(0<=w.addr/\w.addr<n)/\w.bytes.length<=200) (hn:l.length<=2000):(d.writes l).2.1=l.length/\(d.putAll l).2.1=l.length/\(d.putAll l).2.2=false/\Gd n (d.putAll l).1 (Ry F l):=by
 obtain⟨q1,q2,q3⟩:=Gw.puts h hl (by simpa using hn) l.length (Ag _);rw [Aw] at q1 q2 q3;have e:=Ex q2;rw [if_neg (by rw [q3.left];decide)] at e;rw [e];exact⟨q1,q1,rfl,by simpa using q3.flush⟩
theorem PV {g:Geo} {a:An} (hg:Bp g=true) (ha:Bu g a=true):∀ w∈Bd g a,(0<=w.addr/\w.addr<A4 g)/\w.bytes.length<=200:=fun w hw=>by
 obtain⟨g1,g2,g3,g4,g5⟩:=As.1 hg;have hcb:=DZ hg;obtain⟨i,hi,rfl⟩:=Ol hw;exact⟨⟨by show 0<=((i:Nat):Int);omega,by show ((i:Nat):Int)<A4 g;omega⟩,Ji hg ha _⟩
@[reducible] def rwZ (g:Geo) (s:Stt) (d:Dk):List AB:= [.box 83 (Y_ g (.bp 1 0) s 0), .box 85 (I3 (.ow 2 d.cells.length) (.ow 6 d.cache.length) d.reqs d.left), .row 128 3 (d.cells.map BF), .dead, .dead, .dead, .row 134 2 (d.cache.map Eu)]
theorem R7 {k:Nat} {m:Nat} {x:AV} {n:Nat} (h:n=m):AV.slIn k m x (.ow k n)=x:=by
 subst h;simp [AV.slIn]

def HW (d:Dk) (a:Int) (c:Cel):Dk:={ d with cells:=d.cells.set a.toNat c }
def Dk.fault (d:Dk) (kind a frm bit bits:Int):Dk × Int:=
 if C5 a 0 ((d.cells.length:Int) - 1)=false then (d,1) else if 0<d.cache.length then (d,9) else
 let c:=d.cells.getD a.toNat cz
 if kind=11 then (HW d a { c with state:=if c.state=0 then 1 else c.state },0)
 else if kind=12 then (HW d a { c with state:=2 },0)
 else if kind=13 then (if bit<0\/bits<0 then (d,1) else (HW d a { c with bytes:=XM c.bytes bit bits },0))
 else if kind=14 then (HW d a { c with bytes:=c.old },0)
 else if kind=15 then (if C5 frm 0 ((d.cells.length:Int) - 1)=false then (d,1) else (HW d a { c with bytes:=(d.cells.getD frm.toNat cz).bytes },0))
 else (d,1)
structure Q4 where
 a:Int
 b:Int
 c:Int
 d:Int
theorem XB {d:Dk} {a:Int} {c:Cel} (h:DkOk d) (hc:(0<=c.state/\c.state<=2)/\c.bytes.length<=200/\c.old.length<=200):DkOk (HW d a c):=by
 refine⟨by simpa [HW] using h.n,h.m,h.r,h.l,fun x hx=>?_,fun w hw=>by simpa [HW] using h.w w hw⟩;rcases Cj hx with hx | rfl
 ·exact h.c x hx
 ·exact hc
theorem RW {d:Dk} (h:DkOk d) (i:Nat):(0<=(d.cells.getD i cz).state/\(d.cells.getD i cz).state<=2)/\(d.cells.getD i cz).bytes.length<=200/\(d.cells.getD i cz).old.length<=200:=by
 by_cases hi:i<d.cells.length
 ·exact h.c _ (A7 (d:=cz) hi)
 ·rw [Aa,AI (by omega)];exact⟨⟨Cy _,show (0:Int)<=2 by decide⟩,by simp [cz],by simp [cz]⟩
theorem DkOk.fault {d:Dk} (h:DkOk d) (kind a frm bit bits:Int):DkOk (d.fault kind a frm bit bits).1/\(d.fault kind a frm bit bits).1.cells.length=d.cells.length/\(d.fault kind a frm bit bits).1.cache=d.cache/\(d.fault kind a frm bit bits).1.left=d.left/\(d.fault kind a frm bit bits).1.reqs=d.reqs:=by
 have hc:=RW h a.toNat;have hf:=RW h frm.toNat;have go:∀ c:Cel,((0<=c.state/\c.state<=2)/\c.bytes.length<=200/\c.old.length<=200)->DkOk (HW d a c)/\(HW d a c).cells.length=d.cells.length/\(HW d a c).cache=d.cache/\(HW d a c).left=d.left/\(HW d a c).reqs=d.reqs:=fun c h1=>⟨XB h h1,by simp [HW],rfl,rfl,rfl⟩
 have st:DkOk d/\d.cells.length=d.cells.length/\d.cache=d.cache/\d.left=d.left/\d.reqs=d.reqs:=⟨h,rfl,rfl,rfl,rfl⟩;unfold Dk.fault;split
 ·exact st
 ·split
  ·exact st
  ·simp only;split
   ·refine go _ ⟨?_,hc.2⟩;simp only;split
    ·exact⟨by decide,by decide⟩
    ·exact hc.1
   ·split
    ·exact go _ ⟨⟨show (0:Int)<=2 by decide,Cy 2⟩,hc.2⟩
    ·split
     ·split
      ·exact st
      ·exact go _ ⟨hc.1,by simp only [NZ];exact hc.2.1,hc.2.2⟩
     ·split
      ·exact go _ ⟨hc.1,hc.2.2,hc.2.2⟩
      ·split
       ·split
        ·exact st
        ·exact go _ ⟨hc.1,hf.2.1,hc.2.2⟩
       ·exact st
end
section
open Go.RowKit Go.ChangeShapes Go.WideShapes Go.ChangeAt Go.Deep
section
variable {H:Type} {enc:TypeId × Value->H} {w:World}
end
end
section
open Go.RowKit
structure Q2 where
 a:Int
 b:Int
section
open Go.ChangeShapes Go.WideShapes Go.ChangeAt Go.Deep
variable {H:Type} {enc:TypeId × Value->H} {w:World}
end
structure Md where
 a:An
 l:List Tx
 F:Int->List UInt8
 m:List (List UInt8)
def ZU (g:Geo) (M:Md) (lba:Int) (b:List UInt8) (M':Md):Prop:=
 (C7 M.l+4<=g.sl/\(G5 g (Bl M.a M.l) M.F (lba.tdiv g.d)).isSome=true/\∃ W:List Wr,(∀ w∈W,(g.an<=w.addr/\w.addr<g.an+2*g.sl/\C9 w.bytes=w.addr)/\w.bytes.length<=200)/\M'=⟨M.a,M.l ++ [Hx g M.a M.l M.F lba b],Ry M.F W,M.m.set lba.toNat b⟩)
 \/((g.sl<C7 M.l+4\/G5 g (Bl M.a M.l) M.F (lba.tdiv g.d)=none)/\M'=M)
def ZM (g:Geo) (M:Md):Md:=match M.l with
 | []=>M
 | x::r=>⟨O5 g M.a x,r,Uw g M.a x M.F,M.m⟩
def Ki (n:Int) (F:Int->List UInt8) (q:Int):List UInt8:=if -n<=q/\q<n then F q else []
def GW (g:Geo):Md:=⟨D9 (BX g ⟨#[]⟩) 0, [],Ki (A4 g) (QF g (D9 (BX g ⟨#[]⟩) 0)),List.replicate (g.z*g.d).toNat zero8⟩
structure Vo (g:Geo) (K:Int) (M:Md):Prop where
 an:Bu g M.a=true
 ring:CE g M.l M.a.seq M.a.pos g.sl=true
 gen:M.a.gen<=K
 seq:M.a.seq+M.l.length<=K
 one:∀ t∈M.l,OneTab t.images
 fb:∀ q,(M.F q).length<=200
 m:(M.m.length:Int)=g.z*g.d
theorem Vo.vol {g:Geo} {K:Int} {M:Md} (h:Vo g K M) {d:Dk} (hd:Gd (A4 g) d M.F):Vol g K d (Bl M.a M.l):=⟨⟨_,hd⟩,h.an,h.ring,tA,h.gen,h.seq,h.one⟩
theorem Vo.of {g:Geo} {K:Int} {M:Md} {d:Dk} (h:Vol g K d (Bl M.a M.l)) (hf:∀ q,(M.F q).length<=200) (hm:(M.m.length:Int)=g.z*g.d):Vo g K M:=⟨h.an,h.ring,h.gen,h.seq,h.one,hf,hm⟩
theorem MR {a:Int}:∀ (n:Nat) (l:List Wr) (w:Wr),l.length=n->Ic l a=some w->w∈l
 | 0,l,w,hn,h=>by
  obtain rfl:=AQ.1 hn;rw [MQ] at h;cases h
 | n+1,l,w,hn,h=>by
  rcases CC l with rfl | ⟨m,x,rfl⟩
  ·cases hn
  ·rw [CD] at h |-
   rw [Ir] at h;split at h
   ·obtain rfl:=Option.some.inj h;simp
   ·exact List.mem_append_left _ (MR n m w (by simpa using hn) h)
theorem Um {F:Int->List UInt8} {n:Nat} (hF:∀ q,(F q).length<=n) {W:List Wr} (hW:∀ w∈W,w.bytes.length<=n) (q:Int):(Ry F W q).length<=n:=by
 induction W generalizing F with
 | nil=>exact hF q
 | cons w W ih=>
  refine ih (F:=XZ F w) (fun q=>?_) fun x hx=>hW x (AU _ hx)
  unfold XZ;split
  ·split
   ·exact hW w List.mem_cons_self
   ·exact hF q
  ·split
   ·exact hF _
   ·exact hF q
theorem Uv {g:Geo} (hg:Bp g=true) {a:An} {x:Tx} (ha:Bu g (O5 g a x)=true) {F:Int->List UInt8} (hF:∀ q,(F q).length<=200) (hx:∀ y∈x.images,Bx g y=true) (q:Int):(Uw g a x F q).length<=200:=by
 unfold Uw;refine Um (Um hF fun w hw=>?_) (fun w hw=>(PV hg ha w hw).2) q;obtain⟨y,hy,hw⟩:=L1.1 hw;have:=Gv hg (hx y hy);unfold Vx at hw;split at hw
 ·simp only [A_,DF,or_false] at hw;rcases hw with rfl | rfl <;> exact JU (by omega)
 ·rw [AE] at hw;rw [hw];exact JU (by omega)
theorem Vo.ck {g:Geo} (hg:Bp g=true) {K:Int} {M:Md} (h:Vo g K M) (hK:K<=4294967294) {d d':Dk} (hd:Gd (A4 g) d M.F) (hd':Gd (A4 g) d' (ZM g M).F):Vo g (K+1) (ZM g M):=by
 obtain⟨a,l,F,m⟩:=M;cases l with
 | nil=>exact⟨h.an,h.ring,by have q:a.gen<=K:=h.gen;show a.gen<=K+1;omega,by have q:a.seq+(([]:List Tx).length:Int)<=K:=h.seq;show a.seq+(([]:List Tx).length:Int)<=K+1;omega,h.one,h.fb,h.m⟩
 | cons x r=>
  have hv:=h.vol hd;have h2:=hv.home hg (x:=x) (r:=r) rfl hK (d':=d') ⟨_,hd'⟩;have hi:=(DJ h.ring x (List.mem_cons_self)).1;exact Vo.of (d:=d') h2 (Uv hg h2.an h.fb (Au.1 hi)) h.m
theorem Gd.clip {n:Int} {d:Dk} {F:Int->List UInt8} (h:Gd n d F):Gd n d (Ki n F)/\∀ q,(Ki n F q).length<=200:=by
 have hl:=h.len;refine⟨⟨h.ok,h.left,h.len,h.cache,fun q h0 h1=>?_,fun q h0 h1=>?_⟩,fun q=>?_⟩
 ·have:=h.cell q h0 h1;unfold Ki;rw [if_pos ⟨by omega,h1⟩];exact this
 ·have:=h.old q h0 h1;unfold Ki;rw [if_pos ⟨by omega,by omega⟩];exact this
 ·unfold Ki;split
  ·rename_i hq;by_cases h0:0<=q
   ·have hc:=(h.cell q h0 hq.2).2;rw [<-hc];exact(h.ok.c _ (A7 (by omega))).2.1
   ·have hc:=h.old (-1 - q) (by omega) (by omega);rw [show -1 - (-1 - q)=q by omega] at hc;rw [<-hc];exact(h.ok.c _ (A7 (by omega))).2.2
  ·simp
theorem XI {g:Geo} (hg:Bp g=true):∃ D,CZ g (GM g ⟨#[]⟩)=(D,0,Bl (GW g).a (GW g).l)/\DkOk (GM g ⟨#[]⟩)/\((GM g ⟨#[]⟩).cells.length:Int)=A4 g/\Gd (A4 g) D (GW g).F/\Vo g 2 (GW g):=by
 obtain⟨D,h1,h2,h3,h4,h5⟩:=Yq hg;obtain⟨q1,q2⟩:=h5.clip;refine⟨D,h1,h2,h3,q1,Vo.of (d:=D) (M:=GW g) ⟨⟨_,q1⟩,h4.an,h4.ring,h4.rest,h4.gen,h4.seq,h4.one⟩ q2 ?_⟩;obtain⟨g1,g2,g3,g4,g5⟩:=As.1 hg;have:0<=g.z*g.d:=CP (by omega) (by omega);show (((List.replicate (g.z*g.d).toNat zero8).length:Nat):Int)=_;rw [BA];omega
structure Gc (n:Int) (d:Dk) (F:Int->List UInt8) (l:List Wr):Prop where
 ok:DkOk d
 len:(d.cells.length:Int)=n
 cache:d.cache=l
 cell:∀ a:Int,0<=a->a<n->(d.cells.getD a.toNat cz).state=0/\(d.cells.getD a.toNat cz).bytes=F a
theorem Gw.gc {n:Int} {d:Dk} {F:Int->List UInt8} {l:List Wr} (h:Gw n d F l):Gc n d F l:=⟨h.ok,h.len,h.cache,h.cell⟩
theorem Gc.write {n:Int} {d:Dk} {F:Int->List UInt8} {l:List Wr} (h:Gc n d F l) (hl:l.length<2000) {a:Int} (h0:0<=a) (h1:a<n) {b:List UInt8} (hb:b.length<=200):(d.left=0/\d.write a b=(d,8))\/(d.left≠0/\(d.write a b).2=0/\Gc n (d.write a b).1 F (l ++ [⟨a,b⟩])):=by
 by_cases hz:d.left=0
 ·exact .inl ⟨hz,by unfold Dk.write;rw [if_pos hz]⟩
 ·have hw:=h.ok.write (a:=a) (b:=b) (by rw [<-h.len] at h1;omega) hb;have e:d.write a b=({ d.req with cache:=d.cache ++ [⟨a,b⟩] },0):=by
   unfold Dk.write;rw [if_neg hz,if_neg];rintro(h2 | h2)
   ·have:=(h.cell a h0 h1).1;unfold cz at this;omega
   ·rw [h.cache] at h2;omega
  rw [e] at hw |-
  exact .inr ⟨hz,rfl,hw,h.len,by rw [h.cache],h.cell⟩
theorem Gc.puts {n:Int} {d:Dk} {F:Int->List UInt8} {W l:List Wr} (h:Gc n d F W) (hl:∀ w∈l,(0<=w.addr/\w.addr<n)/\w.bytes.length<=200) (hn:W.length+l.length<=2000):∀ k:Nat,k<=l.length->(d.writes (l.take k)).2.2=false->(d.writes (l.take k)).2.1=k/\Gc n (d.writes (l.take k)).1 F (W ++ l.take k)
 | 0,_,_=>⟨rfl,by rw [List.take_zero,AL];exact h⟩
 | k+1,hk,hv=>by
  have hx0:=FU d (l:=l) (k:=k) (by omega);have hv0:(d.writes (l.take k)).2.2=false:=by
   cases hc:(d.writes (l.take k)).2.2 with
   | false=>rfl
   | true=>
    rw [hx0] at hv;unfold Fw at hv;rw [hc] at hv;simp only [if_true] at hv;rw [hc] at hv;cases hv
  obtain⟨q1,q3⟩:=Gc.puts h hl hn k (by omega) hv0;have hx:=Kz (d:=d) (l:=l) (k:=k) (by omega) hv0;have hm:=hl _ (A7 (d:=(⟨0, []⟩:Wr)) (show k<l.length by omega));rcases q3.write (by rw [Ai,At];omega) hm.1.1 hm.1.2 hm.2 with ⟨-,e8⟩ | ⟨-,e0,hw⟩
  ·rw [hx,e8] at hv;cases hv
  ·rw [hx,e0];have e:l.take (k+1)=l.take k ++ [l.getD k ⟨0, []⟩]:=by
    rw [Bg,Ae (by omega),Aa,Ae (by omega)];try rfl
   refine⟨by simp only [q1];rfl,?_⟩;rw [e,<-A6];exact hw
theorem Gc.flush {n:Int} {d:Dk} {F:Int->List UInt8} {l:List Wr} (h:Gc n d F l):Gc n d.flush (Ry F l) []:=by
 have e:d.flush=⟨CI d.cells l, [],d.req.reqs,d.req.left⟩:=by
  unfold Dk.flush;rw [allFin_cells,h.cache];try rfl
 have ho:=h.ok.flush;rw [e] at ho |-
 refine⟨ho,by show ((CI d.cells l).length:Int)=n;rw [finL_len];exact h.len,rfl,fun a h0 h1=>?_⟩;have hl:=h.len;refine Od h0 (by omega) (h.cell a h0 h1) _ l rfl fun w hw=>?_
 rw [<-h.cache] at hw;exact(h.ok.w w hw).1.1
theorem Gc.putAll {n:Int} {d:Dk} {F:Int->List UInt8} {l:List Wr} (h:Gc n d F []) (hl:∀ w∈l,(0<=w.addr/\w.addr<n)/\w.bytes.length<=200) (hn:l.length<=2000) (hv:(d.putAll l).2.2=false):(d.putAll l).2.1=l.length/\Gc n (d.putAll l).1 (Ry F l) []:=by
 cases hw:(d.writes l).2.2 with
 | true=>rw [Fo hw] at hv;cases hv
 | false=>
  have hp:=Gc.puts h hl (by simpa using hn) l.length (Ag _);rw [Aw] at hp;obtain⟨q1,q2⟩:=hp hw;have e:=Ex hw;by_cases h0:(d.writes l).1.left=0
  ·rw [if_pos h0] at e;rw [e] at hv;cases hv
  ·rw [if_neg h0] at e;rw [e];exact⟨q1,by simpa using q2.flush⟩

theorem MF (g:Geo) (w:Int) (hw : -1<=w/\w<g.d):Fn Tryz.prog 223 [.ag (AZ g),iv w] fun r=>r = .tp [iv (Fz g w), .v (.bool true)]:=by
 unfold Fz;by_cases h:w = -1
 ·rw [if_pos h];refine zT Tryz.func223 rfl ?_;conv=>whnf
  rw [show (w == -1)=true by simpa using h];exact⟨_,ri,rfl⟩
 ·rw [if_neg h];refine zT Tryz.func223 rfl ?_;conv=>whnf
  rw [show (w == -1)=false by simpa using h];refine z7 tys_ok mixed [0,1,2,3,4,5,6,7,8,9,10] (by kernel_rfl) ?_;conv=>whnf
  rw [show decide (w>=0)=true from decide_eq_true (by omega)];conv=>whnf
  rw [show decide (w<g.d)=true from decide_eq_true (by omega)];exact⟨_,ri,rfl⟩
theorem LW {g:Geo} {a:An} (hg:Bp g=true) (ha:Bu g a=true):a.label.size<=1000000/\a.homes.length<=1000/\∀ h∈a.homes,h.places.length<=1000000:=by
 have:=G2 hg ha 0 (Aj _);exact⟨by have:=this.2.2.2.1;omega,by have:=this.2.1;omega,fun h hh=>Km hg ha h hh⟩
theorem SQ (g:Geo) (a:An) (z w:Int) (hg:Bp g=true) (ha:Bu g a=true) (hz:0<=z/\z<g.z) (hw : -1<=w/\w<g.d):Fn Tryz.prog 222 [.ag (AZ g), .ag (EH a),iv z,iv w] fun r=>r = iv 0:=by
 obtain⟨s1,s2, -⟩:=LW hg ha;have c1:=Nu g a s1 (by omega);rw [hg,ha] at c1;have c2:=MF g w hw;refine zT Tryz.func222 rfl ?_;conv=>whnf
 refine z_ c1 ?_;conv=>whnf
 refine z_ c2 ?_;conv=>whnf
 rw [show decide (z<0)=false from decide_eq_false (by omega)];conv=>whnf
 rw [show decide (z>=g.z)=false from decide_eq_false (by omega)];exact⟨_,ri,rfl⟩
theorem Vb (g:Geo) (a:An) (z w:Int) (hg:Bp g=true) (ha:Bu g a=true) (hz:0<=z/\z<g.z) (hw : -1<=w/\w<g.d):Fn Tryz.prog 170 [.ag (AZ g), .ag (EH a),iv z,iv w] fun r=>r = .tp [iv (DG g a z w),iv 0]:=by
 obtain⟨g1,g2,g3,g4,g5⟩:=As.1 hg;obtain⟨hi,hh⟩:=V0 ha hz;simp only [DN,Ad,decide_eq_true_eq,AF] at hh;obtain⟨p1,p2,p3,p4⟩:=hh;have hat:0<=Fz g w/\Fz g w<=g.d:=by unfold Fz;split <;> omega
 have hk:(Fz g w).toNat<(a.homes.getD z.toNat ⟨[],0,0⟩).places.length:=by omega
 have hp:=Au.1 p4 (Fz g w).toNat (by simpa using hk);simp only [Ad,AF] at hp;have c1:=SQ g a z w hg ha hz hw;have c2:=MF g w hw;have c3:=V3 g z ((a.homes.getD z.toNat ⟨[],0,0⟩).places.getD (Fz g w).toNat 0) hg hz (by unfold CH;omega);refine zT Tryz.func170 rfl ?_;conv=>whnf
 refine z_ c1 ?_;conv=>whnf
 refine z_ c2 ?_;conv=>whnf
 apply zL tys_ok mixed (.o [0,1,2,3,4,5,6,7,8,9,10,11,12,13,14,15] .fin) [8,9,27,28,29,30,31,32,33,34,35,36,37,38,39,40] (by kernel_rfl)
 ·conv=>whnf
  try (refine Af (by first | omega | exact ixA | exact ixB | (simp;done)) ?_;conv=>whnf)
  try (refine Af (by first | omega | exact ixA | exact ixB | (simp;done)) ?_;conv=>whnf)
  refine z_ c3 ?_;exact tA
 exact⟨_,ri,rfl⟩
theorem MY (g:Geo) (lba:Int) (hg:Bp g=true) (h:0<=lba/\lba<g.z*g.d):Fn Tryz.prog 103 [.ag (AZ g),iv lba] fun r=>r = .tp [iv (lba.tdiv g.d),iv (lba.tmod g.d),iv 0]:=by
 obtain⟨h1,h2,h3,h4,h5⟩:=As.1 hg;have hG:Fn Tryz.prog 51 [.ag (AZ g)] fun r=>r = .v (Ft (Bp g)):=DC g.z g.d g.sp g.sl g.an
 rw [hg] at hG;have hp:g.z*g.d<=16:=Int.le_trans (Cg h1.2 (by omega)) (by omega);have hw:IntKind.i64.wrap (IntKind.i64.wrap (g.z*g.d) - 1)=g.z*g.d - 1:=by rw [wi (n:=g.z*g.d) (by omega),wi (by omega)]
 have hn:=Iy lba 0 (IntKind.i64.wrap (IntKind.i64.wrap (g.z*g.d) - 1));rw [show C5 lba 0 (IntKind.i64.wrap (IntKind.i64.wrap (g.z*g.d) - 1))=true from AF.2 (by rw [hw];omega)] at hn;have hq:lba.tdiv g.d=lba / g.d:=Bn h.1;have hq2:0<=lba / g.d/\lba / g.d<=lba:=⟨Dp h.1 (by omega),Int.ediv_le_self _ h.1⟩;refine zT Tryz.func103 rfl ?_;conv=>whnf
 refine z_ hG ?_;conv=>whnf
 refine z_ hn ?_;conv=>whnf
 have hd0:g.d≠0:=by omega
 refine z7 tys_ok mixed [0,1,2,3,4,5,6,7,8,9,10] (by kernel_rfl) ?_;refine⟨hd0,?_⟩;refine⟨hd0,?_⟩;exact⟨_,ri,by rw [wi (n:=lba.tdiv g.d) (by omega)]⟩
theorem TA (g:Geo) (w:Int):Fn Tryz.prog 172 [.ag (AZ g),iv w] fun r=>r = iv (Fz g w):=by
 unfold Fz;by_cases h:w = -1
 ·rw [if_pos h];refine zT Tryz.func172 rfl ?_;conv=>whnf
  rw [show (w == -1)=true by simpa using h];exact⟨_,ri,rfl⟩
 ·rw [if_neg h];refine zT Tryz.func172 rfl ?_;conv=>whnf
  rw [show (w == -1)=false by simpa using h];exact⟨_,ri,rfl⟩
end
section
open Go.RowKit Go.Maps
theorem Fn.at {P:Program} {f:FuncId} {args:List AV} {K:AV->Prop} (h:Fn P f args K) {c0:Ctx} (hd:c0.dom=0) (hM:∀ b,c0.M b->b<c0.w.heap.size) (hg:globOk c0.w) {W:World} (hB:Below c0.w.heap.size c0.w W) {us:List Value} (hr:RdL args { c0 with w:=W } us) :
  Calls P f us.toArray W fun e w'=>∃ v r,e = .returned v/\K r/\Below W.heap.size W w'/\Rd r { c0 with w:=w' } v:=
 h.2 { c0 with w:=W } us hd (fun b hb=>Aq (hM b hb) hB.size) (hg.keep hB.size hB.block) hr
theorem MG {w w':World} {P:Program} {k:TypeId} {R:Value->Option (DataW Unit × List MemPlace)} {b n:Nat} {D:DataW Unit} (h:w.ownsMap P k R b n D) (hB:Below w.heap.size w w'):w'.ownsMap P k R b n D:=by
 have hl:=h.lt;obtain⟨es,clock,hb,r⟩:=h;exact⟨es,clock,(hB.block b hl).trans hb,r⟩
theorem und_map:Tryz.prog.underlying 303=some (.map 3 4):=by kernel_rfl
theorem und_int:Tryz.prog.underlying 3=some (.int .i64):=by kernel_rfl
theorem und_bool:Tryz.prog.underlying 4=some .bool:=by kernel_rfl
theorem SA (g:Geo) (A:Int) (hg:Bp g=true) (h:0<=A/\A<g.z*g.d):Fn Tryz.prog 175 [.ag (AZ g),iA [A]] fun r=>r = .tp [iv 4,iv 0]:=by
 refine⟨⟨_,Tryz.func175,rfl,by decide⟩,fun c0 us hd hM hgl hr=>?_⟩;obtain⟨u1,u2,rfl,h1,h2⟩:=Z3 hr;have hu1:u1 = .agg #[.int .i64 g.z, .int .i64 g.d, .int .i64 g.sp, .int .i64 g.sl, .int .i64 g.an]:=by
  simp only [AZ,Rd,RdL] at h1;obtain⟨xs,rfl,a1,_,rfl,rfl,a2,_,rfl,rfl,a3,_,rfl,rfl,a4,_,rfl,rfl,a5,_,rfl,rfl,rfl⟩:=h1;rfl
 have hs:=Qf h2;obtain⟨a,k,rfl⟩:=hs.form;subst hu1;have hC:Fn Tryz.prog 51 [.ag (AZ g)] fun r=>r = .v (Ft (Bp g)):=DC g.z g.d g.sp g.sl g.an
 rw [hg] at hC;have hS:=MY g A hg h;have hX:=Pt [] A (by decide);have hkb:k<=maxLen:=hs.cap.2.2;obtain⟨b,o,rfl, -,hx⟩:=NU hs (k:=0) (show 0<1 by decide);have rg:∀ W,Rd (.ag (AZ g)) { c0 with w:=W } (.agg #[.int .i64 g.z, .int .i64 g.d, .int .i64 g.sp, .int .i64 g.sl, .int .i64 g.an]):=fun W=>by
  simp [Rd,RdL,AZ]
 have cC:∀ W,Below c0.w.heap.size c0.w W->Calls Tryz.prog 51 #[.agg #[.int .i64 g.z, .int .i64 g.d, .int .i64 g.sp, .int .i64 g.sl, .int .i64 g.an]] W fun e w'=>e = .returned (.int .i64 0)/\Below W.heap.size W w':=fun W hB=>(hC.at hd hM hgl hB (us:= [_]) (by simpa [RdL] using rg W)).mono fun e w' ⟨v,r,h1,h2,h3,h4⟩=>by
  subst h2;simp only [Rd] at h4;subst h4;exact⟨h1,h3⟩
 have cS:∀ W,Below c0.w.heap.size c0.w W->Calls Tryz.prog 103 #[.agg #[.int .i64 g.z, .int .i64 g.d, .int .i64 g.sp, .int .i64 g.sl, .int .i64 g.an], .int .i64 A] W fun e w'=>e = .returned (.tuple #[.int .i64 (A.tdiv g.d), .int .i64 (A.tmod g.d), .int .i64 0])/\Below W.heap.size W w':=fun W hB=>(hS.at hd hM hgl hB (us:= [_,_]) (by simpa [RdL,Rd] using rg W)).mono fun e w' ⟨v,r,h1,h2,h3,h4⟩=>by
  subst h2;simp only [Rd,RdL] at h4;obtain⟨xs,rfl,a1,_,rfl,rfl,a2,_,rfl,rfl,a3,_,rfl,rfl,rfl⟩:=h4;exact⟨h1,h3⟩
 have cX:∀ W v,Below c0.w.heap.size c0.w W->Rd (iA []) { c0 with w:=W } v->Calls Tryz.prog 115 #[v, .int .i64 A] W fun e w'=>e = .returned (.bool false)/\Below W.heap.size W w':=fun W v hB hv=>(hX.at hd hM hgl hB (us:= [v,_]) (by simpa [RdL,Rd] using hv)).mono fun e w' ⟨v,r,h1,h2,h3,h4⟩=>by
  subst h2;simp only [Rd] at h4;subst h4;exact⟨h1,h3⟩
 have hmm:=@run_makeMap Tryz.prog;clear hC hS hX hr h2 h1 hs rg
 go_enter Tryz.func175,Tryz.ntmps175
 go_wp2_with fail
 have hB1:Below c0.w.heap.size c0.w (c0.w.alloc (.cells #[.int .i64 g.z, .int .i64 g.d, .int .i64 g.sp, .int .i64 g.sl, .int .i64 g.an] 23)):=(Below.refl _ _).alloc (Ag _) _;((with_reducible refine(cC _ hB1).mono ?_);rintro e w1 ⟨rfl,hBa⟩);have hs1:c0.w.heap.size+1<=w1.heap.size:=by have:=hBa.size;simpa using this
 have hBw:=Lib.hid (hB1.trans (hBa.mono (by simp)));have hbk:=Lib.hid ((hBa.block c0.w.heap.size (by simp)).trans (heap_alloc_new _ _));clear hB1 hBa cC
 go_wp2_with fail
 refine wp_loop_rounds 2 ?_;rw [rounds_succ];have hB2:=Lib.hid (hBw.out.alloc (by omega) (.map #[] 0));have hcell:∀ i,(w1.alloc (.map #[] 0)).cell? ⟨c0.w.heap.size,i,none⟩ = #[Value.int .i64 g.z, .int .i64 g.d, .int .i64 g.sp, .int .i64 g.sl, .int .i64 g.an][i]? :=fun i=>by
  simp only [World.cell?];rw [Below.heap_alloc _ _ _ (by omega),hbk.out];try rfl
 have hx2:(w1.alloc (.map #[] 0)).cell? ⟨b,o,none⟩=some (.int .i64 A):=by
  have q:=World.block_lt_of_cell? c0.w _ hx;exact(hB2.out.cell (by exact q)).trans hx
 have hown:(w1.alloc (.map #[] 0)).ownsMap Tryz.prog 3 (plainElem (H:=Unit) Tryz.prog 4) w1.heap.size 0 (.map []):=World.ownsMap_made _ _ _ _;generalize hW:w1.alloc (.map #[] 0)=W2 at *
 go_wp2_with fail
 ((with_reducible refine(cS _ hB2.out).mono ?_);rintro e w2 ⟨rfl,hBb⟩);have hB3:=Lib.hid (hB2.out.trans (hBb.mono hB2.out.size));have hown2:=MG hown hBb;have hs2:=hBb.size;have hs3:c0.w.heap.size<W2.heap.size:=by rw [<-hW];simp;omega
 have hcell2:∀ i,w2.cell? ⟨c0.w.heap.size,i,none⟩ = #[Value.int .i64 g.z, .int .i64 g.d, .int .i64 g.sp, .int .i64 g.sl, .int .i64 g.an][i]? :=fun i=>(hBb.cell (p:=⟨c0.w.heap.size,i,none⟩) hs3).trans (hcell i)
 clear hcell hx2 hown cS
 go_wp2_with fail
 ((with_reducible refine(cX _ _ hB3.out ?_).mono ?_))
 ·simp only [iA,Rd];exact⟨_,k,rfl,Aj _,hkb, .inl rfl⟩
 rintro e w3 ⟨rfl,hBc⟩;have hB4:=Lib.hid (hB3.out.trans (hBc.mono hB3.out.size));have hown3:=MG hown2 hBc;have hs4:=hBc.size;have hZ:(Lit.int .i64 (A.tdiv g.d)).wf=true:=by
  obtain⟨h1,h2,h3,h4,h5⟩:=As.1 hg;have hp:g.z*g.d<=16:=Int.le_trans (Cg h1.2 (by omega)) (by omega);have hq:A.tdiv g.d=A / g.d:=Bn h.1;have hq2:0<=A / g.d/\A / g.d<=A:=⟨Dp h.1 (by omega),Int.ediv_le_self _ h.1⟩;have : -9223372036854775808<=A.tdiv g.d/\A.tdiv g.d<=9223372036854775807:=by omega
  simp only [Lit.wf];rw [Ad];exact⟨decide_eq_true this.1,decide_eq_true this.2⟩
 have hkey:keyOf Tryz.prog 3 (.int .i64 (A.tdiv g.d))=some (.int .i64 (A.tdiv g.d)):=keyOf_int_mk und_int hZ;clear hcell2 hown2 cX
 go_wp2_with (first
  | (at_mapUpdate;refine wpList_mapUpdate_own _ rfl _ _ _ 303 rfl 3 4 (int_keyed und_int) und_map (plainElem (H:=Unit) Tryz.prog 4) w1.heap.size 0 _ rfl hown3 (by unfold maxLen;omega) _ _ _ rfl rfl hkey _ [] (plainElem_bool und_bool true) ?_;intro w4 hown4 hgrow4)
  | go_in)
 rw [rounds_succ];have hsz:Maps.size ((DataW.map (H:=Unit) []).put (Lit.int .i64 (A.tdiv g.d)) (.lit (.bool true)))=1:=rfl;have hB5:=Lib.hid (hB4.out.grown hgrow4 (by have:=hB4.out.size;omega) (fun j hj=>by cases hj;omega))
 go_wp2_with (first
  | (at_len;refine wpList_len_own _ rfl _ 303 rfl 3 4 und_map _ w1.heap.size (0+1) _ rfl hown4 ?_)
  | go_in)
 go_ret2
 refine⟨_,_,rfl,rfl,hB5.out,?_⟩;simp only [Rd,RdL];exact⟨_,rfl,_,_,rfl,rfl,_,_,rfl,rfl,rfl⟩
end
section
open Go.RowKit
theorem HH (l:List Tx) (z w:Int) (hl:l.length<=1000000) (hi:∀ t∈l,t.images.length<=1000000/\∀ x∈t.images,x.bytes.length<=1000000000):ACalls Tryz.prog false 104 [.ow 0 l.length,iv z,iv w] [.row 112 4 (l.map Ea)] fun r H=>r=(match Da l z w with | some p=> .tp [bA p.1.bytes,iv p.2, .v (.bool true)] | none=> .tp [bA [],iv 0, .v (.bool false)])/\H=[.row 112 4 (l.map Ea)]:=by
 have hf:=Pg l z w hl (fun t ht=>(hi t ht).1);have e:Da l z w=_:=Oc l z w l.length;rw [e];have tsub:SubL [.sl 4 l.length fun i=>(l.map Ea).getD i [],iv z,iv w] [Ef l,iv z,iv w]:=⟨B5 (f:=Ea) l rfl rfl,ri,ri,tv⟩;cases hA:GY l z w l.length with
 | none=>
  rw [hA] at hf;refine zS tys_ok Tryz.func104 rfl rfl (Ah rfl) ?_;conv=>whnf
  refine zj (args':= [.sl 4 l.length fun i=>(l.map Ea).getD i [],iv z,iv w]) (hf.subA tsub) ⟨(Ac _).symm,rfl⟩ ?_;rintro _ rfl;refine⟨rfl,?_⟩;exact⟨_, .tp [bA [],iv 0, .v (.bool false)], [.row 112 4 (l.map Ea)],BQ (m:= [bA [],iv 0, .v (.bool false)]) ⟨Bt 1 _,ri,ri,tv⟩,zR (s:= [0]) tA,rfl,rfl⟩
 | some p=>
  obtain⟨k,i⟩:=p;rw [hA] at hf;obtain⟨hk,hi2⟩:=LN hA;simp only at hk hi2;have hm:=hi _ (A7 (d:=tz) hk);have hc:=Ce ((l.getD k tz).images.getD i iz).bytes (hm.2 _ (A7 hi2));replace hf:Fn Tryz.prog 169 [Ef l,iv z,iv w] fun r=>r = .tp [iv (k:Nat),iv (i:Nat), .v (.bool true)]:=hf
  have ixA:(0:Int)<=(k:Nat)/\((k:Nat):Int)<(l.length:Nat):=by omega
  have ixB:(0:Int)<=(i:Nat)/\((i:Nat):Int)<((l.getD k tz).images.length:Nat):=⟨Int.natCast_nonneg _,Int.ofNat_lt.2 hi2⟩;have hE:(l.map Ea).getD (k:Int).toNat []=Ea (l.getD k tz):=by rw [Ab];exact Bh hk
  refine zS tys_ok Tryz.func104 rfl rfl (Ah rfl) ?_;conv=>whnf
  refine zj (args':= [.sl 4 l.length fun i=>(l.map Ea).getD i [],iv z,iv w]) (hf.subA tsub) ⟨(Ac _).symm,rfl⟩ ?_;rintro _ rfl;refine⟨rfl,?_⟩;conv=>whnf
  apply zV (0) tys_ok mixed (.o [0,1,2,3,4,5,6,7,8,10,11,12,13,14,9,15,16,17] .fin) (by kernel_rfl);conv=>whnf
  try (refine tI ?_;conv=>whnf)
  try (first | (refine Af ⟨rfl,(Ac _).symm,by rw [Ab];exact hk⟩ ?_;(conv=>whnf);rw [hE]) | skip;conv=>whnf)
  try (refine tI ?_;conv=>whnf)
  try (first | (refine Af ⟨rfl,(Ac _).symm,by rw [Ab];exact hk⟩ ?_;(conv=>whnf);rw [hE]) | skip;conv=>whnf)
  try (refine tI ?_;conv=>whnf)
  try (first | (refine Af ⟨rfl,(Ac _).symm,by rw [Ab];exact hk⟩ ?_;(conv=>whnf);rw [hE]) | skip;conv=>whnf)
  refine z_ hc ?_;conv=>whnf
  all_goals exact⟨_, .tp [bA ((l.getD k tz).images.getD i iz).bytes, .v (.int .i64 (l.getD k tz).seq), .v (.bool true)], [.row 112 4 (l.map Ea)],fun _ _ h=>h,zR (s:= [0]) tA,rfl,rfl⟩
theorem Vc (l:List Tx) (hl:l.length<=1000000) (hi:∀ t∈l,t.images.length<=1000000/\∀ x∈t.images,x.bytes.length<=1000000000):ACalls Tryz.prog false 117 [Ef l] [] fun r H=>r = .ow 0 l.length/\H=[.row 112 4 (l.map Ea)]:=by
 have hc:=Mv l (by omega);refine zS tys_ok Tryz.func117 rfl rfl (Ah rfl) ?_;conv=>whnf
 refine zW hc rfl ?_;rintro _ _ ⟨rfl,rfl⟩;conv=>whnf
 refine zU Nat (fun k=>([(0, .ow 0 l.length),(9,iv l.length),(10,iv k)], [.row 112 4 (l.map Ea)])) (fun k=>k<=l.length) (fun k=>l.length - k) 0 (Aj _)
  (zR (s:= [0]) tA) ?_
 intro k hk;conv=>whnf
 refine A8 (fun h6=>?_) (fun h6=>?_) <;> (repeat rw [Ab] at h6) <;> conv=>whnf
 ·have hk':k<l.length:=by omega
  have hm:=hi _ (A7 (d:=(⟨0,0,0, []⟩:Tx)) hk');have hE:(l.map Ea).getD (k:Int).toNat []=Ea (l.getD k ⟨0,0,0, []⟩):=by rw [Ab];exact Bh hk'
  have ho:=MV (l.getD k ⟨0,0,0, []⟩).images (by omega);repeat' (refine zZ ?_;conv=>whnf)
  refine⟨⟨by omega,by omega⟩,?_⟩;conv=>whnf
  refine Af ⟨rfl,(Ac _).symm,by rw [Ab];exact hk'⟩ ?_;conv=>whnf
  rw [hE];conv=>whnf
  refine ACalls.pre (ConvH.rowo (k:=0) rfl) ?_;refine zW ho rfl ?_;rintro _ _ ⟨rfl,rfl⟩;refine⟨⟨by omega,by omega⟩,?_⟩;conv=>whnf
  refine Af ⟨rfl,(Ac _).symm,by rw [Ab];exact hk'⟩ ?_;conv=>whnf
  rw [hE];refine⟨⟨by omega,by omega⟩,?_⟩;conv=>whnf
  refine Af ⟨rfl,by rw [AX,Ac],by rw [Ab];exact hk'⟩ ?_;conv=>whnf
  rw [BI (by rw [Ab,Ac];exact hk')];conv=>whnf
  obtain⟨t,ht⟩:∃ t,t=l.getD k ⟨0,0,0, []⟩:=⟨_,rfl⟩;rw [<-ht] at hm hE |-
  have hS:∀ x∈l.map Ea,AV.ltL x 0=true:=Ut l;have hro:AV.ltL ((l.map Ea).set k (Ub t 1)).flatten 2=true:=KX hS rfl;refine zU Nat (fun j=>([(0, .ow 0 l.length),(3,iv k),(9,iv l.length),(10,iv k),(27, .ow 1 t.images.length),(28,iv t.images.length),(29,iv j)], [.rowo 112 4 ((l.map Ea).set k (Ub t 1)) 2, .row 166 3 (t.images.map Ds)])) (fun j=>j<=t.images.length) (fun j=>t.images.length - j) 0 (Aj _)
   (zR (s:= [0,1]) ⟨tA,⟨⟨hro,_,by rw [H8 hS rfl];try rfl⟩,rfl,tv⟩,rfl,rfl,rfl,rfl,rfl⟩) ?_
  intro j hj;conv=>whnf
  refine A8 (fun h7=>?_) (fun h7=>?_) <;> (repeat rw [Ab] at h7) <;> conv=>whnf
  ·have hj':j<t.images.length:=by omega
   have hF:(t.images.map Ds).getD (j:Int).toNat []=Ds (t.images.getD j ⟨0,0, []⟩):=by rw [Ab];exact Bh hj'
   have hG:((l.map Ea).set k (Ub t 1)).getD (k:Int).toNat []=Ub t 1:=by rw [Ab];exact BI (by rw [Ac];exact hk')
   have b1:=Ce (t.images.getD j ⟨0,0, []⟩).bytes (hm.2 _ (A7 hj'));refine⟨⟨by omega,by omega⟩,?_⟩;conv=>whnf
   refine Af ⟨rfl,(Ac _).symm,by rw [Ab];exact hj'⟩ ?_;conv=>whnf
   rw [hF];conv=>whnf
   apply zV (0) tys_ok mixed (.o [0,1,2,3,4,5,6,7,8,9,10,11] .fin) (by kernel_rfl);conv=>whnf
   try (refine tI ?_;conv=>whnf)
   try (first | (refine Af ⟨rfl,by rw [AX,Ac],by rw [Ab];exact hk'⟩ ?_;(conv=>whnf);rw [hG]) | skip;conv=>whnf)
   try (first | (refine Af ⟨rfl,by rw [AX,Ac],by rw [Ab];exact hk'⟩ ?_;(conv=>whnf);rw [hG]) | skip;conv=>whnf)
   refine z_ b1 ?_;conv=>whnf
   try (refine tI ?_;conv=>whnf)
   try (refine tS ?_;conv=>whnf)
   (first | rw [hF] | skip)
   conv=>whnf
   all_goals refine⟨j+1,hj',by omega,z8 (zI (zy (k:=1) rfl (es':=t.images.map Ds) (by simp) ?_)) (s:= [0,1]) ⟨⟨rfl,rfl,rfl,rfl,rfl,rfl,AS (by omega),tv⟩,⟨⟨hro,_,by rw [H8 hS rfl];try rfl⟩,rfl,tv⟩,rfl,rfl,rfl,rfl,rfl⟩⟩
   all_goals
    intro i;rw [Ab];refine Gi (f:=Ds) (d:=(⟨0,0, []⟩:Img)) hj' ?_ i;exact⟨fun _ _ h=>h,fun _ _ h=>h,fun _ _ h=>h,tv⟩
  ·exact⟨k+1,hk',by omega,z8 (zI (MH hk' ht)) (s:= [0]) ⟨⟨rfl,rfl,AS (by omega),tv⟩,tA,rfl,rfl,rfl,rfl,rfl⟩⟩
 ·exact⟨.ow 0 l.length, .ow 0 l.length, [.row 112 4 (l.map Ea)],fun _ _ h=>h,zR (s:= [0]) tA,rfl,rfl⟩
@[reducible] def stT (s:Stt) (tx lo:AV):List AV:= [iv s.a.gen,iv s.a.epoch,iv s.a.pos,iv s.a.seq,iv s.a.last, .v (.string s.a.label),Ku s.a.homes,tx, .v (.bool s.only),iv s.cursor,iv s.found,iv s.fixed,iv s.moved,lo]
theorem TR (s:Stt) (h:StSm s):ACalls Tryz.prog false 47 [.ag (E5 s)] [] fun r H=>r = .ag (stT s (.ow 0 s.txns.length) (.ow 1 s.lost.length))/\H=[.row 112 4 (s.txns.map Ea), .row 3 1 (s.lost.map On)]:=by
 have c1:=PT s.a (by have:=h.h.1;omega) h.h.2;have c2:=Vc s.txns (by have:=h.t.1;omega) (fun t ht=>⟨by have:=(h.t.2 t ht).1;omega,fun x hx=>by have:=(h.t.2 t ht).2 x hx;omega⟩);have c3:=L5 s.lost (by have:=h.o;omega);refine zS tys_ok Tryz.func47 rfl rfl (Ah rfl) ?_;conv=>whnf
 apply zV (0) tys_ok mixed (.o [0,1,3,4,6,7,8,2,10,5,9,11,12,13,14,15,16] .fin) (by kernel_rfl);conv=>whnf
 refine z_ c1 ?_;conv=>whnf
 (refine zW c2 rfl ?_;rintro _ _ ⟨rfl,rfl⟩)
 conv=>whnf
 (refine zW c3 rfl ?_;rintro _ _ ⟨rfl,rfl⟩)
 conv=>whnf
 try (refine tS ?_;conv=>whnf)
 try (refine tS ?_;conv=>whnf)
 try (refine tS ?_;conv=>whnf)
 all_goals exact⟨_, .ag (stT s (.ow 0 s.txns.length) (.ow 1 s.lost.length)), [.row 112 4 (s.txns.map Ea), .row 3 1 (s.lost.map On)],fun _ _ h=>h,zR (s:= [2,3]) tA,rfl,rfl⟩
@[reducible] def XP (g:Geo) (x tx lo:AV) (s:Stt):List AV:= [iv g.z,iv g.d,iv g.sp,iv g.sl,iv g.an,x,iv s.a.gen,iv s.a.epoch,iv s.a.pos,iv s.a.seq,iv s.a.last, .v (.string s.a.label),Ku s.a.homes,tx, .v (.bool s.only),iv s.cursor,iv s.found,iv s.fixed,iv s.moved,lo]
@[reducible] def Fy (g:Geo) (s:Stt) (d:Dk):List AB:= [.box 116 (XP g (.bp 1 0) (.ow 4 s.txns.length) (iA s.lost) s), .box 185 (I3 (.ow 2 d.cells.length) (.ow 3 d.cache.length) d.reqs d.left), .row 128 3 (d.cells.map BF), .row 134 2 (d.cache.map Eu), .row 112 4 (s.txns.map Ea)]
@[reducible] def bwM (g:Geo) (s:Stt) (d:Dk):List AB:= [.box 23 (AZ g), .box 43 (Et d), .box 39 (E5 s), .box 185 (I3 (.ow 4 d.cells.length) (.ow 5 d.cache.length) d.reqs d.left), .row 128 3 (d.cells.map BF), .row 134 2 (d.cache.map Eu), .row 112 4 (s.txns.map Ea)]
theorem Oh (g:Geo) (d:Dk) (s:Stt) (h:DkOk d) (hst:Mf g d s=true) (hs:StSm s):ACalls Tryz.prog false 42 [.ag (AZ g), .ag (Et d), .ag (E5 s)] [] fun r H=>r = .tp [.bp 0 0,iv 0]/\H=Fy g s d:=by
 have hN:=h.n;have hM:=h.m;have c1:=TW g d s (by omega) (by omega) hs.big;rw [hst] at c1;have c2:=X7 d (by omega) (by omega);have c3:=TR s hs;refine zS tys_ok Tryz.func42 rfl rfl (Ah rfl) ?_;conv=>whnf
 refine z_ c1 ?_;conv=>whnf
 apply zV (0) tys_ok mixed (.o [0,1,3,2,4,5,6,7,8] .fin) (by kernel_rfl);conv=>whnf
 (refine zW c2 rfl ?_;rintro _ _ ⟨rfl,rfl⟩)
 conv=>whnf
 (refine zW c3 rfl ?_;rintro _ _ ⟨rfl,rfl⟩)
 conv=>whnf
 have hx:ConvH (bwM g s d ++ [.row 3 1 (s.lost.map On), .box 116 (XP g (.bp 3 0) (.ow 6 s.txns.length) (.ow 7 s.lost.length) s)]) (bwM g s d ++ [.dead, .box 116 (XP g (.bp 3 0) (.ow 6 s.txns.length) (iA s.lost) s)]):=by
  refine ConvH.trans (zo 8 7 (cs2:=XP g (.bp 3 0) (.ow 6 s.txns.length) (.sl 1 (s.lost.map On).length fun i=>(s.lost.map On).getD i []) s) rfl rfl ?_) (ConvH.subBox 8 rfl ⟨ri,ri,ri,ri,ri,ri,ri,ri,ri,ri,ri,ri,ri,ri,ri,ri,ri,ri,ri,B5 (f:=On) (d:=0) s.lost (Ac _) rfl,tv⟩);simp only [A9,BJ,R7 (Ac _).symm];rfl
 all_goals exact⟨_, .tp [.bp 0 0,iv 0],Fy g s d,fun _ _ h=>h,z8 (zI hx) (s:= [8,3,4,5,6]) tA,rfl,rfl⟩
theorem LI (l:List Tx) (x:Tx) (z w:Int):∀ k,k<=l.length->FJ (l ++ [x]) z w k=FJ l z w k
 | 0,_=>rfl
 | k+1,hk=>by
  have e:(l ++ [x]).getD k tz=l.getD k tz:=by
   rw [Aa,Aa,AA (by omega)]
  rw [FJ,FJ,e,LI l x z w k (by omega)]
theorem I0 (l:List Tx) (x:Tx) (z w:Int):Da (l ++ [x]) z w=match Du x.images z w x.images.length with
  | some i=>some (i,x.seq)
  | none=>Da l z w:=by
 unfold Da;rw [Ai,Ap,Bb,Az,FJ,LI l x z w _ (Ag _),show (l ++ [x]).getD l.length tz=x by simp];cases Du x.images z w x.images.length <;> rfl
theorem QW (x:Tx) (r:List Tx) (z w:Int):∀ k,FJ (x::r) z w (k+1)=match FJ r z w k with
  | some p=>some p
  | none=>match Du x.images z w x.images.length with
   | some i=>some (i,x.seq)
   | none=>none
 | 0=>rfl
 | k+1=>by
  rw [FJ,QW x r z w k,FJ,show (x::r).getD (k+1) tz=r.getD k tz from rfl];cases Du (r.getD k tz).images z w (r.getD k tz).images.length <;> rfl
theorem OB {x:Gt} {a s:Int} {p:List UInt8} (he:x.err=0) (hx:x.bytes=CA a s p) (h:W0 a s p):BO x a=some ⟨a,s,p⟩:=by
 obtain⟨h1,h2,h3,h4⟩:=Jv h;unfold BO;rw [he,hx,h1,h2,h3,h4,if_pos tA]
theorem TS {a s:Int} {p:List UInt8} {e:Ent} (h:W0 a s p) (h8:p.length=8) (h1:e.stamp=s) (h2:((CS p:Nat):Int)=e.sum):DQ ⟨0,CA a s p⟩ a e=some p:=by
 unfold DQ;rw [OB rfl rfl h];simp only;rw [if_pos ⟨h1.symm,h8,h2⟩]
theorem Sw {g:Geo} {a s:Int} {p:List UInt8} (h:W0 a s p):CN g ⟨0,CA a s p⟩ a s=BZ g p:=by
 unfold CN;rw [OB rfl rfl h];simp only [if_true]
def Na (v:Int->List UInt8):Nat->List UInt8
 | 0=>zero8
 | k+1=>G_ (Na v k) (v (k:Nat))
structure ZoneV (g:Geo) (a:An) (l:List Tx) (F:Int->List UInt8) (z:Int) (t:List Ent) (v:Int->List UInt8):Prop where
 tab:G5 g (Bl a l) F z=some t
 len:∀ w, -1<=w->w<g.d->(v w).length=8
 ent:∀ w, -1<=w->w<g.d->(t.getD (Fz g w).toNat ez).lost=false/\((CS (v w):Nat):Int)=(t.getD (Fz g w).toNat ez).sum
 val:∀ w, -1<=w->w<g.d->match Da l z w with
  | some p=>p.1.bytes=v w/\(t.getD (Fz g w).toNat ez).stamp=p.2
  | none=>DQ ⟨0,F (DG g a z w)⟩ (DG g a z w) (t.getD (Fz g w).toNat ez)=some (v w)
 par:v (-1)=Na v g.d.toNat
def VolV (g:Geo) (a:An) (l:List Tx) (F:Int->List UInt8) (V:Int->Int->List UInt8):Prop:=∀ z,0<=z->z<g.z->∃ t,ZoneV g a l F z t (V z)
theorem ZoneV.one {g:Geo} {a:An} {l:List Tx} {F:Int->List UInt8} {z:Int} {t:List Ent} {v:Int->List UInt8} (h:ZoneV g a l F z t v) {w:Int} (hw : -1<=w/\w<g.d):Mg g (Bl a l) F t z w=v w:=by
 have:=h.val w hw.1 hw.2;unfold Mg;show (match Da l z w with | some p=>p.1.bytes | none=>_)=_;cases hf:Da l z w with
 | some p=>rw [hf] at this;exact this.1
 | none=>
  rw [hf] at this;simp only at this |-
  show (DQ ⟨0,F (DG g a z w)⟩ (DG g a z w) (t.getD (Fz g w).toNat ez)).getD []=_;rw [this];try rfl
theorem XA {n:Int} {F:Int->List UInt8} {q:Int} (h0:0<=q) (h1:q<n):Ki n F q=F q:=if_pos ⟨by omega,h1⟩
theorem fold_zero:∀ k,Na (fun _=>zero8) k=zero8
 | 0=>rfl
 | k+1=>by rw [Na,fold_zero k];rfl
theorem Vl {g:Geo} (hg:Bp g=true):VolV g (GW g).a (GW g).l (GW g).F fun _ _=>zero8:=by
 obtain⟨g1,g2,g3,g4,g5⟩:=As.1 hg;intro z h0 h1;obtain⟨k,rfl⟩:∃ k:Nat,z=(k:Nat):=⟨z.toNat,by omega⟩;have hcb:=Hy hg;have hpb:=GB hg;have ht0:=WB hg;have hzh:((GW g).a.homes.getD k ⟨[],0,0⟩)=⟨(List.range (g.d+1).toNat).map Int.ofNat,g.d+1,0⟩:=by
  show (List.replicate g.z.toNat _).getD k _=_;rw [Aa,List.getElem?_replicate,if_pos (by omega)];try rfl
 have hF:∀ q,g.an+2*g.sl<=q->q<A4 g->(GW g).F q=GL g ⟨#[]⟩ q:=fun q hq hq2=>by
  show Ki (A4 g) (QF g _) q=_;rw [XA (by omega) hq2];unfold QF;rw [if_neg (by omega)];exact if_neg (by omega)
 have hti:=N0 hg (z:=(k:Nat)) (k:=0) ⟨h0,h1⟩ (by omega);have htab:G5 g (Bl (GW g).a (GW g).l) (GW g).F (k:Nat)=some (E3 g):=by
  have hroot:EA (GW g).a (GW g).l (k:Nat)=0:=by
   show ((GW g).a.homes.getD ((k:Nat):Int).toNat ⟨[],0,0⟩).root=0;rw [Ab,hzh]
  show (match CN g ⟨0,(GW g).F (Bw g (k:Nat) 0)⟩ (Bw g (k:Nat) 0) (EA (GW g).a (GW g).l (k:Nat)) with | some t=>some t | none=>_)=_;have e:=P1 (g:=g) (s:=⟨#[]⟩) (z:=k) (k:=0) (by omega) h1 (by omega);rw [hroot,hF _ hti.1 hti.2.2,show Bw g ((k:Nat):Int) (0:Int)=Bw g (k:Nat) ((0:Nat):Int) from rfl,e,Sw ⟨by show 0<=Bw g (k:Nat) 0;omega,by show Bw g (k:Nat) 0<=65535;omega,by omega,by omega,by rw [E2];unfold E3;rw [BA];omega⟩,Ik ht0]
 have hent:∀ w, -1<=w->w<g.d->(E3 g).getD (Fz g w).toNat ez=ent0:=fun w hw hw2=>by
  have hat:0<=Fz g w/\Fz g w<=g.d:=by unfold Fz;split <;> omega
  unfold E3;rw [Aa,List.getElem?_replicate,if_pos (by omega)];try rfl
 refine⟨E3 g,htab,fun _ _ _=>rfl,fun w hw hw2=>?_,fun w hw hw2=>?_,(fold_zero _).symm⟩
 ·rw [hent w hw hw2];exact tA
 ·show DQ ⟨0,(GW g).F (DG g (GW g).a (k:Nat) w)⟩ (DG g (GW g).a (k:Nat) w) ((E3 g).getD (Fz g w).toNat ez)=some zero8;have hat:0<=Fz g w/\Fz g w<=g.d:=by unfold Fz;split <;> omega
  have hadr:DG g (GW g).a (k:Nat) w=Cr g (k:Nat) ((Fz g w).toNat:Nat):=by
   unfold DG;rw [Ab,hzh];congr 1;rw [Bh (d:=0) (by simp;omega),Aa,Bq (by omega)];try rfl
  have hsl:=K3 hg (z:=(k:Nat)) (s:=((Fz g w).toNat:Nat)) ⟨h0,h1⟩ (by unfold CH;omega);rw [hadr,hF _ (by omega) hsl.2,Nd (by omega) (by omega) (by omega),hent w hw hw2];exact TS ⟨by omega,by omega,by omega,by omega,by decide⟩ rfl rfl rfl
theorem LJ (l m:List Img) (z w:Int):∀ k,k<=l.length->Du (l ++ m) z w k=Du l z w k
 | 0,_=>rfl
 | k+1,hk=>by
  have e:(l ++ m).getD k iz=l.getD k iz:=by
   rw [Aa,Aa,AA (by omega)]
  rw [Du,Du,e,LJ l m z w k (by omega)]
theorem Ts (l m:List Img) (z w:Int):∀ k,k<=m.length->Du (l ++ m) z w (l.length+k)=match Du m z w k with
  | some i=>some i
  | none=>Du l z w l.length
 | 0,_=>LJ l m z w _ (Ag _)
 | k+1,hk=>by
  have e:(l ++ m).getD (l.length+k) iz=m.getD k iz:=by
   rw [Aa,Aa,A5 (by omega),Nat.add_sub_cancel_left]
  rw [<-D4,Du,Du,e];split
  ·rfl
  ·exact Ts l m z w k (by omega)
theorem I1 {l:List Img} {z w:Int} (h:∀ x∈l,x.zone≠z):∀ k,k<=l.length->Du l z w k=none
 | 0,_=>rfl
 | k+1,hk=>by
  rw [Du,if_neg (fun q=>h _ (A7 (by omega)) q.1),I1 h k (by omega)]
def Vy (z:Int) (ats:List Int) (bs:List (List UInt8)) (w:Int):Option Img:=(Ek ats bs w.toNat ats.length).map fun b=>⟨z,w,b⟩
theorem Ni (z:Int) (ats:List Int) (bs:List (List UInt8)) (m:List Img) {w:Int} (hw:0<=w):∀ k,k<=ats.length->Du (((List.range ats.length).map fun i=>(⟨z,ats.getD i 0,bs.getD i []⟩:Img)) ++ m) z w k=(Ek ats bs w.toNat k).map fun b=>⟨z,w,b⟩
 | 0,_=>rfl
 | k+1,hk=>by
  have e:(((List.range ats.length).map fun i=>(⟨z,ats.getD i 0,bs.getD i []⟩:Img)) ++ m).getD k iz=⟨z,ats.getD k 0,bs.getD k []⟩:=by
   rw [Aa,AA (by simp;omega),AW,Bq (by omega)];try rfl
  rw [Du,e,Ek,Ni z ats bs m hw k (by omega)];by_cases h:ats.getD k 0=w
  ·rw [if_pos ⟨rfl,h⟩,if_pos (by rw [h];omega)];simp only [Do,h]
  ·rw [if_neg (fun q=>h q.2),if_neg (by omega)]
theorem Je (z:Int) (t:List Ent) (par:List UInt8) (ats:List Int) (bs:List (List UInt8)) (ha:∀ a∈ats,0<=a/\a<255) (w:Int) (hw:w=255\/(-1<=w/\w<255)):Du (Cq z t par ats bs) z w (Cq z t par ats bs).length=if w=255 then some ⟨z,255,CM t⟩ else if w = -1 then some ⟨z, -1,par⟩ else Vy z ats bs w:=by
 have hl:=Fp z t par ats bs;have e1:(Cq z t par ats bs).getD (ats.length+1) iz=⟨z,255,CM t⟩:=by
  unfold Cq;rw [Aa,A5 (by simp),show ats.length+1 - ((List.range ats.length).map fun i=>(⟨z,ats.getD i 0,bs.getD i []⟩:Img)).length=1 by simp];try rfl
 have e0:(Cq z t par ats bs).getD ats.length iz=⟨z, -1,par⟩:=by
  unfold Cq;rw [Aa,A5 (by simp),show ats.length - ((List.range ats.length).map fun i=>(⟨z,ats.getD i 0,bs.getD i []⟩:Img)).length=0 by simp];try rfl
 rw [hl,Du,Du,e1,e0];by_cases h1:w=255
 ·rw [if_pos ⟨rfl,h1.symm⟩,if_pos h1]
 ·rw [if_neg (fun q=>h1 q.2.symm),if_neg h1];by_cases h2:w = -1
  ·rw [if_pos ⟨rfl,h2.symm⟩,if_pos h2]
  ·rw [if_neg (fun q=>h2 q.2.symm),if_neg h2];exact Ni z ats bs _ (by omega) _ (Ag _)
def So (V:Int->Int->List UInt8) (x:Tx) (z w:Int):List UInt8:=match Du x.images z w x.images.length with
 | some i=>i.bytes
 | none=>V z w
def Zv (g:Geo) (a:An) (l:List Tx) (F:Int->List UInt8) (x:Tx) (z:Int):Prop:=
 (∀ w,Du x.images z w x.images.length=none)
 \/∃ t ats bs,G5 g (Bl a l) F z=some t/\ats.length=bs.length/\(∀ b∈bs,b.length=8)/\∀ w,w=255\/(-1<=w/\w<g.d)->Du x.images z w x.images.length=if w=255 then some ⟨z,255,CM (BD g t (ED g (Bl a l) F t z) ats bs x.seq)⟩ else if w = -1 then some ⟨z, -1,EQ g t (ED g (Bl a l) F t z) ats bs g.d.toNat⟩ else Vy z ats bs w
theorem Y2 {g:Geo} (hg:Bp g=true) {s:Stt} {F:Int->List UInt8} {t:List Ent} {z:Int} {i:Nat} (hi:(i:Int)<g.d):(ED g s F t z).getD i []=Mg g s F t z (i:Nat):=by
 unfold ED Xu;rw [Aa,AA (by simp;omega),AW,Bq (by omega)];try rfl
theorem Wv {g:Geo} (hg:Bp g=true) {a:An} {l:List Tx} {x:Tx} (hseq:0<=x.seq/\x.seq<=4294967295) (hl:∀ t∈l,∀ y∈t.images,Bx g y=true) {F:Int->List UInt8} {V:Int->Int->List UInt8} (h:VolV g a l F V) (hx:∀ z,0<=z->z<g.z->Zv g a l F x z):VolV g a (l ++ [x]) F (So V x):=by
 obtain⟨g1,g2,g3,g4,g5⟩:=As.1 hg;intro z h0 h1;obtain⟨t,ht⟩:=h z h0 h1;rcases hx z h0 h1 with hn | ⟨t',ats,bs,e1,e2,e3,e4⟩
 ·have hv:∀ w,So V x z w=V z w:=fun w=>by unfold So;rw [hn w]
  have hf:∀ w,Da (l ++ [x]) z w=Da l z w:=fun w=>by rw [I0,hn w]
  have hvz:So V x z=V z:=funext hv;refine⟨t,?_,fun w q1 q2=>by rw [hv];exact ht.len w q1 q2,fun w q1 q2=>by rw [hv];exact ht.ent w q1 q2,fun w q1 q2=>?_,by rw [hvz];exact ht.par⟩
  ·have:=ht.tab;unfold G5 EA at this |-
   show (match Da (l ++ [x]) z 255 with | some p=>_ | none=>match CN g _ _ (match Da (l ++ [x]) z 255 with | some p=>p.2 | none=>_) with | some t=>some t | none=>CN g _ _ (match Da (l ++ [x]) z 255 with | some p=>p.2 | none=>_))=_;rw [hf 255];exact this
  ·rw [hf w,hv];exact ht.val w q1 q2
 ·have et:t'=t:=by
   have:=ht.tab;rw [e1] at this;exact Option.some.inj this
  subst et;have htok:=R3 ht.tab;have htl:=GE htok;have hhad:∀ i:Nat,(i:Int)<g.d->(ED g (Bl a l) F t' z).getD i []=V z (i:Nat):=fun i hi=>by
   rw [Y2 hg hi];exact ht.one ⟨by omega,hi⟩
  have hatN:∀ i:Nat,(i:Int)<g.d->(Fz g (i:Nat)).toNat=i:=fun i hi=>by unfold Fz;rw [if_neg (by omega)];omega
  have hkn:∀ i:Nat,(i:Int)<g.d->BL g t' (ED g (Bl a l) F t' z) i=V z (i:Nat):=fun i hi=>by
   have:=(ht.ent (i:Nat) (by omega) hi).1;rw [hatN i hi] at this;unfold BL;rw [this,if_neg (by decide),hhad i hi,if_pos (by rw [ht.len (i:Nat) (by omega) hi];decide)]
  have hup:∀ i:Nat,(i:Int)<g.d->So V x z (i:Nat)=Gm g t' (ED g (Bl a l) F t' z) ats bs i:=fun i hi=>by
   have e:=e4 (i:Nat) (.inr ⟨by omega,hi⟩);rw [if_neg (by omega),if_neg (by omega)] at e;unfold So Gm;rw [e,Vy,Ab];cases Ek ats bs i ats.length with
   | some b=>rfl
   | none=>exact(hkn i hi).symm
  have hbn:∀ i:Nat,(i:Int)<g.d->(Gm g t' (ED g (Bl a l) F t' z) ats bs i).length=8:=fun i hi=>by
   unfold Gm;cases hp:Ek ats bs i ats.length with
   | some b=>exact J4 e3 (by omega) _ b (Ag _) hp
   | none=>
    show (BL g t' _ i).length=8;rw [hkn i hi];exact ht.len (i:Nat) (by omega) hi
  have hpar:∀ k:Nat,(k:Int)<=g.d->EQ g t' (ED g (Bl a l) F t' z) ats bs k=Na (So V x z) k:=by
   intro k;induction k with
   | zero=>intro _;rfl
   | succ k ih=>
    intro hk;rw [EQ,if_neg (by rw [hbn k (by omega)];decide),ih (by omega),Na,hup k (by omega)]
  have hpv:So V x z (-1)=EQ g t' (ED g (Bl a l) F t' z) ats bs g.d.toNat:=by
   have e:=e4 (-1) (.inr ⟨by omega,by omega⟩);rw [if_neg (by omega),if_pos rfl] at e;unfold So;rw [e]
  have hhb:∀ b∈ED g (Bl a l) F t' z,b.length=0\/b.length=8:=fun b hb=>by
   unfold ED Xu at hb;rcases A0.1 hb with q | q
   ·obtain⟨i,hi,rfl⟩:=AK.1 q;exact IU (s:=Bl a l) hl (by have:=AM.1 hi;omega)
   ·rw [AE] at q;subst q;exact IU (s:=Bl a l) (w:= -1) hl (by decide)
  have hpl:(EQ g t' (ED g (Bl a l) F t' z) ats bs g.d.toNat).length=8:=Gl hhb e3 (by omega) _;have hwt:=FT (g:=g) (t:=t') (had:=ED g (Bl a l) F t' z) (ats:=ats) (bs:=bs) hg htok (stamp:=x.seq) hseq;have htab:G5 g (Bl a (l ++ [x])) F z=some (BD g t' (ED g (Bl a l) F t' z) ats bs x.seq):=by
   have e:=e4 255 (.inl rfl);rw [if_pos rfl] at e;unfold G5;show (match Da (l ++ [x]) z 255 with | some p=>BZ g p.1.bytes | none=>_)=_;rw [I0,e];exact Ik hwt
  have hent:∀ i:Nat,(i:Int)<g.d->(BD g t' (ED g (Bl a l) F t' z) ats bs x.seq).getD i ez=match Ek ats bs i ats.length with
    | some b=>⟨x.seq,(CS b:Nat),false⟩
    | none=>t'.getD i ez:=fun i hi=>by
   unfold BD;rw [Aa,AA (by simp;omega),AW,Bq (by omega)];show Ks g t' _ ats bs x.seq i=_;unfold Ks;rw [if_neg (by rw [hbn i hi];decide)];cases Ek ats bs i ats.length <;> rfl
  have hentp:(BD g t' (ED g (Bl a l) F t' z) ats bs x.seq).getD (Fz g (-1)).toNat ez=⟨x.seq,(CS (So V x z (-1)):Nat),false⟩:=by
   rw [show (Fz g (-1)).toNat=g.d.toNat by unfold Fz;rw [if_pos rfl]];unfold BD;rw [Aa,A5 (by simp),show g.d.toNat - ((List.range g.d.toNat).map (Ks g t' (ED g (Bl a l) F t' z) ats bs x.seq)).length=0 by simp,hpv];try rfl
  refine⟨_,htab,fun w q1 q2=>?_,fun w q1 q2=>?_,fun w q1 q2=>?_,?_⟩
  ·by_cases hw:w = -1
   ·rw [hw,hpv];exact hpl
   ·obtain⟨i,rfl⟩:∃ i:Nat,w=(i:Nat):=⟨w.toNat,by omega⟩;rw [hup i q2];exact hbn i q2
  ·by_cases hw:w = -1
   ·rw [hw,hentp];exact tA
   ·obtain⟨i,rfl⟩:∃ i:Nat,w=(i:Nat):=⟨w.toNat,by omega⟩;rw [hatN i q2,hent i q2,hup i q2];unfold Gm;cases hp:Ek ats bs i ats.length with
    | some b=>exact tA
    | none=>
     have:=ht.ent (i:Nat) q1 q2;rw [hatN i q2] at this;simp only;rw [hkn i q2];exact this
  ·rw [I0];have e:=e4 w (.inr ⟨q1,q2⟩);rw [if_neg (by omega)] at e;by_cases hw:w = -1
   ·subst hw;rw [if_pos rfl] at e;rw [e,hentp,hpv];exact tA
   ·obtain⟨i,rfl⟩:∃ i:Nat,w=(i:Nat):=⟨w.toNat,by omega⟩;rw [if_neg hw,Vy,Ab] at e;rw [e,hatN i q2,hent i q2,hup i q2];unfold Gm;cases hp:Ek ats bs i ats.length with
    | some b=>exact tA
    | none=>
     have:=ht.val (i:Nat) q1 q2;rw [hatN i q2] at this;simp only [Option.map_none];rw [hkn i q2];exact this
  ·rw [hpv];exact hpar _ (by omega)
theorem YB {g:Geo} (hg:Bp g=true) {a:An} {l:List Tx} {F:Int->List UInt8} {lba:Int} {b:List UInt8} (hlba:0<=lba/\lba<g.z*g.d) (hb:b.length=8) (ht:(G5 g (Bl a l) F (lba.tdiv g.d)).isSome=true):∀ z,0<=z->z<g.z->Zv g a l F (Hx g a l F lba b) z:=by
 obtain⟨g1,g2,g3,g4,g5⟩:=As.1 hg;intro z h0 h1;obtain⟨t,ht⟩:=Cp.1 ht;have hm:0<=lba.tmod g.d/\lba.tmod g.d<g.d:=⟨Bc _ hlba.1,AR _ (by omega)⟩;have ei:(Hx g a l F lba b).images=Cq (lba.tdiv g.d) (BD g t (ED g (Bl a l) F t (lba.tdiv g.d)) [lba.tmod g.d] [b] (a.seq+(l.length:Int))) (EQ g t (ED g (Bl a l) F t (lba.tdiv g.d)) [lba.tmod g.d] [b] g.d.toNat) [lba.tmod g.d] [b]:=by
  show IZ g (Bl a l) F _ lba b=_;unfold IZ;rw [ht]
 by_cases hz:z=lba.tdiv g.d
 ·refine .inr ⟨t, [lba.tmod g.d], [b],by rw [hz];exact ht,rfl,fun x hx=>by rw [AE] at hx;rw [hx];exact hb,fun w hw=>?_⟩;rw [ei,hz];exact Je _ _ _ _ _ (fun x hx=>by rw [AE] at hx;omega) w (by omega)
 ·refine .inl fun w=>?_
  rw [ei];refine I1 (fun y hy=>?_) _ (Ag _);have:y.zone=lba.tdiv g.d:=by
   unfold Cq at hy;rcases A0.1 hy with q | q
   ·obtain⟨i, -,rfl⟩:=AK.1 q;rfl
   ·simp only [A_,DF,or_false] at q;rcases q with rfl | rfl <;> rfl
  rw [this];exact fun e=>hz e.symm
theorem YA {g:Geo} (hg:Bp g=true) {a:An} {l:List Tx} {F:Int->List UInt8} {lba:Int} {b:List UInt8} (hlba:0<=lba/\lba<g.z*g.d) (ht:(G5 g (Bl a l) F (lba.tdiv g.d)).isSome=true) (V:Int->Int->List UInt8) {z w:Int} (hw:0<=w/\w<g.d):So V (Hx g a l F lba b) z w=if z=lba.tdiv g.d/\w=lba.tmod g.d then b else V z w:=by
 obtain⟨g1,g2,g3,g4,g5⟩:=As.1 hg;obtain⟨t,ht⟩:=Cp.1 ht;have hm:0<=lba.tmod g.d/\lba.tmod g.d<g.d:=⟨Bc _ hlba.1,AR _ (by omega)⟩;have ei:(Hx g a l F lba b).images=Cq (lba.tdiv g.d) (BD g t (ED g (Bl a l) F t (lba.tdiv g.d)) [lba.tmod g.d] [b] (a.seq+(l.length:Int))) (EQ g t (ED g (Bl a l) F t (lba.tdiv g.d)) [lba.tmod g.d] [b] g.d.toNat) [lba.tmod g.d] [b]:=by
  show IZ g (Bl a l) F _ lba b=_;unfold IZ;rw [ht]
 unfold So;rw [ei];by_cases hz:z=lba.tdiv g.d
 ·rw [hz,Je _ _ _ _ _ (fun x hx=>by rw [AE] at hx;omega) w (by omega),if_neg (by omega),if_neg (by omega)];have ep:Vy (lba.tdiv g.d) [lba.tmod g.d] [b] w=if lba.tmod g.d=((w.toNat:Nat):Int) then some ⟨lba.tdiv g.d,w,b⟩ else none:=by
   show ((if lba.tmod g.d=((w.toNat:Nat):Int) then some b else none:Option (List UInt8)).map fun b=>(⟨lba.tdiv g.d,w,b⟩:Img))=_;split <;> rfl
  rw [ep];by_cases e:lba.tmod g.d=((w.toNat:Nat):Int)
  ·rw [if_pos e,if_pos ⟨rfl,by omega⟩]
  ·rw [if_neg e,if_neg (fun q:_/\_=>e (by omega))]
 ·rw [if_neg (fun q=>hz q.1),I1 (fun y hy=>?_) _ (Ag _)];have:y.zone=lba.tdiv g.d:=by
   unfold Cq at hy;rcases A0.1 hy with q | q
   ·obtain⟨i, -,rfl⟩:=AK.1 q;rfl
   ·simp only [A_,DF,or_false] at q;rcases q with rfl | rfl <;> rfl
  rw [this];exact fun e=>hz e.symm
theorem RH {g:Geo} {b:List UInt8} {t:List Ent} (h:BZ g b=some t):t.length=(g.d+1).toNat:=by
 unfold BZ at h;split at h
 ·rw [<-Option.some.inj h,entsOf_len]
 ·cases h
theorem O4 {g:Geo} {x:Gt} {q r:Int} {t:List Ent} (h:CN g x q r=some t):t.length=(g.d+1).toNat:=by
 rw [KR] at h;split at h
 ·exact RH h
 ·cases h
def V8 (g:Geo) (i:Nat):Int:=if (i:Int)=g.d then -1 else (i:Nat)
theorem Xw (g:Geo) (s:Stt) (d:Dk) (a:Int) (h:DkOk d) (ha:0<=a/\a<d.cells.length) :
  ACalls Tryz.prog false 138 [.bp 0 0,iv a] (Fy g s d) fun r H=>r = .ag (DB ⟨(d.read a).2.2,(d.read a).2.1⟩)/\H=Fy g s (d.read a).1:=by
 have hr:=VR Ce d a h.l ha h.m (fun c hc=>by have:=(h.c c hc).2.1;omega) (fun w hw=>by have:=(h.w w hw).2;omega);refine zS tys_ok Tryz.func138 rfl rfl (Ah rfl) ?_;conv=>whnf
 refine zh [1,2,3] hr ?_;rintro _ _ ⟨rfl,rfl⟩;exact⟨_, .ag (DB ⟨(d.read a).2.2,(d.read a).2.1⟩),Fy g s (d.read a).1,fun _ _ h=>h,zR (s:= [0,1,2,3,4]) tA,rfl,rfl⟩
theorem PL (g:Geo) (s:Stt) (d:Dk) (a:Int) (b:List UInt8) (h:DkOk d) (ha:0<=a/\a<d.cells.length) (hb:b.length<=200) :
  ACalls Tryz.prog false 182 [.bp 0 0,iv a,bA b] (Fy g s d) fun r H=>r = .tp [.v (.bool (decide ((d.write a b).2=0))),iv (if (d.write a b).2=8 then 8 else 0)]/\H=Fy g s (d.write a b).1:=by
 have hr:=T3 Ce d a b h.l ha h.m (by omega);have he:(d.write a b).2=8\/(d.write a b).2=7\/(d.write a b).2=0:=by
  unfold Dk.write;split
  ·exact .inl rfl
  ·split
   ·exact .inr (.inl rfl)
   ·exact .inr (.inr rfl)
 generalize d.write a b=q at hr he |-
 obtain⟨d',e⟩:=q;simp only at hr he |-
 refine zS tys_ok Tryz.func182 rfl rfl (Ah rfl) ?_;conv=>whnf
 refine zh [1,2,3] hr ?_;rintro _ _ ⟨rfl,rfl⟩;rcases he with rfl | rfl | rfl
 all_goals
  exact⟨_,_,Fy g s d',fun _ _ h=>h,zR (s:= [0,1,2,3,4]) tA,rfl,rfl⟩
structure Gr where
 f:Int->Gt
 cells:List Cel
 cache:List Wr
instance:CoeFun Gr fun _=>Int->Gt:=⟨Gr.f⟩
structure Gs (n:Int) (d:Dk) (G:Gr):Prop where
 ok:DkOk d
 left:d.left = -1
 len:(d.cells.length:Int)=n
 got:∀ a:Int,0<=a->a<n->d.got a=((G a).bytes,(G a).err)
 cells:d.cells=G.cells
 cache:d.cache=G.cache
theorem Gs.req {n:Int} {d:Dk} {G:Gr} (h:Gs n d G):Gs n d.req G:=⟨h.ok.req,by unfold Dk.req;rw [h.left];try rfl,h.len,h.got,h.cells,h.cache⟩
theorem Gs.read {n:Int} {d:Dk} {G:Gr} (h:Gs n d G) {a:Int} (h0:0<=a) (h1:a<n):d.read a=(d.req,(G a).bytes,(G a).err):=by
 unfold Dk.read;rw [if_neg (by rw [h.left];decide),h.got a h0 h1]
def EY (d:Dk):Gr:=⟨fun a=>⟨(d.got a).2,(d.got a).1⟩,d.cells,d.cache⟩
theorem Gs.of {n:Int} {d:Dk} (h:DkOk d) (hl:d.left = -1) (hn:(d.cells.length:Int)=n):Gs n d (EY d):=⟨h,hl,hn,fun _ _ _=>rfl,rfl,rfl⟩
def Gh (g:Geo) (s:Stt) (G:Gr) (z:Int):Option (List Ent):=match Da s.txns z 255 with
 | some p=>BZ g p.1.bytes
 | none=>match CN g (G (Bw g z 0)) (Bw g z 0) (EA s.a s.txns z) with
  | some t=>some t
  | none=>CN g (G (Bw g z 1)) (Bw g z 1) (EA s.a s.txns z)
def ET (g:Geo) (s:Stt) (G:Gr) (t:List Ent) (z w:Int):List UInt8:=match Da s.txns z w with
 | some p=>p.1.bytes
 | none=>(DQ (G (DG g s.a z w)) (DG g s.a z w) (t.getD (Fz g w).toNat ez)).getD []
def EJ (g:Geo) (s:Stt) (G:Gr) (t:List Ent) (z:Int):List (List UInt8):=(List.range (g.d.toNat+1)).map fun i=>ET g s G t z (V8 g i)
theorem Yb {g:Geo} (hg:Bp g=true) {s:Stt} {G:Gr} {z:Int} {t:List Ent} (h:Gh g s G z=some t):(t.length:Int)=g.d+1:=by
 have g5:=As.1 hg;have:t.length=(g.d+1).toNat:=by
  unfold Gh at h;split at h
  ·exact RH h
  ·split at h
   ·rename_i q;rw [<-Option.some.inj h];exact O4 q
   ·exact O4 h
 omega
theorem RV (g:Geo) (s:Stt) (d:Dk) (G:Gr) (a:Int) (h:Gs (A4 g) d G) (ha:0<=a/\a<A4 g) :
  ACalls Tryz.prog false 138 [.bp 0 0,iv a] (Fy g s d) fun r H=>r = .ag (DB (G a))/\∃ d',Gs (A4 g) d' G/\H=Fy g s d':=by
 have hr:=Xw g s d a h.ok (by rw [h.len];exact ha);rw [h.read ha.1 ha.2] at hr;exact hr.mono fun r H hh=>⟨hh.1,d.req,h.req,hh.2⟩
end
end Go.Proofs.YtepdhdfoipephaaGreatDoor.A
