/-
Several texts in one.
-/
import Derived.Test.YtldngmdpiifamaaGreatDoorPPB1P3
import Derived.Test.YtldngmdpiifamaaGreatDoorPPB1P2
import Derived.Test.YtldngmdpiifamaaGreatDoorPPB1P1
set_option maxRecDepth 100000
set_option maxHeartbeats 8000000
section
namespace Go.Proofs.YtldngmdpiifamaaGreatDoor.A
open Go.RowKit
theorem Km {g:Geo} {pos at_:Int} (hg:AW g=true) (hp:0<=pos/\pos<g.sl) (hat:0<=at_/\at_<=1000):0<=AO g pos at_/\AO g pos at_<g.sl:=by
 obtain⟨h1,h2,h3,h4,h5⟩:=Ao.1 hg
 have hw:IntKind.i64.wrap (pos+at_)=pos+at_:=by rw [IntKind.wrap_i64];omega
 exact⟨A6 _ (by rw [hw];omega),Au _ (by omega)⟩
theorem E9 {g:Geo} {a:An} {x y:List Gt} {pos seq left at_ of_:Int} (hg:AW g=true) (hp:0<=pos/\pos<g.sl) (hat:0<=at_/\at_<=1000) :
  ((Cx g a x y pos seq left at_ of_).2.1=1/\(DA g (Cx g a x y pos seq left at_ of_).1=true/\(Cx g a x y pos seq left at_ of_).1.img.bytes.length<=59/\CU (Cx g a x y pos seq left at_ of_).1 a seq at_ of_ left=true)/\(Cx g a x y pos seq left at_ of_).2.2.length<=1)\/
  (((Cx g a x y pos seq left at_ of_).2.1=2\/(Cx g a x y pos seq left at_ of_).2.1=3)/\(Cx g a x y pos seq left at_ of_).2.2=[]/\(Cx g a x y pos seq left at_ of_).1=zeroC):=by
 refine(GI (a:=a) (x:=x.getD (AO g pos at_).toNat gz) (y:=y.getD (AO g pos at_).toNat gz) (seq:=seq) (at_:=at_) (of_:=of_) (left:=left) (Km hg hp hat)).imp (fun h=>⟨h.1,h.2.1,?_⟩) (fun h=>⟨h.1,?_,h.2.2⟩)
 ·simp only [Cx,Ab]
  exact h.2.2.1
 ·simp only [Cx,h.2.1,Bv]
theorem GD {r:Rc} {g:Geo} {a:An} {seq at_ of_ left:Int} (hk:DA g r=true) (h:CU r a seq at_ of_ left=true):2<=r.of_/\r.of_<=30/\r.at_=at_/\r.at_<=r.of_ - 1/\(of_=0->r.of_<=left)/\(of_≠0->r.of_=of_):=by
 have h:=of_decide_eq_true h
 unfold DA DH at hk
 simp only [Bool.and_eq_true] at hk
 have h2:=hk.2
 rw [if_neg h.1] at h2
 split at h2
 ·simp only [E3,Bool.and_eq_true,AE] at h2
  refine⟨by omega,by omega,h.2.2.1,by omega,h.2.2.2.1,h.2.2.2.2.1⟩
 ·split at h2
  ·simp only [E3,Bool.and_eq_true,AE,beq_iff_eq] at h2
   refine⟨by omega,by omega,h.2.2.1,by omega,h.2.2.2.1,h.2.2.2.2.1⟩
  ·cases h2
@[reducible] def QZ (g:Geo) (a:An) (x y:List Gt) (pos seq left:Int) (w:AV):List AV:=
 [.v (.int .i64 g.z), .v (.int .i64 g.d), .v (.int .i64 g.sp), .v (.int .i64 g.sl), .v (.int .i64 g.an), .v (.int .i64 a.gen), .v (.int .i64 a.epoch), .v (.int .i64 a.pos), .v (.int .i64 a.seq), .v (.int .i64 a.last), .v (.string a.label),HY a.homes,BU x,BU y, .v (.int .i64 pos), .v (.int .i64 seq), .v (.int .i64 left),w]
theorem Rr (g:Geo) (a:An) (x y:List Gt) (pos seq left at_ of_:Int) (n:Nat) (W:List Wr) (hg:AW g=true) (ha:AY g a=true) (hl:a.label.size<=1000000) (hh:a.homes.length<=1000000) (hx:x.length=g.sl) (hy:y.length=g.sl) (hxb:∀ z∈x,z.bytes.length<=100000) (hyb:∀ z∈y,z.bytes.length<=100000) (hp:0<=pos/\pos<g.sl) (hat:0<=at_/\at_<=1000) :
  ACalls Tryz.prog false 210 [.bp 0 0, .v (.int .i64 at_), .v (.int .i64 of_)] [.box 231 (QZ g a x y pos seq left (.ow 1 n)), .row 130 2 (W.map Dy)]
   fun r H=>r = .tp [.ag (DW (Cx g a x y pos seq left at_ of_).1), .v (.int .i64 (Cx g a x y pos seq left at_ of_).2.1), .ow 4 (Cx g a x y pos seq left at_ of_).2.2.length]/\
    H=[.box 231 (QZ g a x y pos seq left (.ow 1 n)), .row 130 2 (W.map Dy), .dead, .dead, .row 130 2 ((Cx g a x y pos seq left at_ of_).2.2.map Dy)]:=by
 obtain⟨h1,h2,h3,h4,h5⟩:=Ao.1 hg
 refine ACalls.ofO tys_ok Tryz.func210 rfl rfl (by show 3<=_;decide) ?_
 conv=>whnf
 refine aDraw.seq tys_ok mixed (by kernel_rfl) ?_
 refine⟨by omega,?_⟩
 conv=>whnf
 have hw:IntKind.i64.wrap (pos+at_)=pos+at_:=by rw [IntKind.wrap_i64];omega
 have hs:0<=AO g pos at_/\AO g pos at_<g.sl:=⟨A6 _ (by rw [hw];omega),Au _ (by omega)⟩
 have hs':0<=(IntKind.i64.wrap (pos+at_)).tmod g.sl/\(IntKind.i64.wrap (pos+at_)).tmod g.sl<g.sl:=hs
 have hX:(x.getD (AO g pos at_).toNat gz).bytes.length<=100000:=hxb _ (AC (by omega))
 have hY:(y.getD (AO g pos at_).toNat gz).bytes.length<=100000:=hyb _ (AC (by omega))
 have lk:=V5 (g:=g) (a:=a) (x:=x.getD (AO g pos at_).toNat gz) (y:=y.getD (AO g pos at_).toNat gz) (slot:=AO g pos at_) (seq:=seq) (at_:=at_) (of_:=of_) (left:=left) hl hh hX hY hg ha (AE.2 (by omega)) rfl
 have hF:=GI (g:=g) (a:=a) (x:=x.getD (AO g pos at_).toNat gz) (y:=y.getD (AO g pos at_).toNat gz) (slot:=AO g pos at_) (seq:=seq) (at_:=at_) (of_:=of_) (left:=left) hs
 unfold Cx
 simp only
 generalize Dq g a (x.getD (AO g pos at_).toNat gz) (y.getD (AO g pos at_).toNat gz) (AO g pos at_) seq at_ of_ left=q at lk hF |-
 obtain⟨r,wants,how⟩:=q
 simp only at hF |-
 apply aDraw.tree tys_ok mixed (.one 0 (.one 1 (.one 2 (.one 3 (.one 4 (.one 5 (.one 6 (.one 7 (.one 8 (.one 9 (.one 10 (.one 11 (.one 12 (.one 13 (.one 14 (.one 15 (.one 16 (.one 17 (.one 18 (.one 19 (.one 20 (.one 21 (.one 22 (.one 23 (.one 24 (.one 25 (.one 26 (.one 27 (.one 28 (.one 29 (.one 30 (.one 31 (.one 32 (.two 33 (.one 34 (.one 35 (.one 36 (.one 37 (.one 38 (.one 39 (.one 40 (.one 41 (.one 42 (.one 43 .fin)))))))))) 39 (.one 33 (.one 34 (.one 35 (.one 36 (.one 37 (.one 38 (.one 40 (.one 41 (.one 42 (.one 43 .fin)))))))))))))))))))))))))))))))))))))))))))) [10,11,12,13,33,34,35,36,37,38,39,40,41,42,43,44,45,46,47,48,49,50,51,52,53,54,55,56,57,58,59,60,61,62,63,64,65,66,67,68,69,70,71] (by kernel_rfl)
 ·conv=>whnf
  try (refine And.intro (by first | omega | (simp;done)) ?_;conv=>whnf)
  try (refine And.intro (by first | omega | (simp;done)) ?_;conv=>whnf)
  refine And.intro ?_ ?_
  ·conv=>whnf
   refine Fn.cl lk ?_
   conv=>whnf
   try (refine And.intro ⟨rfl,by first | rfl | (simp;done) | (simp;omega),by first | omega | (simp;omega)⟩ ?_;conv=>whnf)
   exact⟨rfl,rfl⟩
  ·conv=>whnf
   refine Fn.cl lk ?_
   conv=>whnf
   try (refine And.intro ⟨rfl,by first | rfl | (simp;done) | (simp;omega),by first | omega | (simp;omega)⟩ ?_;conv=>whnf)
   exact⟨rfl,rfl⟩
 conv=>whnf
 refine aLoop.rule Nat (fun k=>([(0, .bp 0 0),(6, .bp 2 0),(9, .v (.int .i64 (AO g pos at_))),(10, .bp 3 0),(12, .v (.int .i64 how)),(14, .ow 4 k),(72,iA wants),(73, .v (.int .i64 wants.length)),(74, .v (.int .i64 k))], [.box 231 (QZ g a x y pos seq left (.ow 1 n)), .row 130 2 (W.map Dy), .box 85 [.v (.int .i64 0), .v (.int .i64 0), .v (.int .i64 0), .v (.int .i64 0), .v (.int .i64 0), .v (.int .i64 0), .v (.int .i64 0), .v (.slice none 0 0)], .box 85 (DW r), .row 130 2 ((wants.take k).map fun c=>Dy ⟨AK g c (AO g pos at_),Cu g r c (AO g pos at_)⟩)])) (fun k=>k<=wants.length) (fun k=>wants.length - k) 0 (Ae _) ⟨[(14,130,2)],⟨rfl,rfl,trivial⟩,⟨rfl,rfl,rfl,rfl,rfl,rfl,rfl,rfl,rfl,trivial⟩,⟨rfl,rfl,rfl,rfl,rfl,trivial⟩,rfl,rfl,rfl⟩ ?_
 rintro k hk
 conv=>whnf
 refine Al (fun h6=>?_) (fun h6=>?_) <;> (repeat rw [Aa] at h6) <;> conv=>whnf
 ·rcases hF with ⟨rfl,⟨q1,q2,q3⟩,q4,q5⟩ | ⟨-,q4, -⟩
  ·have hc:=q5 (wants.getD k 0) (AC (by omega))
   have lg:=MP g (wants.getD k 0) (AO g pos at_)
   rw [hg,hc] at lg
   have rl:=NM g r (wants.getD k 0) (AO g pos at_) (by omega)
   rw [q1,hc] at rl
   refine aSeq.go ?_
   conv=>whnf
   refine⟨by first | omega | (refine⟨rfl,?_,?_⟩ <;> first | omega | (simp only [Ab];done) | (simp only [Ab];omega)) | (simp only [Ab];omega),?_⟩
   conv=>whnf
   repeat' (first | (refine aSeq.go ?_;conv=>whnf) | (refine Al (fun _=>?_) (fun _=>?_) <;> conv=>whnf) | (refine Fn.cl lg ?_;conv=>whnf) | (refine Fn.cl rl ?_;conv=>whnf) | (refine And.intro (by first | omega | exact of_decide_eq_true rfl) ?_;conv=>whnf) | fail)
   refine aDraw.seq tys_ok mixed (by kernel_rfl) ?_
   conv=>whnf
   repeat' (first | (refine aSeq.go ?_;conv=>whnf) | (refine Al (fun _=>?_) (fun _=>?_) <;> conv=>whnf) | (refine Fn.cl lg ?_;conv=>whnf) | (refine Fn.cl rl ?_;conv=>whnf) | (refine And.intro (by first | omega | exact of_decide_eq_true rfl) ?_;conv=>whnf) | fail)
   refine And.intro ⟨by simp;omega,by omega⟩ ?_
   exact⟨k+1,by omega,by omega, [],trivial,⟨rfl,rfl,rfl,rfl,rfl,rfl,rfl,rfl,A4 (by omega),trivial⟩,⟨rfl,rfl,rfl,rfl,congrArg (AB.row _ _) (FD h6),trivial⟩,rfl,rfl,rfl⟩
  ·exfalso
   rw [q4] at h6
   simp at h6
 ·have ek:k=wants.length:=by omega
  subst ek
  rw [List.take_length]
  refine⟨.tp [.ag (DW r), .v (.int .i64 how), .ow 4 (wants.map fun c=>(⟨AK g c (AO g pos at_),Cu g r c (AO g pos at_)⟩:Wr)).length], [.box 231 (QZ g a x y pos seq left (.ow 1 n)), .row 130 2 (W.map Dy), .dead, .dead, .row 130 2 ((wants.map fun c=>(⟨AK g c (AO g pos at_),Cu g r c (AO g pos at_)⟩:Wr)).map Dy)],fun c v h=>?_,⟨rfl,rfl,?_,trivial⟩,rfl,⟨rfl,rfl⟩,rfl,rfl⟩
  ·rw [Ab]
   exact h
  ·rw [Da]
   rfl
theorem Uy (b:List UInt8) (hl:b.length<=1000000000):Fn Tryz.prog 102 [bA b] fun r=>r=bA b:=by
 refine⟨⟨_,Tryz.func102,rfl,by decide⟩,fun c0 us hd hM _ hr=>?_⟩
 obtain⟨u,rfl,h1⟩:=WZ hr
 refine(PO u b c0.w c0.M c0.M (FW h1) hl).mono ?_
 rintro e w' ⟨r,rfl,ho,hB⟩
 exact⟨_,_,rfl,rfl,hB,ofBytes (c:={ c0 with w:=w' }) (ho.sl fun b hb hm=>by have:=hM b hm;omega)⟩
theorem P9 (seq epoch of_:Int) {k:Nat} {l:List Img} (hk:k<l.length):(HW seq epoch of_ (k+1) l).map DW=(HW seq epoch of_ k l).map DW ++ [DW ⟨1,seq,epoch,(k:Nat),of_,l.getD k ⟨0,0, []⟩⟩]:=by
 rw [RM seq epoch of_ hk,Am,List.getD_eq_getElem?_getD,List.getElem?_eq_getElem hk];rfl

def TP (seq epoch n:Int):List AV:= [.v (.int .i64 2), .v (.int .i64 seq), .v (.int .i64 epoch), .v (.int .i64 n), .v (.int .i64 (n+1)), .v (.int .i64 0), .v (.int .i64 0), .v (.slice none 0 0)]
theorem To (seq epoch:Int) (l:List Img) (i:Nat) (hi:i<l.length+1) :
  SubL ((List.map DW (HW seq epoch (l.length+1) l.length l) ++ [TP seq epoch l.length]).getD i [])
   (DW ((Bt seq epoch l).getD i ⟨0,0,0,0,0,⟨0,0, []⟩⟩)):=by
 have hlk:(HW seq epoch (l.length+1) l.length l).length=l.length:=by rw [GL];omega
 rcases Bp i l.length with h | h
 ·have e1:(List.map DW (HW seq epoch (l.length+1) l.length l) ++ [TP seq epoch l.length]).getD i []=DW ((Bt seq epoch l).getD i ⟨0,0,0,0,0,⟨0,0, []⟩⟩):=by
   unfold Bt
   rw [IC (by rw [Ab,hlk];exact h),IC (by rw [hlk];exact h)]
   exact AX (by rw [hlk];exact h)
  rw [e1]
  exact SubL.refl _
 ·obtain rfl:i=l.length:=by omega
  unfold Bt
  rw [Hi (by rw [Ab,hlk];omega),Hi (by rw [hlk];omega),Ab,hlk,C3]
  simp only [List.getD_cons_zero,DW,noImg,TP]
  exact⟨fun _ _ h=>h,fun _ _ h=>h,fun _ _ h=>h,fun _ _ h=>h,fun _ _ h=>h,fun _ _ h=>h,fun _ _ h=>h,AP _ _,trivial⟩
theorem Pp (seq epoch:Int) (l:List Img):(Bt seq epoch l).length=l.length+1:=by
 unfold Bt;rw [List.length_append,GL];simp
theorem Pr (seq epoch:Int) (l:List Img) (hl:l.length<=1000000) (hb:∀ x∈l,x.bytes.length<=1000000000):Fn Tryz.prog 43 [.v (.int .i64 seq), .v (.int .i64 epoch),Ft l] fun r=>r=Qq (Bt seq epoch l):=by
 refine Fn.st Tryz.func43 rfl ?_
 conv=>whnf
 refine aLoop.rule Nat (fun k=>([(0, .v (.int .i64 seq)),(1, .v (.int .i64 epoch)),(2,Ft l),(7, .ow 0 k),(8, .v (.int .i64 k))], [.row 85 8 ((HW seq epoch (l.length+1) k l).map DW)])) (fun k=>k<=l.length) (fun k=>l.length - k) 0 (Ae _) ⟨[(7,85,8)],⟨rfl,rfl,trivial⟩,⟨rfl,rfl,rfl,rfl,rfl,trivial⟩,⟨rfl,trivial⟩,rfl,rfl,rfl⟩ ?_
 rintro k hk
 have hlk:=GL seq epoch (l.length+1) k l
 conv=>whnf
 refine Af (fun h2=>?_) (fun h2=>?_) <;> simp at h2 <;> conv=>whnf
 ·refine aDraw.seq tys_ok mixed (by kernel_rfl) ?_
  conv=>whnf
  refine⟨by first | omega | (refine⟨rfl,?_,?_⟩ <;> first | omega | (simp only [Ab];done) | (simp only [Ab];omega)) | (simp only [Ab];omega),?_⟩
  conv=>whnf
  refine⟨by first | omega | (refine⟨rfl,?_,?_⟩ <;> first | omega | (simp only [Ab];done) | (simp only [Ab];omega)) | (simp only [Ab];omega),?_⟩
  conv=>whnf
  refine⟨by first | omega | (refine⟨rfl,?_,?_⟩ <;> first | omega | (simp only [Ab];done) | (simp only [Ab];omega)) | (simp only [Ab];omega),?_⟩
  conv=>whnf
  refine Fn.closed (DJ (l.getD k ⟨0,0, []⟩).bytes (hb _ (AC h2))) rfl ?_
  rintro _ rfl
  refine⟨rfl,?_⟩
  conv=>whnf
  refine⟨⟨by rw [Ab,hlk];omega,by omega⟩,?_⟩
  refine⟨k+1,by omega,by omega, [],trivial,⟨rfl,rfl,rfl,rfl,A4 (by omega),trivial⟩,⟨Xg ?_,trivial⟩,rfl,rfl,rfl⟩
  rw [P9 _ _ _ h2,wi (by omega)]
  rfl
 ·obtain rfl:k=l.length:=by omega
  rw [wi (by omega)]
  refine⟨rfl,?_⟩
  conv=>whnf
  refine⟨⟨by rw [Ab,hlk];omega,by omega⟩,?_⟩
  conv=>whnf
  refine⟨by rw [List.length_append,Ab,hlk];simp,?_⟩
  exact⟨Qq (Bt seq epoch l),fun c v h=>Rd.sub (Pp seq epoch l).symm (To seq epoch l) h,rfl⟩
theorem PX (k:Int) (c:Ctx) (u:Value) (h:Rd (.tp [.ag [.v (.int .i64 0), .v (.int .i64 0), .v (.int .i64 0), .v (.slice none 0 0)], .v (.int .i64 k)]) c u):Rd (.tp [.ag (Hq ⟨0,0,0, []⟩), .v (.int .i64 k)]) c u:=by
 refine B3 ?_ c u h
 exact⟨AJ ⟨ri,ri,ri,AP _ _,trivial⟩,ri,trivial⟩
theorem V2 {m:Nat} (h:Nat.ble 2 m=true):∀ z∈ [0,1],z<m:=fun z hz=>by
 have:=Ad h
 simp at hz
 omega
theorem SF (g:Geo) (a:An) (x y:List Gt) (pos seq left:Int) (n:Nat) (W:List Wr) (hn:n=W.length) (hW:W.length<=1000) (hg:AW g=true) (ha:AY g a=true) (hl:a.label.size<=1000000) (hh:a.homes.length<=1000000) (hx:x.length=g.sl) (hy:y.length=g.sl) (hxb:∀ z∈x,z.bytes.length<=100000) (hyb:∀ z∈y,z.bytes.length<=100000) (hp:0<=pos/\pos<g.sl) (hs:0<=seq/\seq<=4294967295) (hlf:left<=g.sl) :
  ACalls Tryz.prog false 169 [.bp 0 0] [.box 231 (QZ g a x y pos seq left (.ow 1 n)), .row 130 2 (W.map Dy)]
   fun r H=>r = .tp [.ag (Hq (if (D9 g a x y pos seq left).1=1 then ⟨seq,pos,(D9 g a x y pos seq left).2.1,(D9 g a x y pos seq left).2.2.1⟩ else ⟨0,0,0, []⟩)), .v (.int .i64 (D9 g a x y pos seq left).1)]/\
    H=(if (D9 g a x y pos seq left).1=1 then [.box 231 (QZ g a x y ((pos+(D9 g a x y pos seq left).2.1).tmod g.sl) (seq+1) (left - (D9 g a x y pos seq left).2.1) (.ow 1 (W ++ (D9 g a x y pos seq left).2.2.2).length)), .row 130 2 ((W ++ (D9 g a x y pos seq left).2.2.2).map Dy)] else [.box 231 (QZ g a x y pos seq left (.ow 1 n)), .row 130 2 (W.map Dy)]):=by
 obtain⟨h1,h2,h3,h4,h5⟩:=Ao.1 hg
 have rc:=fun at_ of_ hat=>Rr g a x y pos seq left at_ of_ n W hg ha hl hh hx hy hxb hyb hp hat
 have rf:=fun at_ of_ hat=>E9 (a:=a) (x:=x) (y:=y) (seq:=seq) (left:=left) (of_:=of_) (at_:=at_) hg hp hat
 have rc0:=rc 0 0 (by omega)
 have rf0:=rf 0 0 (by omega)
 unfold D9
 simp only
 generalize Cx g a x y pos seq left 0 0=q0 at rc0 rf0 |-
 obtain⟨r0,how0,ws0⟩:=q0
 simp only at rc0 rf0 |-
 rcases rf0 with ⟨rfl,⟨k1,k2,k3⟩,k4⟩ | ⟨k1,rfl,rfl⟩
 ·have hN:=GD k1 k3
  have hw1:IntKind.i64.wrap (pos+r0.of_)=pos+r0.of_:=by rw [IntKind.wrap_i64];omega
  have hw2:IntKind.i64.wrap (seq+1)=seq+1:=by rw [IntKind.wrap_i64];omega
  have hw3:IntKind.i64.wrap (left - r0.of_)=left - r0.of_:=by have:=hN.2.2.2.2.1 rfl;rw [IntKind.wrap_i64];omega
  rw [if_neg (show ¬(1:Int)≠1 by decide)]
  generalize hG:AS (fun k=>Cx g a x y pos seq left k r0.of_) (r0.of_ - 1).toNat 1 r0 [] ws0=G
  refine ACalls.of tys_ok Tryz.func169 rfl rfl (by show 1<=_;decide) ?_
  conv=>whnf
  refine ACalls.frame [0,1] rc0 rfl rfl rfl rfl (by decide) (V2 rfl) ⟨rfl,rfl,trivial⟩ ?_
  rintro _ _ ⟨rfl,rfl⟩
  conv=>whnf
  refine aDraw.seq tys_ok mixed (by kernel_rfl) ?_
  conv=>whnf
  refine aLoop.rule (Nat × Rc × List Img × List Wr) (fun z=>([(0, .bp 0 0),(2, .bp 2 0),(3, .v (.int .i64 1)),(4, .bp 6 0),(5, .ow 5 z.2.2.2.length),(6, .v (.int .i64 z.1))], [.box 231 (QZ g a x y pos seq left (.ow 1 n)), .row 130 2 (W.map Dy), .box 78 [.v (.int .i64 seq), .v (.int .i64 pos), .v (.int .i64 r0.of_), .ow 7 z.2.2.1.length], .dead, .dead, .row 130 2 (z.2.2.2.map Dy), .box 85 (DW z.2.1), .row 83 3 (z.2.2.1.map Dc)]))
   (fun z=>(1<=z.1/\z.1<=r0.of_)/\(DA g z.2.1=true/\z.2.1.img.bytes.length<=59)/\(z.2.2.1.length<=z.1/\z.2.2.2.length<=z.1)/\AS (fun k=>Cx g a x y pos seq left k r0.of_) (r0.of_ - z.1).toNat z.1 z.2.1 z.2.2.1 z.2.2.2=G)
   (fun z=>(r0.of_ - z.1).toNat) (1,r0, [],ws0) ⟨⟨Nat.le_refl 1,show ((1:Nat):Int)<=r0.of_ by omega⟩,⟨k1,k2⟩,⟨Ae _,k4⟩,hG⟩ ⟨[(1002003,83,3)],⟨rfl,rfl,trivial⟩,⟨rfl,rfl,rfl,rfl,rfl,rfl,trivial⟩,⟨rfl,rfl,rfl,rfl,rfl,rfl,trivial⟩,rfl,rfl,rfl⟩ ?_
  rintro⟨k,r,im,w⟩ ⟨⟨b1,b2⟩,⟨b3,b4⟩,⟨b5,b6⟩,b7⟩
  dsimp only at b1 b2 b3 b4 b5 b6 b7 |-
  conv=>whnf
  refine aSeq.go ?_
  conv=>whnf
  refine aSeq.cut (List Img) (fun im2=>([(0, .bp 0 0),(2, .bp 2 0),(3, .v (.int .i64 1)),(4, .bp 6 0),(5, .ow 5 w.length),(6, .v (.int .i64 k))], [.box 231 (QZ g a x y pos seq left (.ow 1 n)), .row 130 2 (W.map Dy), .box 78 [.v (.int .i64 seq), .v (.int .i64 pos), .v (.int .i64 r0.of_), .ow 7 im2.length], .dead, .dead, .row 130 2 (w.map Dy), .box 85 (DW r), .row 83 3 (im2.map Dc)])) (fun im2=>im2=if r.kind=1 then im ++ [r.img] else im) ?_ ?_
  ·conv=>whnf
   refine Al (fun hk=>?_) (fun hk=>?_) <;> (repeat rw [Aa] at hk) <;> conv=>whnf
   ·repeat' (first | (refine aSeq.go ?_;conv=>whnf) | (refine Al (fun _=>?_) (fun _=>?_) <;> conv=>whnf) | (refine Fn.cl (Uy r.img.bytes (by omega)) ?_;conv=>whnf) | (refine And.intro (by first | omega | exact of_decide_eq_true rfl) ?_;conv=>whnf) | fail)
    refine⟨⟨by simp,by omega⟩,?_⟩
    conv=>whnf
    exact⟨im ++ [r.img],by rw [if_pos hk], [],trivial,⟨rfl,rfl,rfl,rfl,rfl,rfl,trivial⟩,⟨rfl,rfl,by rw [List.length_append];rfl,rfl,rfl,by rw [Am];rfl,trivial⟩,rfl,rfl,rfl⟩
   ·exact⟨im,by rw [if_neg hk], [],trivial,⟨rfl,rfl,rfl,rfl,rfl,rfl,trivial⟩,⟨rfl,rfl,rfl,rfl,rfl,rfl,trivial⟩,rfl,rfl,rfl⟩
  ·rintro im2 him
   have hl2:im2.length<=k+1:=by
    rw [him]
    split
    ·rw [List.length_append]
     simp only [Ah,AG]
     omega
    ·omega
   conv=>whnf
   refine Al (fun hkN=>?_) (fun hkN=>?_) <;> (repeat rw [Aa] at hkN) <;> conv=>whnf
   ·refine⟨(by rw [Ab]),?_⟩
    conv=>whnf
    refine And.intro ⟨by rw [Ab];exact hn,by omega⟩ ?_
    conv=>whnf
    apply aDraw.treeM 235929600 tys_ok mixed (.one 0 (.one 1 (.one 2 (.one 3 (.one 4 (.one 5 (.one 6 (.one 7 (.one 8 (.one 9 (.one 10 (.one 11 (.one 12 (.one 13 (.one 14 (.one 15 (.one 16 (.one 17 (.one 18 (.one 19 (.one 21 (.one 22 (.one 23 (.one 24 (.one 28 (.one 29 (.three 20 (.two 25 (.two 26 (.two 27 (.one 30 (.one 31 (.one 32 (.one 33 (.one 34 (.one 35 (.one 36 .fin))))))) 30 (.one 31 (.one 32 (.two 27 (.one 33 (.one 34 (.one 35 (.one 36 .fin)))) 33 (.one 27 (.one 34 (.one 35 (.one 36 .fin)))))))) 30 (.one 31 (.one 32 (.two 26 (.two 27 (.one 33 (.one 34 (.one 35 (.one 36 .fin)))) 33 (.one 27 (.one 34 (.one 35 (.one 36 .fin))))) 33 (.one 26 (.one 27 (.one 34 (.one 35 (.one 36 .fin))))))))) 30 (.one 31 (.one 32 (.two 25 (.two 26 (.two 27 (.one 33 (.one 34 (.one 35 (.one 36 .fin)))) 33 (.one 27 (.one 34 (.one 35 (.one 36 .fin))))) 33 (.one 26 (.one 27 (.one 34 (.one 35 (.one 36 .fin)))))) 33 (.one 25 (.one 26 (.one 27 (.one 34 (.one 35 (.one 36 .fin)))))))))) 25 (.three 20 (.two 26 (.two 27 (.one 30 (.one 31 (.one 32 (.one 33 (.one 34 (.one 35 (.one 36 .fin))))))) 30 (.one 31 (.one 32 (.two 27 (.one 33 (.one 34 (.one 35 (.one 36 .fin)))) 33 (.one 27 (.one 34 (.one 35 (.one 36 .fin)))))))) 30 (.one 31 (.one 32 (.two 26 (.two 27 (.one 33 (.one 34 (.one 35 (.one 36 .fin)))) 33 (.one 27 (.one 34 (.one 35 (.one 36 .fin))))) 33 (.one 26 (.one 27 (.one 34 (.one 35 (.one 36 .fin))))))))) 26 (.three 20 (.two 27 (.one 30 (.one 31 (.one 32 (.one 33 (.one 34 (.one 35 (.one 36 .fin))))))) 30 (.one 31 (.one 32 (.two 27 (.one 33 (.one 34 (.one 35 (.one 36 .fin)))) 33 (.one 27 (.one 34 (.one 35 (.one 36 .fin)))))))) 27 (.two 20 (.one 30 (.one 31 (.one 32 (.one 33 (.one 34 (.one 35 (.one 36 .fin))))))) 30 (.one 20 (.one 31 (.one 32 (.one 33 (.one 34 (.one 35 (.one 36 .fin)))))))) 30 (.two 20 (.one 31 (.one 32 (.two 27 (.one 33 (.one 34 (.one 35 (.one 36 .fin)))) 33 (.one 27 (.one 34 (.one 35 (.one 36 .fin))))))) 27 (.one 20 (.one 31 (.one 32 (.one 33 (.one 34 (.one 35 (.one 36 .fin))))))))) 30 (.two 20 (.one 31 (.one 32 (.two 26 (.two 27 (.one 33 (.one 34 (.one 35 (.one 36 .fin)))) 33 (.one 27 (.one 34 (.one 35 (.one 36 .fin))))) 33 (.one 26 (.one 27 (.one 34 (.one 35 (.one 36 .fin)))))))) 26 (.two 20 (.one 31 (.one 32 (.two 27 (.one 33 (.one 34 (.one 35 (.one 36 .fin)))) 33 (.one 27 (.one 34 (.one 35 (.one 36 .fin))))))) 27 (.one 20 (.one 31 (.one 32 (.one 33 (.one 34 (.one 35 (.one 36 .fin)))))))))) 30 (.two 20 (.one 31 (.one 32 (.two 25 (.two 26 (.two 27 (.one 33 (.one 34 (.one 35 (.one 36 .fin)))) 33 (.one 27 (.one 34 (.one 35 (.one 36 .fin))))) 33 (.one 26 (.one 27 (.one 34 (.one 35 (.one 36 .fin)))))) 33 (.one 25 (.one 26 (.one 27 (.one 34 (.one 35 (.one 36 .fin))))))))) 25 (.two 20 (.one 31 (.one 32 (.two 26 (.two 27 (.one 33 (.one 34 (.one 35 (.one 36 .fin)))) 33 (.one 27 (.one 34 (.one 35 (.one 36 .fin))))) 33 (.one 26 (.one 27 (.one 34 (.one 35 (.one 36 .fin)))))))) 26 (.two 20 (.one 31 (.one 32 (.two 27 (.one 33 (.one 34 (.one 35 (.one 36 .fin)))) 33 (.one 27 (.one 34 (.one 35 (.one 36 .fin))))))) 27 (.one 20 (.one 31 (.one 32 (.one 33 (.one 34 (.one 35 (.one 36 .fin))))))))))))))))))))))))))))))))))))) [76,77,78,79,80,81,82,83,84,85,86,87,88,89,90,91,92,93,94,95,96,97,98,99,100,101,102,103,104,105,106,107,108,109] (by kernel_rfl)
    ·refine⟨by omega,?_⟩
     refine And.intro ?_ (And.intro ?_ ?_)
     ·refine And.intro ?_ ?_
      ·refine And.intro ?_ ?_
       ·refine And.intro ?_ ?_
        ·exact⟨rfl,rfl⟩
        ·refine And.intro ?_ ?_
         ·exact⟨rfl,rfl⟩
         ·exact⟨rfl,rfl⟩
       ·refine And.intro ?_ ?_
        ·refine And.intro ?_ ?_
         ·exact⟨rfl,rfl⟩
         ·exact⟨rfl,rfl⟩
        ·exact⟨rfl,rfl⟩
      ·refine And.intro ?_ ?_
       ·refine And.intro ?_ ?_
        ·refine And.intro ?_ ?_
         ·exact⟨rfl,rfl⟩
         ·exact⟨rfl,rfl⟩
        ·exact⟨rfl,rfl⟩
       ·exact⟨rfl,rfl⟩
     ·refine And.intro ?_ (And.intro ?_ ?_)
      ·refine And.intro ?_ ?_
       ·refine And.intro ?_ ?_
        ·exact⟨rfl,rfl⟩
        ·refine And.intro ?_ ?_
         ·exact⟨rfl,rfl⟩
         ·exact⟨rfl,rfl⟩
       ·refine And.intro ?_ ?_
        ·refine And.intro ?_ ?_
         ·exact⟨rfl,rfl⟩
         ·exact⟨rfl,rfl⟩
        ·exact⟨rfl,rfl⟩
      ·refine And.intro ?_ (And.intro ?_ ?_)
       ·refine And.intro ?_ ?_
        ·exact⟨rfl,rfl⟩
        ·refine And.intro ?_ ?_
         ·exact⟨rfl,rfl⟩
         ·exact⟨rfl,rfl⟩
       ·refine And.intro ?_ ?_
        ·exact⟨rfl,rfl⟩
        ·exact⟨rfl,rfl⟩
       ·refine And.intro ?_ ?_
        ·refine And.intro ?_ ?_
         ·exact⟨rfl,rfl⟩
         ·exact⟨rfl,rfl⟩
        ·exact⟨rfl,rfl⟩
      ·refine And.intro ?_ ?_
       ·refine And.intro ?_ ?_
        ·refine And.intro ?_ ?_
         ·exact⟨rfl,rfl⟩
         ·exact⟨rfl,rfl⟩
        ·exact⟨rfl,rfl⟩
       ·refine And.intro ?_ ?_
        ·refine And.intro ?_ ?_
         ·exact⟨rfl,rfl⟩
         ·exact⟨rfl,rfl⟩
        ·exact⟨rfl,rfl⟩
     ·refine And.intro ?_ ?_
      ·refine And.intro ?_ ?_
       ·refine And.intro ?_ ?_
        ·refine And.intro ?_ ?_
         ·exact⟨rfl,rfl⟩
         ·exact⟨rfl,rfl⟩
        ·exact⟨rfl,rfl⟩
       ·exact⟨rfl,rfl⟩
      ·refine And.intro ?_ ?_
       ·refine And.intro ?_ ?_
        ·refine And.intro ?_ ?_
         ·exact⟨rfl,rfl⟩
         ·exact⟨rfl,rfl⟩
        ·exact⟨rfl,rfl⟩
       ·refine And.intro ?_ ?_
        ·refine And.intro ?_ ?_
         ·exact⟨rfl,rfl⟩
         ·exact⟨rfl,rfl⟩
        ·exact⟨rfl,rfl⟩
    refine⟨(by rw [Ab]),?_⟩
    conv=>whnf
    have e0:(r0.of_ - (k:Int)).toNat=0:=by omega
    rw [e0] at b7
    simp only [AS] at b7
    rw [<-him] at b7
    subst b7
    rw [hw1,hw2,hw3]
    refine⟨.tp [.ag (Hq ⟨seq,pos,r0.of_,im2⟩), .v (.int .i64 1)], [.box 231 (QZ g a x y ((pos+r0.of_).tmod g.sl) (seq+1) (left - r0.of_) (.ow 1 (W ++ w).length)), .row 130 2 ((W ++ w).map Dy)],?_,⟨?_,?_,trivial⟩,rfl,rfl,rfl,rfl⟩
    ·refine B3 ?_
     exact⟨AJ ⟨ri,ri,ri,AH im2 rfl rfl,trivial⟩,ri,trivial⟩
    ·rw [List.length_append,<-hn]
    ·rw [Am]
   ·have rck:=rc k r0.of_ (by omega)
    have rfk:=rf k r0.of_ (by omega)
    rw [show (r0.of_ - (k:Int)).toNat=(r0.of_ - ((k+1:Nat):Int)).toNat+1 by omega] at b7
    unfold AS at b7
    simp only at b7
    generalize Cx g a x y pos seq left k r0.of_=qk at rck rfk b7
    obtain⟨rk,hk,wk⟩:=qk
    simp only at rck rfk b7
    rcases rfk with ⟨rfl,⟨e1,e2,e3⟩,e4⟩ | ⟨e1,rfl,rfl⟩
    ·refine ACalls.frame [0,1] rck rfl rfl rfl rfl (by decide) (V2 rfl) ⟨rfl,rfl,trivial⟩ ?_
     rintro _ _ ⟨rfl,rfl⟩
     refine⟨(by rw [Ab]),?_⟩
     refine⟨⟨by rw [Ab],by omega⟩,?_⟩
     conv=>whnf
     exact⟨(k+1,rk,im2,w ++ wk),⟨⟨Nat.succ_le_succ (Ae _),show ((k+1:Nat):Int)<=r0.of_ by omega⟩,⟨e1,e2⟩,⟨hl2,show (w ++ wk).length<=k+1 by rw [List.length_append];omega⟩,by rw [if_neg (show ¬(1:Int)≠1 by decide),<-him] at b7;exact b7⟩,show (r0.of_ - ((k+1:Nat):Int)).toNat<(r0.of_ - (k:Int)).toNat by omega, [],trivial,⟨rfl,rfl,rfl,rfl,by rw [List.length_append];rfl,A4 (by omega),trivial⟩,⟨rfl,rfl,rfl,by rw [Am],rfl,rfl,trivial⟩,rfl,rfl,rfl⟩
    ·rcases e1 with rfl | rfl
     all_goals
      refine ACalls.frame [0,1] rck rfl rfl rfl rfl (by decide) (V2 rfl) ⟨rfl,rfl,trivial⟩ ?_
      rintro _ _ ⟨rfl,rfl⟩
      conv=>whnf
      rw [if_pos (by decide)] at b7
      subst b7
      exact⟨_, [.box 231 (QZ g a x y pos seq left (.ow 1 n)), .row 130 2 (W.map Dy)],PX _,⟨rfl,rfl,trivial⟩,rfl,rfl,rfl,rfl⟩
 ·rw [if_pos (show how0≠1 by omega)]
  simp only [if_neg (show ¬how0=1 by omega)]
  refine ACalls.of tys_ok Tryz.func169 rfl rfl (by show 1<=_;decide) ?_
  rcases k1 with rfl | rfl
  all_goals
   conv=>whnf
   refine ACalls.frame [0,1] rc0 rfl rfl rfl rfl (by decide) (V2 rfl) ⟨rfl,rfl,trivial⟩ ?_
   rintro _ _ ⟨rfl,rfl⟩
   exact⟨_, [.box 231 (QZ g a x y pos seq left (.ow 1 n)), .row 130 2 (W.map Dy)],PX _,⟨rfl,rfl,trivial⟩,rfl,rfl,rfl,rfl⟩
def F5 (g:Geo) (a:An) (x y:List Gt):List Tx × List Wr × Int:=
 if AW g&&AY g a then (if (x.length:Int)=g.sl/\(y.length:Int)=g.sl then CS g a x y else ([], [],2)) else ([], [],1)
theorem D6 (k:Int) (c:Ctx) (u:Value) (h:Rd (.tp [.v (.slice none 0 0), .v (.slice none 0 0), .v (.int .i64 k)]) c u):Rd (.tp [D8 [],F0 [], .v (.int .i64 k)]) c u:=by
 refine B3 ?_ c u h
 exact⟨AP _ _,AP _ _,fun _ _ h=>h,trivial⟩
theorem BV {g:Geo} {a:An} (h:AY g a=true):(0<=a.seq/\a.seq<=4294967296)/\0<=a.pos/\a.pos<g.sl:=by
 simp only [AY,Bl,Bool.and_eq_true,AE] at h
 omega
theorem WG {m:Nat} (h:Nat.ble 5 m=true):∀ z∈ [2,4],z<m:=fun z hz=>by
 have:=Ad h
 simp at hz
 omega
theorem JK {look:Int->Rc × Int × List Wr}:∀ (f:Nat) (k:Int) (r:Rc) (im:List Img) (w:List Wr),(∀ i,k<=i->i<k+f->(look i).2.2.length<=1)->(AS look f k r im w).2.2.length<=w.length+f
 | 0,_,_,_,_,_=>by simp [AS]
 | f+1,k,r,im,w,h=>by
  have h1:=h k (by omega) (by omega)
  unfold AS
  simp only
  split
  ·simp
  ·have:=JK f (k+1) (look k).1 (if r.kind=1 then im ++ [r.img] else im) (w ++ (look k).2.2) fun i h2 h3=>h i (by omega) (by omega)
   rw [List.length_append] at this
   omega
theorem JL {look:Int->Rc × Int × List Wr}:∀ (f:Nat) (k:Int) (r:Rc) (im:List Img) (w:List Wr),(∀ i,k<=i->i<k+f->(look i).2.1=1\/(look i).2.1=2\/(look i).2.1=3)->(AS look f k r im w).1=1\/(AS look f k r im w).1=2\/(AS look f k r im w).1=3
 | 0,_,_,_,_,_=> .inl rfl
 | f+1,k,r,im,w,h=>by
  have h1:=h k (by omega) (by omega)
  unfold AS
  simp only
  split
  ·exact h1
  ·exact JL f (k+1) (look k).1 (if r.kind=1 then im ++ [r.img] else im) (w ++ (look k).2.2) fun i h2 h3=>h i (by omega) (by omega)
theorem Fi {g:Geo} {a:An} {x y:List Gt} {pos seq left:Int} (hg:AW g=true) (hp:0<=pos/\pos<g.sl) :
  ((D9 g a x y pos seq left).1=1/\(2<=(D9 g a x y pos seq left).2.1/\(D9 g a x y pos seq left).2.1<=left/\(D9 g a x y pos seq left).2.1<=30)/\(D9 g a x y pos seq left).2.2.2.length<=30)\/((D9 g a x y pos seq left).1=2\/(D9 g a x y pos seq left).1=3):=by
 have r0:=E9 (a:=a) (x:=x) (y:=y) (seq:=seq) (left:=left) (of_:=0) (at_:=0) hg hp (by omega)
 unfold D9
 simp only
 rcases r0 with ⟨e1,⟨e2, -,e3⟩,e4⟩ | ⟨e1, -, -⟩
 ·rw [if_neg (by omega)]
  have hN:=GD e2 e3
  have hA:=fun(i:Int) (h1:1<=i) (h2:i<1+((Cx g a x y pos seq left 0 0).1.of_ - 1).toNat)=>E9 (a:=a) (x:=x) (y:=y) (seq:=seq) (left:=left) (of_:=(Cx g a x y pos seq left 0 0).1.of_) (at_:=i) hg hp (by omega)
  have hH:=JL (look:=fun k=>Cx g a x y pos seq left k (Cx g a x y pos seq left 0 0).1.of_) ((Cx g a x y pos seq left 0 0).1.of_ - 1).toNat 1 (Cx g a x y pos seq left 0 0).1 [] (Cx g a x y pos seq left 0 0).2.2 fun i h1 h2=>(hA i h1 h2).imp (fun h=>h.1) fun h=>h.1
  split
  ·exact .inr (hH.resolve_left ‹_›)
  ·refine .inl ⟨rfl,⟨hN.1,hN.2.2.2.2.1 rfl,hN.2.1⟩,?_⟩
   have:=JK (look:=fun k=>Cx g a x y pos seq left k (Cx g a x y pos seq left 0 0).1.of_) ((Cx g a x y pos seq left 0 0).1.of_ - 1).toNat 1 (Cx g a x y pos seq left 0 0).1 [] (Cx g a x y pos seq left 0 0).2.2 fun i h1 h2=>by
    rcases hA i h1 h2 with ⟨_,_,h⟩ | ⟨_,h,_⟩
    ·exact h
    ·rw [h];simp
   exact Ba this (by omega)
 ·rw [if_pos (by omega)]
  exact .inr e1
theorem Va (g:Geo) (a:An) (x y:List Gt) (hl:a.label.size<=1000000) (hh:a.homes.length<=1000000) (hxb:∀ z∈x,z.bytes.length<=100000) (hyb:∀ z∈y,z.bytes.length<=100000) :
  Fn Tryz.prog 114 [.ag (A9 g), .ag (CN a),BU x,BU y] fun r=>r = .tp [D8 (F5 g a x y).1,F0 (F5 g a x y).2.1, .v (.int .i64 (F5 g a x y).2.2)]:=by
 have s1:=Ho g a hl hh
 unfold F5
 cases hA:AW g&&AY g a with
 | false=>
  rw [hA] at s1
  refine Fn.st Tryz.func114 rfl ?_
  conv=>whnf
  refine Fn.cl s1 ?_
  exact⟨_,fun c u h=>D6 1 c u h,rfl⟩
 | true=>
  rw [hA] at s1
  obtain⟨hg,ha⟩:=Bool.and_eq_true_iff.1 hA
  obtain⟨h1,h2,h3,h4,h5⟩:=Ao.1 hg
  rw [if_pos rfl]
  by_cases hx:(x.length:Int)=g.sl/\(y.length:Int)=g.sl
  ·rw [if_pos hx]
   obtain⟨hx,hy⟩:=hx
   refine Fn.st Tryz.func114 rfl ?_
   conv=>whnf
   refine Fn.cl s1 ?_
   conv=>whnf
   refine Al (fun t1=>?_) (fun t1=>?_) <;> (repeat rw [Aa] at t1) <;> conv=>whnf
   ·exact absurd hx t1
   refine Al (fun t2=>?_) (fun t2=>?_) <;> (repeat rw [Aa] at t2) <;> conv=>whnf
   ·exact absurd hy t2
   have hq:=BV ha
   unfold CS
   generalize hR:CT g a x y g.sl.toNat a.pos a.seq g.sl [] []=R
   refine aLoop.rule (Nat × Int × Int × Int × List Tx × List Wr) (fun z=>([(5, .bp 1 0),(11, .bp 2 0),(8, .ow 3 z.2.2.2.2.1.length)], [.box 23 (A9 g), .box 40 (CN a), .box 231 (QZ g a x y z.2.1 z.2.2.1 z.2.2.2.1 (.ow 4 z.2.2.2.2.2.length)), .row 78 4 (z.2.2.2.2.1.map Hq), .row 130 2 (z.2.2.2.2.2.map Dy)]))
    (fun z=>CT g a x y z.1 z.2.1 z.2.2.1 z.2.2.2.1 z.2.2.2.2.1 z.2.2.2.2.2=R/\z.2.2.2.1<=z.1/\(0<=z.2.1/\z.2.1<g.sl)/\(0<=z.2.2.1/\z.2.2.1<=4294967296)/\z.2.2.2.2.1.length*2+z.2.2.2.1<=g.sl/\z.2.2.2.2.2.length<=z.2.2.2.2.1.length*30)
    (fun z=>z.1) (g.sl.toNat,a.pos,a.seq,g.sl, [], []) ⟨hR,show g.sl<=(g.sl.toNat:Int) by omega,hq.2,hq.1,show (0:Int)*2+g.sl<=g.sl by omega,Nat.le_refl 0⟩ ⟨[(8,78,4),(1002017,130,2)],⟨rfl,rfl,rfl,rfl,trivial⟩,⟨rfl,rfl,rfl,trivial⟩,⟨rfl,rfl,rfl,rfl,rfl,trivial⟩,rfl,rfl,rfl⟩ ?_
   rintro⟨f,pos,seq,left,l,w⟩ ⟨b1,b2,b3,b4,b5,b6⟩
   dsimp only at b1 b2 b3 b4 b5 b6 |-
   conv=>whnf
   refine Al (fun c1=>?_) (fun c1=>?_) <;> (repeat rw [Aa] at c1) <;> conv=>whnf
   ·refine Al (fun c2=>?_) (fun c2=>?_) <;> (repeat rw [Aa] at c2) <;> conv=>whnf
    ·cases f with
     | zero=>exfalso;omega
     | succ f=>
      unfold CT at b1
      rw [if_pos ⟨c1,c2⟩] at b1
      simp only at b1
      have tx:=SF g a x y pos seq left w.length w rfl (by omega) hg ha hl hh hx hy hxb hyb b3 ⟨b4.1,c2⟩ (by omega)
      have tf:=Fi (a:=a) (x:=x) (y:=y) (seq:=seq) (left:=left) hg b3
      generalize D9 g a x y pos seq left=q at tx tf b1
      obtain⟨how,n,im,ws⟩:=q
      simp only at tx tf b1
      rcases tf with ⟨rfl,tf1,tf2⟩ | tf
      ·rw [if_pos rfl,if_pos rfl] at tx
       have hm:=Au (pos+n) (show 0<g.sl by omega)
       have hm0:=A6 g.sl (show 0<=pos+n by omega)
       have hI2:CT g a x y f ((pos+n).tmod g.sl) (seq+1) (left - n) (l ++ [⟨seq,pos,n,im⟩]) (w ++ ws)=R/\left - n<=(f:Int)/\(0<=(pos+n).tmod g.sl/\(pos+n).tmod g.sl<g.sl)/\(0<=seq+1/\seq+1<=4294967296)/\((l ++ [(⟨seq,pos,n,im⟩:Tx)]).length:Int)*2+(left - n)<=g.sl/\(w ++ ws).length<=(l ++ [(⟨seq,pos,n,im⟩:Tx)]).length*30:=by
        rw [if_neg (by decide),if_neg (by decide)] at b1
        rw [List.length_append,List.length_append]
        simp only [Ah,AG]
        exact⟨b1,by omega,⟨hm0,hm⟩,by omega,by omega,by omega⟩
       refine ACalls.frame [2,4] tx rfl rfl rfl rfl (by decide) (WG rfl) ⟨rfl,rfl,trivial⟩ ?_
       rintro _ _ ⟨rfl,rfl⟩
       refine⟨rfl,?_⟩
       refine⟨⟨by rw [Ab],by omega⟩,?_⟩
       conv=>whnf
       refine⟨(f,(pos+n).tmod g.sl,seq+1,left - n,l ++ [⟨seq,pos,n,im⟩],w ++ ws),?_,Nat.lt_succ_self f, [],trivial,⟨rfl,rfl,congrArg (AV.ow 3) (show l.length+1=(l ++ [(⟨seq,pos,n,im⟩:Tx)]).length by rw [List.length_append];rfl),trivial⟩,⟨rfl,rfl,rfl,by rw [Am];rfl,rfl,trivial⟩,rfl,rfl,rfl⟩
       exact hI2
      ·rw [if_neg (show ¬how=1 by omega),if_neg (show ¬how=1 by omega)] at tx
       rcases tf with rfl | rfl
       ·rw [if_neg (by decide),if_pos (by decide)] at b1
        subst b1
        refine ACalls.frame [2,4] tx rfl rfl rfl rfl (by decide) (WG rfl) ⟨rfl,rfl,trivial⟩ ?_
        rintro _ _ ⟨rfl,rfl⟩
        conv=>whnf
        refine aDraw.seq tys_ok mixed (by kernel_rfl) ?_
        conv=>whnf
        have hws:IntKind.i64.wrap (seq - 1)=seq - 1:=by rw [IntKind.wrap_i64];omega
        refine Al (fun e1=>?_) (fun e1=>?_) <;> (repeat rw [Aa] at e1) <;> conv=>whnf
        ·rw [hws] at e1
         exact⟨_,fun c u h=>D6 12 c u h,by rw [Ex e1];rfl⟩
        ·rw [hws] at e1
         refine aDraw.seq tys_ok mixed (by kernel_rfl) ?_
         refine⟨(by rw [Ab]),?_⟩
         refine⟨(by rw [Ab]),?_⟩
         exact⟨.tp [D8 l,F0 w, .v (.int .i64 0)],B3 ⟨AH l rfl rfl,AH w rfl rfl,ri,trivial⟩,by rw [DF (by omega)]⟩
       ·rw [if_pos rfl] at b1
        subst b1
        refine ACalls.frame [2,4] tx rfl rfl rfl rfl (by decide) (WG rfl) ⟨rfl,rfl,trivial⟩ ?_
        rintro _ _ ⟨rfl,rfl⟩
        exact⟨_,fun c u h=>D6 12 c u h,rfl⟩
    ·have hb:some (l,w,seq)=R:=by
      cases f with
      | zero=>exact b1
      | succ f=>unfold CT at b1;rw [if_neg (by omega)] at b1;exact b1
     subst hb
     refine aDraw.seq tys_ok mixed (by kernel_rfl) ?_
     conv=>whnf
     have hws:IntKind.i64.wrap (seq - 1)=seq - 1:=by rw [IntKind.wrap_i64];omega
     refine Al (fun e1=>?_) (fun e1=>?_) <;> (repeat rw [Aa] at e1) <;> conv=>whnf
     ·rw [hws] at e1
      exact⟨_,fun c u h=>D6 12 c u h,by rw [Ex e1];rfl⟩
     ·rw [hws] at e1
      refine aDraw.seq tys_ok mixed (by kernel_rfl) ?_
      refine⟨(by rw [Ab]),?_⟩
      refine⟨(by rw [Ab]),?_⟩
      exact⟨.tp [D8 l,F0 w, .v (.int .i64 0)],B3 ⟨AH l rfl rfl,AH w rfl rfl,ri,trivial⟩,by rw [DF (by omega)]⟩
   ·have hb:some (l,w,seq)=R:=by
     cases f with
     | zero=>exact b1
     | succ f=>unfold CT at b1;rw [if_neg (by omega)] at b1;exact b1
    subst hb
    refine aDraw.seq tys_ok mixed (by kernel_rfl) ?_
    conv=>whnf
    have hws:IntKind.i64.wrap (seq - 1)=seq - 1:=by rw [IntKind.wrap_i64];omega
    refine Al (fun e1=>?_) (fun e1=>?_) <;> (repeat rw [Aa] at e1) <;> conv=>whnf
    ·rw [hws] at e1
     exact⟨_,fun c u h=>D6 12 c u h,by rw [Ex e1];rfl⟩
    ·rw [hws] at e1
     refine aDraw.seq tys_ok mixed (by kernel_rfl) ?_
     refine⟨(by rw [Ab]),?_⟩
     refine⟨(by rw [Ab]),?_⟩
     exact⟨.tp [D8 l,F0 w, .v (.int .i64 0)],B3 ⟨AH l rfl rfl,AH w rfl rfl,ri,trivial⟩,by rw [DF (by omega)]⟩
  ·rw [if_neg hx]
   refine Fn.st Tryz.func114 rfl ?_
   conv=>whnf
   refine Fn.cl s1 ?_
   conv=>whnf
   refine Al (fun t1=>?_) (fun t1=>?_) <;> (repeat rw [Aa] at t1) <;> conv=>whnf
   ·exact⟨_,fun c u h=>D6 2 c u h,rfl⟩
   refine Al (fun t2=>?_) (fun t2=>?_) <;> (repeat rw [Aa] at t2) <;> conv=>whnf
   ·exact⟨_,fun c u h=>D6 2 c u h,rfl⟩
   ·exact absurd ⟨t1,t2⟩ hx
def QJ (g:Geo) (t:Tx) (s:Int):Int:=(IntKind.i64.wrap (IntKind.i64.wrap (s - t.pos)+g.sl)).tmod g.sl
def No (g:Geo) (t:Tx) (s:Int):Bool:=BW t.pos 0 (g.sl - 1)&&BW t.n 0 g.sl&&decide (QJ g t s<t.n)
def Hu (g:Geo) (s:Int):List Tx->Nat->Option (Nat × Int)
 | [],_=>none
 | t::r,i=>if No g t s then some (i,QJ g t s) else Hu g s r (i+1)
end Go.Proofs.YtldngmdpiifamaaGreatDoor.A
end
section
namespace Go.Proofs.YtldngmdpiifamaaGreatDoor

def rc0:Rc:=⟨0,0,0,0,0,⟨0,0, []⟩⟩
theorem Lr (seq epoch:Int) (l:List Img):(Bt seq epoch l).length=l.length+1:=by
 unfold Bt
 rw [List.length_append,GL]
 simp
theorem LG (seq epoch:Int) (l:List Img) {k:Nat} (hk:k<l.length+1):(Bt seq epoch l).getD k rc0=if k<l.length then ⟨1,seq,epoch,(k:Nat),l.length+1,l.getD k ⟨0,0, []⟩⟩ else ⟨2,seq,epoch,(k:Nat),l.length+1,noImg⟩:=by
 have hlen:(HW seq epoch (l.length+1) l.length l).length=l.length:=by rw [GL];omega
 unfold Bt
 rw [List.getD_eq_getElem?_getD]
 by_cases h:k<l.length
 ·rw [if_pos h,List.getElem?_append_left (by omega)]
  have h2:(HW seq epoch (l.length+1) l.length l)[k]? = some ⟨1,seq,epoch,(k:Nat),l.length+1,l[k]⟩:=by
   unfold HW
   rw [List.take_length,List.getElem?_map,List.getElem?_zipIdx,List.getElem?_eq_getElem h]
   simp
  rw [h2,List.getD_eq_getElem?_getD,List.getElem?_eq_getElem h]
  rfl
 ·have e:k=l.length:=by omega
  subst e
  rw [if_neg h,List.getElem?_append_right (by omega),hlen]
  simp
structure RecAt (g:Geo) (seq epoch:Int) (l:List Img) (k:Nat) (r:Rc):Prop where
 ok:DA g r=true
 seq:r.seq=seq
 epoch:r.epoch=epoch
 at_:r.at_=(k:Nat)
 of_:r.of_=l.length+1
 kind:r.kind≠0
 img:(r.kind=1↔k<l.length)/\(k<l.length->r.img=l.getD k ⟨0,0, []⟩)
theorem Vl {g:Geo} {seq epoch:Int} {l:List Img} (hg:AW g=true) (hs:0<=seq/\seq<=4294967295) (he:0<=epoch/\epoch<=4294967295) (hi:∀ x∈l,Cr g x=true) (h1:1<=l.length) (h2:l.length<=29) {k:Nat} (hk:k<l.length+1) :
  RecAt g seq epoch l k ((Bt seq epoch l).getD k rc0):=by
 have hs':BW seq 0 4294967295=true:=AE.2 hs
 have he':BW epoch 0 4294967295=true:=AE.2 he
 rw [LG seq epoch l hk]
 split
 ·rename_i h
  have hm:l.getD k ⟨0,0, []⟩∈l:=by rw [List.getD_eq_getElem?_getD,List.getElem?_eq_getElem h];exact BF h
  refine⟨?_,rfl,rfl,rfl,rfl,by show (1:Int)≠0;decide,⟨fun _=>h,fun _=>rfl⟩,fun _=>rfl⟩
  simp only [DA,hg,DH,E3,hs',he',hi _ hm,Be,BM]
  simp only [if_neg (show ¬(1:Int)=0 by omega),if_true,Bool.and_eq_true,AE]
  omega
 ·rename_i h
  refine⟨?_,rfl,rfl,rfl,rfl,by show (2:Int)≠0;decide,⟨fun h=>absurd h (by show ¬(2:Int)=1;decide),fun h'=>absurd h' h⟩,fun h'=>absurd h' h⟩
  simp only [DA,hg,DH,E3,hs',he',Be]
  simp only [if_neg (show ¬(2:Int)=0 by omega),if_neg (show ¬(2:Int)=1 by omega),if_true,Bool.and_eq_true,AE,beq_iff_eq,EZ,noImg]
  simp;omega
end Go.Proofs.YtldngmdpiifamaaGreatDoor
end
section
namespace Go.Proofs.YtldngmdpiifamaaGreatDoor.A
open Go.RowKit
def tz:Tx:=⟨0,0,0, []⟩
def Gc (g:Geo) (l:List Tx) (epoch s:Int):Rc:=match Hu g s l 0 with
 | none=>zeroC
 | some (i,k)=>(Bt (l.getD i tz).seq epoch (l.getD i tz).images).getD k.toNat zeroC
def FH (g:Geo) (l:List Tx) (epoch copy:Int) (n:Nat):List Gt:=(List.range n).map fun s=>⟨0,Cu g (Gc g l epoch (s:Nat)) copy (s:Nat)⟩
structure LogOk (g:Geo) (l:List Tx) (epoch:Int):Prop where
 len:l.length<=1000
 img:∀ t∈l,t.images.length<=1000/\∀ x∈t.images,x.bytes.length<=1000000
 who:∀ s i k,0<=s/\s<g.sl->Hu g s l 0=some (i,k)->i<l.length/\0<=k/\k.toNat<(l.getD i tz).images.length+1
 ok:∀ s,0<=s/\s<g.sl->DA g (Gc g l epoch s)=true
def SubLL:List (List AV)->List (List AV)->Prop
 | [], []=>True
 | a::r,b::s=>SubL a b/\SubLL r s
 | _,_=>False
theorem SubLL.get:∀ {es fs:List (List AV)} {i:Nat},SubLL es fs->i<es.length->SubL (es.getD i []) (fs.getD i [])
 | [],_,_,_,h=>by simp at h
 | a::r,b::s,0,h,_=>by simpa using h.1
 | a::r,b::s,i+1,h,hi=>by
  have:=SubLL.get (i:=i) h.2 (by simpa using hi)
  simpa using this
 | _::_, [],_,h,_=>h.elim
theorem G7 {α:Type} {f:α->List AV} {d:α} {sz n:Nat} {es:List (List AV)} (l:List α) (hn:n=l.length) (he:n=es.length) (h:SubLL es (l.map f)) (c:Ctx) (u:Value) (hr:Rd (.sl sz n fun i=>es.getD i []) c u):Rd (.sl sz l.length fun i=>f (l.getD i d)) c u:=
 Rd.sub hn (fun i hi=>by
  have:=h.get (i:=i) (by omega)
  rwa [AX (d:=d) (by omega)] at this) hr
theorem Mm {g:Geo} {l:List Tx} {epoch:Int} (hg:AW g=true) (h:LogOk g l epoch) {copy:Int} (hc:copy=0\/copy=1) {s:Nat} (hs:(s:Int)<g.sl):BZ g ((FH g l epoch copy g.sl.toNat).getD s gz) copy (s:Nat)=some (Gc g l epoch (s:Nat)):=by
 have hin:(0:Int)<=(s:Nat)/\((s:Nat):Int)<g.sl:=by omega
 have e:(FH g l epoch copy g.sl.toNat).getD s gz=⟨0,Cu g (Gc g l epoch (s:Nat)) copy (s:Nat)⟩:=by
  unfold FH
  rw [AX (d:=0) (by rw [List.length_range];omega)]
  rw [List.getD_eq_getElem?_getD,List.getElem?_range (by omega)]
  rfl
 rw [e]
 refine LD hg (h.ok s hin) ?_
 rw [FJ,AE.2 (show 0<=((s:Nat):Int)/\((s:Nat):Int)<=g.sl - 1 by omega)]
 rcases hc with rfl | rfl <;> rfl
theorem Ja {g:Geo} {x:Gt} {copy s:Int} (h:¬(0<=s/\s<g.sl)):BZ g x copy s=none:=by
 refine Pc ?_
 have:BW s 0 (g.sl - 1)=false:=by
  rw [<-Br]
  intro e
  have:=AE.1 e
  omega
 rw [FJ,this]
 simp
def JG (a:An) (p q:Int->Option Rc) (slot seq at_ of_ left:Int):Rc × List Int × Int:=
 BO (p slot) (q slot) (CE (p slot) a seq at_ of_ left) (CE (q slot) a seq at_ of_ left)
def BI (g:Geo) (a:An) (p q:Int->Option Rc) (pos seq left at_ of_:Int):Rc × Int × List Wr:=
 let s:=AO g pos at_
 let z:=JG a p q s seq at_ of_ left
 (z.1,z.2.2,z.2.1.map fun c=>⟨AK g c s,Cu g z.1 c s⟩)
def ER (g:Geo) (a:An) (p q:Int->Option Rc) (pos seq left:Int):Int × Int × List Img × List Wr:=
 let z:=BI g a p q pos seq left 0 0
 if z.2.1≠1 then (z.2.1,0, [], []) else
  let t:=AS (fun k=>BI g a p q pos seq left k z.1.of_) (z.1.of_ - 1).toNat 1 z.1 [] z.2.2
  if t.1≠1 then (t.1,0, [], []) else (1,z.1.of_,t.2.1,t.2.2)
def Dg (g:Geo) (a:An) (p q:Int->Option Rc):Nat->Int->Int->Int->List Tx->List Wr->Option (List Tx × List Wr × Int)
 | 0,_,seq,_,l,w=>some (l,w,seq)
 | f+1,pos,seq,left,l,w=>
  if 0<left/\seq<=4294967295 then
   let t:=ER g a p q pos seq left
   if t.1=3 then none else if t.1≠1 then some (l,w,seq)
   else Dg g a p q f ((pos+t.2.1).tmod g.sl) (seq+1) (left - t.2.1) (l ++ [⟨seq,pos,t.2.1,t.2.2.1⟩]) (w ++ t.2.2.2)
  else some (l,w,seq)
def J9 (g:Geo) (a:An) (p q:Int->Option Rc):List Tx × List Wr × Int:=Lt a (Dg g a p q g.sl.toNat a.pos a.seq g.sl [] [])
def DB (g:Geo) (x:List Gt) (copy:Int):Int->Option Rc:=fun s=>BZ g (x.getD s.toNat gz) copy s
theorem Qe (g:Geo) (a:An) (x y:List Gt):∀ (f:Nat) (pos seq left:Int) (l:List Tx) (w:List Wr),CT g a x y f pos seq left l w=Dg g a (DB g x 0) (DB g y 1) f pos seq left l w
 | 0,_,_,_,_,_=>rfl
 | f+1,pos,seq,left,l,w=>by
  unfold CT Dg
  have e:D9 g a x y pos seq left=ER g a (DB g x 0) (DB g y 1) pos seq left:=rfl
  rw [e]
  simp only [Qe g a x y f]
theorem Mr (g:Geo) (a:An) (x y:List Gt):CS g a x y=J9 g a (DB g x 0) (DB g y 1):=by
 unfold CS J9
 rw [Qe]
def Gr (g:Geo) (l:List Tx) (epoch:Int) (bad:Int->Bool):Int->Option Rc:=fun s=>if 0<=s/\s<g.sl then (if bad s then none else some (Gc g l epoch s)) else none
theorem Qg {g:Geo} {l:List Tx} {epoch:Int} (hg:AW g=true) (h:LogOk g l epoch) {copy:Int} (hc:copy=0\/copy=1):DB g (FH g l epoch copy g.sl.toNat) copy=Gr g l epoch fun _=>false:=by
 funext s
 unfold DB Gr
 by_cases hs:0<=s/\s<g.sl
 ·rw [if_pos hs,if_neg (Bool.false_ne_true)]
  obtain⟨k,rfl⟩:=Cv hs.1
  rw [Aa]
  exact Mm hg h hc hs.2
 ·rw [if_neg hs]
  exact Ja hs
theorem RdL.split {c:Ctx}:∀ {l m:List AV} {xs:List Value},RdL (l ++ m) c xs->∃ a b,xs=a ++ b/\RdL l c a/\RdL m c b
 | [],m,xs,h=>⟨[],xs,rfl,by simp only [RdL],h⟩
 | x::l,m,xs,h=>by
  simp only [Bc,RdL] at h
  obtain⟨y,ys,rfl,h1,h2⟩:=h
  obtain⟨a,b,rfl,h3,h4⟩:=RdL.split h2
  exact⟨y::a,b,rfl,by simp only [RdL];exact⟨y,a,rfl,h1,h3⟩,h4⟩
theorem SubLL.len:∀ {es fs:List (List AV)},SubLL es fs->es.length=fs.length
 | [], [],_=>rfl
 | _::_,_::_,h=>by simp [SubLL.len h.2]
 | [],_::_,h=>h.elim
 | _::_, [],h=>h.elim
theorem SubLL.flat:∀ {es fs:List (List AV)} {c:Ctx} {xs:List Value},SubLL es fs->RdL es.flatten c xs->RdL fs.flatten c xs
 | [], [],_,_,_,h=>h
 | a::r,b::s,c,xs,h,hr=>by
  rw [A0] at hr |-
  obtain⟨x1,x2,rfl,h1,h2⟩:=RdL.split hr
  exact RdL.append (h.1.rdl h1) (SubLL.flat h.2 h2)
 | [],_::_,_,_,h,_=>h.elim
 | _::_, [],_,_,h,_=>h.elim
theorem SubLL.sz:∀ {es fs:List (List AV)} {sz:Nat},SubLL es fs->(∀ e∈es,e.length=sz)->∀ e∈fs,e.length=sz
 | [], [],_,_,_=>by simp
 | a::r,b::s,sz,h,hs=>by
  intro e he
  rcases Bn.1 he with rfl | he
  ·rw [<-h.1.len];exact hs a (by simp)
  ·exact SubLL.sz h.2 (fun e he=>hs e (A7 _ he)) e he
 | [],_::_,_,h,_=>h.elim
 | _::_, [],_,h,_=>h.elim
def ABSub:AB->AB->Prop
 | .row t sz es, .row t' sz' es'=>t=t'/\sz=sz'/\SubLL es es'
 | x,y=>x=y
def HSub:List AB->List AB->Prop
 | [], []=>True
 | x::r,y::s=>ABSub x y/\HSub r s
 | _,_=>False
theorem HSub.len:∀ {H H':List AB},HSub H H'->H.length=H'.length
 | [], [],_=>rfl
 | _::_,_::_,h=>by simp [HSub.len h.2]
 | [],_::_,h=>h.elim
 | _::_, [],h=>h.elim
theorem HSub.get:∀ {H H':List AB} {k:Nat} {y:AB},HSub H H'->H'[k]? = some y->∃ x,H[k]? = some x/\ABSub x y
 | [], [],k,y,_,h=>by simp at h
 | x::r,y::s,0,z,h,hz=>by
  simp at hz
  subst hz
  exact⟨x,by simp,h.1⟩
 | x::r,y::s,k+1,z,h,hz=>by
  obtain⟨w,h1,h2⟩:=HSub.get (k:=k) h.2 (by simpa using hz)
  exact⟨w,by simpa using h1,h2⟩
 | [],_::_,_,_,h,_=>h.elim
 | _::_, [],_,_,_,hz=>by simp at hz
theorem ABSub.live:∀ {x y:AB},ABSub x y->x.live=y.live:=by
 intro x y h
 cases x <;> cases y <;> simp only [ABSub] at h <;> first | rfl | cases h
theorem ABSub.blk {c:Ctx} {k:Nat}:∀ {x y:AB},ABSub x y->BlkOk c k x->BlkOk c k y
 | .row t sz es, .row t' sz' es',h,hb=>by
  obtain⟨rfl,rfl,h⟩:=h
  obtain⟨h1,h2,h3,xs,h4,h5,h6⟩:=hb
  refine⟨h1.trans h.len,h2,h.sz h3,xs,?_,h.flat h5,h6⟩
  rw [<-h.len]
  exact h4
 | .row _ _ _, .box _ _,h,_=>by cases h
 | .row _ _ _, .iter _ _,h,_=>by cases h
 | .row _ _ _, .dead,h,_=>by cases h
 | .row _ _ _, .rowo _ _ _ _,h,_=>by cases h
 | .rowo t sz es m,y,h,hb=>by
  have h:AB.rowo t sz es m=y:=h
  subst h
  exact hb
 | .box t cs,y,h,hb=>by
  have h:AB.box t cs=y:=h
  subst h
  exact hb
 | .iter a b,y,h,hb=>by
  have h:AB.iter a b=y:=h
  subst h
  exact hb
 | .dead,y,h,hb=>by
  have h:AB.dead=y:=h
  subst h
  exact hb
theorem HS.hsub {w0:Fl} {M0:Ms} {c:Ctx} {H H':List AB} (hs:HS w0 M0 c H) (h:HSub H H'):HS w0 M0 c H':=by
 refine⟨hs.low,hs.base,hs.dom.trans h.len,hs.foreign,hs.lt,fun k y hy=>?_,fun k y g hy hl ho=>?_,fun j k y z g hj hk hy hz ho ho'=>?_⟩
 ·obtain⟨x,h1,h2⟩:=h.get hy
  exact h2.blk (hs.blk k x h1)
 ·obtain⟨x,h1,h2⟩:=h.get hy
  exact hs.own k x g h1 (h2.live.trans hl) ho
 ·obtain⟨x1,h1,h2⟩:=h.get hj
  obtain⟨x2,h3,h4⟩:=h.get hk
  exact hs.dis j k x1 x2 g h1 h3 (h2.live.trans hy) (h4.live.trans hz) ho ho'
theorem ACalls.hsub {P:Program} {q:Bool} {f:FuncId} {args:List AV} {H:List AB} {k:AV->List AB->Prop} (H':List AB) (hs:HSub H H') (h:ACalls P q f args H' k):ACalls P q f args H k:=
 ⟨h.go,fun w0 M0 c us hs0 hr=>h.calls w0 M0 c us (hs0.hsub hs) hr⟩
theorem SubLL.refl:∀ l,SubLL l l
 | []=>trivial
 | _::l=>⟨SubL.refl _,SubLL.refl l⟩
theorem SubLL.set {a b:List AV} (h:SubL a b):∀ {l m:List (List AV)} (k:Nat),SubLL l m->SubLL (l.set k a) (m.set k b)
 | [], [],_,h=>h
 | _::_,_::_,0,h2=>⟨h,h2.2⟩
 | _::_,_::_,k+1,h2=>⟨h2.1,SubLL.set h k h2.2⟩
 | [],_::_,_,h=>h.elim
 | _::_, [],_,h=>h.elim
def FF (g:Geo) (fill:UInt8) (i k:Nat):Img:=
 if (i+k) % 4=3 then ⟨((i+k:Nat):Int).tmod g.z,255,C9 (Do g)⟩ else ⟨((i+k:Nat):Int).tmod g.z,((i+2*k:Nat):Int).tmod (g.d+1) - 1, [fill,UInt8.ofNat i,UInt8.ofNat k,1,2,3,4,5]⟩
def B6 (s:Int):Nat:=1+((IntKind.u64.wrap s).tmod 5).toNat
def Cb (g:Geo) (a:An) (fill:UInt8) (i:Nat) (pos:Int) (n:Nat):Tx:=⟨a.seq+i,pos,n+1,(List.range n).map fun k=>FF g fill i k⟩
def A3 (g:Geo) (a:An) (fill:UInt8):List Int->Nat->Int->Int->List Tx
 | [],_,_,_=> []
 | s::r,i,pos,used=>if g.sl<used+(B6 s:Nat)+1 then [] else Cb g a fill i pos (B6 s)::A3 g a fill r (i+1) ((pos+(B6 s:Nat)+1).tmod g.sl) (used+(B6 s:Nat)+1)
theorem Gg (s:Int):1<=B6 s/\B6 s<=5:=by
 have h0:0<=IntKind.u64.wrap s:=by rw [IntKind.wrap_u64];omega
 have h1:=A6 5 h0
 have h2:=Au (IntKind.u64.wrap s) (show (0:Int)<5 by decide)
 unfold B6
 omega
theorem SubLL.app {e f:List AV} (h:SubL e f):∀ {a b:List (List AV)},SubLL a b->SubLL (a ++ [e]) (b ++ [f])
 | [], [],_=>⟨h,trivial⟩
 | _::_,_::_,h2=>⟨h2.1,SubLL.app h h2.2⟩
 | [],_::_,h=>h.elim
 | _::_, [],h=>h.elim
theorem VD {g:Geo} {fill:UInt8} {i k:Nat} (t:((i+k:Nat):Int).tmod 4=3):SubL (Dc ⟨((i+k:Nat):Int).tmod g.z,255,C9 (Do g)⟩) (Dc (FF g fill i k)):=by
 have e:(i+k) % 4=3:=by
  rw [Aj (by omega)] at t
  omega
 rw [FF,if_pos e]
 exact SubL.refl _
theorem SB (m:Nat):IntKind.u8.wrap (m:Int)=((UInt8.ofNat m).toNat:Int):=by
 rw [IntKind.wrap_u8,UInt8.toNat_ofNat']
 omega
theorem RK {g:Geo} {fill:UInt8} {i k:Nat} (t:¬((i+k:Nat):Int).tmod 4=3):SubL [.v (.int .i64 (((i+k:Nat):Int).tmod g.z)), .v (.int .i64 (((i+2*k:Nat):Int).tmod (g.d+1) - 1)), .sl 1 8 fun j=> [[AV.v (.int .u8 fill.toNat)], [.v (.int .u8 (IntKind.u8.wrap i))], [.v (.int .u8 (IntKind.u8.wrap k))], [.v (.int .u8 1)], [.v (.int .u8 2)], [.v (.int .u8 3)], [.v (.int .u8 4)], [.v (.int .u8 5)]].getD j []] (Dc (FF g fill i k)):=by
 have e:¬(i+k) % 4=3:=by
  rw [Aj (by omega)] at t
  omega
 rw [FF,if_neg e,SB,SB]
 exact⟨fun _ _ h=>h,fun _ _ h=>h,Mj [fill,UInt8.ofNat i,UInt8.ofNat k,1,2,3,4,5] rfl rfl,trivial⟩
theorem TH (g:Geo) (a:An) (sizes:List Int) (fill:UInt8) (hg:AW g=true) (ha:AY g a=true) (hs:a.seq<=1000000) (hl:sizes.length<=40):Fn Tryz.prog 42 [.ag (A9 g), .ag (CN a),iA sizes, .v (.int .u8 fill.toNat)] fun r=>r=D8 (A3 g a fill sizes 0 a.pos 0):=by
 obtain⟨h1,h2,h3,h4,h5⟩:=Ao.1 hg
 have hq:=BV ha
 refine Fn.st Tryz.func42 rfl ?_
 conv=>whnf
 generalize hR:A3 g a fill sizes 0 a.pos 0=R
 refine aLoop.rule (Nat × Int × Int × List Tx × List (List AV)) (fun z=>([(2,iA sizes),(3, .v (.int .u8 fill.toNat)),(4, .bp 0 0),(5, .bp 1 0),(9, .ow 2 z.2.2.2.2.length),(10, .v (.int .i64 z.2.1)),(11, .v (.int .i64 z.2.2.1)),(12, .v (.int .i64 z.1))], [.box 23 (A9 g), .box 40 (CN a), .row 78 4 z.2.2.2.2]))
  (fun z=>z.1<=sizes.length/\z.2.2.2.1 ++ A3 g a fill (sizes.drop z.1) z.1 z.2.1 z.2.2.1=R/\(0<=z.2.1/\z.2.1<g.sl)/\(0<=z.2.2.1/\z.2.2.1<=g.sl)/\z.2.2.2.1.length=z.1/\SubLL z.2.2.2.2 (z.2.2.2.1.map Hq))
  (fun z=>sizes.length - z.1) (0,a.pos,0, [], []) ⟨Ae _,hR,hq.2,show (0:Int)<=0/\(0:Int)<=g.sl by omega,rfl,trivial⟩ ⟨[(9,78,4)],⟨rfl,rfl,trivial⟩,⟨rfl,rfl,rfl,rfl,rfl,rfl,rfl,rfl,trivial⟩,⟨rfl,rfl,rfl,trivial⟩,rfl,rfl,rfl⟩ ?_
 rintro⟨i,pos,used,l,rl⟩ ⟨b1,b2,b3,b4,b5,b6⟩
 dsimp only at b1 b2 b3 b4 b5 b6 |-
 have b7:rl.length=l.length:=by have:=b6.len;rwa [Ab] at this
 conv=>whnf
 refine Al (fun c1=>?_) (fun c1=>?_) <;> (repeat rw [Aa] at c1) <;> conv=>whnf
 ·have hd:sizes.drop i=sizes.getD i 0::sizes.drop (i+1):=by
   rw [AL c1,List.getD_eq_getElem?_getD,List.getElem?_eq_getElem c1]
   rfl
  rw [hd] at b2
  have hn:=Gg (sizes.getD i 0)
  have wn:IntKind.i64.wrap (1+IntKind.i64.wrap ((IntKind.u64.wrap (sizes.getD i 0)).tmod 5))=(B6 (sizes.getD i 0):Nat):=by
   have h0:0<=IntKind.u64.wrap (sizes.getD i 0):=by rw [IntKind.wrap_u64];omega
   have h1:=A6 5 h0
   have h2:=Au (IntKind.u64.wrap (sizes.getD i 0)) (show (0:Int)<5 by decide)
   unfold B6
   rw [IntKind.wrap_i64,IntKind.wrap_i64]
   omega
  unfold A3 at b2
  generalize B6 (sizes.getD i 0)=n at hn wn b2
  refine⟨by first | omega | (refine⟨rfl,?_,?_⟩ <;> first | omega | (simp only [Ab];done) | (simp only [Ab];omega)) | (simp only [Ab];omega),?_⟩
  refine⟨by decide,?_⟩
  conv=>whnf
  rw [Aa,wn]
  have w1:IntKind.i64.wrap (used+n)=used+n:=by rw [IntKind.wrap_i64];omega
  have w2:IntKind.i64.wrap (used+n+1)=used+n+1:=by rw [IntKind.wrap_i64];omega
  rw [w1,w2]
  conv=>whnf
  have w3:IntKind.i64.wrap (a.seq+rl.length)=a.seq+i:=by rw [IntKind.wrap_i64];omega
  have w4:IntKind.i64.wrap ((n:Int)+1)=n+1:=by rw [IntKind.wrap_i64];omega
  refine Al (fun c2=>?_) (fun c2=>?_) <;> (repeat rw [Aa] at c2) <;> conv=>whnf
  ·rw [if_pos c2,List.append_nil] at b2
   subst b2
   refine⟨rfl,?_⟩
   exact⟨D8 l,G7 l b7 rfl b6,rfl⟩
  ·rw [if_neg (by omega)] at b2
   rw [w3,w4]
   refine aLoop.rule (Nat × List (List AV)) (fun z=>([(2,iA sizes),(3, .v (.int .u8 fill.toNat)),(4, .bp 0 0),(5, .bp 1 0),(9, .ow 2 rl.length),(10, .v (.int .i64 pos)),(11, .v (.int .i64 used)),(12, .v (.int .i64 i)),(13, .v (.int .i64 n)),(14, .bp 3 0),(15, .v (.int .i64 z.1))], [.box 23 (A9 g), .box 40 (CN a), .row 78 4 rl, .box 78 [.v (.int .i64 (a.seq+i)), .v (.int .i64 pos), .v (.int .i64 (n+1)), .ow 4 z.2.length], .row 83 3 z.2]))
    (fun z=>z.1<=n/\SubLL z.2 (((List.range z.1).map (FF g fill i)).map Dc)) (fun z=>n - z.1) (0, []) ⟨Ae _,trivial⟩ ⟨[(1003003,83,3)],⟨rfl,rfl,trivial⟩,⟨rfl,rfl,rfl,rfl,rfl,rfl,rfl,rfl,rfl,rfl,rfl,trivial⟩,⟨rfl,rfl,rfl,rfl,rfl,trivial⟩,rfl,rfl,rfl⟩ ?_
   rintro⟨k,im⟩ ⟨hk,hm⟩
   dsimp only at hk hm |-
   have hil:im.length=k:=by have:=hm.len;simpa using this
   conv=>whnf
   have v1:IntKind.i64.wrap ((i:Int)+k)=((i+k:Nat):Int):=by rw [IntKind.wrap_i64];omega
   have v2:IntKind.i64.wrap (2*(k:Int))=((2*k:Nat):Int):=by rw [IntKind.wrap_i64];omega
   have v3:IntKind.i64.wrap ((i:Int)+((2*k:Nat):Int))=((i+2*k:Nat):Int):=by rw [IntKind.wrap_i64];omega
   have v5:IntKind.i64.wrap (((i+2*k:Nat):Int).tmod (g.d+1) - 1)=((i+2*k:Nat):Int).tmod (g.d+1) - 1:=by
    have q1:=A6 (g.d+1) (show 0<=((i+2*k:Nat):Int) by omega)
    have q2:=Au ((i+2*k:Nat):Int) (show 0<g.d+1 by omega)
    rw [IntKind.wrap_i64];omega
   have v4:IntKind.i64.wrap (g.d+1)=g.d+1:=by rw [IntKind.wrap_i64];omega
   refine Al (fun c3=>?_) (fun c3=>?_) <;> (repeat rw [Aa] at c3) <;> conv=>whnf
   ·have t0:=Qa g hg
    have t1:=P_ (Do g) (by rw [Do,Bd];omega) (fun e he=>by rw [List.eq_of_mem_replicate he];decide +kernel)
    refine aSeq.go ?_
    conv=>whnf
    apply aDraw.treeK 0 tys_ok mixed (.one 0 (.one 1 (.one 2 (.one 3 (.one 4 (.one 5 (.one 6 (.one 7 (.one 8 (.one 9 (.one 10 (.one 11 (.one 12 (.one 13 (.one 14 (.one 15 (.one 16 (.one 17 (.one 18 (.one 19 (.two 20 (.one 21 (.one 22 (.one 23 .fin))) 22 (.one 20 (.one 21 (.one 23 .fin)))))))))))))))))))))))) (by kernel_rfl)
    conv=>whnf
    repeat' (first | (refine And.intro (by first | omega | exact of_decide_eq_true rfl) ?_;conv=>whnf) | (refine And.intro ?_ ?_ <;> conv=>whnf) | fail)
    all_goals
     refine aSeq.go ?_
     conv=>whnf
     rw [v1]
     refine⟨by decide,?_⟩
     conv=>whnf
     refine Al (fun t=>?_) (fun t=>?_) <;> (repeat rw [Aa] at t) <;> conv=>whnf
     ·refine aDraw.of tys_ok mixed [0,1,2,3,4,5,6,7,8,9,10] (by kernel_rfl) ?_
      conv=>whnf
      repeat' (first | (refine aSeq.go ?_;conv=>whnf) | (refine Al (fun _=>?_) (fun _=>?_) <;> conv=>whnf) | (refine Fn.cl t0 ?_;conv=>whnf) | (refine Fn.cl t1 ?_;conv=>whnf) | (refine And.intro (by first | omega | exact of_decide_eq_true rfl) ?_;conv=>whnf) | fail)
      rw [v1]
      refine⟨(k+1,im ++ [Dc ⟨((i+k:Nat):Int).tmod g.z,255,C9 (Do g)⟩]),⟨by dsimp only;omega,?_⟩,by dsimp only;omega, [],trivial,⟨rfl,rfl,rfl,rfl,rfl,rfl,rfl,rfl,rfl,rfl,A4 (by omega),trivial⟩,⟨rfl,rfl,rfl,by rw [List.length_append];rfl,rfl,trivial⟩,rfl,rfl,rfl⟩
      rw [Bf,Am,Am]
      exact SubLL.app (VD t) hm
     ·repeat' (first | (refine aSeq.go ?_;conv=>whnf) | (refine Al (fun _=>?_) (fun _=>?_) <;> conv=>whnf) | (refine Fn.cl t0 ?_;conv=>whnf) | (refine And.intro (by first | omega | exact of_decide_eq_true rfl) ?_;conv=>whnf) | fail)
      rw [v2,v3,v4,v5]
      refine⟨(k+1,im ++ [[.v (.int .i64 (((i+k:Nat):Int).tmod g.z)), .v (.int .i64 (((i+2*k:Nat):Int).tmod (g.d+1) - 1)), .sl 1 8 fun j=> [[.v (.int .u8 fill.toNat)], [.v (.int .u8 (IntKind.u8.wrap i))], [.v (.int .u8 (IntKind.u8.wrap k))], [.v (.int .u8 1)], [.v (.int .u8 2)], [.v (.int .u8 3)], [.v (.int .u8 4)], [.v (.int .u8 5)]].getD j []]]),⟨by dsimp only;omega,?_⟩,by dsimp only;omega, [],trivial,⟨rfl,rfl,rfl,rfl,rfl,rfl,rfl,rfl,rfl,rfl,A4 (by omega),trivial⟩,⟨rfl,rfl,rfl,by rw [List.length_append];rfl,rfl,trivial⟩,rfl,rfl,rfl⟩
      rw [Bf,Am,Am]
      exact SubLL.app (RK t) hm
   ·refine⟨rfl,?_⟩
    conv=>whnf
    repeat' (first | (refine And.intro (by first | rfl | omega) ?_;conv=>whnf) | fail)
    have ek:k=n:=by omega
    subst ek
    have w5:IntKind.i64.wrap (pos+k)=pos+k:=by rw [IntKind.wrap_i64];omega
    have w6:IntKind.i64.wrap (pos+k+1)=pos+k+1:=by rw [IntKind.wrap_i64];omega
    rw [w1,w2,w5,w6]
    have hmm:=Au (pos+k+1) (show 0<g.sl by omega)
    have hm0:=A6 g.sl (show 0<=pos+k+1 by omega)
    refine⟨(i+1,(pos+k+1).tmod g.sl,used+k+1,l ++ [Cb g a fill i pos k],rl ++ [[.v (.int .i64 (a.seq+i)), .v (.int .i64 pos), .v (.int .i64 (k+1)), .sl 3 im.length fun j=>im.getD j []]]),⟨by dsimp only;omega,?_,⟨hm0,hmm⟩,by dsimp only;omega,by dsimp only;rw [List.length_append];simp only [Ah,AG];omega,?_⟩,by dsimp only;omega, [],trivial,⟨rfl,rfl,rfl,rfl,?_,rfl,rfl,A4 (by omega),trivial⟩,⟨rfl,rfl,rfl,trivial⟩,rfl,rfl,rfl⟩
    ·dsimp only
     rw [List.append_assoc]
     exact b2
    ·dsimp only
     rw [Am]
     refine SubLL.app ?_ b6
     refine And.intro (fun _ _ h=>h) (And.intro (fun _ _ h=>h) (And.intro (fun _ _ h=>h) (And.intro ?_ trivial)))
     exact G7 (f:=Dc) ((List.range k).map (FF g fill i)) (by rw [hil];simp) rfl hm
    ·rw [List.length_append]
     rfl
 ·have ei:i=sizes.length:=by omega
  refine⟨rfl,?_⟩
  conv=>whnf
  subst ei
  rw [List.drop_length,A3,List.append_nil] at b2
  subst b2
  exact⟨D8 l,G7 l b7 rfl b6,rfl⟩
end Go.Proofs.YtldngmdpiifamaaGreatDoor.A
end
section
namespace Go.Proofs.YtldngmdpiifamaaGreatDoor

def O1 (b:List UInt8) (k:Nat):List UInt8:=b.modify (k / 8) fun x=>x ^^^ UInt8.ofNat (2 ^ (k % 8))
theorem MY (b:List UInt8) (k:Nat):(O1 b k).length=b.length:=List.length_modify _ _ _
def Ew (p:Nat->Bool) (a:Nat) (b:List UInt8):Nat->List UInt8
 | 0=>b
 | i+1=>if p i&&decide (a+i<8*b.length) then O1 (Ew p a b i) (a+i) else Ew p a b i
theorem IK (p:Nat->Bool) (a:Nat) (b:List UInt8) (i:Nat):(Ew p a b i).length=b.length:=by
 induction i with
 | zero=>rfl
 | succ i ih=>unfold Ew;split;rw [MY,ih];exact ih
def fX (bs:Int):Nat:=if (bs % 4294967296).toNat % 2=0 then (bs % 4294967296).toNat+1 else (bs % 4294967296).toNat
theorem Wg (bs:Int):fX bs<4294967296:=by unfold fX;split <;> omega
def Mb (b:List UInt8) (bit bs:Int):List UInt8:=Ew (fun i=>decide (fX bs / 2 ^ i % 2=1)) (bit % (8*(b.length:Int))).toNat b 32
theorem Fc (b:List UInt8) (bit bs:Int):(Mb b bit bs).length=b.length:=IK _ _ _ _
theorem R_ (bit bs:Int):Mb [] bit bs=[]:=AN (Fc _ _ _)

end Go.Proofs.YtldngmdpiifamaaGreatDoor
end
section
namespace Go.Proofs.YtldngmdpiifamaaGreatDoor.A
open Go.RowKit
theorem QQ {a n:Int} (hn:0<n):(if a.tmod n<0 then a.tmod n+n else a.tmod n)=a % n:=by
 have b1:=Au a hn
 have b2:=Int.lt_tmod_of_pos a hn
 split
 ·have e1:(a.tmod n+n) % n=a % n:=by
   rw [Int.add_emod_right,Int.tmod_eq_emod]
   split
   ·rw [show ((0:Nat):Int)=0 from rfl,Int.sub_zero,Int.emod_emod_of_dvd _ (Int.dvd_refl n)]
   ·rw [Int.sub_emod,Int.emod_emod_of_dvd _ (Int.dvd_refl n),show (n.natAbs:Int)=n by omega,Int.emod_self,Int.sub_zero,Int.emod_emod_of_dvd _ (Int.dvd_refl n)]
  rw [<-e1,Int.emod_eq_of_lt (by omega) (by omega)]
 ·rename_i hr
  have e1:=Int.tmod_eq_emod (a:=a) (b:=n)
  rw [Int.tmod_eq_emod]
  split
  ·omega
  ·rename_i hc
   rw [if_neg hc] at e1
   have:=Int.emod_lt_of_pos a hn
   omega
theorem T8 (a n:Int) (hn:0<n) (hn2:n<=4611686018427387904):Fn Tryz.prog 166 [.v (.int .i64 a), .v (.int .i64 n)] fun r=>r = .v (.int .i64 (a % n)):=by
 have b1:=Au a hn
 have b2:=Int.lt_tmod_of_pos a hn
 have he:=QQ (a:=a) hn
 refine Fn.st Tryz.func166 rfl ?_
 refine⟨by omega,?_⟩
 conv=>whnf
 repeat' (first | (refine aSeq.go ?_;conv=>whnf) | (refine Al (fun _=>?_) (fun _=>?_) <;> conv=>whnf) | (refine And.intro (by first | omega | exact of_decide_eq_true rfl) ?_;conv=>whnf) | fail)
 all_goals refine⟨_,fun _ _ h=>h,?_⟩
 ·rw [if_pos (by assumption)] at he
  rw [wi (by omega),he]
 ·rw [if_neg (by omega)] at he
  rw [he]
def bR (b:List UInt8):List (List AV):=b.map fun x=> [.v (.int .u8 x.toNat)]
theorem UB {b:List UInt8} {i:Nat} (h:i<b.length):(bR b).getD i []=[.v (.int .u8 (b.getD i 0).toNat)]:=AX (d:=0) h
theorem WU (b:List UInt8) (i:Nat) (y:UInt8):(bR b).set i [.v (.int .u8 y.toNat)]=bR (b.set i y):=by simp [bR,List.map_set]
theorem U9 (b:List UInt8) (c:Ctx) (u:Value) (h:Rd (.sl 1 b.length fun i=>(bR b).getD i []) c u):Rd (bA b) c u:=
 Rd.congr rfl (fun _ hi=>AX (d:=0) hi) h
theorem QG {b:List UInt8} {n:Nat} (hn:n=b.length) (c:Ctx) (u:Value) (h:Rd (.sl 1 n fun i=>(bR b).getD i []) c u):Rd (bA b) c u:=by
 subst hn;exact U9 b c u h
theorem UA (b:List UInt8):(List.range b.length).map (fun i=> [AV.v (.int .u8 (b.getD i 0).toNat)])=bR b:=by
 apply List.ext_getElem
 ·simp [bR]
 ·intro i h1 h2
  simp only [Ab,List.length_range] at h1
  simp [bR,List.getD_eq_getElem?_getD,List.getElem?_eq_getElem h1]
theorem SG (b:List UInt8) (hb:b.length<=1000000000):FnO Tryz.prog 62 [bA b] fun r R=>r = .ow 0 b.length/\R=[.row 5 1 (bR b)]:=by
 refine FnO.of tys_ok Tryz.func62 rfl rfl (Ad rfl) ?_
 refine⟨hb,?_⟩
 exact⟨rfl,by rw [UA]⟩
theorem Ws (x:UInt8) (z:Nat) (hz:z<256):IntKind.u8.wrap (BitVec.ofInt IntKind.u8.bits (x.toNat:Int) ^^^ BitVec.ofInt IntKind.u8.bits (z:Int)).toNat=((x ^^^ UInt8.ofNat z).toNat:Int):=by
 show IntKind.u8.wrap (BitVec.ofInt 8 (x.toNat:Int) ^^^ BitVec.ofInt 8 (z:Int)).toNat=((x ^^^ UInt8.ofNat z).toNat:Int)
 have hx:=x.toNat_lt
 have h1:(BitVec.ofInt 8 (x.toNat:Int))=BitVec.ofNat 8 x.toNat:=BitVec.ofInt_natCast _ _
 have h2:(BitVec.ofInt 8 (z:Int))=BitVec.ofNat 8 z:=BitVec.ofInt_natCast _ _
 have h3:x.toNat ^^^ z<256:=Nat.xor_lt_two_pow (n:=8) hx hz
 rw [h1,h2,BitVec.toNat_xor,BitVec.toNat_ofNat,BitVec.toNat_ofNat,Dl hx,Dl hz,UInt8.toNat_xor,Bi hz,IntKind.wrap_u8]
 omega
theorem Sa (b:List UInt8) (k:Nat) (h:k / 8<b.length):O1 b k=b.set (k / 8) (b.getD (k / 8) 0 ^^^ UInt8.ofNat (2 ^ (k % 8))):=by
 rw [List.getD_eq_getElem?_getD,List.getElem?_eq_getElem h]
 unfold O1
 apply List.ext_getElem?
 intro i
 rw [List.getElem?_modify,List.getElem?_set]
 split
 ·subst_vars;simp [h]
 ·simp
theorem PG (p:Nat->Bool) (a:Nat) (b:List UInt8) (k:Nat) (h:∀ j,k<=j->p j=false\/8*b.length<=a+j):∀ n,k<=n->Ew p a b n=Ew p a b k:=by
 intro n hn
 induction n with
 | zero=>
  obtain rfl:k=0:=by omega
  rfl
 | succ n ih=>
  by_cases hk:k=n+1
  ·rw [hk]
  ·rw [Ew,if_neg,ih (by omega)]
   rcases h n (by omega) with h | h
   ·simp [h]
   ·simp;omega
theorem Tk (b:List UInt8) (bit bs:Int) (hb:b.length<=1000000):Fn Tryz.prog 107 [bA b, .v (.int .i64 bit), .v (.int .i64 bs)] fun r=>r=bA (Mb b bit bs):=by
 refine Fn.st Tryz.func107 rfl ?_
 conv=>whnf
 refine FnO.call (SG b (by omega)) rfl ?_
 rintro _ _ ⟨rfl,rfl⟩
 conv=>whnf
 refine Al (fun h0=>?_) (fun h0=>?_) <;> (repeat rw [Aa] at h0) <;> conv=>whnf
 ·refine⟨by simp [bR],?_⟩
  conv=>whnf
  have e:b=[]:=AN (by omega)
  subst e
  exact⟨_,fun c u h=>U9 [] c u h,by rw [R_]⟩
 have hn:b.length≠0:=by omega
 have w8:IntKind.i64.wrap (8*(b.length:Int))=8*b.length:=wi (by omega)
 rw [w8]
 refine Fn.cl (T8 bit (8*b.length) (by omega) (by omega)) ?_
 conv=>whnf
 refine Fn.cl (T8 bs 4294967296 (by omega) (by omega)) ?_
 conv=>whnf
 have a1:=Int.emod_lt_of_pos bit (show (0:Int)<8*b.length by omega)
 have a2:=Int.emod_nonneg bit (show (8*(b.length:Int))≠0 by omega)
 have b1:=Int.emod_lt_of_pos bs (show (0:Int)<4294967296 by omega)
 have b2:=Int.emod_nonneg bs (show (4294967296:Int)≠0 by omega)
 have hX:IntKind.i64.wrap ((fX bs:Nat):Int)=(fX bs:Nat):=wi (by have:=Wg bs;omega)
 refine aSeq.cut Unit (fun _=>([(7, .ow 0 b.length),(8, .v (.int .i64 (bit % (8*b.length)))),(9, .v (.int .i64 (fX bs:Nat)))], [.row 5 1 (bR b)])) (fun _=>True) ?_ ?_
 ·refine⟨by decide,?_⟩
  conv=>whnf
  refine Al (fun hx=>?_) (fun hx=>?_) <;> (repeat rw [Aa] at hx) <;> conv=>whnf
  ·rw [Aj b2] at hx
   have ex:IntKind.i64.wrap (bs % 4294967296+1)=(fX bs:Nat):=by
    rw [wi (by omega)]
    unfold fX
    rw [if_pos (by omega)]
    omega
   exact⟨(),trivial,(Wk.plain (by repeat' first | exact trivial | exact rfl | refine And.intro ?_ ?_ | exact A4 (by omega) | exact congrArg (fun n=>AV.v (.int .i64 n)) ex) (by repeat' first | exact trivial | exact rfl | refine And.intro ?_ ?_ | exact A4 (by omega) | exact congrArg (fun n=>AV.v (.int .i64 n)) ex) rfl rfl rfl)⟩
  ·rw [Aj b2] at hx
   have ex:bs % 4294967296=(fX bs:Nat):=by
    unfold fX
    rw [if_neg (by omega)]
    omega
   exact⟨(),trivial,(Wk.plain (by repeat' first | exact trivial | exact rfl | refine And.intro ?_ ?_ | exact A4 (by omega) | exact congrArg (fun n=>AV.v (.int .i64 n)) ex) (by repeat' first | exact trivial | exact rfl | refine And.intro ?_ ?_ | exact A4 (by omega) | exact congrArg (fun n=>AV.v (.int .i64 n)) ex) rfl rfl rfl)⟩
 rintro - -
 conv=>whnf
 have hXl:=Wg bs
 have hR:Ew (fun i=>decide (fX bs / 2 ^ i % 2=1)) (bit % (8*(b.length:Int))).toNat b 32=Mb b bit bs:=rfl
 obtain⟨X,eX⟩:∃ X,X=fX bs:=⟨_,rfl⟩
 obtain⟨A,eA⟩:∃ A:Nat,(A:Int)=bit % (8*b.length):=⟨(bit % (8*(b.length:Int))).toNat,by omega⟩
 rw [<-eX,<-eA,Aa] at hR
 rw [<-eX] at hXl
 rw [<-eX,<-eA]
 refine aLoop.rule Nat (fun k=>([(7, .ow 0 b.length),(9, .v (.int .i64 (X / 2 ^ k:Nat))),(10, .v (.int .i64 ((A+k:Nat):Int)))], [.row 5 1 (bR (Ew (fun i=>decide (X / 2 ^ i % 2=1)) A b k))])) (fun k=>k<=32) (fun k=>32 - k) 0 (Ae _) (Wk.plain (by repeat' first | exact trivial | exact rfl | refine And.intro ?_ ?_ | exact A4 (by omega) | exact congrArg (fun n=>AV.v (.int .i64 n)) (by rw [Nat.pow_zero,Nat.div_one])) (by repeat' first | exact trivial | exact rfl | refine And.intro ?_ ?_ | exact A4 (by omega) | exact congrArg (fun n=>AV.v (.int .i64 n)) (by rw [Nat.pow_zero,Nat.div_one])) rfl rfl rfl) ?_
 intro k hk
 have hfl:=IK (fun i=>decide (X / 2 ^ i % 2=1)) A b k
 have hnx:X / 2 ^ (k+1)=X / 2 ^ k / 2:=by rw [Nat.pow_succ,Nat.div_div_eq_div_mul]
 have hA:A<8*b.length:=by omega
 conv=>whnf
 have stop:X / 2 ^ k=0\/8*b.length<=A+k->Ew (fun i=>decide (X / 2 ^ i % 2=1)) A b k=Mb b bit bs:=fun h=>by
  rw [<-hR]
  refine(PG _ _ _ _ (fun j hj=>?_) 32 hk).symm
  rcases h with h | h
  ·refine .inl ?_
   have:X / 2 ^ j=0:=by
    obtain⟨d,rfl⟩:=Nat.exists_eq_add_of_le hj
    rw [Nat.pow_add,<-Nat.div_div_eq_div_mul,h,Nat.zero_div]
   simp [this]
  ·exact .inr (by omega)
 refine Al (fun h1=>?_) (fun h1=>?_) <;> (repeat rw [Aa] at h1) <;> conv=>whnf
 ·rw [w8]
  refine Al (fun h2=>?_) (fun h2=>?_) <;> (repeat rw [Aa] at h2) <;> conv=>whnf
  ·have hk32:k<32:=by
    rcases Bp k 32 with h | h
    ·exact h
    ·have:X / 2 ^ k=0:=Nat.div_eq_of_lt (Ak hXl (Nat.pow_le_pow_right (n:=2) (by omega) h))
     omega
   have e1:IntKind.i64.wrap (((X / 2 ^ k:Nat):Int).tdiv 2)=((X / 2 ^ (k+1):Nat):Int):=by
    rw [CJ (by omega),hnx]
    have:=Nat.div_le_self X (2 ^ k)
    rw [wi (by omega)]
    omega
   have e2:IntKind.i64.wrap (((A+k:Nat):Int)+1)=((A+(k+1):Nat):Int):=by
    rw [wi (by omega)];omega
   refine aSeq.go ?_
   conv=>whnf
   refine aSeq.cut Unit (fun _=>([(7, .ow 0 b.length),(9, .v (.int .i64 (X / 2 ^ k:Nat))),(10, .v (.int .i64 ((A+k:Nat):Int)))], [.row 5 1 (bR (Ew (fun i=>decide (X / 2 ^ i % 2=1)) A b (k+1)))])) (fun _=>True) ?_ ?_
   ·refine⟨by decide,?_⟩
    conv=>whnf
    have hq:(A+k) / 8<b.length:=by omega
    have hz:(2:Nat) ^ ((A+k) % 8)<256:=by
     have:=Nat.pow_lt_pow_right (a:=2) (by omega) (show (A+k) % 8<8 by omega)
     omega
    refine Al (fun h3=>?_) (fun h3=>?_) <;> (repeat rw [Aa] at h3) <;> conv=>whnf
    ·rw [Aj (by omega)] at h3
     have hE:Ew (fun i=>decide (X / 2 ^ i % 2=1)) A b (k+1)=O1 (Ew (fun i=>decide (X / 2 ^ i % 2=1)) A b k) (A+k):=by
      rw [Ew,if_pos]
      simp only [Bool.and_eq_true,decide_eq_true_eq]
      omega
     have eq:IntKind.i64.wrap (((A+k:Nat):Int).tdiv 8)=(((A+k) / 8:Nat):Int):=by
      rw [CJ (by omega),wi (by omega)]
      omega
     have er:IntKind.u64.wrap (((A+k:Nat):Int).tmod 8)=(((A+k) % 8:Nat):Int):=by
      rw [Aj (by omega),IntKind.wrap_u64]
      omega
     have es:IntKind.u8.wrap (1*2 ^ min ((((A+k) % 8:Nat):Int).toNat) IntKind.u8.bits)=((2 ^ ((A+k) % 8):Nat):Int):=by
      rw [Aa,show min ((A+k) % 8) IntKind.u8.bits=(A+k) % 8 from Bw (by show _<=8;omega),Int.one_mul,IntKind.wrap_u8]
      have:((2 ^ ((A+k) % 8):Nat):Int)=(2:Int) ^ ((A+k) % 8):=by simp
      rw [<-this]
      generalize 2 ^ ((A+k) % 8)=z at hz |-
      omega
     refine⟨by decide,?_⟩
     refine⟨by decide,?_⟩
     conv=>whnf
     rw [eq]
     refine⟨⟨by omega,by omega⟩,?_⟩
     refine⟨⟨rfl,by simp [bR,hfl],by omega⟩,?_⟩
     conv=>whnf
     rw [Aa,UB (by rw [hfl];omega)]
     refine⟨by decide,?_⟩
     conv=>whnf
     rw [er]
     refine⟨by omega,?_⟩
     refine⟨⟨by omega,by omega⟩,?_⟩
     conv=>whnf
     rw [es]
     refine⟨⟨rfl,by simp [bR,hfl],by omega⟩,?_⟩
     conv=>whnf
     rw [Aa,UB (by rw [hfl];omega)]
     conv=>whnf
     have ex:=Ws ((Ew (fun i=>decide (X / 2 ^ i % 2=1)) A b k).getD ((A+k) / 8) 0) (2 ^ ((A+k) % 8)) hz
     rw [ex,WU,<-Sa _ _ (by rw [hfl];omega),<-hE]
     exact⟨(),trivial,(Wk.plain (by repeat' first | exact trivial | exact rfl | refine And.intro ?_ ?_ | exact A4 (by omega)) (by repeat' first | exact trivial | exact rfl | refine And.intro ?_ ?_ | exact A4 (by omega)) rfl rfl rfl)⟩
    ·rw [Aj (by omega)] at h3
     have hE:Ew (fun i=>decide (X / 2 ^ i % 2=1)) A b (k+1)=Ew (fun i=>decide (X / 2 ^ i % 2=1)) A b k:=by
      rw [Ew,if_neg]
      simp only [Bool.and_eq_true,decide_eq_true_eq]
      intro hh
      apply h3
      have:=hh.1
      omega
     exact⟨(),trivial,(Wk.plain (by repeat' first | exact trivial | exact rfl | refine And.intro ?_ ?_ | exact A4 (by omega) | exact congrArg (fun l=>AB.row _ _ (bR l)) hE) (by repeat' first | exact trivial | exact rfl | refine And.intro ?_ ?_ | exact A4 (by omega) | exact congrArg (fun l=>AB.row _ _ (bR l)) hE) rfl rfl rfl)⟩
   ·rintro - -
    refine⟨by decide,?_⟩
    exact⟨k+1,by omega,by omega,(Wk.plain (by repeat' first | exact trivial | exact rfl | refine And.intro ?_ ?_ | exact A4 (by omega) | exact congrArg (fun n=>AV.v (.int .i64 n)) e1 | exact congrArg (fun n=>AV.v (.int .i64 n)) e2) (by repeat' first | exact trivial | exact rfl | refine And.intro ?_ ?_ | exact A4 (by omega) | exact congrArg (fun n=>AV.v (.int .i64 n)) e1 | exact congrArg (fun n=>AV.v (.int .i64 n)) e2) rfl rfl rfl)⟩
  ·refine⟨by simp [bR,hfl],?_⟩
   conv=>whnf
   rw [stop (.inr (by omega))]
   exact⟨_,fun c u h=>QG (by rw [Fc]) c u h,rfl⟩
 ·refine⟨by simp [bR,hfl],?_⟩
  conv=>whnf
  rw [stop (.inl (Nat.eq_zero_of_le_zero (Int.ofNat_le.1 h1)))]
  exact⟨_,fun c u h=>QG (by rw [Fc]) c u h,rfl⟩
theorem Ot {g:Geo} {x:Img} (h:Cr g x=true):x.bytes.length<=100:=by
 obtain⟨h1, -,h3⟩:=EU h
 obtain⟨-,hd, -⟩:=Ao.1 h1
 rcases h3 with ⟨-,l,hl⟩ | ⟨-, -,h8⟩
 ·have:=LH hl
  omega
 ·omega
theorem ents0:∀ n,n<6->entsOf n (C9 (List.replicate n ent0))=List.replicate n ent0:=by decide +kernel
theorem Pt {g:Geo} (hg:AW g=true):D0 g (C9 (Do g))=some (Do g):=by
 obtain⟨h1,h2,h3,h4,h5⟩:=Ao.1 hg
 have e:=ents0 (g.d+1).toNat (by omega)
 unfold D0 Do
 rw [e,if_pos]
 refine⟨?_,rfl⟩
 unfold JE
 simp only [Bool.and_eq_true,decide_eq_true_eq,Bd,AT]
 refine⟨⟨⟨hg,by omega⟩,?_⟩,?_⟩
 ·rw [A8]
  intro x hx
  rw [List.eq_of_mem_replicate hx]
  decide +kernel
 ·unfold GH
  rw [List.getElem?_replicate_of_lt (by omega)]
  rfl
theorem LW {g:Geo} (hg:AW g=true) (fill:UInt8) (i k:Nat):Cr g (FF g fill i k)=true:=by
 obtain⟨h1,h2,h3,h4,h5⟩:=Ao.1 hg
 have z1:=A6 g.z (show 0<=((i+k:Nat):Int) by omega)
 have z2:=Au ((i+k:Nat):Int) (show 0<g.z by omega)
 have d1:=A6 (g.d+1) (show 0<=((i+2*k:Nat):Int) by omega)
 have d2:=Au ((i+2*k:Nat):Int) (show 0<g.d+1 by omega)
 unfold Cr FF
 split
 ·simp only [hg,AE.2 (show 0<=((i+k:Nat):Int).tmod g.z/\((i+k:Nat):Int).tmod g.z<=g.z - 1 by omega),Pt hg]
  rfl
 ·simp only [hg,AE.2 (show 0<=((i+k:Nat):Int).tmod g.z/\((i+k:Nat):Int).tmod g.z<=g.z - 1 by omega),Be]
  rw [if_neg (by omega),AE.2 (show -1<=((i+2*k:Nat):Int).tmod (g.d+1) - 1/\((i+2*k:Nat):Int).tmod (g.d+1) - 1<=g.d - 1 by omega)]
  rfl
structure TxIn (g:Geo) (a:An) (fill:UInt8) (i0:Nat) (l:List Tx):Prop where
 at_:∀ j,j<l.length->∃ pos n,l.getD j tz=Cb g a fill (i0+j) pos n/\1<=n/\n<=5/\0<=pos/\pos<g.sl
theorem I3 {g:Geo} {a:An} {fill:UInt8} (hg:AW g=true):∀ (sizes:List Int) (i:Nat) (pos used:Int),0<=pos/\pos<g.sl->TxIn g a fill i (A3 g a fill sizes i pos used)
 | [],_,_,_,_=>⟨fun j hj=>by simp [A3] at hj⟩
 | s::r,i,pos,used,hp=>by
  obtain⟨h1,h2,h3,h4,h5⟩:=Ao.1 hg
  have hn:=Gg s
  have hm:=Au (pos+(B6 s:Nat)+1) (show 0<g.sl by omega)
  have hm0:=A6 g.sl (show 0<=pos+(B6 s:Nat)+1 by omega)
  unfold A3
  split
  ·exact⟨fun j hj=>by simp at hj⟩
  ·refine⟨fun j hj=>?_⟩
   cases j with
   | zero=>exact⟨pos,B6 s,rfl,hn.1,hn.2,hp⟩
   | succ j=>
    obtain⟨p,n,e,q⟩:=(I3 hg r (i+1) _ (used+(B6 s:Nat)+1) ⟨hm0,hm⟩).at_ j (by simpa using hj)
    refine⟨p,n,?_,q⟩
    rw [show i+(j+1)=i+1+j by omega,<-e]
    rfl
theorem Oj {g:Geo} {a:An} {fill:UInt8}:∀ (sizes:List Int) (i:Nat) (pos used:Int),used<=g.sl->2*((A3 g a fill sizes i pos used).length:Int)<=g.sl - used
 | [],_,_,_,h=>by simp [A3];omega
 | s::r,i,pos,used,h=>by
  have hn:=Gg s
  unfold A3
  split
  ·simp;omega
  ·have:=Oj (g:=g) (a:=a) (fill:=fill) r (i+1) ((pos+(B6 s:Nat)+1).tmod g.sl) (used+(B6 s:Nat)+1) (by omega)
   simp only [Ah]
   omega
theorem Lz {g:Geo} {s:Int}:∀ {l:List Tx} {i j:Nat} {k:Int},Hu g s l i=some (j,k)->i<=j/\j<i+l.length/\No g (l.getD (j - i) tz) s=true/\k=QJ g (l.getD (j - i) tz) s
 | [],i,j,k,h=>by cases h
 | t::r,i,j,k,h=>by
  unfold Hu at h
  split at h
  ·injection h with h
   injection h with e1 e2
   subst e1
   subst e2
   refine⟨Nat.le_refl _,by simp,?_,?_⟩ <;> rw [C3] <;> first | assumption | rfl
  ·obtain⟨q1,q2,q3,q4⟩:=Lz h
   refine⟨by omega,by simp only [Ah];omega,?_,?_⟩
   ·rw [show j - i=(j - (i+1))+1 by omega];exact q3
   ·rw [show j - i=(j - (i+1))+1 by omega];exact q4
theorem HT {g:Geo} {a:An} {fill:UInt8} {i n:Nat} {pos:Int} (hg:AW g=true):(Cb g a fill i pos n).images.length=n/\∀ x∈(Cb g a fill i pos n).images,Cr g x=true:=by
 refine⟨by simp [Cb],fun x hx=>?_⟩
 obtain⟨k, -,rfl⟩:=AF.1 hx
 exact LW hg fill i k
theorem Tz {g:Geo} (hg:AW g=true):DA g zeroC=true:=by
 simp [DA,hg,DH,zeroC,EZ]
theorem MQ {g:Geo} {a:An} {fill:UInt8} {sizes:List Int} {epoch:Int} (hg:AW g=true) (ha:AY g a=true) (hs:a.seq<=1000000) (he:0<=epoch/\epoch<=4294967295):LogOk g (A3 g a fill sizes 0 a.pos 0) epoch:=by
 obtain⟨h1,h2,h3,h4,h5⟩:=Ao.1 hg
 have hq:=BV ha
 have hin:=I3 (a:=a) (fill:=fill) hg sizes 0 a.pos 0 hq.2
 have hlen:=Oj (g:=g) (a:=a) (fill:=fill) sizes 0 a.pos 0 (by omega)
 generalize A3 g a fill sizes 0 a.pos 0=l at hin hlen
 have hwho:∀ s i k,0<=s/\s<g.sl->Hu g s l 0=some (i,k)->i<l.length/\0<=k/\∃ pos n,l.getD i tz=Cb g a fill i pos n/\1<=n/\n<=5/\k.toNat<n+1:=fun s i k hsl hw=>by
  obtain⟨q1,q2,q3,q4⟩:=Lz hw
  rw [Nat.sub_zero] at q3 q4
  obtain⟨pos,n,e,n1,n2,p1,p2⟩:=hin.at_ i (by omega)
  rw [Aq] at e
  unfold No at q3
  simp only [Bool.and_eq_true,decide_eq_true_eq] at q3
  rw [<-q4,e] at q3
  have k0:0<=k:=by
   rw [q4,e,QJ]
   refine A6 _ ?_
   rw [IntKind.wrap_i64,IntKind.wrap_i64]
   simp only [Cb]
   omega
  refine⟨by omega,k0,pos,n,e,n1,n2,?_⟩
  have:=q3.2
  simp only [Cb] at this
  omega
 refine⟨by omega,fun t ht=>?_,fun s i k hsl hw=>?_,fun s hsl=>?_⟩
 ·obtain⟨j,hj,rfl⟩:=C_.1 ht
  obtain⟨pos,n,e,n1,n2, -⟩:=hin.at_ j hj
  rw [List.getD_eq_getElem?_getD,List.getElem?_eq_getElem hj] at e
  simp only [Bb] at e
  rw [e]
  obtain⟨i1,i2⟩:=HT (a:=a) (fill:=fill) (i:=0+j) (n:=n) (pos:=pos) hg
  exact⟨by omega,fun x hx=>by have:=Ot (i2 x hx);omega⟩
 ·obtain⟨q1,q2,pos,n,e,n1,n2,q3⟩:=hwho s i k hsl hw
  rw [e,(HT (a:=a) (fill:=fill) (i:=i) (n:=n) (pos:=pos) hg).1]
  exact⟨q1,q2,q3⟩
 ·unfold Gc
  cases hw:Hu g s l 0 with
  | none=>exact Tz hg
  | some q=>
   obtain⟨i,k⟩:=q
   obtain⟨q1,q2,pos,n,e,n1,n2,q3⟩:=hwho s i k hsl hw
   simp only
   rw [e]
   obtain⟨i1,i2⟩:=HT (a:=a) (fill:=fill) (i:=i) (n:=n) (pos:=pos) hg
   exact(Vl (seq:=(Cb g a fill i pos n).seq) (epoch:=epoch) (l:=(Cb g a fill i pos n).images) (k:=k.toNat) hg (by simp only [Cb];omega) he i2 (by omega) (by omega) (by omega)).ok
theorem DK {x n:Int} (h0:0<=x) (h1:x<n):x.tmod n=x:=Int.tmod_eq_of_lt h0 h1
theorem GX {x n:Int} (h0:n<=x) (h1:x<2*n) (hn:0<n):x.tmod n=x - n:=by
 rw [Aj (by omega),<-Int.sub_emod_right x n]
 exact Int.emod_eq_of_lt (by omega) (by omega)
def findU:List Tx->Int->Nat->Int->Option (Nat × Int)
 | [],_,_,_=>none
 | t::r,used,i,u=>if used<=u/\u<used+t.n then some (i,u - used) else findU r (used+t.n) (i+1) u
theorem S8 {g:Geo} {t:Tx} {p0 u used:Int} (hg:AW g=true) (hp:0<=p0/\p0<g.sl) (hu:0<=u/\u<g.sl) (hd:0<=used/\used<g.sl) (ht:t.pos=(p0+used).tmod g.sl) :
  QJ g t ((p0+u).tmod g.sl)=if used<=u then u - used else u - used+g.sl:=by
 obtain⟨h1,h2,h3,h4,h5⟩:=Ao.1 hg
 have hs:(p0+u).tmod g.sl=if p0+u<g.sl then p0+u else p0+u - g.sl:=by
  split
  ·exact DK (by omega) (by omega)
  ·exact GX (by omega) (by omega) (by omega)
 have hq:(p0+used).tmod g.sl=if p0+used<g.sl then p0+used else p0+used - g.sl:=by
  split
  ·exact DK (by omega) (by omega)
  ·exact GX (by omega) (by omega) (by omega)
 unfold QJ
 rw [ht,hs,hq]
 have hw:IntKind.i64.wrap (IntKind.i64.wrap ((if p0+u<g.sl then p0+u else p0+u - g.sl) - (if p0+used<g.sl then p0+used else p0+used - g.sl))+g.sl)=(if p0+u<g.sl then p0+u else p0+u - g.sl) - (if p0+used<g.sl then p0+used else p0+used - g.sl)+g.sl:=by
  rw [IntKind.wrap_i64,IntKind.wrap_i64]
  split <;> split <;> omega
 rw [hw]
 split <;> split <;> split
 all_goals first
  | (rw [DK (by omega) (by omega)];omega)
  | (rw [GX (by omega) (by omega) (by omega)];omega)
  | (exfalso;omega)
theorem JT {g:Geo} {a:An} {fill:UInt8} (hg:AW g=true) {p0:Int} (hp:0<=p0/\p0<g.sl) {u:Int} (hu:0<=u/\u<g.sl):∀ (sizes:List Int) (i j:Nat) (used:Int),0<=used/\used<=g.sl->Hu g ((p0+u).tmod g.sl) (A3 g a fill sizes i ((p0+used).tmod g.sl) used) j=findU (A3 g a fill sizes i ((p0+used).tmod g.sl) used) used j u
 | [],i,j,used,hd=>rfl
 | s::r,i,j,used,hd=>by
  obtain⟨h1,h2,h3,h4,h5⟩:=Ao.1 hg
  have hn:=Gg s
  have ep:((p0+used).tmod g.sl+(B6 s:Nat)+1).tmod g.sl=(p0+(used+(B6 s:Nat)+1)).tmod g.sl:=by
   rw [Aj (show 0<=p0+used by omega)]
   have q:=Int.emod_nonneg (p0+used) (show g.sl≠0 by omega)
   rw [Aj (by omega),Aj (by omega),BY,Cw,show p0+used+((B6 s:Nat)+1)=p0+(used+(B6 s:Nat)+1) by omega]
  unfold A3
  split
  ·rfl
  ·rename_i hc
   have hk:=S8 (t:=Cb g a fill i ((p0+used).tmod g.sl) (B6 s)) hg hp hu (used:=used) (by omega) rfl
   have ip:BW ((p0+used).tmod g.sl) 0 (g.sl - 1)=true:=by
    have q1:=A6 g.sl (show 0<=p0+used by omega)
    have q2:=Au (p0+used) (show 0<g.sl by omega)
    exact AE.2 (by omega)
   have inn:BW ((B6 s:Nat)+1) 0 g.sl=true:=AE.2 (by omega)
   have ih:=JT (a:=a) (fill:=fill) hg hp hu r (i+1) (j+1) (used+(B6 s:Nat)+1) (by omega)
   rw [<-ep] at ih
   unfold Hu findU
   have ok:No g (Cb g a fill i ((p0+used).tmod g.sl) (B6 s)) ((p0+u).tmod g.sl)=decide (used<=u/\u<used+((B6 s:Nat)+1)):=by
    unfold No
    rw [hk]
    simp only [Cb,ip,inn,Be]
    by_cases h:used<=u
    ·rw [if_pos h]
     exact decide_eq_decide.2 (by omega)
    ·rw [if_neg h]
     exact decide_eq_decide.2 (by omega)
   rw [ok,hk]
   by_cases h:used<=u/\u<used+((B6 s:Nat)+1)
   ·rw [if_pos (decide_eq_true h),if_pos h.1]
    rw [if_pos (show used<=u/\u<used+(Cb g a fill i ((p0+used).tmod g.sl) (B6 s)).n from h)]
   ·rw [if_neg (by rw [decide_eq_true_eq];exact h)]
    rw [if_neg (show ¬(used<=u/\u<used+(Cb g a fill i ((p0+used).tmod g.sl) (B6 s)).n) from h)]
    rw [ih]
    simp only [Cb,BY]
def VZ (look:Int->Rc × Int × List Wr):Nat->Int->List Wr->List Wr
 | 0,_,w=>w
 | f+1,k,w=>VZ look f (k+1) (w ++ (look k).2.2)
theorem IE {look:Int->Rc × Int × List Wr} {R:Nat->Rc} {imgs:List Img} (h1:∀ j,j<imgs.length->(R j).kind=1/\(R j).img=imgs.getD j ⟨0,0, []⟩) (h2:(R imgs.length).kind≠1) (hl:∀ j:Nat,1<=j->j<=imgs.length->(look (j:Nat)).1=R j/\(look (j:Nat)).2.1=1) :
  ∀ (f j:Nat) (w:List Wr),f+j=imgs.length->AS look f ((j:Nat)+1) (R j) (imgs.take j) w=(1,imgs,VZ look f ((j:Nat)+1) w)
 | 0,j,w,h=>by
  have e:j=imgs.length:=by omega
  subst e
  simp only [AS,if_neg h2,List.take_length,VZ]
 | f+1,j,w,h=>by
  obtain⟨k1,k2⟩:=h1 j (by omega)
  obtain⟨q1,q2⟩:=hl (j+1) (by omega) (by omega)
  have ej:(((j+1:Nat)):Int)=(j:Int)+1:=by omega
  rw [ej] at q1 q2
  have ih:=IE h1 h2 hl f (j+1) (w ++ (look ((j:Int)+1)).2.2) (by omega)
  rw [ej] at ih
  unfold AS VZ
  simp only [if_pos k1,q2]
  rw [if_neg (by decide),q1,k2,show imgs.take j ++ [imgs.getD j ⟨0,0, []⟩]=imgs.take (j+1) by rw [Ar (by omega),List.getD_eq_getElem?_getD,List.getElem?_eq_getElem (by omega)];rfl]
  exact ih
def Gp (g:Geo):List Tx->Int->Int->Prop
 | [],_,_=>True
 | t::r,seq,pos=>(t.seq=seq/\t.pos=pos/\t.n=t.images.length+1/\2<=t.n)/\Gp g r (seq+1) ((pos+t.n).tmod g.sl)
def usedM:List Tx->Int
 | []=>0
 | t::r=>t.n+usedM r
def H6 (g:Geo):List Tx->Int->Int
 | [],pos=>pos
 | t::r,pos=>H6 g r ((pos+t.n).tmod g.sl)
theorem Mf (g:Geo):∀ (l:List Tx) (seq pos:Int) (t:Tx),Gp g l seq pos->(t.seq=seq+l.length/\t.pos=H6 g l pos/\t.n=t.images.length+1/\2<=t.n)->Gp g (l ++ [t]) seq pos
 | [],seq,pos,t,_,h=>⟨⟨by have:=h.1;simpa using this,h.2.1,h.2.2.1,h.2.2.2⟩,trivial⟩
 | x::r,seq,pos,t,h,ht=>by
  refine⟨h.1,Mf g r (seq+1) _ t h.2 ⟨?_,ht.2⟩⟩
  rw [ht.1]
  simp only [Ah]
  omega
theorem used_app:∀ (l:List Tx) (t:Tx),usedM (l ++ [t])=usedM l+t.n
 | [],t=>by simp [usedM]
 | x::r,t=>by simp only [Bc,usedM,used_app r t];omega
theorem Qu (g:Geo):∀ (l:List Tx) (pos:Int) (t:Tx),H6 g (l ++ [t]) pos=((H6 g l pos)+t.n).tmod g.sl
 | [],pos,t=>rfl
 | x::r,pos,t=>by simp only [Bc,H6];exact Qu g r _ t
theorem JJ {g:Geo} {a:An} {seq left n:Int} {look:Int->Rc × Int × List Wr} (hlook:∀ i,1<=i->i<n->(look i).2.1=1->DA g (look i).1=true/\CU (look i).1 a seq i n left=true):∀ (f:Nat) (k:Int) (r:Rc) (im:List Img) (w:List Wr),1<=k->k+f=n->DA g r=true->r.at_=k - 1->r.of_=n->r.kind≠0->(im.length:Int)=k - 1->(AS look f k r im w).1=1->((AS look f k r im w).2.1.length:Int)+1=n
 | 0,k,r,im,w,hk,hn,hr,ha,ho,h0,hi,_=>by
  have hk1:r.kind≠1:=by
   intro e
   unfold DA DH at hr
   simp only [Bool.and_eq_true] at hr
   have h2:=hr.2
   rw [if_neg h0,if_pos e] at h2
   simp only [Bool.and_eq_true,AE] at h2
   omega
  unfold AS
  simp only [if_neg hk1]
  omega
 | f+1,k,r,im,w,hk,hn,hr,ha,ho,h0,hi,hG=>by
  have hk1:r.kind=1:=by
   unfold DA DH at hr
   simp only [Bool.and_eq_true] at hr
   have h2:=hr.2
   rw [if_neg h0] at h2
   split at h2
   ·assumption
   ·split at h2
    ·simp only [Bool.and_eq_true,beq_iff_eq] at h2
     omega
    ·cases h2
  unfold AS at hG |-
  simp only [if_pos hk1] at hG |-
  by_cases hq:(look k).2.1≠1
  ·rw [if_pos hq] at hG
   exact absurd hG hq
  ·rw [if_neg hq] at hG |-
   have hl:=hlook k hk (by omega) (by omega)
   have h1:=GD hl.1 hl.2
   have h2:=(of_decide_eq_true hl.2).1
   refine JJ hlook f (k+1) (look k).1 _ _ (by omega) (by omega) hl.1 (by omega) ?_ h2 ?_ hG
   ·exact h1.2.2.2.2.2 (by omega)
   ·rw [List.length_append]
    simp only [Ah,AG]
    omega
theorem L2 {g:Geo} {a:An} {x y:List Gt} {pos seq left:Int} (hg:AW g=true) (hp:0<=pos/\pos<g.sl) (h:(D9 g a x y pos seq left).1=1):((D9 g a x y pos seq left).2.2.1.length:Int)+1=(D9 g a x y pos seq left).2.1:=by
 have r0:=E9 (a:=a) (x:=x) (y:=y) (seq:=seq) (left:=left) (of_:=0) (at_:=0) hg hp (by omega)
 unfold D9 at h |-
 simp only at h |-
 rcases r0 with ⟨e1,⟨e2, -,e3⟩,e4⟩ | ⟨e1, -, -⟩
 ·rw [if_neg (by omega)] at h |-
  have hN:=GD e2 e3
  have h0:=(of_decide_eq_true e3).1
  by_cases hq:(AS (fun k=>Cx g a x y pos seq left k (Cx g a x y pos seq left 0 0).1.of_) ((Cx g a x y pos seq left 0 0).1.of_ - 1).toNat 1 (Cx g a x y pos seq left 0 0).1 [] (Cx g a x y pos seq left 0 0).2.2).1≠1
  ·rw [if_pos hq] at h
   exact absurd h hq
  ·rw [if_neg hq]
   refine JJ (g:=g) (a:=a) (seq:=seq) (left:=left) (n:=(Cx g a x y pos seq left 0 0).1.of_) (look:=fun k=>Cx g a x y pos seq left k (Cx g a x y pos seq left 0 0).1.of_) (fun i h1 h2 h3=>?_) _ 1 _ [] _ (by omega) (by omega) e2 (by omega) rfl h0 (by simp) (by omega)
   rcases E9 (a:=a) (x:=x) (y:=y) (seq:=seq) (left:=left) (of_:=(Cx g a x y pos seq left 0 0).1.of_) (at_:=i) hg hp (by omega) with ⟨_,⟨q1,_,q2⟩,_⟩ | ⟨q,_⟩
   ·exact⟨q1,q2⟩
   ·omega
 ·rw [if_pos (by omega)] at h
  simp only at h
  omega
theorem JA {g:Geo} {a:An} {x y:List Gt} (hg:AW g=true):∀ (f:Nat) (pos seq left:Int) (l:List Tx) (w:List Wr) {l':List Tx} {w':List Wr} {seq':Int},Gp g l a.seq a.pos->pos=H6 g l a.pos->seq=a.seq+l.length->usedM l+left=g.sl->0<=left->(0<=pos/\pos<g.sl)->CT g a x y f pos seq left l w=some (l',w',seq')->
  Gp g l' a.seq a.pos/\seq'=a.seq+l'.length/\usedM l'<=g.sl
 | 0,pos,seq,left,l,w,l',w',seq',h1,h2,h3,h4,h5,h6,h=>by
  unfold CT at h
  injection h with h
  injection h with e1 h
  injection h with e2 e3
  subst e1
  subst e3
  exact⟨h1,h3,by omega⟩
 | f+1,pos,seq,left,l,w,l',w',seq',h1,h2,h3,h4,h5,h6,h=>by
  unfold CT at h
  have fin:some (l,w,seq)=some (l',w',seq')->Gp g l' a.seq a.pos/\seq'=a.seq+l'.length/\usedM l'<=g.sl:=fun h=>by
   injection h with h
   injection h with e1 h
   injection h with e2 e3
   subst e1
   subst e3
   exact⟨h1,h3,by omega⟩
  by_cases hc:0<left/\seq<=4294967295
  ·rw [if_pos hc] at h
   simp only at h
   have tf:=Fi (a:=a) (x:=x) (y:=y) (seq:=seq) (left:=left) hg h6
   have ti:=fun e=>L2 (a:=a) (x:=x) (y:=y) (seq:=seq) (left:=left) hg h6 e
   generalize D9 g a x y pos seq left=q at tf ti h
   obtain⟨how,n,im,ws⟩:=q
   simp only at tf ti h
   rcases tf with ⟨rfl,t1,t2⟩ | tf
   ·rw [if_neg (by decide),if_neg (by decide)] at h
    have hi:=ti rfl
    obtain⟨g1,g2,g3,g4,g5⟩:=Ao.1 hg
    have hm:=Au (pos+n) (show 0<g.sl by omega)
    have hm0:=A6 g.sl (show 0<=pos+n by omega)
    refine JA hg f _ _ _ _ _ (Mf g l a.seq a.pos ⟨seq,pos,n,im⟩ h1 ⟨h3,h2,by simp only;omega,t1.1⟩) ?_ ?_ ?_ (by omega) ⟨hm0,hm⟩ h
    ·rw [Qu,<-h2]
    ·rw [List.length_append]
     simp only [Ah,AG]
     omega
    ·rw [used_app]
     simp only
     omega
   ·by_cases h3':how=3
    ·rw [if_pos h3'] at h
     cases h
    ·rw [if_neg h3',if_pos (by omega)] at h
     exact fin h
  ·rw [if_neg hc] at h
   exact fin h

theorem Q1 (g:Geo) (a:An) (fill:UInt8) (i:Nat) (pos:Int) (n:Nat):(Cb g a fill i pos n).n=(n:Int)+1:=rfl
theorem Q2 {g:Geo} {a:An} {fill:UInt8} {p0:Int} (hg:AW g=true) (hp:0<=p0):∀ (sizes:List Int) (i i0:Nat) (used:Int),0<=used->∀ j,j<(A3 g a fill sizes i ((p0+used).tmod g.sl) used).length->
  ∃ o:Int,used<=o/\o+((A3 g a fill sizes i ((p0+used).tmod g.sl) used).getD j tz).n<=g.sl/\((A3 g a fill sizes i ((p0+used).tmod g.sl) used).getD j tz).pos=(p0+o).tmod g.sl/\
   ∀ k:Nat,(k:Int)<((A3 g a fill sizes i ((p0+used).tmod g.sl) used).getD j tz).n->findU (A3 g a fill sizes i ((p0+used).tmod g.sl) used) used i0 (o+k)=some (i0+j,((k:Nat):Int))
 | [],i,i0,used,hu,j,hj=>by simp [A3] at hj
 | s::r,i,i0,used,hu,j,hj=>by
  obtain⟨h1,h2,h3,h4,h5⟩:=Ao.1 hg
  have hn:=Gg s
  have ep:((p0+used).tmod g.sl+(B6 s:Nat)+1).tmod g.sl=(p0+(used+(B6 s:Nat)+1)).tmod g.sl:=by
   rw [Aj (show 0<=p0+used by omega)]
   have q:=Int.emod_nonneg (p0+used) (show g.sl≠0 by omega)
   rw [Aj (by omega),Aj (by omega),BY,Cw,show p0+used+((B6 s:Nat)+1)=p0+(used+(B6 s:Nat)+1) by omega]
  unfold A3 at hj |-
  split at hj
  ·simp at hj
  ·rename_i hc
   rw [if_neg hc]
   cases j with
   | zero=>
    refine⟨used,Bo _,show used+((B6 s:Nat)+1:Int)<=g.sl by omega,rfl,fun k hk=>?_⟩
    have hk:(k:Int)<(B6 s:Nat)+1:=hk
    unfold findU
    rw [Q1,if_pos (show used<=used+(k:Int)/\used+(k:Int)<used+((B6 s:Nat)+1:Int) by omega)]
    simp only [BE]
    rw [show used+(k:Int) - used=(k:Int) by omega]
   | succ j=>
    rw [ep] at hj |-
    obtain⟨o,o1,o2,o3,o4⟩:=Q2 (a:=a) (fill:=fill) hg hp r (i+1) (i0+1) (used+(B6 s:Nat)+1) (by omega) j (by simpa using hj)
    refine⟨o,by omega,o2,o3,fun k hk=>?_⟩
    unfold findU
    rw [Q1,if_neg (show ¬(used<=o+(k:Int)/\o+(k:Int)<used+((B6 s:Nat)+1:Int)) by omega)]
    have:=o4 k hk
    rw [show i0+1+j=i0+(j+1) by omega] at this
    rw [<-this,BY]
theorem GZ {g:Geo} {a:An} {fill:UInt8} {sizes:List Int} {ep:Int} (hg:AW g=true) (ha:AY g a=true) {j k:Nat} (hj:j<(A3 g a fill sizes 0 a.pos 0).length) (hk:k<((A3 g a fill sizes 0 a.pos 0).getD j tz).images.length+1) :
  (0<=AO g ((A3 g a fill sizes 0 a.pos 0).getD j tz).pos k/\AO g ((A3 g a fill sizes 0 a.pos 0).getD j tz).pos k<g.sl)/\
  Gc g (A3 g a fill sizes 0 a.pos 0) ep (AO g ((A3 g a fill sizes 0 a.pos 0).getD j tz).pos k)=(Bt ((A3 g a fill sizes 0 a.pos 0).getD j tz).seq ep ((A3 g a fill sizes 0 a.pos 0).getD j tz).images).getD k rc0:=by
 obtain⟨h1,h2,h3,h4,h5⟩:=Ao.1 hg
 have hq:=BV ha
 have e0:(a.pos+0).tmod g.sl=a.pos:=by rw [Int.add_zero];exact DK hq.2.1 hq.2.2
 have hin:=I3 (a:=a) (fill:=fill) hg sizes 0 a.pos 0 hq.2
 obtain⟨pos,n,e,n1,n2,p1,p2⟩:=hin.at_ j hj
 obtain⟨o,o1,o2,o3,o4⟩:=Q2 (a:=a) (fill:=fill) (p0:=a.pos) hg hq.2.1 sizes 0 0 0 (Bo 0) j (by rw [e0];exact hj)
 rw [e0] at o2 o3 o4
 have hN:((A3 g a fill sizes 0 a.pos 0).getD j tz).n=n+1:=by rw [e];rfl
 have hI:((A3 g a fill sizes 0 a.pos 0).getD j tz).images.length=n:=by rw [e];simp [Cb]
 have hs:AO g ((A3 g a fill sizes 0 a.pos 0).getD j tz).pos k=(a.pos+(o+k)).tmod g.sl:=by
  unfold AO
  have q1:=A6 g.sl (show 0<=a.pos+o by omega)
  have q2:=Au (a.pos+o) (show 0<g.sl by omega)
  rw [o3,show IntKind.i64.wrap ((a.pos+o).tmod g.sl+(k:Int))=(a.pos+o).tmod g.sl+k by rw [IntKind.wrap_i64];omega]
  rw [Aj (show 0<=a.pos+o by omega)] at q1 |-
  rw [Aj (by omega),Aj (by omega),Cw,BY]
 have hw:=JT (a:=a) (fill:=fill) hg (p0:=a.pos) hq.2 (u:=o+k) (by omega) sizes 0 0 0 ⟨Bo 0,by omega⟩
 rw [e0,o4 k (by omega)] at hw
 refine⟨Km hg (by rw [e];exact⟨p1,p2⟩) (by omega),?_⟩
 rw [hs]
 unfold Gc
 rw [hw]
 simp only [Aq,Aa]
 rfl
theorem Je {g:Geo} (hg:AW g=true):∀ (l:List Tx) (x:Int),0<=x->(∀ t∈l,0<=t.n)->H6 g l (x.tmod g.sl)=(x+usedM l).tmod g.sl
 | [],x,hx,_=>by simp [H6,usedM]
 | t::r,x,hx,h=>by
  obtain⟨h1,h2,h3,h4,h5⟩:=Ao.1 hg
  have ht:=h t (by simp)
  have ih:=Je hg r (x+t.n) (by omega) (fun t ht=>h t (A7 _ ht))
  have e:(x.tmod g.sl+t.n).tmod g.sl=(x+t.n).tmod g.sl:=by
   rw [Aj hx]
   have q:=Int.emod_nonneg x (show g.sl≠0 by omega)
   rw [Aj (by omega),Aj (by omega),Cw]
  simp only [H6,usedM]
  rw [e,ih,BY]
theorem findU_none:∀ (l:List Tx) (used:Int) (i:Nat) (u:Int),(∀ t∈l,0<=t.n)->used+usedM l<=u->findU l used i u=none
 | [],_,_,_,_,_=>rfl
 | t::r,used,i,u,h,hu=>by
  have ht:=h t (by simp)
  simp only [usedM] at hu
  have hr:0<=usedM r:=by
   have:∀ l:List Tx,(∀ t∈l,0<=t.n)->0<=usedM l:=by
    intro l
    induction l with
    | nil=>intro _;simp [usedM]
    | cons x y ih=>intro h;have:=ih (fun t ht=>h t (A7 _ ht));have:=h x (by simp);simp only [usedM];omega
   exact this r fun t ht=>h t (A7 _ ht)
  unfold findU
  rw [if_neg (by omega)]
  exact findU_none r (used+t.n) (i+1) u (fun t ht=>h t (A7 _ ht)) (by omega)

def Ll (a:An) (x:Option Rc) (b:Bool) (r:Rc) (seq at_:Int):Prop:=if b=true then x=some r else ∀ of_ left,CE x a seq at_ of_ left=false
def IU (b0 b1:Bool):List Int:=if b0 then (if b1 then [] else [1]) else [0]
theorem V7 {a:An} {p q:Int->Option Rc} {slot seq at_ of_ left:Int} {r:Rc} {b0 b1:Bool} (hp:Ll a (p slot) b0 r seq at_) (hq:Ll a (q slot) b1 r seq at_) (h:(b0 || b1)=true) (h1:CU r a seq at_ of_ left=true):JG a p q slot seq at_ of_ left=(r,IU b0 b1,1):=by
 unfold Ll at hp hq
 unfold JG
 cases b0 <;> cases b1
 ·cases h
 ·rw [if_neg (by decide)] at hp
  rw [if_pos rfl] at hq
  rw [hp,hq];simp [CE,h1,BO,IU]
 ·rw [if_pos rfl] at hp
  rw [if_neg (by decide)] at hq
  rw [hq,hp];simp [CE,h1,BO,IU]
 ·rw [if_pos rfl] at hp hq
  rw [hp,hq];simp [CE,h1,BO,IU]
def JB (g:Geo) (ep:Int) (b0 b1:Int->Bool) (t:Tx) (k:Nat):List Wr:=(IU (b0 (AO g t.pos k)) (b1 (AO g t.pos k))).map fun c=>⟨AK g c (AO g t.pos k),Cu g ((Bt t.seq ep t.images).getD k rc0) c (AO g t.pos k)⟩
def Mn (g:Geo) (ep:Int) (b0 b1:Int->Bool) (t:Tx):List Wr:=(List.range (t.images.length+1)).flatMap fun k=>JB g ep b0 b1 t k
theorem S0 {look:Int->Rc × Int × List Wr}:∀ (f:Nat) (k:Int) (w:List Wr),VZ look f k w=w ++ (List.range f).flatMap fun j=>(look (k+(j:Nat))).2.2
 | 0,k,w=>by simp [VZ]
 | f+1,k,w=>by
  rw [VZ,S0 f (k+1),Cf,BK,List.flatMap_map,List.append_assoc]
  congr 1
  congr 1
  ·rw [show k+((0:Nat):Int)=k by omega]
  ·congr 1
   funext j
   rw [show k+1+(j:Int)=k+((j.succ:Nat):Int) by omega]
def UL (g:Geo) (a:An) (ep:Int) (p q:Int->Option Rc) (b0 b1:Int->Bool) (t:Tx) (n:Nat):Prop:=
 (ep=a.epoch\/t.seq<=a.last/\ep<=a.epoch)/\∀ k:Nat,k<n->Ll a (p (AO g t.pos k)) (b0 (AO g t.pos k)) ((Bt t.seq ep t.images).getD k rc0) t.seq k/\Ll a (q (AO g t.pos k)) (b1 (AO g t.pos k)) ((Bt t.seq ep t.images).getD k rc0) t.seq k/\(b0 (AO g t.pos k) || b1 (AO g t.pos k))=true
theorem H0 (seq ep:Int) (imgs:List Img) (k:Nat) (hk:k<imgs.length+1):((Bt seq ep imgs).getD k rc0).kind≠0/\((Bt seq ep imgs).getD k rc0).seq=seq/\((Bt seq ep imgs).getD k rc0).epoch=ep/\((Bt seq ep imgs).getD k rc0).at_=(k:Nat)/\((Bt seq ep imgs).getD k rc0).of_=imgs.length+1/\(((Bt seq ep imgs).getD k rc0).kind=1↔k<imgs.length)/\(k<imgs.length->((Bt seq ep imgs).getD k rc0).img=imgs.getD k ⟨0,0, []⟩):=by
 rw [LG seq ep imgs hk]
 split
 ·exact⟨by simp,rfl,rfl,rfl,rfl,by simp [*],fun _=>rfl⟩
 ·exact⟨by simp,rfl,rfl,rfl,rfl,by simp [*],fun h=>by omega⟩
theorem W7 {g:Geo} {a:An} {p q:Int->Option Rc} {b0 b1:Int->Bool} {left ep:Int} {t:Tx} {n:Nat} (hS:UL g a ep p q b0 b1 t n) (hn:n<=t.images.length+1) (hleft:(t.images.length:Int)+1<=left) (k:Nat) (of_:Int) (hk:k<n) (ho:of_=0\/of_=t.images.length+1):BI g a p q t.pos t.seq left k of_=((Bt t.seq ep t.images).getD k rc0,1,JB g ep b0 b1 t k):=by
 obtain⟨s1,s2,s3⟩:=hS.2 k hk
 obtain⟨r1,r2,r3,r4,r5, -⟩:=H0 t.seq ep t.images k (by omega)
 have:=V7 (of_:=of_) (left:=left) s1 s2 s3 (decide_eq_true ⟨r1,r2,r4,fun _=>by omega,fun _=>by omega,by rw [r3];exact hS.1⟩)
 unfold BI
 dsimp only
 rw [this]
 rfl
theorem JM {α β:Type} {f g:α->List β}:∀ {l:List α},(∀ x∈l,f x=g x)->l.flatMap f=l.flatMap g
 | [],_=>rfl
 | x::l,h=>by rw [BK,BK,h x (by simp),JM fun y hy=>h y (A7 _ hy)]
theorem Wt {g:Geo} {a:An} {p q:Int->Option Rc} {b0 b1:Int->Bool} {left ep:Int} {t:Tx} (hS:UL g a ep p q b0 b1 t (t.images.length+1)) (hleft:(t.images.length:Int)+1<=left) :
  ER g a p q t.pos t.seq left=(1,(t.images.length:Int)+1,t.images,Mn g ep b0 b1 t):=by
 have hr:=H0 t.seq ep t.images
 have hrec:=fun k of_ hk ho=>W7 (left:=left) hS (Nat.le_refl _) hleft k of_ hk ho
 have a1:=hrec 0 0 (by omega) (.inl rfl)
 have a3:=(hr 0 (by omega)).2.2.2.2.1
 have gf:=IE (look:=fun k=>BI g a p q t.pos t.seq left k (t.images.length+1)) (R:=fun k=>(Bt t.seq ep t.images).getD k rc0) (imgs:=t.images) (fun j hj=>⟨(hr j (by omega)).2.2.2.2.2.1.2 hj,(hr j (by omega)).2.2.2.2.2.2 hj⟩) (fun e=>by have:=(hr t.images.length (by omega)).2.2.2.2.2.1.1 e;omega) (fun j h1 h2=>by rw [hrec j _ (by omega) (.inr rfl)];exact⟨rfl,rfl⟩) t.images.length 0 (JB g ep b0 b1 t 0) (by omega)
 unfold ER
 simp only
 have a1':BI g a p q t.pos t.seq left 0 0=((Bt t.seq ep t.images).getD 0 rc0,1,JB g ep b0 b1 t 0):=a1
 rw [a1']
 dsimp only
 rw [if_neg (fun h=>h rfl),a3]
 have ef:((t.images.length:Int)+1 - 1).toNat=t.images.length:=by omega
 rw [ef]
 have gf':AS (fun k=>BI g a p q t.pos t.seq left k (t.images.length+1)) t.images.length 1 ((Bt t.seq ep t.images).getD 0 rc0) [] (JB g ep b0 b1 t 0)=(1,t.images,VZ (fun k=>BI g a p q t.pos t.seq left k (t.images.length+1)) t.images.length 1 (JB g ep b0 b1 t 0)):=gf
 rw [gf',if_neg (show ¬(1:Int)≠1 by decide),S0]
 unfold Mn
 rw [Cf,BK,List.flatMap_map]
 have ew:((List.range t.images.length).flatMap fun j=>(BI g a p q t.pos t.seq left (1+(j:Nat)) (t.images.length+1)).2.2)=(List.range t.images.length).flatMap fun j=>JB g ep b0 b1 t j.succ:=by
  refine JM fun j hj=>?_
  have hj:=AA.1 hj
  have:=hrec (j+1) _ (by omega) (.inr rfl)
  rw [show 1+((j:Nat):Int)=(((j+1:Nat)):Int) by omega,this]
 rw [ew]
theorem N6 {g:Geo} {a b:An} {fill:UInt8} {p q:Int->Option Rc} {b0 b1:Int->Bool} {ep:Int} (hg:AW g=true) (hsq:a.seq<=1000000):∀ (sizes:List Int) (i:Nat) (pos used:Int) (l0:List Tx) (w:List Wr) (f:Nat),0<=used/\used<=g.sl->(0<=pos/\pos<g.sl)->i<=100->sizes.length+i<=100->g.sl - used<=(f:Nat)->(∀ t∈A3 g a fill sizes i pos used,UL g b ep p q b0 b1 t (t.images.length+1))->
  ∃ (f':Nat),g.sl - (used+usedM (A3 g a fill sizes i pos used))<=(f':Nat)/\used+usedM (A3 g a fill sizes i pos used)<=g.sl/\
   Dg g b p q f pos (a.seq+i) (g.sl - used) l0 w=Dg g b p q f' (H6 g (A3 g a fill sizes i pos used) pos) (a.seq+i+(A3 g a fill sizes i pos used).length) (g.sl - (used+usedM (A3 g a fill sizes i pos used))) (l0 ++ A3 g a fill sizes i pos used) (w ++ (A3 g a fill sizes i pos used).flatMap (Mn g ep b0 b1))
 | [],i,pos,used,l0,w,f,hu,hp,hi,hl,hf,hs=>⟨f,by simp [A3,usedM];omega,by simp [A3,usedM];omega,by simp [A3,usedM,H6]⟩
 | s::r,i,pos,used,l0,w,f,hu,hp,hi,hl,hf,hs=>by
  obtain⟨h1,h2,h3,h4,h5⟩:=Ao.1 hg
  have hn:=Gg s
  simp only [Ah] at hl
  unfold A3 at hs |-
  by_cases hc:g.sl<used+(B6 s:Nat)+1
  ·rw [if_pos hc] at hs |-
   exact⟨f,by simp [usedM];omega,by simp [usedM];omega,by simp [usedM,H6]⟩
  ·rw [if_neg hc] at hs |-
   have t1:=hs (Cb g a fill i pos (B6 s)) (by simp)
   have il:(Cb g a fill i pos (B6 s)).images.length=B6 s:=by simp [Cb]
   have tf:=Wt (left:=g.sl - used) t1 (by omega)
   rw [il,show (Cb g a fill i pos (B6 s)).pos=pos from rfl,show (Cb g a fill i pos (B6 s)).seq=a.seq+i from rfl] at tf
   have hm:=Au (pos+(B6 s:Nat)+1) (show 0<g.sl by omega)
   have hm0:=A6 g.sl (show 0<=pos+(B6 s:Nat)+1 by omega)
   cases f with
   | zero=>exfalso;omega
   | succ f=>
    obtain⟨f',e1,e3,e4⟩:=N6 (b:=b) (fill:=fill) hg hsq r (i+1) ((pos+(B6 s:Nat)+1).tmod g.sl) (used+(B6 s:Nat)+1) (l0 ++ [Cb g a fill i pos (B6 s)]) (w ++ Mn g ep b0 b1 (Cb g a fill i pos (B6 s))) f (by omega) ⟨hm0,hm⟩ (by omega) (by omega) (by omega) (fun t ht=>hs t (A7 _ ht))
    refine⟨f',?_,?_,?_⟩
    ·simp only [usedM,Cb] at e1 |-
     omega
    ·simp only [usedM,Cb] at e3 |-
     omega
    ·have ea:a.seq+(((i+1:Nat)):Int)=a.seq+(i:Int)+1:=by omega
     rw [ea] at e4
     have hstep:Dg g b p q (f+1) pos (a.seq+i) (g.sl - used) l0 w=Dg g b p q f ((pos+(B6 s:Nat)+1).tmod g.sl) (a.seq+i+1) (g.sl - (used+(B6 s:Nat)+1)) (l0 ++ [Cb g a fill i pos (B6 s)]) (w ++ Mn g ep b0 b1 (Cb g a fill i pos (B6 s))):=by
      conv=>lhs;unfold Dg
      rw [if_pos (by omega)]
      simp only [tf]
      rw [if_neg (by decide),if_neg (by decide)]
      rw [show pos+(((B6 s:Nat):Int)+1)=pos+(B6 s:Nat)+1 by omega,show g.sl - used - (((B6 s:Nat):Int)+1)=g.sl - (used+(B6 s:Nat)+1) by omega]
      rfl
     rw [hstep,e4]
     simp only [usedM,H6,Cb,Ah,BK,List.append_assoc,Bc,Bj,BY]
     congr 1 <;> omega
theorem JU {l:List Tx} (h:∀ t∈l,0<=t.n):0<=usedM l:=by
 induction l with
 | nil=>simp [usedM]
 | cons x y ih=>have:=ih (fun t ht=>h t (A7 _ ht));have:=h x (by simp);simp only [usedM];omega
theorem F7 {g:Geo} {a:An} {fill:UInt8} {sizes:List Int} (hg:AW g=true) (ha:AY g a=true):∀ t∈A3 g a fill sizes 0 a.pos 0,0<=t.n:=fun t ht=>by
 have hq:=BV ha
 obtain⟨j,hj,rfl⟩:=C_.1 ht
 obtain⟨pos,n,e, -⟩:=(I3 (a:=a) (fill:=fill) hg sizes 0 a.pos 0 hq.2).at_ j hj
 rw [List.getD_eq_getElem?_getD,List.getElem?_eq_getElem hj] at e
 simp only [Bb] at e
 rw [e]
 simp only [Cb]
 omega
theorem Wx {g:Geo} {a b:An} {fill:UInt8} {sizes:List Int} {ep:Int} {p q:Int->Option Rc} {b0 b1:Int->Bool} (hg:AW g=true) (ha:AY g a=true) (hsq:a.seq<=1000000) (hl:sizes.length<=40) (hbs:b.seq=a.seq) (hbp:b.pos=a.pos) (hS:∀ t∈A3 g a fill sizes 0 a.pos 0,UL g b ep p q b0 b1 t (t.images.length+1)) :
  ∃ f:Nat,g.sl - usedM (A3 g a fill sizes 0 a.pos 0)<=(f:Nat)/\usedM (A3 g a fill sizes 0 a.pos 0)<=g.sl/\
   J9 g b p q=Lt b (Dg g b p q f ((a.pos+usedM (A3 g a fill sizes 0 a.pos 0)).tmod g.sl) (a.seq+(A3 g a fill sizes 0 a.pos 0).length) (g.sl - usedM (A3 g a fill sizes 0 a.pos 0)) (A3 g a fill sizes 0 a.pos 0) ((A3 g a fill sizes 0 a.pos 0).flatMap (Mn g ep b0 b1))):=by
 obtain⟨h1,h2,h3,h4,h5⟩:=Ao.1 hg
 have hq:=BV ha
 obtain⟨f,e1,e2,e3⟩:=N6 (b:=b) (fill:=fill) hg hsq sizes 0 a.pos 0 [] [] g.sl.toNat ⟨Bo 0,by omega⟩ hq.2 (by omega) (by omega) (by omega) hS
 have hpos:=Je hg (A3 g a fill sizes 0 a.pos 0) a.pos hq.2.1 (F7 hg ha)
 rw [DK hq.2.1 hq.2.2] at hpos
 rw [hpos] at e3
 refine⟨f,by omega,by omega,?_⟩
 unfold J9
 rw [hbp,hbs]
 simp only [Int.sub_zero,Bj,Int.zero_add,Int.natCast_zero,Int.add_zero] at e3
 rw [e3]
theorem O_ {g:Geo} {b:An} {p q:Int->Option Rc} {f:Nat} {pos seq left:Int} {l:List Tx} {w:List Wr} (h:0<left->(ER g b p q pos seq left).1=2):Dg g b p q f pos seq left l w=some (l,w,seq):=by
 cases f with
 | zero=>rfl
 | succ f=>
  unfold Dg
  by_cases hc:0<left/\seq<=4294967295
  ·rw [if_pos hc]
   simp only [h hc.1]
   rfl
  ·rw [if_neg hc]
theorem QL {g:Geo} {b:An} {p q:Int->Option Rc} {pos seq left:Int} (h0:∀ of_ left,CE (p (AO g pos 0)) b seq 0 of_ left=false) (h1:∀ of_ left,CE (q (AO g pos 0)) b seq 0 of_ left=false) (h:((p (AO g pos 0)).isSome || (q (AO g pos 0)).isSome)=true):(ER g b p q pos seq left).1=2:=by
 have:(BI g b p q pos seq left 0 0).2.1=2:=by
  unfold BI JG
  simp only [h0,h1]
  simp [BO,h]
 unfold ER
 simp only [this]
 rfl
theorem Oi {g:Geo} {a:An} {fill:UInt8}:∀ (sizes:List Int) (i:Nat) (pos used:Int) (j:Nat),j<(A3 g a fill sizes i pos used).length->((A3 g a fill sizes i pos used).getD j tz).pos=H6 g ((A3 g a fill sizes i pos used).take j) pos
 | [],_,_,_,j,h=>by simp [A3] at h
 | s::r,i,pos,used,j,h=>by
  unfold A3 at h |-
  split at h
  ·simp at h
  ·rename_i hc
   rw [if_neg hc]
   cases j with
   | zero=>rfl
   | succ j=>
    have ih:=Oi r (i+1) ((pos+(B6 s:Nat)+1).tmod g.sl) (used+(B6 s:Nat)+1) j (by simpa using h)
    rw [Bx,H6,List.getD_cons_succ,ih]
    simp only [Cb]
    rw [BY]
theorem used_take:∀ (l:List Tx) (j:Nat),j<l.length->usedM (l.take (j+1))=usedM (l.take j)+(l.getD j tz).n
 | [],j,h=>by simp at h
 | t::r,0,_=>by simp [usedM]
 | t::r,j+1,h=>by
  have:=used_take r j (by simpa using h)
  simp only [Bx,usedM,List.getD_cons_succ] at this |-
  omega
section
variable {g:Geo} {a:An} {fill:UInt8} {sizes:List Int}
theorem MO (hg:AW g=true) (ha:AY g a=true) {j:Nat} (hj:j<(A3 g a fill sizes 0 a.pos 0).length):((A3 g a fill sizes 0 a.pos 0).getD j tz).seq=a.seq+j/\((A3 g a fill sizes 0 a.pos 0).getD j tz).n=((A3 g a fill sizes 0 a.pos 0).getD j tz).images.length+1/\1<=((A3 g a fill sizes 0 a.pos 0).getD j tz).images.length/\((A3 g a fill sizes 0 a.pos 0).getD j tz).images.length<=5:=by
 obtain⟨pos,n,e,n1,n2, -⟩:=(I3 (a:=a) (fill:=fill) hg sizes 0 a.pos 0 (BV ha).2).at_ j hj
 rw [e]
 simp [Cb]
 omega
theorem MN {t:Tx} (hj:t∈A3 g a fill sizes 0 a.pos 0):∃ j,j<(A3 g a fill sizes 0 a.pos 0).length/\t=(A3 g a fill sizes 0 a.pos 0).getD j tz:=by
 obtain⟨j,h,rfl⟩:=C_.1 hj
 exact⟨j,h,by rw [List.getD_eq_getElem?_getD,List.getElem?_eq_getElem h];rfl⟩
theorem JH (hg:AW g=true) (ha:AY g a=true) (j:Nat):0<=usedM ((A3 g a fill sizes 0 a.pos 0).take j):=JU fun t ht=>F7 hg ha t (Bu ht)
theorem TG (hg:AW g=true) (ha:AY g a=true) {j k:Nat} (hj:j<(A3 g a fill sizes 0 a.pos 0).length) (hk:k<((A3 g a fill sizes 0 a.pos 0).getD j tz).images.length+1):AO g ((A3 g a fill sizes 0 a.pos 0).getD j tz).pos k=(a.pos+(usedM ((A3 g a fill sizes 0 a.pos 0).take j)+k)).tmod g.sl:=by
 obtain⟨h1,h2,h3,h4,h5⟩:=Ao.1 hg
 have hq:=BV ha
 have hu:=JH (fill:=fill) (sizes:=sizes) hg ha j
 have hp:=Je hg ((A3 g a fill sizes 0 a.pos 0).take j) a.pos hq.2.1 fun t ht=>F7 hg ha t (Bu ht)
 rw [DK hq.2.1 hq.2.2,<-Oi sizes 0 a.pos 0 j hj] at hp
 have hgt:=MO (fill:=fill) (sizes:=sizes) hg ha hj
 rw [hp]
 unfold AO
 have q1:=A6 g.sl (show 0<=a.pos+usedM ((A3 g a fill sizes 0 a.pos 0).take j) by omega)
 have q2:=Au (a.pos+usedM ((A3 g a fill sizes 0 a.pos 0).take j)) (show 0<g.sl by omega)
 rw [show IntKind.i64.wrap ((a.pos+usedM ((A3 g a fill sizes 0 a.pos 0).take j)).tmod g.sl+(k:Int))=(a.pos+usedM ((A3 g a fill sizes 0 a.pos 0).take j)).tmod g.sl+k by rw [IntKind.wrap_i64];omega]
 rw [Aj (show 0<=a.pos+usedM ((A3 g a fill sizes 0 a.pos 0).take j) by omega)] at q1 |-
 rw [Aj (by omega),Aj (by omega),Cw,BY]
theorem Rt {ep u:Int} (hg:AW g=true) (ha:AY g a=true) (hu:usedM (A3 g a fill sizes 0 a.pos 0)<=u) (hs:u<g.sl):Gc g (A3 g a fill sizes 0 a.pos 0) ep ((a.pos+u).tmod g.sl)=zeroC:=by
 obtain⟨h1,h2,h3,h4,h5⟩:=Ao.1 hg
 have hq:=BV ha
 have h0:=JU (F7 (fill:=fill) (sizes:=sizes) hg ha)
 have hw:=JT (a:=a) (fill:=fill) hg (p0:=a.pos) hq.2 (u:=u) (by omega) sizes 0 0 0 ⟨Bo 0,by omega⟩
 rw [show (a.pos+0).tmod g.sl=a.pos by rw [Int.add_zero];exact DK hq.2.1 hq.2.2] at hw
 rw [findU_none _ 0 0 _ (F7 hg ha) (by omega)] at hw
 unfold Gc
 rw [hw]
theorem UY (hg:AW g=true) {x:Int} (hx:0<=x):AO g (x.tmod g.sl) 0=x.tmod g.sl:=by
 obtain⟨h1,h2,h3,h4,h5⟩:=Ao.1 hg
 have q1:=A6 g.sl hx
 have q2:=Au x (show 0<g.sl by omega)
 unfold AO
 rw [Int.add_zero,show IntKind.i64.wrap (x.tmod g.sl)=x.tmod g.sl by rw [IntKind.wrap_i64];omega]
 exact DK q1 q2
theorem NY (b:An) (s at_ of_ left:Int):CE (some zeroC) b s at_ of_ left=false:=by
 show CU zeroC b s at_ of_ left=false
 exact decide_eq_false fun h=>h.1 rfl
theorem N_ (b:An) (s at_ of_ left:Int):CE none b s at_ of_ left=false:=rfl
theorem N7 {L:List Tx} {ep s:Int} {bad:Int->Bool} (hs:0<=s/\s<g.sl):Gr g L ep bad s=if bad s then none else some (Gc g L ep s):=by
 unfold Gr
 rw [if_pos hs]
theorem Qh {b:An} {ep:Int} {bad:Int->Bool} (hg:AW g=true) (ha:AY g a=true) {j k:Nat} (hj:j<(A3 g a fill sizes 0 a.pos 0).length) (hk:k<((A3 g a fill sizes 0 a.pos 0).getD j tz).images.length+1) :
  Ll b (Gr g (A3 g a fill sizes 0 a.pos 0) ep bad (AO g ((A3 g a fill sizes 0 a.pos 0).getD j tz).pos k)) (!bad (AO g ((A3 g a fill sizes 0 a.pos 0).getD j tz).pos k)) ((Bt ((A3 g a fill sizes 0 a.pos 0).getD j tz).seq ep ((A3 g a fill sizes 0 a.pos 0).getD j tz).images).getD k rc0) ((A3 g a fill sizes 0 a.pos 0).getD j tz).seq k:=by
 obtain⟨q1,q2⟩:=GZ (fill:=fill) (sizes:=sizes) (ep:=ep) hg ha hj hk
 rw [N7 q1,q2]
 unfold Ll
 cases bad (AO g ((A3 g a fill sizes 0 a.pos 0).getD j tz).pos k)
 ·rfl
 ·exact fun _ _=>rfl
theorem WW {b:An} {ep:Int} {bad0 bad1:Int->Bool} (hg:AW g=true) (ha:AY g a=true) {j n:Nat} (hj:j<(A3 g a fill sizes 0 a.pos 0).length) (hn:n<=((A3 g a fill sizes 0 a.pos 0).getD j tz).images.length+1) (he:ep=b.epoch\/a.seq+j<=b.last/\ep<=b.epoch) (hb:∀ k,k<n->(bad0 (AO g ((A3 g a fill sizes 0 a.pos 0).getD j tz).pos (k:Nat))&&bad1 (AO g ((A3 g a fill sizes 0 a.pos 0).getD j tz).pos (k:Nat)))=false) :
  UL g b ep (Gr g (A3 g a fill sizes 0 a.pos 0) ep bad0) (Gr g (A3 g a fill sizes 0 a.pos 0) ep bad1) (fun s=>!bad0 s) (fun s=>!bad1 s) ((A3 g a fill sizes 0 a.pos 0).getD j tz) n:=by
 refine⟨?_,fun k hk=>⟨Qh hg ha hj (by omega),Qh hg ha hj (by omega),?_⟩⟩
 ·rw [(MO hg ha hj).1]
  exact he
 ·have:=hb k hk
  cases h0:bad0 (AO g ((A3 g a fill sizes 0 a.pos 0).getD j tz).pos k) <;> cases h1:bad1 (AO g ((A3 g a fill sizes 0 a.pos 0).getD j tz).pos k) <;> simp_all
end
theorem QO (g:Geo) (ep:Int) (l:List Tx) {b0 b1:Int->Bool} (h0:∀ s,b0 s=true) (h1:∀ s,b1 s=true):l.flatMap (Mn g ep b0 b1)=[]:=by
 rw [List.flatMap_eq_nil_iff]
 intro t _
 unfold Mn
 rw [List.flatMap_eq_nil_iff]
 intro k _
 simp [JB,h0,h1,IU]
section
variable {g:Geo} {a:An} {fill:UInt8} {sizes:List Int}
end
theorem Kf {p u v n:Int} (hp:0<=p/\p<n) (hu:0<=u/\u<n) (hv:0<=v/\v<n) (h:(p+u).tmod n=(p+v).tmod n):u=v:=by
 have h1:(p+u).tmod n=if p+u<n then p+u else p+u - n:=by
  split
  ·exact DK (by omega) (by omega)
  ·exact GX (by omega) (by omega) (by omega)
 have h2:(p+v).tmod n=if p+v<n then p+v else p+v - n:=by
  split
  ·exact DK (by omega) (by omega)
  ·exact GX (by omega) (by omega) (by omega)
 rw [h1,h2] at h
 split at h <;> split at h <;> omega
section
variable {g:Geo} {a:An} {fill:UInt8} {sizes:List Int}
theorem S7 {u:Int} (hg:AW g=true) (ha:AY g a=true) (hu:usedM (A3 g a fill sizes 0 a.pos 0)<=u) (hs:u<g.sl):Hu g ((a.pos+u).tmod g.sl) (A3 g a fill sizes 0 a.pos 0) 0=none:=by
 obtain⟨h1,h2,h3,h4,h5⟩:=Ao.1 hg
 have hq:=BV ha
 have h0:=JU (F7 (fill:=fill) (sizes:=sizes) hg ha)
 have hw:=JT (a:=a) (fill:=fill) hg (p0:=a.pos) hq.2 (u:=u) (by omega) sizes 0 0 0 ⟨Bo 0,by omega⟩
 rw [show (a.pos+0).tmod g.sl=a.pos by rw [Int.add_zero];exact DK hq.2.1 hq.2.2] at hw
 rw [findU_none _ 0 0 _ (F7 hg ha) (by omega)] at hw
 exact hw
theorem S5 (hg:AW g=true) (ha:AY g a=true) {j k:Nat} (hj:j<(A3 g a fill sizes 0 a.pos 0).length) (hk:k<((A3 g a fill sizes 0 a.pos 0).getD j tz).images.length+1):(Hu g (AO g ((A3 g a fill sizes 0 a.pos 0).getD j tz).pos k) (A3 g a fill sizes 0 a.pos 0) 0).isSome=true:=by
 obtain⟨-,r2⟩:=GZ (ep:=0) hg ha hj hk
 cases h:Hu g (AO g ((A3 g a fill sizes 0 a.pos 0).getD j tz).pos k) (A3 g a fill sizes 0 a.pos 0) 0 with
 | some _=>rfl
 | none=>
  unfold Gc at r2
  rw [h] at r2
  have:=(H0 ((A3 g a fill sizes 0 a.pos 0).getD j tz).seq 0 ((A3 g a fill sizes 0 a.pos 0).getD j tz).images k hk).1
  rw [<-r2] at this
  exact absurd rfl this
end
abbrev PQ:=(Int->Option Rc) × (Int->Option Rc)
def Sx (p:Int->Option Rc) (s:Int) (v:Option Rc):Int->Option Rc:=fun t=>if t=s then v else p t
def Hs (g:Geo) (x:Wr) (z:PQ):PQ:=if x.addr - g.an<g.sl then (Sx z.1 (x.addr - g.an) (BZ g ⟨0,x.bytes⟩ 0 (x.addr - g.an)),z.2) else (z.1,Sx z.2 (x.addr - g.an - g.sl) (BZ g ⟨0,x.bytes⟩ 1 (x.addr - g.an - g.sl)))
def Eg (g:Geo):List Wr->PQ->PQ
 | [],z=>z
 | x::r,z=>Eg g r (Hs g x z)
def S3 (g:Geo) (x:Wr):Int:=if x.addr - g.an<g.sl then x.addr - g.an else x.addr - g.an - g.sl
theorem FL (g:Geo):∀ (l m:List Wr) (z:PQ),Eg g (l ++ m) z=Eg g m (Eg g l z)
 | [],_,_=>rfl
 | x::r,m,z=>FL g r m (Hs g x z)
def AtS (z z':PQ) (s:Int):Prop:=z.1 s=z'.1 s/\z.2 s=z'.2 s
theorem Oe {g:Geo} {x:Wr} {z z':PQ} {s:Int} (h:AtS z z' s):AtS (Hs g x z) (Hs g x z') s:=by
 unfold Hs Sx
 split
 ·refine⟨?_,h.2⟩
  dsimp only
  split
  ·rfl
  ·exact h.1
 ·refine⟨h.1,?_⟩
  dsimp only
  split
  ·rfl
  ·exact h.2
theorem GG {g:Geo}:∀ (l:List Wr) {z z':PQ} {s:Int},AtS z z' s->AtS (Eg g l z) (Eg g l z') s
 | [],_,_,_,h=>h
 | _::r,_,_,_,h=>GG r (Oe h)
theorem R7 {g:Geo} {x:Wr} {z:PQ} {s:Int} (h:S3 g x≠s):AtS (Hs g x z) z s:=by
 unfold S3 at h
 unfold Hs Sx
 split
 ·rename_i hc
  rw [if_pos hc] at h
  exact⟨if_neg (Ne.symm h),rfl⟩
 ·rename_i hc
  rw [if_neg hc] at h
  exact⟨rfl,if_neg (Ne.symm h)⟩
theorem AtS.trans {a b c:PQ} {s:Int} (h:AtS a b s) (k:AtS b c s):AtS a c s:=⟨h.1.trans k.1,h.2.trans k.2⟩
theorem AtS.symm {a b:PQ} {s:Int} (h:AtS a b s):AtS b a s:=⟨h.1.symm,h.2.symm⟩
theorem FK {g:Geo}:∀ (l:List Wr) {z:PQ} {s:Int},(∀ x∈l,S3 g x≠s)->AtS (Eg g l z) z s
 | [],_,_,_=>⟨rfl,rfl⟩
 | x::r,z,s,h=>(FK r fun y hy=>h y (A7 _ hy)).trans (R7 (h x (by simp)))
theorem T0 {g:Geo} {c s:Int} (hc:c=0\/c=1) (hs:0<=s/\s<g.sl):FJ g c s=true:=by
 rw [FJ,AE.2 (show 0<=s/\s<=g.sl - 1 by omega)]
 rcases hc with rfl | rfl <;> rfl
theorem Gi {g:Geo} {c s:Int} {r:Rc} {z:PQ} (hg:AW g=true) (hc:c=0\/c=1) (hs:0<=s/\s<g.sl) (hr:DA g r=true):Hs g ⟨AK g c s,Cu g r c s⟩ z=if c=0 then (Sx z.1 s (some r),z.2) else (z.1,Sx z.2 s (some r)):=by
 have h:=LD hg hr (T0 hc hs)
 unfold Hs AK
 rcases hc with rfl | rfl
 ·have e:g.an+0*g.sl+s - g.an=s:=by omega
  dsimp only
  rw [e,if_pos hs.2,if_pos rfl,h]
 ·have e:g.an+1*g.sl+s - g.an=s+g.sl:=by omega
  dsimp only
  rw [e,if_neg (by omega),if_neg (by decide),show s+g.sl - g.sl=s by omega,h]
theorem S2 {g:Geo} {c s:Int} {b:List UInt8} (hc:c=0\/c=1) (hs:0<=s/\s<g.sl):S3 g ⟨AK g c s,b⟩=s:=by
 unfold S3 AK
 rcases hc with rfl | rfl
 ·dsimp only
  rw [if_pos (by omega)];omega
 ·dsimp only
  rw [if_neg (by omega)];omega
theorem Tq {g:Geo} {a:An} {p q:Int->Option Rc} {z':PQ} {pos seq left at_ of_:Int} (hg:AW g=true) (hok:∀ s r,p s=some r\/q s=some r->DA g r=true) (hs:0<=AO g pos at_/\AO g pos at_<g.sl) (h:(BI g a p q pos seq left at_ of_).2.1=1) (hz:AtS z' (Eg g (BI g a p q pos seq left at_ of_).2.2 (p,q)) (AO g pos at_)):BI g a z'.1 z'.2 pos seq left at_ of_=((BI g a p q pos seq left at_ of_).1,1, []):=by
 unfold BI JG at h hz |-
 dsimp only at h hz |-
 generalize AO g pos at_=s at h hz hs |-
 cases hp:p s with
 | none=>
  cases hq:q s with
  | none=>rw [hp,hq] at h;simp [CE,BO] at h
  | some r=>
   rw [hp,hq] at h hz
   have ho:CU r a seq at_ of_ left=true:=by
    cases hb:CU r a seq at_ of_ left with
    | true=>rfl
    | false=>simp [CE,hb,BO] at h
   simp [CE,ho,BO,Eg] at hz
   rw [Gi hg (.inl rfl) hs (hok s r (.inr hq)),if_pos rfl] at hz
   obtain⟨h1,h2⟩:=hz
   dsimp only [Sx] at h1 h2
   rw [if_pos rfl] at h1
   rw [h1,h2,hq]
   simp [CE,ho,BO]
 | some r1=>
  cases hq:q s with
  | none=>
   rw [hp,hq] at h hz
   have ho:CU r1 a seq at_ of_ left=true:=by
    cases hb:CU r1 a seq at_ of_ left with
    | true=>rfl
    | false=>simp [CE,hb,BO] at h
   simp [CE,ho,BO,Eg] at hz
   rw [Gi hg (.inr rfl) hs (hok s r1 (.inl hp)),if_neg (by decide)] at hz
   obtain⟨h1,h2⟩:=hz
   dsimp only [Sx] at h1 h2
   rw [if_pos rfl] at h2
   rw [h1,h2,hp]
   simp [CE,ho,BO]
  | some r2=>
   rw [hp,hq] at h hz
   cases ho1:CU r1 a seq at_ of_ left with
   | true=>
    cases ho2:CU r2 a seq at_ of_ left with
    | true=>
     simp [CE,ho1,ho2,BO,Eg] at hz
     obtain⟨h1,h2⟩:=hz
     dsimp only at h1 h2
     rw [h1,h2,hp,hq]
     simp [CE,ho1,ho2,BO]
    | false=>
     simp [CE,ho1,ho2,BO,Eg] at hz
     rw [Gi hg (.inr rfl) hs (hok s r1 (.inl hp)),if_neg (by decide)] at hz
     obtain⟨h1,h2⟩:=hz
     dsimp only [Sx] at h1 h2
     rw [if_pos rfl] at h2
     rw [h1,h2,hp]
     simp [CE,ho1,ho2,BO]
   | false=>
    cases ho2:CU r2 a seq at_ of_ left with
    | true=>
     simp [CE,ho1,ho2,BO,Eg] at hz
     rw [Gi hg (.inl rfl) hs (hok s r2 (.inr hq)),if_pos rfl] at hz
     obtain⟨h1,h2⟩:=hz
     dsimp only [Sx] at h1 h2
     rw [if_pos rfl] at h1
     rw [h1,h2,hq]
     simp [CE,ho1,ho2,BO]
    | false=>simp [CE,ho1,ho2,BO] at h
theorem H4 {g:Geo} {a:An} {p q:Int->Option Rc} {pos seq left at_ of_:Int} (hok:∀ s r,p s=some r\/q s=some r->DA g r=true) (h:(BI g a p q pos seq left at_ of_).2.1=1):DA g (BI g a p q pos seq left at_ of_).1=true/\CU (BI g a p q pos seq left at_ of_).1 a seq at_ of_ left=true:=by
 unfold BI JG at h |-
 dsimp only at h |-
 generalize AO g pos at_=s at h |-
 cases hp:p s with
 | none=>
  cases hq:q s with
  | none=>rw [hp,hq] at h;simp [CE,BO] at h
  | some r=>
   rw [hp,hq] at h
   cases hb:CU r a seq at_ of_ left with
   | true=>simp [CE,hb,BO,hok s r (.inr hq)]
   | false=>simp [CE,hb,BO] at h
 | some r1=>
  cases hq:q s with
  | none=>
   rw [hp,hq] at h
   cases hb:CU r1 a seq at_ of_ left with
   | true=>simp [CE,hb,BO,hok s r1 (.inl hp)]
   | false=>simp [CE,hb,BO] at h
  | some r2=>
   rw [hp,hq] at h
   cases ho1:CU r1 a seq at_ of_ left with
   | true=>cases ho2:CU r2 a seq at_ of_ left <;> simp [CE,ho1,ho2,BO,hok s r1 (.inl hp)]
   | false=>
    cases ho2:CU r2 a seq at_ of_ left with
    | true=>simp [CE,ho1,ho2,BO,hok s r2 (.inr hq)]
    | false=>simp [CE,ho1,ho2,BO] at h
theorem TF (x y:Option Rc) (b1 b2:Bool):∀ c∈(BO x y b1 b2).2.1,c=0\/c=1:=by
 unfold BO
 cases b1 <;> cases b2
 ·by_cases h:(x.isSome || y.isSome)=true <;> simp [h]
 ·simp
 ·simp
 ·simp
theorem Vm {g:Geo} {a:An} {p q:Int->Option Rc} {pos seq left at_ of_:Int} (hs:0<=AO g pos at_/\AO g pos at_<g.sl):∀ x∈(BI g a p q pos seq left at_ of_).2.2,S3 g x=AO g pos at_:=by
 intro x hx
 unfold BI at hx
 obtain⟨c,hc,rfl⟩:=AF.1 hx
 exact S2 (TF _ _ _ _ c hc) hs
theorem P3 (x y:Option Rc) (b1 b2:Bool) (h:(BO x y b1 b2).2.2≠1):(BO x y b1 b2).2.1=[]:=by
 unfold BO at h |-
 cases b1 <;> cases b2
 ·by_cases h:(x.isSome || y.isSome)=true <;> simp [h]
 ·simp at h
 ·simp at h
 ·simp at h
theorem IP {g:Geo} {r:Rc} (h:DA g r=true) (copy slot:Int):(Cu g r copy slot).length<=200:=by
 have:=DZ h
 rw [Cu,Ff]
 omega
theorem Ps {g:Geo} {a:An} {p q:Int->Option Rc} {pos seq left at_ of_:Int} (hok:∀ s r,p s=some r\/q s=some r->DA g r=true):∀ x∈(BI g a p q pos seq left at_ of_).2.2,x.bytes.length<=200:=by
 intro x hx
 by_cases h:(BI g a p q pos seq left at_ of_).2.1=1
 ·have hr:=(H4 hok h).1
  unfold BI at hx hr
  obtain⟨c,hc,rfl⟩:=AF.1 hx
  exact IP hr _ _
 ·unfold BI JG at hx h
  dsimp only at hx h
  rw [P3 _ _ _ _ h] at hx
  simp at hx
theorem L7 {g:Geo} {p0 U k:Int} (hg:AW g=true) (hp:0<=p0/\p0<g.sl) (hU:0<=U) (hk:0<=k/\k<=1000):AO g ((p0+U).tmod g.sl) k=(p0+(U+k)).tmod g.sl:=by
 obtain⟨h1,h2,h3,h4,h5⟩:=Ao.1 hg
 unfold AO
 have q1:=A6 g.sl (show 0<=p0+U by omega)
 have q2:=Au (p0+U) (show 0<g.sl by omega)
 rw [show IntKind.i64.wrap ((p0+U).tmod g.sl+k)=(p0+U).tmod g.sl+k by rw [IntKind.wrap_i64];omega]
 rw [Aj (show 0<=p0+U by omega)] at q1 |-
 rw [Aj (by omega),Aj (by omega),Cw,BY]
theorem GN {look:Int->Rc × Int × List Wr} {f:Nat} {k:Int} {r:Rc} {im:List Img} {w:List Wr} (h:(look k).2.1=1):AS look (f+1) k r im w=AS look f (k+1) (look k).1 (if r.kind=1 then im ++ [r.img] else im) (w ++ (look k).2.2):=by
 conv=>lhs;unfold AS
 dsimp only
 rw [if_neg (not_not_intro h)]
theorem JI {look:Int->Rc × Int × List Wr} {f:Nat} {k:Int} {r:Rc} {im:List Img} {w:List Wr} (h:(look k).2.1≠1):AS look (f+1) k r im w=((look k).2.1, [], []):=by
 conv=>lhs;unfold AS
 dsimp only
 rw [if_pos h]
theorem GV {g:Geo} {a:An} {p q:Int->Option Rc} {pos seq left:Int} (h:(BI g a p q pos seq left 0 0).2.1=1):ER g a p q pos seq left=(let t:=AS (fun k=>BI g a p q pos seq left k (BI g a p q pos seq left 0 0).1.of_) ((BI g a p q pos seq left 0 0).1.of_ - 1).toNat 1 (BI g a p q pos seq left 0 0).1 [] (BI g a p q pos seq left 0 0).2.2
  if t.1≠1 then (t.1,0, [], []) else (1,(BI g a p q pos seq left 0 0).1.of_,t.2.1,t.2.2)):=by
 conv=>lhs;unfold ER
 dsimp only
 rw [if_neg (not_not_intro h)]
theorem IW {g:Geo} {a:An} {p q:Int->Option Rc} {pos seq left:Int} (h:(BI g a p q pos seq left 0 0).2.1≠1):ER g a p q pos seq left=((BI g a p q pos seq left 0 0).2.1,0, [], []):=by
 conv=>lhs;unfold ER
 dsimp only
 rw [if_pos h]
theorem GO {look look':Int->Rc × Int × List Wr}:∀ (f:Nat) (k:Int) (r:Rc) (im:List Img) (w w0:List Wr),(∀ i,k<=i->i<k+f->(look i).2.1=1->look' i=((look i).1,1, []))->(AS look f k r im w).1=1->
  AS look' f k r im w0=(1,(AS look f k r im w).2.1,w0)/\(AS look f k r im w).2.2=w ++ (List.range f).flatMap (fun j=>(look (k+(j:Nat))).2.2)/\∀ i,k<=i->i<k+f->(look i).2.1=1
 | 0,k,r,im,w,w0,_,_=>⟨rfl,by simp [AS],fun i h1 h2=>by omega⟩
 | f+1,k,r,im,w,w0,hl,h=>by
  by_cases hq:(look k).2.1=1
  ·have e:=hl k (by omega) (by omega) hq
   rw [GN hq] at h |-
   rw [GN (show (look' k).2.1=1 by rw [e]),e]
   dsimp only
   obtain⟨i1,i2,i3⟩:=GO f (k+1) (look k).1 (if r.kind=1 then im ++ [r.img] else im) (w ++ (look k).2.2) (w0 ++ []) (fun i h1 h2=>hl i (by omega) (by omega)) h
   refine⟨?_,?_,fun i h1 h2=>?_⟩
   ·rw [i1,List.append_nil]
   ·rw [i2,Cf,BK,List.flatMap_map,List.append_assoc]
    congr 1
    congr 1
    ·rw [show k+((0:Nat):Int)=k by omega]
    ·congr 1
     funext j
     rw [show k+1+(j:Int)=k+((j.succ:Nat):Int) by omega]
   ·by_cases ei:i=k
    ·rw [ei];exact hq
    ·exact i3 i (by omega) (by omega)
  ·rw [JI hq] at h
   exact absurd h hq
theorem IF {look look':Int->Rc × Int × List Wr}:∀ (f:Nat) (k:Int) (r:Rc) (im:List Img) (w:List Wr),(∀ i,k<=i->i<k+f->look' i=look i)->AS look' f k r im w=AS look f k r im w
 | 0,_,_,_,_,_=>rfl
 | f+1,k,r,im,w,hl=>by
  unfold AS
  dsimp only
  rw [hl k (by omega) (by omega),IF f (k+1) (look k).1 _ _ (fun i h1 h2=>hl i (by omega) (by omega))]
theorem LR {g:Geo} {W:Nat->List Wr} {z:PQ} {s:Int} {k:Nat}:∀ n,k<n->(∀ j,j<n->j≠k->∀ x∈W j,S3 g x≠s)->AtS (Eg g ((List.range n).flatMap W) z) (Eg g (W k) z) s
 | 0,h,_=>by omega
 | n+1,hk,h=>by
  rw [Bf,List.flatMap_append,FL]
  simp only [BK,List.flatMap_nil,List.append_nil]
  by_cases e:k=n
  ·subst e
   refine GG (W k) (FK _ fun x hx=>?_)
   obtain⟨j,hj,hx⟩:=List.mem_flatMap.1 hx
   have hj:=AA.1 hj
   exact h j (by omega) (by omega) x hx
  ·exact(FK (W n) (h n (by omega) (Ne.symm e))).trans (LR n (by omega) fun j hj hne=>h j (by omega) hne)
def UM (g:Geo) (p0 U:Int) (z z':PQ):Prop:=∀ u,U<=u->u<g.sl->AtS z z' ((p0+u).tmod g.sl)
section
variable {g:Geo} {a:An} {p q:Int->Option Rc} {p0:Int}
theorem Rs {z':PQ} {pos seq left at_ of_:Int} (h:AtS z' (p,q) (AO g pos at_)):BI g a z'.1 z'.2 pos seq left at_ of_=BI g a p q pos seq left at_ of_:=by
 unfold BI JG
 dsimp only
 rw [h.1,h.2]
theorem QM {z':PQ} {U seq left:Int} (hg:AW g=true) (hok:∀ s r,p s=some r\/q s=some r->DA g r=true) (hp:0<=p0/\p0<g.sl) (hU:0<=U/\U+left=g.sl/\0<left) (h:UM g p0 U z' (p,q)):ER g a z'.1 z'.2 ((p0+U).tmod g.sl) seq left=ER g a p q ((p0+U).tmod g.sl) seq left:=by
 obtain⟨h1,h2,h3,h4,h5⟩:=Ao.1 hg
 have hr:∀ (k of_:Int),0<=k->U+k<g.sl->BI g a z'.1 z'.2 ((p0+U).tmod g.sl) seq left k of_=BI g a p q ((p0+U).tmod g.sl) seq left k of_:=fun k of_ hk hk2=>Rs (by rw [L7 hg hp hU.1 (by omega)];exact h _ (by omega) hk2)
 by_cases h0:(BI g a p q ((p0+U).tmod g.sl) seq left 0 0).2.1=1
 ·rw [GV h0,GV (by rw [hr 0 0 (by omega) (by omega)];exact h0),hr 0 0 (by omega) (by omega)]
  obtain⟨f1,f2⟩:=H4 hok h0
  have hN:=GD f1 f2
  have hlft:=hN.2.2.2.2.1 rfl
  rw [IF (look:=fun k=>BI g a p q ((p0+U).tmod g.sl) seq left k (BI g a p q ((p0+U).tmod g.sl) seq left 0 0).1.of_) _ _ _ _ _ (fun i h1 h2=>hr i _ (by omega) (by omega))]
 ·rw [IW h0,IW (by rw [hr 0 0 (by omega) (by omega)];exact h0),hr 0 0 (by omega) (by omega)]
theorem SE {U seq left:Int} (hg:AW g=true) (hok:∀ s r,p s=some r\/q s=some r->DA g r=true) (hp:0<=p0/\p0<g.sl) (hU:0<=U/\U+left=g.sl) (h:(ER g a p q ((p0+U).tmod g.sl) seq left).1=1) :
  (2<=(ER g a p q ((p0+U).tmod g.sl) seq left).2.1/\(ER g a p q ((p0+U).tmod g.sl) seq left).2.1<=left)/\
  (∀ x∈(ER g a p q ((p0+U).tmod g.sl) seq left).2.2.2,∃ u,(U<=u/\u<U+(ER g a p q ((p0+U).tmod g.sl) seq left).2.1)/\S3 g x=(p0+u).tmod g.sl/\x.bytes.length<=200)/\
  ∀ z':PQ,(∀ u,U<=u->u<U+(ER g a p q ((p0+U).tmod g.sl) seq left).2.1->AtS z' (Eg g (ER g a p q ((p0+U).tmod g.sl) seq left).2.2.2 (p,q)) ((p0+u).tmod g.sl))->
   ER g a z'.1 z'.2 ((p0+U).tmod g.sl) seq left=(1,(ER g a p q ((p0+U).tmod g.sl) seq left).2.1,(ER g a p q ((p0+U).tmod g.sl) seq left).2.2.1, []):=by
 obtain⟨h1,h2,h3,h4,h5⟩:=Ao.1 hg
 by_cases h0:(BI g a p q ((p0+U).tmod g.sl) seq left 0 0).2.1=1
 ·obtain⟨f1,f2⟩:=H4 hok h0
  have hN:=GD f1 f2
  have hlft:=hN.2.2.2.2.1 rfl
  obtain⟨of_,hof⟩:∃ n:Nat,(BI g a p q ((p0+U).tmod g.sl) seq left 0 0).1.of_=(n:Int)+1:=⟨((BI g a p q ((p0+U).tmod g.sl) seq left 0 0).1.of_ - 1).toNat,by omega⟩
  have et:((of_:Int)+1 - 1).toNat=of_:=by omega
  have hsl:∀ k:Int,0<=k->k<=of_->AO g ((p0+U).tmod g.sl) k=(p0+(U+k)).tmod g.sl/\0<=AO g ((p0+U).tmod g.sl) k/\AO g ((p0+U).tmod g.sl) k<g.sl:=fun k hk hk2=>by
   have e:=L7 hg hp hU.1 (k:=k) (by omega)
   rw [e]
   exact⟨rfl,A6 g.sl (by omega),Au _ (by omega)⟩
  rw [GV h0,hof,et] at h |-
  dsimp only at h |-
  by_cases hG:(AS (fun k=>BI g a p q ((p0+U).tmod g.sl) seq left k ((of_:Int)+1)) of_ 1 (BI g a p q ((p0+U).tmod g.sl) seq left 0 0).1 [] (BI g a p q ((p0+U).tmod g.sl) seq left 0 0).2.2).1=1
  ·rw [if_neg (not_not_intro hG)]
   dsimp only
   obtain⟨-,g2,g3⟩:=GO (look':=fun i=>((BI g a p q ((p0+U).tmod g.sl) seq left i ((of_:Int)+1)).1,1, [])) of_ 1 (BI g a p q ((p0+U).tmod g.sl) seq left 0 0).1 [] (BI g a p q ((p0+U).tmod g.sl) seq left 0 0).2.2 [] (fun i _ _ _=>rfl) hG
   -- what is to be written,record by record
   have eW:(AS (fun k=>BI g a p q ((p0+U).tmod g.sl) seq left k ((of_:Int)+1)) of_ 1 (BI g a p q ((p0+U).tmod g.sl) seq left 0 0).1 [] (BI g a p q ((p0+U).tmod g.sl) seq left 0 0).2.2).2.2=(List.range (of_+1)).flatMap fun j=>(BI g a p q ((p0+U).tmod g.sl) seq left (j:Nat) (if j=0 then 0 else (of_:Int)+1)).2.2:=by
    rw [g2,Cf,BK,List.flatMap_map]
    congr 1
    congr 1
    funext j
    rw [if_neg (Nat.succ_ne_zero j),show 1+(j:Int)=((j.succ:Nat):Int) by omega]
   have hwr:∀ j:Nat,j<of_+1->∀ x∈(BI g a p q ((p0+U).tmod g.sl) seq left (j:Nat) (if j=0 then 0 else (of_:Int)+1)).2.2,S3 g x=(p0+(U+j)).tmod g.sl:=fun j hj x hx=>by
    obtain⟨e1,e2⟩:=hsl j (by omega) (by omega)
    rw [Vm e2 x hx,e1]
   refine⟨⟨by omega,by omega⟩,fun x hx=>?_,fun z' hz=>?_⟩
   ·rw [eW] at hx
    obtain⟨j,hj,hx⟩:=List.mem_flatMap.1 hx
    have hj:=AA.1 hj
    exact⟨U+j,by omega,hwr j hj x hx,Ps hok x hx⟩
   ·rw [eW] at hz
    have hrec:∀ k:Nat,k<of_+1->(BI g a p q ((p0+U).tmod g.sl) seq left (k:Nat) (if k=0 then 0 else (of_:Int)+1)).2.1=1->BI g a z'.1 z'.2 ((p0+U).tmod g.sl) seq left (k:Nat) (if k=0 then 0 else (of_:Int)+1)=((BI g a p q ((p0+U).tmod g.sl) seq left (k:Nat) (if k=0 then 0 else (of_:Int)+1)).1,1, []):=fun k hk hf=>by
     obtain⟨e1,e2⟩:=hsl k (by omega) (by omega)
     refine Tq hg hok e2 hf ?_
     rw [e1]
     refine(hz (U+k) (by omega) (by omega)).trans ?_
     refine LR (W:=fun j=>(BI g a p q ((p0+U).tmod g.sl) seq left (j:Nat) (if j=0 then 0 else (of_:Int)+1)).2.2) (k:=k) _ hk fun j hj hne x hx e=>?_
     rw [hwr j hj x hx] at e
     have:=Kf hp (by omega) (by omega) e
     omega
    have r0:=hrec 0 (by omega) h0
    rw [if_pos rfl] at r0
    have r0':BI g a z'.1 z'.2 ((p0+U).tmod g.sl) seq left 0 0=((BI g a p q ((p0+U).tmod g.sl) seq left 0 0).1,1, []):=r0
    rw [GV (by rw [r0']),r0']
    dsimp only
    rw [hof,et]
    obtain⟨g4, -, -⟩:=GO (look:=fun k=>BI g a p q ((p0+U).tmod g.sl) seq left k ((of_:Int)+1)) (look':=fun k=>BI g a z'.1 z'.2 ((p0+U).tmod g.sl) seq left k ((of_:Int)+1)) of_ 1 (BI g a p q ((p0+U).tmod g.sl) seq left 0 0).1 [] (BI g a p q ((p0+U).tmod g.sl) seq left 0 0).2.2 [] (fun i i1 i2 hf=>by
     obtain⟨k,rfl⟩:=Cv (show 0<=i by omega)
     have:=hrec k (by omega)
     rw [if_neg (by omega)] at this
     exact this hf) hG
    rw [g4]
    dsimp only
    rw [if_neg (fun h=>h rfl)]
  ·rw [if_pos hG] at h
   exact absurd h hG
 ·rw [IW h0] at h
  exact absurd h h0
theorem LB (hg:AW g=true) (hok:∀ s r,p s=some r\/q s=some r->DA g r=true) (hp:0<=p0/\p0<g.sl):∀ (f:Nat) (U seq left:Int) (l:List Tx) (w:List Wr) {l':List Tx} {w':List Wr} {seq':Int},0<=U->U+left=g.sl->Dg g a p q f ((p0+U).tmod g.sl) seq left l w=some (l',w',seq')->
  ∃ wr,w'=w ++ wr/\(∀ x∈wr,∃ u,(U<=u/\u<g.sl)/\S3 g x=(p0+u).tmod g.sl/\x.bytes.length<=200)/\∀ z':PQ,UM g p0 U z' (Eg g wr (p,q))->∀ w0,Dg g a z'.1 z'.2 f ((p0+U).tmod g.sl) seq left l w0=some (l',w0,seq')
 | 0,U,seq,left,l,w,l',w',seq',_,_,h=>by
  unfold Dg at h
  injection h with h
  injection h with e1 h
  injection h with e2 e3
  subst e1 e2 e3
  exact⟨[],by simp,by simp,fun _ _ _=>rfl⟩
 | f+1,U,seq,left,l,w,l',w',seq',hU,hl,h=>by
  obtain⟨h1,h2,h3,h4,h5⟩:=Ao.1 hg
  unfold Dg at h
  by_cases hc:0<left/\seq<=4294967295
  ·rw [if_pos hc] at h
   dsimp only at h
   by_cases t3:(ER g a p q ((p0+U).tmod g.sl) seq left).1=3
   ·rw [if_pos t3] at h
    cases h
   ·rw [if_neg t3] at h
    by_cases t1:(ER g a p q ((p0+U).tmod g.sl) seq left).1=1
    ·rw [if_neg (fun h=>h t1)] at h
     obtain⟨⟨n1,n2⟩,n3,n4⟩:=SE hg hok hp ⟨hU,hl⟩ t1
     generalize ER g a p q ((p0+U).tmod g.sl) seq left=T at h n1 n2 n3 n4
     obtain⟨how,n,im,tw⟩:=T
     dsimp only at h n1 n2 n3 n4
     have ep:((p0+U).tmod g.sl+n).tmod g.sl=(p0+(U+n)).tmod g.sl:=by
      rw [Aj (show 0<=p0+U by omega)]
      have q1:=Int.emod_nonneg (p0+U) (show g.sl≠0 by omega)
      rw [Aj (by omega),Aj (by omega),Cw,BY]
     rw [ep] at h
     obtain⟨wr,i1,i2,i3⟩:=LB hg hok hp f (U+n) (seq+1) (left - n) _ _ (by omega) (by omega) h
     refine⟨tw ++ wr,by rw [i1,List.append_assoc],fun x hx=>?_,fun z' hz w0=>?_⟩
     ·rcases Aw.1 hx with hx | hx
      ·obtain⟨u,u1,u2⟩:=n3 x hx
       exact⟨u,by omega,u2⟩
      ·obtain⟨u,u1,u2⟩:=i2 x hx
       exact⟨u,by omega,u2⟩
     ·unfold UM at hz
      have ht:=n4 z' fun u u1 u2=>by
       have:=hz u u1 (by omega)
       rw [FL] at this
       refine this.trans (FK wr fun x hx e=>?_)
       obtain⟨v,v1,v2, -⟩:=i2 x hx
       rw [v2] at e
       have:=Kf hp (by omega) (by omega) e
       omega
      unfold Dg
      rw [if_pos hc,ht]
      dsimp only
      rw [if_neg (by decide),if_neg (fun h=>h rfl),ep]
      have:=i3 z' (fun u u1 u2=>by
       have:=hz u (by omega) u2
       rw [FL] at this
       refine this.trans (GG wr (FK tw fun x hx e=>?_))
       obtain⟨v,v1,v2, -⟩:=n3 x hx
       rw [v2] at e
       have:=Kf hp (by omega) (by omega) e
       omega) (w0 ++ [])
      rw [this,List.append_nil]
    ·rw [if_pos t1] at h
     injection h with h
     injection h with e1 h
     injection h with e2 e3
     subst e1 e2 e3
     refine⟨[],by simp,by simp,fun z' hz w0=>?_⟩
     have ht:=QM (a:=a) (seq:=seq) hg hok hp ⟨hU,hl,hc.1⟩ hz
     unfold Dg
     rw [if_pos hc,ht]
     dsimp only
     rw [if_neg t3,if_pos t1]
  ·rw [if_neg hc] at h
   injection h with h
   injection h with e1 h
   injection h with e2 e3
   subst e1 e2 e3
   refine⟨[],by simp,by simp,fun z' hz w0=>?_⟩
   unfold Dg
   rw [if_neg hc]
end
theorem J5 (l:List Int) (hl:l.length<=1000000):Fn Tryz.prog 154 [iA l] fun r=>r=iA l:=by
 refine Fn.st Tryz.func154 rfl ?_
 refine⟨by omega,?_⟩
 refine⟨by simp,?_⟩
 exact⟨iA l,fun c v h=>Rd.congr rfl (fun i hi=>D_ hi) h,rfl⟩
theorem Lp (a:An) (hh:a.homes.length<=1000) (hp:∀ h∈a.homes,h.places.length<=1000000):Fn Tryz.prog 152 [.ag (CN a)] fun r=>r = .ag (CN a):=by
 refine Fn.st Tryz.func152 rfl ?_
 conv=>whnf
 refine aLoop.rule Nat (fun k=>([(1, .bp 0 0),(2, .bp 1 0),(3,HY a.homes),(4, .v (.int .i64 k))], [.box 40 [.v (.int .i64 a.gen), .v (.int .i64 a.epoch), .v (.int .i64 a.pos), .v (.int .i64 a.seq), .v (.int .i64 a.last), .v (.string a.label), .ow 2 k], .box 40 [.v (.int .i64 0), .v (.int .i64 0), .v (.int .i64 0), .v (.int .i64 0), .v (.int .i64 0), .v (.string ⟨#[]⟩), .v (.slice none 0 0)], .row 132 3 ((a.homes.take k).map Ih)])) (fun k=>k<=a.homes.length) (fun k=>a.homes.length - k) 0 (Ae _) ⟨[(1000006,132,3)],⟨rfl,rfl,trivial⟩,⟨rfl,rfl,rfl,rfl,trivial⟩,⟨rfl,rfl,rfl,trivial⟩,rfl,rfl,rfl⟩ ?_
 intro k hk
 conv=>whnf
 refine Al (fun c1=>?_) (fun c1=>?_) <;> (repeat rw [Aa] at c1) <;> conv=>whnf
 ·have ti:=J5 (a.homes.getD k ⟨[],0,0⟩).places (hp _ (AC c1))
  refine aDraw.of tys_ok mixed [0,1,2,3,4,5,6,8,9,10,11,12,13,14,15,16,17,7,18,19,20,21,22] (by kernel_rfl) ?_
  conv=>whnf
  repeat' (first | (refine aSeq.go ?_;conv=>whnf) | (refine Al (fun _=>?_) (fun _=>?_) <;> conv=>whnf) | (refine Fn.cl ti ?_;conv=>whnf) | (refine And.intro (by first | omega | exact of_decide_eq_true rfl) ?_;conv=>whnf) | fail)
  refine And.intro ⟨by rw [Ab,Ap];omega,by omega⟩ ?_
  exact⟨k+1,by omega,by omega, [],trivial,⟨rfl,rfl,rfl,A4 (by omega),trivial⟩,⟨rfl,rfl,congrArg (AB.row _ _) (FD c1),trivial⟩,rfl,rfl,rfl⟩
 ·refine And.intro (by rw [Ab,Ap];omega) ?_
  conv=>whnf
  have ek:k=a.homes.length:=by omega
  subst ek
  refine⟨.ag (CN a),AJ ⟨ri,ri,ri,ri,ri,ri,?_,trivial⟩,rfl⟩
  rw [List.take_length]
  exact AH a.homes rfl rfl
theorem EI {g:Geo} {a:An} (h:AY g a=true):(0<=a.gen/\a.gen<=4294967295)/\(0<=a.epoch/\a.epoch<=4294967295)/\(1<=a.seq/\a.seq<=4294967295)/\(0<=a.last/\a.last<=4294967295/\a.seq - 1<=a.last)/\(0<=a.pos/\a.pos<g.sl)/\(a.homes.length:Int)=g.z/\∀ x∈a.homes,DM g x=true:=by
 simp only [AY,Bl,Cg,Bool.and_eq_true,AE,decide_eq_true_eq,A8] at h
 obtain⟨⟨q1,q2,q3,q4, -⟩,q5,q6,q7,q8,q9,q10⟩:=h
 exact⟨q1,q2,⟨q5,q3.2⟩,⟨q4.1,q4.2,q6⟩,⟨q7.1,by omega⟩,q9,q10⟩
theorem OK {g:Geo} {a:An} (hg:AW g=true) (h:AY g a=true):∀ x∈a.homes,x.places.length<=1000000:=by
 obtain⟨h1,h2,h3,h4,h5⟩:=Ao.1 hg
 intro x hx
 have:=(EI h).2.2.2.2.2.2 x hx
 simp only [DM,Bool.and_eq_true,decide_eq_true_eq] at this
 omega
theorem Vb {g:Geo} {b:An} {x y:List Gt} {p q:Int->Option Rc} {r:List Tx × List Wr × Int} (hg:AW g=true) (hb:AY g b=true) (hx:(x.length:Int)=g.sl) (hy:(y.length:Int)=g.sl) (hp:DB g x 0=p) (hq:DB g y 1=q) (h:J9 g b p q=r):F5 g b x y=r:=by
 unfold F5
 rw [if_pos (by rw [hg,hb];rfl),if_pos ⟨hx,hy⟩,Mr,hp,hq,h]
def P2 (g:Geo) (x:Wr) (z:List Gt × List Gt):List Gt × List Gt:=if x.addr - g.an<g.sl then (z.1.set (x.addr - g.an).toNat ⟨0,x.bytes⟩,z.2) else (z.1,z.2.set (x.addr - g.an - g.sl).toNat ⟨0,x.bytes⟩)
def I0 (g:Geo) (w:List Wr) (z:List Gt × List Gt):Nat->List Gt × List Gt
 | 0=>z
 | k+1=>P2 g (w.getD k ⟨0, []⟩) (I0 g w z k)
theorem Jj {g:Geo} {w:List Wr} {z:List Gt × List Gt}:∀ k,(I0 g w z k).1.length=z.1.length/\(I0 g w z k).2.length=z.2.length
 | 0=>⟨rfl,rfl⟩
 | k+1=>by
  obtain⟨h1,h2⟩:=Jj (g:=g) (w:=w) (z:=z) k
  unfold I0 P2
  split
  ·exact⟨by rw [A_,h1],h2⟩
  ·exact⟨h1,by rw [A_,h2]⟩
theorem N8 {g:Geo} {x:List Gt} {copy:Int} {k:Nat} {b:List UInt8} (hk:k<x.length):DB g (x.set k ⟨0,b⟩) copy=Sx (DB g x copy) (k:Nat) (BZ g ⟨0,b⟩ copy (k:Nat)):=by
 funext s
 unfold DB Sx
 by_cases e:s=(k:Nat)
 ·subst e
  rw [if_pos rfl,Aa,List.getD_eq_getElem?_getD,List.getElem?_set_self hk]
  rfl
 ·rw [if_neg e]
  by_cases hs:0<=s/\s<g.sl
  ·obtain⟨i,rfl⟩:=Cv hs.1
   rw [Aa,List.getD_eq_getElem?_getD,List.getElem?_set_ne (by omega),<-List.getD_eq_getElem?_getD]
   rfl
  ·rw [Ja hs]
   exact(Ja hs).symm
def WY (g:Geo) (x:Wr):Prop:=0<=x.addr - g.an/\x.addr - g.an<2*g.sl
theorem LQ {g:Geo} {w:List Wr} {z:List Gt × List Gt} (h1:(z.1.length:Int)=g.sl) (h2:(z.2.length:Int)=g.sl):∀ k,k<=w.length->(∀ x∈w,WY g x)->(DB g (I0 g w z k).1 0,DB g (I0 g w z k).2 1)=Eg g (w.take k) (DB g z.1 0,DB g z.2 1)
 | 0,_,_=>rfl
 | k+1,hk,hw=>by
  have ih:=LQ h1 h2 k (by omega) hw
  have hx:=hw _ (AC (d:=⟨0, []⟩) (show k<w.length by omega))
  obtain⟨l1,l2⟩:=Jj (g:=g) (w:=w) (z:=z) k
  rw [Ar (by omega),FL,<-ih]
  rw [show w[k]=w.getD k ⟨0, []⟩ by rw [List.getD_eq_getElem?_getD,List.getElem?_eq_getElem (by omega)];rfl]
  simp only [Eg,Hs,I0,P2]
  generalize w.getD k ⟨0, []⟩=x at hx
  unfold WY at hx
  by_cases hc:x.addr - g.an<g.sl
  ·rw [if_pos hc,if_pos hc]
   dsimp only
   rw [N8 (by omega),By hx.1]
  ·rw [if_neg hc,if_neg hc]
   dsimp only
   rw [N8 (by omega),By (show 0<=x.addr - g.an - g.sl by omega)]
theorem SR {g:Geo} {x y:List Gt}:∀ s r,DB g x 0 s=some r\/DB g y 1 s=some r->DA g r=true:=by
 rintro s r (h | h)
 ·exact(Kt h).1
 ·exact(Kt h).1
theorem Pb {g:Geo} {a:An} {x y:List Gt} {l:List Tx} {w:List Wr} (h:F5 g a x y=(l,w,0)):(AW g=true/\AY g a=true)/\((x.length:Int)=g.sl/\(y.length:Int)=g.sl)/\(∀ z∈w,WY g z/\z.bytes.length<=200)/\F5 g a (I0 g w (x,y) w.length).1 (I0 g w (x,y) w.length).2=(l, [],0):=by
 unfold F5 at h
 by_cases hA:(AW g&&AY g a)=true
 ·rw [if_pos hA] at h
  obtain⟨hg,ha⟩:=Bool.and_eq_true_iff.1 hA
  obtain⟨h1,h2,h3,h4,h5⟩:=Ao.1 hg
  have hq:=BV ha
  by_cases hx:(x.length:Int)=g.sl/\(y.length:Int)=g.sl
  ·rw [if_pos hx,Mr] at h
   unfold J9 at h
   cases hR:Dg g a (DB g x 0) (DB g y 1) g.sl.toNat a.pos a.seq g.sl [] [] with
   | none=>rw [hR] at h;simp [Lt,damaged] at h
   | some R=>
    obtain⟨l',w',seq'⟩:=R
    rw [hR] at h
    by_cases hl:seq' - 1<a.last
    ·rw [Ex hl] at h
     simp [damaged] at h
    ·rw [DF hl] at h
     injection h with e1 h
     injection h with e2 _
     subst e1 e2
     have e0:(a.pos+0).tmod g.sl=a.pos:=by rw [Int.add_zero];exact DK hq.2.1 hq.2.2
     rw [<-e0] at hR
     obtain⟨wr,w1,w2,w3⟩:=LB hg (SR (g:=g) (x:=x) (y:=y)) hq.2 g.sl.toNat 0 a.seq g.sl [] [] (Bo 0) (by omega) hR
     rw [Bj] at w1
     subst w1
     have hin:∀ z∈w',WY g z/\z.bytes.length<=200:=fun z hz=>by
      obtain⟨u,u1,u2,u3⟩:=w2 z hz
      refine⟨?_,u3⟩
      have q1:=A6 g.sl (show 0<=a.pos+u by omega)
      have q2:=Au (a.pos+u) (show 0<g.sl by omega)
      rw [<-u2] at q1 q2
      unfold S3 at q1 q2
      unfold WY
      split at q1 <;> omega
     refine⟨⟨hg,ha⟩,hx,hin,?_⟩
     obtain⟨l1,l2⟩:=Jj (g:=g) (w:=w') (z:=(x,y)) w'.length
     have hm:=LQ (g:=g) (w:=w') (z:=(x,y)) hx.1 hx.2 w'.length (Nat.le_refl _) fun z hz=>(hin z hz).1
     rw [List.take_length] at hm
     have hm1:=congrArg Prod.fst hm
     have hm2:=congrArg Prod.snd hm
     refine Vb hg ha (by rw [l1];exact hx.1) (by rw [l2];exact hx.2) hm1 hm2 ?_
     unfold J9
     have:=w3 (Eg g w' (DB g x 0,DB g y 1)) (fun u _ _=>⟨rfl,rfl⟩) []
     rw [e0] at this
     rw [this,DF hl]
  ·rw [if_neg hx] at h
   injection h with _ h
   injection h with _ h
   cases h
 ·rw [if_neg hA] at h
  injection h with _ h
  injection h with _ h
  cases h
theorem Kr {g:Geo} {a:An} {x y:List Gt} (hg:AW g=true):∀ (f:Nat) (pos seq left:Int) (l:List Tx) (w:List Wr) {l':List Tx} {w':List Wr} {seq':Int},(0<=pos/\pos<g.sl)->CT g a x y f pos seq left l w=some (l',w',seq')->w'.length<=w.length+30*f
 | 0,pos,seq,left,l,w,l',w',seq',_,h=>by
  unfold CT at h
  injection h with h
  injection h with e1 h
  injection h with e2 e3
  subst e2
  omega
 | f+1,pos,seq,left,l,w,l',w',seq',hp,h=>by
  unfold CT at h
  have fin:some (l,w,seq)=some (l',w',seq')->w'.length<=w.length+30*(f+1):=fun h=>by
   injection h with h
   injection h with e1 h
   injection h with e2 e3
   subst e2
   omega
  by_cases hc:0<left/\seq<=4294967295
  ·rw [if_pos hc] at h
   dsimp only at h
   have tf:=Fi (a:=a) (x:=x) (y:=y) (seq:=seq) (left:=left) hg hp
   generalize D9 g a x y pos seq left=T at tf h
   obtain⟨how,n,im,ws⟩:=T
   dsimp only at tf h
   rcases tf with ⟨rfl,t1,t2⟩ | tf
   ·rw [if_neg (by decide),if_neg (by decide)] at h
    obtain⟨h1,h2,h3,h4,h5⟩:=Ao.1 hg
    have hm:=Au (pos+n) (show 0<g.sl by omega)
    have hm0:=A6 g.sl (show 0<=pos+n by omega)
    have:=Kr hg f _ _ _ _ _ ⟨hm0,hm⟩ h
    rw [List.length_append] at this
    omega
   ·by_cases e3:how=3
    ·rw [if_pos e3] at h
     cases h
    ·rw [if_neg e3,if_pos (by omega)] at h
     exact fin h
  ·rw [if_neg hc] at h
   exact fin h
theorem ID {look:Int->Rc × Int × List Wr}:∀ (f:Nat) (k:Int) (r:Rc) (im:List Img) (w:List Wr),(∀ i,k<=i->i<k+f->(look i).2.1=1->(look i).1.img.bytes.length<=59)->r.img.bytes.length<=59->(∀ i∈im,i.bytes.length<=59)->∀ i∈(AS look f k r im w).2.1,i.bytes.length<=59
 | 0,k,r,im,w,_,hr,hi=>by
  unfold AS
  dsimp only
  intro i hm
  split at hm
  ·rcases Aw.1 hm with h | h
   ·exact hi i h
   ·have e:i=r.img:=by simpa using h
    rw [e];exact hr
  ·exact hi i hm
 | f+1,k,r,im,w,hl,hr,hi=>by
  by_cases hq:(look k).2.1=1
  ·rw [GN hq]
   refine ID f (k+1) _ _ _ (fun i h1 h2 h3=>hl i (by omega) (by omega) h3) (hl k (by omega) (by omega) hq) ?_
   intro i hm
   split at hm
   ·rcases Aw.1 hm with h | h
    ·exact hi i h
    ·have e:i=r.img:=by simpa using h
     rw [e];exact hr
   ·exact hi i hm
  ·rw [JI hq]
   simp
theorem OT {g:Geo} {a:An} {x y:List Gt} {pos seq left:Int} (hg:AW g=true) (hp:0<=pos/\pos<g.sl):∀ i∈(D9 g a x y pos seq left).2.2.1,i.bytes.length<=59:=by
 have hf:=fun(k of_:Int) (hk:0<=k/\k<=1000)=>E9 (a:=a) (x:=x) (y:=y) (seq:=seq) (left:=left) (of_:=of_) (at_:=k) hg hp hk
 unfold D9
 dsimp only
 split
 ·simp
 ·rename_i h0
  have h0:=Classical.not_not.1 h0
  obtain⟨e1,⟨e2,e2',e3⟩, -⟩:=(hf 0 0 (by omega)).resolve_right fun h=>by omega
  have hN:=GD e2 e3
  split
  ·simp
  ·dsimp only
   refine ID _ _ _ _ _ (fun i h1 h2 h3=>?_) e2' (by simp)
   obtain⟨-,⟨-,q, -⟩, -⟩:=(hf i (Cx g a x y pos seq left 0 0).1.of_ (by omega)).resolve_right fun h=>by omega
   exact q
theorem Ks {g:Geo} {a:An} {x y:List Gt} (hg:AW g=true):∀ (f:Nat) (pos seq left:Int) (l:List Tx) (w:List Wr) {l':List Tx} {w':List Wr} {seq':Int},(0<=pos/\pos<g.sl)->(∀ t∈l,t.images.length<=30/\∀ i∈t.images,i.bytes.length<=59)->CT g a x y f pos seq left l w=some (l',w',seq')->l'.length<=l.length+f/\∀ t∈l',t.images.length<=30/\∀ i∈t.images,i.bytes.length<=59
 | 0,pos,seq,left,l,w,l',w',seq',_,hl,h=>by
  unfold CT at h
  injection h with h
  injection h with e1 h
  subst e1
  exact⟨by omega,hl⟩
 | f+1,pos,seq,left,l,w,l',w',seq',hp,hl,h=>by
  unfold CT at h
  have fin:some (l,w,seq)=some (l',w',seq')->l'.length<=l.length+(f+1)/\∀ t∈l',t.images.length<=30/\∀ i∈t.images,i.bytes.length<=59:=fun h=>by
   injection h with h
   injection h with e1 h
   subst e1
   exact⟨by omega,hl⟩
  by_cases hc:0<left/\seq<=4294967295
  ·rw [if_pos hc] at h
   dsimp only at h
   have tf:=Fi (a:=a) (x:=x) (y:=y) (seq:=seq) (left:=left) hg hp
   have ti:=fun e=>L2 (a:=a) (x:=x) (y:=y) (seq:=seq) (left:=left) hg hp e
   have ts:=OT (a:=a) (x:=x) (y:=y) (seq:=seq) (left:=left) hg hp
   generalize D9 g a x y pos seq left=T at tf h ti ts
   obtain⟨how,n,im,ws⟩:=T
   dsimp only at tf h ti ts
   rcases tf with ⟨rfl,t1,t2⟩ | tf
   ·rw [if_neg (by decide),if_neg (by decide)] at h
    obtain⟨h1,h2,h3,h4,h5⟩:=Ao.1 hg
    have hm:=Au (pos+n) (show 0<g.sl by omega)
    have hm0:=A6 g.sl (show 0<=pos+n by omega)
    have hi:=ti rfl
    have:=Ks hg f _ _ _ _ _ ⟨hm0,hm⟩ (fun t ht=>by
     rcases Aw.1 ht with h | h
     ·exact hl t h
     ·have e:t=⟨seq,pos,n,im⟩:=by simpa using h
      rw [e]
      exact⟨by dsimp only;omega,ts⟩) h
    rw [List.length_append] at this
    exact⟨by have:=this.1;simp only [Ah,AG] at this;omega,this.2⟩
   ·by_cases e3:how=3
    ·rw [if_pos e3] at h
     cases h
    ·rw [if_neg e3,if_pos (by omega)] at h
     exact fin h
  ·rw [if_neg hc] at h
   exact fin h
theorem Pa {g:Geo} {a:An} {x y:List Gt}:(F5 g a x y).2.1.length<=900:=by
 unfold F5
 by_cases hA:(AW g&&AY g a)=true
 ·rw [if_pos hA]
  obtain⟨hg,ha⟩:=Bool.and_eq_true_iff.1 hA
  obtain⟨h1,h2,h3,h4,h5⟩:=Ao.1 hg
  split
  ·unfold CS
   cases hR:CT g a x y g.sl.toNat a.pos a.seq g.sl [] [] with
   | none=>exact Ae _
   | some R=>
    obtain⟨l',w',seq'⟩:=R
    have:=Kr hg _ _ _ _ _ _ (BV ha).2 hR
    by_cases hl:seq' - 1<a.last
    ·rw [Ex hl];exact Ae _
    ·rw [DF hl]
     simp only [AG] at this
     dsimp only
     omega
  ·exact Ae _
 ·rw [if_neg hA];exact Ae _
theorem LC {g:Geo} {a:An} {x y:List Gt}:∀ (f:Nat) (pos seq left:Int) (l:List Tx) (w:List Wr) {l':List Tx} {w':List Wr} {seq':Int},seq<=4294967296->CT g a x y f pos seq left l w=some (l',w',seq')->seq'<=4294967296
 | 0,pos,seq,left,l,w,l',w',seq',h1,h=>by
  unfold CT at h
  injection h with h
  injection h with e1 h
  injection h with e2 e3
  omega
 | f+1,pos,seq,left,l,w,l',w',seq',h1,h=>by
  unfold CT at h
  have fin:some (l,w,seq)=some (l',w',seq')->seq'<=4294967296:=fun h=>by
   injection h with h
   injection h with e1 h
   injection h with e2 e3
   omega
  by_cases hc:0<left/\seq<=4294967295
  ·rw [if_pos hc] at h
   simp only at h
   generalize D9 g a x y pos seq left=q at h
   split at h
   ·cases h
   ·split at h
    ·exact fin h
    ·exact LC f _ _ _ _ _ (by omega) h
  ·rw [if_neg hc] at h
   exact fin h
theorem Hy {g:Geo} {a:An} {x y:List Gt} (hg:AW g=true) (ha:AY g a=true) (h:(CS g a x y).2.2=0):a.last<=a.seq+(CS g a x y).1.length - 1/\a.seq+(CS g a x y).1.length - 1<=4294967295:=by
 obtain⟨g1,g2,g3,g4,g5⟩:=Ao.1 hg
 have hq:=BV ha
 have hp:=EI ha
 unfold CS at h |-
 cases hR:CT g a x y g.sl.toNat a.pos a.seq g.sl [] [] with
 | none=>rw [hR] at h;simp [Lt,damaged] at h
 | some q=>
  obtain⟨l,w,seq⟩:=q
  rw [hR] at h
  obtain⟨c1,c2,c3⟩:=JA hg _ _ _ _ _ _ (l':=l) (w':=w) (seq':=seq) (show Gp g [] a.seq a.pos from trivial) rfl (by simp) (by simp [usedM]) (by omega) hq.2 hR
  have hm:=LC _ _ _ _ _ _ (by omega) hR
  by_cases hl:seq - 1<a.last
  ·rw [Ex hl] at h;simp [damaged] at h
  ·rw [DF hl]
   simp only
   omega
def CF (a:An) (n:Nat):An:={ a with gen:=a.gen+1,epoch:=a.epoch+1,last:=a.seq+n - 1 }
theorem Iz {g:Geo} {a:An} {n:Nat} (ha:AY g a=true) (h1:a.gen≠4294967295) (h2:a.epoch≠4294967295) (h3:a.seq+n - 1<=4294967295):AY g (CF a n)=true:=by
 have hp:=EI ha
 simp only [AY,Bl,Cg,Bool.and_eq_true,AE,decide_eq_true_eq] at ha
 simp only [AY,Bl,Cg,Bool.and_eq_true,AE,decide_eq_true_eq]
 obtain⟨⟨q1,q2,q3,q4,q11⟩,q5,q6,q7,q8,q9,q10⟩:=ha
 refine⟨⟨?_,?_,q3,?_,q11⟩,q5,?_,q7,q8,q9,q10⟩
 ·show 0<=a.gen+1/\a.gen+1<=4294967295;omega
 ·show 0<=a.epoch+1/\a.epoch+1<=4294967295;omega
 ·show 0<=a.seq+n - 1/\a.seq+n - 1<=4294967295;omega
 ·show a.seq - 1<=a.seq+n - 1;omega
def G0 (a:An) (t:List Tx):Stt:=⟨a,t,false,0,0,0,0, []⟩
def HP (g:Geo) (a:An) (t:List Tx) (d:Dk):Dk × Int × Stt:=
 if a.gen=4294967295\/a.epoch=4294967295 then (d,14,st0) else
 let q:=d.putAll (Ay g (CF a t.length))
 if q.2.2 then (q.1,8,st0) else if q.2.1=0 then (q.1,14,st0) else (q.1,0,G0 (CF a t.length) t)
def HR (g:Geo) (a:An) (q:List Tx × List Wr × Int) (d:Dk):Dk × Int × Stt:=
 if q.2.2≠0 then (d,q.2.2,st0) else
 if (d.mend q.2.1).2 then ((d.mend q.2.1).1,8,st0) else HP g a q.1 (d.mend q.2.1).1
def Gh (g:Geo) (a:An) (d:Dk):Dk × Int × Stt:=
 if d.live (2*g.sl.toNat) then HR g a (CS g a (AD d (AI g 0)) (AD d (AI g 1))) (d.adv (2*g.sl.toNat)) else (d.adv (2*g.sl.toNat),8,st0)
def BD (g:Geo) (d:Dk):Dk × Int × Stt:=
 if d.live g.an.toNat then
  match Ef g (AD d (B8 g)) with
  | none=>(d.adv g.an.toNat,11,st0)
  | some (a,_)=>Gh g a (d.adv g.an.toNat)
 else (d.adv g.an.toNat,8,st0)
theorem SQ {g:Geo} {x:Gt} {i:Int} {a:An} (hg:AW g=true) (h:Cy g x i=some a):AY g a=true:=by
 unfold Cy at h
 split at h
 ·cases hR:Cp g (BP x.bytes) with
  | none=>rw [hR] at h;cases h
  | some b=>
   rw [hR] at h
   simp only at h
   split at h
   ·cases h;exact(Pw hg hR).1
   ·cases h
 ·cases h
theorem Gd {g:Geo} {l:List Gt} (hg:AW g=true):∀ (k:Nat) {a:An} {j:Nat},Dp g l k=some (a,j)->AY g a=true
 | 0,a,j,h=>by cases h
 | k+1,a,j,h=>by
  rw [Ge,LK] at h
  cases hS:Cy g (l.getD k ⟨0, []⟩) (k:Nat) with
  | none=>rw [hS] at h;exact Gd hg k h
  | some b=>
   have hb:=SQ hg hS
   rw [hS] at h
   cases hP:Dp g l k with
   | none=>rw [hP] at h;cases h;exact hb
   | some q=>
    obtain⟨c,i⟩:=q
    rw [hP] at h
    simp only at h
    split at h
    ·cases h;exact hb
    ·cases h;exact Gd hg k hP
theorem Ei {d:Dk} (h:DkOk d) (l:List Int):∀ x∈AD d l,x.bytes.length<=100000:=by
 intro x hx
 simp only [AD,AF] at hx
 obtain⟨a,_,rfl⟩:=hx
 have:=RX h a
 show (d.got a).1.length<=_
 omega
theorem Ir {g:Geo} {a:An} {x y:List Gt} {n:Nat} (hg:AW g=true) (ha:AY g a=true) (hx:(x.length:Int)=g.sl) (hy:(y.length:Int)=g.sl) (hn:(n:Int)=Az g) (h:(CS g a x y).2.2=0):(∀ w∈(CS g a x y).2.1,Nj n w)/\(CS g a x y).2.1.length<=900:=by
 have e:F5 g a x y=CS g a x y:=by rw [F5,if_pos (by rw [hg,ha];rfl),if_pos ⟨hx,hy⟩]
 have hl:=Pa (g:=g) (a:=a) (x:=x) (y:=y)
 rw [e] at hl
 obtain⟨g1,g2,g3,g4,g5⟩:=Ao.1 hg
 have hc:=CW hg
 refine⟨fun w hw=>?_,hl⟩
 obtain⟨_,_,h3,_⟩:=Pb (l:=(CS g a x y).1) (w:=(CS g a x y).2.1) (e.trans (by rw [<-h]))
 obtain⟨p1,p2⟩:=h3 w hw
 unfold WY at p1
 exact⟨by omega,p2⟩
def Dk.tick (k:Nat) (d:Dk):Dk:=⟨d.cells,d.cache,min (d.reqs+k) 1048576,if d.left<0 then d.left else d.left - k⟩
structure Lv (d:Dk) (k:Nat):Prop where
 r:0<=d.reqs/\d.reqs<=1048576
 l:d.left<0\/(k:Int)<=d.left
theorem Lv.le {d:Dk} {k j:Nat} (h:Lv d k) (hj:j<=k):Lv d j:=⟨h.r,by have:=h.l;omega⟩
theorem Kz {d:Dk} (h:0<=d.reqs/\d.reqs<=1048576) (_h0:d.left≠0) (hl:d.left<0\/1<=d.left):d.req=d.tick 1:=by
 unfold Dk.req Dk.tick
 rw [wi (by omega)]
 congr 1
 ·split <;> omega
 ·split <;> split <;> omega
theorem FI {d:Dk} (a b:Nat) (_hr:d.reqs<=1048576) (h:d.left<0\/(a:Int)<=d.left):(d.tick a).tick b=d.tick (a+b):=by
 unfold Dk.tick
 congr 1
 ·simp only;omega
 ·simp only
  by_cases h':d.left<0
  ·simp only [h',if_true]
  ·rw [if_neg h',if_neg (by omega),if_neg h'];omega
theorem L3 {d:Dk} (hr:d.reqs<=1048576):d.tick 0=d:=by
 unfold Dk.tick
 obtain⟨c,ca,r,l⟩:=d
 simp only [Dk.mk.injEq,true_and] at hr |-
 constructor
 ·omega
 ·split <;> omega
theorem In {d:Dk} {a b:Nat} (h:Lv d (a+b)):Lv (d.tick a) b:=by
 have:=h.r;have:=h.l
 refine⟨?_,?_⟩
 ·show 0<=min _ _/\min _ _<=_;omega
 ·show (if d.left<0 then d.left else d.left - a)<0\/(b:Int)<=(if d.left<0 then d.left else d.left - a)
  split <;> omega
theorem Lk {d:Dk}:∀ (k:Nat),Lv d k->d.adv k=d.tick k
 | 0,h=>(L3 h.r.2).symm
 | k+1,h=>by
  have ih:=Lk k (h.le (by omega))
  have h1:=In (a:=k) (b:=1) h
  have h2:=h1.l
  show (if (d.adv k).left=0 then d.adv k else (d.adv k).req)=_
  rw [ih,if_neg (by omega),Kz h1.r (by omega) (by omega),FI k 1 h.r.2 (by have:=h.l;omega)]
def free (cs:List Cel) (w:Wr):Bool:=decide ((cs.getD w.addr.toNat cz).state≠2)
theorem OR {d:Dk} {w:Wr} (h:Lv d 1) (hc:d.cache.length<2000):d.write w.addr w.bytes=if free d.cells w then (⟨d.cells,d.cache ++ [w],(d.tick 1).reqs,(d.tick 1).left⟩,0) else (d.tick 1,7):=by
 have:=h.l
 unfold Dk.write free
 rw [if_neg (by omega),Kz h.r (by omega) (by omega)]
 by_cases h2:(d.cells.getD w.addr.toNat cz).state=2
 ·rw [if_pos (.inl h2),if_neg (by simpa using h2)]
 ·rw [if_neg (by rintro(h3 | h3);exact h2 h3;omega),if_pos (by simpa using h2)]
  rfl
theorem writes_go:∀ (l:List Wr) (d:Dk) (n:Nat),Lv d l.length->d.cache.length+l.length<=2000->l.foldl Fg (d,n,false)=(⟨d.cells,d.cache ++ l.filter (free d.cells),(d.tick l.length).reqs,(d.tick l.length).left⟩,n+(l.filter (free d.cells)).length,false)
 | [],d,n,h,_=>by
  show (d,n,false)=_
  rw [show ([]:List Wr).length=0 from rfl,L3 h.r.2]
  simp only [List.filter_nil,List.append_nil,AG,BE]
 | w::l,d,n,h,hc=>by
  have hl:(w::l).length=l.length+1:=rfl
  rw [hl] at h hc |-
  have hw:=OR (w:=w) (h.le (show 1<=l.length+1 by omega)) (by omega)
  have h1:Lv (d.tick 1) l.length:=In (by rw [BN];exact h)
  have ht:=FI (d:=d) 1 l.length h.r.2 (by have:=h.l;omega)
  rw [BN] at ht
  show l.foldl Fg (Fg (d,n,false) w)=_
  have hs:Fg (d,n,false) w=(match d.write w.addr w.bytes with | (d,e)=>if e=8 then (d,n,true) else (d,n+(if e=0 then 1 else 0),false)):=by
   unfold Fg;rw [if_neg (by simp)]
  rw [hs,hw]
  cases hf:free d.cells w with
  | true=>
   simp only [if_true]
   rw [if_neg (by decide)]
   have hgo:=writes_go l ⟨d.cells,d.cache ++ [w],(d.tick 1).reqs,(d.tick 1).left⟩ (n+1) ⟨h1.r,h1.l⟩ (by simp;omega)
   have e1:((⟨d.cells,d.cache ++ [w],(d.tick 1).reqs,(d.tick 1).left⟩:Dk).tick l.length).reqs=(d.tick (l.length+1)).reqs/\((⟨d.cells,d.cache ++ [w],(d.tick 1).reqs,(d.tick 1).left⟩:Dk).tick l.length).left=(d.tick (l.length+1)).left:=by rw [<-ht];exact⟨rfl,rfl⟩
   rw [e1.1,e1.2] at hgo
   rw [hgo]
   simp only [List.filter_cons,hf,if_true,Ah,List.append_assoc,List.singleton_append,Prod.mk.injEq,and_true,true_and]
   omega
  | false=>
   simp only [BB,if_false]
   rw [if_neg (by decide),if_neg (by decide)]
   rw [writes_go l (d.tick 1) (n+0) h1 (by show d.cache.length+_<=_;omega),ht]
   simp only [List.filter_cons,hf,BB,if_false,BE]
   rfl
theorem Nl {d:Dk} {l:List Wr} (h:Lv d l.length) (hc:d.cache.length+l.length<=2000):d.writes l=(⟨d.cells,d.cache ++ l.filter (free d.cells),(d.tick l.length).reqs,(d.tick l.length).left⟩,(l.filter (free d.cells)).length,false):=by
 rw [Dk.writes,writes_go l d 0 h hc,Aq]
def EY (cs:List Cel) (w:Wr):List Cel:=if (cs.getD w.addr.toNat cz).state=2 then cs else cs.set w.addr.toNat ⟨0,w.bytes,(cs.getD w.addr.toNat cz).bytes⟩
def DR (cs:List Cel) (l:List Wr):List Cel:=l.foldl EY cs
theorem FT (cs:List Cel) (w:Wr):(EY cs w).length=cs.length:=by unfold EY;split <;> simp
theorem finL_len:∀ (l:List Wr) (cs:List Cel),(DR cs l).length=cs.length
 | [],_=>rfl
 | w::l,cs=>by show (DR (EY cs w) l).length=_;rw [finL_len l,FT]
theorem Sb (d:Dk) (w:Wr):d.fin w={ d with cells:=EY d.cells w }:=by unfold Dk.fin EY;split <;> rfl
theorem allFin_cells:∀ (l:List Wr) (d:Dk),d.allFin l={ d with cells:=DR d.cells l }
 | [],_=>rfl
 | w::l,d=>by
  show (d.fin w).allFin l=_
  rw [allFin_cells l,Sb];rfl
theorem GP (cs:List Cel) (w:Wr) (a:Nat) (ha:a<cs.length):(EY cs w).getD a cz=if w.addr.toNat=a/\(cs.getD a cz).state≠2 then ⟨0,w.bytes,(cs.getD a cz).bytes⟩ else cs.getD a cz:=by
 unfold EY
 by_cases h:(cs.getD w.addr.toNat cz).state=2
 ·rw [if_pos h,if_neg]
  rintro⟨rfl,h2⟩
  exact h2 h
 ·rw [if_neg h,IB _ _ _ _ ha]
  by_cases e:w.addr.toNat=a
  ·subst e;rw [if_pos rfl,if_pos ⟨rfl,h⟩]
  ·rw [if_neg e,if_neg (fun h=>e h.1)]
theorem finL_miss:∀ (l:List Wr) (cs:List Cel) (a:Nat),a<cs.length->(∀ w∈l,w.addr.toNat≠a)->(DR cs l).getD a cz=cs.getD a cz
 | [],_,_,_,_=>rfl
 | w::l,cs,a,ha,h=>by
  have hs:=GP cs w a ha
  rw [if_neg (fun e=>h w (by simp) e.1)] at hs
  show (DR (EY cs w) l).getD a cz=_
  rw [finL_miss l (EY cs w) a (by rw [FT];exact ha) (fun x hx=>h x (A7 _ hx)),hs]
theorem finL_stuck:∀ (l:List Wr) (cs:List Cel) (a:Nat),a<cs.length->(cs.getD a cz).state=2->(DR cs l).getD a cz=cs.getD a cz
 | [],_,_,_,_=>rfl
 | w::l,cs,a,ha,h=>by
  have hs:=GP cs w a ha
  rw [if_neg (fun e=>e.2 h)] at hs
  show (DR (EY cs w) l).getD a cz=_
  rw [finL_stuck l (EY cs w) a (by rw [FT];exact ha) (by rw [hs];exact h),hs]
theorem finL_any:∀ (l:List Wr) (cs:List Cel) (a:Nat),a<cs.length->(DR cs l).getD a cz=cs.getD a cz\/(cs.getD a cz).state≠2/\((DR cs l).getD a cz).state=0/\∃ w∈l,w.addr.toNat=a/\((DR cs l).getD a cz).bytes=w.bytes
 | [],_,_,_=> .inl rfl
 | w::l,cs,a,ha=>by
  have hs:=GP cs w a ha
  have ih:=finL_any l (EY cs w) a (by rw [FT];exact ha)
  by_cases e:w.addr.toNat=a/\(cs.getD a cz).state≠2
  ·rw [if_pos e] at hs
   rcases ih with ih | ⟨h1,h2,x,hx,h3,h4⟩
   ·refine .inr ⟨e.2,?_,w,by simp,e.1,?_⟩
    ·show ((DR (EY cs w) l).getD a cz).state=0;rw [ih,hs]
    ·show ((DR (EY cs w) l).getD a cz).bytes=_;rw [ih,hs]
   ·exact .inr ⟨e.2,h2,x,A7 _ hx,h3,h4⟩
  ·rw [if_neg e] at hs
   rcases ih with ih | ⟨h1,h2,x,hx,h3,h4⟩
   ·exact .inl (ih.trans hs)
   ·exact .inr ⟨by rw [hs] at h1;exact h1,h2,x,A7 _ hx,h3,h4⟩
theorem KX {F:List UInt8}:∀ (l:List Wr) (cs:List Cel) (a:Nat),a<cs.length->(cs.getD a cz).state≠2->(∀ w∈l,w.addr.toNat=a->w.bytes=F)->(∃ w∈l,w.addr.toNat=a)\/((cs.getD a cz).state=0/\(cs.getD a cz).bytes=F)->((DR cs l).getD a cz).state=0/\((DR cs l).getD a cz).bytes=F
 | [],cs,a,_,_,_,h=>by
  rcases h with ⟨w,hw,_⟩ | h
  ·cases hw
  ·exact h
 | w::l,cs,a,ha,h2,hF,h=>by
  have hs:=GP cs w a ha
  have ha':a<(EY cs w).length:=by rw [FT];exact ha
  show ((DR (EY cs w) l).getD a cz).state=0/\((DR (EY cs w) l).getD a cz).bytes=F
  by_cases e:w.addr.toNat=a
  ·rw [if_pos ⟨e,h2⟩,hF w (by simp) e] at hs
   exact KX l (EY cs w) a ha' (by rw [hs];show (0:Int)≠2;decide) (fun x hx=>hF x (A7 _ hx)) (.inr (by rw [hs];exact⟨rfl,rfl⟩))
  ·rw [if_neg (fun q=>e q.1)] at hs
   refine KX l (EY cs w) a ha' (by rw [hs];exact h2) (fun x hx=>hF x (A7 _ hx)) ?_
   rcases h with ⟨x,hx,hxa⟩ | h
   ·rcases Bn.1 hx with rfl | hx
    ·exact absurd hxa e
    ·exact .inl ⟨x,hx,hxa⟩
   ·exact .inr (by rw [hs];exact h)
theorem finL_free:∀ (l:List Wr) (cs cs0:List Cel),(∀ a,(cs.getD a cz).state=2↔(cs0.getD a cz).state=2)->DR cs (l.filter (free cs0))=DR cs l
 | [],_,_,_=>rfl
 | w::l,cs,cs0,h=>by
  have hstep:∀ a,((EY cs w).getD a cz).state=2↔(cs0.getD a cz).state=2:=fun a=>by
   rw [<-h a]
   by_cases ha:a<cs.length
   ·rw [GP cs w a ha]
    split
    ·rename_i e
     constructor
     ·intro q;exact absurd q (by simp)
     ·intro q;exact absurd q e.2
    ·exact Iff.rfl
   ·rw [List.getD_eq_getElem?_getD,List.getD_eq_getElem?_getD,List.getElem?_eq_none (by rw [FT];omega),List.getElem?_eq_none (by omega)]
  show _=DR (EY cs w) l
  rw [List.filter_cons]
  by_cases hf:free cs0 w=true
  ·rw [if_pos hf]
   exact finL_free l (EY cs w) cs0 hstep
  ·rw [if_neg hf]
   have:EY cs w=cs:=by
    unfold EY
    rw [if_pos]
    simp only [free,decide_eq_true_eq,Decidable.not_not] at hf
    exact(h _).2 hf
   rw [this]
   exact finL_free l cs cs0 h
theorem Ix {d:Dk} {l:List Wr} (h:Lv d (l.length+1)) (hc:d.cache=[]) (hl:l.length<=2000):d.putAll l=(⟨DR d.cells l, [],(d.tick (l.length+1)).reqs,(d.tick (l.length+1)).left⟩,(l.filter (free d.cells)).length,false):=by
 have hw:=Nl (h.le (show l.length<=l.length+1 by omega)) (by rw [hc];simpa using hl)
 have h1:=In (a:=l.length) (b:=1) h
 have h2:=h1.l
 rw [hc,Bj] at hw
 unfold Dk.putAll
 rw [hw]
 simp only [BB,if_false]
 rw [if_neg (by show ¬(d.tick l.length).left=0;omega)]
 have ht:=FI (d:=d) l.length 1 h.r.2 (by have:=h.l;omega)
 simp only [Prod.mk.injEq,and_true]
 unfold Dk.flush
 rw [allFin_cells]
 have h3:Lv ⟨d.cells,l.filter (free d.cells),(d.tick l.length).reqs,(d.tick l.length).left⟩ 1:=⟨h1.r,h1.l⟩
 have hr:=Kz (d:=⟨d.cells,l.filter (free d.cells),(d.tick l.length).reqs,(d.tick l.length).left⟩) h3.r (by show (d.tick l.length).left≠0;omega) (by show (d.tick l.length).left<0\/1<=(d.tick l.length).left;omega)
 rw [hr,<-ht]
 show (⟨DR d.cells (l.filter (free d.cells)), [],_,_⟩:Dk)=_
 rw [finL_free l d.cells d.cells fun _=>Iff.rfl]
 rfl
theorem MM {m:Nat} {i:Nat} (hi:Nat.blt i m=true) (h:Nat.ble 3 m=true):∀ z∈ [0,1,2,i],z<m:=fun z hz=>by
 have:=Ad h
 have:=Ad hi
 simp at hz
 omega
theorem Sq (g:Geo) (d:Dk) (hg:AW g=true) (h:DkOk d) (hn:(d.cells.length:Int)=Az g) :
  ACalls Tryz.prog false 49 [.bp 0 0] (Nk g st0 d) fun r H=>r = .v (.int .i64 (BD g d).2.1)/\H=bwG g (BD g d).2.2 (BD g d).1:=by
 obtain⟨g1,g2,g3,g4,g5⟩:=Ao.1 hg
 have hcg:=CW hg
 have ha:=PR g st0 d hg h (by omega)
 unfold BD
 by_cases hl:d.live g.an.toNat
 ·rw [if_pos hl]
  have hp:=Vp g (AD d (B8 g)) hg (by rw [BT,CC];omega) (Ei h _)
  have hpo:=fun {a j}=>Gd (g:=g) (l:=AD d (B8 g)) hg (AD d (B8 g)).length (a:=a) (j:=j)
  have hpo:∀ {a j},Ef g (AD d (B8 g))=some (a,j)->AY g a=true:=hpo
  have hgl:(AD d (B8 g)).length=g.an.toNat:=by rw [BT,CC]
  generalize AD d (B8 g)=L at ha hp hpo hgl |-
  have hd1:=h.adv g.an.toNat
  have hs1:=(D5 g.an.toNat d).1
  generalize d.adv g.an.toNat=d1 at ha hd1 hs1 |-
  cases hP:Ef g L with
  | none=>
   rw [hP] at hp
   refine ACalls.ofR tys_ok Tryz.func49 rfl rfl (Ad rfl) ?_
   conv=>whnf
   refine ha.mono ?_
   rintro _ _ ⟨h1, -⟩
   obtain⟨rfl,rfl⟩:=h1 hl
   conv=>whnf
   refine ACalls.shut hp.go ?_
   refine⟨(by rw [Ab,hgl]),?_⟩
   conv=>whnf
   refine ACalls.sub [.ag (A9 g),BU L] ⟨ri,AH (f:=B4) L hgl.symm rfl,trivial⟩ ?_
   refine Fn.cl hp ?_
   exact⟨_, .v (.int .i64 11),bwG g st0 d1,fun _ _ h=>h,WkN.rc (ConvF.ofH (ConvH.move 1 3 (by decide) rfl rfl)) (s:= [0,1,2,3,6]) ⟨⟨rfl,trivial⟩,⟨rfl,rfl,rfl,trivial,rfl,trivial⟩,rfl,rfl,rfl,rfl,rfl⟩,rfl,rfl⟩
  | some q=>
   obtain⟨a,j⟩:=q
   have hao:=hpo hP
   rw [hP] at hp
   replace hp:Fn Tryz.prog 112 [.ag (A9 g),BU L] (fun r=>r = .tp [.ag (CN a), .v (.int .i64 (j:Nat)), .v (.int .i64 0)]):=hp
   have hlg:=VR g st0 d1 hg hd1 (by rw [hs1];exact hn)
   simp only
   unfold Gh
   by_cases hl2:d1.live (2*g.sl.toNat)
   ·rw [if_pos hl2]
    have hlA:(B8 g).length=g.an.toNat:=CC g
    have hx1:(AD d1 (AI g 0)).length=g.sl.toNat:=by rw [BT,Cc]
    have hx2:(AD d1 (AI g 1)).length=g.sl.toNat:=by rw [BT,Cc]
    have hsc:=Va g a (AD d1 (AI g 0)) (AD d1 (AI g 1)) (by have:=(D4 hg hao 0 (Ae _)).2.2.2.1;omega) (by have:=(D4 hg hao 0 (Ae _)).2.1;omega) (Ei hd1 _) (Ei hd1 _)
    have hlast:=Hy (x:=AD d1 (AI g 0)) (y:=AD d1 (AI g 1)) hg hao
    have hin:=Ir (x:=AD d1 (AI g 0)) (y:=AD d1 (AI g 1)) (n:=d1.cells.length) hg hao (by omega) (by omega) (by rw [hs1];exact hn)
    rw [F5,if_pos (by rw [hg,hao];rfl),if_pos ⟨by omega,by omega⟩] at hsc
    generalize CS g a (AD d1 (AI g 0)) (AD d1 (AI g 1))=S at hsc hlast hin |-
    obtain⟨T,W,e⟩:=S
    simp only at hsc hlast hin
    generalize AD d1 (AI g 0)=X1 at hlg hx1 hsc
    generalize AD d1 (AI g 1)=X2 at hlg hx2 hsc
    have hd2:=hd1.adv (2*g.sl.toNat)
    have hs2:=(D5 (2*g.sl.toNat) d1).1
    generalize d1.adv (2*g.sl.toNat)=d2 at hlg hd2 hs2 |-
    unfold HR
    by_cases he:e=0
    ·subst he
     rw [if_neg (by simp)]
     have hin:=hin rfl
     have hlast:=hlast rfl
     have hm:=TA g st0 d2 W hd2 (by rw [hs2];exact hin.1) (by omega)
     have hdm:DkOk (d2.mend W).1/\(d2.mend W).1.cells.length=d2.cells.length:=by
      unfold Dk.mend
      split
      ·exact⟨hd2,rfl⟩
      ·exact Hf hd2 (by rw [hs2];exact hin.1)
     simp only
     cases hM:(d2.mend W).2 with
     | true=>
      rw [hM,if_pos rfl] at hm
      rw [if_pos rfl]
      refine ACalls.ofR tys_ok Tryz.func49 rfl rfl (Ad rfl) ?_
      conv=>whnf
      refine ha.mono ?_
      rintro _ _ ⟨h1, -⟩
      obtain⟨rfl,rfl⟩:=h1 hl
      conv=>whnf
      refine ACalls.shut hp.go ?_
      refine⟨(by rw [Ab,hgl]),?_⟩
      conv=>whnf
      refine ACalls.sub [.ag (A9 g),BU L] ⟨ri,AH (f:=B4) L hgl.symm rfl,trivial⟩ ?_
      refine Fn.cl hp ?_
      conv=>whnf
      refine ACalls.frame [0,1,2,3] hlg rfl rfl rfl rfl (by decide) (Ca rfl) ⟨rfl,rfl,rfl,rfl,trivial⟩ ?_
      rintro _ _ ⟨h1, -⟩
      obtain⟨rfl,rfl⟩:=h1 hl2
      conv=>whnf
      apply aDraw.treeK (0) tys_ok mixed (.one 0 (.one 1 (.one 2 (.one 3 (.one 4 (.one 5 (.one 6 (.one 7 (.one 8 (.one 9 (.one 10 (.one 11 (.one 12 (.one 13 (.one 14 .fin))))))))))))))) (by kernel_rfl)
      conv=>whnf
      (refine ACalls.shut hsc.go ?_;(conv=>whnf);refine And.intro (by rw [Ab,hx1]) ?_;(conv=>whnf);refine And.intro (by rw [Ab,hx2]) ?_;(conv=>whnf);refine ACalls.sub [.ag (A9 g), .ag (CN a),BU X1,BU X2] ⟨ri,ri,AH (f:=B4) X1 hx1.symm rfl,AH (f:=B4) X2 hx2.symm rfl,trivial⟩ ?_;refine Fn.cl hsc ?_)
      conv=>whnf
      conv=>whnf
      refine ACalls.frame [0,1,2,3] hm rfl rfl rfl rfl (by decide) (Ca rfl) ⟨rfl,rfl,rfl,rfl,trivial⟩ ?_
      rintro _ _ ⟨rfl,rfl⟩
      exact⟨_, .v (.int .i64 8),bwG g st0 (d2.mend W).1,fun _ _ h=>h,WkN.r (s:= [0,1,2,3,8]) ⟨⟨rfl,trivial⟩,⟨rfl,rfl,rfl,trivial,rfl,trivial⟩,rfl,rfl,rfl,rfl,rfl⟩,rfl,rfl⟩
     | false=>
      rw [hM,if_neg (by decide)] at hm
      rw [if_neg (by decide)]
      generalize (d2.mend W).1=d3 at hm hdm |-
      have hpa:=EI hao
      unfold HP
      by_cases hmx:a.gen=4294967295\/a.epoch=4294967295
      ·rw [if_pos hmx]
       refine ACalls.ofR tys_ok Tryz.func49 rfl rfl (Ad rfl) ?_
       conv=>whnf
       refine ha.mono ?_
       rintro _ _ ⟨h1, -⟩
       obtain⟨rfl,rfl⟩:=h1 hl
       conv=>whnf
       refine ACalls.shut hp.go ?_
       refine⟨(by rw [Ab,hgl]),?_⟩
       conv=>whnf
       refine ACalls.sub [.ag (A9 g),BU L] ⟨ri,AH (f:=B4) L hgl.symm rfl,trivial⟩ ?_
       refine Fn.cl hp ?_
       conv=>whnf
       refine ACalls.frame [0,1,2,3] hlg rfl rfl rfl rfl (by decide) (Ca rfl) ⟨rfl,rfl,rfl,rfl,trivial⟩ ?_
       rintro _ _ ⟨h1, -⟩
       obtain⟨rfl,rfl⟩:=h1 hl2
       conv=>whnf
       apply aDraw.treeK (0) tys_ok mixed (.one 0 (.one 1 (.one 2 (.one 3 (.one 4 (.one 5 (.one 6 (.one 7 (.one 8 (.one 9 (.one 10 (.one 11 (.one 12 (.one 13 (.one 14 .fin))))))))))))))) (by kernel_rfl)
       conv=>whnf
       (refine ACalls.shut hsc.go ?_;(conv=>whnf);refine And.intro (by rw [Ab,hx1]) ?_;(conv=>whnf);refine And.intro (by rw [Ab,hx2]) ?_;(conv=>whnf);refine ACalls.sub [.ag (A9 g), .ag (CN a),BU X1,BU X2] ⟨ri,ri,AH (f:=B4) X1 hx1.symm rfl,AH (f:=B4) X2 hx2.symm rfl,trivial⟩ ?_;refine Fn.cl hsc ?_)
       conv=>whnf
       conv=>whnf
       refine ACalls.frame [0,1,2,3] hm rfl rfl rfl rfl (by decide) (Ca rfl) ⟨rfl,rfl,rfl,rfl,trivial⟩ ?_
       rintro _ _ ⟨rfl,rfl⟩
       conv=>whnf
       refine Af (fun _=>?_) (fun q1=>?_)
       ·exact⟨_, .v (.int .i64 14),bwG g st0 d3,fun _ _ h=>h,WkN.r (s:= [0,1,2,3,8]) ⟨⟨rfl,trivial⟩,⟨rfl,rfl,rfl,trivial,rfl,trivial⟩,rfl,rfl,rfl,rfl,rfl⟩,rfl,rfl⟩
       ·conv=>whnf
        refine Af (fun _=>?_) (fun q2=>by
         exfalso
         rcases hmx with e | e
         ·rw [e] at q1;exact absurd q1 (by decide)
         ·rw [e] at q2;exact absurd q2 (by decide))
        exact⟨_, .v (.int .i64 14),bwG g st0 d3,fun _ _ h=>h,WkN.r (s:= [0,1,2,3,8]) ⟨⟨rfl,trivial⟩,⟨rfl,rfl,rfl,trivial,rfl,trivial⟩,rfl,rfl,rfl,rfl,rfl⟩,rfl,rfl⟩
      ·rw [if_neg hmx]
       have hna:=Iz (n:=T.length) hao (fun e=>hmx (.inl e)) (fun e=>hmx (.inr e)) hlast.2
       have hban:=OH g st0 d3 (CF a T.length) hg hna hdm.1 (If hg hna (by rw [hdm.2,hs2,hs1];exact hn))
       have b1:(a.gen == 4294967295)=false:=beq_eq_false_iff_ne.2 fun e=>hmx (.inl e)
       have b2:(a.epoch == 4294967295)=false:=beq_eq_false_iff_ne.2 fun e=>hmx (.inr e)
       have w1:IntKind.i64.wrap (a.gen+1)=a.gen+1:=wi (by omega)
       have w2:IntKind.i64.wrap (a.epoch+1)=a.epoch+1:=wi (by omega)
       have w3:IntKind.i64.wrap (IntKind.i64.wrap (a.seq+T.length) - 1)=a.seq+T.length - 1:=by
        rw [wi (n:=a.seq+T.length) (by omega)];exact wi (by omega)
       generalize hQ:d3.putAll (Ay g (CF a T.length))=Q at hban |-
       obtain⟨d4,n,dead⟩:=Q
       simp only
       cases dead with
       | true=>
        rw [if_pos rfl]
        refine ACalls.ofR tys_ok Tryz.func49 rfl rfl (Ad rfl) ?_
        conv=>whnf
        refine ha.mono ?_
        rintro _ _ ⟨h1, -⟩
        obtain⟨rfl,rfl⟩:=h1 hl
        conv=>whnf
        refine ACalls.shut hp.go ?_
        refine⟨(by rw [Ab,hgl]),?_⟩
        conv=>whnf
        refine ACalls.sub [.ag (A9 g),BU L] ⟨ri,AH (f:=B4) L hgl.symm rfl,trivial⟩ ?_
        refine Fn.cl hp ?_
        conv=>whnf
        refine ACalls.frame [0,1,2,3] hlg rfl rfl rfl rfl (by decide) (Ca rfl) ⟨rfl,rfl,rfl,rfl,trivial⟩ ?_
        rintro _ _ ⟨h1, -⟩
        obtain⟨rfl,rfl⟩:=h1 hl2
        conv=>whnf
        apply aDraw.treeK (0) tys_ok mixed (.one 0 (.one 1 (.one 2 (.one 3 (.one 4 (.one 5 (.one 6 (.one 7 (.one 8 (.one 9 (.one 10 (.one 11 (.one 12 (.one 13 (.one 14 .fin))))))))))))))) (by kernel_rfl)
        conv=>whnf
        (refine ACalls.shut hsc.go ?_;(conv=>whnf);refine And.intro (by rw [Ab,hx1]) ?_;(conv=>whnf);refine And.intro (by rw [Ab,hx2]) ?_;(conv=>whnf);refine ACalls.sub [.ag (A9 g), .ag (CN a),BU X1,BU X2] ⟨ri,ri,AH (f:=B4) X1 hx1.symm rfl,AH (f:=B4) X2 hx2.symm rfl,trivial⟩ ?_;refine Fn.cl hsc ?_)
        conv=>whnf
        conv=>whnf
        refine ACalls.frame [0,1,2,3] hm rfl rfl rfl rfl (by decide) (Ca rfl) ⟨rfl,rfl,rfl,rfl,trivial⟩ ?_
        rintro _ _ ⟨rfl,rfl⟩
        conv=>whnf
        rw [b1]
        conv=>whnf
        rw [b2]
        conv=>whnf
        rw [w1,w2,w3]
        refine ACalls.frame [0,1,2,8] hban rfl rfl rfl rfl (by decide) (MM rfl rfl) ⟨rfl,rfl,rfl,rfl,trivial⟩ ?_
        rintro _ _ ⟨rfl,rfl⟩
        exact⟨_, .v (.int .i64 8),bwG g st0 d4,fun _ _ h=>h,WkN.r (s:= [0,1,2,3,9]) ⟨⟨rfl,trivial⟩,⟨rfl,rfl,rfl,trivial,rfl,trivial⟩,rfl,rfl,rfl,rfl,rfl⟩,rfl,rfl⟩
       | false=>
        rw [if_neg (by decide)]
        simp only [BB,if_false] at hban
        by_cases hn0:n=0
        ·subst hn0
         rw [if_pos rfl]
         refine ACalls.ofR tys_ok Tryz.func49 rfl rfl (Ad rfl) ?_
         conv=>whnf
         refine ha.mono ?_
         rintro _ _ ⟨h1, -⟩
         obtain⟨rfl,rfl⟩:=h1 hl
         conv=>whnf
         refine ACalls.shut hp.go ?_
         refine⟨(by rw [Ab,hgl]),?_⟩
         conv=>whnf
         refine ACalls.sub [.ag (A9 g),BU L] ⟨ri,AH (f:=B4) L hgl.symm rfl,trivial⟩ ?_
         refine Fn.cl hp ?_
         conv=>whnf
         refine ACalls.frame [0,1,2,3] hlg rfl rfl rfl rfl (by decide) (Ca rfl) ⟨rfl,rfl,rfl,rfl,trivial⟩ ?_
         rintro _ _ ⟨h1, -⟩
         obtain⟨rfl,rfl⟩:=h1 hl2
         conv=>whnf
         apply aDraw.treeK (0) tys_ok mixed (.one 0 (.one 1 (.one 2 (.one 3 (.one 4 (.one 5 (.one 6 (.one 7 (.one 8 (.one 9 (.one 10 (.one 11 (.one 12 (.one 13 (.one 14 .fin))))))))))))))) (by kernel_rfl)
         conv=>whnf
         (refine ACalls.shut hsc.go ?_;(conv=>whnf);refine And.intro (by rw [Ab,hx1]) ?_;(conv=>whnf);refine And.intro (by rw [Ab,hx2]) ?_;(conv=>whnf);refine ACalls.sub [.ag (A9 g), .ag (CN a),BU X1,BU X2] ⟨ri,ri,AH (f:=B4) X1 hx1.symm rfl,AH (f:=B4) X2 hx2.symm rfl,trivial⟩ ?_;refine Fn.cl hsc ?_)
         conv=>whnf
         conv=>whnf
         refine ACalls.frame [0,1,2,3] hm rfl rfl rfl rfl (by decide) (Ca rfl) ⟨rfl,rfl,rfl,rfl,trivial⟩ ?_
         rintro _ _ ⟨rfl,rfl⟩
         conv=>whnf
         rw [b1]
         conv=>whnf
         rw [b2]
         conv=>whnf
         rw [w1,w2,w3]
         refine ACalls.frame [0,1,2,8] hban rfl rfl rfl rfl (by decide) (MM rfl rfl) ⟨rfl,rfl,rfl,rfl,trivial⟩ ?_
         rintro _ _ ⟨rfl,rfl⟩
         exact⟨_, .v (.int .i64 14),bwG g st0 d4,fun _ _ h=>h,WkN.r (s:= [0,1,2,3,9]) ⟨⟨rfl,trivial⟩,⟨rfl,rfl,rfl,trivial,rfl,trivial⟩,rfl,rfl,rfl,rfl,rfl⟩,rfl,rfl⟩
        ·rw [if_neg hn0]
         have hnb:((n:Int) == 0)=false:=beq_eq_false_iff_ne.2 (by omega)
         refine ACalls.ofR tys_ok Tryz.func49 rfl rfl (Ad rfl) ?_
         conv=>whnf
         refine ha.mono ?_
         rintro _ _ ⟨h1, -⟩
         obtain⟨rfl,rfl⟩:=h1 hl
         conv=>whnf
         refine ACalls.shut hp.go ?_
         refine⟨(by rw [Ab,hgl]),?_⟩
         conv=>whnf
         refine ACalls.sub [.ag (A9 g),BU L] ⟨ri,AH (f:=B4) L hgl.symm rfl,trivial⟩ ?_
         refine Fn.cl hp ?_
         conv=>whnf
         refine ACalls.frame [0,1,2,3] hlg rfl rfl rfl rfl (by decide) (Ca rfl) ⟨rfl,rfl,rfl,rfl,trivial⟩ ?_
         rintro _ _ ⟨h1, -⟩
         obtain⟨rfl,rfl⟩:=h1 hl2
         conv=>whnf
         apply aDraw.treeK (0) tys_ok mixed (.one 0 (.one 1 (.one 2 (.one 3 (.one 4 (.one 5 (.one 6 (.one 7 (.one 8 (.one 9 (.one 10 (.one 11 (.one 12 (.one 13 (.one 14 .fin))))))))))))))) (by kernel_rfl)
         conv=>whnf
         (refine ACalls.shut hsc.go ?_;(conv=>whnf);refine And.intro (by rw [Ab,hx1]) ?_;(conv=>whnf);refine And.intro (by rw [Ab,hx2]) ?_;(conv=>whnf);refine ACalls.sub [.ag (A9 g), .ag (CN a),BU X1,BU X2] ⟨ri,ri,AH (f:=B4) X1 hx1.symm rfl,AH (f:=B4) X2 hx2.symm rfl,trivial⟩ ?_;refine Fn.cl hsc ?_)
         conv=>whnf
         conv=>whnf
         refine ACalls.frame [0,1,2,3] hm rfl rfl rfl rfl (by decide) (Ca rfl) ⟨rfl,rfl,rfl,rfl,trivial⟩ ?_
         rintro _ _ ⟨rfl,rfl⟩
         conv=>whnf
         rw [b1]
         conv=>whnf
         rw [b2]
         conv=>whnf
         rw [w1,w2,w3]
         refine ACalls.frame [0,1,2,8] hban rfl rfl rfl rfl (by decide) (MM rfl rfl) ⟨rfl,rfl,rfl,rfl,trivial⟩ ?_
         rintro _ _ ⟨rfl,rfl⟩
         conv=>whnf
         rw [hnb]
         refine⟨_, .v (.int .i64 0),bwG g (G0 (CF a T.length) T) d4,ri,WkN.rc (ConvF.ofH (ConvH.subBox (cs':=Xb g (.bp 1 0) (G0 (CF a T.length) T)) 0 rfl ?_)) (s:= [0,1,2,3,9]) ⟨⟨rfl,trivial⟩,⟨rfl,rfl,rfl,trivial,rfl,trivial⟩,rfl,rfl,rfl,rfl,rfl⟩,rfl,rfl⟩
         exact⟨fun _ _ h=>h,fun _ _ h=>h,fun _ _ h=>h,fun _ _ h=>h,fun _ _ h=>h,fun _ _ h=>h,fun _ _ h=>h,fun _ _ h=>h,fun _ _ h=>h,fun _ _ h=>h,fun _ _ h=>h,fun _ _ h=>h,fun _ _ h=>h,fun _ _ h=>h,fun _ _ h=>h,fun _ _ h=>h,fun _ _ h=>h,fun _ _ h=>h,fun _ _ h=>h,AP 1 _,trivial⟩
    ·rw [if_pos (by simpa using he)]
     have hb:(e != 0)=true:=bne_iff_ne.2 he
     refine ACalls.ofR tys_ok Tryz.func49 rfl rfl (Ad rfl) ?_
     conv=>whnf
     refine ha.mono ?_
     rintro _ _ ⟨h1, -⟩
     obtain⟨rfl,rfl⟩:=h1 hl
     conv=>whnf
     refine ACalls.shut hp.go ?_
     refine⟨(by rw [Ab,hgl]),?_⟩
     conv=>whnf
     refine ACalls.sub [.ag (A9 g),BU L] ⟨ri,AH (f:=B4) L hgl.symm rfl,trivial⟩ ?_
     refine Fn.cl hp ?_
     conv=>whnf
     refine ACalls.frame [0,1,2,3] hlg rfl rfl rfl rfl (by decide) (Ca rfl) ⟨rfl,rfl,rfl,rfl,trivial⟩ ?_
     rintro _ _ ⟨h1, -⟩
     obtain⟨rfl,rfl⟩:=h1 hl2
     conv=>whnf
     apply aDraw.treeK (0) tys_ok mixed (.one 0 (.one 1 (.one 2 (.one 3 (.one 4 (.one 5 (.one 6 (.one 7 (.one 8 (.one 9 (.one 10 (.one 11 (.one 12 (.one 13 (.one 14 .fin))))))))))))))) (by kernel_rfl)
     conv=>whnf
     (refine ACalls.shut hsc.go ?_;(conv=>whnf);refine And.intro (by rw [Ab,hx1]) ?_;(conv=>whnf);refine And.intro (by rw [Ab,hx2]) ?_;(conv=>whnf);refine ACalls.sub [.ag (A9 g), .ag (CN a),BU X1,BU X2] ⟨ri,ri,AH (f:=B4) X1 hx1.symm rfl,AH (f:=B4) X2 hx2.symm rfl,trivial⟩ ?_;refine Fn.cl hsc ?_)
     conv=>whnf
     rw [hb]
     exact⟨_, .v (.int .i64 e),bwG g st0 d2,fun _ _ h=>h,WkN.rc (ConvF.ofH (ConvH.move 1 3 (by decide) rfl rfl)) (s:= [0,1,2,3,8]) ⟨⟨rfl,trivial⟩,⟨rfl,rfl,rfl,trivial,rfl,trivial⟩,rfl,rfl,rfl,rfl,rfl⟩,rfl,rfl⟩
   ·rw [if_neg hl2]
    refine ACalls.ofR tys_ok Tryz.func49 rfl rfl (Ad rfl) ?_
    conv=>whnf
    refine ha.mono ?_
    rintro _ _ ⟨h1, -⟩
    obtain⟨rfl,rfl⟩:=h1 hl
    conv=>whnf
    refine ACalls.shut hp.go ?_
    refine⟨(by rw [Ab,hgl]),?_⟩
    conv=>whnf
    refine ACalls.sub [.ag (A9 g),BU L] ⟨ri,AH (f:=B4) L hgl.symm rfl,trivial⟩ ?_
    refine Fn.cl hp ?_
    conv=>whnf
    refine ACalls.frame [0,1,2,3] hlg rfl rfl rfl rfl (by decide) (Ca rfl) ⟨rfl,rfl,rfl,rfl,trivial⟩ ?_
    rintro _ _ ⟨-,h1⟩
    obtain⟨rfl,rfl⟩:=h1 hl2
    exact⟨_, .v (.int .i64 8),bwG g st0 (d1.adv (2*g.sl.toNat)),fun _ _ h=>h,WkN.rc (ConvF.ofH (ConvH.move 1 3 (by decide) rfl rfl)) (s:= [0,1,2,3,6]) ⟨⟨rfl,trivial⟩,⟨rfl,rfl,rfl,trivial,rfl,trivial⟩,rfl,rfl,rfl,rfl,rfl⟩,rfl,rfl⟩
 ·rw [if_neg hl]
  refine ACalls.ofR tys_ok Tryz.func49 rfl rfl (Ad rfl) ?_
  conv=>whnf
  refine ha.mono ?_
  rintro _ _ ⟨-,h1⟩
  obtain⟨rfl,rfl⟩:=h1 hl
  exact⟨_, .v (.int .i64 8),bwG g st0 (d.adv g.an.toNat),fun _ _ h=>h,WkN.rc (ConvF.ofH (U3 g st0 _)) (s:= [0,1,2,3,4]) ⟨⟨rfl,trivial⟩,⟨rfl,rfl,rfl,trivial,rfl,trivial⟩,rfl,rfl,rfl,rfl,rfl⟩,rfl,rfl⟩
theorem ACalls.pre {P:Program} {q:Bool} {f:FuncId} {args:List AV} {H H':List AB} {K:AV->List AB->Prop} (h:ConvH H H') (k:ACalls P q f args H' K):ACalls P q f args H K:=by
 refine⟨k.go,fun w0 M0 c us hs hr=>?_⟩
 obtain⟨c1,e1,s1,x1⟩:=h w0 M0 c hs
 have:=k.calls w0 M0 c1 us s1 (RdL.ext _ x1 hr)
 rw [e1] at this
 refine this.mono ?_
 rintro e w' ⟨v,c',r,H2,rfl,rfl,q1,q2,q3,q4,q5⟩
 exact⟨v,c',r,H2,rfl,rfl,q1,q2,x1.trans q3,q4,q5⟩
theorem N0 {es:List (List AV)} {i m:Nat} {e:List AV} (h:∀ x∈es,AV.ltL x 0=true) (he:AV.ltL e m=true):AV.ltL (es.set i e).flatten m=true:=by
 rw [CM]
 intro x hx
 obtain⟨y,hy,hx'⟩:=List.mem_flatten.1 hx
 rcases Ck hy with hy | rfl
 ·exact AV.lt_mono x (Ae _) (CM.1 (h y hy) x hx')
 ·exact CM.1 he x hx'
theorem L8 {es:List (List AV)} {i:Nat} {e:List AV} {f:Nat->Nat} (h:∀ x∈es,AV.ltL x 0=true) (he:AV.renL f e=e):(es.set i e).map (AV.renL f)=es.set i e:=by
 rw [List.map_set,he]
 congr 1
 conv=>rhs;rw [<-List.map_id es]
 refine BJ fun x hx=>?_
 exact AV.renL_id x (h x hx)
theorem Wa (l:List Tx):∀ x∈l.map Hq,AV.ltL x 0=true:=by
 intro x hx
 obtain⟨t,_,rfl⟩:=AF.1 hx
 rfl
def Wb (t:Tx) (k:Nat):List AV:= [.v (.int .i64 t.seq), .v (.int .i64 t.pos), .v (.int .i64 t.n), .ow k t.images.length]
theorem UZ {k n:Nat} {s:AV} (l:List Tx):(l.map Hq).map (List.map (AV.slIn k n s))=l.map Hq:=by
 rw [Da]
 exact BJ fun t _=>rfl
theorem SN (l:List Tx) (k:Nat) (t:Tx) (s:AV):((l.map Hq).set k (Wb t 1)).map (List.map (AV.slIn 1 (t.images.map Dc).length s))=(l.map Hq).set k [.v (.int .i64 t.seq), .v (.int .i64 t.pos), .v (.int .i64 t.n),s]:=by
 rw [List.map_set,UZ]
 congr 1
 simp [Wb,AV.slIn]
theorem Rz {l:List Tx} {k:Nat} {t:Tx} (hk:k<l.length) (ht:t=l.getD k ⟨0,0,0, []⟩):ConvH [.rowo 78 4 ((l.map Hq).set k (Wb t 1)) 2, .row 83 3 (t.images.map Dc)] [.row 78 4 (l.map Hq), .dead]:=by
 refine(ConvH.sealIn (H:= [.rowo 78 4 ((l.map Hq).set k (Wb t 1)) 2, .row 83 3 (t.images.map Dc)]) 0 1 rfl rfl (SN l k t _)).trans ?_
 refine(ConvH.row (k:=0) rfl (N0 (Wa l) rfl)).trans ?_
 refine ConvH.subRow (k:=0) (es':=l.map Hq) rfl (by simp) fun i=>?_
 refine G1 (f:=Hq) (d:=(⟨0,0,0, []⟩:Tx)) hk ?_ i
 rw [<-ht]
 exact⟨fun _ _ h=>h,fun _ _ h=>h,fun _ _ h=>h,AH (f:=Dc) t.images (Ab _) rfl,trivial⟩
theorem Vr (l:List Tx) (hl:l.length<=1000000) (hi:∀ t∈l,t.images.length<=1000000/\∀ x∈t.images,x.bytes.length<=1000000000):Fn Tryz.prog 117 [D8 l] fun r=>r=D8 l:=by
 have hc:=QN l (by omega)
 refine Fn.st Tryz.func117 rfl ?_
 conv=>whnf
 refine ACalls.beside hc rfl ?_
 rintro _ _ ⟨rfl,rfl⟩
 conv=>whnf
 refine aLoop.ruleRR Nat (fun k=>([(0, .ow 0 l.length),(9, .v (.int .i64 l.length)),(10, .v (.int .i64 k))], [.row 78 4 (l.map Hq)])) (fun k=>k<=l.length) (fun k=>l.length - k) 0 (Ae _)
  (WkN.r (s:= [0]) ⟨⟨rfl,rfl,rfl,trivial⟩,⟨rfl,trivial⟩,rfl,rfl,rfl,rfl,rfl⟩) ?_
 intro k hk
 conv=>whnf
 refine Al (fun h6=>?_) (fun h6=>?_) <;> (repeat rw [Aa] at h6) <;> conv=>whnf
 ·have hk':k<l.length:=by omega
  have hm:=hi _ (AC (d:=(⟨0,0,0, []⟩:Tx)) hk')
  have hE:(l.map Hq).getD (k:Int).toNat []=Hq (l.getD k ⟨0,0,0, []⟩):=by rw [Aa];exact AX hk'
  have ho:=RO (l.getD k ⟨0,0,0, []⟩).images (by omega)
  repeat' (first | (refine aSeq.go ?_;conv=>whnf) | fail)
  refine⟨⟨by omega,by omega⟩,?_⟩
  conv=>whnf
  refine And.intro ⟨rfl,(Ab _).symm,by rw [Aa];exact hk'⟩ ?_
  conv=>whnf
  rw [hE]
  conv=>whnf
  refine ACalls.pre (ConvH.rowo (k:=0) rfl) ?_
  refine ACalls.beside ho rfl ?_
  rintro _ _ ⟨rfl,rfl⟩
  refine⟨⟨by omega,by omega⟩,?_⟩
  conv=>whnf
  refine And.intro ⟨rfl,(Ab _).symm,by rw [Aa];exact hk'⟩ ?_
  conv=>whnf
  rw [hE]
  refine⟨⟨by omega,by omega⟩,?_⟩
  conv=>whnf
  refine And.intro ⟨rfl,by rw [A_,Ab],by rw [Aa];exact hk'⟩ ?_
  conv=>whnf
  rw [AM (by rw [Aa,Ab];exact hk')]
  conv=>whnf
  obtain⟨t,ht⟩:∃ t,t=l.getD k ⟨0,0,0, []⟩:=⟨_,rfl⟩
  rw [<-ht] at hm hE |-
  have hS:∀ x∈l.map Hq,AV.ltL x 0=true:=Wa l
  have hro:AV.ltL ((l.map Hq).set k (Wb t 1)).flatten 2=true:=N0 hS rfl
  refine aLoop.ruleRR Nat (fun j=>([(0, .ow 0 l.length),(3, .v (.int .i64 k)),(9, .v (.int .i64 l.length)),(10, .v (.int .i64 k)),(27, .ow 1 t.images.length),(28, .v (.int .i64 t.images.length)),(29, .v (.int .i64 j))], [.rowo 78 4 ((l.map Hq).set k (Wb t 1)) 2, .row 83 3 (t.images.map Dc)])) (fun j=>j<=t.images.length) (fun j=>t.images.length - j) 0 (Ae _)
   (WkN.r (s:= [0,1]) ⟨⟨rfl,rfl,rfl,rfl,rfl,rfl,rfl,trivial⟩,⟨⟨hro,_,by rw [L8 hS rfl];rfl⟩,rfl,trivial⟩,rfl,rfl,rfl,rfl,rfl⟩) ?_
  intro j hj
  conv=>whnf
  refine Al (fun h7=>?_) (fun h7=>?_) <;> (repeat rw [Aa] at h7) <;> conv=>whnf
  ·have hj':j<t.images.length:=by omega
   have hF:(t.images.map Dc).getD (j:Int).toNat []=Dc (t.images.getD j ⟨0,0, []⟩):=by rw [Aa];exact AX hj'
   have hG:((l.map Hq).set k (Wb t 1)).getD (k:Int).toNat []=Wb t 1:=by rw [Aa];exact AM (by rw [Ab];exact hk')
   have b1:=CB (t.images.getD j ⟨0,0, []⟩).bytes (hm.2 _ (AC hj'))
   refine⟨⟨by omega,by omega⟩,?_⟩
   conv=>whnf
   refine And.intro ⟨rfl,(Ab _).symm,by rw [Aa];exact hj'⟩ ?_
   conv=>whnf
   rw [hF]
   conv=>whnf
   apply aDraw.treeK (0) tys_ok mixed (.one 0 (.one 1 (.one 2 (.one 3 (.one 4 (.one 5 (.one 6 (.one 7 (.one 8 (.one 9 (.one 10 (.one 11 .fin)))))))))))) (by kernel_rfl)
   conv=>whnf
   try (refine And.intro (by first | omega | (simp;done)) ?_;conv=>whnf)
   try (first | (refine And.intro ⟨rfl,by rw [A_,Ab],by rw [Aa];exact hk'⟩ ?_;(conv=>whnf);rw [hG]) | skip;conv=>whnf)
   try (first | (refine And.intro ⟨rfl,by rw [A_,Ab],by rw [Aa];exact hk'⟩ ?_;(conv=>whnf);rw [hG]) | skip;conv=>whnf)
   refine Fn.cl b1 ?_
   conv=>whnf
   try (refine And.intro (by first | omega | (simp;done)) ?_;conv=>whnf)
   try (refine And.intro ⟨rfl,by first | rfl | (simp;done) | (simp;omega),by first | omega | (simp;omega)⟩ ?_;conv=>whnf)
   (first | rw [hF] | skip)
   conv=>whnf
   all_goals refine⟨j+1,hj',by omega,WkN.rc (ConvF.ofH (ConvH.subRow (k:=1) rfl (es':=t.images.map Dc) (by simp) ?_)) (s:= [0,1]) ⟨⟨rfl,rfl,rfl,rfl,rfl,rfl,A4 (by omega),trivial⟩,⟨⟨hro,_,by rw [L8 hS rfl];rfl⟩,rfl,trivial⟩,rfl,rfl,rfl,rfl,rfl⟩⟩
   all_goals
    intro i
    rw [Aa]
    refine G1 (f:=Dc) (d:=(⟨0,0, []⟩:Img)) hj' ?_ i
    exact⟨fun _ _ h=>h,fun _ _ h=>h,fun _ _ h=>h,trivial⟩
  ·exact⟨k+1,hk',by omega,WkN.rc (ConvF.ofH (Rz hk' ht)) (s:= [0]) ⟨⟨rfl,rfl,A4 (by omega),trivial⟩,⟨rfl,trivial⟩,rfl,rfl,rfl,rfl,rfl⟩⟩
 ·refine And.intro (Ab _).symm ?_
  exact⟨D8 l,AH (f:=Hq) l rfl rfl,rfl⟩
theorem OZ {g:Geo} {a:An} {x y:List Gt} (hg:AW g=true) (ha:AY g a=true):(CS g a x y).1.length<=30/\∀ t∈(CS g a x y).1,t.images.length<=30/\∀ i∈t.images,i.bytes.length<=59:=by
 obtain⟨h1,h2,h3,h4,h5⟩:=Ao.1 hg
 unfold CS
 cases hR:CT g a x y g.sl.toNat a.pos a.seq g.sl [] [] with
 | none=>exact⟨by simp [Lt],by simp [Lt]⟩
 | some R=>
  obtain⟨l',w',seq'⟩:=R
  have:=Ks hg _ _ _ _ _ _ (BV ha).2 (by simp) hR
  by_cases hl:seq' - 1<a.last
  ·rw [Ex hl];exact⟨by simp,by simp⟩
  ·rw [DF hl]
   refine⟨?_,this.2⟩
   have:=this.1
   simp only [AG] at this
   dsimp only
   omega
structure StSm (s:Stt):Prop where
 h:s.a.homes.length<=4/\∀ h∈s.a.homes,h.places.length<=1000000
 l:s.a.label.size<=24
 t:s.txns.length<=30/\∀ t∈s.txns,t.images.length<=30/\∀ i∈t.images,i.bytes.length<=59
 o:s.lost.length<=1000000
theorem st0_sm:StSm st0:=⟨⟨by simp [st0,an0],by simp [st0,an0]⟩,by show (0:Nat)<=24;omega,⟨by simp [st0],by simp [st0]⟩,by simp [st0]⟩
theorem UW {g:Geo} {a:An} {t:List Tx} (hg:AW g=true) (ha:AY g a=true) (ht:t.length<=30/\∀ x∈t,x.images.length<=30/\∀ i∈x.images,i.bytes.length<=59) (n:Nat):StSm (G0 (CF a n) t):=
 ⟨⟨(D4 hg ha 0 (Ae _)).2.1,fun h hh=>OK hg ha h hh⟩,(D4 hg ha 0 (Ae _)).2.2.2.1,ht,by simp [G0]⟩
theorem Jg {g:Geo} {d:Dk} (hg:AW g=true):StSm (BD g d).2.2:=by
 unfold BD
 split
 ·have hpo:=fun {a j}=>Gd (g:=g) (l:=AD d (B8 g)) hg (AD d (B8 g)).length (a:=a) (j:=j)
  have hpo:∀ {a j},Ef g (AD d (B8 g))=some (a,j)->AY g a=true:=hpo
  cases hP:Ef g (AD d (B8 g)) with
  | none=>exact st0_sm
  | some q=>
   obtain⟨a,j⟩:=q
   have ha:=hpo hP
   simp only
   unfold Gh
   split
   ·have hi:=OZ (x:=AD (d.adv g.an.toNat) (AI g 0)) (y:=AD (d.adv g.an.toNat) (AI g 1)) hg ha
    generalize CS g a (AD (d.adv g.an.toNat) (AI g 0)) (AD (d.adv g.an.toNat) (AI g 1))=S at hi |-
    unfold HR
    split
    ·exact st0_sm
    ·split
     ·exact st0_sm
     ·unfold HP
      split
      ·exact st0_sm
      ·simp only
       split
       ·exact st0_sm
       ·split
        ·exact st0_sm
        ·exact UW hg ha hi _
   ·exact st0_sm
 ·exact st0_sm
theorem U4 (s:Stt) (h:StSm s):Fn Tryz.prog 51 [.ag (FX s)] fun r=>r = .ag (FX s):=by
 have c1:=OJ s.a (by have:=h.h.1;omega) h.h.2
 have c2:=Vr s.txns (by have:=h.t.1;omega) (fun t ht=>⟨by have:=(h.t.2 t ht).1;omega,fun x hx=>by have:=(h.t.2 t ht).2 x hx;omega⟩)
 have c3:=Ow s.lost (by have:=h.o;omega)
 refine Fn.st Tryz.func51 rfl ?_
 conv=>whnf
 apply aDraw.treeK (0) tys_ok mixed (.one 0 (.one 1 (.one 3 (.one 4 (.one 6 (.one 7 (.one 8 (.one 2 (.one 10 (.one 5 (.one 9 (.one 11 (.one 12 (.one 13 (.one 14 (.one 15 (.one 16 .fin))))))))))))))))) (by kernel_rfl)
 conv=>whnf
 refine Fn.cl c1 ?_
 conv=>whnf
 refine Fn.cl c2 ?_
 conv=>whnf
 (refine ACalls.beside c3 rfl ?_;rintro _ _ ⟨rfl,rfl⟩)
 conv=>whnf
 try (refine And.intro ⟨rfl,by first | rfl | (simp;done) | (simp;omega),by first | omega | (simp;omega)⟩ ?_;conv=>whnf)
 try (refine And.intro ⟨rfl,by first | rfl | (simp;done) | (simp;omega),by first | omega | (simp;omega)⟩ ?_;conv=>whnf)
 try (refine And.intro ⟨rfl,by first | rfl | (simp;done) | (simp;omega),by first | omega | (simp;omega)⟩ ?_;conv=>whnf)
 refine And.intro (Ab _).symm ?_
 exact⟨.ag (FX s),AJ ⟨ri,ri,ri,ri,ri,ri,ri,ri,ri,ri,ri,ri,ri,I8 rfl rfl,trivial⟩,rfl⟩
@[reducible] def bwD (g:Geo) (s:Stt) (d:Dk):List AB:= [.box 116 (Xb g (.bp 1 0) s), .box 164 (JN (.ow 2 d.cells.length) (.ow 4 d.cache.length) d.reqs d.left), .dead, .dead, .dead]
theorem U5 (g:Geo) (s:Stt) (d:Dk) (h:DkOk d):ACalls Tryz.prog false 50 [.bp 0 0] (bwG g s d) fun r H=>r = .ag (F8 d)/\H=bwD g s d:=by
 have ht:=Ur d (by have:=h.n;omega) (by have:=h.m;omega) (fun c hc=>by have:=(h.c c hc).2;omega) (fun w hw=>by have:=(h.w w hw).2;omega)
 refine ACalls.ofR tys_ok Tryz.func50 rfl rfl (Ad rfl) ?_
 conv=>whnf
 refine ACalls.shut ht.go ?_
 refine And.intro (Ab _).symm ?_
 refine And.intro (Ab _).symm ?_
 conv=>whnf
 refine ACalls.sub [.ag (F8 d)] ⟨AJ ⟨AH (f:=AU) d.cells rfl rfl,AH (f:=Dy) d.cache rfl rfl,ri,ri,trivial⟩,trivial⟩ ?_
 refine Fn.cl ht ?_
 exact⟨_, .ag (F8 d),bwD g s d,fun _ _ h=>h,WkN.r (s:= [0,1,2,3,4]) ⟨⟨rfl,trivial⟩,⟨rfl,rfl,trivial,trivial,trivial,trivial⟩,rfl,rfl,rfl,rfl,rfl⟩,rfl,rfl⟩
theorem Nz (g:Geo) (d:Dk) (hg:AW g=true) (h1:d.cells.length<=1000000) (h2:d.cache.length<=1000000):Fn Tryz.prog 47 [.ag (A9 g), .ag (F8 d)] fun r=>r = .v (.bool (Ls d&&decide ((d.cells.length:Int)=Az g))):=by
 have c1:=LZ g hg
 have c2:=Sl d h1 h2
 refine Fn.st Tryz.func47 rfl ?_
 conv=>whnf
 refine Fn.cl c1 ?_
 conv=>whnf
 refine Fn.cl c2 ?_
 conv=>whnf
 cases hk:Ls d with
 | false=>
  exact⟨_,ri,rfl⟩
 | true=>
  exact⟨_,ri,rfl⟩
def ze (n:Int):AV:= .v (.int .i64 n)
def nilV:AV:= .v (.slice none 0 0)
theorem st0_sub:SubL [ze 0,ze 0,ze 0,ze 0,ze 0, .v (.string ⟨#[]⟩),nilV,nilV, .v (.bool false),ze 0,ze 0,ze 0,ze 0,nilV] (FX st0):=
 ⟨fun _ _ h=>h,fun _ _ h=>h,fun _ _ h=>h,fun _ _ h=>h,fun _ _ h=>h,fun _ _ h=>h,AP 3 _,AP 4 _,fun _ _ h=>h,fun _ _ h=>h,fun _ _ h=>h,fun _ _ h=>h,fun _ _ h=>h,AP 1 _,trivial⟩
theorem K8 {g:Geo} {d:Dk} (h:(BD g d).2.1≠0):(BD g d).2.2=st0:=by
 unfold BD at h |-
 split
 ·rename_i hl
  rw [if_pos hl] at h
  split
  ·rfl
  ·rename_i a j hp
   rw [hp] at h
   simp only at h
   unfold Gh at h |-
   split
   ·rename_i hl2
    rw [if_pos hl2] at h
    unfold HR at h |-
    split
    ·rfl
    ·rename_i h3
     rw [if_neg h3] at h
     split
     ·rfl
     ·rename_i h4
      rw [if_neg h4] at h
      unfold HP at h |-
      split
      ·rfl
      ·rename_i h5
       rw [if_neg h5] at h
       simp only at h |-
       split
       ·rfl
       ·rename_i h6
        rw [if_neg h6] at h
        split
        ·rfl
        ·rename_i h7
         rw [if_neg h7] at h
         exact absurd rfl h
   ·rfl
 ·rfl
theorem Jh {g:Geo} {d:Dk} (hg:AW g=true) (h:DkOk d) (hn:(d.cells.length:Int)=Az g):DkOk (BD g d).1/\(BD g d).1.cells.length=d.cells.length:=by
 have ha:=h.adv g.an.toNat
 have hs:=(D5 g.an.toNat d).1
 have hpo:=fun {a j}=>Gd (g:=g) (l:=AD d (B8 g)) hg (AD d (B8 g)).length (a:=a) (j:=j)
 have hpo:∀ {a j},Ef g (AD d (B8 g))=some (a,j)->AY g a=true:=hpo
 unfold BD
 split
 ·cases hP:Ef g (AD d (B8 g)) with
  | none=>exact⟨ha,by rw [hs]⟩
  | some q=>
   obtain⟨a,j⟩:=q
   have hao:=hpo hP
   simp only
   obtain⟨g1,g2,g3,g4,g5⟩:=Ao.1 hg
   generalize d.adv g.an.toNat=d1 at ha hs |-
   have ha2:=ha.adv (2*g.sl.toNat)
   have hs2:=(D5 (2*g.sl.toNat) d1).1
   have hx1:(AD d1 (AI g 0)).length=g.sl.toNat:=by rw [BT,Cc]
   have hx2:(AD d1 (AI g 1)).length=g.sl.toNat:=by rw [BT,Cc]
   have hlast:=Hy (x:=AD d1 (AI g 0)) (y:=AD d1 (AI g 1)) hg hao
   have hin:=Ir (x:=AD d1 (AI g 0)) (y:=AD d1 (AI g 1)) (n:=d.cells.length) hg hao (by omega) (by omega) hn
   unfold Gh
   split
   ·generalize CS g a (AD d1 (AI g 0)) (AD d1 (AI g 1))=S at hlast hin |-
    generalize d1.adv (2*g.sl.toNat)=d2 at ha2 hs2 |-
    have hn2:d2.cells.length=d.cells.length:=by rw [hs2,hs]
    unfold HR
    split
    ·exact⟨ha2,hn2⟩
    ·rename_i he
     have he:S.2.2=0:=by simpa using he
     have hin:=hin he
     have hdm:DkOk (d2.mend S.2.1).1/\(d2.mend S.2.1).1.cells.length=d.cells.length:=by
      unfold Dk.mend
      split
      ·exact⟨ha2,hn2⟩
      ·have:=Hf ha2 (l:=S.2.1) (by rw [hn2];exact hin.1)
       exact⟨this.1,this.2.trans hn2⟩
     generalize (d2.mend S.2.1)=M at hdm |-
     split
     ·exact hdm
     ·unfold HP
      split
      ·exact hdm
      ·rename_i hmx
       have hna:=Iz (n:=S.1.length) hao (fun e=>hmx (.inl e)) (fun e=>hmx (.inr e)) (hlast he).2
       have hpa:=Hf hdm.1 (l:=Ay g (CF a S.1.length)) (If hg hna (by rw [hdm.2];exact hn))
       rw [hdm.2] at hpa
       simp only
       split
       ·exact hpa
       ·split <;> exact hpa
   ·exact⟨ha2,by rw [hs2,hs]⟩
 ·exact⟨ha,by rw [hs]⟩
theorem XN {m:Nat} (h:Nat.ble 8 m=true):∀ z∈ [7,4,5,6],z<m:=fun z hz=>by
 have:=Ad h
 simp at hz
 omega
theorem XK {m:Nat} (h:Nat.ble 9 m=true):∀ z∈ [7,4,5,6,8],z<m:=fun z hz=>by
 have:=Ad h
 simp at hz
 omega
theorem LP (g:Geo) (d:Dk) (hg:AW g=true) (h:DkOk d) (hn:(d.cells.length:Int)=Az g):Fn Tryz.prog 13 [.ag (A9 g), .ag (F8 d)] fun r=>r = .tp [.ag (FX (BD g d).2.2), .ag (F8 (BD g d).1), .v (.int .i64 (BD g d).2.1)]:=by
 have hG:Fn Tryz.prog 46 [.ag (A9 g)] fun r=>r = .v (Ea (AW g)):=Ct g.z g.d g.sp g.sl g.an
 rw [hg] at hG
 have hN:=h.n
 have hM:=h.m
 have hs:=Nz g d hg (by omega) (by omega)
 rw [Oa.2 h,decide_eq_true hn,Be] at hs
 have ho:=VM d (by omega) (by omega)
 have hm:=Sq g d hg h hn
 have hsm:=Jg (g:=g) (d:=d) hg
 refine Fn.st Tryz.func13 rfl ?_
 conv=>whnf
 refine Fn.cl hG ?_
 conv=>whnf
 refine Fn.cl hs ?_
 conv=>whnf
 apply aDraw.treeK (0) tys_ok mixed (.one 0 (.one 1 (.one 2 (.one 3 (.one 4 (.one 5 .fin)))))) (by kernel_rfl)
 conv=>whnf
 (refine ACalls.beside ho rfl ?_;rintro _ _ ⟨rfl,rfl⟩)
 conv=>whnf
 have hmo:=Jh hg h hn
 refine ACalls.pre (ConvH.subBox (cs':=Xb g (.bp 4 0) st0) 7 rfl ⟨ri,ri,ri,ri,ri,ri,ri,ri,ri,ri,ri,ri,AP 3 _,AP 4 _,ri,ri,ri,ri,ri,AP 1 _,trivial⟩) ?_
 refine ACalls.frame [7,4,5,6] hm rfl rfl rfl rfl (by decide) (XN rfl) ⟨rfl,rfl,rfl,rfl,trivial⟩ ?_
 rintro _ _ ⟨rfl,rfl⟩
 have herr:=K8 (g:=g) (d:=d)
 generalize BD g d=M at hmo herr hsm |-
 obtain⟨D,e,S⟩:=M
 simp only at hmo herr hsm
 have hdk:=U5 g S D hmo.1
 have htw:=U4 S hsm
 conv=>whnf
 by_cases he:e=0
 ·subst he
  conv=>whnf
  refine Fn.cl htw ?_
  conv=>whnf
  refine ACalls.frame [7,4,5,6,8] hdk rfl rfl rfl rfl (by decide) (XK rfl) ⟨rfl,rfl,rfl,rfl,rfl,trivial⟩ ?_
  rintro _ _ ⟨rfl,rfl⟩
  exact⟨_,ri,rfl⟩
 ·have hb:(e != 0)=true:=bne_iff_ne.2 he
  rw [hb]
  have:=herr he
  subst this
  conv=>whnf
  refine ACalls.frame [7,4,5,6,8] hdk rfl rfl rfl rfl (by decide) (XK rfl) ⟨rfl,rfl,rfl,rfl,rfl,trivial⟩ ?_
  rintro _ _ ⟨rfl,rfl⟩
  exact⟨.tp [.ag (FX st0), .ag (F8 D), .v (.int .i64 e)],B3 ⟨AJ st0_sub,ri,ri,trivial⟩,rfl⟩
theorem TC {d:Dk} (hd:DkOk d) (hl:d.left<0) (k:Nat):Lv d k:=⟨hd.r, .inl hl⟩
theorem Nu (k:Nat) (d:Dk) (l:List Int):AD (d.tick k) l=AD d l:=rfl
theorem finL_two:∀ (l:List Wr) (cs:List Cel) (a:Nat),((DR cs l).getD a cz).state=2↔(cs.getD a cz).state=2:=fun l cs a=>by
 by_cases ha:a<cs.length
 ·by_cases h:(cs.getD a cz).state=2
  ·rw [finL_stuck l cs a ha h]
  ·rcases finL_any l cs a ha with e | ⟨_,e,_⟩
   ·rw [e]
   ·rw [e];exact⟨fun q=>absurd q (by decide),fun q=>absurd q h⟩
 ·rw [List.getD_eq_getElem?_getD,List.getD_eq_getElem?_getD,List.getElem?_eq_none (by rw [finL_len];omega),List.getElem?_eq_none (by omega)]
theorem Ue (l:List Wr) (cs:List Cel):free (DR cs l)=free cs:=by
 funext w
 unfold free
 rw [Cj,decide_eq_true_eq,decide_eq_true_eq]
 exact not_congr (finL_two l cs _)
def K7 (g:Geo) (w:List Wr):Nat:=g.an.toNat+2*g.sl.toNat+(if w=[] then 0 else w.length+1)+(g.an.toNat+1)
theorem Od {g:Geo} {d:Dk} {a:An} {j:Nat} {L:List Tx} {w:List Wr} (hg:AW g=true) (hd:DkOk d) (hn:(d.cells.length:Int)=Az g) (hc:d.cache=[]) (hl:d.left<0) (hp:Ef g (AD d (B8 g))=some (a,j)) (hs:CS g a (AD d (AI g 0)) (AD d (AI g 1))=(L,w,0)) (h1:a.gen≠4294967295) (h2:a.epoch≠4294967295) :
  BD g d=(⟨DR (DR d.cells w) (Ay g (CF a L.length)), [],(d.tick (K7 g w)).reqs,d.left⟩,if ((Ay g (CF a L.length)).filter (free d.cells)).length=0 then 14 else 0,if ((Ay g (CF a L.length)).filter (free d.cells)).length=0 then st0 else G0 (CF a L.length) L):=by
 obtain⟨g1,g2,g3,g4,g5⟩:=Ao.1 hg
 have hao:=Gd hg _ hp
 have hin:=Ir (x:=AD d (AI g 0)) (y:=AD d (AI g 1)) (n:=d.cells.length) hg hao (by rw [BT,Cc];omega) (by rw [BT,Cc];omega) hn
 rw [hs] at hin
 obtain⟨hw1,hw2⟩:=hin rfl
 simp only at hw1 hw2
 have hlv:∀ k,d.live k:=fun k=> .inl hl
 have htl:∀ k,(d.tick k).left=d.left:=fun k=>if_pos hl
 have hr:=hd.r
 unfold BD
 rw [if_pos (hlv _),hp]
 simp only
 unfold Gh
 rw [Lk _ (TC hd hl _),if_pos (show (d.tick g.an.toNat).live _ from .inl (by rw [htl];exact hl)),Nu,Nu,hs]
 rw [Lk _ (show Lv (d.tick g.an.toNat) (2*g.sl.toNat) from In (TC hd hl _)),FI _ _ hr.2 (.inl hl)]
 unfold HR
 simp only [ne_eq,not_true,if_false]
 have hm:(d.tick (g.an.toNat+2*g.sl.toNat)).mend w=(⟨DR d.cells w, [],(d.tick (g.an.toNat+2*g.sl.toNat+(if w=[] then 0 else w.length+1))).reqs,d.left⟩,false):=by
  unfold Dk.mend
  by_cases hw:w=[]
  ·subst hw
   rw [if_pos rfl,if_pos rfl,BE]
   simp only [Prod.mk.injEq,and_true]
   show (d.tick _:Dk)=_
   unfold Dk.tick
   rw [hc,if_pos hl]
   rfl
  ·rw [if_neg hw,if_neg hw,Ix (In (TC hd hl _)) hc (by omega),FI _ _ hr.2 (.inl hl)]
   simp only [htl]
   rfl
 rw [hm]
 simp only [BB,if_false]
 unfold HP
 rw [if_neg (by rintro(h | h);exact h1 h;exact h2 h)]
 obtain⟨K,hK⟩:∃ K,K=g.an.toNat+2*g.sl.toNat+(if w=[] then 0 else w.length+1):=⟨_,rfl⟩
 rw [<-hK]
 have hrk:0<=(d.tick K).reqs/\(d.tick K).reqs<=1048576:=by show 0<=min _ _/\min _ _<=_;omega
 have hlen:=Dr g (CF a L.length)
 rw [Ix (d:=⟨DR d.cells w, [],(d.tick K).reqs,d.left⟩) ⟨hrk, .inl hl⟩ rfl (by omega)]
 simp only [BB,if_false,Ue,hlen]
 have e1:((⟨DR d.cells w, [],(d.tick K).reqs,d.left⟩:Dk).tick (g.an.toNat+1)).left=d.left:=if_pos hl
 have e2:((⟨DR d.cells w, [],(d.tick K).reqs,d.left⟩:Dk).tick (g.an.toNat+1)).reqs=(d.tick (K7 g w)).reqs:=by
  show min ((d.tick K).reqs+((g.an.toNat+1:Nat):Int)) _=min _ _
  show min (min (d.reqs+(K:Nat)) 1048576+((g.an.toNat+1:Nat):Int)) 1048576=min (d.reqs+(K7 g w:Nat)) 1048576
  unfold K7
  rw [<-hK]
  omega
 rw [e1,e2]
 split <;> rfl
theorem K2 (g:Geo) (l:List Gt):∀ k,(Dp g l k=none->∀ i,i<k->Cy g (l.getD i ⟨0, []⟩) (i:Nat)=none)/\∀ a j,Dp g l k=some (a,j)->j<k/\Cy g (l.getD j ⟨0, []⟩) (j:Nat)=some a/\∀ i b,i<k->Cy g (l.getD i ⟨0, []⟩) (i:Nat)=some b->b.gen<=a.gen
 | 0=>⟨fun _ i hi=>by omega,fun a j h=>by cases h⟩
 | k+1=>by
  obtain⟨ih1,ih2⟩:=K2 g l k
  rw [Ge,LK]
  cases hS:Cy g (l.getD k ⟨0, []⟩) (k:Nat) with
  | none=>
   refine⟨fun h i hi=>?_,fun a j h=>?_⟩
   ·by_cases e:i=k
    ·rw [e];exact hS
    ·exact ih1 h i (by omega)
   ·obtain⟨q1,q2,q3⟩:=ih2 a j h
    refine⟨by omega,q2,fun i b hi hb=>?_⟩
    by_cases e:i=k
    ·rw [e,hS] at hb;cases hb
    ·exact q3 i b (by omega) hb
  | some c=>
   cases hP:Dp g l k with
   | none=>
    refine⟨fun h=>(by cases h),fun a j h=>?_⟩
    cases h
    refine⟨by omega,hS,fun i b hi hb=>?_⟩
    by_cases e:i=k
    ·rw [e,hS] at hb;cases hb;exact Bo _
    ·rw [ih1 hP i (by omega)] at hb;cases hb
   | some q=>
    obtain⟨a0,j0⟩:=q
    obtain⟨q1,q2,q3⟩:=ih2 a0 j0 hP
    simp only
    by_cases hlt:a0.gen<c.gen
    ·rw [if_pos hlt]
     refine⟨fun h=>(by cases h),fun a j h=>?_⟩
     cases h
     refine⟨by omega,hS,fun i b hi hb=>?_⟩
     by_cases e:i=k
     ·rw [e,hS] at hb;cases hb;exact Bo _
     ·have:=q3 i b (by omega) hb;omega
    ·rw [if_neg hlt]
     refine⟨fun h=>(by cases h),fun a j h=>?_⟩
     cases h
     refine⟨by omega,q2,fun i b hi hb=>?_⟩
     by_cases e:i=k
     ·rw [e,hS] at hb;cases hb;omega
     ·exact q3 i b (by omega) hb
theorem PS {g:Geo} {d:Dk} {i:Nat} (hi:i<g.an.toNat):(AD d (B8 g)).getD i ⟨0, []⟩=MV d (i:Nat):=by
 rw [AD,AX (d:=0) (by rw [CC];exact hi),Jz hi]
theorem Pd {g:Geo} {a:An} {i:Nat} (hg:AW g=true) (ha:AY g a=true) (hi:(i:Int)<=65535):Cy g ⟨0,Cs a i⟩ i=some a:=by
 obtain⟨e1,e2,e3,e4⟩:=LA (Jw hg ha (i:=(i:Nat)) ⟨by omega,hi⟩)
 unfold Cy
 rw [if_pos ⟨rfl,e1,e2⟩]
 show (match Cp g (BP (Cs a i)) with | some a_1=>if a_1.gen=Cm (Cs a i) then some a_1 else none | none=>none)=_
 rw [show BP (Cs a i)=Ii a from e4,Rw hg ha,show Cm (Cs a i)=a.gen from e3]
 simp
theorem OY {g:Geo} {a b:An} {fill:UInt8} {sizes:List Int} {ep:Int} {bad0 bad1:Int->Bool} (hg:AW g=true) (ha:AY g a=true) (hsq:a.seq<=1000000) (hl:sizes.length<=40) (hbs:b.seq=a.seq) (hbp:b.pos=a.pos) (hb:∀ s,(bad0 s&&bad1 s)=false) (he:∀ j:Nat,j<(A3 g a fill sizes 0 a.pos 0).length->ep=b.epoch\/a.seq+j<=b.last/\ep<=b.epoch) :
  J9 g b (Gr g (A3 g a fill sizes 0 a.pos 0) ep bad0) (Gr g (A3 g a fill sizes 0 a.pos 0) ep bad1)=Lt b (some (A3 g a fill sizes 0 a.pos 0,(A3 g a fill sizes 0 a.pos 0).flatMap (Mn g ep (fun s=>!bad0 s) fun s=>!bad1 s),a.seq+(A3 g a fill sizes 0 a.pos 0).length)):=by
 obtain⟨h1,h2,h3,h4,h5⟩:=Ao.1 hg
 have hq:=BV ha
 have hU0:=JU (F7 (fill:=fill) (sizes:=sizes) hg ha)
 obtain⟨f,e1,e2,e3⟩:=Wx (g:=g) (a:=a) (b:=b) (fill:=fill) (sizes:=sizes) (ep:=ep) (p:=Gr g (A3 g a fill sizes 0 a.pos 0) ep bad0) (q:=Gr g (A3 g a fill sizes 0 a.pos 0) ep bad1) (b0:=fun s=>!bad0 s) (b1:=fun s=>!bad1 s) hg ha hsq hl hbs hbp (fun t ht=>by
  obtain⟨j,j1,rfl⟩:=MN ht
  exact WW hg ha j1 (Nat.le_refl _) (he j j1) fun k _=>hb _)
 rw [e3,O_]
 intro hleft
 have hP:=UY (x:=a.pos+usedM (A3 g a fill sizes 0 a.pos 0)) hg (by omega)
 have q1:=A6 g.sl (show 0<=a.pos+usedM (A3 g a fill sizes 0 a.pos 0) by omega)
 have q2:=Au (a.pos+usedM (A3 g a fill sizes 0 a.pos 0)) (show 0<g.sl by omega)
 have hz:∀ c:Int->Bool,Gr g (A3 g a fill sizes 0 a.pos 0) ep c ((a.pos+usedM (A3 g a fill sizes 0 a.pos 0)).tmod g.sl)=if c ((a.pos+usedM (A3 g a fill sizes 0 a.pos 0)).tmod g.sl) then none else some zeroC:=fun c=>by
  rw [N7 ⟨q1,q2⟩,Rt hg ha (Bo _) (by omega)]
 have hb':=hb ((a.pos+usedM (A3 g a fill sizes 0 a.pos 0)).tmod g.sl)
 refine QL (fun of_ left=>?_) (fun of_ left=>?_) ?_
 ·rw [hP,hz];split;exact N_ _ _ _ _ _;exact NY _ _ _ _ _
 ·rw [hP,hz];split;exact N_ _ _ _ _ _;exact NY _ _ _ _ _
 ·rw [hP,hz,hz]
  cases h0:bad0 ((a.pos+usedM (A3 g a fill sizes 0 a.pos 0)).tmod g.sl) <;> cases h1:bad1 ((a.pos+usedM (A3 g a fill sizes 0 a.pos 0)).tmod g.sl) <;> simp_all
section
variable {g:Geo} {a:An} {fill:UInt8} {sizes:List Int}
def HJ (g:Geo) (a:An) (u:Nat):Nat:=((a.pos+(u:Nat)).tmod g.sl).toNat
theorem Hx (hg:AW g=true) (ha:AY g a=true):∀ j,j<=(A3 g a fill sizes 0 a.pos 0).length->((A3 g a fill sizes 0 a.pos 0).take j).flatMap (fun t=>(List.range (t.images.length+1)).map fun k=>(AO g t.pos (k:Nat)).toNat)=(List.range (usedM ((A3 g a fill sizes 0 a.pos 0).take j)).toNat).map (HJ g a)
 | 0,_=>by simp [usedM]
 | j+1,hj=>by
  have ih:=Hx hg ha j (by omega)
  have hj':j<(A3 g a fill sizes 0 a.pos 0).length:=by omega
  have hgt:=MO (fill:=fill) (sizes:=sizes) hg ha hj'
  have hU:=JH (fill:=fill) (sizes:=sizes) hg ha j
  have hu:=used_take _ j hj'
  have eg:(A3 g a fill sizes 0 a.pos 0)[j]=(A3 g a fill sizes 0 a.pos 0).getD j tz:=by rw [List.getD_eq_getElem?_getD,List.getElem?_eq_getElem hj'];rfl
  rw [hu,Ar hj',List.flatMap_append,ih,eg]
  simp only [BK,List.flatMap_nil,List.append_nil]
  rw [show (usedM ((A3 g a fill sizes 0 a.pos 0).take j)+((A3 g a fill sizes 0 a.pos 0).getD j tz).n).toNat=(usedM ((A3 g a fill sizes 0 a.pos 0).take j)).toNat+(((A3 g a fill sizes 0 a.pos 0).getD j tz).images.length+1) by omega]
  have hr:∀ A B:Nat,List.range (A+B)=List.range A ++ (List.range B).map fun x=>A+x:=fun A B=>List.range_add
  rw [hr (usedM ((A3 g a fill sizes 0 a.pos 0).take j)).toNat,Am,Da]
  congr 1
  apply BJ
  intro k hk
  have hk:=AA.1 hk
  rw [TG hg ha hj' hk]
  unfold HJ
  simp only [Function.comp]
  congr 2
  omega
theorem Xy (hg:AW g=true) (ha:AY g a=true) (u:Nat):HJ g a u<g.sl.toNat:=by
 obtain⟨h1,h2,h3,h4,h5⟩:=Ao.1 hg
 have hq:=BV ha
 have q1:=A6 g.sl (show 0<=a.pos+(u:Nat) by omega)
 have q2:=Au (a.pos+(u:Nat)) (show 0<g.sl by omega)
 unfold HJ
 omega
theorem R3 (hg:AW g=true) (ha:AY g a=true) {s:Nat} (hs:(s:Int)<g.sl):∃ u:Nat,(u:Int)<g.sl/\HJ g a u=s:=by
 obtain⟨h1,h2,h3,h4,h5⟩:=Ao.1 hg
 have hq:=BV ha
 by_cases h:a.pos<=(s:Nat)
 ·refine⟨((s:Int) - a.pos).toNat,by omega,?_⟩
  unfold HJ
  rw [show a.pos+((((s:Int) - a.pos).toNat:Nat):Int)=(s:Nat) by omega,DK (by omega) hs]
  omega
 ·refine⟨((s:Int) - a.pos+g.sl).toNat,by omega,?_⟩
  unfold HJ
  rw [show a.pos+((((s:Int) - a.pos+g.sl).toNat:Nat):Int)=(s:Nat)+g.sl by omega,GX (by omega) (by omega) (by omega)]
  omega
theorem S6 (hg:AW g=true) (ha:AY g a=true) {u:Nat} (hu:(u:Int)<g.sl):(Hu g ((HJ g a u:Nat):Int) (A3 g a fill sizes 0 a.pos 0) 0).isSome=decide ((u:Int)<usedM (A3 g a fill sizes 0 a.pos 0)):=by
 have hq:=BV ha
 have q1:=A6 g.sl (show 0<=a.pos+(u:Nat) by omega)
 have e:((HJ g a u:Nat):Int)=(a.pos+(u:Nat)).tmod g.sl:=by unfold HJ;omega
 by_cases h:(u:Int)<usedM (A3 g a fill sizes 0 a.pos 0)
 ·rw [decide_eq_true h]
  have hs:=Hx (fill:=fill) (sizes:=sizes) hg ha (A3 g a fill sizes 0 a.pos 0).length (Nat.le_refl _)
  rw [List.take_length] at hs
  have hm:HJ g a u∈(List.range (usedM (A3 g a fill sizes 0 a.pos 0)).toNat).map (HJ g a):=AF.2 ⟨u,AA.2 (by omega),rfl⟩
  rw [<-hs] at hm
  obtain⟨t,ht,hm⟩:=List.mem_flatMap.1 hm
  obtain⟨k,hk,hm⟩:=AF.1 hm
  have hk:=AA.1 hk
  obtain⟨j,hj,rfl⟩:=MN ht
  obtain⟨r1, -⟩:=GZ (ep:=0) hg ha hj hk
  rw [<-hm,By r1.1]
  exact S5 hg ha hj hk
 ·rw [decide_eq_false h,e,S7 hg ha (by omega) hu]
  rfl
end
def TK (g:Geo) (t:Tx) (k:Nat):List Wr:=(List.range 2).map fun c=>⟨AK g (c:Nat) (AO g t.pos k),Cu g ((Bt t.seq 0 t.images).getD k rc0) (c:Nat) (AO g t.pos k)⟩
def We (g:Geo) (t:Tx):Nat->List Wr
 | 0=> []
 | k+1=>We g t k ++ TK g t k
def TL (g:Geo) (L:List Tx):Nat->List Wr
 | 0=> []
 | i+1=>TL g L i ++ We g (L.getD i tz) ((L.getD i tz).images.length+1)
def Jk (g:Geo) (s:ByteArray) (L:List Tx):Dk:={ FG g s with cells:=BL (FG g s).cells (TL g L L.length) }
theorem Q5 {g:Geo} {t:Tx} {w:Wr}:∀ {n:Nat},w∈We g t n↔∃ k c:Nat,k<n/\c<2/\w=⟨AK g c (AO g t.pos k),Cu g ((Bt t.seq 0 t.images).getD k rc0) c (AO g t.pos k)⟩
 | 0=>by simp [We]
 | n+1=>by
  rw [We,Aw,Q5 (n:=n)]
  simp only [TK,AF,AA]
  constructor
  ·rintro(⟨k,c,h1,h2,h3⟩ | ⟨c,h1,h2⟩)
   ·exact⟨k,c,by omega,h2,h3⟩
   ·exact⟨n,c,by omega,h1,h2.symm⟩
  ·rintro⟨k,c,h1,h2,h3⟩
   by_cases e:k=n
   ·subst e;exact .inr ⟨c,h2,h3.symm⟩
   ·exact .inl ⟨k,c,by omega,h2,h3⟩
theorem MS {g:Geo} {L:List Tx} {w:Wr}:∀ {n:Nat},w∈TL g L n↔∃ j k c:Nat,j<n/\k<(L.getD j tz).images.length+1/\c<2/\w=⟨AK g c (AO g (L.getD j tz).pos k),Cu g ((Bt (L.getD j tz).seq 0 (L.getD j tz).images).getD k rc0) c (AO g (L.getD j tz).pos k)⟩
 | 0=>by simp [TL]
 | n+1=>by
  rw [TL,Aw,MS (n:=n),Q5]
  constructor
  ·rintro(⟨j,k,c,h1,h2⟩ | ⟨k,c,h1⟩)
   ·exact⟨j,k,c,by omega,h2⟩
   ·exact⟨n,k,c,by omega,h1⟩
  ·rintro⟨j,k,c,h1,h2⟩
   by_cases e:j=n
   ·subst e;exact .inr ⟨k,c,h2⟩
   ·exact .inl ⟨j,k,c,by omega,h2⟩
theorem RA {g:Geo} {c c' s s':Int} (hc:c=0\/c=1) (hc':c'=0\/c'=1) (hs:0<=s/\s<g.sl) (hs':0<=s'/\s'<g.sl) (h:AK g c s=AK g c' s'):c=c'/\s=s':=by
 unfold AK at h
 rcases hc with rfl | rfl <;> rcases hc' with rfl | rfl <;> omega
theorem GJ {g:Geo} {c s:Int} (hc:c=0\/c=1) (hs:0<=s/\s<g.sl):g.an<=AK g c s/\AK g c s<g.an+2*g.sl:=by
 unfold AK
 rcases hc with rfl | rfl <;> omega
def Ok (g:Geo) (s:ByteArray) (L:List Tx) (ep a:Int):List UInt8:=
 if g.an<=a/\a<g.an+g.sl then Cu g (Gc g L ep (a - g.an)) 0 (a - g.an) else if g.an<=a/\a<g.an+2*g.sl then Cu g (Gc g L ep (a - g.an - g.sl)) 1 (a - g.an - g.sl) else IG g s a
theorem MR {g:Geo} {s:ByteArray} {L:List Tx} {ep c i:Int} (hc:c=0\/c=1) (hi:0<=i/\i<g.sl):Ok g s L ep (AK g c i)=Cu g (Gc g L ep i) c i:=by
 unfold Ok AK
 rcases hc with rfl | rfl
 ·rw [if_pos (by omega),show g.an+0*g.sl+i - g.an=i by omega]
 ·rw [if_neg (by omega),if_pos (by omega),show g.an+1*g.sl+i - g.an - g.sl=i by omega]
theorem KF {g:Geo} {s:ByteArray} {L:List Tx} {ep a:Int} (h:a<g.an\/g.an+2*g.sl<=a) (_hs:0<=g.sl):Ok g s L ep a=IG g s a:=by
 unfold Ok
 rw [if_neg (by omega),if_neg (by omega)]
theorem LV {g:Geo} {a:Int} (h1:g.an<=a) (h2:a<g.an+2*g.sl):∃ c i:Int,(c=0\/c=1)/\(0<=i/\i<g.sl)/\a=AK g c i:=by
 by_cases h:a<g.an+g.sl
 ·exact⟨0,a - g.an, .inl rfl,by omega,by unfold AK;omega⟩
 ·exact⟨1,a - g.an - g.sl, .inr rfl,by omega,by unfold AK;omega⟩
section
variable {g:Geo} {s:ByteArray} {a:An} {fill:UInt8} {sizes:List Int}
theorem UR (hg:AW g=true) (ha:AY g a=true) {i:Int} (hi:0<=i/\i<g.sl) (h:(Hu g i (A3 g a fill sizes 0 a.pos 0) 0).isSome=true):∃ j k:Nat,j<(A3 g a fill sizes 0 a.pos 0).length/\k<((A3 g a fill sizes 0 a.pos 0).getD j tz).images.length+1/\AO g ((A3 g a fill sizes 0 a.pos 0).getD j tz).pos k=i:=by
 have hq:=BV ha
 obtain⟨u,hu,e⟩:=R3 (a:=a) hg ha (s:=i.toNat) (by omega)
 have ei:i=((HJ g a u:Nat):Int):=by omega
 rw [ei,S6 (fill:=fill) (sizes:=sizes) hg ha hu,decide_eq_true_eq] at h
 have hst:=Hx (fill:=fill) (sizes:=sizes) hg ha _ (Nat.le_refl (A3 g a fill sizes 0 a.pos 0).length)
 rw [List.take_length] at hst
 have hm:HJ g a u∈(List.range (usedM (A3 g a fill sizes 0 a.pos 0)).toNat).map (HJ g a):=AF.2 ⟨u,AA.2 (by omega),rfl⟩
 rw [<-hst,List.mem_flatMap] at hm
 obtain⟨t,ht,hm⟩:=hm
 obtain⟨j,hj,rfl⟩:=MN ht
 obtain⟨k,hk,e2⟩:=AF.1 hm
 refine⟨j,k,hj,AA.1 hk,?_⟩
 obtain⟨r1,_⟩:=GZ (ep:=0) (fill:=fill) (sizes:=sizes) hg ha hj (AA.1 hk)
 omega
theorem LU (hg:AW g=true) (ha:AY g a=true) {x:Int} (h0:0<=x) (h1:x<Az g):(Jk g s (A3 g a fill sizes 0 a.pos 0)).cells.getD x.toNat cz=⟨0,Ok g s (A3 g a fill sizes 0 a.pos 0) 0 x, []⟩:=by
 obtain⟨g1,g2,g3,g4,g5⟩:=Ao.1 hg
 have hf:=Oz (s:=s) hg h0 h1
 have hfl:=(Ma (s:=s) hg).len
 have hl:x.toNat<(FG g s).cells.length:=by omega
 have hw:∀ w∈TL g (A3 g a fill sizes 0 a.pos 0) (A3 g a fill sizes 0 a.pos 0).length,∃ c i:Int,(c=0\/c=1)/\(0<=i/\i<g.sl)/\w=⟨AK g c i,Cu g (Gc g (A3 g a fill sizes 0 a.pos 0) 0 i) c i⟩:=fun w hw=>by
  obtain⟨j,k,c,q1,q2,q3,rfl⟩:=MS.1 hw
  obtain⟨r1,r2⟩:=GZ (ep:=0) (fill:=fill) (sizes:=sizes) hg ha q1 q2
  exact⟨(c:Nat),_,by omega,r1,by rw [r2]⟩
 show (BL (FG g s).cells _).getD x.toNat cz=_
 by_cases hx:g.an<=x/\x<g.an+2*g.sl
 ·obtain⟨c,i,hc,hi,rfl⟩:=LV hx.1 hx.2
  rw [MR hc hi]
  refine(Jr (F:=Cu g (Gc g (A3 g a fill sizes 0 a.pos 0) 0 i) c i) _ _ _ hl (fun w q qa=>?_) ?_).trans (by rw [hf])
  ·obtain⟨c',i',hc',hi',rfl⟩:=hw w q
   have hb:=GJ (g:=g) hc' hi'
   obtain⟨rfl,rfl⟩:=RA (g:=g) hc' hc hi' hi (show AK g c' i'=AK g c i by have:(AK g c' i').toNat=(AK g c i).toNat:=qa;omega)
   rfl
  ·cases hS:(Hu g i (A3 g a fill sizes 0 a.pos 0) 0) with
   | none=>
    right
    have:Gc g (A3 g a fill sizes 0 a.pos 0) 0 i=zeroC:=by unfold Gc;rw [hS]
    rw [this,hf]
    have e:=KT (g:=g) (s:=s) (c:=c) (i:=i.toNat) hc (by omega)
    rw [By hi.1] at e
    exact e
   | some q=>
    left
    obtain⟨j,k,q1,q2,q3⟩:=UR (fill:=fill) (sizes:=sizes) hg ha hi (by rw [hS];rfl)
    refine⟨⟨AK g (c.toNat:Nat) i,Cu g ((Bt ((A3 g a fill sizes 0 a.pos 0).getD j tz).seq 0 ((A3 g a fill sizes 0 a.pos 0).getD j tz).images).getD k rc0) (c.toNat:Nat) i⟩,?_,?_⟩
    ·exact MS.2 ⟨j,k,c.toNat,q1,q2,by omega,by rw [q3]⟩
    ·rw [By (by omega)]
 ·rw [KF (by omega) (by omega),fmtL_miss _ _ _ hl,hf]
  intro w q e
  obtain⟨c',i',hc',hi',rfl⟩:=hw w q
  have hb:=GJ (g:=g) hc' hi'
  have:(AK g c' i').toNat=x.toNat:=e
  omega
theorem KD (hg:AW g=true) (ha:AY g a=true):Holds (Jk g s (A3 g a fill sizes 0 a.pos 0)) (Az g) (Ok g s (A3 g a fill sizes 0 a.pos 0) 0):=by
 refine⟨?_,rfl,fun x h0 h1=>by rw [LU hg ha h0 h1];exact⟨rfl,rfl⟩⟩
 show ((BL (FG g s).cells _).length:Int)=_
 rw [Cn]
 exact(Ma hg).len
theorem Nh {b:An} (hg:AW g=true) (hb:AY g b=true) (i:Int):(Cs b i).length<=200:=by
 have:=Jy hg hb
 rw [Cs,Ff]
 omega
end
theorem Fb {cs:List Cel} {n:Nat} (h:cs.length=n) {k:Nat} (hk:k<n):(cs.map AU).getD k []=AU (cs.getD k cz):=AX (by omega)
theorem UV {g:Geo} (hg:AW g=true):JE g (Do g)=true:=by
 obtain⟨g1,g2,g3,g4,g5⟩:=Ao.1 hg
 have hz:=JW zero8
 simp only [JE,hg,Do,Bd,Bool.and_eq_true,decide_eq_true_eq,Be]
 refine⟨⟨by omega,?_⟩,?_⟩
 ·rw [A8]
  intro e he
  rw [List.eq_of_mem_replicate he]
  simp [E4,ent0,JF,BW]
  exact decide_eq_true (by omega)
 ·have:GH (List.replicate (g.d+1).toNat ent0) g.d.toNat=false:=by
   unfold GH
   rw [List.getElem?_replicate_of_lt (by omega)];rfl
  rw [this];rfl
theorem Kh {g:Geo} (hg:AW g=true) {a:Int} (ha:0<=a/\a<=65535):WA a 0 (C9 (Do g)):=by
 obtain⟨g1,g2,g3,g4,g5⟩:=Ao.1 hg
 refine⟨ha.1,ha.2,Bo _,by decide,?_⟩
 rw [Fj,Do,Bd];omega
theorem RY (g:Geo) (s:ByteArray) (hg:AW g=true) (hs:Di s.data.toList=0) (hl:s.size<=1000000):Fn Tryz.prog 24 [.ag (A9 g), .v (.string s)] fun r=>r = .tp [.ag (F8 (FG g s)), .v (.int .i64 0)]:=by
 obtain⟨g1,g2,g3,g4,g5⟩:=Ao.1 hg
 have hcg:=CW hg
 have hp:=GC hg
 have hN:1<=(Az g).toNat/\(Az g).toNat<=300:=by
  have:g.z*Co g<=4*7:=Dn (by omega) (by omega) (by omega) (by omega)
  unfold Az at hcg |-
  omega
 have hcN:Az g=((Az g).toNat:Int):=by omega
 have hao:=DO hg hs
 have hA:=Su g s hl
 rw [hg,if_pos rfl,if_pos hs,if_pos rfl,hs] at hA
 have hC:=LZ g hg
 rw [hcN] at hC
 have hD:=Uu (Az g).toNat hN
 refine Fn.st Tryz.func24 rfl ?_
 conv=>whnf
 refine Fn.cl hA ?_
 conv=>whnf
 refine Fn.cl hC ?_
 conv=>whnf
 refine ACalls.beside hD rfl ?_
 rintro _ _ ⟨rfl,rfl⟩
 conv=>whnf
 refine aLoop.ruleRR Nat (fun k=>([(2, .bp 0 0),(4, .bp 1 0),(5,ze 0),(6, .bp 2 0),(10, .bp 3 0),(51,ze g.an),(52,ze k)], [.box 23 (A9 g), .box 32 [nilV,nilV,ze 0,ze 0], .box 40 (CN (Av g s)), .box 32 [.ow 4 (Az g).toNat,nilV,ze 0,ze (-1)], .row 87 3 ((BL (F1 g) ((Ay g (Av g s)).take k)).map AU)])) (fun k=>k<=g.an.toNat) (fun k=>g.an.toNat - k) 0 (Ae _)
  ?_ ?_
 ·refine WkN.rc (ConvF.ofH (ConvH.subRow (k:=3) rfl (es':=(F1 g).map AU) (by simp [F1]) fun i=>?_)) (s:= [0,1,2,4,3]) ⟨⟨rfl,rfl,rfl,rfl,rfl,rfl,rfl,trivial⟩,⟨rfl,rfl,rfl,rfl,rfl,trivial⟩,rfl,rfl,rfl,rfl,rfl⟩
  rw [F1,CI]
  by_cases hi:i<(Az g).toNat
  ·rw [Fu hi,Fu hi];exact⟨fun _ _ h=>h,AP 1 _,AP 1 _,trivial⟩
  ·rw [List.getD_eq_getElem?_getD,List.getD_eq_getElem?_getD,List.getElem?_eq_none (by simpa using hi),List.getElem?_eq_none (by simpa using hi)];exact SubL.refl _
 ·intro k hk
  conv=>whnf
  refine Al (fun h6=>?_) (fun h6=>?_) <;> (repeat rw [Aa] at h6) <;> conv=>whnf
  ·have hk':k<(Ay g (Av g s)).length:=by rw [Dr];omega
   have hsx:=DN (F1 g) hk'
   rw [FA (by omega)] at hsx
   have hlx:(BL (F1 g) ((Ay g (Av g s)).take k)).length=(Az g).toNat:=by rw [Cn,IJ]
   generalize BL (F1 g) ((Ay g (Av g s)).take k)=cs at hsx hlx |-
   have hga:=Fv g k hg (by omega)
   have hnc:=Ob g (Av g s) k hg hao (by omega)
   have hE:(cs.map AU).getD (k:Int).toNat []=AU (cs.getD (k:Int).toNat cz):=Fb hlx (by omega)
   repeat' (first | (refine aSeq.go ?_;conv=>whnf) | fail)
   refine Fn.cl hga ?_
   conv=>whnf
   apply aDraw.treeK (0) tys_ok mixed (.one 0 (.one 1 (.one 2 (.one 3 (.one 4 (.one 5 (.one 6 (.one 7 (.one 8 (.one 9 (.one 10 (.one 11 (.one 12 .fin))))))))))))) (by kernel_rfl)
   conv=>whnf
   refine Fn.cl hnc ?_
   conv=>whnf
   try (refine And.intro (by first | omega | (simp;done)) ?_;conv=>whnf)
   try (refine And.intro ⟨rfl,by first | rfl | (simp;done) | (simp;omega),by first | omega | (simp;omega)⟩ ?_;conv=>whnf)
   (first | rw [hE] | skip)
   conv=>whnf
   exact⟨k+1,by omega,by omega,WkN.r (s:= [0,1,2,3,4]) ⟨⟨rfl,rfl,rfl,rfl,rfl,rfl,A4 (by omega),trivial⟩,⟨rfl,rfl,rfl,rfl,congrArg (fun l=>some (AB.row _ _ l)) (by rw [hsx,Eu];rfl),trivial⟩,rfl,rfl,rfl,rfl,rfl⟩⟩
  ·have ek:k=(Ay g (Av g s)).length:=by rw [Dr];omega
   rw [ek,List.take_length]
   refine aLoop.ruleRR Nat (fun c=>([(2, .bp 0 0),(4, .bp 1 0),(5,ze 0),(6, .bp 2 0),(10, .bp 3 0),(74,ze c)], [.box 23 (A9 g), .box 32 [nilV,nilV,ze 0,ze 0], .box 40 (CN (Av g s)), .box 32 [.ow 4 (Az g).toNat,nilV,ze 0,ze (-1)], .row 87 3 ((II g s c).map AU)])) (fun c=>c<=2) (fun c=>2 - c) 0 (Ae _)
    (WkN.r (s:= [0,1,2,3,4]) ⟨⟨rfl,rfl,rfl,rfl,rfl,rfl,trivial⟩,⟨rfl,rfl,rfl,rfl,rfl,trivial⟩,rfl,rfl,rfl,rfl,rfl⟩) ?_
   intro c hc
   conv=>whnf
   refine Al (fun h7=>?_) (fun h7=>?_) <;> (repeat rw [Aa] at h7) <;> conv=>whnf
   ·have hc01:(c:Int)=0\/(c:Int)=1:=by omega
    repeat' (first | (refine aSeq.go ?_;conv=>whnf) | fail)
    refine aLoop.ruleRR Nat (fun i=>([(2, .bp 0 0),(4, .bp 1 0),(5,ze 0),(6, .bp 2 0),(10, .bp 3 0),(15,ze c),(74,ze c),(78,ze g.sl),(79,ze i)], [.box 23 (A9 g), .box 32 [nilV,nilV,ze 0,ze 0], .box 40 (CN (Av g s)), .box 32 [.ow 4 (Az g).toNat,nilV,ze 0,ze (-1)], .row 87 3 ((BL (II g s c) ((E1 g c).take i)).map AU)])) (fun i=>i<=g.sl.toNat) (fun i=>g.sl.toNat - i) 0 (Ae _)
     (WkN.r (s:= [0,1,2,3,4]) ⟨⟨rfl,rfl,rfl,rfl,rfl,rfl,rfl,rfl,rfl,trivial⟩,⟨rfl,rfl,rfl,rfl,rfl,trivial⟩,rfl,rfl,rfl,rfl,rfl⟩) ?_
    intro i hi
    conv=>whnf
    refine Al (fun h8=>?_) (fun h8=>?_) <;> (repeat rw [Aa] at h8) <;> conv=>whnf
    ·have hlw:(E1 g c).length=g.sl.toNat:=by simp [E1]
     have hi':i<(E1 g c).length:=by omega
     have hsx:=DN (II g s c) hi'
     rw [show (E1 g c).getD i ⟨0, []⟩=⟨AK g c (i:Nat),Cu g zeroC c (i:Nat)⟩ from EA (by omega)] at hsx
     have hlx:(BL (II g s c) ((E1 g c).take i)).length=(Az g).toNat:=by rw [Cn,IH]
     generalize BL (II g s c) ((E1 g c).take i)=cs at hsx hlx |-
     have hla:=P5 g c i hg hc01 (by omega)
     have hin:=FN (n:=(Az g).toNat) hg hcN.symm hc01 (s:=i) (by omega)
     have hrc:=NM g zeroC c i (by decide)
     rw [LN hg,show FJ g c i=true by simp only [FJ,Bool.and_eq_true,AE];omega] at hrc
     have hE:(cs.map AU).getD (AK g c i).toNat []=AU (cs.getD (AK g c i).toNat cz):=Fb hlx (by omega)
     repeat' (first | (refine aSeq.go ?_;conv=>whnf) | fail)
     refine Fn.cl hla ?_
     conv=>whnf
     apply aDraw.treeK (0) tys_ok mixed (.one 0 (.one 1 (.one 2 (.one 3 (.one 4 (.one 5 (.one 6 (.one 7 (.one 8 (.one 9 (.one 10 (.one 11 (.one 12 (.one 13 .fin)))))))))))))) (by kernel_rfl)
     conv=>whnf
     (refine ACalls.sub [.ag (A9 g), .ag (DW zeroC),ze c,ze i] (by repeat' (first | exact trivial | exact fun _ _ h=>h | exact AP _ _ | refine And.intro ?_ ?_ | refine AJ ?_)) ?_;refine Fn.cl hrc ?_)
     conv=>whnf
     try (refine And.intro (by first | omega | (simp;done)) ?_;conv=>whnf)
     try (refine And.intro ⟨rfl,by first | rfl | (simp;done) | (simp;omega),by first | omega | (simp;omega)⟩ ?_;conv=>whnf)
     (first | rw [hE] | skip)
     conv=>whnf
     exact⟨i+1,by omega,by omega,WkN.r (s:= [0,1,2,3,4]) ⟨⟨rfl,rfl,rfl,rfl,rfl,rfl,rfl,rfl,A4 (by omega),trivial⟩,⟨rfl,rfl,rfl,rfl,congrArg (fun l=>some (AB.row _ _ l)) (by rw [hsx,Eu];rfl),trivial⟩,rfl,rfl,rfl,rfl,rfl⟩⟩
    ·have ei:i=(E1 g c).length:=by simp [E1];omega
     repeat' (first | (refine aSeq.go ?_;conv=>whnf) | fail)
     exact⟨c+1,by omega,by omega,WkN.r (s:= [0,1,2,3,4]) ⟨⟨rfl,rfl,rfl,rfl,rfl,A4 (by omega),trivial⟩,⟨rfl,rfl,rfl,rfl,by rw [ei,List.take_length];rfl,trivial⟩,rfl,rfl,rfl,rfl,rfl⟩⟩
   ·have ec:c=2:=by omega
    subst ec
    have hT:=QR g hg
    have hB:=L4 g (Do g) (by rw [Do,Bd];omega)
    rw [UV hg] at hB
    refine Fn.cl hT ?_
    conv=>whnf
    refine Fn.cl hB ?_
    conv=>whnf
    refine aLoop.ruleRR Nat (fun z=>([(2, .bp 0 0),(4, .bp 1 0),(5,ze 0),(6, .bp 2 0),(10, .bp 3 0),(21,bA (C9 (Do g))),(116,ze g.z),(117,ze z)], [.box 23 (A9 g), .box 32 [nilV,nilV,ze 0,ze 0], .box 40 (CN (Av g s)), .box 32 [.ow 4 (Az g).toNat,nilV,ze 0,ze (-1)], .row 87 3 ((E2 g s z).map AU)])) (fun z=>z<=g.z.toNat) (fun z=>g.z.toNat - z) 0 (Ae _)
     (WkN.r (s:= [0,1,2,3,4]) ⟨⟨rfl,rfl,rfl,rfl,rfl,rfl,rfl,rfl,trivial⟩,⟨rfl,rfl,rfl,rfl,rfl,trivial⟩,rfl,rfl,rfl,rfl,rfl⟩) ?_
    intro z hz
    conv=>whnf
    refine Al (fun h9=>?_) (fun h9=>?_) <;> (repeat rw [Aa] at h9) <;> conv=>whnf
    ·have htb:∀ k:Nat,k<2->0<=C6 g z k/\C6 g z k<((Az g).toNat:Int):=fun k hk=>by unfold C6;omega
     have hmul:(z:Int)*Co g<=(g.z - 1)*Co g:=Int.mul_le_mul_of_nonneg_right (by omega) (by omega)
     have hz0:0<=(z:Int)*Co g:=Dm (by omega) (by omega)
     have hsb:∀ k:Nat,(k:Int)<Co g->0<=BC g z k/\BC g z k<((Az g).toNat:Int):=fun k hk=>by
      rw [<-hcN];unfold BC Az;rw [Int.sub_mul,Int.one_mul] at hmul;omega
     repeat' (first | (refine aSeq.go ?_;conv=>whnf) | fail)
     refine aLoop.ruleRR Nat (fun k=>([(2, .bp 0 0),(4, .bp 1 0),(5,ze 0),(6, .bp 2 0),(10, .bp 3 0),(21,bA (C9 (Do g))),(23,ze z),(116,ze g.z),(117,ze z),(120,ze k)], [.box 23 (A9 g), .box 32 [nilV,nilV,ze 0,ze 0], .box 40 (CN (Av g s)), .box 32 [.ow 4 (Az g).toNat,nilV,ze 0,ze (-1)], .row 87 3 ((BL (E2 g s z) ((Em g z).take k)).map AU)])) (fun k=>k<=2) (fun k=>2 - k) 0 (Ae _)
      (WkN.r (s:= [0,1,2,3,4]) ⟨⟨rfl,rfl,rfl,rfl,rfl,rfl,rfl,rfl,rfl,rfl,trivial⟩,⟨rfl,rfl,rfl,rfl,rfl,trivial⟩,rfl,rfl,rfl,rfl,rfl⟩) ?_
     intro k hk
     conv=>whnf
     refine Al (fun h10=>?_) (fun h10=>?_) <;> (repeat rw [Aa] at h10) <;> conv=>whnf
     ·have hlw:(Em g z).length=2:=by simp [Em]
      have hk':k<(Em g z).length:=by omega
      have hsx:=DN (E2 g s z) hk'
      rw [show (Em g z).getD k ⟨0, []⟩=⟨C6 g z (k:Nat),C7 (C6 g z (k:Nat)) 0 (C9 (Do g))⟩ from EA (by omega)] at hsx
      have hlx:(BL (E2 g s z) ((Em g z).take k)).length=(Az g).toNat:=by rw [Cn,Ev]
      generalize BL (E2 g s z) ((Em g z).take k)=cs at hsx hlx |-
      have hgt:=RU g z k hg (by omega) (by omega)
      have hin:=htb k (by omega)
      have hmk:=Ip (C6 g z k) 0 (C9 (Do g)) (Kh hg (by omega))
      have hE:(cs.map AU).getD (C6 g z k).toNat []=AU (cs.getD (C6 g z k).toNat cz):=Fb hlx (by omega)
      repeat' (first | (refine aSeq.go ?_;conv=>whnf) | fail)
      refine Fn.cl hgt ?_
      conv=>whnf
      apply aDraw.treeK (0) tys_ok mixed (.one 0 (.one 1 (.one 2 (.one 3 (.one 4 (.one 5 (.one 6 (.one 7 (.one 8 (.one 9 (.one 10 (.one 11 (.one 12 .fin))))))))))))) (by kernel_rfl)
      conv=>whnf
      refine Fn.cl hmk ?_
      conv=>whnf
      try (refine And.intro (by first | omega | (simp;done)) ?_;conv=>whnf)
      try (refine And.intro ⟨rfl,by first | rfl | (simp;done) | (simp;omega),by first | omega | (simp;omega)⟩ ?_;conv=>whnf)
      (first | rw [hE] | skip)
      conv=>whnf
      exact⟨k+1,by omega,by omega,WkN.r (s:= [0,1,2,3,4]) ⟨⟨rfl,rfl,rfl,rfl,rfl,rfl,rfl,rfl,rfl,A4 (by omega),trivial⟩,⟨rfl,rfl,rfl,rfl,congrArg (fun l=>some (AB.row _ _ l)) (by rw [hsx,Eu];rfl),trivial⟩,rfl,rfl,rfl,rfl,rfl⟩⟩
     ·have ek:k=(Em g z).length:=by simp [Em];omega
      rw [ek,List.take_length]
      have hpr:=Hj g hg
      repeat' (first | (refine aSeq.go ?_;conv=>whnf) | fail)
      refine Fn.cl hpr ?_
      conv=>whnf
      refine aLoop.ruleRR Nat (fun i=>([(2, .bp 0 0),(4, .bp 1 0),(5,ze 0),(6, .bp 2 0),(10, .bp 3 0),(21,bA (C9 (Do g))),(23,ze z),(116,ze g.z),(117,ze z),(144,ze (Co g)),(145,ze i)], [.box 23 (A9 g), .box 32 [nilV,nilV,ze 0,ze 0], .box 40 (CN (Av g s)), .box 32 [.ow 4 (Az g).toNat,nilV,ze 0,ze (-1)], .row 87 3 ((BL (BL (E2 g s z) (Em g z)) ((DT g z).take i)).map AU)])) (fun i=>i<=(Co g).toNat) (fun i=>(Co g).toNat - i) 0 (Ae _)
       (WkN.r (s:= [0,1,2,3,4]) ⟨⟨rfl,rfl,rfl,rfl,rfl,rfl,rfl,rfl,rfl,rfl,rfl,trivial⟩,⟨rfl,rfl,rfl,rfl,rfl,trivial⟩,rfl,rfl,rfl,rfl,rfl⟩) ?_
      intro i hi
      conv=>whnf
      refine Al (fun h11=>?_) (fun h11=>?_) <;> (repeat rw [Aa] at h11) <;> conv=>whnf
      ·have hlw:(DT g z).length=(Co g).toNat:=by simp [DT]
       have hi':i<(DT g z).length:=by omega
       have hsx:=DN (BL (E2 g s z) (Em g z)) hi'
       rw [show (DT g z).getD i ⟨0, []⟩=⟨BC g z (i:Nat),C7 (BC g z (i:Nat)) 0 zero8⟩ from EA (by omega)] at hsx
       have hlx:(BL (BL (E2 g s z) (Em g z)) ((DT g z).take i)).length=(Az g).toNat:=by rw [Cn,Cn,Ev]
       generalize BL (BL (E2 g s z) (Em g z)) ((DT g z).take i)=cs at hsx hlx |-
       have hgt:=T_ g z i hg (by omega) (by omega)
       have hin:=hsb i (by omega)
       have hmk:=Ip (BC g z i) 0 zero8 ⟨hin.1,by omega,Bo _,by decide,by decide⟩
       have hE:(cs.map AU).getD (BC g z i).toNat []=AU (cs.getD (BC g z i).toNat cz):=Fb hlx (by omega)
       repeat' (first | (refine aSeq.go ?_;conv=>whnf) | fail)
       refine Fn.cl hgt ?_
       conv=>whnf
       apply aDraw.treeK (0) tys_ok mixed (.one 0 (.one 1 (.one 2 (.one 3 (.one 4 (.one 5 (.one 6 (.one 7 (.one 8 (.one 9 (.one 10 (.one 11 (.one 12 .fin))))))))))))) (by kernel_rfl)
       conv=>whnf
       (try (refine And.intro ⟨rfl,by decide,by decide⟩ ?_;conv=>whnf);refine ACalls.shut hmk.go ?_;(conv=>whnf);refine And.intro rfl ?_;(conv=>whnf);refine ACalls.sub [.ag [ze (BC g z i),ze 0,bA zero8]] ⟨AJ ⟨ri,ri,fun c v h=>Rd.congr rfl (fun i hi=>by have hi':i<8:=hi;rw [Fu (by exact hi'),IT hi'];rfl) h,trivial⟩,trivial⟩ ?_;refine Fn.cl hmk ?_)
       conv=>whnf
       try (refine And.intro (by first | omega | (simp;done)) ?_;conv=>whnf)
       try (refine And.intro ⟨rfl,by first | rfl | (simp;done) | (simp;omega),by first | omega | (simp;omega)⟩ ?_;conv=>whnf)
       (first | rw [hE] | skip)
       conv=>whnf
       all_goals exact⟨i+1,by omega,by omega,WkN.r (s:= [0,1,2,3,4]) ⟨⟨rfl,rfl,rfl,rfl,rfl,rfl,rfl,rfl,rfl,rfl,A4 (by omega),trivial⟩,⟨rfl,rfl,rfl,rfl,congrArg (fun l=>some (AB.row _ _ l)) (by rw [hsx,Eu];rfl),trivial⟩,rfl,rfl,rfl,rfl,rfl⟩⟩
      ·have ei:i=(DT g z).length:=by simp [DT];omega
       repeat' (first | (refine aSeq.go ?_;conv=>whnf) | fail)
       exact⟨z+1,by omega,by omega,WkN.r (s:= [0,1,2,3,4]) ⟨⟨rfl,rfl,rfl,rfl,rfl,rfl,rfl,A4 (by omega),trivial⟩,⟨rfl,rfl,rfl,rfl,by rw [ei,List.take_length];rfl,trivial⟩,rfl,rfl,rfl,rfl,rfl⟩⟩
    ·have ez:z=g.z.toNat:=by omega
     subst ez
     refine⟨(by rw [Ab,Ev]),?_⟩
     exact⟨.tp [.ag (F8 (FG g s)), .v (.int .i64 0)],B3 ⟨AJ ⟨AH (f:=AU) (E2 g s g.z.toNat) (by rw [Ev]) rfl,AP 2 _,ri,ri,trivial⟩,ri,trivial⟩,rfl⟩
def Ln (g:Geo) (s:ByteArray) (L:List Tx) (b:An) (a:Int):List UInt8:=if a<g.an then Cs b a else Ok g s L 0 a
section
variable {g:Geo} {s:ByteArray} {a b:An} {fill:UInt8} {sizes:List Int} {d:Dk}
theorem PC {F:Int->List UInt8} {n:Int} (h:Holds d n F) (l:List Int) (hl:∀ x∈l,0<=x/\x<n):AD d l=l.map fun x=>⟨0,F x⟩:=by
 unfold AD
 refine BJ fun x hx=>?_
 exact h.got (hl x hx).1 (hl x hx).2
theorem R9 (hg:AW g=true) {c:Int} (hc:c=0\/c=1):∀ x∈AI g c,0<=x/\x<Az g:=fun x hx=>by
 obtain⟨g1,g2,g3,g4,g5⟩:=Ao.1 hg
 have hcg:=CW hg
 simp only [AI,AF,AA] at hx
 obtain⟨i,hi,rfl⟩:=hx
 have:=GJ (g:=g) hc (s:=(i:Nat)) (by omega)
 omega
theorem PW (hg:AW g=true) (L:List Tx) {c:Int} (hc:c=0\/c=1) (h:Holds d (Az g) (Ln g s L b)):AD d (AI g c)=FH g L 0 c g.sl.toNat:=by
 rw [PC h _ (R9 hg hc)]
 unfold AI FH
 rw [Da]
 refine BJ fun i hi=>?_
 have hi:=AA.1 hi
 have hb:=GJ (g:=g) hc (s:=(i:Nat)) (by omega)
 show (⟨0,Ln g s L b (AK g c i)⟩:Gt)=_
 unfold Ln
 rw [if_neg (by omega),MR hc (by omega)]
theorem Wq (hg:AW g=true) {L:List Tx} (hb:AY g b=true) (h:Holds d (Az g) (Ln g s L b)):Ef g (AD d (B8 g))=some (b,(X5 (Ef g (AD d (B8 g))))):=by
 obtain⟨g1,g2,g3,g4,g5⟩:=Ao.1 hg
 have hcg:=CW hg
 have hsp:=K2 g (AD d (B8 g)) (AD d (B8 g)).length
 rw [BT,CC] at hsp
 have hsay:∀ i,i<g.an.toNat->Cy g ((AD d (B8 g)).getD i ⟨0, []⟩) (i:Nat)=some b:=fun i hi=>by
  rw [PS hi,h.got (by omega) (by omega)]
  unfold Ln
  rw [if_pos (by omega)]
  exact Pd hg hb (by omega)
 have hpk:Ef g (AD d (B8 g))=Dp g (AD d (B8 g)) g.an.toNat:=by rw [Ef,BT,CC]
 rw [hpk]
 cases hP:Dp g (AD d (B8 g)) g.an.toNat with
 | none=>
  have:=hsp.1 hP 0 (by omega)
  rw [hsay 0 (by omega)] at this
  cases this
 | some q=>
  obtain⟨a0,j⟩:=q
  obtain⟨q1,q2,q3⟩:=hsp.2 a0 j hP
  rw [hsay j q1] at q2
  cases q2
  rfl
theorem RR {F:Int->List UInt8} (hg:AW g=true) {c:An} (h:Holds d (Az g) F) {r:Int} {l:Int}:Holds ⟨DR d.cells (Ay g c), [],r,l⟩ (Az g) (fun x=>if x<g.an then Cs c x else F x):=by
 obtain⟨g1,g2,g3,g4,g5⟩:=Ao.1 hg
 have hcg:=CW hg
 refine⟨by rw [<-h.len];show ((DR d.cells _).length:Int)=_;rw [finL_len],rfl,fun x h0 h1=>?_⟩
 obtain⟨e1,e2⟩:=h.cell x h0 h1
 have hlt:x.toNat<d.cells.length:=by have:=h.len;omega
 show ((DR d.cells _).getD x.toNat cz).state=0/\((DR d.cells _).getD x.toNat cz).bytes=_
 have hmem:∀ w∈Ay g c,∃ i:Nat,i<g.an.toNat/\w=⟨(i:Nat),Cs c (i:Nat)⟩:=fun w hw=>by
  simp only [Ay,AF,AA] at hw
  obtain⟨i,hi,rfl⟩:=hw
  exact⟨i,hi,rfl⟩
 by_cases hx:x<g.an
 ·rw [if_pos hx]
  refine KX _ _ _ hlt (by rw [e1];decide) (fun w hw hwa=>?_) (.inl ⟨⟨x,Cs c x⟩,?_,rfl⟩)
  ·obtain⟨i,hi,rfl⟩:=hmem w hw
   have:((i:Nat):Int).toNat=x.toNat:=hwa
   show Cs c (i:Nat)=_
   congr 1;omega
  ·simp only [Ay,AF,AA]
   exact⟨x.toNat,by omega,by rw [By h0]⟩
 ·rw [if_neg hx,finL_miss _ _ _ hlt (fun w hw e=>?_)]
  ·exact⟨e1,e2⟩
  ·obtain⟨i,hi,rfl⟩:=hmem w hw
   have:((i:Nat):Int).toNat=x.toNat:=e
   omega
theorem Uf {n:Int} {F:Int->List UInt8} (h:Holds d n F) (l:List Wr) (hl:∀ w∈l,0<=w.addr/\w.addr<n):l.filter (free d.cells)=l:=by
 rw [List.filter_eq_self]
 intro w hw
 unfold free
 rw [(h.cell w.addr (hl w hw).1 (hl w hw).2).1]
 rfl
theorem QK (hg:AW g=true) (hs:Di s.data.toList=0) (hl:sizes.length<=40) (hd:DkOk d) (hb:AY g b=true) (h:Holds d (Az g) (Ln g s (A3 g (Av g s) fill sizes 0 (Av g s).pos 0) b)) (hlf:d.left<0) (hbs:b.seq=1) (hbp:b.pos=0) (hbe:0<=b.epoch) (hlast:b.last<=(A3 g (Av g s) fill sizes 0 (Av g s).pos 0).length) (he:b.epoch=0\/b.last=(A3 g (Av g s) fill sizes 0 (Av g s).pos 0).length) (h1:b.gen≠4294967295) (h2:b.epoch≠4294967295) :
  ∃ D,BD g d=(D,0,G0 (CF b (A3 g (Av g s) fill sizes 0 (Av g s).pos 0).length) (A3 g (Av g s) fill sizes 0 (Av g s).pos 0))/\Holds D (Az g) (Ln g s (A3 g (Av g s) fill sizes 0 (Av g s).pos 0) (CF b (A3 g (Av g s) fill sizes 0 (Av g s).pos 0).length))/\D.left=d.left/\D.reqs=(d.tick (K7 g [])).reqs:=by
 obtain⟨g1,g2,g3,g4,g5⟩:=Ao.1 hg
 have hcg:=CW hg
 have hao:=DO hg hs
 have hok:=MQ (g:=g) (a:=Av g s) (fill:=fill) (sizes:=sizes) (epoch:=0) hg hao (by show (1:Int)<=1000000;decide) (by decide)
 have hsc:=OY (g:=g) (a:=Av g s) (b:=b) (fill:=fill) (sizes:=sizes) (ep:=0) (bad0:=fun _=>false) (bad1:=fun _=>false) hg hao (by show (1:Int)<=1000000;decide) hl hbs hbp (fun _=>rfl) (fun j hj=>by
  rcases he with he | he
  ·exact .inl he.symm
  ·exact .inr ⟨by show (1:Int)+j<=_;omega,hbe⟩)
 rw [QO _ _ _ (b0:=fun _=>!false) (b1:=fun _=>!false) (fun _=>rfl) (fun _=>rfl),DF (by show ¬(1:Int)+_ - 1<b.last;omega)] at hsc
 have hv0:=PW (c:=0) hg _ (.inl rfl) h
 have hv1:=PW (c:=1) hg _ (.inr rfl) h
 have hs2:CS g b (AD d (AI g 0)) (AD d (AI g 1))=(A3 g (Av g s) fill sizes 0 (Av g s).pos 0, [],0):=by
  rw [Mr,hv0,hv1,Qg hg hok (.inl rfl),Qg hg hok (.inr rfl)]
  exact hsc
 have hm:=Od hg hd h.len h.cache hlf (Wq hg hb h) hs2 h1 h2
 have hna:=Dr g (CF b (A3 g (Av g s) fill sizes 0 (Av g s).pos 0).length)
 rw [Uf h _ (fun w hw=>by
  simp only [Ay,AF,AA] at hw
  obtain⟨i,hi,rfl⟩:=hw
  exact⟨by show (0:Int)<=(i:Nat);omega,by show ((i:Nat):Int)<_;omega⟩),if_neg (by omega),if_neg (by omega)] at hm
 refine⟨_,hm,?_,rfl,rfl⟩
 have hf:=RR (r:=(d.tick (K7 g [])).reqs) (l:=d.left) hg (c:=CF b (A3 g (Av g s) fill sizes 0 (Av g s).pos 0).length) h
 refine⟨hf.len,hf.cache,fun x h0 h1=>?_⟩
 obtain⟨q1,q2⟩:=hf.cell x h0 h1
 refine⟨q1,q2.trans ?_⟩
 unfold Ln
 by_cases hx:x<g.an
 ·simp only [if_pos hx]
 ·simp only [if_neg hx]
theorem L0 (hg:AW g=true) (hs:Di s.data.toList=0):Holds (Jk g s (A3 g (Av g s) fill sizes 0 (Av g s).pos 0)) (Az g) (Ln g s (A3 g (Av g s) fill sizes 0 (Av g s).pos 0) (Av g s)):=by
 obtain⟨g1,g2,g3,g4,g5⟩:=Ao.1 hg
 have h:=KD (s:=s) (fill:=fill) (sizes:=sizes) hg (DO hg hs)
 refine⟨h.len,h.cache,fun x h0 h1=>?_⟩
 obtain⟨q1,q2⟩:=h.cell x h0 h1
 refine⟨q1,q2.trans ?_⟩
 unfold Ln
 by_cases hx:x<g.an
 ·rw [if_pos hx,KF (.inl hx) (by omega),QB hx]
 ·rw [if_neg hx]
theorem OE (hg:AW g=true) (hs:Di s.data.toList=0) {F:Int->List UInt8} (hF:F=Ok g s (A3 g (Av g s) fill sizes 0 (Av g s).pos 0) 0) {x:Int} (h0:0<=x) (h1:x<Az g):(F x).length<=200:=by
 obtain⟨g1,g2,g3,g4,g5⟩:=Ao.1 hg
 have hao:=DO hg hs
 have hok:=MQ (g:=g) (a:=Av g s) (fill:=fill) (sizes:=sizes) (epoch:=0) hg hao (by show (1:Int)<=1000000;decide) (by decide)
 subst hF
 by_cases hx:g.an<=x/\x<g.an+2*g.sl
 ·obtain⟨c,i,hc,hi,rfl⟩:=LV hx.1 hx.2
  rw [MR hc hi]
  exact IP (hok.ok i hi) c i
 ·rw [KF (by omega) (by omega)]
  unfold IG
  split
  ·exact Nh hg hao x
  ·rw [if_neg (by omega),if_neg (by omega)]
   split
   ·rw [Ff]
    have:=(Kh (g:=g) (a:=x) hg (by omega)).2.2.2.2
    omega
   ·rw [Ff];decide
theorem Q0 (hg:AW g=true) (hs:Di s.data.toList=0):DkOk (Jk g s (A3 g (Av g s) fill sizes 0 (Av g s).pos 0)):=by
 obtain⟨g1,g2,g3,g4,g5⟩:=Ao.1 hg
 have hao:=DO hg hs
 have hcg:=CW hg
 have hp:=GC hg
 have h:=KD (s:=s) (fill:=fill) (sizes:=sizes) hg hao
 have hlen:=h.len
 have hN:g.z*Co g<=4*7:=Dn (by omega) (by omega) (by omega) (by omega)
 refine⟨?_,by rw [h.cache];simp,by show (0:Int)<=0/\(0:Int)<=_;decide,by show (-1:Int)<= -1/\(-1:Int)<=_;decide,fun c hc=>?_,fun w hw=>by rw [h.cache] at hw;cases hw⟩
 ·unfold Az at hcg hlen;omega
 ·obtain⟨i,hi,rfl⟩:=List.getElem_of_mem hc
  have hci:=LU (s:=s) (fill:=fill) (sizes:=sizes) hg hao (x:=(i:Nat)) (by omega) (by omega)
  have e:(Jk g s (A3 g (Av g s) fill sizes 0 (Av g s).pos 0)).cells.getD ((i:Nat):Int).toNat cz=(Jk g s (A3 g (Av g s) fill sizes 0 (Av g s).pos 0)).cells[i]:=by
   rw [Aa,List.getD_eq_getElem?_getD,List.getElem?_eq_getElem hi];rfl
  rw [e] at hci
  rw [hci]
  exact⟨⟨Bo _,by show (0:Int)<=2;decide⟩,OE hg hs rfl (by omega) (by omega),by simp⟩
end
theorem ConvF.cap {fr:Fr} {H H':List AB} (i k:Nat) {y:AV} (hx:fget fr i = .bp k 0) (h:capK [.bp k 0] H fun l H2=>l=[y]/\H2=H'):ConvF fr H ((i,y)::fr) H':=fun _ _ c _ a hs hf=>by
 have hr:RdL [.bp k 0] c [a.tmps.getD i undef]:=by
  simp only [RdL]
  exact⟨_,_,rfl,hx ▸ hf.get i,rfl⟩
 obtain⟨l',H1,c1,⟨rfl,rfl⟩,e1,s1,x1,r⟩:=capK_sound hs hr h
 simp only [RdL] at r
 obtain⟨u,us,e,r1,rfl⟩:=r
 injection e with e _
 subst e
 exact⟨c1,e1,s1,(hf.ext x1).cons i _ r1,x1⟩
def FE (g:Geo):List Tx->Int->Int->Int->Bool
 | [],_,_,_=>true
 | t::r,seq,pos,left=>(decide (t.seq=seq)&&(decide (t.seq<=4294967295)&&(decide (t.pos=pos)&&(decide (2<=t.n)&&(decide (t.n<=left)&&(decide (t.n=t.images.length+1)&&t.images.all (Cr g)))))))&&FE g r (seq+1) ((pos+t.n).tmod g.sl) (left - t.n)
theorem Th (g:Geo) (x:Img) (hx:x.bytes.length<=100000):Fn Tryz.prog 124 [.ag (Dc x), .rp (A9 g)] fun r=>r = .v (.bool (!Cr g x)):=by
 have h:=LX g x hx
 refine Fn.st Tryz.func124 rfl ?_
 conv=>whnf
 refine Fn.cl h ?_
 conv=>whnf
 cases Cr g x with
 | true=>exact⟨_,ri,rfl⟩
 | false=>exact⟨_,ri,rfl⟩
theorem W5 (l:List Img) (g:Geo) (hb:∀ x∈l,x.bytes.length<=100000) (hl:l.length<=1000000):Fn Tryz.prog 178 [Ft l, .fn 124 [.rp (A9 g)]] fun r=>r = .v (.int .i64 (UN (fun x=>!Cr g x) l)):=by
 refine Fn.st Tryz.func178 rfl ?_
 conv=>whnf
 refine aLoop.rule Nat (fun k=>([(0,Ft l),(1, .fn 124 [.rp (A9 g)]),(7, .v (.int .i64 l.length)),(8, .v (.int .i64 k))], [])) (fun k=>k<=l.length/\(l.take k).any (fun x=>!Cr g x)=false) (fun k=>l.length - k) 0 ⟨Ae _,by simp⟩ ⟨[],trivial,⟨rfl,rfl,rfl,rfl,trivial⟩,trivial,rfl,rfl,rfl⟩ ?_
 rintro k ⟨hk,hI⟩
 conv=>whnf
 refine Af (fun h2=>?_) (fun h2=>?_) <;> simp at h2 <;> conv=>whnf
 ·refine⟨by first | omega | (refine⟨rfl,?_,?_⟩ <;> first | omega | (simp only [Ab];done) | (simp only [Ab];omega)) | (simp only [Ab];omega),?_⟩
  conv=>whnf
  refine Fn.closed (Th g (l.getD k ⟨0,0, []⟩) (hb _ (AC h2))) rfl ?_
  rintro _ rfl
  conv=>whnf
  refine Af (fun h3=>?_) (fun h3=>?_) <;> conv=>whnf
  ·exact⟨_,ri,by rw [J_ (d:=⟨0,0, []⟩) h2 hI (by first | exact h3 | (rw [Aa] at h3;exact h3) | simpa using h3)]⟩
  ·refine⟨k+1,⟨by omega,EQ (d:=⟨0,0, []⟩) h2 hI (by first | exact h3 | (rw [Aa] at h3;exact h3) | simpa using h3)⟩,by omega, [],trivial,⟨rfl,rfl,rfl,A4 (by omega),trivial⟩,trivial,rfl,rfl,rfl⟩
 ·exact⟨_,ri,by rw [List.take_of_length_le h2] at hI;rw [I7 hI]⟩
theorem W6 (l:List Img) (g:Geo) (hb:∀ x∈l,x.bytes.length<=100000) (hl:l.length<=1000000):Fn Tryz.prog 126 [Ft l, .fn 124 [.rp (A9 g)]] fun r=>r = .v (.bool (l.any (fun x=>!Cr g x))):=by
 refine Fn.st Tryz.func126 rfl ?_
 conv=>whnf
 refine Fn.cl (W5 l g hb hl) ?_
 exact⟨_,ri,by rw [MT]⟩

theorem Mz (g:Geo) (a:An) (l:List Tx) (hl:a.label.size<=1000000) (hh:a.homes.length<=1000000) (hn:l.length<=1000000) (hi:∀ t∈l,t.images.length<=1000000/\∀ x∈t.images,x.bytes.length<=100000):Fn Tryz.prog 58 [.ag (A9 g), .ag (CN a),D8 l] fun r=>r = .v (Ea ((AW g&&AY g a)&&FE g l a.seq a.pos g.sl)):=by
 have hA:=Ho g a hl hh
 cases hga:AW g&&AY g a with
 | false=>
  rw [hga] at hA
  rw [CK]
  refine Fn.st Tryz.func58 rfl ?_
  conv=>whnf
  refine Fn.cl hA ?_
  exact⟨_,ri,rfl⟩
 | true=>
  rw [hga] at hA
  rw [Be]
  obtain⟨hg,ha⟩:=Bool.and_eq_true_iff.1 hga
  obtain⟨g1,g2,g3,g4,g5⟩:=Ao.1 hg
  have hp:=EI ha
  refine Fn.st Tryz.func58 rfl ?_
  conv=>whnf
  refine Fn.cl hA ?_
  conv=>whnf
  refine aDraw.seq tys_ok mixed (by kernel_rfl) ?_
  conv=>whnf
  refine aLoop.ruleRR (Nat × Int × Int × Int) (fun x=>([(2,D8 l),(3, .rp (A9 g)),(8, .v (.int .i64 x.2.1)),(9, .v (.int .i64 x.2.2.1)),(10, .v (.int .i64 x.2.2.2)),(26,D8 l),(27, .v (.int .i64 l.length)),(28, .v (.int .i64 x.1))], []))
   (fun x=>x.1<=l.length/\(0<=x.2.1/\x.2.1<g.sl)/\(0<=x.2.2.1/\x.2.2.1<=4294967296)/\(0<=x.2.2.2/\x.2.2.2<=30)/\FE g l a.seq a.pos g.sl=FE g (l.drop x.1) x.2.2.1 x.2.1 x.2.2.2) (fun x=>l.length - x.1) (0,a.pos,a.seq,g.sl) ⟨Ae _,by show 0<=a.pos/\a.pos<g.sl;omega,by show 0<=a.seq/\a.seq<=4294967296;omega,by show 0<=g.sl/\g.sl<=30;omega,rfl⟩
   ?_ ?_
  ·exact WkN.rc (ConvF.cap 3 0 (y:= .rp (A9 g)) rfl (by (conv=>whnf);exact⟨rfl,rfl⟩)) (s:= []) ⟨⟨rfl,rfl,rfl,rfl,rfl,rfl,rfl,rfl,trivial⟩,trivial,rfl,rfl,rfl,rfl,rfl⟩
  rintro⟨k,pos,seq,left⟩ ⟨hk,b1,b2,b3,hI⟩
  simp only at hk b1 b2 b3 hI |-
  conv=>whnf
  refine Al (fun h6=>?_) (fun h6=>?_) <;> (repeat rw [Aa] at h6) <;> conv=>whnf
  ·have hk':k<l.length:=by omega
   have hm:=hi _ (AC (d:=(⟨0,0,0, []⟩:Tx)) hk')
   have hdr:l.drop k=l.getD k ⟨0,0,0, []⟩::l.drop (k+1):=by
    rw [List.getD_eq_getElem?_getD,List.getElem?_eq_getElem hk'];exact AL hk'
   rw [hdr,FE] at hI
   repeat' (first | (refine aSeq.go ?_;conv=>whnf) | fail)
   refine⟨⟨by omega,by omega⟩,?_⟩
   conv=>whnf
   rw [Aa]
   generalize l.getD k ⟨0,0,0, []⟩=t at hm hI |-
   have hcf:=W6 t.images g hm.2 hm.1
   rw [show (t.images.any fun x=>!Cr g x) = !t.images.all (Cr g) by rw [B5,Bool.not_not]] at hcf
   have wn:IntKind.i64.wrap ((t.images.length:Int)+1)=t.images.length+1:=wi (by omega)
   generalize hAll:t.images.all (Cr g)=Q at hcf hI
   generalize hC:(decide (t.seq=seq)&&(decide (t.seq<=4294967295)&&(decide (t.pos=pos)&&(decide (2<=t.n)&&(decide (t.n<=left)&&(decide (t.n=t.images.length+1)&&Q))))))=C at hI
   clear hAll hm hi hdr hA
   conv=>whnf
   repeat' (first | (refine aSeq.go ?_;conv=>whnf) | fail)
   repeat' (first | (refine Af (fun h=>?_) (fun h=>?_) <;> (try simp at h) <;> conv=>whnf) | (refine aSeq.go ?_;conv=>whnf) | (refine Fn.cl hcf ?_;conv=>whnf))
   all_goals try (exact⟨_,ri,by rw [hI,show C=false by (rw [<-hC,<-Br];clear hI hC hcf;simp [*] <;> omega)];rfl⟩)
   have hC1:C=true:=by rw [<-hC];clear hI hC hcf;simp [*] <;> omega
   rw [hC1,Be] at hI
   have wn':t.n=t.images.length+1:=by omega
   have w1:IntKind.i64.wrap (pos+t.n)=pos+t.n:=wi (by omega)
   have w2:IntKind.i64.wrap (seq+1)=seq+1:=wi (by omega)
   have w3:IntKind.i64.wrap (left - t.n)=left - t.n:=wi (by omega)
   apply aDraw.treeK (0) tys_ok mixed (.one 0 (.one 1 (.one 2 (.one 3 (.one 4 (.one 5 (.one 6 (.one 7 (.one 8 (.one 9 (.one 10 (.one 11 (.one 12 (.one 13 (.one 14 (.one 15 .fin)))))))))))))))) (by kernel_rfl)
   conv=>whnf
   try (refine And.intro (by first | omega | (simp;done)) ?_;conv=>whnf)
   rw [w1,w2,w3]
   have hq1:=A6 g.sl (show 0<=pos+t.n by omega)
   have hq2:=Au (pos+t.n) (show 0<g.sl by omega)
   exact⟨(k+1,(pos+t.n).tmod g.sl,seq+1,left - t.n),⟨hk',⟨hq1,hq2⟩,(show 0<=seq+1/\seq+1<=4294967296 by omega),(show 0<=left - t.n/\left - t.n<=30 by omega),hI⟩,(show l.length - (k+1)<l.length - k by omega),WkN.r (s:= []) ⟨⟨rfl,rfl,rfl,rfl,rfl,rfl,rfl,A4 (by omega),trivial⟩,trivial,rfl,rfl,rfl,rfl,rfl⟩⟩
  ·have ek:k=l.length:=by omega
   subst ek
   exact⟨_,ri,by rw [hI,List.drop_length];rfl⟩
def FB (g:Geo):Int:=1+g.sl+g.z*(2+g.d)
theorem Nr {g:Geo} (hg:AW g=true):18<=FB g/\FB g<=55/\(3<=g.z*(2+g.d)/\g.z*(2+g.d)<=24):=by
 obtain⟨g1,g2,g3,g4,g5⟩:=Ao.1 hg
 have h1:g.z*(2+g.d)<=4*6:=Dn (by omega) (by omega) (by omega) (by omega)
 have h2:1*3<=g.z*(2+g.d):=Dn (by omega) (by omega) (by omega) (by omega)
 unfold FB
 omega
theorem SA (g:Geo) (hg:AW g=true):Fn Tryz.prog 59 [.ag (A9 g)] fun r=>r = .v (.int .i64 (FB g)):=by
 obtain⟨g1,g2,g3,g4,g5⟩:=Ao.1 hg
 have hu:=Nr hg
 have w:IntKind.i64.wrap (IntKind.i64.wrap (1+g.sl)+IntKind.i64.wrap (g.z*IntKind.i64.wrap (2+g.d)))=FB g:=by
  rw [wi (n:=2+g.d) (by omega),wi (n:=g.z*(2+g.d)) (by omega),wi (n:=1+g.sl) (by omega)]
  exact wi (by unfold FB at hu;omega)
 refine Fn.st Tryz.func59 rfl ?_
 exact⟨_,ri,by rw [w]⟩
def KB (n:Int) (l:List Int) (i:Nat):Bool:=decide (0<=l.getD i 0)&&(decide (l.getD i 0<n)&&(decide (i=0) || decide (l.getD (i - 1) 0<l.getD i 0)))
def KC (n:Int) (l:List Int):Bool:=(List.range l.length).all (KB n l)
theorem R8 {n:Int} {l:List Int} {k:Nat} (h:(List.range k).all (KB n l)=true) (e:KB n l k=true):(List.range (k+1)).all (KB n l)=true:=by
 rw [Bf,List.all_append,h,Be,Bl,e];rfl
theorem V4 {n:Int} {l:List Int} {k:Nat} (hk:k<l.length) (e:KB n l k=false):KC n l=false:=by
 rw [KC,<-Br,A8]
 intro h
 rw [h k (AA.2 hk)] at e
 cases e
def EV (g:Geo) (s:Stt):Bool:=KC (g.z*g.d) s.lost&&(decide (0<=s.found)&&(decide (0<=s.fixed)&&decide (0<=s.moved)))
def XL (s:Stt):List AV:= [.v (.int .i64 s.found), .v (.int .i64 s.fixed), .v (.int .i64 s.moved),iA s.lost]
theorem PN (g:Geo) (s:Stt) (hg:AW g=true) (hl:s.lost.length<=1000000):Fn Tryz.prog 60 [.ag (A9 g), .ag (XL s)] fun r=>r = .v (.bool (EV g s)):=by
 obtain⟨g1,g2,g3,g4,g5⟩:=Ao.1 hg
 have hm1:g.z*g.d<=4*4:=Dn (by omega) (by omega) (by omega) (by omega)
 have hm0:0<=g.z*g.d:=Dm (by omega) (by omega)
 have wm:IntKind.i64.wrap (g.z*g.d)=g.z*g.d:=wi (by omega)
 refine Fn.st Tryz.func60 rfl ?_
 conv=>whnf
 refine aLoop.ruleRR Nat (fun k=>([(2, .bp 0 0),(3, .bp 1 0),(8,iA s.lost),(9, .v (.int .i64 s.lost.length)),(10, .v (.int .i64 k))], [.box 23 (A9 g), .box 42 (XL s)])) (fun k=>k<=s.lost.length/\(List.range k).all (KB (g.z*g.d) s.lost)=true) (fun k=>s.lost.length - k) 0 ⟨Ae _,rfl⟩
  (WkN.r (s:= [0,1]) ⟨⟨rfl,rfl,rfl,rfl,rfl,trivial⟩,⟨rfl,rfl,trivial⟩,rfl,rfl,rfl,rfl,rfl⟩) ?_
 rintro k ⟨hk,hI⟩
 conv=>whnf
 refine Al (fun h6=>?_) (fun h6=>?_) <;> (repeat rw [Aa] at h6) <;> conv=>whnf
 ·have hk':k<s.lost.length:=by omega
  have hno:=V4 (n:=g.z*g.d) hk'
  have hyes:=R8 hI (n:=g.z*g.d) (l:=s.lost)
  unfold KB at hno hyes
  repeat' (first | (refine aSeq.go ?_;conv=>whnf) | fail)
  refine⟨⟨by omega,by omega⟩,?_⟩
  conv=>whnf
  repeat' (first | (refine aSeq.go ?_;conv=>whnf) | fail)
  rw [Aa]
  refine Al (fun q1=>?_) (fun q1=>?_)
  ·conv=>whnf
   exact⟨_,ri,by rw [EV,hno (by rw [<-Br];simp only [Bool.and_eq_true,Ci,decide_eq_true_eq];omega),CK]⟩
  ·conv=>whnf
   rw [wm]
   refine Al (fun q2=>?_) (fun q2=>?_)
   ·conv=>whnf
    exact⟨_,ri,by rw [EV,hno (by rw [<-Br];simp only [Bool.and_eq_true,Ci,decide_eq_true_eq];omega),CK]⟩
   ·conv=>whnf
    have wk:IntKind.i64.wrap ((k:Int) - 1)=(k:Int) - 1:=wi (by omega)
    refine Al (fun q3=>?_) (fun q3=>?_)
    ·conv=>whnf
     rw [wk]
     refine⟨⟨by omega,by omega⟩,?_⟩
     conv=>whnf
     rw [show ((k:Int) - 1).toNat=k - 1 by omega]
     refine Al (fun q4=>?_) (fun q4=>?_)
     ·conv=>whnf
      exact⟨_,ri,by rw [EV,hno (by rw [<-Br];simp only [Bool.and_eq_true,Ci,decide_eq_true_eq];omega),CK]⟩
     ·conv=>whnf
      exact⟨k+1,⟨hk',hyes (by simp only [Bool.and_eq_true,Ci,decide_eq_true_eq];omega)⟩,by omega,WkN.r (s:= [0,1]) ⟨⟨rfl,rfl,rfl,rfl,A4 (by omega),trivial⟩,⟨rfl,rfl,trivial⟩,rfl,rfl,rfl,rfl,rfl⟩⟩
    ·conv=>whnf
     exact⟨k+1,⟨hk',hyes (by simp only [Bool.and_eq_true,Ci,decide_eq_true_eq];omega)⟩,by omega,WkN.r (s:= [0,1]) ⟨⟨rfl,rfl,rfl,rfl,A4 (by omega),trivial⟩,⟨rfl,rfl,trivial⟩,rfl,rfl,rfl,rfl,rfl⟩⟩
 ·have ek:k=s.lost.length:=by omega
  have hlo:KC (g.z*g.d) s.lost=true:=by rw [KC,<-ek];exact hI
  refine⟨_,fun _ _ h=>h,?_⟩
  rw [EV,hlo,Be]
  refine congrArg (fun b=>AV.v (.bool b)) ?_
  rw [Cj]
  simp only [Bool.and_eq_true,decide_eq_true_eq]
  repeat' split
  all_goals omega
def SK (g:Geo) (d:Dk) (s:Stt):Bool:=AW g&&((Ls d&&decide ((d.cells.length:Int)=Az g))&&(((AW g&&AY g s.a)&&FE g s.txns s.a.seq s.a.pos g.sl)&&(decide (0<=s.cursor)&&(decide (s.cursor<FB g)&&EV g s))))
structure StBig (s:Stt):Prop where
 l:s.a.label.size<=1000000
 h:s.a.homes.length<=1000000
 t:s.txns.length<=1000000/\∀ t∈s.txns,t.images.length<=1000000/\∀ x∈t.images,x.bytes.length<=100000
 o:s.lost.length<=1000000
theorem St (g:Geo) (d:Dk) (s:Stt) (h1:d.cells.length<=1000000) (h2:d.cache.length<=1000000) (hs:StBig s):Fn Tryz.prog 19 [.ag (A9 g), .ag (F8 d), .ag (FX s)] fun r=>r = .v (Ea (SK g d s)):=by
 have hG:Fn Tryz.prog 46 [.ag (A9 g)] fun r=>r = .v (Ea (AW g)):=Ct g.z g.d g.sp g.sl g.an
 unfold SK
 cases hg:AW g with
 | false=>
  rw [hg] at hG
  refine Fn.st Tryz.func19 rfl ?_
  conv=>whnf
  refine Fn.cl hG ?_
  exact⟨_,ri,rfl⟩
 | true=>
  rw [hg] at hG
  have hz:=Nz g d hg h1 h2
  have hr:=Mz g s.a s.txns hs.l hs.h hs.t.1 hs.t.2
  rw [hg] at hr
  have hu:=SA g hg
  have hh:=PN g s hg hs.o
  generalize (Ls d&&decide ((d.cells.length:Int)=Az g))=Z at hz |-
  generalize ((true&&AY g s.a)&&FE g s.txns s.a.seq s.a.pos g.sl)=R at hr |-
  generalize EV g s=Q at hh |-
  generalize FB g=U at hu |-
  cases Z with
  | false=>
   refine Fn.st Tryz.func19 rfl ?_
   conv=>whnf
   refine Fn.cl hG ?_
   conv=>whnf
   refine Fn.cl hz ?_
   exact⟨_,ri,rfl⟩
  | true=>
   cases R with
   | false=>
    refine Fn.st Tryz.func19 rfl ?_
    conv=>whnf
    refine Fn.cl hG ?_
    conv=>whnf
    refine Fn.cl hz ?_
    conv=>whnf
    refine Fn.cl hr ?_
    exact⟨_,ri,rfl⟩
   | true=>
    refine Fn.st Tryz.func19 rfl ?_
    conv=>whnf
    refine Fn.cl hG ?_
    conv=>whnf
    refine Fn.cl hz ?_
    conv=>whnf
    refine Fn.cl hr ?_
    conv=>whnf
    refine aDraw.seq tys_ok mixed (by kernel_rfl) ?_
    conv=>whnf
    refine Al (fun q1=>?_) (fun q1=>?_)
    ·conv=>whnf
     exact⟨_,ri,by rw [decide_eq_false (by omega)];rfl⟩
    ·conv=>whnf
     refine Fn.cl hu ?_
     conv=>whnf
     refine Al (fun q2=>?_) (fun q2=>?_)
     ·conv=>whnf
      exact⟨_,ri,by rw [decide_eq_true (p:=0<=s.cursor) (by omega),decide_eq_false (p:=s.cursor<U) (by omega)];rfl⟩
     ·conv=>whnf
      refine Fn.cl hh ?_
      conv=>whnf
      rw [decide_eq_true (p:=0<=s.cursor) (by omega),decide_eq_true (p:=s.cursor<U) (by omega)]
      cases Q with
      | false=>exact⟨_,ri,rfl⟩
      | true=>exact⟨_,ri,rfl⟩
theorem RT (s t:Stt) (h:s.lost.length<=1000000):Fn Tryz.prog 54 [.ag [.v (.int .i64 s.found), .v (.int .i64 s.fixed), .v (.int .i64 s.moved),iA s.lost], .ag [.v (.int .i64 t.found), .v (.int .i64 t.fixed), .v (.int .i64 t.moved),iA t.lost]] fun r=>r = .v (.bool (decide (s.found=t.found/\s.fixed=t.fixed/\s.moved=t.moved/\s.lost=t.lost))):=by
 have hi:=Q6 s.lost t.lost (by omega)
 refine Fn.st Tryz.func54 rfl ?_
 conv=>whnf
 repeat' (first | (refine Af (fun h=>?_) (fun h=>?_) <;> (try simp at h) <;> conv=>whnf) | (refine aDraw.seq tys_ok mixed (by kernel_rfl) ?_;conv=>whnf) | (refine aSeq.go ?_;conv=>whnf) | (refine Fn.cl hi ?_;conv=>whnf) | (refine And.intro (by omega) ?_;conv=>whnf))
 all_goals exact⟨_,ri,by congr 2;rw [Cj];simp [*]⟩
theorem UF {a b:An}:a=b↔a.gen=b.gen/\a.epoch=b.epoch/\a.pos=b.pos/\a.seq=b.seq/\a.last=b.last/\a.label=b.label/\a.homes=b.homes:=by
 cases a;cases b;simp
theorem TX {a b:Hm}:a=b↔a.places=b.places/\a.next=b.next/\a.root=b.root:=by
 cases a;cases b;simp
theorem Io {α:Type} {d:α} {l m:List α} {k:Nat} (hl:k<l.length) (hm:k<m.length) (h:l.take k=m.take k) (e:l.getD k d=m.getD k d):l.take (k+1)=m.take (k+1):=by
 rw [List.getD_eq_getElem?_getD,List.getD_eq_getElem?_getD,List.getElem?_eq_getElem hl,List.getElem?_eq_getElem hm] at e
 have e:l[k]=m[k]:=by simpa using e
 rw [Ar hl,Ar hm,h,e]
theorem UU (s:ByteArray):∀ (n i:Nat) (r:List UInt8),s.size - i=n->ByteArray.toList.loop s i r=r.reverse ++ s.data.toList.drop i:=by
 intro n
 induction n with
 | zero=>
  intro i r h
  rw [ByteArray.toList.loop,if_neg (by omega),As (by show s.data.toList.length<=i;rw [Ch];show s.size<=i;omega),List.append_nil]
 | succ n ih=>
  intro i r h
  have hi:i<s.size:=by omega
  have hi':i<s.data.toList.length:=by rw [Ch];exact hi
  rw [ByteArray.toList.loop,if_pos hi,ih (i+1) _ (by omega),AL hi',List.reverse_cons,List.append_assoc]
  congr 2
  show s.get! i::_=_
  congr 1
  show s.data[i]! = _
  rw [getElem!_pos s.data i hi]
  simp
theorem V9 {s t:ByteArray} (h:s.toList=t.toList):s=t:=by
 have e:∀ x:ByteArray,x.toList=x.data.toList:=fun x=>by
  rw [ByteArray.toList,UU x _ 0 [] rfl];rfl
 rw [e,e] at h
 exact ByteArray.ext (Array.toList_inj.mp h)
theorem P7 (a b:An) (hh:a.homes.length<=1000000) (hp:∀ h∈a.homes,h.places.length<=1000000):Fn Tryz.prog 53 [.ag (CN a), .ag (CN b)] fun r=>r = .v (.bool (decide (a=b))):=by
 refine Fn.st Tryz.func53 rfl ?_
 conv=>whnf
 repeat' (first | (refine Af (fun h=>?_) (fun h=>?_) <;> (try simp at h) <;> conv=>whnf) | (refine aDraw.seq tys_ok mixed (by kernel_rfl) ?_;conv=>whnf) | (refine aSeq.go ?_;conv=>whnf) | (refine And.intro (by omega) ?_;conv=>whnf))
 all_goals try (exact⟨_,ri,by rw [decide_eq_false];rw [UF];intro hx;simp_all⟩)
 have hlen:a.homes.length=b.homes.length:=by omega
 have hlab:a.label=b.label:=V9 (by assumption)
 have hrest:a=b↔a.homes=b.homes:=by rw [UF];simp [*]
 refine aLoop.ruleRR Nat (fun k=>([(2, .bp 0 0),(3, .bp 1 0),(5, .v (.int .i64 k))], [.box 40 (CN a), .box 40 (CN b)])) (fun k=>k<=a.homes.length/\a.homes.take k=b.homes.take k) (fun k=>a.homes.length - k) 0 ⟨Ae _,rfl⟩
  (WkN.r (s:= [0,1]) ⟨⟨rfl,rfl,rfl,trivial⟩,⟨rfl,rfl,trivial⟩,rfl,rfl,rfl,rfl,rfl⟩) ?_
 rintro k ⟨hk,hI⟩
 conv=>whnf
 refine Al (fun h6=>?_) (fun h6=>?_) <;> (repeat rw [Aa] at h6) <;> conv=>whnf
 ·have hk':k<a.homes.length:=by omega
  have hk2:k<b.homes.length:=by omega
  have hi:=Q6 (a.homes.getD k ⟨[],0,0⟩).places (b.homes.getD k ⟨[],0,0⟩).places (by have:=hp _ (AC (d:=(⟨[],0,0⟩:Hm)) hk');omega)
  have hno:a.homes.getD k ⟨[],0,0⟩≠b.homes.getD k ⟨[],0,0⟩->decide (a=b)=false:=fun hne=>decide_eq_false fun e=>hne (by rw [e])
  have hyes:=Io (d:=(⟨[],0,0⟩:Hm)) hk' hk2 hI
  rw [TX] at hyes
  rw [Ne,TX] at hno
  clear hrest hI hlen
  repeat' (first | (refine aSeq.go ?_;conv=>whnf) | fail)
  refine aDraw.seq tys_ok mixed (by kernel_rfl) ?_
  refine⟨⟨by omega,by omega⟩,?_⟩
  refine⟨⟨by omega,by omega⟩,?_⟩
  conv=>whnf
  rw [Aa]
  generalize hx:a.homes.getD k ⟨[],0,0⟩=x at hi hno hyes |-
  generalize hy:b.homes.getD k ⟨[],0,0⟩=y at hi hno hyes |-
  refine Fn.cl hi ?_
  conv=>whnf
  by_cases q1:x.places=y.places
  ·rw [decide_eq_true q1]
   refine⟨⟨by omega,by omega⟩,?_⟩
   refine⟨⟨by omega,by omega⟩,?_⟩
   conv=>whnf
   rw [Aa,hx,hy]
   refine Al (fun q2=>?_) (fun q2=>?_)
   ·exact⟨_,ri,by rw [hno fun e=>q2 e.2.1]⟩
   ·refine⟨⟨by omega,by omega⟩,?_⟩
    refine⟨⟨by omega,by omega⟩,?_⟩
    conv=>whnf
    rw [Aa,hx,hy]
    refine Al (fun q3=>?_) (fun q3=>?_)
    ·exact⟨_,ri,by rw [hno fun e=>q3 e.2.2]⟩
    ·exact⟨k+1,⟨hk',hyes ⟨q1,q2,q3⟩⟩,by omega,WkN.r (s:= [0,1]) ⟨⟨rfl,rfl,A4 (by omega),trivial⟩,⟨rfl,rfl,trivial⟩,rfl,rfl,rfl,rfl,rfl⟩⟩
  ·rw [decide_eq_false q1]
   exact⟨_,ri,by rw [hno fun e=>q1 e.1]⟩
 ·have ek:k=a.homes.length:=by omega
  subst ek
  have he:a.homes=b.homes:=by
   rw [List.take_length,hlen,List.take_length] at hI;exact hI
  exact⟨_,ri,by rw [decide_eq_true (hrest.2 he)]⟩
end Go.Proofs.YtldngmdpiifamaaGreatDoor.A
end
