/-
Several texts in one.
-/
import Derived.Test.YtldngmdpiifamaaGreatDoorPPB3P3
import Derived.Test.YtldngmdpiifamaaGreatDoorPPB3P2
import Derived.Test.YtldngmdpiifamaaGreatDoorPPB3P1
set_option maxRecDepth 100000
set_option maxHeartbeats 8000000
set_option linter.unusedSimpArgs false
set_option linter.unusedVariables false
section
namespace Go.Proofs.YtldngmdpiifamaaGreatDoor.A
open Go.RowKit
theorem K9 {g:Geo} {x:Gt} {copy slot:Int} {r:Rc} (h:Cc g x copy slot=some r):DH g r=true/\Gh g copy slot=true/\r.img.bytes.length<=59:=by
 unfold Cc at h
 split at h
 ·rename_i hc
  simp only [Bool.and_eq_true] at hc
  split at h
  ·rename_i r' hr
   split at h
   ·injection h with h
    subst h
    obtain⟨h1,h2⟩:=PN hr
    have h3:=Eh h1
    have h4:=I7 h1
    refine⟨h1,hc.1.1.1.2,?_⟩
    by_cases hk:r'.kind=1
    ·rw [if_pos hk] at h4
     omega
    ·have:r'.img.bytes.length=0:=by
      unfold DH DQ at h1
      simp only [Bool.and_eq_true] at h1
      have h5:=h1.2
      split at h5
      ·simp only [Fe,Bool.and_eq_true,beq_iff_eq] at h5
       omega
      ·split at h5
       ·simp only [Fe,Bool.and_eq_true,beq_iff_eq] at h5
        omega
       ·cases h5
     omega
   ·cases h
  ·cases h
 ·cases h
theorem OD {p q:Option Rc} {b1 b2:Bool} {Q:Rc->Prop} (h1:b1=true->∃ r,p=some r/\Q r) (h2:b2=true->∃ r,q=some r/\Q r) :
  ((BT p q b1 b2).2.2=1/\Q (BT p q b1 b2).1/\(BT p q b1 b2).2.1.length<=1/\∀ c∈(BT p q b1 b2).2.1,c=0\/c=1)\/(((BT p q b1 b2).2.2=2\/(BT p q b1 b2).2.2=3)/\(BT p q b1 b2).2.1=[]/\(BT p q b1 b2).1=zeroC):=by
 unfold BT
 cases b1 <;> cases b2
 ·by_cases h:(p.isSome || q.isSome)=true
  ·simp [h]
  ·simp [h]
 ·obtain⟨r,rfl,hr⟩:=h2 rfl
  exact .inl ⟨rfl,hr,by simp,by simp⟩
 ·obtain⟨r,rfl,hr⟩:=h1 rfl
  exact .inl ⟨rfl,hr,by simp,by simp⟩
 ·obtain⟨r,rfl,hr⟩:=h1 rfl
  exact .inl ⟨rfl,hr,by simp,by simp⟩
theorem O6 {g:Geo} {a:An} {x:Gt} {c slot seq at_ of_ left:Int} (h:CJ (Cc g x c slot) a seq at_ of_ left=true):∃ r,Cc g x c slot=some r/\DH g r=true/\r.img.bytes.length<=59/\C_ r a seq at_ of_ left=true:=by
 cases hp:Cc g x c slot with
 | none=>rw [hp] at h;cases h
 | some r=>
  rw [hp] at h
  obtain⟨e1, -,e3⟩:=K9 hp
  exact⟨r,rfl,e1,e3,h⟩
theorem GW {g:Geo} {a:An} {x y:Gt} {slot seq at_ of_ left:Int} (hs:0<=slot/\slot<g.sl) :
  ((Dv g a x y slot seq at_ of_ left).2.2=1/\(DH g (Dv g a x y slot seq at_ of_ left).1=true/\(Dv g a x y slot seq at_ of_ left).1.img.bytes.length<=59/\C_ (Dv g a x y slot seq at_ of_ left).1 a seq at_ of_ left=true)/\(Dv g a x y slot seq at_ of_ left).2.1.length<=1/\∀ c∈(Dv g a x y slot seq at_ of_ left).2.1,Gh g c slot=true)\/
  (((Dv g a x y slot seq at_ of_ left).2.2=2\/(Dv g a x y slot seq at_ of_ left).2.2=3)/\(Dv g a x y slot seq at_ of_ left).2.1=[]/\(Dv g a x y slot seq at_ of_ left).1=zeroC):=by
 have hi:BP slot 0 (g.sl - 1)=true:=AI.2 (by omega)
 have o0:Gh g 0 slot=true:=by rw [Gh,hi];rfl
 have o1:Gh g 1 slot=true:=by rw [Gh,hi];rfl
 refine(OD (Q:=fun r=>DH g r=true/\r.img.bytes.length<=59/\C_ r a seq at_ of_ left=true) O6 O6).imp (fun h=>⟨h.1,h.2.1,h.2.2.1,fun c hc=>?_⟩) id
 rcases h.2.2.2 c hc with rfl | rfl
 ·exact o0
 ·exact o1
def gz:Gt:=⟨0, []⟩
def AW (g:Geo) (pos at_:Int):Int:=(IntKind.i64.wrap (pos+at_)).tmod g.sl
def Cz (g:Geo) (a:An) (x y:List Gt) (pos seq left at_ of_:Int):Rc × Int × List Wr:=
 let s:=AW g pos at_
 let q:=Dv g a (x.getD s.toNat gz) (y.getD s.toNat gz) s seq at_ of_ left
 (q.1,q.2.2,q.2.1.map fun c=>⟨AN g c s,C6 g q.1 c s⟩)
def AX (look:Int->Rc × Int × List Wr):Nat->Int->Rc->List Img->List Wr->Int × List Img × List Wr
 | 0,_,r,im,w=>(1,if r.kind=1 then im ++ [r.img] else im,w)
 | f+1,at_,r,im,w=>
  let q:=look at_
  if q.2.1≠1 then (q.2.1, [], []) else AX look f (at_+1) q.1 (if r.kind=1 then im ++ [r.img] else im) (w ++ q.2.2)
def DE (g:Geo) (a:An) (x y:List Gt) (pos seq left:Int):Int × Int × List Img × List Wr:=
 let q:=Cz g a x y pos seq left 0 0
 if q.2.1≠1 then (q.2.1,0, [], []) else
  let t:=AX (fun k=>Cz g a x y pos seq left k q.1.of_) (q.1.of_ - 1).toNat 1 q.1 [] q.2.2
  if t.1≠1 then (t.1,0, [], []) else (1,q.1.of_,t.2.1,t.2.2)
def CZ (g:Geo) (a:An) (x y:List Gt):Nat->Int->Int->Int->List Tx->List Wr->Option (List Tx × List Wr × Int)
 | 0,_,seq,_,l,w=>some (l,w,seq)
 | f+1,pos,seq,left,l,w=>
  if 0<left/\seq<=4294967295 then
   let t:=DE g a x y pos seq left
   if t.1=3 then none else if t.1≠1 then some (l,w,seq)
   else CZ g a x y f ((pos+t.2.1).tmod g.sl) (seq+1) (left - t.2.1) (l ++ [⟨seq,pos,t.2.1,t.2.2.1⟩]) (w ++ t.2.2.2)
  else some (l,w,seq)
def damaged:Int:=12
def LB (a:An):Option (List Tx × List Wr × Int)->List Tx × List Wr × Int
 | none=>([], [],damaged)
 | some (l,w,seq)=>if seq - 1<a.last then ([], [],damaged) else (l,w,0)
theorem E3 {a:An} {l:List Tx} {w:List Wr} {seq:Int} (h:seq - 1<a.last):LB a (some (l,w,seq))=([], [],damaged):=if_pos h
theorem DO {a:An} {l:List Tx} {w:List Wr} {seq:Int} (h:¬seq - 1<a.last):LB a (some (l,w,seq))=(l,w,0):=if_neg h
def CY (g:Geo) (a:An) (x y:List Gt):List Tx × List Wr × Int:=LB a (CZ g a x y g.sl.toNat a.pos a.seq g.sl [] [])
theorem K2 {g:Geo} {pos at_:Int} (hg:AS g=true) (hp:0<=pos/\pos<g.sl) (hat:0<=at_/\at_<=1000):0<=AW g pos at_/\AW g pos at_<g.sl:=by
 obtain⟨h1,h2,h3,h4,h5⟩:=Am.1 hg
 have hw:IntKind.i64.wrap (pos+at_)=pos+at_:=by rw [IntKind.wrap_i64];omega
 exact⟨AD _ (by rw [hw];omega),A3 _ (by omega)⟩
theorem ED {g:Geo} {a:An} {x y:List Gt} {pos seq left at_ of_:Int} (hg:AS g=true) (hp:0<=pos/\pos<g.sl) (hat:0<=at_/\at_<=1000) :
  ((Cz g a x y pos seq left at_ of_).2.1=1/\(DH g (Cz g a x y pos seq left at_ of_).1=true/\(Cz g a x y pos seq left at_ of_).1.img.bytes.length<=59/\C_ (Cz g a x y pos seq left at_ of_).1 a seq at_ of_ left=true)/\(Cz g a x y pos seq left at_ of_).2.2.length<=1)\/
  (((Cz g a x y pos seq left at_ of_).2.1=2\/(Cz g a x y pos seq left at_ of_).2.1=3)/\(Cz g a x y pos seq left at_ of_).2.2=[]/\(Cz g a x y pos seq left at_ of_).1=zeroC):=by
 refine(GW (a:=a) (x:=x.getD (AW g pos at_).toNat gz) (y:=y.getD (AW g pos at_).toNat gz) (seq:=seq) (at_:=at_) (of_:=of_) (left:=left) (K2 hg hp hat)).imp (fun h=>⟨h.1,h.2.1,?_⟩) (fun h=>⟨h.1,?_,h.2.2⟩)
 ·simp only [Cz,Ab]
  exact h.2.2.1
 ·simp only [Cz,h.2.1,By]
theorem GQ {r:Rc} {g:Geo} {a:An} {seq at_ of_ left:Int} (hk:DH g r=true) (h:C_ r a seq at_ of_ left=true):2<=r.of_/\r.of_<=30/\r.at_=at_/\r.at_<=r.of_ - 1/\(of_=0->r.of_<=left)/\(of_≠0->r.of_=of_):=by
 have h:=of_decide_eq_true h
 unfold DH DQ at hk
 simp only [Bool.and_eq_true] at hk
 have h2:=hk.2
 rw [if_neg h.1] at h2
 split at h2
 ·simp only [E8,Bool.and_eq_true,AI] at h2
  refine⟨by omega,by omega,h.2.2.1,by omega,h.2.2.2.1,h.2.2.2.2.1⟩
 ·split at h2
  ·simp only [E8,Bool.and_eq_true,AI,beq_iff_eq] at h2
   refine⟨by omega,by omega,h.2.2.1,by omega,h.2.2.2.1,h.2.2.2.2.1⟩
  ·cases h2
@[reducible] def Rz (g:Geo) (a:An) (x y:List Gt) (pos seq left:Int) (w:AV):List AV:=
 [.v (.int .i64 g.z), .v (.int .i64 g.d), .v (.int .i64 g.sp), .v (.int .i64 g.sl), .v (.int .i64 g.an), .v (.int .i64 a.gen), .v (.int .i64 a.epoch), .v (.int .i64 a.pos), .v (.int .i64 a.seq), .v (.int .i64 a.last), .v (.string a.label),H4 a.homes,BZ x,BZ y, .v (.int .i64 pos), .v (.int .i64 seq), .v (.int .i64 left),w]
theorem RJ (g:Geo) (a:An) (x y:List Gt) (pos seq left at_ of_:Int) (n:Nat) (W:List Wr) (hg:AS g=true) (ha:AY g a=true) (hl:a.label.size<=1000000) (hh:a.homes.length<=1000000) (hx:x.length=g.sl) (hy:y.length=g.sl) (hxb:∀ z∈x,z.bytes.length<=100000) (hyb:∀ z∈y,z.bytes.length<=100000) (hp:0<=pos/\pos<g.sl) (hat:0<=at_/\at_<=1000) :
  ACalls Tryz.prog false 210 [.bp 0 0, .v (.int .i64 at_), .v (.int .i64 of_)] [.box 231 (Rz g a x y pos seq left (.ow 1 n)), .row 130 2 (W.map DA)]
   fun r H=>r = .tp [.ag (EE (Cz g a x y pos seq left at_ of_).1), .v (.int .i64 (Cz g a x y pos seq left at_ of_).2.1), .ow 4 (Cz g a x y pos seq left at_ of_).2.2.length]/\
    H=[.box 231 (Rz g a x y pos seq left (.ow 1 n)), .row 130 2 (W.map DA), .dead, .dead, .row 130 2 ((Cz g a x y pos seq left at_ of_).2.2.map DA)]:=by
 obtain⟨h1,h2,h3,h4,h5⟩:=Am.1 hg
 refine ACalls.ofO tys_ok Tryz.func210 rfl rfl (by show 3<=_;decide) ?_
 conv=>whnf
 refine aDraw.seq tys_ok mixed (by kernel_rfl) ?_
 refine⟨by omega,?_⟩
 conv=>whnf
 have hw:IntKind.i64.wrap (pos+at_)=pos+at_:=by rw [IntKind.wrap_i64];omega
 have hs:0<=AW g pos at_/\AW g pos at_<g.sl:=⟨AD _ (by rw [hw];omega),A3 _ (by omega)⟩
 have hs':0<=(IntKind.i64.wrap (pos+at_)).tmod g.sl/\(IntKind.i64.wrap (pos+at_)).tmod g.sl<g.sl:=hs
 have hX:(x.getD (AW g pos at_).toNat gz).bytes.length<=100000:=hxb _ (AE (by omega))
 have hY:(y.getD (AW g pos at_).toNat gz).bytes.length<=100000:=hyb _ (AE (by omega))
 have lk:=V9 (g:=g) (a:=a) (x:=x.getD (AW g pos at_).toNat gz) (y:=y.getD (AW g pos at_).toNat gz) (slot:=AW g pos at_) (seq:=seq) (at_:=at_) (of_:=of_) (left:=left) hl hh hX hY hg ha (AI.2 (by omega)) rfl
 have hF:=GW (g:=g) (a:=a) (x:=x.getD (AW g pos at_).toNat gz) (y:=y.getD (AW g pos at_).toNat gz) (slot:=AW g pos at_) (seq:=seq) (at_:=at_) (of_:=of_) (left:=left) hs
 unfold Cz
 simp only
 generalize Dv g a (x.getD (AW g pos at_).toNat gz) (y.getD (AW g pos at_).toNat gz) (AW g pos at_) seq at_ of_ left=q at lk hF |-
 obtain⟨r,wants,how⟩:=q
 simp only at hF |-
 apply aDraw.tree tys_ok mixed (.one 0 (.one 1 (.one 2 (.one 3 (.one 4 (.one 5 (.one 6 (.one 7 (.one 8 (.one 9 (.one 10 (.one 11 (.one 12 (.one 13 (.one 14 (.one 15 (.one 16 (.one 17 (.one 18 (.one 19 (.one 20 (.one 21 (.one 22 (.one 23 (.one 24 (.one 25 (.one 26 (.one 27 (.one 28 (.one 29 (.one 30 (.one 31 (.one 32 (.two 33 (.one 34 (.one 35 (.one 36 (.one 37 (.one 38 (.one 39 (.one 40 (.one 41 (.one 42 (.one 43 .fin)))))))))) 39 (.one 33 (.one 34 (.one 35 (.one 36 (.one 37 (.one 38 (.one 40 (.one 41 (.one 42 (.one 43 .fin)))))))))))))))))))))))))))))))))))))))))))) [10,11,12,13,33,34,35,36,37,38,39,40,41,42,43,44,45,46,47,48,49,50,51,52,53,54,55,56,57,58,59,60,61,62,63,64,65,66,67,68,69,70,71] (by kernel_rfl)
 ·conv=>whnf
  try (refine And.intro (by first | omega | (simp;done)) ?_;conv=>whnf)
  try (refine And.intro (by first | omega | (simp;done)) ?_;conv=>whnf)
  refine And.intro ?_ ?_
  ·conv=>whnf
   refine Fn.cl lk ?_
   conv=>whnf
   try (refine And.intro ⟨rfl,by first | rfl | (simp;done) | (simp;omega),by first | omega | (simp;omega)⟩ ?_;conv=>whnf)
   exact⟨rfl,rfl⟩
  ·conv=>whnf
   refine Fn.cl lk ?_
   conv=>whnf
   try (refine And.intro ⟨rfl,by first | rfl | (simp;done) | (simp;omega),by first | omega | (simp;omega)⟩ ?_;conv=>whnf)
   exact⟨rfl,rfl⟩
 conv=>whnf
 refine aLoop.rule Nat (fun k=>([(0, .bp 0 0),(6, .bp 2 0),(9, .v (.int .i64 (AW g pos at_))),(10, .bp 3 0),(12, .v (.int .i64 how)),(14, .ow 4 k),(72,iA wants),(73, .v (.int .i64 wants.length)),(74, .v (.int .i64 k))], [.box 231 (Rz g a x y pos seq left (.ow 1 n)), .row 130 2 (W.map DA), .box 85 [.v (.int .i64 0), .v (.int .i64 0), .v (.int .i64 0), .v (.int .i64 0), .v (.int .i64 0), .v (.int .i64 0), .v (.int .i64 0), .v (.slice none 0 0)], .box 85 (EE r), .row 130 2 ((wants.take k).map fun c=>DA ⟨AN g c (AW g pos at_),C6 g r c (AW g pos at_)⟩)])) (fun k=>k<=wants.length) (fun k=>wants.length - k) 0 (Ag _) ⟨[(14,130,2)],⟨rfl,rfl,trivial⟩,⟨rfl,rfl,rfl,rfl,rfl,rfl,rfl,rfl,rfl,trivial⟩,⟨rfl,rfl,rfl,rfl,rfl,trivial⟩,rfl,rfl,rfl⟩ ?_
 rintro k hk
 conv=>whnf
 refine Al (fun h6=>?_) (fun h6=>?_) <;> (repeat rw [Aa] at h6) <;> conv=>whnf
 ·rcases hF with ⟨rfl,⟨q1,q2,q3⟩,q4,q5⟩ | ⟨-,q4, -⟩
  ·have hc:=q5 (wants.getD k 0) (AE (by omega))
   have lg:=Nq g (wants.getD k 0) (AW g pos at_)
   rw [hg,hc] at lg
   have rl:=Ot g r (wants.getD k 0) (AW g pos at_) (by omega)
   rw [q1,hc] at rl
   refine aSeq.go ?_
   conv=>whnf
   refine⟨by first | omega | (refine⟨rfl,?_,?_⟩ <;> first | omega | (simp only [Ab];done) | (simp only [Ab];omega)) | (simp only [Ab];omega),?_⟩
   conv=>whnf
   repeat' (first | (refine aSeq.go ?_;conv=>whnf) | (refine Al (fun _=>?_) (fun _=>?_) <;> conv=>whnf) | (refine Fn.cl lg ?_;conv=>whnf) | (refine Fn.cl rl ?_;conv=>whnf) | (refine And.intro (by first | omega | exact of_decide_eq_true rfl) ?_;conv=>whnf) | fail)
   refine aDraw.seq tys_ok mixed (by kernel_rfl) ?_
   conv=>whnf
   repeat' (first | (refine aSeq.go ?_;conv=>whnf) | (refine Al (fun _=>?_) (fun _=>?_) <;> conv=>whnf) | (refine Fn.cl lg ?_;conv=>whnf) | (refine Fn.cl rl ?_;conv=>whnf) | (refine And.intro (by first | omega | exact of_decide_eq_true rfl) ?_;conv=>whnf) | fail)
   refine And.intro ⟨by simp;omega,by omega⟩ ?_
   exact⟨k+1,by omega,by omega, [],trivial,⟨rfl,rfl,rfl,rfl,rfl,rfl,rfl,rfl,AA (by omega),trivial⟩,⟨rfl,rfl,rfl,rfl,congrArg (AB.row _ _) (FU h6),trivial⟩,rfl,rfl,rfl⟩
  ·exfalso
   rw [q4] at h6
   simp at h6
 ·have ek:k=wants.length:=by omega
  subst ek
  rw [List.take_length]
  refine⟨.tp [.ag (EE r), .v (.int .i64 how), .ow 4 (wants.map fun c=>(⟨AN g c (AW g pos at_),C6 g r c (AW g pos at_)⟩:Wr)).length], [.box 231 (Rz g a x y pos seq left (.ow 1 n)), .row 130 2 (W.map DA), .dead, .dead, .row 130 2 ((wants.map fun c=>(⟨AN g c (AW g pos at_),C6 g r c (AW g pos at_)⟩:Wr)).map DA)],fun c v h=>?_,⟨rfl,rfl,?_,trivial⟩,rfl,⟨rfl,rfl⟩,rfl,rfl⟩
  ·rw [Ab]
   exact h
  ·rw [Dg]
   rfl
theorem U3 (b:List UInt8) (hl:b.length<=1000000000):Fn Tryz.prog 102 [bA b] fun r=>r=bA b:=by
 refine⟨⟨_,Tryz.func102,rfl,by decide⟩,fun c0 us hd hM _ hr=>?_⟩
 obtain⟨u,rfl,h1⟩:=Xd hr
 refine(Qq u b c0.w c0.M c0.M (Gk h1) hl).mono ?_
 rintro e w' ⟨r,rfl,ho,hB⟩
 exact⟨_,_,rfl,rfl,hB,ofBytes (c:={ c0 with w:=w' }) (ho.sl fun b hb hm=>by have:=hM b hm;omega)⟩
theorem Qy (k:Int) (c:Ctx) (u:Value) (h:Rd (.tp [.ag [.v (.int .i64 0), .v (.int .i64 0), .v (.int .i64 0), .v (.slice none 0 0)], .v (.int .i64 k)]) c u):Rd (.tp [.ag (Hi ⟨0,0,0, []⟩), .v (.int .i64 k)]) c u:=by
 refine Bu ?_ c u h
 exact⟨AG ⟨ri,ri,ri,AP _ _,trivial⟩,ri,trivial⟩
theorem V7 {m:Nat} (h:Nat.ble 2 m=true):∀ z∈ [0,1],z<m:=fun z hz=>by
 have:=Ad h
 simp at hz
 omega
theorem SU (g:Geo) (a:An) (x y:List Gt) (pos seq left:Int) (n:Nat) (W:List Wr) (hn:n=W.length) (hW:W.length<=1000) (hg:AS g=true) (ha:AY g a=true) (hl:a.label.size<=1000000) (hh:a.homes.length<=1000000) (hx:x.length=g.sl) (hy:y.length=g.sl) (hxb:∀ z∈x,z.bytes.length<=100000) (hyb:∀ z∈y,z.bytes.length<=100000) (hp:0<=pos/\pos<g.sl) (hs:0<=seq/\seq<=4294967295) (hlf:left<=g.sl) :
  ACalls Tryz.prog false 169 [.bp 0 0] [.box 231 (Rz g a x y pos seq left (.ow 1 n)), .row 130 2 (W.map DA)]
   fun r H=>r = .tp [.ag (Hi (if (DE g a x y pos seq left).1=1 then ⟨seq,pos,(DE g a x y pos seq left).2.1,(DE g a x y pos seq left).2.2.1⟩ else ⟨0,0,0, []⟩)), .v (.int .i64 (DE g a x y pos seq left).1)]/\
    H=(if (DE g a x y pos seq left).1=1 then [.box 231 (Rz g a x y ((pos+(DE g a x y pos seq left).2.1).tmod g.sl) (seq+1) (left - (DE g a x y pos seq left).2.1) (.ow 1 (W ++ (DE g a x y pos seq left).2.2.2).length)), .row 130 2 ((W ++ (DE g a x y pos seq left).2.2.2).map DA)] else [.box 231 (Rz g a x y pos seq left (.ow 1 n)), .row 130 2 (W.map DA)]):=by
 obtain⟨h1,h2,h3,h4,h5⟩:=Am.1 hg
 have rc:=fun at_ of_ hat=>RJ g a x y pos seq left at_ of_ n W hg ha hl hh hx hy hxb hyb hp hat
 have rf:=fun at_ of_ hat=>ED (a:=a) (x:=x) (y:=y) (seq:=seq) (left:=left) (of_:=of_) (at_:=at_) hg hp hat
 have rc0:=rc 0 0 (by omega)
 have rf0:=rf 0 0 (by omega)
 unfold DE
 simp only
 generalize Cz g a x y pos seq left 0 0=q0 at rc0 rf0 |-
 obtain⟨r0,how0,ws0⟩:=q0
 simp only at rc0 rf0 |-
 rcases rf0 with ⟨rfl,⟨k1,k2,k3⟩,k4⟩ | ⟨k1,rfl,rfl⟩
 ·have hN:=GQ k1 k3
  have hw1:IntKind.i64.wrap (pos+r0.of_)=pos+r0.of_:=by rw [IntKind.wrap_i64];omega
  have hw2:IntKind.i64.wrap (seq+1)=seq+1:=by rw [IntKind.wrap_i64];omega
  have hw3:IntKind.i64.wrap (left - r0.of_)=left - r0.of_:=by have:=hN.2.2.2.2.1 rfl;rw [IntKind.wrap_i64];omega
  rw [if_neg (show ¬(1:Int)≠1 by decide)]
  generalize hG:AX (fun k=>Cz g a x y pos seq left k r0.of_) (r0.of_ - 1).toNat 1 r0 [] ws0=G
  refine ACalls.of tys_ok Tryz.func169 rfl rfl (by show 1<=_;decide) ?_
  conv=>whnf
  refine ACalls.frame [0,1] rc0 rfl rfl rfl rfl (by decide) (V7 rfl) ⟨rfl,rfl,trivial⟩ ?_
  rintro _ _ ⟨rfl,rfl⟩
  conv=>whnf
  refine aDraw.seq tys_ok mixed (by kernel_rfl) ?_
  conv=>whnf
  refine aLoop.rule (Nat × Rc × List Img × List Wr) (fun z=>([(0, .bp 0 0),(2, .bp 2 0),(3, .v (.int .i64 1)),(4, .bp 6 0),(5, .ow 5 z.2.2.2.length),(6, .v (.int .i64 z.1))], [.box 231 (Rz g a x y pos seq left (.ow 1 n)), .row 130 2 (W.map DA), .box 78 [.v (.int .i64 seq), .v (.int .i64 pos), .v (.int .i64 r0.of_), .ow 7 z.2.2.1.length], .dead, .dead, .row 130 2 (z.2.2.2.map DA), .box 85 (EE z.2.1), .row 83 3 (z.2.2.1.map D4)]))
   (fun z=>(1<=z.1/\z.1<=r0.of_)/\(DH g z.2.1=true/\z.2.1.img.bytes.length<=59)/\(z.2.2.1.length<=z.1/\z.2.2.2.length<=z.1)/\AX (fun k=>Cz g a x y pos seq left k r0.of_) (r0.of_ - z.1).toNat z.1 z.2.1 z.2.2.1 z.2.2.2=G)
   (fun z=>(r0.of_ - z.1).toNat) (1,r0, [],ws0) ⟨⟨Nat.le_refl 1,show ((1:Nat):Int)<=r0.of_ by omega⟩,⟨k1,k2⟩,⟨Ag _,k4⟩,hG⟩ ⟨[(1002003,83,3)],⟨rfl,rfl,trivial⟩,⟨rfl,rfl,rfl,rfl,rfl,rfl,trivial⟩,⟨rfl,rfl,rfl,rfl,rfl,rfl,trivial⟩,rfl,rfl,rfl⟩ ?_
  rintro⟨k,r,im,w⟩ ⟨⟨b1,b2⟩,⟨b3,b4⟩,⟨b5,b6⟩,b7⟩
  dsimp only at b1 b2 b3 b4 b5 b6 b7 |-
  conv=>whnf
  refine aSeq.go ?_
  conv=>whnf
  refine aSeq.cut (List Img) (fun im2=>([(0, .bp 0 0),(2, .bp 2 0),(3, .v (.int .i64 1)),(4, .bp 6 0),(5, .ow 5 w.length),(6, .v (.int .i64 k))], [.box 231 (Rz g a x y pos seq left (.ow 1 n)), .row 130 2 (W.map DA), .box 78 [.v (.int .i64 seq), .v (.int .i64 pos), .v (.int .i64 r0.of_), .ow 7 im2.length], .dead, .dead, .row 130 2 (w.map DA), .box 85 (EE r), .row 83 3 (im2.map D4)])) (fun im2=>im2=if r.kind=1 then im ++ [r.img] else im) ?_ ?_
  ·conv=>whnf
   refine Al (fun hk=>?_) (fun hk=>?_) <;> (repeat rw [Aa] at hk) <;> conv=>whnf
   ·repeat' (first | (refine aSeq.go ?_;conv=>whnf) | (refine Al (fun _=>?_) (fun _=>?_) <;> conv=>whnf) | (refine Fn.cl (U3 r.img.bytes (by omega)) ?_;conv=>whnf) | (refine And.intro (by first | omega | exact of_decide_eq_true rfl) ?_;conv=>whnf) | fail)
    refine⟨⟨by simp,by omega⟩,?_⟩
    conv=>whnf
    exact⟨im ++ [r.img],by rw [if_pos hk], [],trivial,⟨rfl,rfl,rfl,rfl,rfl,rfl,trivial⟩,⟨rfl,rfl,by rw [Ae];rfl,rfl,rfl,by rw [Aq];rfl,trivial⟩,rfl,rfl,rfl⟩
   ·exact⟨im,by rw [if_neg hk], [],trivial,⟨rfl,rfl,rfl,rfl,rfl,rfl,trivial⟩,⟨rfl,rfl,rfl,rfl,rfl,rfl,trivial⟩,rfl,rfl,rfl⟩
  ·rintro im2 him
   have hl2:im2.length<=k+1:=by
    rw [him]
    split
    ·rw [Ae]
     simp only [Ai,AK]
     omega
    ·omega
   conv=>whnf
   refine Al (fun hkN=>?_) (fun hkN=>?_) <;> (repeat rw [Aa] at hkN) <;> conv=>whnf
   ·refine⟨(by rw [Ab]),?_⟩
    conv=>whnf
    refine And.intro ⟨by rw [Ab];exact hn,by omega⟩ ?_
    conv=>whnf
    apply aDraw.treeM 235929600 tys_ok mixed (.one 0 (.one 1 (.one 2 (.one 3 (.one 4 (.one 5 (.one 6 (.one 7 (.one 8 (.one 9 (.one 10 (.one 11 (.one 12 (.one 13 (.one 14 (.one 15 (.one 16 (.one 17 (.one 18 (.one 19 (.one 21 (.one 22 (.one 23 (.one 24 (.one 28 (.one 29 (.three 20 (.two 25 (.two 26 (.two 27 (.one 30 (.one 31 (.one 32 (.one 33 (.one 34 (.one 35 (.one 36 .fin))))))) 30 (.one 31 (.one 32 (.two 27 (.one 33 (.one 34 (.one 35 (.one 36 .fin)))) 33 (.one 27 (.one 34 (.one 35 (.one 36 .fin)))))))) 30 (.one 31 (.one 32 (.two 26 (.two 27 (.one 33 (.one 34 (.one 35 (.one 36 .fin)))) 33 (.one 27 (.one 34 (.one 35 (.one 36 .fin))))) 33 (.one 26 (.one 27 (.one 34 (.one 35 (.one 36 .fin))))))))) 30 (.one 31 (.one 32 (.two 25 (.two 26 (.two 27 (.one 33 (.one 34 (.one 35 (.one 36 .fin)))) 33 (.one 27 (.one 34 (.one 35 (.one 36 .fin))))) 33 (.one 26 (.one 27 (.one 34 (.one 35 (.one 36 .fin)))))) 33 (.one 25 (.one 26 (.one 27 (.one 34 (.one 35 (.one 36 .fin)))))))))) 25 (.three 20 (.two 26 (.two 27 (.one 30 (.one 31 (.one 32 (.one 33 (.one 34 (.one 35 (.one 36 .fin))))))) 30 (.one 31 (.one 32 (.two 27 (.one 33 (.one 34 (.one 35 (.one 36 .fin)))) 33 (.one 27 (.one 34 (.one 35 (.one 36 .fin)))))))) 30 (.one 31 (.one 32 (.two 26 (.two 27 (.one 33 (.one 34 (.one 35 (.one 36 .fin)))) 33 (.one 27 (.one 34 (.one 35 (.one 36 .fin))))) 33 (.one 26 (.one 27 (.one 34 (.one 35 (.one 36 .fin))))))))) 26 (.three 20 (.two 27 (.one 30 (.one 31 (.one 32 (.one 33 (.one 34 (.one 35 (.one 36 .fin))))))) 30 (.one 31 (.one 32 (.two 27 (.one 33 (.one 34 (.one 35 (.one 36 .fin)))) 33 (.one 27 (.one 34 (.one 35 (.one 36 .fin)))))))) 27 (.two 20 (.one 30 (.one 31 (.one 32 (.one 33 (.one 34 (.one 35 (.one 36 .fin))))))) 30 (.one 20 (.one 31 (.one 32 (.one 33 (.one 34 (.one 35 (.one 36 .fin)))))))) 30 (.two 20 (.one 31 (.one 32 (.two 27 (.one 33 (.one 34 (.one 35 (.one 36 .fin)))) 33 (.one 27 (.one 34 (.one 35 (.one 36 .fin))))))) 27 (.one 20 (.one 31 (.one 32 (.one 33 (.one 34 (.one 35 (.one 36 .fin))))))))) 30 (.two 20 (.one 31 (.one 32 (.two 26 (.two 27 (.one 33 (.one 34 (.one 35 (.one 36 .fin)))) 33 (.one 27 (.one 34 (.one 35 (.one 36 .fin))))) 33 (.one 26 (.one 27 (.one 34 (.one 35 (.one 36 .fin)))))))) 26 (.two 20 (.one 31 (.one 32 (.two 27 (.one 33 (.one 34 (.one 35 (.one 36 .fin)))) 33 (.one 27 (.one 34 (.one 35 (.one 36 .fin))))))) 27 (.one 20 (.one 31 (.one 32 (.one 33 (.one 34 (.one 35 (.one 36 .fin)))))))))) 30 (.two 20 (.one 31 (.one 32 (.two 25 (.two 26 (.two 27 (.one 33 (.one 34 (.one 35 (.one 36 .fin)))) 33 (.one 27 (.one 34 (.one 35 (.one 36 .fin))))) 33 (.one 26 (.one 27 (.one 34 (.one 35 (.one 36 .fin)))))) 33 (.one 25 (.one 26 (.one 27 (.one 34 (.one 35 (.one 36 .fin))))))))) 25 (.two 20 (.one 31 (.one 32 (.two 26 (.two 27 (.one 33 (.one 34 (.one 35 (.one 36 .fin)))) 33 (.one 27 (.one 34 (.one 35 (.one 36 .fin))))) 33 (.one 26 (.one 27 (.one 34 (.one 35 (.one 36 .fin)))))))) 26 (.two 20 (.one 31 (.one 32 (.two 27 (.one 33 (.one 34 (.one 35 (.one 36 .fin)))) 33 (.one 27 (.one 34 (.one 35 (.one 36 .fin))))))) 27 (.one 20 (.one 31 (.one 32 (.one 33 (.one 34 (.one 35 (.one 36 .fin))))))))))))))))))))))))))))))))))))) [76,77,78,79,80,81,82,83,84,85,86,87,88,89,90,91,92,93,94,95,96,97,98,99,100,101,102,103,104,105,106,107,108,109] (by kernel_rfl)
    ·refine⟨by omega,?_⟩
     refine And.intro ?_ (And.intro ?_ ?_)
     ·refine And.intro ?_ ?_
      ·refine And.intro ?_ ?_
       ·refine And.intro ?_ ?_
        ·exact⟨rfl,rfl⟩
        ·refine And.intro ?_ ?_
         ·exact⟨rfl,rfl⟩
         ·exact⟨rfl,rfl⟩
       ·refine And.intro ?_ ?_
        ·refine And.intro ?_ ?_
         ·exact⟨rfl,rfl⟩
         ·exact⟨rfl,rfl⟩
        ·exact⟨rfl,rfl⟩
      ·refine And.intro ?_ ?_
       ·refine And.intro ?_ ?_
        ·refine And.intro ?_ ?_
         ·exact⟨rfl,rfl⟩
         ·exact⟨rfl,rfl⟩
        ·exact⟨rfl,rfl⟩
       ·exact⟨rfl,rfl⟩
     ·refine And.intro ?_ (And.intro ?_ ?_)
      ·refine And.intro ?_ ?_
       ·refine And.intro ?_ ?_
        ·exact⟨rfl,rfl⟩
        ·refine And.intro ?_ ?_
         ·exact⟨rfl,rfl⟩
         ·exact⟨rfl,rfl⟩
       ·refine And.intro ?_ ?_
        ·refine And.intro ?_ ?_
         ·exact⟨rfl,rfl⟩
         ·exact⟨rfl,rfl⟩
        ·exact⟨rfl,rfl⟩
      ·refine And.intro ?_ (And.intro ?_ ?_)
       ·refine And.intro ?_ ?_
        ·exact⟨rfl,rfl⟩
        ·refine And.intro ?_ ?_
         ·exact⟨rfl,rfl⟩
         ·exact⟨rfl,rfl⟩
       ·refine And.intro ?_ ?_
        ·exact⟨rfl,rfl⟩
        ·exact⟨rfl,rfl⟩
       ·refine And.intro ?_ ?_
        ·refine And.intro ?_ ?_
         ·exact⟨rfl,rfl⟩
         ·exact⟨rfl,rfl⟩
        ·exact⟨rfl,rfl⟩
      ·refine And.intro ?_ ?_
       ·refine And.intro ?_ ?_
        ·refine And.intro ?_ ?_
         ·exact⟨rfl,rfl⟩
         ·exact⟨rfl,rfl⟩
        ·exact⟨rfl,rfl⟩
       ·refine And.intro ?_ ?_
        ·refine And.intro ?_ ?_
         ·exact⟨rfl,rfl⟩
         ·exact⟨rfl,rfl⟩
        ·exact⟨rfl,rfl⟩
     ·refine And.intro ?_ ?_
      ·refine And.intro ?_ ?_
       ·refine And.intro ?_ ?_
        ·refine And.intro ?_ ?_
         ·exact⟨rfl,rfl⟩
         ·exact⟨rfl,rfl⟩
        ·exact⟨rfl,rfl⟩
       ·exact⟨rfl,rfl⟩
      ·refine And.intro ?_ ?_
       ·refine And.intro ?_ ?_
        ·refine And.intro ?_ ?_
         ·exact⟨rfl,rfl⟩
         ·exact⟨rfl,rfl⟩
        ·exact⟨rfl,rfl⟩
       ·refine And.intro ?_ ?_
        ·refine And.intro ?_ ?_
         ·exact⟨rfl,rfl⟩
         ·exact⟨rfl,rfl⟩
        ·exact⟨rfl,rfl⟩
    refine⟨(by rw [Ab]),?_⟩
    conv=>whnf
    have e0:(r0.of_ - (k:Int)).toNat=0:=by omega
    rw [e0] at b7
    simp only [AX] at b7
    rw [<-him] at b7
    subst b7
    rw [hw1,hw2,hw3]
    refine⟨.tp [.ag (Hi ⟨seq,pos,r0.of_,im2⟩), .v (.int .i64 1)], [.box 231 (Rz g a x y ((pos+r0.of_).tmod g.sl) (seq+1) (left - r0.of_) (.ow 1 (W ++ w).length)), .row 130 2 ((W ++ w).map DA)],?_,⟨?_,?_,trivial⟩,rfl,rfl,rfl,rfl⟩
    ·refine Bu ?_
     exact⟨AG ⟨ri,ri,ri,AJ im2 rfl rfl,trivial⟩,ri,trivial⟩
    ·rw [Ae,<-hn]
    ·rw [Aq]
   ·have rck:=rc k r0.of_ (by omega)
    have rfk:=rf k r0.of_ (by omega)
    rw [show (r0.of_ - (k:Int)).toNat=(r0.of_ - ((k+1:Nat):Int)).toNat+1 by omega] at b7
    unfold AX at b7
    simp only at b7
    generalize Cz g a x y pos seq left k r0.of_=qk at rck rfk b7
    obtain⟨rk,hk,wk⟩:=qk
    simp only at rck rfk b7
    rcases rfk with ⟨rfl,⟨e1,e2,e3⟩,e4⟩ | ⟨e1,rfl,rfl⟩
    ·refine ACalls.frame [0,1] rck rfl rfl rfl rfl (by decide) (V7 rfl) ⟨rfl,rfl,trivial⟩ ?_
     rintro _ _ ⟨rfl,rfl⟩
     refine⟨(by rw [Ab]),?_⟩
     refine⟨⟨by rw [Ab],by omega⟩,?_⟩
     conv=>whnf
     exact⟨(k+1,rk,im2,w ++ wk),⟨⟨Nat.succ_le_succ (Ag _),show ((k+1:Nat):Int)<=r0.of_ by omega⟩,⟨e1,e2⟩,⟨hl2,show (w ++ wk).length<=k+1 by rw [Ae];omega⟩,by rw [if_neg (show ¬(1:Int)≠1 by decide),<-him] at b7;exact b7⟩,show (r0.of_ - ((k+1:Nat):Int)).toNat<(r0.of_ - (k:Int)).toNat by omega, [],trivial,⟨rfl,rfl,rfl,rfl,by rw [Ae];rfl,AA (by omega),trivial⟩,⟨rfl,rfl,rfl,by rw [Aq],rfl,rfl,trivial⟩,rfl,rfl,rfl⟩
    ·rcases e1 with rfl | rfl
     all_goals
      refine ACalls.frame [0,1] rck rfl rfl rfl rfl (by decide) (V7 rfl) ⟨rfl,rfl,trivial⟩ ?_
      rintro _ _ ⟨rfl,rfl⟩
      conv=>whnf
      rw [if_pos (by decide)] at b7
      subst b7
      exact⟨_, [.box 231 (Rz g a x y pos seq left (.ow 1 n)), .row 130 2 (W.map DA)],Qy _,⟨rfl,rfl,trivial⟩,rfl,rfl,rfl,rfl⟩
 ·rw [if_pos (show how0≠1 by omega)]
  simp only [if_neg (show ¬how0=1 by omega)]
  refine ACalls.of tys_ok Tryz.func169 rfl rfl (by show 1<=_;decide) ?_
  rcases k1 with rfl | rfl
  all_goals
   conv=>whnf
   refine ACalls.frame [0,1] rc0 rfl rfl rfl rfl (by decide) (V7 rfl) ⟨rfl,rfl,trivial⟩ ?_
   rintro _ _ ⟨rfl,rfl⟩
   exact⟨_, [.box 231 (Rz g a x y pos seq left (.ow 1 n)), .row 130 2 (W.map DA)],Qy _,⟨rfl,rfl,trivial⟩,rfl,rfl,rfl,rfl⟩
def FL (g:Geo) (a:An) (x y:List Gt):List Tx × List Wr × Int:=
 if AS g&&AY g a then (if (x.length:Int)=g.sl/\(y.length:Int)=g.sl then CY g a x y else ([], [],2)) else ([], [],1)
theorem DB (k:Int) (c:Ctx) (u:Value) (h:Rd (.tp [.v (.slice none 0 0), .v (.slice none 0 0), .v (.int .i64 k)]) c u):Rd (.tp [DS [],FF [], .v (.int .i64 k)]) c u:=by
 refine Bu ?_ c u h
 exact⟨AP _ _,AP _ _,fun _ _ h=>h,trivial⟩
theorem Cg {g:Geo} {a:An} (h:AY g a=true):(0<=a.seq/\a.seq<=4294967296)/\0<=a.pos/\a.pos<g.sl:=by
 simp only [AY,Bn,Bool.and_eq_true,AI] at h
 omega
theorem WK {m:Nat} (h:Nat.ble 5 m=true):∀ z∈ [2,4],z<m:=fun z hz=>by
 have:=Ad h
 simp at hz
 omega
theorem JX {look:Int->Rc × Int × List Wr}:∀ (f:Nat) (k:Int) (r:Rc) (im:List Img) (w:List Wr),(∀ i,k<=i->i<k+f->(look i).2.2.length<=1)->(AX look f k r im w).2.2.length<=w.length+f
 | 0,_,_,_,_,_=>by simp [AX]
 | f+1,k,r,im,w,h=>by
  have h1:=h k (by omega) (by omega)
  unfold AX
  simp only
  split
  ·simp
  ·have:=JX f (k+1) (look k).1 (if r.kind=1 then im ++ [r.img] else im) (w ++ (look k).2.2) fun i h2 h3=>h i (by omega) (by omega)
   rw [Ae] at this
   omega
theorem JY {look:Int->Rc × Int × List Wr}:∀ (f:Nat) (k:Int) (r:Rc) (im:List Img) (w:List Wr),(∀ i,k<=i->i<k+f->(look i).2.1=1\/(look i).2.1=2\/(look i).2.1=3)->(AX look f k r im w).1=1\/(AX look f k r im w).1=2\/(AX look f k r im w).1=3
 | 0,_,_,_,_,_=> .inl rfl
 | f+1,k,r,im,w,h=>by
  have h1:=h k (by omega) (by omega)
  unfold AX
  simp only
  split
  ·exact h1
  ·exact JY f (k+1) (look k).1 (if r.kind=1 then im ++ [r.img] else im) (w ++ (look k).2.2) fun i h2 h3=>h i (by omega) (by omega)
theorem Fv {g:Geo} {a:An} {x y:List Gt} {pos seq left:Int} (hg:AS g=true) (hp:0<=pos/\pos<g.sl) :
  ((DE g a x y pos seq left).1=1/\(2<=(DE g a x y pos seq left).2.1/\(DE g a x y pos seq left).2.1<=left/\(DE g a x y pos seq left).2.1<=30)/\(DE g a x y pos seq left).2.2.2.length<=30)\/((DE g a x y pos seq left).1=2\/(DE g a x y pos seq left).1=3):=by
 have r0:=ED (a:=a) (x:=x) (y:=y) (seq:=seq) (left:=left) (of_:=0) (at_:=0) hg hp (by omega)
 unfold DE
 simp only
 rcases r0 with ⟨e1,⟨e2, -,e3⟩,e4⟩ | ⟨e1, -, -⟩
 ·rw [if_neg (by omega)]
  have hN:=GQ e2 e3
  have hA:=fun(i:Int) (h1:1<=i) (h2:i<1+((Cz g a x y pos seq left 0 0).1.of_ - 1).toNat)=>ED (a:=a) (x:=x) (y:=y) (seq:=seq) (left:=left) (of_:=(Cz g a x y pos seq left 0 0).1.of_) (at_:=i) hg hp (by omega)
  have hH:=JY (look:=fun k=>Cz g a x y pos seq left k (Cz g a x y pos seq left 0 0).1.of_) ((Cz g a x y pos seq left 0 0).1.of_ - 1).toNat 1 (Cz g a x y pos seq left 0 0).1 [] (Cz g a x y pos seq left 0 0).2.2 fun i h1 h2=>(hA i h1 h2).imp (fun h=>h.1) fun h=>h.1
  split
  ·exact .inr (hH.resolve_left ‹_›)
  ·refine .inl ⟨rfl,⟨hN.1,hN.2.2.2.2.1 rfl,hN.2.1⟩,?_⟩
   have:=JX (look:=fun k=>Cz g a x y pos seq left k (Cz g a x y pos seq left 0 0).1.of_) ((Cz g a x y pos seq left 0 0).1.of_ - 1).toNat 1 (Cz g a x y pos seq left 0 0).1 [] (Cz g a x y pos seq left 0 0).2.2 fun i h1 h2=>by
    rcases hA i h1 h2 with ⟨_,_,h⟩ | ⟨_,h,_⟩
    ·exact h
    ·rw [h];simp
   exact Bc this (by omega)
 ·rw [if_pos (by omega)]
  exact .inr e1
theorem Vb (g:Geo) (a:An) (x y:List Gt) (hl:a.label.size<=1000000) (hh:a.homes.length<=1000000) (hxb:∀ z∈x,z.bytes.length<=100000) (hyb:∀ z∈y,z.bytes.length<=100000) :
  Fn Tryz.prog 114 [.ag (A7 g), .ag (CE a),BZ x,BZ y] fun r=>r = .tp [DS (FL g a x y).1,FF (FL g a x y).2.1, .v (.int .i64 (FL g a x y).2.2)]:=by
 have s1:=Fs g a hl hh
 unfold FL
 cases hA:AS g&&AY g a with
 | false=>
  rw [hA] at s1
  refine Fn.st Tryz.func114 rfl ?_
  conv=>whnf
  refine Fn.cl s1 ?_
  exact⟨_,fun c u h=>DB 1 c u h,rfl⟩
 | true=>
  rw [hA] at s1
  obtain⟨hg,ha⟩:=Di.1 hA
  obtain⟨h1,h2,h3,h4,h5⟩:=Am.1 hg
  rw [if_pos rfl]
  by_cases hx:(x.length:Int)=g.sl/\(y.length:Int)=g.sl
  ·rw [if_pos hx]
   obtain⟨hx,hy⟩:=hx
   refine Fn.st Tryz.func114 rfl ?_
   conv=>whnf
   refine Fn.cl s1 ?_
   conv=>whnf
   refine Al (fun t1=>?_) (fun t1=>?_) <;> (repeat rw [Aa] at t1) <;> conv=>whnf
   ·exact absurd hx t1
   refine Al (fun t2=>?_) (fun t2=>?_) <;> (repeat rw [Aa] at t2) <;> conv=>whnf
   ·exact absurd hy t2
   have hq:=Cg ha
   unfold CY
   generalize hR:CZ g a x y g.sl.toNat a.pos a.seq g.sl [] []=R
   refine aLoop.rule (Nat × Int × Int × Int × List Tx × List Wr) (fun z=>([(5, .bp 1 0),(11, .bp 2 0),(8, .ow 3 z.2.2.2.2.1.length)], [.box 23 (A7 g), .box 40 (CE a), .box 231 (Rz g a x y z.2.1 z.2.2.1 z.2.2.2.1 (.ow 4 z.2.2.2.2.2.length)), .row 78 4 (z.2.2.2.2.1.map Hi), .row 130 2 (z.2.2.2.2.2.map DA)]))
    (fun z=>CZ g a x y z.1 z.2.1 z.2.2.1 z.2.2.2.1 z.2.2.2.2.1 z.2.2.2.2.2=R/\z.2.2.2.1<=z.1/\(0<=z.2.1/\z.2.1<g.sl)/\(0<=z.2.2.1/\z.2.2.1<=4294967296)/\z.2.2.2.2.1.length*2+z.2.2.2.1<=g.sl/\z.2.2.2.2.2.length<=z.2.2.2.2.1.length*30)
    (fun z=>z.1) (g.sl.toNat,a.pos,a.seq,g.sl, [], []) ⟨hR,show g.sl<=(g.sl.toNat:Int) by omega,hq.2,hq.1,show (0:Int)*2+g.sl<=g.sl by omega,Nat.le_refl 0⟩ ⟨[(8,78,4),(1002017,130,2)],⟨rfl,rfl,rfl,rfl,trivial⟩,⟨rfl,rfl,rfl,trivial⟩,⟨rfl,rfl,rfl,rfl,rfl,trivial⟩,rfl,rfl,rfl⟩ ?_
   rintro⟨f,pos,seq,left,l,w⟩ ⟨b1,b2,b3,b4,b5,b6⟩
   dsimp only at b1 b2 b3 b4 b5 b6 |-
   conv=>whnf
   refine Al (fun c1=>?_) (fun c1=>?_) <;> (repeat rw [Aa] at c1) <;> conv=>whnf
   ·refine Al (fun c2=>?_) (fun c2=>?_) <;> (repeat rw [Aa] at c2) <;> conv=>whnf
    ·cases f with
     | zero=>exfalso;omega
     | succ f=>
      unfold CZ at b1
      rw [if_pos ⟨c1,c2⟩] at b1
      simp only at b1
      have tx:=SU g a x y pos seq left w.length w rfl (by omega) hg ha hl hh hx hy hxb hyb b3 ⟨b4.1,c2⟩ (by omega)
      have tf:=Fv (a:=a) (x:=x) (y:=y) (seq:=seq) (left:=left) hg b3
      generalize DE g a x y pos seq left=q at tx tf b1
      obtain⟨how,n,im,ws⟩:=q
      simp only at tx tf b1
      rcases tf with ⟨rfl,tf1,tf2⟩ | tf
      ·rw [if_pos rfl,if_pos rfl] at tx
       have hm:=A3 (pos+n) (show 0<g.sl by omega)
       have hm0:=AD g.sl (show 0<=pos+n by omega)
       have hI2:CZ g a x y f ((pos+n).tmod g.sl) (seq+1) (left - n) (l ++ [⟨seq,pos,n,im⟩]) (w ++ ws)=R/\left - n<=(f:Int)/\(0<=(pos+n).tmod g.sl/\(pos+n).tmod g.sl<g.sl)/\(0<=seq+1/\seq+1<=4294967296)/\((l ++ [(⟨seq,pos,n,im⟩:Tx)]).length:Int)*2+(left - n)<=g.sl/\(w ++ ws).length<=(l ++ [(⟨seq,pos,n,im⟩:Tx)]).length*30:=by
        rw [if_neg (by decide),if_neg (by decide)] at b1
        rw [Ae,Ae]
        simp only [Ai,AK]
        exact⟨b1,by omega,⟨hm0,hm⟩,by omega,by omega,by omega⟩
       refine ACalls.frame [2,4] tx rfl rfl rfl rfl (by decide) (WK rfl) ⟨rfl,rfl,trivial⟩ ?_
       rintro _ _ ⟨rfl,rfl⟩
       refine⟨rfl,?_⟩
       refine⟨⟨by rw [Ab],by omega⟩,?_⟩
       conv=>whnf
       refine⟨(f,(pos+n).tmod g.sl,seq+1,left - n,l ++ [⟨seq,pos,n,im⟩],w ++ ws),?_,Nat.lt_succ_self f, [],trivial,⟨rfl,rfl,congrArg (AV.ow 3) (show l.length+1=(l ++ [(⟨seq,pos,n,im⟩:Tx)]).length by rw [Ae];rfl),trivial⟩,⟨rfl,rfl,rfl,by rw [Aq];rfl,rfl,trivial⟩,rfl,rfl,rfl⟩
       exact hI2
      ·rw [if_neg (show ¬how=1 by omega),if_neg (show ¬how=1 by omega)] at tx
       rcases tf with rfl | rfl
       ·rw [if_neg (by decide),if_pos (by decide)] at b1
        subst b1
        refine ACalls.frame [2,4] tx rfl rfl rfl rfl (by decide) (WK rfl) ⟨rfl,rfl,trivial⟩ ?_
        rintro _ _ ⟨rfl,rfl⟩
        conv=>whnf
        refine aDraw.seq tys_ok mixed (by kernel_rfl) ?_
        conv=>whnf
        have hws:IntKind.i64.wrap (seq - 1)=seq - 1:=by rw [IntKind.wrap_i64];omega
        refine Al (fun e1=>?_) (fun e1=>?_) <;> (repeat rw [Aa] at e1) <;> conv=>whnf
        ·rw [hws] at e1
         exact⟨_,fun c u h=>DB 12 c u h,by rw [E3 e1];rfl⟩
        ·rw [hws] at e1
         refine aDraw.seq tys_ok mixed (by kernel_rfl) ?_
         refine⟨(by rw [Ab]),?_⟩
         refine⟨(by rw [Ab]),?_⟩
         exact⟨.tp [DS l,FF w, .v (.int .i64 0)],Bu ⟨AJ l rfl rfl,AJ w rfl rfl,ri,trivial⟩,by rw [DO (by omega)]⟩
       ·rw [if_pos rfl] at b1
        subst b1
        refine ACalls.frame [2,4] tx rfl rfl rfl rfl (by decide) (WK rfl) ⟨rfl,rfl,trivial⟩ ?_
        rintro _ _ ⟨rfl,rfl⟩
        exact⟨_,fun c u h=>DB 12 c u h,rfl⟩
    ·have hb:some (l,w,seq)=R:=by
      cases f with
      | zero=>exact b1
      | succ f=>unfold CZ at b1;rw [if_neg (by omega)] at b1;exact b1
     subst hb
     refine aDraw.seq tys_ok mixed (by kernel_rfl) ?_
     conv=>whnf
     have hws:IntKind.i64.wrap (seq - 1)=seq - 1:=by rw [IntKind.wrap_i64];omega
     refine Al (fun e1=>?_) (fun e1=>?_) <;> (repeat rw [Aa] at e1) <;> conv=>whnf
     ·rw [hws] at e1
      exact⟨_,fun c u h=>DB 12 c u h,by rw [E3 e1];rfl⟩
     ·rw [hws] at e1
      refine aDraw.seq tys_ok mixed (by kernel_rfl) ?_
      refine⟨(by rw [Ab]),?_⟩
      refine⟨(by rw [Ab]),?_⟩
      exact⟨.tp [DS l,FF w, .v (.int .i64 0)],Bu ⟨AJ l rfl rfl,AJ w rfl rfl,ri,trivial⟩,by rw [DO (by omega)]⟩
   ·have hb:some (l,w,seq)=R:=by
     cases f with
     | zero=>exact b1
     | succ f=>unfold CZ at b1;rw [if_neg (by omega)] at b1;exact b1
    subst hb
    refine aDraw.seq tys_ok mixed (by kernel_rfl) ?_
    conv=>whnf
    have hws:IntKind.i64.wrap (seq - 1)=seq - 1:=by rw [IntKind.wrap_i64];omega
    refine Al (fun e1=>?_) (fun e1=>?_) <;> (repeat rw [Aa] at e1) <;> conv=>whnf
    ·rw [hws] at e1
     exact⟨_,fun c u h=>DB 12 c u h,by rw [E3 e1];rfl⟩
    ·rw [hws] at e1
     refine aDraw.seq tys_ok mixed (by kernel_rfl) ?_
     refine⟨(by rw [Ab]),?_⟩
     refine⟨(by rw [Ab]),?_⟩
     exact⟨.tp [DS l,FF w, .v (.int .i64 0)],Bu ⟨AJ l rfl rfl,AJ w rfl rfl,ri,trivial⟩,by rw [DO (by omega)]⟩
  ·rw [if_neg hx]
   refine Fn.st Tryz.func114 rfl ?_
   conv=>whnf
   refine Fn.cl s1 ?_
   conv=>whnf
   refine Al (fun t1=>?_) (fun t1=>?_) <;> (repeat rw [Aa] at t1) <;> conv=>whnf
   ·exact⟨_,fun c u h=>DB 2 c u h,rfl⟩
   refine Al (fun t2=>?_) (fun t2=>?_) <;> (repeat rw [Aa] at t2) <;> conv=>whnf
   ·exact⟨_,fun c u h=>DB 2 c u h,rfl⟩
   ·exact absurd ⟨t1,t2⟩ hx
def Ri (g:Geo) (t:Tx) (s:Int):Int:=(IntKind.i64.wrap (IntKind.i64.wrap (s - t.pos)+g.sl)).tmod g.sl
def NK (g:Geo) (t:Tx) (s:Int):Bool:=BP t.pos 0 (g.sl - 1)&&BP t.n 0 g.sl&&decide (Ri g t s<t.n)
def HJ (g:Geo) (s:Int):List Tx->Nat->Option (Nat × Int)
 | [],_=>none
 | t::r,i=>if NK g t s then some (i,Ri g t s) else HJ g s r (i+1)
end Go.Proofs.YtldngmdpiifamaaGreatDoor.A
end
section
namespace Go.Proofs.YtldngmdpiifamaaGreatDoor

def rc0:Rc:=⟨0,0,0,0,0,⟨0,0, []⟩⟩
theorem LX (seq epoch:Int) (l:List Img) {k:Nat} (hk:k<l.length+1):(C9 seq epoch l).getD k rc0=if k<l.length then ⟨1,seq,epoch,(k:Nat),l.length+1,l.getD k ⟨0,0, []⟩⟩ else ⟨2,seq,epoch,(k:Nat),l.length+1,noImg⟩:=by
 have hlen:(Sf seq epoch (l.length+1) l.length l).length=l.length:=by rw [TX];omega
 unfold C9
 rw [List.getD_eq_getElem?_getD]
 by_cases h:k<l.length
 ·rw [if_pos h,List.getElem?_append_left (by omega)]
  have h2:(Sf seq epoch (l.length+1) l.length l)[k]? = some ⟨1,seq,epoch,(k:Nat),l.length+1,l[k]⟩:=by
   unfold Sf
   rw [List.take_length,List.getElem?_map,List.getElem?_zipIdx,List.getElem?_eq_getElem h]
   simp
  rw [h2,List.getD_eq_getElem?_getD,List.getElem?_eq_getElem h]
  rfl
 ·have e:k=l.length:=by omega
  subst e
  rw [if_neg h,List.getElem?_append_right (by omega),hlen]
  simp
structure RecAt (g:Geo) (seq epoch:Int) (l:List Img) (k:Nat) (r:Rc):Prop where
 ok:DH g r=true
 seq:r.seq=seq
 epoch:r.epoch=epoch
 at_:r.at_=(k:Nat)
 of_:r.of_=l.length+1
 kind:r.kind≠0
 img:(r.kind=1↔k<l.length)/\(k<l.length->r.img=l.getD k ⟨0,0, []⟩)
theorem Vo {g:Geo} {seq epoch:Int} {l:List Img} (hg:AS g=true) (hs:0<=seq/\seq<=4294967295) (he:0<=epoch/\epoch<=4294967295) (hi:∀ x∈l,B_ g x=true) (h1:1<=l.length) (h2:l.length<=29) {k:Nat} (hk:k<l.length+1) :
  RecAt g seq epoch l k ((C9 seq epoch l).getD k rc0):=by
 have hs':BP seq 0 4294967295=true:=AI.2 hs
 have he':BP epoch 0 4294967295=true:=AI.2 he
 rw [LX seq epoch l hk]
 split
 ·rename_i h
  have hm:l.getD k ⟨0,0, []⟩∈l:=by rw [List.getD_eq_getElem?_getD,List.getElem?_eq_getElem h];exact B5 h
  refine⟨?_,rfl,rfl,rfl,rfl,by show (1:Int)≠0;decide,⟨fun _=>h,fun _=>rfl⟩,fun _=>rfl⟩
  simp only [DH,hg,DQ,E8,hs',he',hi _ hm,At,B7]
  simp only [if_neg (show ¬(1:Int)=0 by omega),if_true,Bool.and_eq_true,AI]
  omega
 ·rename_i h
  refine⟨?_,rfl,rfl,rfl,rfl,by show (2:Int)≠0;decide,⟨fun h=>absurd h (by show ¬(2:Int)=1;decide),fun h'=>absurd h' h⟩,fun h'=>absurd h' h⟩
  simp only [DH,hg,DQ,E8,hs',he',At]
  simp only [if_neg (show ¬(2:Int)=0 by omega),if_neg (show ¬(2:Int)=1 by omega),if_true,Bool.and_eq_true,AI,beq_iff_eq,Fe,noImg]
  simp;omega
end Go.Proofs.YtldngmdpiifamaaGreatDoor
end
section
namespace Go.Proofs.YtldngmdpiifamaaGreatDoor.A
open Go.RowKit
def tz:Tx:=⟨0,0,0, []⟩
def Gq (g:Geo) (l:List Tx) (epoch s:Int):Rc:=match HJ g s l 0 with
 | none=>zeroC
 | some (i,k)=>(C9 (l.getD i tz).seq epoch (l.getD i tz).images).getD k.toNat zeroC
def FW (g:Geo) (l:List Tx) (epoch copy:Int) (n:Nat):List Gt:=(List.range n).map fun s=>⟨0,C6 g (Gq g l epoch (s:Nat)) copy (s:Nat)⟩
structure LogOk (g:Geo) (l:List Tx) (epoch:Int):Prop where
 len:l.length<=1000
 img:∀ t∈l,t.images.length<=1000/\∀ x∈t.images,x.bytes.length<=1000000
 who:∀ s i k,0<=s/\s<g.sl->HJ g s l 0=some (i,k)->i<l.length/\0<=k/\k.toNat<(l.getD i tz).images.length+1
 ok:∀ s,0<=s/\s<g.sl->DH g (Gq g l epoch s)=true
def SubLL:List (List AV)->List (List AV)->Prop
 | [], []=>True
 | a::r,b::s=>SubL a b/\SubLL r s
 | _,_=>False
theorem SubLL.get:∀ {es fs:List (List AV)} {i:Nat},SubLL es fs->i<es.length->SubL (es.getD i []) (fs.getD i [])
 | [],_,_,_,h=>by simp at h
 | a::r,b::s,0,h,_=>by simpa using h.1
 | a::r,b::s,i+1,h,hi=>by
  have:=SubLL.get (i:=i) h.2 (by simpa using hi)
  simpa using this
 | _::_, [],_,h,_=>h.elim
theorem Of {α:Type} {f:α->List AV} {d:α} {sz n:Nat} {es:List (List AV)} (l:List α) (hn:n=l.length) (he:n=es.length) (h:SubLL es (l.map f)) (c:Ctx) (u:Value) (hr:Rd (.sl sz n fun i=>es.getD i []) c u):Rd (.sl sz l.length fun i=>f (l.getD i d)) c u:=
 Rd.sub hn (fun i hi=>by
  have:=h.get (i:=i) (by omega)
  rwa [Bh (d:=d) (by omega)] at this) hr
theorem MH {g:Geo} {l:List Tx} {epoch:Int} (hg:AS g=true) (h:LogOk g l epoch) {copy:Int} (hc:copy=0\/copy=1) {s:Nat} (hs:(s:Int)<g.sl):Cc g ((FW g l epoch copy g.sl.toNat).getD s gz) copy (s:Nat)=some (Gq g l epoch (s:Nat)):=by
 have hin:(0:Int)<=(s:Nat)/\((s:Nat):Int)<g.sl:=by omega
 have e:(FW g l epoch copy g.sl.toNat).getD s gz=⟨0,C6 g (Gq g l epoch (s:Nat)) copy (s:Nat)⟩:=by
  unfold FW
  rw [Bh (d:=0) (by rw [List.length_range];omega)]
  rw [List.getD_eq_getElem?_getD,List.getElem?_range (by omega)]
  rfl
 rw [e]
 refine LU hg (h.ok s hin) ?_
 rw [Gh,AI.2 (show 0<=((s:Nat):Int)/\((s:Nat):Int)<=g.sl - 1 by omega)]
 rcases hc with rfl | rfl <;> rfl
theorem Jm {g:Geo} {x:Gt} {copy s:Int} (h:¬(0<=s/\s<g.sl)):Cc g x copy s=none:=by
 refine P8 ?_
 have:BP s 0 (g.sl - 1)=false:=by
  rw [<-AQ]
  intro e
  have:=AI.1 e
  omega
 rw [Gh,this]
 simp
def JS (a:An) (p q:Int->Option Rc) (slot seq at_ of_ left:Int):Rc × List Int × Int:=
 BT (p slot) (q slot) (CJ (p slot) a seq at_ of_ left) (CJ (q slot) a seq at_ of_ left)
def BO (g:Geo) (a:An) (p q:Int->Option Rc) (pos seq left at_ of_:Int):Rc × Int × List Wr:=
 let s:=AW g pos at_
 let z:=JS a p q s seq at_ of_ left
 (z.1,z.2.2,z.2.1.map fun c=>⟨AN g c s,C6 g z.1 c s⟩)
def EW (g:Geo) (a:An) (p q:Int->Option Rc) (pos seq left:Int):Int × Int × List Img × List Wr:=
 let z:=BO g a p q pos seq left 0 0
 if z.2.1≠1 then (z.2.1,0, [], []) else
  let t:=AX (fun k=>BO g a p q pos seq left k z.1.of_) (z.1.of_ - 1).toNat 1 z.1 [] z.2.2
  if t.1≠1 then (t.1,0, [], []) else (1,z.1.of_,t.2.1,t.2.2)
def Dp (g:Geo) (a:An) (p q:Int->Option Rc):Nat->Int->Int->Int->List Tx->List Wr->Option (List Tx × List Wr × Int)
 | 0,_,seq,_,l,w=>some (l,w,seq)
 | f+1,pos,seq,left,l,w=>
  if 0<left/\seq<=4294967295 then
   let t:=EW g a p q pos seq left
   if t.1=3 then none else if t.1≠1 then some (l,w,seq)
   else Dp g a p q f ((pos+t.2.1).tmod g.sl) (seq+1) (left - t.2.1) (l ++ [⟨seq,pos,t.2.1,t.2.2.1⟩]) (w ++ t.2.2.2)
  else some (l,w,seq)
def JK (g:Geo) (a:An) (p q:Int->Option Rc):List Tx × List Wr × Int:=LB a (Dp g a p q g.sl.toNat a.pos a.seq g.sl [] [])
def DI (g:Geo) (x:List Gt) (copy:Int):Int->Option Rc:=fun s=>Cc g (x.getD s.toNat gz) copy s
theorem Q5 (g:Geo) (a:An) (x y:List Gt):∀ (f:Nat) (pos seq left:Int) (l:List Tx) (w:List Wr),CZ g a x y f pos seq left l w=Dp g a (DI g x 0) (DI g y 1) f pos seq left l w
 | 0,_,_,_,_,_=>rfl
 | f+1,pos,seq,left,l,w=>by
  unfold CZ Dp
  have e:DE g a x y pos seq left=EW g a (DI g x 0) (DI g y 1) pos seq left:=rfl
  rw [e]
  simp only [Q5 g a x y f]
theorem MM (g:Geo) (a:An) (x y:List Gt):CY g a x y=JK g a (DI g x 0) (DI g y 1):=by
 unfold CY JK
 rw [Q5]
def G6 (g:Geo) (l:List Tx) (epoch:Int) (bad:Int->Bool):Int->Option Rc:=fun s=>if 0<=s/\s<g.sl then (if bad s then none else some (Gq g l epoch s)) else none
theorem Q7 {g:Geo} {l:List Tx} {epoch:Int} (hg:AS g=true) (h:LogOk g l epoch) {copy:Int} (hc:copy=0\/copy=1):DI g (FW g l epoch copy g.sl.toNat) copy=G6 g l epoch fun _=>false:=by
 funext s
 unfold DI G6
 by_cases hs:0<=s/\s<g.sl
 ·rw [if_pos hs,if_neg (Bool.false_ne_true)]
  obtain⟨k,rfl⟩:=Cx hs.1
  rw [Aa]
  exact MH hg h hc hs.2
 ·rw [if_neg hs]
  exact Jm hs
theorem RdL.split {c:Ctx}:∀ {l m:List AV} {xs:List Value},RdL (l ++ m) c xs->∃ a b,xs=a ++ b/\RdL l c a/\RdL m c b
 | [],m,xs,h=>⟨[],xs,rfl,by simp only [RdL],h⟩
 | x::l,m,xs,h=>by
  simp only [Be,RdL] at h
  obtain⟨y,ys,rfl,h1,h2⟩:=h
  obtain⟨a,b,rfl,h3,h4⟩:=RdL.split h2
  exact⟨y::a,b,rfl,by simp only [RdL];exact⟨y,a,rfl,h1,h3⟩,h4⟩
theorem SubLL.len:∀ {es fs:List (List AV)},SubLL es fs->es.length=fs.length
 | [], [],_=>rfl
 | _::_,_::_,h=>by simp [SubLL.len h.2]
 | [],_::_,h=>h.elim
 | _::_, [],h=>h.elim
theorem SubLL.flat:∀ {es fs:List (List AV)} {c:Ctx} {xs:List Value},SubLL es fs->RdL es.flatten c xs->RdL fs.flatten c xs
 | [], [],_,_,_,h=>h
 | a::r,b::s,c,xs,h,hr=>by
  rw [Az] at hr |-
  obtain⟨x1,x2,rfl,h1,h2⟩:=RdL.split hr
  exact RdL.append (h.1.rdl h1) (SubLL.flat h.2 h2)
 | [],_::_,_,_,h,_=>h.elim
 | _::_, [],_,_,h,_=>h.elim
theorem SubLL.sz:∀ {es fs:List (List AV)} {sz:Nat},SubLL es fs->(∀ e∈es,e.length=sz)->∀ e∈fs,e.length=sz
 | [], [],_,_,_=>by simp
 | a::r,b::s,sz,h,hs=>by
  intro e he
  rcases Bq.1 he with rfl | he
  ·rw [<-h.1.len];exact hs a (by simp)
  ·exact SubLL.sz h.2 (fun e he=>hs e (A9 _ he)) e he
 | [],_::_,_,h,_=>h.elim
 | _::_, [],_,h,_=>h.elim
def ABSub:AB->AB->Prop
 | .row t sz es, .row t' sz' es'=>t=t'/\sz=sz'/\SubLL es es'
 | x,y=>x=y
def HSub:List AB->List AB->Prop
 | [], []=>True
 | x::r,y::s=>ABSub x y/\HSub r s
 | _,_=>False
theorem HSub.len:∀ {H H':List AB},HSub H H'->H.length=H'.length
 | [], [],_=>rfl
 | _::_,_::_,h=>by simp [HSub.len h.2]
 | [],_::_,h=>h.elim
 | _::_, [],h=>h.elim
theorem HSub.get:∀ {H H':List AB} {k:Nat} {y:AB},HSub H H'->H'[k]? = some y->∃ x,H[k]? = some x/\ABSub x y
 | [], [],k,y,_,h=>by simp at h
 | x::r,y::s,0,z,h,hz=>by
  simp at hz
  subst hz
  exact⟨x,by simp,h.1⟩
 | x::r,y::s,k+1,z,h,hz=>by
  obtain⟨w,h1,h2⟩:=HSub.get (k:=k) h.2 (by simpa using hz)
  exact⟨w,by simpa using h1,h2⟩
 | [],_::_,_,_,h,_=>h.elim
 | _::_, [],_,_,_,hz=>by simp at hz
theorem ABSub.live:∀ {x y:AB},ABSub x y->x.live=y.live:=by
 intro x y h
 cases x <;> cases y <;> simp only [ABSub] at h <;> first | rfl | cases h
theorem ABSub.blk {c:Ctx} {k:Nat}:∀ {x y:AB},ABSub x y->BlkOk c k x->BlkOk c k y
 | .row t sz es, .row t' sz' es',h,hb=>by
  obtain⟨rfl,rfl,h⟩:=h
  obtain⟨h1,h2,h3,xs,h4,h5,h6⟩:=hb
  refine⟨h1.trans h.len,h2,h.sz h3,xs,?_,h.flat h5,h6⟩
  rw [<-h.len]
  exact h4
 | .row _ _ _, .box _ _,h,_=>by cases h
 | .row _ _ _, .iter _ _,h,_=>by cases h
 | .row _ _ _, .dead,h,_=>by cases h
 | .row _ _ _, .rowo _ _ _ _,h,_=>by cases h
 | .rowo t sz es m,y,h,hb=>by
  have h:AB.rowo t sz es m=y:=h
  subst h
  exact hb
 | .box t cs,y,h,hb=>by
  have h:AB.box t cs=y:=h
  subst h
  exact hb
 | .iter a b,y,h,hb=>by
  have h:AB.iter a b=y:=h
  subst h
  exact hb
 | .dead,y,h,hb=>by
  have h:AB.dead=y:=h
  subst h
  exact hb
theorem HS.hsub {w0:Fl} {M0:Ms} {c:Ctx} {H H':List AB} (hs:HS w0 M0 c H) (h:HSub H H'):HS w0 M0 c H':=by
 refine⟨hs.low,hs.base,hs.dom.trans h.len,hs.foreign,hs.lt,fun k y hy=>?_,fun k y g hy hl ho=>?_,fun j k y z g hj hk hy hz ho ho'=>?_⟩
 ·obtain⟨x,h1,h2⟩:=h.get hy
  exact h2.blk (hs.blk k x h1)
 ·obtain⟨x,h1,h2⟩:=h.get hy
  exact hs.own k x g h1 (h2.live.trans hl) ho
 ·obtain⟨x1,h1,h2⟩:=h.get hj
  obtain⟨x2,h3,h4⟩:=h.get hk
  exact hs.dis j k x1 x2 g h1 h3 (h2.live.trans hy) (h4.live.trans hz) ho ho'
theorem ACalls.hsub {P:Program} {q:Bool} {f:FuncId} {args:List AV} {H:List AB} {k:AV->List AB->Prop} (H':List AB) (hs:HSub H H') (h:ACalls P q f args H' k):ACalls P q f args H k:=
 ⟨h.go,fun w0 M0 c us hs0 hr=>h.calls w0 M0 c us (hs0.hsub hs) hr⟩
theorem SubLL.refl:∀ l,SubLL l l
 | []=>trivial
 | _::l=>⟨SubL.refl _,SubLL.refl l⟩
theorem SubLL.set {a b:List AV} (h:SubL a b):∀ {l m:List (List AV)} (k:Nat),SubLL l m->SubLL (l.set k a) (m.set k b)
 | [], [],_,h=>h
 | _::_,_::_,0,h2=>⟨h,h2.2⟩
 | _::_,_::_,k+1,h2=>⟨h2.1,SubLL.set h k h2.2⟩
 | [],_::_,_,h=>h.elim
 | _::_, [],_,h=>h.elim
def Nr (g:Geo) (fill:UInt8) (i k:Nat):Img:=
 if (i+k) % 4=3 then ⟨((i+k:Nat):Int).tmod g.z,255,CT (DF g)⟩ else ⟨((i+k:Nat):Int).tmod g.z,((i+2*k:Nat):Int).tmod (g.d+1) - 1, [fill,UInt8.ofNat i,UInt8.ofNat k,1,2,3,4,5]⟩
def BJ (s:Int):Nat:=1+((IntKind.u64.wrap s).tmod 5).toNat
def Cn (g:Geo) (a:An) (fill:UInt8) (i:Nat) (pos:Int) (n:Nat):Tx:=⟨a.seq+i,pos,n+1,(List.range n).map fun k=>Nr g fill i k⟩
def A8 (g:Geo) (a:An) (fill:UInt8):List Int->Nat->Int->Int->List Tx
 | [],_,_,_=> []
 | s::r,i,pos,used=>if g.sl<used+(BJ s:Nat)+1 then [] else Cn g a fill i pos (BJ s)::A8 g a fill r (i+1) ((pos+(BJ s:Nat)+1).tmod g.sl) (used+(BJ s:Nat)+1)
theorem Hu (s:Int):1<=BJ s/\BJ s<=5:=by
 have h0:0<=IntKind.u64.wrap s:=by rw [IntKind.wrap_u64];omega
 have h1:=AD 5 h0
 have h2:=A3 (IntKind.u64.wrap s) (show (0:Int)<5 by decide)
 unfold BJ
 omega
theorem SubLL.app {e f:List AV} (h:SubL e f):∀ {a b:List (List AV)},SubLL a b->SubLL (a ++ [e]) (b ++ [f])
 | [], [],_=>⟨h,trivial⟩
 | _::_,_::_,h2=>⟨h2.1,SubLL.app h h2.2⟩
 | [],_::_,h=>h.elim
 | _::_, [],h=>h.elim
end Go.Proofs.YtldngmdpiifamaaGreatDoor.A
end
section
namespace Go.Proofs.YtldngmdpiifamaaGreatDoor

def Wj (b:List UInt8) (k:Nat):List UInt8:=b.modify (k / 8) fun x=>x ^^^ UInt8.ofNat (2 ^ (k % 8))
theorem N2 (b:List UInt8) (k:Nat):(Wj b k).length=b.length:=List.length_modify _ _ _
def OW (p:Nat->Bool) (a:Nat) (b:List UInt8):Nat->List UInt8
 | 0=>b
 | i+1=>if p i&&decide (a+i<8*b.length) then Wj (OW p a b i) (a+i) else OW p a b i
theorem N1 (p:Nat->Bool) (a:Nat) (b:List UInt8) (i:Nat):(OW p a b i).length=b.length:=by
 induction i with
 | zero=>rfl
 | succ i ih=>unfold OW;split;rw [N2,ih];exact ih
def fX (bs:Int):Nat:=if (bs % 4294967296).toNat % 2=0 then (bs % 4294967296).toNat+1 else (bs % 4294967296).toNat
def Wi (b:List UInt8) (bit bs:Int):List UInt8:=OW (fun i=>decide (fX bs / 2 ^ i % 2=1)) (bit % (8*(b.length:Int))).toNat b 32
theorem N0 (b:List UInt8) (bit bs:Int):(Wi b bit bs).length=b.length:=N1 _ _ _ _
end Go.Proofs.YtldngmdpiifamaaGreatDoor
end
section
namespace Go.Proofs.YtldngmdpiifamaaGreatDoor.A
open Go.RowKit

theorem ON {g:Geo} {x:Img} (h:B_ g x=true):x.bytes.length<=100:=by
 obtain⟨h1, -,h3⟩:=E_ h
 obtain⟨-,hd, -⟩:=Am.1 h1
 rcases h3 with ⟨-,l,hl⟩ | ⟨-, -,h8⟩
 ·have:=LY hl
  omega
 ·omega
theorem ents0:∀ n,n<6->entsOf n (CT (List.replicate n ent0))=List.replicate n ent0:=by decide +kernel
theorem PM {g:Geo} (hg:AS g=true):D7 g (CT (DF g))=some (DF g):=by
 obtain⟨h1,h2,h3,h4,h5⟩:=Am.1 hg
 have e:=ents0 (g.d+1).toNat (by omega)
 unfold D7 DF
 rw [e,if_pos]
 refine⟨?_,rfl⟩
 unfold JQ
 simp only [Bool.and_eq_true,decide_eq_true_eq,Bm,AO]
 refine⟨⟨⟨hg,by omega⟩,?_⟩,?_⟩
 ·rw [A4]
  intro x hx
  rw [List.eq_of_mem_replicate hx]
  decide +kernel
 ·unfold GV
  rw [List.getElem?_replicate_of_lt (by omega)]
  rfl
theorem Mr {g:Geo} (hg:AS g=true) (fill:UInt8) (i k:Nat):B_ g (Nr g fill i k)=true:=by
 obtain⟨h1,h2,h3,h4,h5⟩:=Am.1 hg
 have z1:=AD g.z (show 0<=((i+k:Nat):Int) by omega)
 have z2:=A3 ((i+k:Nat):Int) (show 0<g.z by omega)
 have d1:=AD (g.d+1) (show 0<=((i+2*k:Nat):Int) by omega)
 have d2:=A3 ((i+2*k:Nat):Int) (show 0<g.d+1 by omega)
 unfold B_ Nr
 split
 ·simp only [hg,AI.2 (show 0<=((i+k:Nat):Int).tmod g.z/\((i+k:Nat):Int).tmod g.z<=g.z - 1 by omega),PM hg]
  rfl
 ·simp only [hg,AI.2 (show 0<=((i+k:Nat):Int).tmod g.z/\((i+k:Nat):Int).tmod g.z<=g.z - 1 by omega),At]
  rw [if_neg (by omega),AI.2 (show -1<=((i+2*k:Nat):Int).tmod (g.d+1) - 1/\((i+2*k:Nat):Int).tmod (g.d+1) - 1<=g.d - 1 by omega)]
  rfl
structure TxIn (g:Geo) (a:An) (fill:UInt8) (i0:Nat) (l:List Tx):Prop where
 at_:∀ j,j<l.length->∃ pos n,l.getD j tz=Cn g a fill (i0+j) pos n/\1<=n/\n<=5/\0<=pos/\pos<g.sl
theorem IF {g:Geo} {a:An} {fill:UInt8} (hg:AS g=true):∀ (sizes:List Int) (i:Nat) (pos used:Int),0<=pos/\pos<g.sl->TxIn g a fill i (A8 g a fill sizes i pos used)
 | [],_,_,_,_=>⟨fun j hj=>by simp [A8] at hj⟩
 | s::r,i,pos,used,hp=>by
  obtain⟨h1,h2,h3,h4,h5⟩:=Am.1 hg
  have hn:=Hu s
  have hm:=A3 (pos+(BJ s:Nat)+1) (show 0<g.sl by omega)
  have hm0:=AD g.sl (show 0<=pos+(BJ s:Nat)+1 by omega)
  unfold A8
  split
  ·exact⟨fun j hj=>by simp at hj⟩
  ·refine⟨fun j hj=>?_⟩
   cases j with
   | zero=>exact⟨pos,BJ s,rfl,hn.1,hn.2,hp⟩
   | succ j=>
    obtain⟨p,n,e,q⟩:=(IF hg r (i+1) _ (used+(BJ s:Nat)+1) ⟨hm0,hm⟩).at_ j (by simpa using hj)
    refine⟨p,n,?_,q⟩
    rw [show i+(j+1)=i+1+j by omega,<-e]
    rfl
theorem OF {g:Geo} {a:An} {fill:UInt8}:∀ (sizes:List Int) (i:Nat) (pos used:Int),used<=g.sl->2*((A8 g a fill sizes i pos used).length:Int)<=g.sl - used
 | [],_,_,_,h=>by simp [A8];omega
 | s::r,i,pos,used,h=>by
  have hn:=Hu s
  unfold A8
  split
  ·simp;omega
  ·have:=OF (g:=g) (a:=a) (fill:=fill) r (i+1) ((pos+(BJ s:Nat)+1).tmod g.sl) (used+(BJ s:Nat)+1) (by omega)
   simp only [Ai]
   omega
theorem LH {g:Geo} {s:Int}:∀ {l:List Tx} {i j:Nat} {k:Int},HJ g s l i=some (j,k)->i<=j/\j<i+l.length/\NK g (l.getD (j - i) tz) s=true/\k=Ri g (l.getD (j - i) tz) s
 | [],i,j,k,h=>by cases h
 | t::r,i,j,k,h=>by
  unfold HJ at h
  split at h
  ·injection h with h
   injection h with e1 e2
   subst e1
   subst e2
   refine⟨Nat.le_refl _,by simp,?_,?_⟩ <;> rw [Dc] <;> first | assumption | rfl
  ·obtain⟨q1,q2,q3,q4⟩:=LH h
   refine⟨by omega,by simp only [Ai];omega,?_,?_⟩
   ·rw [show j - i=(j - (i+1))+1 by omega];exact q3
   ·rw [show j - i=(j - (i+1))+1 by omega];exact q4
theorem Ii {g:Geo} {a:An} {fill:UInt8} {i n:Nat} {pos:Int} (hg:AS g=true):(Cn g a fill i pos n).images.length=n/\∀ x∈(Cn g a fill i pos n).images,B_ g x=true:=by
 refine⟨by simp [Cn],fun x hx=>?_⟩
 obtain⟨k, -,rfl⟩:=AH.1 hx
 exact Mr hg fill i k
theorem T9 {g:Geo} (hg:AS g=true):DH g zeroC=true:=by
 simp [DH,hg,DQ,zeroC,Fe]
theorem QS {g:Geo} {a:An} {fill:UInt8} {sizes:List Int} {epoch:Int} (hg:AS g=true) (ha:AY g a=true) (hs:a.seq<=1000000) (he:0<=epoch/\epoch<=4294967295):LogOk g (A8 g a fill sizes 0 a.pos 0) epoch:=by
 obtain⟨h1,h2,h3,h4,h5⟩:=Am.1 hg
 have hq:=Cg ha
 have hin:=IF (a:=a) (fill:=fill) hg sizes 0 a.pos 0 hq.2
 have hlen:=OF (g:=g) (a:=a) (fill:=fill) sizes 0 a.pos 0 (by omega)
 generalize A8 g a fill sizes 0 a.pos 0=l at hin hlen
 have hwho:∀ s i k,0<=s/\s<g.sl->HJ g s l 0=some (i,k)->i<l.length/\0<=k/\∃ pos n,l.getD i tz=Cn g a fill i pos n/\1<=n/\n<=5/\k.toNat<n+1:=fun s i k hsl hw=>by
  obtain⟨q1,q2,q3,q4⟩:=LH hw
  rw [Nat.sub_zero] at q3 q4
  obtain⟨pos,n,e,n1,n2,p1,p2⟩:=hin.at_ i (by omega)
  rw [Ap] at e
  unfold NK at q3
  simp only [Bool.and_eq_true,decide_eq_true_eq] at q3
  rw [<-q4,e] at q3
  have k0:0<=k:=by
   rw [q4,e,Ri]
   refine AD _ ?_
   rw [IntKind.wrap_i64,IntKind.wrap_i64]
   simp only [Cn]
   omega
  refine⟨by omega,k0,pos,n,e,n1,n2,?_⟩
  have:=q3.2
  simp only [Cn] at this
  omega
 refine⟨by omega,fun t ht=>?_,fun s i k hsl hw=>?_,fun s hsl=>?_⟩
 ·obtain⟨j,hj,rfl⟩:=Df.1 ht
  obtain⟨pos,n,e,n1,n2, -⟩:=hin.at_ j hj
  rw [List.getD_eq_getElem?_getD,List.getElem?_eq_getElem hj] at e
  simp only [Bj] at e
  rw [e]
  obtain⟨i1,i2⟩:=Ii (a:=a) (fill:=fill) (i:=0+j) (n:=n) (pos:=pos) hg
  exact⟨by omega,fun x hx=>by have:=ON (i2 x hx);omega⟩
 ·obtain⟨q1,q2,pos,n,e,n1,n2,q3⟩:=hwho s i k hsl hw
  rw [e,(Ii (a:=a) (fill:=fill) (i:=i) (n:=n) (pos:=pos) hg).1]
  exact⟨q1,q2,q3⟩
 ·unfold Gq
  cases hw:HJ g s l 0 with
  | none=>exact T9 hg
  | some q=>
   obtain⟨i,k⟩:=q
   obtain⟨q1,q2,pos,n,e,n1,n2,q3⟩:=hwho s i k hsl hw
   simp only
   rw [e]
   obtain⟨i1,i2⟩:=Ii (a:=a) (fill:=fill) (i:=i) (n:=n) (pos:=pos) hg
   exact(Vo (seq:=(Cn g a fill i pos n).seq) (epoch:=epoch) (l:=(Cn g a fill i pos n).images) (k:=k.toNat) hg (by simp only [Cn];omega) he i2 (by omega) (by omega) (by omega)).ok
theorem DT {x n:Int} (h0:0<=x) (h1:x<n):x.tmod n=x:=Int.tmod_eq_of_lt h0 h1
theorem Hk {x n:Int} (h0:n<=x) (h1:x<2*n) (hn:0<n):x.tmod n=x - n:=by
 rw [As (by omega),<-Int.sub_emod_right x n]
 exact Int.emod_eq_of_lt (by omega) (by omega)
def findU:List Tx->Int->Nat->Int->Option (Nat × Int)
 | [],_,_,_=>none
 | t::r,used,i,u=>if used<=u/\u<used+t.n then some (i,u - used) else findU r (used+t.n) (i+1) u
theorem SO {g:Geo} {t:Tx} {p0 u used:Int} (hg:AS g=true) (hp:0<=p0/\p0<g.sl) (hu:0<=u/\u<g.sl) (hd:0<=used/\used<g.sl) (ht:t.pos=(p0+used).tmod g.sl) :
  Ri g t ((p0+u).tmod g.sl)=if used<=u then u - used else u - used+g.sl:=by
 obtain⟨h1,h2,h3,h4,h5⟩:=Am.1 hg
 have hs:(p0+u).tmod g.sl=if p0+u<g.sl then p0+u else p0+u - g.sl:=by
  split
  ·exact DT (by omega) (by omega)
  ·exact Hk (by omega) (by omega) (by omega)
 have hq:(p0+used).tmod g.sl=if p0+used<g.sl then p0+used else p0+used - g.sl:=by
  split
  ·exact DT (by omega) (by omega)
  ·exact Hk (by omega) (by omega) (by omega)
 unfold Ri
 rw [ht,hs,hq]
 have hw:IntKind.i64.wrap (IntKind.i64.wrap ((if p0+u<g.sl then p0+u else p0+u - g.sl) - (if p0+used<g.sl then p0+used else p0+used - g.sl))+g.sl)=(if p0+u<g.sl then p0+u else p0+u - g.sl) - (if p0+used<g.sl then p0+used else p0+used - g.sl)+g.sl:=by
  rw [IntKind.wrap_i64,IntKind.wrap_i64]
  split <;> split <;> omega
 rw [hw]
 split <;> split <;> split
 all_goals first
  | (rw [DT (by omega) (by omega)];omega)
  | (rw [Hk (by omega) (by omega) (by omega)];omega)
  | (exfalso;omega)
theorem Ki {g:Geo} {a:An} {fill:UInt8} (hg:AS g=true) {p0:Int} (hp:0<=p0/\p0<g.sl) {u:Int} (hu:0<=u/\u<g.sl):∀ (sizes:List Int) (i j:Nat) (used:Int),0<=used/\used<=g.sl->HJ g ((p0+u).tmod g.sl) (A8 g a fill sizes i ((p0+used).tmod g.sl) used) j=findU (A8 g a fill sizes i ((p0+used).tmod g.sl) used) used j u
 | [],i,j,used,hd=>rfl
 | s::r,i,j,used,hd=>by
  obtain⟨h1,h2,h3,h4,h5⟩:=Am.1 hg
  have hn:=Hu s
  have ep:((p0+used).tmod g.sl+(BJ s:Nat)+1).tmod g.sl=(p0+(used+(BJ s:Nat)+1)).tmod g.sl:=by
   rw [As (show 0<=p0+used by omega)]
   have q:=Int.emod_nonneg (p0+used) (show g.sl≠0 by omega)
   rw [As (by omega),As (by omega),Cb,Cy,show p0+used+((BJ s:Nat)+1)=p0+(used+(BJ s:Nat)+1) by omega]
  unfold A8
  split
  ·rfl
  ·rename_i hc
   have hk:=SO (t:=Cn g a fill i ((p0+used).tmod g.sl) (BJ s)) hg hp hu (used:=used) (by omega) rfl
   have ip:BP ((p0+used).tmod g.sl) 0 (g.sl - 1)=true:=by
    have q1:=AD g.sl (show 0<=p0+used by omega)
    have q2:=A3 (p0+used) (show 0<g.sl by omega)
    exact AI.2 (by omega)
   have inn:BP ((BJ s:Nat)+1) 0 g.sl=true:=AI.2 (by omega)
   have ih:=Ki (a:=a) (fill:=fill) hg hp hu r (i+1) (j+1) (used+(BJ s:Nat)+1) (by omega)
   rw [<-ep] at ih
   unfold HJ findU
   have ok:NK g (Cn g a fill i ((p0+used).tmod g.sl) (BJ s)) ((p0+u).tmod g.sl)=decide (used<=u/\u<used+((BJ s:Nat)+1)):=by
    unfold NK
    rw [hk]
    simp only [Cn,ip,inn,At]
    by_cases h:used<=u
    ·rw [if_pos h]
     exact decide_eq_decide.2 (by omega)
    ·rw [if_neg h]
     exact decide_eq_decide.2 (by omega)
   rw [ok,hk]
   by_cases h:used<=u/\u<used+((BJ s:Nat)+1)
   ·rw [if_pos (decide_eq_true h),if_pos h.1]
    rw [if_pos (show used<=u/\u<used+(Cn g a fill i ((p0+used).tmod g.sl) (BJ s)).n from h)]
   ·rw [if_neg (by rw [decide_eq_true_eq];exact h)]
    rw [if_neg (show ¬(used<=u/\u<used+(Cn g a fill i ((p0+used).tmod g.sl) (BJ s)).n) from h)]
    rw [ih]
    simp only [Cn,Cb]
def Wb (look:Int->Rc × Int × List Wr):Nat->Int->List Wr->List Wr
 | 0,_,w=>w
 | f+1,k,w=>Wb look f (k+1) (w ++ (look k).2.2)
theorem IS {look:Int->Rc × Int × List Wr} {R:Nat->Rc} {imgs:List Img} (h1:∀ j,j<imgs.length->(R j).kind=1/\(R j).img=imgs.getD j ⟨0,0, []⟩) (h2:(R imgs.length).kind≠1) (hl:∀ j:Nat,1<=j->j<=imgs.length->(look (j:Nat)).1=R j/\(look (j:Nat)).2.1=1) :
  ∀ (f j:Nat) (w:List Wr),f+j=imgs.length->AX look f ((j:Nat)+1) (R j) (imgs.take j) w=(1,imgs,Wb look f ((j:Nat)+1) w)
 | 0,j,w,h=>by
  have e:j=imgs.length:=by omega
  subst e
  simp only [AX,if_neg h2,List.take_length,Wb]
 | f+1,j,w,h=>by
  obtain⟨k1,k2⟩:=h1 j (by omega)
  obtain⟨q1,q2⟩:=hl (j+1) (by omega) (by omega)
  have ej:(((j+1:Nat)):Int)=(j:Int)+1:=by omega
  rw [ej] at q1 q2
  have ih:=IS h1 h2 hl f (j+1) (w ++ (look ((j:Int)+1)).2.2) (by omega)
  rw [ej] at ih
  unfold AX Wb
  simp only [if_pos k1,q2]
  rw [if_neg (by decide),q1,k2,show imgs.take j ++ [imgs.getD j ⟨0,0, []⟩]=imgs.take (j+1) by rw [Ar (by omega),List.getD_eq_getElem?_getD,List.getElem?_eq_getElem (by omega)];rfl]
  exact ih
def G4 (g:Geo):List Tx->Int->Int->Prop
 | [],_,_=>True
 | t::r,seq,pos=>(t.seq=seq/\t.pos=pos/\t.n=t.images.length+1/\2<=t.n)/\G4 g r (seq+1) ((pos+t.n).tmod g.sl)
def usedM:List Tx->Int
 | []=>0
 | t::r=>t.n+usedM r
def Ia (g:Geo):List Tx->Int->Int
 | [],pos=>pos
 | t::r,pos=>Ia g r ((pos+t.n).tmod g.sl)
theorem MA (g:Geo):∀ (l:List Tx) (seq pos:Int) (t:Tx),G4 g l seq pos->(t.seq=seq+l.length/\t.pos=Ia g l pos/\t.n=t.images.length+1/\2<=t.n)->G4 g (l ++ [t]) seq pos
 | [],seq,pos,t,_,h=>⟨⟨by have:=h.1;simpa using this,h.2.1,h.2.2.1,h.2.2.2⟩,trivial⟩
 | x::r,seq,pos,t,h,ht=>by
  refine⟨h.1,MA g r (seq+1) _ t h.2 ⟨?_,ht.2⟩⟩
  rw [ht.1]
  simp only [Ai]
  omega
theorem used_app:∀ (l:List Tx) (t:Tx),usedM (l ++ [t])=usedM l+t.n
 | [],t=>by simp [usedM]
 | x::r,t=>by simp only [Be,usedM,used_app r t];omega
theorem QJ (g:Geo):∀ (l:List Tx) (pos:Int) (t:Tx),Ia g (l ++ [t]) pos=((Ia g l pos)+t.n).tmod g.sl
 | [],pos,t=>rfl
 | x::r,pos,t=>by simp only [Be,Ia];exact QJ g r _ t
theorem JW {g:Geo} {a:An} {seq left n:Int} {look:Int->Rc × Int × List Wr} (hlook:∀ i,1<=i->i<n->(look i).2.1=1->DH g (look i).1=true/\C_ (look i).1 a seq i n left=true):∀ (f:Nat) (k:Int) (r:Rc) (im:List Img) (w:List Wr),1<=k->k+f=n->DH g r=true->r.at_=k - 1->r.of_=n->r.kind≠0->(im.length:Int)=k - 1->(AX look f k r im w).1=1->((AX look f k r im w).2.1.length:Int)+1=n
 | 0,k,r,im,w,hk,hn,hr,ha,ho,h0,hi,_=>by
  have hk1:r.kind≠1:=by
   intro e
   unfold DH DQ at hr
   simp only [Bool.and_eq_true] at hr
   have h2:=hr.2
   rw [if_neg h0,if_pos e] at h2
   simp only [Bool.and_eq_true,AI] at h2
   omega
  unfold AX
  simp only [if_neg hk1]
  omega
 | f+1,k,r,im,w,hk,hn,hr,ha,ho,h0,hi,hG=>by
  have hk1:r.kind=1:=by
   unfold DH DQ at hr
   simp only [Bool.and_eq_true] at hr
   have h2:=hr.2
   rw [if_neg h0] at h2
   split at h2
   ·assumption
   ·split at h2
    ·simp only [Bool.and_eq_true,beq_iff_eq] at h2
     omega
    ·cases h2
  unfold AX at hG |-
  simp only [if_pos hk1] at hG |-
  by_cases hq:(look k).2.1≠1
  ·rw [if_pos hq] at hG
   exact absurd hG hq
  ·rw [if_neg hq] at hG |-
   have hl:=hlook k hk (by omega) (by omega)
   have h1:=GQ hl.1 hl.2
   have h2:=(of_decide_eq_true hl.2).1
   refine JW hlook f (k+1) (look k).1 _ _ (by omega) (by omega) hl.1 (by omega) ?_ h2 ?_ hG
   ·exact h1.2.2.2.2.2 (by omega)
   ·rw [Ae]
    simp only [Ai,AK]
    omega
theorem LJ {g:Geo} {a:An} {x y:List Gt} {pos seq left:Int} (hg:AS g=true) (hp:0<=pos/\pos<g.sl) (h:(DE g a x y pos seq left).1=1):((DE g a x y pos seq left).2.2.1.length:Int)+1=(DE g a x y pos seq left).2.1:=by
 have r0:=ED (a:=a) (x:=x) (y:=y) (seq:=seq) (left:=left) (of_:=0) (at_:=0) hg hp (by omega)
 unfold DE at h |-
 simp only at h |-
 rcases r0 with ⟨e1,⟨e2, -,e3⟩,e4⟩ | ⟨e1, -, -⟩
 ·rw [if_neg (by omega)] at h |-
  have hN:=GQ e2 e3
  have h0:=(of_decide_eq_true e3).1
  by_cases hq:(AX (fun k=>Cz g a x y pos seq left k (Cz g a x y pos seq left 0 0).1.of_) ((Cz g a x y pos seq left 0 0).1.of_ - 1).toNat 1 (Cz g a x y pos seq left 0 0).1 [] (Cz g a x y pos seq left 0 0).2.2).1≠1
  ·rw [if_pos hq] at h
   exact absurd h hq
  ·rw [if_neg hq]
   refine JW (g:=g) (a:=a) (seq:=seq) (left:=left) (n:=(Cz g a x y pos seq left 0 0).1.of_) (look:=fun k=>Cz g a x y pos seq left k (Cz g a x y pos seq left 0 0).1.of_) (fun i h1 h2 h3=>?_) _ 1 _ [] _ (by omega) (by omega) e2 (by omega) rfl h0 (by simp) (by omega)
   rcases ED (a:=a) (x:=x) (y:=y) (seq:=seq) (left:=left) (of_:=(Cz g a x y pos seq left 0 0).1.of_) (at_:=i) hg hp (by omega) with ⟨_,⟨q1,_,q2⟩,_⟩ | ⟨q,_⟩
   ·exact⟨q1,q2⟩
   ·omega
 ·rw [if_pos (by omega)] at h
  simp only at h
  omega
theorem JL {g:Geo} {a:An} {x y:List Gt} (hg:AS g=true):∀ (f:Nat) (pos seq left:Int) (l:List Tx) (w:List Wr) {l':List Tx} {w':List Wr} {seq':Int},G4 g l a.seq a.pos->pos=Ia g l a.pos->seq=a.seq+l.length->usedM l+left=g.sl->0<=left->(0<=pos/\pos<g.sl)->CZ g a x y f pos seq left l w=some (l',w',seq')->
  G4 g l' a.seq a.pos/\seq'=a.seq+l'.length/\usedM l'<=g.sl
 | 0,pos,seq,left,l,w,l',w',seq',h1,h2,h3,h4,h5,h6,h=>by
  unfold CZ at h
  injection h with h
  injection h with e1 h
  injection h with e2 e3
  subst e1
  subst e3
  exact⟨h1,h3,by omega⟩
 | f+1,pos,seq,left,l,w,l',w',seq',h1,h2,h3,h4,h5,h6,h=>by
  unfold CZ at h
  have fin:some (l,w,seq)=some (l',w',seq')->G4 g l' a.seq a.pos/\seq'=a.seq+l'.length/\usedM l'<=g.sl:=fun h=>by
   injection h with h
   injection h with e1 h
   injection h with e2 e3
   subst e1
   subst e3
   exact⟨h1,h3,by omega⟩
  by_cases hc:0<left/\seq<=4294967295
  ·rw [if_pos hc] at h
   simp only at h
   have tf:=Fv (a:=a) (x:=x) (y:=y) (seq:=seq) (left:=left) hg h6
   have ti:=fun e=>LJ (a:=a) (x:=x) (y:=y) (seq:=seq) (left:=left) hg h6 e
   generalize DE g a x y pos seq left=q at tf ti h
   obtain⟨how,n,im,ws⟩:=q
   simp only at tf ti h
   rcases tf with ⟨rfl,t1,t2⟩ | tf
   ·rw [if_neg (by decide),if_neg (by decide)] at h
    have hi:=ti rfl
    obtain⟨g1,g2,g3,g4,g5⟩:=Am.1 hg
    have hm:=A3 (pos+n) (show 0<g.sl by omega)
    have hm0:=AD g.sl (show 0<=pos+n by omega)
    refine JL hg f _ _ _ _ _ (MA g l a.seq a.pos ⟨seq,pos,n,im⟩ h1 ⟨h3,h2,by simp only;omega,t1.1⟩) ?_ ?_ ?_ (by omega) ⟨hm0,hm⟩ h
    ·rw [QJ,<-h2]
    ·rw [Ae]
     simp only [Ai,AK]
     omega
    ·rw [used_app]
     simp only
     omega
   ·by_cases h3':how=3
    ·rw [if_pos h3'] at h
     cases h
    ·rw [if_neg h3',if_pos (by omega)] at h
     exact fin h
  ·rw [if_neg hc] at h
   exact fin h

theorem QR (g:Geo) (a:An) (fill:UInt8) (i:Nat) (pos:Int) (n:Nat):(Cn g a fill i pos n).n=(n:Int)+1:=rfl
theorem QT {g:Geo} {a:An} {fill:UInt8} {p0:Int} (hg:AS g=true) (hp:0<=p0):∀ (sizes:List Int) (i i0:Nat) (used:Int),0<=used->∀ j,j<(A8 g a fill sizes i ((p0+used).tmod g.sl) used).length->
  ∃ o:Int,used<=o/\o+((A8 g a fill sizes i ((p0+used).tmod g.sl) used).getD j tz).n<=g.sl/\((A8 g a fill sizes i ((p0+used).tmod g.sl) used).getD j tz).pos=(p0+o).tmod g.sl/\
   ∀ k:Nat,(k:Int)<((A8 g a fill sizes i ((p0+used).tmod g.sl) used).getD j tz).n->findU (A8 g a fill sizes i ((p0+used).tmod g.sl) used) used i0 (o+k)=some (i0+j,((k:Nat):Int))
 | [],i,i0,used,hu,j,hj=>by simp [A8] at hj
 | s::r,i,i0,used,hu,j,hj=>by
  obtain⟨h1,h2,h3,h4,h5⟩:=Am.1 hg
  have hn:=Hu s
  have ep:((p0+used).tmod g.sl+(BJ s:Nat)+1).tmod g.sl=(p0+(used+(BJ s:Nat)+1)).tmod g.sl:=by
   rw [As (show 0<=p0+used by omega)]
   have q:=Int.emod_nonneg (p0+used) (show g.sl≠0 by omega)
   rw [As (by omega),As (by omega),Cb,Cy,show p0+used+((BJ s:Nat)+1)=p0+(used+(BJ s:Nat)+1) by omega]
  unfold A8 at hj |-
  split at hj
  ·simp at hj
  ·rename_i hc
   rw [if_neg hc]
   cases j with
   | zero=>
    refine⟨used,Br _,show used+((BJ s:Nat)+1:Int)<=g.sl by omega,rfl,fun k hk=>?_⟩
    have hk:(k:Int)<(BJ s:Nat)+1:=hk
    unfold findU
    rw [QR,if_pos (show used<=used+(k:Int)/\used+(k:Int)<used+((BJ s:Nat)+1:Int) by omega)]
    simp only [BL]
    rw [show used+(k:Int) - used=(k:Int) by omega]
   | succ j=>
    rw [ep] at hj |-
    obtain⟨o,o1,o2,o3,o4⟩:=QT (a:=a) (fill:=fill) hg hp r (i+1) (i0+1) (used+(BJ s:Nat)+1) (by omega) j (by simpa using hj)
    refine⟨o,by omega,o2,o3,fun k hk=>?_⟩
    unfold findU
    rw [QR,if_neg (show ¬(used<=o+(k:Int)/\o+(k:Int)<used+((BJ s:Nat)+1:Int)) by omega)]
    have:=o4 k hk
    rw [show i0+1+j=i0+(j+1) by omega] at this
    rw [<-this,Cb]
theorem I6 {g:Geo} {a:An} {fill:UInt8} {sizes:List Int} {ep:Int} (hg:AS g=true) (ha:AY g a=true) {j k:Nat} (hj:j<(A8 g a fill sizes 0 a.pos 0).length) (hk:k<((A8 g a fill sizes 0 a.pos 0).getD j tz).images.length+1) :
  (0<=AW g ((A8 g a fill sizes 0 a.pos 0).getD j tz).pos k/\AW g ((A8 g a fill sizes 0 a.pos 0).getD j tz).pos k<g.sl)/\
  Gq g (A8 g a fill sizes 0 a.pos 0) ep (AW g ((A8 g a fill sizes 0 a.pos 0).getD j tz).pos k)=(C9 ((A8 g a fill sizes 0 a.pos 0).getD j tz).seq ep ((A8 g a fill sizes 0 a.pos 0).getD j tz).images).getD k rc0:=by
 obtain⟨h1,h2,h3,h4,h5⟩:=Am.1 hg
 have hq:=Cg ha
 have e0:(a.pos+0).tmod g.sl=a.pos:=by rw [Int.add_zero];exact DT hq.2.1 hq.2.2
 have hin:=IF (a:=a) (fill:=fill) hg sizes 0 a.pos 0 hq.2
 obtain⟨pos,n,e,n1,n2,p1,p2⟩:=hin.at_ j hj
 obtain⟨o,o1,o2,o3,o4⟩:=QT (a:=a) (fill:=fill) (p0:=a.pos) hg hq.2.1 sizes 0 0 0 (Br 0) j (by rw [e0];exact hj)
 rw [e0] at o2 o3 o4
 have hN:((A8 g a fill sizes 0 a.pos 0).getD j tz).n=n+1:=by rw [e];rfl
 have hI:((A8 g a fill sizes 0 a.pos 0).getD j tz).images.length=n:=by rw [e];simp [Cn]
 have hs:AW g ((A8 g a fill sizes 0 a.pos 0).getD j tz).pos k=(a.pos+(o+k)).tmod g.sl:=by
  unfold AW
  have q1:=AD g.sl (show 0<=a.pos+o by omega)
  have q2:=A3 (a.pos+o) (show 0<g.sl by omega)
  rw [o3,show IntKind.i64.wrap ((a.pos+o).tmod g.sl+(k:Int))=(a.pos+o).tmod g.sl+k by rw [IntKind.wrap_i64];omega]
  rw [As (show 0<=a.pos+o by omega)] at q1 |-
  rw [As (by omega),As (by omega),Cy,Cb]
 have hw:=Ki (a:=a) (fill:=fill) hg (p0:=a.pos) hq.2 (u:=o+k) (by omega) sizes 0 0 0 ⟨Br 0,by omega⟩
 rw [e0,o4 k (by omega)] at hw
 refine⟨K2 hg (by rw [e];exact⟨p1,p2⟩) (by omega),?_⟩
 rw [hs]
 unfold Gq
 rw [hw]
 simp only [Ap,Aa]
 rfl
theorem Jq {g:Geo} (hg:AS g=true):∀ (l:List Tx) (x:Int),0<=x->(∀ t∈l,0<=t.n)->Ia g l (x.tmod g.sl)=(x+usedM l).tmod g.sl
 | [],x,hx,_=>by simp [Ia,usedM]
 | t::r,x,hx,h=>by
  obtain⟨h1,h2,h3,h4,h5⟩:=Am.1 hg
  have ht:=h t (by simp)
  have ih:=Jq hg r (x+t.n) (by omega) (fun t ht=>h t (A9 _ ht))
  have e:(x.tmod g.sl+t.n).tmod g.sl=(x+t.n).tmod g.sl:=by
   rw [As hx]
   have q:=Int.emod_nonneg x (show g.sl≠0 by omega)
   rw [As (by omega),As (by omega),Cy]
  simp only [Ia,usedM]
  rw [e,ih,Cb]
theorem findU_none:∀ (l:List Tx) (used:Int) (i:Nat) (u:Int),(∀ t∈l,0<=t.n)->used+usedM l<=u->findU l used i u=none
 | [],_,_,_,_,_=>rfl
 | t::r,used,i,u,h,hu=>by
  have ht:=h t (by simp)
  simp only [usedM] at hu
  have hr:0<=usedM r:=by
   have:∀ l:List Tx,(∀ t∈l,0<=t.n)->0<=usedM l:=by
    intro l
    induction l with
    | nil=>intro _;simp [usedM]
    | cons x y ih=>intro h;have:=ih (fun t ht=>h t (A9 _ ht));have:=h x (by simp);simp only [usedM];omega
   exact this r fun t ht=>h t (A9 _ ht)
  unfold findU
  rw [if_neg (by omega)]
  exact findU_none r (used+t.n) (i+1) u (fun t ht=>h t (A9 _ ht)) (by omega)

def L4 (a:An) (x:Option Rc) (b:Bool) (r:Rc) (seq at_:Int):Prop:=if b=true then x=some r else ∀ of_ left,CJ x a seq at_ of_ left=false
def Jh (b0 b1:Bool):List Int:=if b0 then (if b1 then [] else [1]) else [0]
theorem VB {a:An} {p q:Int->Option Rc} {slot seq at_ of_ left:Int} {r:Rc} {b0 b1:Bool} (hp:L4 a (p slot) b0 r seq at_) (hq:L4 a (q slot) b1 r seq at_) (h:(b0 || b1)=true) (h1:C_ r a seq at_ of_ left=true):JS a p q slot seq at_ of_ left=(r,Jh b0 b1,1):=by
 unfold L4 at hp hq
 unfold JS
 cases b0 <;> cases b1
 ·cases h
 ·rw [if_neg (by decide)] at hp
  rw [if_pos rfl] at hq
  rw [hp,hq];simp [CJ,h1,BT,Jh]
 ·rw [if_pos rfl] at hp
  rw [if_neg (by decide)] at hq
  rw [hq,hp];simp [CJ,h1,BT,Jh]
 ·rw [if_pos rfl] at hp hq
  rw [hp,hq];simp [CJ,h1,BT,Jh]
def JM (g:Geo) (ep:Int) (b0 b1:Int->Bool) (t:Tx) (k:Nat):List Wr:=(Jh (b0 (AW g t.pos k)) (b1 (AW g t.pos k))).map fun c=>⟨AN g c (AW g t.pos k),C6 g ((C9 t.seq ep t.images).getD k rc0) c (AW g t.pos k)⟩
def MI (g:Geo) (ep:Int) (b0 b1:Int->Bool) (t:Tx):List Wr:=(List.range (t.images.length+1)).flatMap fun k=>JM g ep b0 b1 t k
theorem SG {look:Int->Rc × Int × List Wr}:∀ (f:Nat) (k:Int) (w:List Wr),Wb look f k w=w ++ (List.range f).flatMap fun j=>(look (k+(j:Nat))).2.2
 | 0,k,w=>by simp [Wb]
 | f+1,k,w=>by
  rw [Wb,SG f (k+1),Cj,BR,List.flatMap_map,List.append_assoc]
  congr 1
  congr 1
  ·rw [show k+((0:Nat):Int)=k by omega]
  ·congr 1
   funext j
   rw [show k+1+(j:Int)=k+((j.succ:Nat):Int) by omega]
def UK (g:Geo) (a:An) (ep:Int) (p q:Int->Option Rc) (b0 b1:Int->Bool) (t:Tx) (n:Nat):Prop:=
 (ep=a.epoch\/t.seq<=a.last/\ep<=a.epoch)/\∀ k:Nat,k<n->L4 a (p (AW g t.pos k)) (b0 (AW g t.pos k)) ((C9 t.seq ep t.images).getD k rc0) t.seq k/\L4 a (q (AW g t.pos k)) (b1 (AW g t.pos k)) ((C9 t.seq ep t.images).getD k rc0) t.seq k/\(b0 (AW g t.pos k) || b1 (AW g t.pos k))=true
theorem HW (seq ep:Int) (imgs:List Img) (k:Nat) (hk:k<imgs.length+1):((C9 seq ep imgs).getD k rc0).kind≠0/\((C9 seq ep imgs).getD k rc0).seq=seq/\((C9 seq ep imgs).getD k rc0).epoch=ep/\((C9 seq ep imgs).getD k rc0).at_=(k:Nat)/\((C9 seq ep imgs).getD k rc0).of_=imgs.length+1/\(((C9 seq ep imgs).getD k rc0).kind=1↔k<imgs.length)/\(k<imgs.length->((C9 seq ep imgs).getD k rc0).img=imgs.getD k ⟨0,0, []⟩):=by
 rw [LX seq ep imgs hk]
 split
 ·exact⟨by simp,rfl,rfl,rfl,rfl,by simp [*],fun _=>rfl⟩
 ·exact⟨by simp,rfl,rfl,rfl,rfl,by simp [*],fun h=>by omega⟩
theorem WA {g:Geo} {a:An} {p q:Int->Option Rc} {b0 b1:Int->Bool} {left ep:Int} {t:Tx} {n:Nat} (hS:UK g a ep p q b0 b1 t n) (hn:n<=t.images.length+1) (hleft:(t.images.length:Int)+1<=left) (k:Nat) (of_:Int) (hk:k<n) (ho:of_=0\/of_=t.images.length+1):BO g a p q t.pos t.seq left k of_=((C9 t.seq ep t.images).getD k rc0,1,JM g ep b0 b1 t k):=by
 obtain⟨s1,s2,s3⟩:=hS.2 k hk
 obtain⟨r1,r2,r3,r4,r5, -⟩:=HW t.seq ep t.images k (by omega)
 have:=VB (of_:=of_) (left:=left) s1 s2 s3 (decide_eq_true ⟨r1,r2,r4,fun _=>by omega,fun _=>by omega,by rw [r3];exact hS.1⟩)
 unfold BO
 dsimp only
 rw [this]
 rfl
theorem JZ {α β:Type} {f g:α->List β}:∀ {l:List α},(∀ x∈l,f x=g x)->l.flatMap f=l.flatMap g
 | [],_=>rfl
 | x::l,h=>by rw [BR,BR,h x (by simp),JZ fun y hy=>h y (A9 _ hy)]
theorem Wv {g:Geo} {a:An} {p q:Int->Option Rc} {b0 b1:Int->Bool} {left ep:Int} {t:Tx} (hS:UK g a ep p q b0 b1 t (t.images.length+1)) (hleft:(t.images.length:Int)+1<=left) :
  EW g a p q t.pos t.seq left=(1,(t.images.length:Int)+1,t.images,MI g ep b0 b1 t):=by
 have hr:=HW t.seq ep t.images
 have hrec:=fun k of_ hk ho=>WA (left:=left) hS (Nat.le_refl _) hleft k of_ hk ho
 have a1:=hrec 0 0 (by omega) (.inl rfl)
 have a3:=(hr 0 (by omega)).2.2.2.2.1
 have gf:=IS (look:=fun k=>BO g a p q t.pos t.seq left k (t.images.length+1)) (R:=fun k=>(C9 t.seq ep t.images).getD k rc0) (imgs:=t.images) (fun j hj=>⟨(hr j (by omega)).2.2.2.2.2.1.2 hj,(hr j (by omega)).2.2.2.2.2.2 hj⟩) (fun e=>by have:=(hr t.images.length (by omega)).2.2.2.2.2.1.1 e;omega) (fun j h1 h2=>by rw [hrec j _ (by omega) (.inr rfl)];exact⟨rfl,rfl⟩) t.images.length 0 (JM g ep b0 b1 t 0) (by omega)
 unfold EW
 simp only
 have a1':BO g a p q t.pos t.seq left 0 0=((C9 t.seq ep t.images).getD 0 rc0,1,JM g ep b0 b1 t 0):=a1
 rw [a1']
 dsimp only
 rw [if_neg (fun h=>h rfl),a3]
 have ef:((t.images.length:Int)+1 - 1).toNat=t.images.length:=by omega
 rw [ef]
 have gf':AX (fun k=>BO g a p q t.pos t.seq left k (t.images.length+1)) t.images.length 1 ((C9 t.seq ep t.images).getD 0 rc0) [] (JM g ep b0 b1 t 0)=(1,t.images,Wb (fun k=>BO g a p q t.pos t.seq left k (t.images.length+1)) t.images.length 1 (JM g ep b0 b1 t 0)):=gf
 rw [gf',if_neg (show ¬(1:Int)≠1 by decide),SG]
 unfold MI
 rw [Cj,BR,List.flatMap_map]
 have ew:((List.range t.images.length).flatMap fun j=>(BO g a p q t.pos t.seq left (1+(j:Nat)) (t.images.length+1)).2.2)=(List.range t.images.length).flatMap fun j=>JM g ep b0 b1 t j.succ:=by
  refine JZ fun j hj=>?_
  have hj:=AC.1 hj
  have:=hrec (j+1) _ (by omega) (.inr rfl)
  rw [show 1+((j:Nat):Int)=(((j+1:Nat)):Int) by omega,this]
 rw [ew]
theorem NZ {g:Geo} {a b:An} {fill:UInt8} {p q:Int->Option Rc} {b0 b1:Int->Bool} {ep:Int} (hg:AS g=true) (hsq:a.seq<=1000000):∀ (sizes:List Int) (i:Nat) (pos used:Int) (l0:List Tx) (w:List Wr) (f:Nat),0<=used/\used<=g.sl->(0<=pos/\pos<g.sl)->i<=100->sizes.length+i<=100->g.sl - used<=(f:Nat)->(∀ t∈A8 g a fill sizes i pos used,UK g b ep p q b0 b1 t (t.images.length+1))->
  ∃ (f':Nat),g.sl - (used+usedM (A8 g a fill sizes i pos used))<=(f':Nat)/\used+usedM (A8 g a fill sizes i pos used)<=g.sl/\
   Dp g b p q f pos (a.seq+i) (g.sl - used) l0 w=Dp g b p q f' (Ia g (A8 g a fill sizes i pos used) pos) (a.seq+i+(A8 g a fill sizes i pos used).length) (g.sl - (used+usedM (A8 g a fill sizes i pos used))) (l0 ++ A8 g a fill sizes i pos used) (w ++ (A8 g a fill sizes i pos used).flatMap (MI g ep b0 b1))
 | [],i,pos,used,l0,w,f,hu,hp,hi,hl,hf,hs=>⟨f,by simp [A8,usedM];omega,by simp [A8,usedM];omega,by simp [A8,usedM,Ia]⟩
 | s::r,i,pos,used,l0,w,f,hu,hp,hi,hl,hf,hs=>by
  obtain⟨h1,h2,h3,h4,h5⟩:=Am.1 hg
  have hn:=Hu s
  simp only [Ai] at hl
  unfold A8 at hs |-
  by_cases hc:g.sl<used+(BJ s:Nat)+1
  ·rw [if_pos hc] at hs |-
   exact⟨f,by simp [usedM];omega,by simp [usedM];omega,by simp [usedM,Ia]⟩
  ·rw [if_neg hc] at hs |-
   have t1:=hs (Cn g a fill i pos (BJ s)) (by simp)
   have il:(Cn g a fill i pos (BJ s)).images.length=BJ s:=by simp [Cn]
   have tf:=Wv (left:=g.sl - used) t1 (by omega)
   rw [il,show (Cn g a fill i pos (BJ s)).pos=pos from rfl,show (Cn g a fill i pos (BJ s)).seq=a.seq+i from rfl] at tf
   have hm:=A3 (pos+(BJ s:Nat)+1) (show 0<g.sl by omega)
   have hm0:=AD g.sl (show 0<=pos+(BJ s:Nat)+1 by omega)
   cases f with
   | zero=>exfalso;omega
   | succ f=>
    obtain⟨f',e1,e3,e4⟩:=NZ (b:=b) (fill:=fill) hg hsq r (i+1) ((pos+(BJ s:Nat)+1).tmod g.sl) (used+(BJ s:Nat)+1) (l0 ++ [Cn g a fill i pos (BJ s)]) (w ++ MI g ep b0 b1 (Cn g a fill i pos (BJ s))) f (by omega) ⟨hm0,hm⟩ (by omega) (by omega) (by omega) (fun t ht=>hs t (A9 _ ht))
    refine⟨f',?_,?_,?_⟩
    ·simp only [usedM,Cn] at e1 |-
     omega
    ·simp only [usedM,Cn] at e3 |-
     omega
    ·have ea:a.seq+(((i+1:Nat)):Int)=a.seq+(i:Int)+1:=by omega
     rw [ea] at e4
     have hstep:Dp g b p q (f+1) pos (a.seq+i) (g.sl - used) l0 w=Dp g b p q f ((pos+(BJ s:Nat)+1).tmod g.sl) (a.seq+i+1) (g.sl - (used+(BJ s:Nat)+1)) (l0 ++ [Cn g a fill i pos (BJ s)]) (w ++ MI g ep b0 b1 (Cn g a fill i pos (BJ s))):=by
      conv=>lhs;unfold Dp
      rw [if_pos (by omega)]
      simp only [tf]
      rw [if_neg (by decide),if_neg (by decide)]
      rw [show pos+(((BJ s:Nat):Int)+1)=pos+(BJ s:Nat)+1 by omega,show g.sl - used - (((BJ s:Nat):Int)+1)=g.sl - (used+(BJ s:Nat)+1) by omega]
      rfl
     rw [hstep,e4]
     simp only [usedM,Ia,Cn,Ai,BR,List.append_assoc,Be,Bk,Cb]
     congr 1 <;> omega
theorem Kj {l:List Tx} (h:∀ t∈l,0<=t.n):0<=usedM l:=by
 induction l with
 | nil=>simp [usedM]
 | cons x y ih=>have:=ih (fun t ht=>h t (A9 _ ht));have:=h x (by simp);simp only [usedM];omega
theorem FO {g:Geo} {a:An} {fill:UInt8} {sizes:List Int} (hg:AS g=true) (ha:AY g a=true):∀ t∈A8 g a fill sizes 0 a.pos 0,0<=t.n:=fun t ht=>by
 have hq:=Cg ha
 obtain⟨j,hj,rfl⟩:=Df.1 ht
 obtain⟨pos,n,e, -⟩:=(IF (a:=a) (fill:=fill) hg sizes 0 a.pos 0 hq.2).at_ j hj
 rw [List.getD_eq_getElem?_getD,List.getElem?_eq_getElem hj] at e
 simp only [Bj] at e
 rw [e]
 simp only [Cn]
 omega
theorem Wz {g:Geo} {a b:An} {fill:UInt8} {sizes:List Int} {ep:Int} {p q:Int->Option Rc} {b0 b1:Int->Bool} (hg:AS g=true) (ha:AY g a=true) (hsq:a.seq<=1000000) (hl:sizes.length<=40) (hbs:b.seq=a.seq) (hbp:b.pos=a.pos) (hS:∀ t∈A8 g a fill sizes 0 a.pos 0,UK g b ep p q b0 b1 t (t.images.length+1)) :
  ∃ f:Nat,g.sl - usedM (A8 g a fill sizes 0 a.pos 0)<=(f:Nat)/\usedM (A8 g a fill sizes 0 a.pos 0)<=g.sl/\
   JK g b p q=LB b (Dp g b p q f ((a.pos+usedM (A8 g a fill sizes 0 a.pos 0)).tmod g.sl) (a.seq+(A8 g a fill sizes 0 a.pos 0).length) (g.sl - usedM (A8 g a fill sizes 0 a.pos 0)) (A8 g a fill sizes 0 a.pos 0) ((A8 g a fill sizes 0 a.pos 0).flatMap (MI g ep b0 b1))):=by
 obtain⟨h1,h2,h3,h4,h5⟩:=Am.1 hg
 have hq:=Cg ha
 obtain⟨f,e1,e2,e3⟩:=NZ (b:=b) (fill:=fill) hg hsq sizes 0 a.pos 0 [] [] g.sl.toNat ⟨Br 0,by omega⟩ hq.2 (by omega) (by omega) (by omega) hS
 have hpos:=Jq hg (A8 g a fill sizes 0 a.pos 0) a.pos hq.2.1 (FO hg ha)
 rw [DT hq.2.1 hq.2.2] at hpos
 rw [hpos] at e3
 refine⟨f,by omega,by omega,?_⟩
 unfold JK
 rw [hbp,hbs]
 simp only [Int.sub_zero,Bk,Int.zero_add,Int.natCast_zero,Int.add_zero] at e3
 rw [e3]
theorem P5 {g:Geo} {b:An} {p q:Int->Option Rc} {f:Nat} {pos seq left:Int} {l:List Tx} {w:List Wr} (h:0<left->(EW g b p q pos seq left).1=2):Dp g b p q f pos seq left l w=some (l,w,seq):=by
 cases f with
 | zero=>rfl
 | succ f=>
  unfold Dp
  by_cases hc:0<left/\seq<=4294967295
  ·rw [if_pos hc]
   simp only [h hc.1]
   rfl
  ·rw [if_neg hc]
theorem Rl {g:Geo} {b:An} {p q:Int->Option Rc} {pos seq left:Int} (h0:∀ of_ left,CJ (p (AW g pos 0)) b seq 0 of_ left=false) (h1:∀ of_ left,CJ (q (AW g pos 0)) b seq 0 of_ left=false) (h:((p (AW g pos 0)).isSome || (q (AW g pos 0)).isSome)=true):(EW g b p q pos seq left).1=2:=by
 have:(BO g b p q pos seq left 0 0).2.1=2:=by
  unfold BO JS
  simp only [h0,h1]
  simp [BT,h]
 unfold EW
 simp only [this]
 rfl
theorem OE {g:Geo} {a:An} {fill:UInt8}:∀ (sizes:List Int) (i:Nat) (pos used:Int) (j:Nat),j<(A8 g a fill sizes i pos used).length->((A8 g a fill sizes i pos used).getD j tz).pos=Ia g ((A8 g a fill sizes i pos used).take j) pos
 | [],_,_,_,j,h=>by simp [A8] at h
 | s::r,i,pos,used,j,h=>by
  unfold A8 at h |-
  split at h
  ·simp at h
  ·rename_i hc
   rw [if_neg hc]
   cases j with
   | zero=>rfl
   | succ j=>
    have ih:=OE r (i+1) ((pos+(BJ s:Nat)+1).tmod g.sl) (used+(BJ s:Nat)+1) j (by simpa using h)
    rw [B8,Ia,List.getD_cons_succ,ih]
    simp only [Cn]
    rw [Cb]
theorem used_take:∀ (l:List Tx) (j:Nat),j<l.length->usedM (l.take (j+1))=usedM (l.take j)+(l.getD j tz).n
 | [],j,h=>by simp at h
 | t::r,0,_=>by simp [usedM]
 | t::r,j+1,h=>by
  have:=used_take r j (by simpa using h)
  simp only [B8,usedM,List.getD_cons_succ] at this |-
  omega
section
variable {g:Geo} {a:An} {fill:UInt8} {sizes:List Int}
theorem Np (hg:AS g=true) (ha:AY g a=true) {j:Nat} (hj:j<(A8 g a fill sizes 0 a.pos 0).length):((A8 g a fill sizes 0 a.pos 0).getD j tz).seq=a.seq+j/\((A8 g a fill sizes 0 a.pos 0).getD j tz).n=((A8 g a fill sizes 0 a.pos 0).getD j tz).images.length+1/\1<=((A8 g a fill sizes 0 a.pos 0).getD j tz).images.length/\((A8 g a fill sizes 0 a.pos 0).getD j tz).images.length<=5:=by
 obtain⟨pos,n,e,n1,n2, -⟩:=(IF (a:=a) (fill:=fill) hg sizes 0 a.pos 0 (Cg ha).2).at_ j hj
 rw [e]
 simp [Cn]
 omega
theorem No {t:Tx} (hj:t∈A8 g a fill sizes 0 a.pos 0):∃ j,j<(A8 g a fill sizes 0 a.pos 0).length/\t=(A8 g a fill sizes 0 a.pos 0).getD j tz:=by
 obtain⟨j,h,rfl⟩:=Df.1 hj
 exact⟨j,h,by rw [List.getD_eq_getElem?_getD,List.getElem?_eq_getElem h];rfl⟩
theorem JT (hg:AS g=true) (ha:AY g a=true) (j:Nat):0<=usedM ((A8 g a fill sizes 0 a.pos 0).take j):=Kj fun t ht=>FO hg ha t (Bw ht)
theorem TQ (hg:AS g=true) (ha:AY g a=true) {j k:Nat} (hj:j<(A8 g a fill sizes 0 a.pos 0).length) (hk:k<((A8 g a fill sizes 0 a.pos 0).getD j tz).images.length+1):AW g ((A8 g a fill sizes 0 a.pos 0).getD j tz).pos k=(a.pos+(usedM ((A8 g a fill sizes 0 a.pos 0).take j)+k)).tmod g.sl:=by
 obtain⟨h1,h2,h3,h4,h5⟩:=Am.1 hg
 have hq:=Cg ha
 have hu:=JT (fill:=fill) (sizes:=sizes) hg ha j
 have hp:=Jq hg ((A8 g a fill sizes 0 a.pos 0).take j) a.pos hq.2.1 fun t ht=>FO hg ha t (Bw ht)
 rw [DT hq.2.1 hq.2.2,<-OE sizes 0 a.pos 0 j hj] at hp
 have hgt:=Np (fill:=fill) (sizes:=sizes) hg ha hj
 rw [hp]
 unfold AW
 have q1:=AD g.sl (show 0<=a.pos+usedM ((A8 g a fill sizes 0 a.pos 0).take j) by omega)
 have q2:=A3 (a.pos+usedM ((A8 g a fill sizes 0 a.pos 0).take j)) (show 0<g.sl by omega)
 rw [show IntKind.i64.wrap ((a.pos+usedM ((A8 g a fill sizes 0 a.pos 0).take j)).tmod g.sl+(k:Int))=(a.pos+usedM ((A8 g a fill sizes 0 a.pos 0).take j)).tmod g.sl+k by rw [IntKind.wrap_i64];omega]
 rw [As (show 0<=a.pos+usedM ((A8 g a fill sizes 0 a.pos 0).take j) by omega)] at q1 |-
 rw [As (by omega),As (by omega),Cy,Cb]
theorem RL {ep u:Int} (hg:AS g=true) (ha:AY g a=true) (hu:usedM (A8 g a fill sizes 0 a.pos 0)<=u) (hs:u<g.sl):Gq g (A8 g a fill sizes 0 a.pos 0) ep ((a.pos+u).tmod g.sl)=zeroC:=by
 obtain⟨h1,h2,h3,h4,h5⟩:=Am.1 hg
 have hq:=Cg ha
 have h0:=Kj (FO (fill:=fill) (sizes:=sizes) hg ha)
 have hw:=Ki (a:=a) (fill:=fill) hg (p0:=a.pos) hq.2 (u:=u) (by omega) sizes 0 0 0 ⟨Br 0,by omega⟩
 rw [show (a.pos+0).tmod g.sl=a.pos by rw [Int.add_zero];exact DT hq.2.1 hq.2.2] at hw
 rw [findU_none _ 0 0 _ (FO hg ha) (by omega)] at hw
 unfold Gq
 rw [hw]
theorem UZ (hg:AS g=true) {x:Int} (hx:0<=x):AW g (x.tmod g.sl) 0=x.tmod g.sl:=by
 obtain⟨h1,h2,h3,h4,h5⟩:=Am.1 hg
 have q1:=AD g.sl hx
 have q2:=A3 x (show 0<g.sl by omega)
 unfold AW
 rw [Int.add_zero,show IntKind.i64.wrap (x.tmod g.sl)=x.tmod g.sl by rw [IntKind.wrap_i64];omega]
 exact DT q1 q2
theorem O5 (b:An) (s at_ of_ left:Int):CJ (some zeroC) b s at_ of_ left=false:=by
 show C_ zeroC b s at_ of_ left=false
 exact decide_eq_false fun h=>h.1 rfl
theorem O7 (b:An) (s at_ of_ left:Int):CJ none b s at_ of_ left=false:=rfl
theorem N_ {L:List Tx} {ep s:Int} {bad:Int->Bool} (hs:0<=s/\s<g.sl):G6 g L ep bad s=if bad s then none else some (Gq g L ep s):=by
 unfold G6
 rw [if_pos hs]
theorem Q8 {b:An} {ep:Int} {bad:Int->Bool} (hg:AS g=true) (ha:AY g a=true) {j k:Nat} (hj:j<(A8 g a fill sizes 0 a.pos 0).length) (hk:k<((A8 g a fill sizes 0 a.pos 0).getD j tz).images.length+1) :
  L4 b (G6 g (A8 g a fill sizes 0 a.pos 0) ep bad (AW g ((A8 g a fill sizes 0 a.pos 0).getD j tz).pos k)) (!bad (AW g ((A8 g a fill sizes 0 a.pos 0).getD j tz).pos k)) ((C9 ((A8 g a fill sizes 0 a.pos 0).getD j tz).seq ep ((A8 g a fill sizes 0 a.pos 0).getD j tz).images).getD k rc0) ((A8 g a fill sizes 0 a.pos 0).getD j tz).seq k:=by
 obtain⟨q1,q2⟩:=I6 (fill:=fill) (sizes:=sizes) (ep:=ep) hg ha hj hk
 rw [N_ q1,q2]
 unfold L4
 cases bad (AW g ((A8 g a fill sizes 0 a.pos 0).getD j tz).pos k)
 ·rfl
 ·exact fun _ _=>rfl
theorem Xa {b:An} {ep:Int} {bad0 bad1:Int->Bool} (hg:AS g=true) (ha:AY g a=true) {j n:Nat} (hj:j<(A8 g a fill sizes 0 a.pos 0).length) (hn:n<=((A8 g a fill sizes 0 a.pos 0).getD j tz).images.length+1) (he:ep=b.epoch\/a.seq+j<=b.last/\ep<=b.epoch) (hb:∀ k,k<n->(bad0 (AW g ((A8 g a fill sizes 0 a.pos 0).getD j tz).pos (k:Nat))&&bad1 (AW g ((A8 g a fill sizes 0 a.pos 0).getD j tz).pos (k:Nat)))=false) :
  UK g b ep (G6 g (A8 g a fill sizes 0 a.pos 0) ep bad0) (G6 g (A8 g a fill sizes 0 a.pos 0) ep bad1) (fun s=>!bad0 s) (fun s=>!bad1 s) ((A8 g a fill sizes 0 a.pos 0).getD j tz) n:=by
 refine⟨?_,fun k hk=>⟨Q8 hg ha hj (by omega),Q8 hg ha hj (by omega),?_⟩⟩
 ·rw [(Np hg ha hj).1]
  exact he
 ·have:=hb k hk
  cases h0:bad0 (AW g ((A8 g a fill sizes 0 a.pos 0).getD j tz).pos k) <;> cases h1:bad1 (AW g ((A8 g a fill sizes 0 a.pos 0).getD j tz).pos k) <;> simp_all
end
theorem Ro (g:Geo) (ep:Int) (l:List Tx) {b0 b1:Int->Bool} (h0:∀ s,b0 s=true) (h1:∀ s,b1 s=true):l.flatMap (MI g ep b0 b1)=[]:=by
 rw [List.flatMap_eq_nil_iff]
 intro t _
 unfold MI
 rw [List.flatMap_eq_nil_iff]
 intro k _
 simp [JM,h0,h1,Jh]
section
variable {g:Geo} {a:An} {fill:UInt8} {sizes:List Int}
end
theorem Kv {p u v n:Int} (hp:0<=p/\p<n) (hu:0<=u/\u<n) (hv:0<=v/\v<n) (h:(p+u).tmod n=(p+v).tmod n):u=v:=by
 have h1:(p+u).tmod n=if p+u<n then p+u else p+u - n:=by
  split
  ·exact DT (by omega) (by omega)
  ·exact Hk (by omega) (by omega) (by omega)
 have h2:(p+v).tmod n=if p+v<n then p+v else p+v - n:=by
  split
  ·exact DT (by omega) (by omega)
  ·exact Hk (by omega) (by omega) (by omega)
 rw [h1,h2] at h
 split at h <;> split at h <;> omega
section
variable {g:Geo} {a:An} {fill:UInt8} {sizes:List Int}
theorem SN {u:Int} (hg:AS g=true) (ha:AY g a=true) (hu:usedM (A8 g a fill sizes 0 a.pos 0)<=u) (hs:u<g.sl):HJ g ((a.pos+u).tmod g.sl) (A8 g a fill sizes 0 a.pos 0) 0=none:=by
 obtain⟨h1,h2,h3,h4,h5⟩:=Am.1 hg
 have hq:=Cg ha
 have h0:=Kj (FO (fill:=fill) (sizes:=sizes) hg ha)
 have hw:=Ki (a:=a) (fill:=fill) hg (p0:=a.pos) hq.2 (u:=u) (by omega) sizes 0 0 0 ⟨Br 0,by omega⟩
 rw [show (a.pos+0).tmod g.sl=a.pos by rw [Int.add_zero];exact DT hq.2.1 hq.2.2] at hw
 rw [findU_none _ 0 0 _ (FO hg ha) (by omega)] at hw
 exact hw
theorem SL (hg:AS g=true) (ha:AY g a=true) {j k:Nat} (hj:j<(A8 g a fill sizes 0 a.pos 0).length) (hk:k<((A8 g a fill sizes 0 a.pos 0).getD j tz).images.length+1):(HJ g (AW g ((A8 g a fill sizes 0 a.pos 0).getD j tz).pos k) (A8 g a fill sizes 0 a.pos 0) 0).isSome=true:=by
 obtain⟨-,r2⟩:=I6 (ep:=0) hg ha hj hk
 cases h:HJ g (AW g ((A8 g a fill sizes 0 a.pos 0).getD j tz).pos k) (A8 g a fill sizes 0 a.pos 0) 0 with
 | some _=>rfl
 | none=>
  unfold Gq at r2
  rw [h] at r2
  have:=(HW ((A8 g a fill sizes 0 a.pos 0).getD j tz).seq 0 ((A8 g a fill sizes 0 a.pos 0).getD j tz).images k hk).1
  rw [<-r2] at this
  exact absurd rfl this
end
abbrev PQ:=(Int->Option Rc) × (Int->Option Rc)
def SE (p:Int->Option Rc) (s:Int) (v:Option Rc):Int->Option Rc:=fun t=>if t=s then v else p t
def H6 (g:Geo) (x:Wr) (z:PQ):PQ:=if x.addr - g.an<g.sl then (SE z.1 (x.addr - g.an) (Cc g ⟨0,x.bytes⟩ 0 (x.addr - g.an)),z.2) else (z.1,SE z.2 (x.addr - g.an - g.sl) (Cc g ⟨0,x.bytes⟩ 1 (x.addr - g.an - g.sl)))
def Eo (g:Geo):List Wr->PQ->PQ
 | [],z=>z
 | x::r,z=>Eo g r (H6 g x z)
def SJ (g:Geo) (x:Wr):Int:=if x.addr - g.an<g.sl then x.addr - g.an else x.addr - g.an - g.sl
theorem Ga (g:Geo):∀ (l m:List Wr) (z:PQ),Eo g (l ++ m) z=Eo g m (Eo g l z)
 | [],_,_=>rfl
 | x::r,m,z=>Ga g r m (H6 g x z)
def AtS (z z':PQ) (s:Int):Prop:=z.1 s=z'.1 s/\z.2 s=z'.2 s
theorem OA {g:Geo} {x:Wr} {z z':PQ} {s:Int} (h:AtS z z' s):AtS (H6 g x z) (H6 g x z') s:=by
 unfold H6 SE
 split
 ·refine⟨?_,h.2⟩
  dsimp only
  split
  ·rfl
  ·exact h.1
 ·refine⟨h.1,?_⟩
  dsimp only
  split
  ·rfl
  ·exact h.2
theorem GT {g:Geo}:∀ (l:List Wr) {z z':PQ} {s:Int},AtS z z' s->AtS (Eo g l z) (Eo g l z') s
 | [],_,_,_,h=>h
 | _::r,_,_,_,h=>GT r (OA h)
theorem RU {g:Geo} {x:Wr} {z:PQ} {s:Int} (h:SJ g x≠s):AtS (H6 g x z) z s:=by
 unfold SJ at h
 unfold H6 SE
 split
 ·rename_i hc
  rw [if_pos hc] at h
  exact⟨if_neg (Ne.symm h),rfl⟩
 ·rename_i hc
  rw [if_neg hc] at h
  exact⟨rfl,if_neg (Ne.symm h)⟩
theorem AtS.trans {a b c:PQ} {s:Int} (h:AtS a b s) (k:AtS b c s):AtS a c s:=⟨h.1.trans k.1,h.2.trans k.2⟩
theorem AtS.symm {a b:PQ} {s:Int} (h:AtS a b s):AtS b a s:=⟨h.1.symm,h.2.symm⟩
theorem F_ {g:Geo}:∀ (l:List Wr) {z:PQ} {s:Int},(∀ x∈l,SJ g x≠s)->AtS (Eo g l z) z s
 | [],_,_,_=>⟨rfl,rfl⟩
 | x::r,z,s,h=>(F_ r fun y hy=>h y (A9 _ hy)).trans (RU (h x (by simp)))
theorem WE {g:Geo} {c s:Int} (hc:c=0\/c=1) (hs:0<=s/\s<g.sl):Gh g c s=true:=by
 rw [Gh,AI.2 (show 0<=s/\s<=g.sl - 1 by omega)]
 rcases hc with rfl | rfl <;> rfl
theorem Gw {g:Geo} {c s:Int} {r:Rc} {z:PQ} (hg:AS g=true) (hc:c=0\/c=1) (hs:0<=s/\s<g.sl) (hr:DH g r=true):H6 g ⟨AN g c s,C6 g r c s⟩ z=if c=0 then (SE z.1 s (some r),z.2) else (z.1,SE z.2 s (some r)):=by
 have h:=LU hg hr (WE hc hs)
 unfold H6 AN
 rcases hc with rfl | rfl
 ·have e:g.an+0*g.sl+s - g.an=s:=by omega
  dsimp only
  rw [e,if_pos hs.2,if_pos rfl,h]
 ·have e:g.an+1*g.sl+s - g.an=s+g.sl:=by omega
  dsimp only
  rw [e,if_neg (by omega),if_neg (by decide),show s+g.sl - g.sl=s by omega,h]
theorem SI {g:Geo} {c s:Int} {b:List UInt8} (hc:c=0\/c=1) (hs:0<=s/\s<g.sl):SJ g ⟨AN g c s,b⟩=s:=by
 unfold SJ AN
 rcases hc with rfl | rfl
 ·dsimp only
  rw [if_pos (by omega)];omega
 ·dsimp only
  rw [if_neg (by omega)];omega
theorem T4 {g:Geo} {a:An} {p q:Int->Option Rc} {z':PQ} {pos seq left at_ of_:Int} (hg:AS g=true) (hok:∀ s r,p s=some r\/q s=some r->DH g r=true) (hs:0<=AW g pos at_/\AW g pos at_<g.sl) (h:(BO g a p q pos seq left at_ of_).2.1=1) (hz:AtS z' (Eo g (BO g a p q pos seq left at_ of_).2.2 (p,q)) (AW g pos at_)):BO g a z'.1 z'.2 pos seq left at_ of_=((BO g a p q pos seq left at_ of_).1,1, []):=by
 unfold BO JS at h hz |-
 dsimp only at h hz |-
 generalize AW g pos at_=s at h hz hs |-
 cases hp:p s with
 | none=>
  cases hq:q s with
  | none=>rw [hp,hq] at h;simp [CJ,BT] at h
  | some r=>
   rw [hp,hq] at h hz
   have ho:C_ r a seq at_ of_ left=true:=by
    cases hb:C_ r a seq at_ of_ left with
    | true=>rfl
    | false=>simp [CJ,hb,BT] at h
   simp [CJ,ho,BT,Eo] at hz
   rw [Gw hg (.inl rfl) hs (hok s r (.inr hq)),if_pos rfl] at hz
   obtain⟨h1,h2⟩:=hz
   dsimp only [SE] at h1 h2
   rw [if_pos rfl] at h1
   rw [h1,h2,hq]
   simp [CJ,ho,BT]
 | some r1=>
  cases hq:q s with
  | none=>
   rw [hp,hq] at h hz
   have ho:C_ r1 a seq at_ of_ left=true:=by
    cases hb:C_ r1 a seq at_ of_ left with
    | true=>rfl
    | false=>simp [CJ,hb,BT] at h
   simp [CJ,ho,BT,Eo] at hz
   rw [Gw hg (.inr rfl) hs (hok s r1 (.inl hp)),if_neg (by decide)] at hz
   obtain⟨h1,h2⟩:=hz
   dsimp only [SE] at h1 h2
   rw [if_pos rfl] at h2
   rw [h1,h2,hp]
   simp [CJ,ho,BT]
  | some r2=>
   rw [hp,hq] at h hz
   cases ho1:C_ r1 a seq at_ of_ left with
   | true=>
    cases ho2:C_ r2 a seq at_ of_ left with
    | true=>
     simp [CJ,ho1,ho2,BT,Eo] at hz
     obtain⟨h1,h2⟩:=hz
     dsimp only at h1 h2
     rw [h1,h2,hp,hq]
     simp [CJ,ho1,ho2,BT]
    | false=>
     simp [CJ,ho1,ho2,BT,Eo] at hz
     rw [Gw hg (.inr rfl) hs (hok s r1 (.inl hp)),if_neg (by decide)] at hz
     obtain⟨h1,h2⟩:=hz
     dsimp only [SE] at h1 h2
     rw [if_pos rfl] at h2
     rw [h1,h2,hp]
     simp [CJ,ho1,ho2,BT]
   | false=>
    cases ho2:C_ r2 a seq at_ of_ left with
    | true=>
     simp [CJ,ho1,ho2,BT,Eo] at hz
     rw [Gw hg (.inl rfl) hs (hok s r2 (.inr hq)),if_pos rfl] at hz
     obtain⟨h1,h2⟩:=hz
     dsimp only [SE] at h1 h2
     rw [if_pos rfl] at h1
     rw [h1,h2,hq]
     simp [CJ,ho1,ho2,BT]
    | false=>simp [CJ,ho1,ho2,BT] at h
theorem HY {g:Geo} {a:An} {p q:Int->Option Rc} {pos seq left at_ of_:Int} (hok:∀ s r,p s=some r\/q s=some r->DH g r=true) (h:(BO g a p q pos seq left at_ of_).2.1=1):DH g (BO g a p q pos seq left at_ of_).1=true/\C_ (BO g a p q pos seq left at_ of_).1 a seq at_ of_ left=true:=by
 unfold BO JS at h |-
 dsimp only at h |-
 generalize AW g pos at_=s at h |-
 cases hp:p s with
 | none=>
  cases hq:q s with
  | none=>rw [hp,hq] at h;simp [CJ,BT] at h
  | some r=>
   rw [hp,hq] at h
   cases hb:C_ r a seq at_ of_ left with
   | true=>simp [CJ,hb,BT,hok s r (.inr hq)]
   | false=>simp [CJ,hb,BT] at h
 | some r1=>
  cases hq:q s with
  | none=>
   rw [hp,hq] at h
   cases hb:C_ r1 a seq at_ of_ left with
   | true=>simp [CJ,hb,BT,hok s r1 (.inl hp)]
   | false=>simp [CJ,hb,BT] at h
  | some r2=>
   rw [hp,hq] at h
   cases ho1:C_ r1 a seq at_ of_ left with
   | true=>cases ho2:C_ r2 a seq at_ of_ left <;> simp [CJ,ho1,ho2,BT,hok s r1 (.inl hp)]
   | false=>
    cases ho2:C_ r2 a seq at_ of_ left with
    | true=>simp [CJ,ho1,ho2,BT,hok s r2 (.inr hq)]
    | false=>simp [CJ,ho1,ho2,BT] at h
theorem TP (x y:Option Rc) (b1 b2:Bool):∀ c∈(BT x y b1 b2).2.1,c=0\/c=1:=by
 unfold BT
 cases b1 <;> cases b2
 ·by_cases h:(x.isSome || y.isSome)=true <;> simp [h]
 ·simp
 ·simp
 ·simp
theorem Vp {g:Geo} {a:An} {p q:Int->Option Rc} {pos seq left at_ of_:Int} (hs:0<=AW g pos at_/\AW g pos at_<g.sl):∀ x∈(BO g a p q pos seq left at_ of_).2.2,SJ g x=AW g pos at_:=by
 intro x hx
 unfold BO at hx
 obtain⟨c,hc,rfl⟩:=AH.1 hx
 exact SI (TP _ _ _ _ c hc) hs
theorem PX (x y:Option Rc) (b1 b2:Bool) (h:(BT x y b1 b2).2.2≠1):(BT x y b1 b2).2.1=[]:=by
 unfold BT at h |-
 cases b1 <;> cases b2
 ·by_cases h:(x.isSome || y.isSome)=true <;> simp [h]
 ·simp at h
 ·simp at h
 ·simp at h
theorem Jb {g:Geo} {r:Rc} (h:DH g r=true) (copy slot:Int):(C6 g r copy slot).length<=200:=by
 have:=Eh h
 rw [C6,Fo]
 omega
theorem PL {g:Geo} {a:An} {p q:Int->Option Rc} {pos seq left at_ of_:Int} (hok:∀ s r,p s=some r\/q s=some r->DH g r=true):∀ x∈(BO g a p q pos seq left at_ of_).2.2,x.bytes.length<=200:=by
 intro x hx
 by_cases h:(BO g a p q pos seq left at_ of_).2.1=1
 ·have hr:=(HY hok h).1
  unfold BO at hx hr
  obtain⟨c,hc,rfl⟩:=AH.1 hx
  exact Jb hr _ _
 ·unfold BO JS at hx h
  dsimp only at hx h
  rw [PX _ _ _ _ h] at hx
  simp at hx
theorem LO {g:Geo} {p0 U k:Int} (hg:AS g=true) (hp:0<=p0/\p0<g.sl) (hU:0<=U) (hk:0<=k/\k<=1000):AW g ((p0+U).tmod g.sl) k=(p0+(U+k)).tmod g.sl:=by
 obtain⟨h1,h2,h3,h4,h5⟩:=Am.1 hg
 unfold AW
 have q1:=AD g.sl (show 0<=p0+U by omega)
 have q2:=A3 (p0+U) (show 0<g.sl by omega)
 rw [show IntKind.i64.wrap ((p0+U).tmod g.sl+k)=(p0+U).tmod g.sl+k by rw [IntKind.wrap_i64];omega]
 rw [As (show 0<=p0+U by omega)] at q1 |-
 rw [As (by omega),As (by omega),Cy,Cb]
theorem GY {look:Int->Rc × Int × List Wr} {f:Nat} {k:Int} {r:Rc} {im:List Img} {w:List Wr} (h:(look k).2.1=1):AX look (f+1) k r im w=AX look f (k+1) (look k).1 (if r.kind=1 then im ++ [r.img] else im) (w ++ (look k).2.2):=by
 conv=>lhs;unfold AX
 dsimp only
 rw [if_neg (not_not_intro h)]
theorem JV {look:Int->Rc × Int × List Wr} {f:Nat} {k:Int} {r:Rc} {im:List Img} {w:List Wr} (h:(look k).2.1≠1):AX look (f+1) k r im w=((look k).2.1, [], []):=by
 conv=>lhs;unfold AX
 dsimp only
 rw [if_pos h]
theorem Hh {g:Geo} {a:An} {p q:Int->Option Rc} {pos seq left:Int} (h:(BO g a p q pos seq left 0 0).2.1=1):EW g a p q pos seq left=(let t:=AX (fun k=>BO g a p q pos seq left k (BO g a p q pos seq left 0 0).1.of_) ((BO g a p q pos seq left 0 0).1.of_ - 1).toNat 1 (BO g a p q pos seq left 0 0).1 [] (BO g a p q pos seq left 0 0).2.2
  if t.1≠1 then (t.1,0, [], []) else (1,(BO g a p q pos seq left 0 0).1.of_,t.2.1,t.2.2)):=by
 conv=>lhs;unfold EW
 dsimp only
 rw [if_neg (not_not_intro h)]
theorem Jj {g:Geo} {a:An} {p q:Int->Option Rc} {pos seq left:Int} (h:(BO g a p q pos seq left 0 0).2.1≠1):EW g a p q pos seq left=((BO g a p q pos seq left 0 0).2.1,0, [], []):=by
 conv=>lhs;unfold EW
 dsimp only
 rw [if_pos h]
theorem GZ {look look':Int->Rc × Int × List Wr}:∀ (f:Nat) (k:Int) (r:Rc) (im:List Img) (w w0:List Wr),(∀ i,k<=i->i<k+f->(look i).2.1=1->look' i=((look i).1,1, []))->(AX look f k r im w).1=1->
  AX look' f k r im w0=(1,(AX look f k r im w).2.1,w0)/\(AX look f k r im w).2.2=w ++ (List.range f).flatMap (fun j=>(look (k+(j:Nat))).2.2)/\∀ i,k<=i->i<k+f->(look i).2.1=1
 | 0,k,r,im,w,w0,_,_=>⟨rfl,by simp [AX],fun i h1 h2=>by omega⟩
 | f+1,k,r,im,w,w0,hl,h=>by
  by_cases hq:(look k).2.1=1
  ·have e:=hl k (by omega) (by omega) hq
   rw [GY hq] at h |-
   rw [GY (show (look' k).2.1=1 by rw [e]),e]
   dsimp only
   obtain⟨i1,i2,i3⟩:=GZ f (k+1) (look k).1 (if r.kind=1 then im ++ [r.img] else im) (w ++ (look k).2.2) (w0 ++ []) (fun i h1 h2=>hl i (by omega) (by omega)) h
   refine⟨?_,?_,fun i h1 h2=>?_⟩
   ·rw [i1,List.append_nil]
   ·rw [i2,Cj,BR,List.flatMap_map,List.append_assoc]
    congr 1
    congr 1
    ·rw [show k+((0:Nat):Int)=k by omega]
    ·congr 1
     funext j
     rw [show k+1+(j:Int)=k+((j.succ:Nat):Int) by omega]
   ·by_cases ei:i=k
    ·rw [ei];exact hq
    ·exact i3 i (by omega) (by omega)
  ·rw [JV hq] at h
   exact absurd h hq
theorem IT {look look':Int->Rc × Int × List Wr}:∀ (f:Nat) (k:Int) (r:Rc) (im:List Img) (w:List Wr),(∀ i,k<=i->i<k+f->look' i=look i)->AX look' f k r im w=AX look f k r im w
 | 0,_,_,_,_,_=>rfl
 | f+1,k,r,im,w,hl=>by
  unfold AX
  dsimp only
  rw [hl k (by omega) (by omega),IT f (k+1) (look k).1 _ _ (fun i h1 h2=>hl i (by omega) (by omega))]
theorem Ml {g:Geo} {W:Nat->List Wr} {z:PQ} {s:Int} {k:Nat}:∀ n,k<n->(∀ j,j<n->j≠k->∀ x∈W j,SJ g x≠s)->AtS (Eo g ((List.range n).flatMap W) z) (Eo g (W k) z) s
 | 0,h,_=>by omega
 | n+1,hk,h=>by
  rw [Bo,List.flatMap_append,Ga]
  simp only [BR,List.flatMap_nil,List.append_nil]
  by_cases e:k=n
  ·subst e
   refine GT (W k) (F_ _ fun x hx=>?_)
   obtain⟨j,hj,hx⟩:=List.mem_flatMap.1 hx
   have hj:=AC.1 hj
   exact h j (by omega) (by omega) x hx
  ·exact(F_ (W n) (h n (by omega) (Ne.symm e))).trans (Ml n (by omega) fun j hj hne=>h j (by omega) hne)
def UL (g:Geo) (p0 U:Int) (z z':PQ):Prop:=∀ u,U<=u->u<g.sl->AtS z z' ((p0+u).tmod g.sl)
section
variable {g:Geo} {a:An} {p q:Int->Option Rc} {p0:Int}
theorem RK {z':PQ} {pos seq left at_ of_:Int} (h:AtS z' (p,q) (AW g pos at_)):BO g a z'.1 z'.2 pos seq left at_ of_=BO g a p q pos seq left at_ of_:=by
 unfold BO JS
 dsimp only
 rw [h.1,h.2]
theorem Rm {z':PQ} {U seq left:Int} (hg:AS g=true) (hok:∀ s r,p s=some r\/q s=some r->DH g r=true) (hp:0<=p0/\p0<g.sl) (hU:0<=U/\U+left=g.sl/\0<left) (h:UL g p0 U z' (p,q)):EW g a z'.1 z'.2 ((p0+U).tmod g.sl) seq left=EW g a p q ((p0+U).tmod g.sl) seq left:=by
 obtain⟨h1,h2,h3,h4,h5⟩:=Am.1 hg
 have hr:∀ (k of_:Int),0<=k->U+k<g.sl->BO g a z'.1 z'.2 ((p0+U).tmod g.sl) seq left k of_=BO g a p q ((p0+U).tmod g.sl) seq left k of_:=fun k of_ hk hk2=>RK (by rw [LO hg hp hU.1 (by omega)];exact h _ (by omega) hk2)
 by_cases h0:(BO g a p q ((p0+U).tmod g.sl) seq left 0 0).2.1=1
 ·rw [Hh h0,Hh (by rw [hr 0 0 (by omega) (by omega)];exact h0),hr 0 0 (by omega) (by omega)]
  obtain⟨f1,f2⟩:=HY hok h0
  have hN:=GQ f1 f2
  have hlft:=hN.2.2.2.2.1 rfl
  rw [IT (look:=fun k=>BO g a p q ((p0+U).tmod g.sl) seq left k (BO g a p q ((p0+U).tmod g.sl) seq left 0 0).1.of_) _ _ _ _ _ (fun i h1 h2=>hr i _ (by omega) (by omega))]
 ·rw [Jj h0,Jj (by rw [hr 0 0 (by omega) (by omega)];exact h0),hr 0 0 (by omega) (by omega)]
theorem ST {U seq left:Int} (hg:AS g=true) (hok:∀ s r,p s=some r\/q s=some r->DH g r=true) (hp:0<=p0/\p0<g.sl) (hU:0<=U/\U+left=g.sl) (h:(EW g a p q ((p0+U).tmod g.sl) seq left).1=1) :
  (2<=(EW g a p q ((p0+U).tmod g.sl) seq left).2.1/\(EW g a p q ((p0+U).tmod g.sl) seq left).2.1<=left)/\
  (∀ x∈(EW g a p q ((p0+U).tmod g.sl) seq left).2.2.2,∃ u,(U<=u/\u<U+(EW g a p q ((p0+U).tmod g.sl) seq left).2.1)/\SJ g x=(p0+u).tmod g.sl/\x.bytes.length<=200)/\
  ∀ z':PQ,(∀ u,U<=u->u<U+(EW g a p q ((p0+U).tmod g.sl) seq left).2.1->AtS z' (Eo g (EW g a p q ((p0+U).tmod g.sl) seq left).2.2.2 (p,q)) ((p0+u).tmod g.sl))->
   EW g a z'.1 z'.2 ((p0+U).tmod g.sl) seq left=(1,(EW g a p q ((p0+U).tmod g.sl) seq left).2.1,(EW g a p q ((p0+U).tmod g.sl) seq left).2.2.1, []):=by
 obtain⟨h1,h2,h3,h4,h5⟩:=Am.1 hg
 by_cases h0:(BO g a p q ((p0+U).tmod g.sl) seq left 0 0).2.1=1
 ·obtain⟨f1,f2⟩:=HY hok h0
  have hN:=GQ f1 f2
  have hlft:=hN.2.2.2.2.1 rfl
  obtain⟨of_,hof⟩:∃ n:Nat,(BO g a p q ((p0+U).tmod g.sl) seq left 0 0).1.of_=(n:Int)+1:=⟨((BO g a p q ((p0+U).tmod g.sl) seq left 0 0).1.of_ - 1).toNat,by omega⟩
  have et:((of_:Int)+1 - 1).toNat=of_:=by omega
  have hsl:∀ k:Int,0<=k->k<=of_->AW g ((p0+U).tmod g.sl) k=(p0+(U+k)).tmod g.sl/\0<=AW g ((p0+U).tmod g.sl) k/\AW g ((p0+U).tmod g.sl) k<g.sl:=fun k hk hk2=>by
   have e:=LO hg hp hU.1 (k:=k) (by omega)
   rw [e]
   exact⟨rfl,AD g.sl (by omega),A3 _ (by omega)⟩
  rw [Hh h0,hof,et] at h |-
  dsimp only at h |-
  by_cases hG:(AX (fun k=>BO g a p q ((p0+U).tmod g.sl) seq left k ((of_:Int)+1)) of_ 1 (BO g a p q ((p0+U).tmod g.sl) seq left 0 0).1 [] (BO g a p q ((p0+U).tmod g.sl) seq left 0 0).2.2).1=1
  ·rw [if_neg (not_not_intro hG)]
   dsimp only
   obtain⟨-,g2,g3⟩:=GZ (look':=fun i=>((BO g a p q ((p0+U).tmod g.sl) seq left i ((of_:Int)+1)).1,1, [])) of_ 1 (BO g a p q ((p0+U).tmod g.sl) seq left 0 0).1 [] (BO g a p q ((p0+U).tmod g.sl) seq left 0 0).2.2 [] (fun i _ _ _=>rfl) hG
   -- what is to be written,record by record
   have eW:(AX (fun k=>BO g a p q ((p0+U).tmod g.sl) seq left k ((of_:Int)+1)) of_ 1 (BO g a p q ((p0+U).tmod g.sl) seq left 0 0).1 [] (BO g a p q ((p0+U).tmod g.sl) seq left 0 0).2.2).2.2=(List.range (of_+1)).flatMap fun j=>(BO g a p q ((p0+U).tmod g.sl) seq left (j:Nat) (if j=0 then 0 else (of_:Int)+1)).2.2:=by
    rw [g2,Cj,BR,List.flatMap_map]
    congr 1
    congr 1
    funext j
    rw [if_neg (Nat.succ_ne_zero j),show 1+(j:Int)=((j.succ:Nat):Int) by omega]
   have hwr:∀ j:Nat,j<of_+1->∀ x∈(BO g a p q ((p0+U).tmod g.sl) seq left (j:Nat) (if j=0 then 0 else (of_:Int)+1)).2.2,SJ g x=(p0+(U+j)).tmod g.sl:=fun j hj x hx=>by
    obtain⟨e1,e2⟩:=hsl j (by omega) (by omega)
    rw [Vp e2 x hx,e1]
   refine⟨⟨by omega,by omega⟩,fun x hx=>?_,fun z' hz=>?_⟩
   ·rw [eW] at hx
    obtain⟨j,hj,hx⟩:=List.mem_flatMap.1 hx
    have hj:=AC.1 hj
    exact⟨U+j,by omega,hwr j hj x hx,PL hok x hx⟩
   ·rw [eW] at hz
    have hrec:∀ k:Nat,k<of_+1->(BO g a p q ((p0+U).tmod g.sl) seq left (k:Nat) (if k=0 then 0 else (of_:Int)+1)).2.1=1->BO g a z'.1 z'.2 ((p0+U).tmod g.sl) seq left (k:Nat) (if k=0 then 0 else (of_:Int)+1)=((BO g a p q ((p0+U).tmod g.sl) seq left (k:Nat) (if k=0 then 0 else (of_:Int)+1)).1,1, []):=fun k hk hf=>by
     obtain⟨e1,e2⟩:=hsl k (by omega) (by omega)
     refine T4 hg hok e2 hf ?_
     rw [e1]
     refine(hz (U+k) (by omega) (by omega)).trans ?_
     refine Ml (W:=fun j=>(BO g a p q ((p0+U).tmod g.sl) seq left (j:Nat) (if j=0 then 0 else (of_:Int)+1)).2.2) (k:=k) _ hk fun j hj hne x hx e=>?_
     rw [hwr j hj x hx] at e
     have:=Kv hp (by omega) (by omega) e
     omega
    have r0:=hrec 0 (by omega) h0
    rw [if_pos rfl] at r0
    have r0':BO g a z'.1 z'.2 ((p0+U).tmod g.sl) seq left 0 0=((BO g a p q ((p0+U).tmod g.sl) seq left 0 0).1,1, []):=r0
    rw [Hh (by rw [r0']),r0']
    dsimp only
    rw [hof,et]
    obtain⟨g4, -, -⟩:=GZ (look:=fun k=>BO g a p q ((p0+U).tmod g.sl) seq left k ((of_:Int)+1)) (look':=fun k=>BO g a z'.1 z'.2 ((p0+U).tmod g.sl) seq left k ((of_:Int)+1)) of_ 1 (BO g a p q ((p0+U).tmod g.sl) seq left 0 0).1 [] (BO g a p q ((p0+U).tmod g.sl) seq left 0 0).2.2 [] (fun i i1 i2 hf=>by
     obtain⟨k,rfl⟩:=Cx (show 0<=i by omega)
     have:=hrec k (by omega)
     rw [if_neg (by omega)] at this
     exact this hf) hG
    rw [g4]
    dsimp only
    rw [if_neg (fun h=>h rfl)]
  ·rw [if_pos hG] at h
   exact absurd h hG
 ·rw [Jj h0] at h
  exact absurd h h0
theorem LS (hg:AS g=true) (hok:∀ s r,p s=some r\/q s=some r->DH g r=true) (hp:0<=p0/\p0<g.sl):∀ (f:Nat) (U seq left:Int) (l:List Tx) (w:List Wr) {l':List Tx} {w':List Wr} {seq':Int},0<=U->U+left=g.sl->Dp g a p q f ((p0+U).tmod g.sl) seq left l w=some (l',w',seq')->
  ∃ wr,w'=w ++ wr/\(∀ x∈wr,∃ u,(U<=u/\u<g.sl)/\SJ g x=(p0+u).tmod g.sl/\x.bytes.length<=200)/\∀ z':PQ,UL g p0 U z' (Eo g wr (p,q))->∀ w0,Dp g a z'.1 z'.2 f ((p0+U).tmod g.sl) seq left l w0=some (l',w0,seq')
 | 0,U,seq,left,l,w,l',w',seq',_,_,h=>by
  unfold Dp at h
  injection h with h
  injection h with e1 h
  injection h with e2 e3
  subst e1 e2 e3
  exact⟨[],by simp,by simp,fun _ _ _=>rfl⟩
 | f+1,U,seq,left,l,w,l',w',seq',hU,hl,h=>by
  obtain⟨h1,h2,h3,h4,h5⟩:=Am.1 hg
  unfold Dp at h
  by_cases hc:0<left/\seq<=4294967295
  ·rw [if_pos hc] at h
   dsimp only at h
   by_cases t3:(EW g a p q ((p0+U).tmod g.sl) seq left).1=3
   ·rw [if_pos t3] at h
    cases h
   ·rw [if_neg t3] at h
    by_cases t1:(EW g a p q ((p0+U).tmod g.sl) seq left).1=1
    ·rw [if_neg (fun h=>h t1)] at h
     obtain⟨⟨n1,n2⟩,n3,n4⟩:=ST hg hok hp ⟨hU,hl⟩ t1
     generalize EW g a p q ((p0+U).tmod g.sl) seq left=T at h n1 n2 n3 n4
     obtain⟨how,n,im,tw⟩:=T
     dsimp only at h n1 n2 n3 n4
     have ep:((p0+U).tmod g.sl+n).tmod g.sl=(p0+(U+n)).tmod g.sl:=by
      rw [As (show 0<=p0+U by omega)]
      have q1:=Int.emod_nonneg (p0+U) (show g.sl≠0 by omega)
      rw [As (by omega),As (by omega),Cy,Cb]
     rw [ep] at h
     obtain⟨wr,i1,i2,i3⟩:=LS hg hok hp f (U+n) (seq+1) (left - n) _ _ (by omega) (by omega) h
     refine⟨tw ++ wr,by rw [i1,List.append_assoc],fun x hx=>?_,fun z' hz w0=>?_⟩
     ·rcases Ax.1 hx with hx | hx
      ·obtain⟨u,u1,u2⟩:=n3 x hx
       exact⟨u,by omega,u2⟩
      ·obtain⟨u,u1,u2⟩:=i2 x hx
       exact⟨u,by omega,u2⟩
     ·unfold UL at hz
      have ht:=n4 z' fun u u1 u2=>by
       have:=hz u u1 (by omega)
       rw [Ga] at this
       refine this.trans (F_ wr fun x hx e=>?_)
       obtain⟨v,v1,v2, -⟩:=i2 x hx
       rw [v2] at e
       have:=Kv hp (by omega) (by omega) e
       omega
      unfold Dp
      rw [if_pos hc,ht]
      dsimp only
      rw [if_neg (by decide),if_neg (fun h=>h rfl),ep]
      have:=i3 z' (fun u u1 u2=>by
       have:=hz u (by omega) u2
       rw [Ga] at this
       refine this.trans (GT wr (F_ tw fun x hx e=>?_))
       obtain⟨v,v1,v2, -⟩:=n3 x hx
       rw [v2] at e
       have:=Kv hp (by omega) (by omega) e
       omega) (w0 ++ [])
      rw [this,List.append_nil]
    ·rw [if_pos t1] at h
     injection h with h
     injection h with e1 h
     injection h with e2 e3
     subst e1 e2 e3
     refine⟨[],by simp,by simp,fun z' hz w0=>?_⟩
     have ht:=Rm (a:=a) (seq:=seq) hg hok hp ⟨hU,hl,hc.1⟩ hz
     unfold Dp
     rw [if_pos hc,ht]
     dsimp only
     rw [if_neg t3,if_pos t1]
  ·rw [if_neg hc] at h
   injection h with h
   injection h with e1 h
   injection h with e2 e3
   subst e1 e2 e3
   refine⟨[],by simp,by simp,fun z' hz w0=>?_⟩
   unfold Dp
   rw [if_neg hc]
end
theorem JG (l:List Int) (hl:l.length<=1000000):Fn Tryz.prog 154 [iA l] fun r=>r=iA l:=by
 refine Fn.st Tryz.func154 rfl ?_
 refine⟨by omega,?_⟩
 refine⟨by simp,?_⟩
 exact⟨iA l,fun c v h=>Rd.congr rfl (fun i hi=>Ei hi) h,rfl⟩
theorem L8 (a:An) (hh:a.homes.length<=1000) (hp:∀ h∈a.homes,h.places.length<=1000000):Fn Tryz.prog 152 [.ag (CE a)] fun r=>r = .ag (CE a):=by
 refine Fn.st Tryz.func152 rfl ?_
 conv=>whnf
 refine aLoop.rule Nat (fun k=>([(1, .bp 0 0),(2, .bp 1 0),(3,H4 a.homes),(4, .v (.int .i64 k))], [.box 40 [.v (.int .i64 a.gen), .v (.int .i64 a.epoch), .v (.int .i64 a.pos), .v (.int .i64 a.seq), .v (.int .i64 a.last), .v (.string a.label), .ow 2 k], .box 40 [.v (.int .i64 0), .v (.int .i64 0), .v (.int .i64 0), .v (.int .i64 0), .v (.int .i64 0), .v (.string ⟨#[]⟩), .v (.slice none 0 0)], .row 132 3 ((a.homes.take k).map H8)])) (fun k=>k<=a.homes.length) (fun k=>a.homes.length - k) 0 (Ag _) ⟨[(1000006,132,3)],⟨rfl,rfl,trivial⟩,⟨rfl,rfl,rfl,rfl,trivial⟩,⟨rfl,rfl,rfl,trivial⟩,rfl,rfl,rfl⟩ ?_
 intro k hk
 conv=>whnf
 refine Al (fun c1=>?_) (fun c1=>?_) <;> (repeat rw [Aa] at c1) <;> conv=>whnf
 ·have ti:=JG (a.homes.getD k ⟨[],0,0⟩).places (hp _ (AE c1))
  refine aDraw.of tys_ok mixed [0,1,2,3,4,5,6,8,9,10,11,12,13,14,15,16,17,7,18,19,20,21,22] (by kernel_rfl) ?_
  conv=>whnf
  repeat' (first | (refine aSeq.go ?_;conv=>whnf) | (refine Al (fun _=>?_) (fun _=>?_) <;> conv=>whnf) | (refine Fn.cl ti ?_;conv=>whnf) | (refine And.intro (by first | omega | exact of_decide_eq_true rfl) ?_;conv=>whnf) | fail)
  refine And.intro ⟨by rw [Ab,Ao];omega,by omega⟩ ?_
  exact⟨k+1,by omega,by omega, [],trivial,⟨rfl,rfl,rfl,AA (by omega),trivial⟩,⟨rfl,rfl,congrArg (AB.row _ _) (FU c1),trivial⟩,rfl,rfl,rfl⟩
 ·refine And.intro (by rw [Ab,Ao];omega) ?_
  conv=>whnf
  have ek:k=a.homes.length:=by omega
  subst ek
  refine⟨.ag (CE a),AG ⟨ri,ri,ri,ri,ri,ri,?_,trivial⟩,rfl⟩
  rw [List.take_length]
  exact AJ a.homes rfl rfl
theorem Ej {g:Geo} {a:An} (h:AY g a=true):(0<=a.gen/\a.gen<=4294967295)/\(0<=a.epoch/\a.epoch<=4294967295)/\(1<=a.seq/\a.seq<=4294967295)/\(0<=a.last/\a.last<=4294967295/\a.seq - 1<=a.last)/\(0<=a.pos/\a.pos<g.sl)/\(a.homes.length:Int)=g.z/\∀ x∈a.homes,DV g x=true:=by
 simp only [AY,Bn,Ck,Bool.and_eq_true,AI,decide_eq_true_eq,A4] at h
 obtain⟨⟨q1,q2,q3,q4, -⟩,q5,q6,q7,q8,q9,q10⟩:=h
 exact⟨q1,q2,⟨q5,q3.2⟩,⟨q4.1,q4.2,q6⟩,⟨q7.1,by omega⟩,q9,q10⟩
theorem Pq {g:Geo} {a:An} (hg:AS g=true) (h:AY g a=true):∀ x∈a.homes,x.places.length<=1000000:=by
 obtain⟨h1,h2,h3,h4,h5⟩:=Am.1 hg
 intro x hx
 have:=(Ej h).2.2.2.2.2.2 x hx
 simp only [DV,Bool.and_eq_true,decide_eq_true_eq] at this
 omega
theorem Vc {g:Geo} {b:An} {x y:List Gt} {p q:Int->Option Rc} {r:List Tx × List Wr × Int} (hg:AS g=true) (hb:AY g b=true) (hx:(x.length:Int)=g.sl) (hy:(y.length:Int)=g.sl) (hp:DI g x 0=p) (hq:DI g y 1=q) (h:JK g b p q=r):FL g b x y=r:=by
 unfold FL
 rw [if_pos (by rw [hg,hb];rfl),if_pos ⟨hx,hy⟩,MM,hp,hq,h]
def PW (g:Geo) (x:Wr) (z:List Gt × List Gt):List Gt × List Gt:=if x.addr - g.an<g.sl then (z.1.set (x.addr - g.an).toNat ⟨0,x.bytes⟩,z.2) else (z.1,z.2.set (x.addr - g.an - g.sl).toNat ⟨0,x.bytes⟩)
def IC (g:Geo) (w:List Wr) (z:List Gt × List Gt):Nat->List Gt × List Gt
 | 0=>z
 | k+1=>PW g (w.getD k ⟨0, []⟩) (IC g w z k)
theorem Ju {g:Geo} {w:List Wr} {z:List Gt × List Gt}:∀ k,(IC g w z k).1.length=z.1.length/\(IC g w z k).2.length=z.2.length
 | 0=>⟨rfl,rfl⟩
 | k+1=>by
  obtain⟨h1,h2⟩:=Ju (g:=g) (w:=w) (z:=z) k
  unfold IC PW
  split
  ·exact⟨by rw [Bl,h1],h2⟩
  ·exact⟨h1,by rw [Bl,h2]⟩
theorem Oa {g:Geo} {x:List Gt} {copy:Int} {k:Nat} {b:List UInt8} (hk:k<x.length):DI g (x.set k ⟨0,b⟩) copy=SE (DI g x copy) (k:Nat) (Cc g ⟨0,b⟩ copy (k:Nat)):=by
 funext s
 unfold DI SE
 by_cases e:s=(k:Nat)
 ·subst e
  rw [if_pos rfl,Aa,List.getD_eq_getElem?_getD,List.getElem?_set_self hk]
  rfl
 ·rw [if_neg e]
  by_cases hs:0<=s/\s<g.sl
  ·obtain⟨i,rfl⟩:=Cx hs.1
   rw [Aa,List.getD_eq_getElem?_getD,List.getElem?_set_ne (by omega),<-List.getD_eq_getElem?_getD]
   rfl
  ·rw [Jm hs]
   exact(Jm hs).symm
def Xc (g:Geo) (x:Wr):Prop:=0<=x.addr - g.an/\x.addr - g.an<2*g.sl
theorem Mk {g:Geo} {w:List Wr} {z:List Gt × List Gt} (h1:(z.1.length:Int)=g.sl) (h2:(z.2.length:Int)=g.sl):∀ k,k<=w.length->(∀ x∈w,Xc g x)->(DI g (IC g w z k).1 0,DI g (IC g w z k).2 1)=Eo g (w.take k) (DI g z.1 0,DI g z.2 1)
 | 0,_,_=>rfl
 | k+1,hk,hw=>by
  have ih:=Mk h1 h2 k (by omega) hw
  have hx:=hw _ (AE (d:=⟨0, []⟩) (show k<w.length by omega))
  obtain⟨l1,l2⟩:=Ju (g:=g) (w:=w) (z:=z) k
  rw [Ar (by omega),Ga,<-ih]
  rw [show w[k]=w.getD k ⟨0, []⟩ by rw [List.getD_eq_getElem?_getD,List.getElem?_eq_getElem (by omega)];rfl]
  simp only [Eo,H6,IC,PW]
  generalize w.getD k ⟨0, []⟩=x at hx
  unfold Xc at hx
  by_cases hc:x.addr - g.an<g.sl
  ·rw [if_pos hc,if_pos hc]
   dsimp only
   rw [Oa (by omega),B9 hx.1]
  ·rw [if_neg hc,if_neg hc]
   dsimp only
   rw [Oa (by omega),B9 (show 0<=x.addr - g.an - g.sl by omega)]
theorem Td {g:Geo} {x y:List Gt}:∀ s r,DI g x 0 s=some r\/DI g y 1 s=some r->DH g r=true:=by
 rintro s r (h | h)
 ·exact(K9 h).1
 ·exact(K9 h).1
theorem P7 {g:Geo} {a:An} {x y:List Gt} {l:List Tx} {w:List Wr} (h:FL g a x y=(l,w,0)):(AS g=true/\AY g a=true)/\((x.length:Int)=g.sl/\(y.length:Int)=g.sl)/\(∀ z∈w,Xc g z/\z.bytes.length<=200)/\FL g a (IC g w (x,y) w.length).1 (IC g w (x,y) w.length).2=(l, [],0):=by
 unfold FL at h
 by_cases hA:(AS g&&AY g a)=true
 ·rw [if_pos hA] at h
  obtain⟨hg,ha⟩:=Di.1 hA
  obtain⟨h1,h2,h3,h4,h5⟩:=Am.1 hg
  have hq:=Cg ha
  by_cases hx:(x.length:Int)=g.sl/\(y.length:Int)=g.sl
  ·rw [if_pos hx,MM] at h
   unfold JK at h
   cases hR:Dp g a (DI g x 0) (DI g y 1) g.sl.toNat a.pos a.seq g.sl [] [] with
   | none=>rw [hR] at h;simp [LB,damaged] at h
   | some R=>
    obtain⟨l',w',seq'⟩:=R
    rw [hR] at h
    by_cases hl:seq' - 1<a.last
    ·rw [E3 hl] at h
     simp [damaged] at h
    ·rw [DO hl] at h
     injection h with e1 h
     injection h with e2 _
     subst e1 e2
     have e0:(a.pos+0).tmod g.sl=a.pos:=by rw [Int.add_zero];exact DT hq.2.1 hq.2.2
     rw [<-e0] at hR
     obtain⟨wr,w1,w2,w3⟩:=LS hg (Td (g:=g) (x:=x) (y:=y)) hq.2 g.sl.toNat 0 a.seq g.sl [] [] (Br 0) (by omega) hR
     rw [Bk] at w1
     subst w1
     have hin:∀ z∈w',Xc g z/\z.bytes.length<=200:=fun z hz=>by
      obtain⟨u,u1,u2,u3⟩:=w2 z hz
      refine⟨?_,u3⟩
      have q1:=AD g.sl (show 0<=a.pos+u by omega)
      have q2:=A3 (a.pos+u) (show 0<g.sl by omega)
      rw [<-u2] at q1 q2
      unfold SJ at q1 q2
      unfold Xc
      split at q1 <;> omega
     refine⟨⟨hg,ha⟩,hx,hin,?_⟩
     obtain⟨l1,l2⟩:=Ju (g:=g) (w:=w') (z:=(x,y)) w'.length
     have hm:=Mk (g:=g) (w:=w') (z:=(x,y)) hx.1 hx.2 w'.length (Nat.le_refl _) fun z hz=>(hin z hz).1
     rw [List.take_length] at hm
     have hm1:=congrArg Prod.fst hm
     have hm2:=congrArg Prod.snd hm
     refine Vc hg ha (by rw [l1];exact hx.1) (by rw [l2];exact hx.2) hm1 hm2 ?_
     unfold JK
     have:=w3 (Eo g w' (DI g x 0,DI g y 1)) (fun u _ _=>⟨rfl,rfl⟩) []
     rw [e0] at this
     rw [this,DO hl]
  ·rw [if_neg hx] at h
   injection h with _ h
   injection h with _ h
   cases h
 ·rw [if_neg hA] at h
  injection h with _ h
  injection h with _ h
  cases h
theorem K7 {g:Geo} {a:An} {x y:List Gt} (hg:AS g=true):∀ (f:Nat) (pos seq left:Int) (l:List Tx) (w:List Wr) {l':List Tx} {w':List Wr} {seq':Int},(0<=pos/\pos<g.sl)->CZ g a x y f pos seq left l w=some (l',w',seq')->w'.length<=w.length+30*f
 | 0,pos,seq,left,l,w,l',w',seq',_,h=>by
  unfold CZ at h
  injection h with h
  injection h with e1 h
  injection h with e2 e3
  subst e2
  omega
 | f+1,pos,seq,left,l,w,l',w',seq',hp,h=>by
  unfold CZ at h
  have fin:some (l,w,seq)=some (l',w',seq')->w'.length<=w.length+30*(f+1):=fun h=>by
   injection h with h
   injection h with e1 h
   injection h with e2 e3
   subst e2
   omega
  by_cases hc:0<left/\seq<=4294967295
  ·rw [if_pos hc] at h
   dsimp only at h
   have tf:=Fv (a:=a) (x:=x) (y:=y) (seq:=seq) (left:=left) hg hp
   generalize DE g a x y pos seq left=T at tf h
   obtain⟨how,n,im,ws⟩:=T
   dsimp only at tf h
   rcases tf with ⟨rfl,t1,t2⟩ | tf
   ·rw [if_neg (by decide),if_neg (by decide)] at h
    obtain⟨h1,h2,h3,h4,h5⟩:=Am.1 hg
    have hm:=A3 (pos+n) (show 0<g.sl by omega)
    have hm0:=AD g.sl (show 0<=pos+n by omega)
    have:=K7 hg f _ _ _ _ _ ⟨hm0,hm⟩ h
    rw [Ae] at this
    omega
   ·by_cases e3:how=3
    ·rw [if_pos e3] at h
     cases h
    ·rw [if_neg e3,if_pos (by omega)] at h
     exact fin h
  ·rw [if_neg hc] at h
   exact fin h
theorem IR {look:Int->Rc × Int × List Wr}:∀ (f:Nat) (k:Int) (r:Rc) (im:List Img) (w:List Wr),(∀ i,k<=i->i<k+f->(look i).2.1=1->(look i).1.img.bytes.length<=59)->r.img.bytes.length<=59->(∀ i∈im,i.bytes.length<=59)->∀ i∈(AX look f k r im w).2.1,i.bytes.length<=59
 | 0,k,r,im,w,_,hr,hi=>by
  unfold AX
  dsimp only
  intro i hm
  split at hm
  ·rcases Ax.1 hm with h | h
   ·exact hi i h
   ·have e:i=r.img:=by simpa using h
    rw [e];exact hr
  ·exact hi i hm
 | f+1,k,r,im,w,hl,hr,hi=>by
  by_cases hq:(look k).2.1=1
  ·rw [GY hq]
   refine IR f (k+1) _ _ _ (fun i h1 h2 h3=>hl i (by omega) (by omega) h3) (hl k (by omega) (by omega) hq) ?_
   intro i hm
   split at hm
   ·rcases Ax.1 hm with h | h
    ·exact hi i h
    ·have e:i=r.img:=by simpa using h
     rw [e];exact hr
   ·exact hi i hm
  ·rw [JV hq]
   simp
theorem Py {g:Geo} {a:An} {x y:List Gt} {pos seq left:Int} (hg:AS g=true) (hp:0<=pos/\pos<g.sl):∀ i∈(DE g a x y pos seq left).2.2.1,i.bytes.length<=59:=by
 have hf:=fun(k of_:Int) (hk:0<=k/\k<=1000)=>ED (a:=a) (x:=x) (y:=y) (seq:=seq) (left:=left) (of_:=of_) (at_:=k) hg hp hk
 unfold DE
 dsimp only
 split
 ·simp
 ·rename_i h0
  have h0:=Classical.not_not.1 h0
  obtain⟨e1,⟨e2,e2',e3⟩, -⟩:=(hf 0 0 (by omega)).resolve_right fun h=>by omega
  have hN:=GQ e2 e3
  split
  ·simp
  ·dsimp only
   refine IR _ _ _ _ _ (fun i h1 h2 h3=>?_) e2' (by simp)
   obtain⟨-,⟨-,q, -⟩, -⟩:=(hf i (Cz g a x y pos seq left 0 0).1.of_ (by omega)).resolve_right fun h=>by omega
   exact q
theorem K8 {g:Geo} {a:An} {x y:List Gt} (hg:AS g=true):∀ (f:Nat) (pos seq left:Int) (l:List Tx) (w:List Wr) {l':List Tx} {w':List Wr} {seq':Int},(0<=pos/\pos<g.sl)->(∀ t∈l,t.images.length<=30/\∀ i∈t.images,i.bytes.length<=59)->CZ g a x y f pos seq left l w=some (l',w',seq')->l'.length<=l.length+f/\∀ t∈l',t.images.length<=30/\∀ i∈t.images,i.bytes.length<=59
 | 0,pos,seq,left,l,w,l',w',seq',_,hl,h=>by
  unfold CZ at h
  injection h with h
  injection h with e1 h
  subst e1
  exact⟨by omega,hl⟩
 | f+1,pos,seq,left,l,w,l',w',seq',hp,hl,h=>by
  unfold CZ at h
  have fin:some (l,w,seq)=some (l',w',seq')->l'.length<=l.length+(f+1)/\∀ t∈l',t.images.length<=30/\∀ i∈t.images,i.bytes.length<=59:=fun h=>by
   injection h with h
   injection h with e1 h
   subst e1
   exact⟨by omega,hl⟩
  by_cases hc:0<left/\seq<=4294967295
  ·rw [if_pos hc] at h
   dsimp only at h
   have tf:=Fv (a:=a) (x:=x) (y:=y) (seq:=seq) (left:=left) hg hp
   have ti:=fun e=>LJ (a:=a) (x:=x) (y:=y) (seq:=seq) (left:=left) hg hp e
   have ts:=Py (a:=a) (x:=x) (y:=y) (seq:=seq) (left:=left) hg hp
   generalize DE g a x y pos seq left=T at tf h ti ts
   obtain⟨how,n,im,ws⟩:=T
   dsimp only at tf h ti ts
   rcases tf with ⟨rfl,t1,t2⟩ | tf
   ·rw [if_neg (by decide),if_neg (by decide)] at h
    obtain⟨h1,h2,h3,h4,h5⟩:=Am.1 hg
    have hm:=A3 (pos+n) (show 0<g.sl by omega)
    have hm0:=AD g.sl (show 0<=pos+n by omega)
    have hi:=ti rfl
    have:=K8 hg f _ _ _ _ _ ⟨hm0,hm⟩ (fun t ht=>by
     rcases Ax.1 ht with h | h
     ·exact hl t h
     ·have e:t=⟨seq,pos,n,im⟩:=by simpa using h
      rw [e]
      exact⟨by dsimp only;omega,ts⟩) h
    rw [Ae] at this
    exact⟨by have:=this.1;simp only [Ai,AK] at this;omega,this.2⟩
   ·by_cases e3:how=3
    ·rw [if_pos e3] at h
     cases h
    ·rw [if_neg e3,if_pos (by omega)] at h
     exact fin h
  ·rw [if_neg hc] at h
   exact fin h
theorem P6 {g:Geo} {a:An} {x y:List Gt}:(FL g a x y).2.1.length<=900:=by
 unfold FL
 by_cases hA:(AS g&&AY g a)=true
 ·rw [if_pos hA]
  obtain⟨hg,ha⟩:=Di.1 hA
  obtain⟨h1,h2,h3,h4,h5⟩:=Am.1 hg
  split
  ·unfold CY
   cases hR:CZ g a x y g.sl.toNat a.pos a.seq g.sl [] [] with
   | none=>exact Ag _
   | some R=>
    obtain⟨l',w',seq'⟩:=R
    have:=K7 hg _ _ _ _ _ _ (Cg ha).2 hR
    by_cases hl:seq' - 1<a.last
    ·rw [E3 hl];exact Ag _
    ·rw [DO hl]
     simp only [AK] at this
     dsimp only
     omega
  ·exact Ag _
 ·rw [if_neg hA];exact Ag _
theorem LT {g:Geo} {a:An} {x y:List Gt}:∀ (f:Nat) (pos seq left:Int) (l:List Tx) (w:List Wr) {l':List Tx} {w':List Wr} {seq':Int},seq<=4294967296->CZ g a x y f pos seq left l w=some (l',w',seq')->seq'<=4294967296
 | 0,pos,seq,left,l,w,l',w',seq',h1,h=>by
  unfold CZ at h
  injection h with h
  injection h with e1 h
  injection h with e2 e3
  omega
 | f+1,pos,seq,left,l,w,l',w',seq',h1,h=>by
  unfold CZ at h
  have fin:some (l,w,seq)=some (l',w',seq')->seq'<=4294967296:=fun h=>by
   injection h with h
   injection h with e1 h
   injection h with e2 e3
   omega
  by_cases hc:0<left/\seq<=4294967295
  ·rw [if_pos hc] at h
   simp only at h
   generalize DE g a x y pos seq left=q at h
   split at h
   ·cases h
   ·split at h
    ·exact fin h
    ·exact LT f _ _ _ _ _ (by omega) h
  ·rw [if_neg hc] at h
   exact fin h
theorem HT {g:Geo} {a:An} {x y:List Gt} (hg:AS g=true) (ha:AY g a=true) (h:(CY g a x y).2.2=0):a.last<=a.seq+(CY g a x y).1.length - 1/\a.seq+(CY g a x y).1.length - 1<=4294967295:=by
 obtain⟨g1,g2,g3,g4,g5⟩:=Am.1 hg
 have hq:=Cg ha
 have hp:=Ej ha
 unfold CY at h |-
 cases hR:CZ g a x y g.sl.toNat a.pos a.seq g.sl [] [] with
 | none=>rw [hR] at h;simp [LB,damaged] at h
 | some q=>
  obtain⟨l,w,seq⟩:=q
  rw [hR] at h
  obtain⟨c1,c2,c3⟩:=JL hg _ _ _ _ _ _ (l':=l) (w':=w) (seq':=seq) (show G4 g [] a.seq a.pos from trivial) rfl (by simp) (by simp [usedM]) (by omega) hq.2 hR
  have hm:=LT _ _ _ _ _ _ (by omega) hR
  by_cases hl:seq - 1<a.last
  ·rw [E3 hl] at h;simp [damaged] at h
  ·rw [DO hl]
   simp only
   omega
def CK (a:An) (n:Nat):An:={ a with gen:=a.gen+1,epoch:=a.epoch+1,last:=a.seq+n - 1 }
theorem IB {g:Geo} {a:An} {n:Nat} (ha:AY g a=true) (h1:a.gen≠4294967295) (h2:a.epoch≠4294967295) (h3:a.seq+n - 1<=4294967295):AY g (CK a n)=true:=by
 have hp:=Ej ha
 simp only [AY,Bn,Ck,Bool.and_eq_true,AI,decide_eq_true_eq] at ha
 simp only [AY,Bn,Ck,Bool.and_eq_true,AI,decide_eq_true_eq]
 obtain⟨⟨q1,q2,q3,q4,q11⟩,q5,q6,q7,q8,q9,q10⟩:=ha
 refine⟨⟨?_,?_,q3,?_,q11⟩,q5,?_,q7,q8,q9,q10⟩
 ·show 0<=a.gen+1/\a.gen+1<=4294967295;omega
 ·show 0<=a.epoch+1/\a.epoch+1<=4294967295;omega
 ·show 0<=a.seq+n - 1/\a.seq+n - 1<=4294967295;omega
 ·show a.seq - 1<=a.seq+n - 1;omega
def GD (a:An) (t:List Tx):Stt:=⟨a,t,false,0,0,0,0, []⟩
def Ig (g:Geo) (a:An) (t:List Tx) (d:Dk):Dk × Int × Stt:=
 if a.gen=4294967295\/a.epoch=4294967295 then (d,14,st0) else
 let q:=d.putAll (Au g (CK a t.length))
 if q.2.2 then (q.1,8,st0) else if q.2.1=0 then (q.1,14,st0) else (q.1,0,GD (CK a t.length) t)
def Ih (g:Geo) (a:An) (q:List Tx × List Wr × Int) (d:Dk):Dk × Int × Stt:=
 if q.2.2≠0 then (d,q.2.2,st0) else
 if (d.mend q.2.1).2 then ((d.mend q.2.1).1,8,st0) else Ig g a q.1 (d.mend q.2.1).1
def Gv (g:Geo) (a:An) (d:Dk):Dk × Int × Stt:=
 if d.live (2*g.sl.toNat) then Ih g a (CY g a (AF d (AL g 0)) (AF d (AL g 1))) (d.adv (2*g.sl.toNat)) else (d.adv (2*g.sl.toNat),8,st0)
def BK (g:Geo) (d:Dk):Dk × Int × Stt:=
 if d.live g.an.toNat then
  match En g (AF d (BE g)) with
  | none=>(d.adv g.an.toNat,11,st0)
  | some (a,_)=>Gv g a (d.adv g.an.toNat)
 else (d.adv g.an.toNat,8,st0)
theorem Tc {g:Geo} {x:Gt} {i:Int} {a:An} (hg:AS g=true) (h:C3 g x i=some a):AY g a=true:=by
 unfold C3 at h
 split at h
 ·cases hR:Cu g (BU x.bytes) with
  | none=>rw [hR] at h;cases h
  | some b=>
   rw [hR] at h
   simp only at h
   split at h
   ·cases h;exact(PP hg hR).1
   ·cases h
 ·cases h
theorem Gr {g:Geo} {l:List Gt} (hg:AS g=true):∀ (k:Nat) {a:An} {j:Nat},Du g l k=some (a,j)->AY g a=true
 | 0,a,j,h=>by cases h
 | k+1,a,j,h=>by
  rw [Gs,Mb] at h
  cases hS:C3 g (l.getD k ⟨0, []⟩) (k:Nat) with
  | none=>rw [hS] at h;exact Gr hg k h
  | some b=>
   have hb:=Tc hg hS
   rw [hS] at h
   cases hP:Du g l k with
   | none=>rw [hP] at h;cases h;exact hb
   | some q=>
    obtain⟨c,i⟩:=q
    rw [hP] at h
    simp only at h
    split at h
    ·cases h;exact hb
    ·cases h;exact Gr hg k hP
theorem Er {d:Dk} (h:DkOk d) (l:List Int):∀ x∈AF d l,x.bytes.length<=100000:=by
 intro x hx
 simp only [AF,AH] at hx
 obtain⟨a,_,rfl⟩:=hx
 have:=Sr h a
 show (d.got a).1.length<=_
 omega
theorem I1 {g:Geo} {a:An} {x y:List Gt} {n:Nat} (hg:AS g=true) (ha:AY g a=true) (hx:(x.length:Int)=g.sl) (hy:(y.length:Int)=g.sl) (hn:(n:Int)=A0 g) (h:(CY g a x y).2.2=0):(∀ w∈(CY g a x y).2.1,NE n w)/\(CY g a x y).2.1.length<=900:=by
 have e:FL g a x y=CY g a x y:=by rw [FL,if_pos (by rw [hg,ha];rfl),if_pos ⟨hx,hy⟩]
 have hl:=P6 (g:=g) (a:=a) (x:=x) (y:=y)
 rw [e] at hl
 obtain⟨g1,g2,g3,g4,g5⟩:=Am.1 hg
 have hc:=Dt hg
 refine⟨fun w hw=>?_,hl⟩
 obtain⟨_,_,h3,_⟩:=P7 (l:=(CY g a x y).1) (w:=(CY g a x y).2.1) (e.trans (by rw [<-h]))
 obtain⟨p1,p2⟩:=h3 w hw
 unfold Xc at p1
 exact⟨by omega,p2⟩
def Dk.tick (k:Nat) (d:Dk):Dk:=⟨d.cells,d.cache,min (d.reqs+k) 1048576,if d.left<0 then d.left else d.left - k⟩
structure Lv (d:Dk) (k:Nat):Prop where
 r:0<=d.reqs/\d.reqs<=1048576
 l:d.left<0\/(k:Int)<=d.left
theorem Lv.le {d:Dk} {k j:Nat} (h:Lv d k) (hj:j<=k):Lv d j:=⟨h.r,by have:=h.l;omega⟩
theorem KG {d:Dk} (h:0<=d.reqs/\d.reqs<=1048576) (_h0:d.left≠0) (hl:d.left<0\/1<=d.left):d.req=d.tick 1:=by
 unfold Dk.req Dk.tick
 rw [wi (by omega)]
 congr 1
 ·split <;> omega
 ·split <;> split <;> omega
theorem FX {d:Dk} (a b:Nat) (_hr:d.reqs<=1048576) (h:d.left<0\/(a:Int)<=d.left):(d.tick a).tick b=d.tick (a+b):=by
 unfold Dk.tick
 congr 1
 ·simp only;omega
 ·simp only
  by_cases h':d.left<0
  ·simp only [h',if_true]
  ·rw [if_neg h',if_neg (by omega),if_neg h'];omega
theorem LK {d:Dk} (hr:d.reqs<=1048576):d.tick 0=d:=by
 unfold Dk.tick
 obtain⟨c,ca,r,l⟩:=d
 simp only [Dk.mk.injEq,true_and] at hr |-
 constructor
 ·omega
 ·split <;> omega
theorem Ix {d:Dk} {a b:Nat} (h:Lv d (a+b)):Lv (d.tick a) b:=by
 have:=h.r;have:=h.l
 refine⟨?_,?_⟩
 ·show 0<=min _ _/\min _ _<=_;omega
 ·show (if d.left<0 then d.left else d.left - a)<0\/(b:Int)<=(if d.left<0 then d.left else d.left - a)
  split <;> omega
theorem L3 {d:Dk}:∀ (k:Nat),Lv d k->d.adv k=d.tick k
 | 0,h=>(LK h.r.2).symm
 | k+1,h=>by
  have ih:=L3 k (h.le (by omega))
  have h1:=Ix (a:=k) (b:=1) h
  have h2:=h1.l
  show (if (d.adv k).left=0 then d.adv k else (d.adv k).req)=_
  rw [ih,if_neg (by omega),KG h1.r (by omega) (by omega),FX k 1 h.r.2 (by have:=h.l;omega)]
def free (cs:List Cel) (w:Wr):Bool:=decide ((cs.getD w.addr.toNat cz).state≠2)
theorem Pw {d:Dk} {w:Wr} (h:Lv d 1) (hc:d.cache.length<2000):d.write w.addr w.bytes=if free d.cells w then (⟨d.cells,d.cache ++ [w],(d.tick 1).reqs,(d.tick 1).left⟩,0) else (d.tick 1,7):=by
 have:=h.l
 unfold Dk.write free
 rw [if_neg (by omega),KG h.r (by omega) (by omega)]
 by_cases h2:(d.cells.getD w.addr.toNat cz).state=2
 ·rw [if_pos (.inl h2),if_neg (by simpa using h2)]
 ·rw [if_neg (by rintro(h3 | h3);exact h2 h3;omega),if_pos (by simpa using h2)]
  rfl
theorem writes_go:∀ (l:List Wr) (d:Dk) (n:Nat),Lv d l.length->d.cache.length+l.length<=2000->l.foldl Ft (d,n,false)=(⟨d.cells,d.cache ++ l.filter (free d.cells),(d.tick l.length).reqs,(d.tick l.length).left⟩,n+(l.filter (free d.cells)).length,false)
 | [],d,n,h,_=>by
  show (d,n,false)=_
  rw [show ([]:List Wr).length=0 from rfl,LK h.r.2]
  simp only [List.filter_nil,List.append_nil,AK,BL]
 | w::l,d,n,h,hc=>by
  have hl:(w::l).length=l.length+1:=rfl
  rw [hl] at h hc |-
  have hw:=Pw (w:=w) (h.le (show 1<=l.length+1 by omega)) (by omega)
  have h1:Lv (d.tick 1) l.length:=Ix (by rw [BS];exact h)
  have ht:=FX (d:=d) 1 l.length h.r.2 (by have:=h.l;omega)
  rw [BS] at ht
  show l.foldl Ft (Ft (d,n,false) w)=_
  have hs:Ft (d,n,false) w=(match d.write w.addr w.bytes with | (d,e)=>if e=8 then (d,n,true) else (d,n+(if e=0 then 1 else 0),false)):=by
   unfold Ft;rw [if_neg (by simp)]
  rw [hs,hw]
  cases hf:free d.cells w with
  | true=>
   simp only [if_true]
   rw [if_neg (by decide)]
   have hgo:=writes_go l ⟨d.cells,d.cache ++ [w],(d.tick 1).reqs,(d.tick 1).left⟩ (n+1) ⟨h1.r,h1.l⟩ (by simp;omega)
   have e1:((⟨d.cells,d.cache ++ [w],(d.tick 1).reqs,(d.tick 1).left⟩:Dk).tick l.length).reqs=(d.tick (l.length+1)).reqs/\((⟨d.cells,d.cache ++ [w],(d.tick 1).reqs,(d.tick 1).left⟩:Dk).tick l.length).left=(d.tick (l.length+1)).left:=by rw [<-ht];exact⟨rfl,rfl⟩
   rw [e1.1,e1.2] at hgo
   rw [hgo]
   simp only [List.filter_cons,hf,if_true,Ai,List.append_assoc,List.singleton_append,Prod.mk.injEq,and_true,true_and]
   omega
  | false=>
   simp only [BH,if_false]
   rw [if_neg (by decide),if_neg (by decide)]
   rw [writes_go l (d.tick 1) (n+0) h1 (by show d.cache.length+_<=_;omega),ht]
   simp only [List.filter_cons,hf,BH,if_false,BL]
   rfl
theorem NG {d:Dk} {l:List Wr} (h:Lv d l.length) (hc:d.cache.length+l.length<=2000):d.writes l=(⟨d.cells,d.cache ++ l.filter (free d.cells),(d.tick l.length).reqs,(d.tick l.length).left⟩,(l.filter (free d.cells)).length,false):=by
 rw [Dk.writes,writes_go l d 0 h hc,Ap]
def Fd (cs:List Cel) (w:Wr):List Cel:=if (cs.getD w.addr.toNat cz).state=2 then cs else cs.set w.addr.toNat ⟨0,w.bytes,(cs.getD w.addr.toNat cz).bytes⟩
def DY (cs:List Cel) (l:List Wr):List Cel:=l.foldl Fd cs
theorem Gf (cs:List Cel) (w:Wr):(Fd cs w).length=cs.length:=by unfold Fd;split <;> simp
theorem finL_len:∀ (l:List Wr) (cs:List Cel),(DY cs l).length=cs.length
 | [],_=>rfl
 | w::l,cs=>by show (DY (Fd cs w) l).length=_;rw [finL_len l,Gf]
theorem St (d:Dk) (w:Wr):d.fin w={ d with cells:=Fd d.cells w }:=by unfold Dk.fin Fd;split <;> rfl
theorem allFin_cells:∀ (l:List Wr) (d:Dk),d.allFin l={ d with cells:=DY d.cells l }
 | [],_=>rfl
 | w::l,d=>by
  show (d.fin w).allFin l=_
  rw [allFin_cells l,St];rfl
theorem G_ (cs:List Cel) (w:Wr) (a:Nat) (ha:a<cs.length):(Fd cs w).getD a cz=if w.addr.toNat=a/\(cs.getD a cz).state≠2 then ⟨0,w.bytes,(cs.getD a cz).bytes⟩ else cs.getD a cz:=by
 unfold Fd
 by_cases h:(cs.getD w.addr.toNat cz).state=2
 ·rw [if_pos h,if_neg]
  rintro⟨rfl,h2⟩
  exact h2 h
 ·rw [if_neg h,IQ _ _ _ _ ha]
  by_cases e:w.addr.toNat=a
  ·subst e;rw [if_pos rfl,if_pos ⟨rfl,h⟩]
  ·rw [if_neg e,if_neg (fun h=>e h.1)]
theorem finL_miss:∀ (l:List Wr) (cs:List Cel) (a:Nat),a<cs.length->(∀ w∈l,w.addr.toNat≠a)->(DY cs l).getD a cz=cs.getD a cz
 | [],_,_,_,_=>rfl
 | w::l,cs,a,ha,h=>by
  have hs:=G_ cs w a ha
  rw [if_neg (fun e=>h w (by simp) e.1)] at hs
  show (DY (Fd cs w) l).getD a cz=_
  rw [finL_miss l (Fd cs w) a (by rw [Gf];exact ha) (fun x hx=>h x (A9 _ hx)),hs]
theorem finL_stuck:∀ (l:List Wr) (cs:List Cel) (a:Nat),a<cs.length->(cs.getD a cz).state=2->(DY cs l).getD a cz=cs.getD a cz
 | [],_,_,_,_=>rfl
 | w::l,cs,a,ha,h=>by
  have hs:=G_ cs w a ha
  rw [if_neg (fun e=>e.2 h)] at hs
  show (DY (Fd cs w) l).getD a cz=_
  rw [finL_stuck l (Fd cs w) a (by rw [Gf];exact ha) (by rw [hs];exact h),hs]
theorem finL_any:∀ (l:List Wr) (cs:List Cel) (a:Nat),a<cs.length->(DY cs l).getD a cz=cs.getD a cz\/(cs.getD a cz).state≠2/\((DY cs l).getD a cz).state=0/\∃ w∈l,w.addr.toNat=a/\((DY cs l).getD a cz).bytes=w.bytes
 | [],_,_,_=> .inl rfl
 | w::l,cs,a,ha=>by
  have hs:=G_ cs w a ha
  have ih:=finL_any l (Fd cs w) a (by rw [Gf];exact ha)
  by_cases e:w.addr.toNat=a/\(cs.getD a cz).state≠2
  ·rw [if_pos e] at hs
   rcases ih with ih | ⟨h1,h2,x,hx,h3,h4⟩
   ·refine .inr ⟨e.2,?_,w,by simp,e.1,?_⟩
    ·show ((DY (Fd cs w) l).getD a cz).state=0;rw [ih,hs]
    ·show ((DY (Fd cs w) l).getD a cz).bytes=_;rw [ih,hs]
   ·exact .inr ⟨e.2,h2,x,A9 _ hx,h3,h4⟩
  ·rw [if_neg e] at hs
   rcases ih with ih | ⟨h1,h2,x,hx,h3,h4⟩
   ·exact .inl (ih.trans hs)
   ·exact .inr ⟨by rw [hs] at h1;exact h1,h2,x,A9 _ hx,h3,h4⟩
theorem Lo {F:List UInt8}:∀ (l:List Wr) (cs:List Cel) (a:Nat),a<cs.length->(cs.getD a cz).state≠2->(∀ w∈l,w.addr.toNat=a->w.bytes=F)->(∃ w∈l,w.addr.toNat=a)\/((cs.getD a cz).state=0/\(cs.getD a cz).bytes=F)->((DY cs l).getD a cz).state=0/\((DY cs l).getD a cz).bytes=F
 | [],cs,a,_,_,_,h=>by
  rcases h with ⟨w,hw,_⟩ | h
  ·cases hw
  ·exact h
 | w::l,cs,a,ha,h2,hF,h=>by
  have hs:=G_ cs w a ha
  have ha':a<(Fd cs w).length:=by rw [Gf];exact ha
  show ((DY (Fd cs w) l).getD a cz).state=0/\((DY (Fd cs w) l).getD a cz).bytes=F
  by_cases e:w.addr.toNat=a
  ·rw [if_pos ⟨e,h2⟩,hF w (by simp) e] at hs
   exact Lo l (Fd cs w) a ha' (by rw [hs];show (0:Int)≠2;decide) (fun x hx=>hF x (A9 _ hx)) (.inr (by rw [hs];exact⟨rfl,rfl⟩))
  ·rw [if_neg (fun q=>e q.1)] at hs
   refine Lo l (Fd cs w) a ha' (by rw [hs];exact h2) (fun x hx=>hF x (A9 _ hx)) ?_
   rcases h with ⟨x,hx,hxa⟩ | h
   ·rcases Bq.1 hx with rfl | hx
    ·exact absurd hxa e
    ·exact .inl ⟨x,hx,hxa⟩
   ·exact .inr (by rw [hs];exact h)
theorem finL_free:∀ (l:List Wr) (cs cs0:List Cel),(∀ a,(cs.getD a cz).state=2↔(cs0.getD a cz).state=2)->DY cs (l.filter (free cs0))=DY cs l
 | [],_,_,_=>rfl
 | w::l,cs,cs0,h=>by
  have hstep:∀ a,((Fd cs w).getD a cz).state=2↔(cs0.getD a cz).state=2:=fun a=>by
   rw [<-h a]
   by_cases ha:a<cs.length
   ·rw [G_ cs w a ha]
    split
    ·rename_i e
     constructor
     ·intro q;exact absurd q (by simp)
     ·intro q;exact absurd q e.2
    ·exact Iff.rfl
   ·rw [List.getD_eq_getElem?_getD,List.getD_eq_getElem?_getD,List.getElem?_eq_none (by rw [Gf];omega),List.getElem?_eq_none (by omega)]
  show _=DY (Fd cs w) l
  rw [List.filter_cons]
  by_cases hf:free cs0 w=true
  ·rw [if_pos hf]
   exact finL_free l (Fd cs w) cs0 hstep
  ·rw [if_neg hf]
   have:Fd cs w=cs:=by
    unfold Fd
    rw [if_pos]
    simp only [free,decide_eq_true_eq,Decidable.not_not] at hf
    exact(h _).2 hf
   rw [this]
   exact finL_free l cs cs0 h
theorem I9 {d:Dk} {l:List Wr} (h:Lv d (l.length+1)) (hc:d.cache=[]) (hl:l.length<=2000):d.putAll l=(⟨DY d.cells l, [],(d.tick (l.length+1)).reqs,(d.tick (l.length+1)).left⟩,(l.filter (free d.cells)).length,false):=by
 have hw:=NG (h.le (show l.length<=l.length+1 by omega)) (by rw [hc];simpa using hl)
 have h1:=Ix (a:=l.length) (b:=1) h
 have h2:=h1.l
 rw [hc,Bk] at hw
 unfold Dk.putAll
 rw [hw]
 simp only [BH,if_false]
 rw [if_neg (by show ¬(d.tick l.length).left=0;omega)]
 have ht:=FX (d:=d) l.length 1 h.r.2 (by have:=h.l;omega)
 simp only [Prod.mk.injEq,and_true]
 unfold Dk.flush
 rw [allFin_cells]
 have h3:Lv ⟨d.cells,l.filter (free d.cells),(d.tick l.length).reqs,(d.tick l.length).left⟩ 1:=⟨h1.r,h1.l⟩
 have hr:=KG (d:=⟨d.cells,l.filter (free d.cells),(d.tick l.length).reqs,(d.tick l.length).left⟩) h3.r (by show (d.tick l.length).left≠0;omega) (by show (d.tick l.length).left<0\/1<=(d.tick l.length).left;omega)
 rw [hr,<-ht]
 show (⟨DY d.cells (l.filter (free d.cells)), [],_,_⟩:Dk)=_
 rw [finL_free l d.cells d.cells fun _=>Iff.rfl]
 rfl
theorem Nn {m:Nat} {i:Nat} (hi:Nat.blt i m=true) (h:Nat.ble 3 m=true):∀ z∈ [0,1,2,i],z<m:=fun z hz=>by
 have:=Ad h
 have:=Ad hi
 simp at hz
 omega
theorem S9 (g:Geo) (d:Dk) (hg:AS g=true) (h:DkOk d) (hn:(d.cells.length:Int)=A0 g) :
  ACalls Tryz.prog false 49 [.bp 0 0] (NF g st0 d) fun r H=>r = .v (.int .i64 (BK g d).2.1)/\H=bwG g (BK g d).2.2 (BK g d).1:=by
 obtain⟨g1,g2,g3,g4,g5⟩:=Am.1 hg
 have hcg:=Dt hg
 have ha:=Qs g st0 d hg h (by omega)
 unfold BK
 by_cases hl:d.live g.an.toNat
 ·rw [if_pos hl]
  have hp:=Vt g (AF d (BE g)) hg (by rw [BY,CI];omega) (Er h _)
  have hpo:=fun {a j}=>Gr (g:=g) (l:=AF d (BE g)) hg (AF d (BE g)).length (a:=a) (j:=j)
  have hpo:∀ {a j},En g (AF d (BE g))=some (a,j)->AY g a=true:=hpo
  have hgl:(AF d (BE g)).length=g.an.toNat:=by rw [BY,CI]
  generalize AF d (BE g)=L at ha hp hpo hgl |-
  have hd1:=h.adv g.an.toNat
  have hs1:=(D9 g.an.toNat d).1
  generalize d.adv g.an.toNat=d1 at ha hd1 hs1 |-
  cases hP:En g L with
  | none=>
   rw [hP] at hp
   refine ACalls.ofR tys_ok Tryz.func49 rfl rfl (Ad rfl) ?_
   conv=>whnf
   refine ha.mono ?_
   rintro _ _ ⟨h1, -⟩
   obtain⟨rfl,rfl⟩:=h1 hl
   conv=>whnf
   refine ACalls.shut hp.go ?_
   refine⟨(by rw [Ab,hgl]),?_⟩
   conv=>whnf
   refine ACalls.sub [.ag (A7 g),BZ L] ⟨ri,AJ (f:=BB) L hgl.symm rfl,trivial⟩ ?_
   refine Fn.cl hp ?_
   exact⟨_, .v (.int .i64 11),bwG g st0 d1,fun _ _ h=>h,WkN.rc (ConvF.ofH (ConvH.move 1 3 (by decide) rfl rfl)) (s:= [0,1,2,3,6]) ⟨⟨rfl,trivial⟩,⟨rfl,rfl,rfl,trivial,rfl,trivial⟩,rfl,rfl,rfl,rfl,rfl⟩,rfl,rfl⟩
  | some q=>
   obtain⟨a,j⟩:=q
   have hao:=hpo hP
   rw [hP] at hp
   replace hp:Fn Tryz.prog 112 [.ag (A7 g),BZ L] (fun r=>r = .tp [.ag (CE a), .v (.int .i64 (j:Nat)), .v (.int .i64 0)]):=hp
   have hlg:=VU g st0 d1 hg hd1 (by rw [hs1];exact hn)
   simp only
   unfold Gv
   by_cases hl2:d1.live (2*g.sl.toNat)
   ·rw [if_pos hl2]
    have hlA:(BE g).length=g.an.toNat:=CI g
    have hx1:(AF d1 (AL g 0)).length=g.sl.toNat:=by rw [BY,Cf]
    have hx2:(AF d1 (AL g 1)).length=g.sl.toNat:=by rw [BY,Cf]
    have hsc:=Vb g a (AF d1 (AL g 0)) (AF d1 (AL g 1)) (by have:=(Db hg hao 0 (Ag _)).2.2.2.1;omega) (by have:=(Db hg hao 0 (Ag _)).2.1;omega) (Er hd1 _) (Er hd1 _)
    have hlast:=HT (x:=AF d1 (AL g 0)) (y:=AF d1 (AL g 1)) hg hao
    have hin:=I1 (x:=AF d1 (AL g 0)) (y:=AF d1 (AL g 1)) (n:=d1.cells.length) hg hao (by omega) (by omega) (by rw [hs1];exact hn)
    rw [FL,if_pos (by rw [hg,hao];rfl),if_pos ⟨by omega,by omega⟩] at hsc
    generalize CY g a (AF d1 (AL g 0)) (AF d1 (AL g 1))=S at hsc hlast hin |-
    obtain⟨T,W,e⟩:=S
    simp only at hsc hlast hin
    generalize AF d1 (AL g 0)=X1 at hlg hx1 hsc
    generalize AF d1 (AL g 1)=X2 at hlg hx2 hsc
    have hd2:=hd1.adv (2*g.sl.toNat)
    have hs2:=(D9 (2*g.sl.toNat) d1).1
    generalize d1.adv (2*g.sl.toNat)=d2 at hlg hd2 hs2 |-
    unfold Ih
    by_cases he:e=0
    ·subst he
     rw [if_neg (by simp)]
     have hin:=hin rfl
     have hlast:=hlast rfl
     have hm:=TJ g st0 d2 W hd2 (by rw [hs2];exact hin.1) (by omega)
     have hdm:DkOk (d2.mend W).1/\(d2.mend W).1.cells.length=d2.cells.length:=by
      unfold Dk.mend
      split
      ·exact⟨hd2,rfl⟩
      ·exact Fq hd2 (by rw [hs2];exact hin.1)
     simp only
     cases hM:(d2.mend W).2 with
     | true=>
      rw [hM,if_pos rfl] at hm
      rw [if_pos rfl]
      refine ACalls.ofR tys_ok Tryz.func49 rfl rfl (Ad rfl) ?_
      conv=>whnf
      refine ha.mono ?_
      rintro _ _ ⟨h1, -⟩
      obtain⟨rfl,rfl⟩:=h1 hl
      conv=>whnf
      refine ACalls.shut hp.go ?_
      refine⟨(by rw [Ab,hgl]),?_⟩
      conv=>whnf
      refine ACalls.sub [.ag (A7 g),BZ L] ⟨ri,AJ (f:=BB) L hgl.symm rfl,trivial⟩ ?_
      refine Fn.cl hp ?_
      conv=>whnf
      refine ACalls.frame [0,1,2,3] hlg rfl rfl rfl rfl (by decide) (Ce rfl) ⟨rfl,rfl,rfl,rfl,trivial⟩ ?_
      rintro _ _ ⟨h1, -⟩
      obtain⟨rfl,rfl⟩:=h1 hl2
      conv=>whnf
      apply aDraw.treeK (0) tys_ok mixed (.one 0 (.one 1 (.one 2 (.one 3 (.one 4 (.one 5 (.one 6 (.one 7 (.one 8 (.one 9 (.one 10 (.one 11 (.one 12 (.one 13 (.one 14 .fin))))))))))))))) (by kernel_rfl)
      conv=>whnf
      (refine ACalls.shut hsc.go ?_;(conv=>whnf);refine And.intro (by rw [Ab,hx1]) ?_;(conv=>whnf);refine And.intro (by rw [Ab,hx2]) ?_;(conv=>whnf);refine ACalls.sub [.ag (A7 g), .ag (CE a),BZ X1,BZ X2] ⟨ri,ri,AJ (f:=BB) X1 hx1.symm rfl,AJ (f:=BB) X2 hx2.symm rfl,trivial⟩ ?_;refine Fn.cl hsc ?_)
      conv=>whnf
      conv=>whnf
      refine ACalls.frame [0,1,2,3] hm rfl rfl rfl rfl (by decide) (Ce rfl) ⟨rfl,rfl,rfl,rfl,trivial⟩ ?_
      rintro _ _ ⟨rfl,rfl⟩
      exact⟨_, .v (.int .i64 8),bwG g st0 (d2.mend W).1,fun _ _ h=>h,WkN.r (s:= [0,1,2,3,8]) ⟨⟨rfl,trivial⟩,⟨rfl,rfl,rfl,trivial,rfl,trivial⟩,rfl,rfl,rfl,rfl,rfl⟩,rfl,rfl⟩
     | false=>
      rw [hM,if_neg (by decide)] at hm
      rw [if_neg (by decide)]
      generalize (d2.mend W).1=d3 at hm hdm |-
      have hpa:=Ej hao
      unfold Ig
      by_cases hmx:a.gen=4294967295\/a.epoch=4294967295
      ·rw [if_pos hmx]
       refine ACalls.ofR tys_ok Tryz.func49 rfl rfl (Ad rfl) ?_
       conv=>whnf
       refine ha.mono ?_
       rintro _ _ ⟨h1, -⟩
       obtain⟨rfl,rfl⟩:=h1 hl
       conv=>whnf
       refine ACalls.shut hp.go ?_
       refine⟨(by rw [Ab,hgl]),?_⟩
       conv=>whnf
       refine ACalls.sub [.ag (A7 g),BZ L] ⟨ri,AJ (f:=BB) L hgl.symm rfl,trivial⟩ ?_
       refine Fn.cl hp ?_
       conv=>whnf
       refine ACalls.frame [0,1,2,3] hlg rfl rfl rfl rfl (by decide) (Ce rfl) ⟨rfl,rfl,rfl,rfl,trivial⟩ ?_
       rintro _ _ ⟨h1, -⟩
       obtain⟨rfl,rfl⟩:=h1 hl2
       conv=>whnf
       apply aDraw.treeK (0) tys_ok mixed (.one 0 (.one 1 (.one 2 (.one 3 (.one 4 (.one 5 (.one 6 (.one 7 (.one 8 (.one 9 (.one 10 (.one 11 (.one 12 (.one 13 (.one 14 .fin))))))))))))))) (by kernel_rfl)
       conv=>whnf
       (refine ACalls.shut hsc.go ?_;(conv=>whnf);refine And.intro (by rw [Ab,hx1]) ?_;(conv=>whnf);refine And.intro (by rw [Ab,hx2]) ?_;(conv=>whnf);refine ACalls.sub [.ag (A7 g), .ag (CE a),BZ X1,BZ X2] ⟨ri,ri,AJ (f:=BB) X1 hx1.symm rfl,AJ (f:=BB) X2 hx2.symm rfl,trivial⟩ ?_;refine Fn.cl hsc ?_)
       conv=>whnf
       conv=>whnf
       refine ACalls.frame [0,1,2,3] hm rfl rfl rfl rfl (by decide) (Ce rfl) ⟨rfl,rfl,rfl,rfl,trivial⟩ ?_
       rintro _ _ ⟨rfl,rfl⟩
       conv=>whnf
       refine Af (fun _=>?_) (fun q1=>?_)
       ·exact⟨_, .v (.int .i64 14),bwG g st0 d3,fun _ _ h=>h,WkN.r (s:= [0,1,2,3,8]) ⟨⟨rfl,trivial⟩,⟨rfl,rfl,rfl,trivial,rfl,trivial⟩,rfl,rfl,rfl,rfl,rfl⟩,rfl,rfl⟩
       ·conv=>whnf
        refine Af (fun _=>?_) (fun q2=>by
         exfalso
         rcases hmx with e | e
         ·rw [e] at q1;exact absurd q1 (by decide)
         ·rw [e] at q2;exact absurd q2 (by decide))
        exact⟨_, .v (.int .i64 14),bwG g st0 d3,fun _ _ h=>h,WkN.r (s:= [0,1,2,3,8]) ⟨⟨rfl,trivial⟩,⟨rfl,rfl,rfl,trivial,rfl,trivial⟩,rfl,rfl,rfl,rfl,rfl⟩,rfl,rfl⟩
      ·rw [if_neg hmx]
       have hna:=IB (n:=T.length) hao (fun e=>hmx (.inl e)) (fun e=>hmx (.inr e)) hlast.2
       have hban:=Ka g st0 d3 (CK a T.length) hg hna hdm.1 (EN hg hna (by rw [hdm.2,hs2,hs1];exact hn))
       have b1:(a.gen == 4294967295)=false:=beq_eq_false_iff_ne.2 fun e=>hmx (.inl e)
       have b2:(a.epoch == 4294967295)=false:=beq_eq_false_iff_ne.2 fun e=>hmx (.inr e)
       have w1:IntKind.i64.wrap (a.gen+1)=a.gen+1:=wi (by omega)
       have w2:IntKind.i64.wrap (a.epoch+1)=a.epoch+1:=wi (by omega)
       have w3:IntKind.i64.wrap (IntKind.i64.wrap (a.seq+T.length) - 1)=a.seq+T.length - 1:=by
        rw [wi (n:=a.seq+T.length) (by omega)];exact wi (by omega)
       generalize hQ:d3.putAll (Au g (CK a T.length))=Q at hban |-
       obtain⟨d4,n,dead⟩:=Q
       simp only
       cases dead with
       | true=>
        rw [if_pos rfl]
        refine ACalls.ofR tys_ok Tryz.func49 rfl rfl (Ad rfl) ?_
        conv=>whnf
        refine ha.mono ?_
        rintro _ _ ⟨h1, -⟩
        obtain⟨rfl,rfl⟩:=h1 hl
        conv=>whnf
        refine ACalls.shut hp.go ?_
        refine⟨(by rw [Ab,hgl]),?_⟩
        conv=>whnf
        refine ACalls.sub [.ag (A7 g),BZ L] ⟨ri,AJ (f:=BB) L hgl.symm rfl,trivial⟩ ?_
        refine Fn.cl hp ?_
        conv=>whnf
        refine ACalls.frame [0,1,2,3] hlg rfl rfl rfl rfl (by decide) (Ce rfl) ⟨rfl,rfl,rfl,rfl,trivial⟩ ?_
        rintro _ _ ⟨h1, -⟩
        obtain⟨rfl,rfl⟩:=h1 hl2
        conv=>whnf
        apply aDraw.treeK (0) tys_ok mixed (.one 0 (.one 1 (.one 2 (.one 3 (.one 4 (.one 5 (.one 6 (.one 7 (.one 8 (.one 9 (.one 10 (.one 11 (.one 12 (.one 13 (.one 14 .fin))))))))))))))) (by kernel_rfl)
        conv=>whnf
        (refine ACalls.shut hsc.go ?_;(conv=>whnf);refine And.intro (by rw [Ab,hx1]) ?_;(conv=>whnf);refine And.intro (by rw [Ab,hx2]) ?_;(conv=>whnf);refine ACalls.sub [.ag (A7 g), .ag (CE a),BZ X1,BZ X2] ⟨ri,ri,AJ (f:=BB) X1 hx1.symm rfl,AJ (f:=BB) X2 hx2.symm rfl,trivial⟩ ?_;refine Fn.cl hsc ?_)
        conv=>whnf
        conv=>whnf
        refine ACalls.frame [0,1,2,3] hm rfl rfl rfl rfl (by decide) (Ce rfl) ⟨rfl,rfl,rfl,rfl,trivial⟩ ?_
        rintro _ _ ⟨rfl,rfl⟩
        conv=>whnf
        rw [b1]
        conv=>whnf
        rw [b2]
        conv=>whnf
        rw [w1,w2,w3]
        refine ACalls.frame [0,1,2,8] hban rfl rfl rfl rfl (by decide) (Nn rfl rfl) ⟨rfl,rfl,rfl,rfl,trivial⟩ ?_
        rintro _ _ ⟨rfl,rfl⟩
        exact⟨_, .v (.int .i64 8),bwG g st0 d4,fun _ _ h=>h,WkN.r (s:= [0,1,2,3,9]) ⟨⟨rfl,trivial⟩,⟨rfl,rfl,rfl,trivial,rfl,trivial⟩,rfl,rfl,rfl,rfl,rfl⟩,rfl,rfl⟩
       | false=>
        rw [if_neg (by decide)]
        simp only [BH,if_false] at hban
        by_cases hn0:n=0
        ·subst hn0
         rw [if_pos rfl]
         refine ACalls.ofR tys_ok Tryz.func49 rfl rfl (Ad rfl) ?_
         conv=>whnf
         refine ha.mono ?_
         rintro _ _ ⟨h1, -⟩
         obtain⟨rfl,rfl⟩:=h1 hl
         conv=>whnf
         refine ACalls.shut hp.go ?_
         refine⟨(by rw [Ab,hgl]),?_⟩
         conv=>whnf
         refine ACalls.sub [.ag (A7 g),BZ L] ⟨ri,AJ (f:=BB) L hgl.symm rfl,trivial⟩ ?_
         refine Fn.cl hp ?_
         conv=>whnf
         refine ACalls.frame [0,1,2,3] hlg rfl rfl rfl rfl (by decide) (Ce rfl) ⟨rfl,rfl,rfl,rfl,trivial⟩ ?_
         rintro _ _ ⟨h1, -⟩
         obtain⟨rfl,rfl⟩:=h1 hl2
         conv=>whnf
         apply aDraw.treeK (0) tys_ok mixed (.one 0 (.one 1 (.one 2 (.one 3 (.one 4 (.one 5 (.one 6 (.one 7 (.one 8 (.one 9 (.one 10 (.one 11 (.one 12 (.one 13 (.one 14 .fin))))))))))))))) (by kernel_rfl)
         conv=>whnf
         (refine ACalls.shut hsc.go ?_;(conv=>whnf);refine And.intro (by rw [Ab,hx1]) ?_;(conv=>whnf);refine And.intro (by rw [Ab,hx2]) ?_;(conv=>whnf);refine ACalls.sub [.ag (A7 g), .ag (CE a),BZ X1,BZ X2] ⟨ri,ri,AJ (f:=BB) X1 hx1.symm rfl,AJ (f:=BB) X2 hx2.symm rfl,trivial⟩ ?_;refine Fn.cl hsc ?_)
         conv=>whnf
         conv=>whnf
         refine ACalls.frame [0,1,2,3] hm rfl rfl rfl rfl (by decide) (Ce rfl) ⟨rfl,rfl,rfl,rfl,trivial⟩ ?_
         rintro _ _ ⟨rfl,rfl⟩
         conv=>whnf
         rw [b1]
         conv=>whnf
         rw [b2]
         conv=>whnf
         rw [w1,w2,w3]
         refine ACalls.frame [0,1,2,8] hban rfl rfl rfl rfl (by decide) (Nn rfl rfl) ⟨rfl,rfl,rfl,rfl,trivial⟩ ?_
         rintro _ _ ⟨rfl,rfl⟩
         exact⟨_, .v (.int .i64 14),bwG g st0 d4,fun _ _ h=>h,WkN.r (s:= [0,1,2,3,9]) ⟨⟨rfl,trivial⟩,⟨rfl,rfl,rfl,trivial,rfl,trivial⟩,rfl,rfl,rfl,rfl,rfl⟩,rfl,rfl⟩
        ·rw [if_neg hn0]
         have hnb:((n:Int) == 0)=false:=beq_eq_false_iff_ne.2 (by omega)
         refine ACalls.ofR tys_ok Tryz.func49 rfl rfl (Ad rfl) ?_
         conv=>whnf
         refine ha.mono ?_
         rintro _ _ ⟨h1, -⟩
         obtain⟨rfl,rfl⟩:=h1 hl
         conv=>whnf
         refine ACalls.shut hp.go ?_
         refine⟨(by rw [Ab,hgl]),?_⟩
         conv=>whnf
         refine ACalls.sub [.ag (A7 g),BZ L] ⟨ri,AJ (f:=BB) L hgl.symm rfl,trivial⟩ ?_
         refine Fn.cl hp ?_
         conv=>whnf
         refine ACalls.frame [0,1,2,3] hlg rfl rfl rfl rfl (by decide) (Ce rfl) ⟨rfl,rfl,rfl,rfl,trivial⟩ ?_
         rintro _ _ ⟨h1, -⟩
         obtain⟨rfl,rfl⟩:=h1 hl2
         conv=>whnf
         apply aDraw.treeK (0) tys_ok mixed (.one 0 (.one 1 (.one 2 (.one 3 (.one 4 (.one 5 (.one 6 (.one 7 (.one 8 (.one 9 (.one 10 (.one 11 (.one 12 (.one 13 (.one 14 .fin))))))))))))))) (by kernel_rfl)
         conv=>whnf
         (refine ACalls.shut hsc.go ?_;(conv=>whnf);refine And.intro (by rw [Ab,hx1]) ?_;(conv=>whnf);refine And.intro (by rw [Ab,hx2]) ?_;(conv=>whnf);refine ACalls.sub [.ag (A7 g), .ag (CE a),BZ X1,BZ X2] ⟨ri,ri,AJ (f:=BB) X1 hx1.symm rfl,AJ (f:=BB) X2 hx2.symm rfl,trivial⟩ ?_;refine Fn.cl hsc ?_)
         conv=>whnf
         conv=>whnf
         refine ACalls.frame [0,1,2,3] hm rfl rfl rfl rfl (by decide) (Ce rfl) ⟨rfl,rfl,rfl,rfl,trivial⟩ ?_
         rintro _ _ ⟨rfl,rfl⟩
         conv=>whnf
         rw [b1]
         conv=>whnf
         rw [b2]
         conv=>whnf
         rw [w1,w2,w3]
         refine ACalls.frame [0,1,2,8] hban rfl rfl rfl rfl (by decide) (Nn rfl rfl) ⟨rfl,rfl,rfl,rfl,trivial⟩ ?_
         rintro _ _ ⟨rfl,rfl⟩
         conv=>whnf
         rw [hnb]
         refine⟨_, .v (.int .i64 0),bwG g (GD (CK a T.length) T) d4,ri,WkN.rc (ConvF.ofH (ConvH.subBox (cs':=WY g (.bp 1 0) (GD (CK a T.length) T)) 0 rfl ?_)) (s:= [0,1,2,3,9]) ⟨⟨rfl,trivial⟩,⟨rfl,rfl,rfl,trivial,rfl,trivial⟩,rfl,rfl,rfl,rfl,rfl⟩,rfl,rfl⟩
         exact⟨fun _ _ h=>h,fun _ _ h=>h,fun _ _ h=>h,fun _ _ h=>h,fun _ _ h=>h,fun _ _ h=>h,fun _ _ h=>h,fun _ _ h=>h,fun _ _ h=>h,fun _ _ h=>h,fun _ _ h=>h,fun _ _ h=>h,fun _ _ h=>h,fun _ _ h=>h,fun _ _ h=>h,fun _ _ h=>h,fun _ _ h=>h,fun _ _ h=>h,fun _ _ h=>h,AP 1 _,trivial⟩
    ·rw [if_pos (by simpa using he)]
     have hb:(e != 0)=true:=bne_iff_ne.2 he
     refine ACalls.ofR tys_ok Tryz.func49 rfl rfl (Ad rfl) ?_
     conv=>whnf
     refine ha.mono ?_
     rintro _ _ ⟨h1, -⟩
     obtain⟨rfl,rfl⟩:=h1 hl
     conv=>whnf
     refine ACalls.shut hp.go ?_
     refine⟨(by rw [Ab,hgl]),?_⟩
     conv=>whnf
     refine ACalls.sub [.ag (A7 g),BZ L] ⟨ri,AJ (f:=BB) L hgl.symm rfl,trivial⟩ ?_
     refine Fn.cl hp ?_
     conv=>whnf
     refine ACalls.frame [0,1,2,3] hlg rfl rfl rfl rfl (by decide) (Ce rfl) ⟨rfl,rfl,rfl,rfl,trivial⟩ ?_
     rintro _ _ ⟨h1, -⟩
     obtain⟨rfl,rfl⟩:=h1 hl2
     conv=>whnf
     apply aDraw.treeK (0) tys_ok mixed (.one 0 (.one 1 (.one 2 (.one 3 (.one 4 (.one 5 (.one 6 (.one 7 (.one 8 (.one 9 (.one 10 (.one 11 (.one 12 (.one 13 (.one 14 .fin))))))))))))))) (by kernel_rfl)
     conv=>whnf
     (refine ACalls.shut hsc.go ?_;(conv=>whnf);refine And.intro (by rw [Ab,hx1]) ?_;(conv=>whnf);refine And.intro (by rw [Ab,hx2]) ?_;(conv=>whnf);refine ACalls.sub [.ag (A7 g), .ag (CE a),BZ X1,BZ X2] ⟨ri,ri,AJ (f:=BB) X1 hx1.symm rfl,AJ (f:=BB) X2 hx2.symm rfl,trivial⟩ ?_;refine Fn.cl hsc ?_)
     conv=>whnf
     rw [hb]
     exact⟨_, .v (.int .i64 e),bwG g st0 d2,fun _ _ h=>h,WkN.rc (ConvF.ofH (ConvH.move 1 3 (by decide) rfl rfl)) (s:= [0,1,2,3,8]) ⟨⟨rfl,trivial⟩,⟨rfl,rfl,rfl,trivial,rfl,trivial⟩,rfl,rfl,rfl,rfl,rfl⟩,rfl,rfl⟩
   ·rw [if_neg hl2]
    refine ACalls.ofR tys_ok Tryz.func49 rfl rfl (Ad rfl) ?_
    conv=>whnf
    refine ha.mono ?_
    rintro _ _ ⟨h1, -⟩
    obtain⟨rfl,rfl⟩:=h1 hl
    conv=>whnf
    refine ACalls.shut hp.go ?_
    refine⟨(by rw [Ab,hgl]),?_⟩
    conv=>whnf
    refine ACalls.sub [.ag (A7 g),BZ L] ⟨ri,AJ (f:=BB) L hgl.symm rfl,trivial⟩ ?_
    refine Fn.cl hp ?_
    conv=>whnf
    refine ACalls.frame [0,1,2,3] hlg rfl rfl rfl rfl (by decide) (Ce rfl) ⟨rfl,rfl,rfl,rfl,trivial⟩ ?_
    rintro _ _ ⟨-,h1⟩
    obtain⟨rfl,rfl⟩:=h1 hl2
    exact⟨_, .v (.int .i64 8),bwG g st0 (d1.adv (2*g.sl.toNat)),fun _ _ h=>h,WkN.rc (ConvF.ofH (ConvH.move 1 3 (by decide) rfl rfl)) (s:= [0,1,2,3,6]) ⟨⟨rfl,trivial⟩,⟨rfl,rfl,rfl,trivial,rfl,trivial⟩,rfl,rfl,rfl,rfl,rfl⟩,rfl,rfl⟩
 ·rw [if_neg hl]
  refine ACalls.ofR tys_ok Tryz.func49 rfl rfl (Ad rfl) ?_
  conv=>whnf
  refine ha.mono ?_
  rintro _ _ ⟨-,h1⟩
  obtain⟨rfl,rfl⟩:=h1 hl
  exact⟨_, .v (.int .i64 8),bwG g st0 (d.adv g.an.toNat),fun _ _ h=>h,WkN.rc (ConvF.ofH (U6 g st0 _)) (s:= [0,1,2,3,4]) ⟨⟨rfl,trivial⟩,⟨rfl,rfl,rfl,trivial,rfl,trivial⟩,rfl,rfl,rfl,rfl,rfl⟩,rfl,rfl⟩
theorem ACalls.pre {P:Program} {q:Bool} {f:FuncId} {args:List AV} {H H':List AB} {K:AV->List AB->Prop} (h:ConvH H H') (k:ACalls P q f args H' K):ACalls P q f args H K:=by
 refine⟨k.go,fun w0 M0 c us hs hr=>?_⟩
 obtain⟨c1,e1,s1,x1⟩:=h w0 M0 c hs
 have:=k.calls w0 M0 c1 us s1 (RdL.ext _ x1 hr)
 rw [e1] at this
 refine this.mono ?_
 rintro e w' ⟨v,c',r,H2,rfl,rfl,q1,q2,q3,q4,q5⟩
 exact⟨v,c',r,H2,rfl,rfl,q1,q2,x1.trans q3,q4,q5⟩
theorem NT {es:List (List AV)} {i m:Nat} {e:List AV} (h:∀ x∈es,AV.ltL x 0=true) (he:AV.ltL e m=true):AV.ltL (es.set i e).flatten m=true:=by
 rw [CS]
 intro x hx
 obtain⟨y,hy,hx'⟩:=List.mem_flatten.1 hx
 rcases Cp hy with hy | rfl
 ·exact AV.lt_mono x (Ag _) (CS.1 (h y hy) x hx')
 ·exact CS.1 he x hx'
theorem LP {es:List (List AV)} {i:Nat} {e:List AV} {f:Nat->Nat} (h:∀ x∈es,AV.ltL x 0=true) (he:AV.renL f e=e):(es.set i e).map (AV.renL f)=es.set i e:=by
 rw [List.map_set,he]
 congr 1
 conv=>rhs;rw [<-List.map_id es]
 refine BQ fun x hx=>?_
 exact AV.renL_id x (h x hx)
theorem Wd (l:List Tx):∀ x∈l.map Hi,AV.ltL x 0=true:=by
 intro x hx
 obtain⟨t,_,rfl⟩:=AH.1 hx
 rfl
def We (t:Tx) (k:Nat):List AV:= [.v (.int .i64 t.seq), .v (.int .i64 t.pos), .v (.int .i64 t.n), .ow k t.images.length]
theorem U_ {k n:Nat} {s:AV} (l:List Tx):(l.map Hi).map (List.map (AV.slIn k n s))=l.map Hi:=by
 rw [Dg]
 exact BQ fun t _=>rfl
theorem S_ (l:List Tx) (k:Nat) (t:Tx) (s:AV):((l.map Hi).set k (We t 1)).map (List.map (AV.slIn 1 (t.images.map D4).length s))=(l.map Hi).set k [.v (.int .i64 t.seq), .v (.int .i64 t.pos), .v (.int .i64 t.n),s]:=by
 rw [List.map_set,U_]
 congr 1
 simp [We,AV.slIn]
theorem RP {l:List Tx} {k:Nat} {t:Tx} (hk:k<l.length) (ht:t=l.getD k ⟨0,0,0, []⟩):ConvH [.rowo 78 4 ((l.map Hi).set k (We t 1)) 2, .row 83 3 (t.images.map D4)] [.row 78 4 (l.map Hi), .dead]:=by
 refine(ConvH.sealIn (H:= [.rowo 78 4 ((l.map Hi).set k (We t 1)) 2, .row 83 3 (t.images.map D4)]) 0 1 rfl rfl (S_ l k t _)).trans ?_
 refine(ConvH.row (k:=0) rfl (NT (Wd l) rfl)).trans ?_
 refine ConvH.subRow (k:=0) (es':=l.map Hi) rfl (by simp) fun i=>?_
 refine GF (f:=Hi) (d:=(⟨0,0,0, []⟩:Tx)) hk ?_ i
 rw [<-ht]
 exact⟨fun _ _ h=>h,fun _ _ h=>h,fun _ _ h=>h,AJ (f:=D4) t.images (Ab _) rfl,trivial⟩
theorem Vv (l:List Tx) (hl:l.length<=1000000) (hi:∀ t∈l,t.images.length<=1000000/\∀ x∈t.images,x.bytes.length<=1000000000):Fn Tryz.prog 117 [DS l] fun r=>r=DS l:=by
 have hc:=Rn l (by omega)
 refine Fn.st Tryz.func117 rfl ?_
 conv=>whnf
 refine ACalls.beside hc rfl ?_
 rintro _ _ ⟨rfl,rfl⟩
 conv=>whnf
 refine aLoop.ruleRR Nat (fun k=>([(0, .ow 0 l.length),(9, .v (.int .i64 l.length)),(10, .v (.int .i64 k))], [.row 78 4 (l.map Hi)])) (fun k=>k<=l.length) (fun k=>l.length - k) 0 (Ag _)
  (WkN.r (s:= [0]) ⟨⟨rfl,rfl,rfl,trivial⟩,⟨rfl,trivial⟩,rfl,rfl,rfl,rfl,rfl⟩) ?_
 intro k hk
 conv=>whnf
 refine Al (fun h6=>?_) (fun h6=>?_) <;> (repeat rw [Aa] at h6) <;> conv=>whnf
 ·have hk':k<l.length:=by omega
  have hm:=hi _ (AE (d:=(⟨0,0,0, []⟩:Tx)) hk')
  have hE:(l.map Hi).getD (k:Int).toNat []=Hi (l.getD k ⟨0,0,0, []⟩):=by rw [Aa];exact Bh hk'
  have ho:=Sh (l.getD k ⟨0,0,0, []⟩).images (by omega)
  repeat' (first | (refine aSeq.go ?_;conv=>whnf) | fail)
  refine⟨⟨by omega,by omega⟩,?_⟩
  conv=>whnf
  refine And.intro ⟨rfl,(Ab _).symm,by rw [Aa];exact hk'⟩ ?_
  conv=>whnf
  rw [hE]
  conv=>whnf
  refine ACalls.pre (ConvH.rowo (k:=0) rfl) ?_
  refine ACalls.beside ho rfl ?_
  rintro _ _ ⟨rfl,rfl⟩
  refine⟨⟨by omega,by omega⟩,?_⟩
  conv=>whnf
  refine And.intro ⟨rfl,(Ab _).symm,by rw [Aa];exact hk'⟩ ?_
  conv=>whnf
  rw [hE]
  refine⟨⟨by omega,by omega⟩,?_⟩
  conv=>whnf
  refine And.intro ⟨rfl,by rw [Bl,Ab],by rw [Aa];exact hk'⟩ ?_
  conv=>whnf
  rw [AR (by rw [Aa,Ab];exact hk')]
  conv=>whnf
  obtain⟨t,ht⟩:∃ t,t=l.getD k ⟨0,0,0, []⟩:=⟨_,rfl⟩
  rw [<-ht] at hm hE |-
  have hS:∀ x∈l.map Hi,AV.ltL x 0=true:=Wd l
  have hro:AV.ltL ((l.map Hi).set k (We t 1)).flatten 2=true:=NT hS rfl
  refine aLoop.ruleRR Nat (fun j=>([(0, .ow 0 l.length),(3, .v (.int .i64 k)),(9, .v (.int .i64 l.length)),(10, .v (.int .i64 k)),(27, .ow 1 t.images.length),(28, .v (.int .i64 t.images.length)),(29, .v (.int .i64 j))], [.rowo 78 4 ((l.map Hi).set k (We t 1)) 2, .row 83 3 (t.images.map D4)])) (fun j=>j<=t.images.length) (fun j=>t.images.length - j) 0 (Ag _)
   (WkN.r (s:= [0,1]) ⟨⟨rfl,rfl,rfl,rfl,rfl,rfl,rfl,trivial⟩,⟨⟨hro,_,by rw [LP hS rfl];rfl⟩,rfl,trivial⟩,rfl,rfl,rfl,rfl,rfl⟩) ?_
  intro j hj
  conv=>whnf
  refine Al (fun h7=>?_) (fun h7=>?_) <;> (repeat rw [Aa] at h7) <;> conv=>whnf
  ·have hj':j<t.images.length:=by omega
   have hF:(t.images.map D4).getD (j:Int).toNat []=D4 (t.images.getD j ⟨0,0, []⟩):=by rw [Aa];exact Bh hj'
   have hG:((l.map Hi).set k (We t 1)).getD (k:Int).toNat []=We t 1:=by rw [Aa];exact AR (by rw [Ab];exact hk')
   have b1:=CH (t.images.getD j ⟨0,0, []⟩).bytes (hm.2 _ (AE hj'))
   refine⟨⟨by omega,by omega⟩,?_⟩
   conv=>whnf
   refine And.intro ⟨rfl,(Ab _).symm,by rw [Aa];exact hj'⟩ ?_
   conv=>whnf
   rw [hF]
   conv=>whnf
   apply aDraw.treeK (0) tys_ok mixed (.one 0 (.one 1 (.one 2 (.one 3 (.one 4 (.one 5 (.one 6 (.one 7 (.one 8 (.one 9 (.one 10 (.one 11 .fin)))))))))))) (by kernel_rfl)
   conv=>whnf
   try (refine And.intro (by first | omega | (simp;done)) ?_;conv=>whnf)
   try (first | (refine And.intro ⟨rfl,by rw [Bl,Ab],by rw [Aa];exact hk'⟩ ?_;(conv=>whnf);rw [hG]) | skip;conv=>whnf)
   try (first | (refine And.intro ⟨rfl,by rw [Bl,Ab],by rw [Aa];exact hk'⟩ ?_;(conv=>whnf);rw [hG]) | skip;conv=>whnf)
   refine Fn.cl b1 ?_
   conv=>whnf
   try (refine And.intro (by first | omega | (simp;done)) ?_;conv=>whnf)
   try (refine And.intro ⟨rfl,by first | rfl | (simp;done) | (simp;omega),by first | omega | (simp;omega)⟩ ?_;conv=>whnf)
   (first | rw [hF] | skip)
   conv=>whnf
   all_goals refine⟨j+1,hj',by omega,WkN.rc (ConvF.ofH (ConvH.subRow (k:=1) rfl (es':=t.images.map D4) (by simp) ?_)) (s:= [0,1]) ⟨⟨rfl,rfl,rfl,rfl,rfl,rfl,AA (by omega),trivial⟩,⟨⟨hro,_,by rw [LP hS rfl];rfl⟩,rfl,trivial⟩,rfl,rfl,rfl,rfl,rfl⟩⟩
   all_goals
    intro i
    rw [Aa]
    refine GF (f:=D4) (d:=(⟨0,0, []⟩:Img)) hj' ?_ i
    exact⟨fun _ _ h=>h,fun _ _ h=>h,fun _ _ h=>h,trivial⟩
  ·exact⟨k+1,hk',by omega,WkN.rc (ConvF.ofH (RP hk' ht)) (s:= [0]) ⟨⟨rfl,rfl,AA (by omega),trivial⟩,⟨rfl,trivial⟩,rfl,rfl,rfl,rfl,rfl⟩⟩
 ·refine And.intro (Ab _).symm ?_
  exact⟨DS l,AJ (f:=Hi) l rfl rfl,rfl⟩
theorem P4 {g:Geo} {a:An} {x y:List Gt} (hg:AS g=true) (ha:AY g a=true):(CY g a x y).1.length<=30/\∀ t∈(CY g a x y).1,t.images.length<=30/\∀ i∈t.images,i.bytes.length<=59:=by
 obtain⟨h1,h2,h3,h4,h5⟩:=Am.1 hg
 unfold CY
 cases hR:CZ g a x y g.sl.toNat a.pos a.seq g.sl [] [] with
 | none=>exact⟨by simp [LB],by simp [LB]⟩
 | some R=>
  obtain⟨l',w',seq'⟩:=R
  have:=K8 hg _ _ _ _ _ _ (Cg ha).2 (by simp) hR
  by_cases hl:seq' - 1<a.last
  ·rw [E3 hl];exact⟨by simp,by simp⟩
  ·rw [DO hl]
   refine⟨?_,this.2⟩
   have:=this.1
   simp only [AK] at this
   dsimp only
   omega
structure StSm (s:Stt):Prop where
 h:s.a.homes.length<=4/\∀ h∈s.a.homes,h.places.length<=1000000
 l:s.a.label.size<=24
 t:s.txns.length<=30/\∀ t∈s.txns,t.images.length<=30/\∀ i∈t.images,i.bytes.length<=59
 o:s.lost.length<=1000000
theorem st0_sm:StSm st0:=⟨⟨by simp [st0,an0],by simp [st0,an0]⟩,by show (0:Nat)<=24;omega,⟨by simp [st0],by simp [st0]⟩,by simp [st0]⟩
theorem UX {g:Geo} {a:An} {t:List Tx} (hg:AS g=true) (ha:AY g a=true) (ht:t.length<=30/\∀ x∈t,x.images.length<=30/\∀ i∈x.images,i.bytes.length<=59) (n:Nat):StSm (GD (CK a n) t):=
 ⟨⟨(Db hg ha 0 (Ag _)).2.1,fun h hh=>Pq hg ha h hh⟩,(Db hg ha 0 (Ag _)).2.2.2.1,ht,by simp [GD]⟩
theorem Jr {g:Geo} {d:Dk} (hg:AS g=true):StSm (BK g d).2.2:=by
 unfold BK
 split
 ·have hpo:=fun {a j}=>Gr (g:=g) (l:=AF d (BE g)) hg (AF d (BE g)).length (a:=a) (j:=j)
  have hpo:∀ {a j},En g (AF d (BE g))=some (a,j)->AY g a=true:=hpo
  cases hP:En g (AF d (BE g)) with
  | none=>exact st0_sm
  | some q=>
   obtain⟨a,j⟩:=q
   have ha:=hpo hP
   simp only
   unfold Gv
   split
   ·have hi:=P4 (x:=AF (d.adv g.an.toNat) (AL g 0)) (y:=AF (d.adv g.an.toNat) (AL g 1)) hg ha
    generalize CY g a (AF (d.adv g.an.toNat) (AL g 0)) (AF (d.adv g.an.toNat) (AL g 1))=S at hi |-
    unfold Ih
    split
    ·exact st0_sm
    ·split
     ·exact st0_sm
     ·unfold Ig
      split
      ·exact st0_sm
      ·simp only
       split
       ·exact st0_sm
       ·split
        ·exact st0_sm
        ·exact UX hg ha hi _
   ·exact st0_sm
 ·exact st0_sm
theorem U7 (s:Stt) (h:StSm s):Fn Tryz.prog 51 [.ag (Fg s)] fun r=>r = .ag (Fg s):=by
 have c1:=Po s.a (by have:=h.h.1;omega) h.h.2
 have c2:=Vv s.txns (by have:=h.t.1;omega) (fun t ht=>⟨by have:=(h.t.2 t ht).1;omega,fun x hx=>by have:=(h.t.2 t ht).2 x hx;omega⟩)
 have c3:=OQ s.lost (by have:=h.o;omega)
 refine Fn.st Tryz.func51 rfl ?_
 conv=>whnf
 apply aDraw.treeK (0) tys_ok mixed (.one 0 (.one 1 (.one 3 (.one 4 (.one 6 (.one 7 (.one 8 (.one 2 (.one 10 (.one 5 (.one 9 (.one 11 (.one 12 (.one 13 (.one 14 (.one 15 (.one 16 .fin))))))))))))))))) (by kernel_rfl)
 conv=>whnf
 refine Fn.cl c1 ?_
 conv=>whnf
 refine Fn.cl c2 ?_
 conv=>whnf
 (refine ACalls.beside c3 rfl ?_;rintro _ _ ⟨rfl,rfl⟩)
 conv=>whnf
 try (refine And.intro ⟨rfl,by first | rfl | (simp;done) | (simp;omega),by first | omega | (simp;omega)⟩ ?_;conv=>whnf)
 try (refine And.intro ⟨rfl,by first | rfl | (simp;done) | (simp;omega),by first | omega | (simp;omega)⟩ ?_;conv=>whnf)
 try (refine And.intro ⟨rfl,by first | rfl | (simp;done) | (simp;omega),by first | omega | (simp;omega)⟩ ?_;conv=>whnf)
 refine And.intro (Ab _).symm ?_
 exact⟨.ag (Fg s),AG ⟨ri,ri,ri,ri,ri,ri,ri,ri,ri,ri,ri,ri,ri,IL rfl rfl,trivial⟩,rfl⟩
@[reducible] def bwD (g:Geo) (s:Stt) (d:Dk):List AB:= [.box 116 (WY g (.bp 1 0) s), .box 164 (Lx (.ow 2 d.cells.length) (.ow 4 d.cache.length) d.reqs d.left), .dead, .dead, .dead]
theorem Pm (g:Geo) (s:Stt) (d:Dk) (h:DkOk d):ACalls Tryz.prog false 50 [.bp 0 0] (bwG g s d) fun r H=>r = .ag (DG d)/\H=bwD g s d:=by
 have ht:=Uw d (by have:=h.n;omega) (by have:=h.m;omega) (fun c hc=>by have:=(h.c c hc).2;omega) (fun w hw=>by have:=(h.w w hw).2;omega)
 refine ACalls.ofR tys_ok Tryz.func50 rfl rfl (Ad rfl) ?_
 conv=>whnf
 refine ACalls.shut ht.go ?_
 refine And.intro (Ab _).symm ?_
 refine And.intro (Ab _).symm ?_
 conv=>whnf
 refine ACalls.sub [.ag (DG d)] ⟨AG ⟨AJ (f:=Bi) d.cells rfl rfl,AJ (f:=DA) d.cache rfl rfl,ri,ri,trivial⟩,trivial⟩ ?_
 refine Fn.cl ht ?_
 exact⟨_, .ag (DG d),bwD g s d,fun _ _ h=>h,WkN.r (s:= [0,1,2,3,4]) ⟨⟨rfl,trivial⟩,⟨rfl,rfl,trivial,trivial,trivial,trivial⟩,rfl,rfl,rfl,rfl,rfl⟩,rfl,rfl⟩
theorem GE (g:Geo) (d:Dk) (hg:AS g=true) (h1:d.cells.length<=1000000) (h2:d.cache.length<=1000000):Fn Tryz.prog 47 [.ag (A7 g), .ag (DG d)] fun r=>r = .v (.bool (FZ d&&decide ((d.cells.length:Int)=A0 g))):=by
 have c1:=M3 g hg
 have c2:=S3 d h1 h2
 refine Fn.st Tryz.func47 rfl ?_
 conv=>whnf
 refine Fn.cl c1 ?_
 conv=>whnf
 refine Fn.cl c2 ?_
 conv=>whnf
 cases hk:FZ d with
 | false=>
  exact⟨_,ri,rfl⟩
 | true=>
  exact⟨_,ri,rfl⟩
def dk0:Dk:=⟨[], [],0,0⟩
def ze (n:Int):AV:= .v (.int .i64 n)
def nilV:AV:= .v (.slice none 0 0)
theorem st0_sub:SubL [ze 0,ze 0,ze 0,ze 0,ze 0, .v (.string ⟨#[]⟩),nilV,nilV, .v (.bool false),ze 0,ze 0,ze 0,ze 0,nilV] (Fg st0):=
 ⟨fun _ _ h=>h,fun _ _ h=>h,fun _ _ h=>h,fun _ _ h=>h,fun _ _ h=>h,fun _ _ h=>h,AP 3 _,AP 4 _,fun _ _ h=>h,fun _ _ h=>h,fun _ _ h=>h,fun _ _ h=>h,fun _ _ h=>h,AP 1 _,trivial⟩
theorem dk0_sub:SubL [nilV,nilV,ze 0,ze 0] (DG dk0):=⟨AP 3 _,AP 2 _,ri,ri,trivial⟩
theorem PV (g:Geo) (d:Dk) (h1:d.cells.length<=1000000) (h2:d.cache.length<=1000000) (hbad:(AS g&&(FZ d&&decide ((d.cells.length:Int)=A0 g)))=false):Fn Tryz.prog 13 [.ag (A7 g), .ag (DG d)] fun r=>r = .tp [.ag (Fg st0), .ag (DG dk0), .v (.int .i64 1)]:=by
 have hG:Fn Tryz.prog 46 [.ag (A7 g)] fun r=>r = .v (Ed (AS g)):=Ct g.z g.d g.sp g.sl g.an
 cases hg:AS g with
 | false=>
  rw [hg] at hG
  refine Fn.st Tryz.func13 rfl ?_
  conv=>whnf
  refine Fn.cl hG ?_
  exact⟨.tp [.ag (Fg st0), .ag (DG dk0), .v (.int .i64 1)],Bu ⟨AG st0_sub,AG dk0_sub,ri,trivial⟩,rfl⟩
 | true=>
  rw [hg] at hG
  have hs:=GE g d hg h1 h2
  rw [hg,At] at hbad
  rw [hbad] at hs
  refine Fn.st Tryz.func13 rfl ?_
  conv=>whnf
  refine Fn.cl hG ?_
  conv=>whnf
  refine Fn.cl hs ?_
  exact⟨.tp [.ag (Fg st0), .ag (DG dk0), .v (.int .i64 1)],Bu ⟨AG st0_sub,AG dk0_sub,ri,trivial⟩,rfl⟩
theorem KS {g:Geo} {d:Dk} (h:(BK g d).2.1≠0):(BK g d).2.2=st0:=by
 unfold BK at h |-
 split
 ·rename_i hl
  rw [if_pos hl] at h
  split
  ·rfl
  ·rename_i a j hp
   rw [hp] at h
   simp only at h
   unfold Gv at h |-
   split
   ·rename_i hl2
    rw [if_pos hl2] at h
    unfold Ih at h |-
    split
    ·rfl
    ·rename_i h3
     rw [if_neg h3] at h
     split
     ·rfl
     ·rename_i h4
      rw [if_neg h4] at h
      unfold Ig at h |-
      split
      ·rfl
      ·rename_i h5
       rw [if_neg h5] at h
       simp only at h |-
       split
       ·rfl
       ·rename_i h6
        rw [if_neg h6] at h
        split
        ·rfl
        ·rename_i h7
         rw [if_neg h7] at h
         exact absurd rfl h
   ·rfl
 ·rfl
theorem Js {g:Geo} {d:Dk} (hg:AS g=true) (h:DkOk d) (hn:(d.cells.length:Int)=A0 g):DkOk (BK g d).1/\(BK g d).1.cells.length=d.cells.length:=by
 have ha:=h.adv g.an.toNat
 have hs:=(D9 g.an.toNat d).1
 have hpo:=fun {a j}=>Gr (g:=g) (l:=AF d (BE g)) hg (AF d (BE g)).length (a:=a) (j:=j)
 have hpo:∀ {a j},En g (AF d (BE g))=some (a,j)->AY g a=true:=hpo
 unfold BK
 split
 ·cases hP:En g (AF d (BE g)) with
  | none=>exact⟨ha,by rw [hs]⟩
  | some q=>
   obtain⟨a,j⟩:=q
   have hao:=hpo hP
   simp only
   obtain⟨g1,g2,g3,g4,g5⟩:=Am.1 hg
   generalize d.adv g.an.toNat=d1 at ha hs |-
   have ha2:=ha.adv (2*g.sl.toNat)
   have hs2:=(D9 (2*g.sl.toNat) d1).1
   have hx1:(AF d1 (AL g 0)).length=g.sl.toNat:=by rw [BY,Cf]
   have hx2:(AF d1 (AL g 1)).length=g.sl.toNat:=by rw [BY,Cf]
   have hlast:=HT (x:=AF d1 (AL g 0)) (y:=AF d1 (AL g 1)) hg hao
   have hin:=I1 (x:=AF d1 (AL g 0)) (y:=AF d1 (AL g 1)) (n:=d.cells.length) hg hao (by omega) (by omega) hn
   unfold Gv
   split
   ·generalize CY g a (AF d1 (AL g 0)) (AF d1 (AL g 1))=S at hlast hin |-
    generalize d1.adv (2*g.sl.toNat)=d2 at ha2 hs2 |-
    have hn2:d2.cells.length=d.cells.length:=by rw [hs2,hs]
    unfold Ih
    split
    ·exact⟨ha2,hn2⟩
    ·rename_i he
     have he:S.2.2=0:=by simpa using he
     have hin:=hin he
     have hdm:DkOk (d2.mend S.2.1).1/\(d2.mend S.2.1).1.cells.length=d.cells.length:=by
      unfold Dk.mend
      split
      ·exact⟨ha2,hn2⟩
      ·have:=Fq ha2 (l:=S.2.1) (by rw [hn2];exact hin.1)
       exact⟨this.1,this.2.trans hn2⟩
     generalize (d2.mend S.2.1)=M at hdm |-
     split
     ·exact hdm
     ·unfold Ig
      split
      ·exact hdm
      ·rename_i hmx
       have hna:=IB (n:=S.1.length) hao (fun e=>hmx (.inl e)) (fun e=>hmx (.inr e)) (hlast he).2
       have hpa:=Fq hdm.1 (l:=Au g (CK a S.1.length)) (EN hg hna (by rw [hdm.2];exact hn))
       rw [hdm.2] at hpa
       simp only
       split
       ·exact hpa
       ·split <;> exact hpa
   ·exact⟨ha2,by rw [hs2,hs]⟩
 ·exact⟨ha,by rw [hs]⟩
theorem XT {m:Nat} (h:Nat.ble 8 m=true):∀ z∈ [7,4,5,6],z<m:=fun z hz=>by
 have:=Ad h
 simp at hz
 omega
theorem X8 {m:Nat} (h:Nat.ble 9 m=true):∀ z∈ [7,4,5,6,8],z<m:=fun z hz=>by
 have:=Ad h
 simp at hz
 omega
theorem Mj (g:Geo) (d:Dk) (hg:AS g=true) (h:DkOk d) (hn:(d.cells.length:Int)=A0 g):Fn Tryz.prog 13 [.ag (A7 g), .ag (DG d)] fun r=>r = .tp [.ag (Fg (BK g d).2.2), .ag (DG (BK g d).1), .v (.int .i64 (BK g d).2.1)]:=by
 have hG:Fn Tryz.prog 46 [.ag (A7 g)] fun r=>r = .v (Ed (AS g)):=Ct g.z g.d g.sp g.sl g.an
 rw [hg] at hG
 have hN:=h.n
 have hM:=h.m
 have hs:=GE g d hg (by omega) (by omega)
 rw [FY.2 h,decide_eq_true hn,At] at hs
 have ho:=Rb d (by omega) (by omega)
 have hm:=S9 g d hg h hn
 have hsm:=Jr (g:=g) (d:=d) hg
 refine Fn.st Tryz.func13 rfl ?_
 conv=>whnf
 refine Fn.cl hG ?_
 conv=>whnf
 refine Fn.cl hs ?_
 conv=>whnf
 apply aDraw.treeK (0) tys_ok mixed (.one 0 (.one 1 (.one 2 (.one 3 (.one 4 (.one 5 .fin)))))) (by kernel_rfl)
 conv=>whnf
 (refine ACalls.beside ho rfl ?_;rintro _ _ ⟨rfl,rfl⟩)
 conv=>whnf
 have hmo:=Js hg h hn
 refine ACalls.pre (ConvH.subBox (cs':=WY g (.bp 4 0) st0) 7 rfl ⟨ri,ri,ri,ri,ri,ri,ri,ri,ri,ri,ri,ri,AP 3 _,AP 4 _,ri,ri,ri,ri,ri,AP 1 _,trivial⟩) ?_
 refine ACalls.frame [7,4,5,6] hm rfl rfl rfl rfl (by decide) (XT rfl) ⟨rfl,rfl,rfl,rfl,trivial⟩ ?_
 rintro _ _ ⟨rfl,rfl⟩
 have herr:=KS (g:=g) (d:=d)
 generalize BK g d=M at hmo herr hsm |-
 obtain⟨D,e,S⟩:=M
 simp only at hmo herr hsm
 have hdk:=Pm g S D hmo.1
 have htw:=U7 S hsm
 conv=>whnf
 by_cases he:e=0
 ·subst he
  conv=>whnf
  refine Fn.cl htw ?_
  conv=>whnf
  refine ACalls.frame [7,4,5,6,8] hdk rfl rfl rfl rfl (by decide) (X8 rfl) ⟨rfl,rfl,rfl,rfl,rfl,trivial⟩ ?_
  rintro _ _ ⟨rfl,rfl⟩
  exact⟨_,ri,rfl⟩
 ·have hb:(e != 0)=true:=bne_iff_ne.2 he
  rw [hb]
  have:=herr he
  subst this
  conv=>whnf
  refine ACalls.frame [7,4,5,6,8] hdk rfl rfl rfl rfl (by decide) (X8 rfl) ⟨rfl,rfl,rfl,rfl,rfl,trivial⟩ ?_
  rintro _ _ ⟨rfl,rfl⟩
  exact⟨.tp [.ag (Fg st0), .ag (DG D), .v (.int .i64 e)],Bu ⟨AG st0_sub,ri,ri,trivial⟩,rfl⟩
theorem TM {d:Dk} (hd:DkOk d) (hl:d.left<0) (k:Nat):Lv d k:=⟨hd.r, .inl hl⟩
theorem NP (k:Nat) (d:Dk) (l:List Int):AF (d.tick k) l=AF d l:=rfl
theorem finL_two:∀ (l:List Wr) (cs:List Cel) (a:Nat),((DY cs l).getD a cz).state=2↔(cs.getD a cz).state=2:=fun l cs a=>by
 by_cases ha:a<cs.length
 ·by_cases h:(cs.getD a cz).state=2
  ·rw [finL_stuck l cs a ha h]
  ·rcases finL_any l cs a ha with e | ⟨_,e,_⟩
   ·rw [e]
   ·rw [e];exact⟨fun q=>absurd q (by decide),fun q=>absurd q h⟩
 ·rw [List.getD_eq_getElem?_getD,List.getD_eq_getElem?_getD,List.getElem?_eq_none (by rw [finL_len];omega),List.getElem?_eq_none (by omega)]
theorem Ui (l:List Wr) (cs:List Cel):free (DY cs l)=free cs:=by
 funext w
 unfold free
 rw [Bz,decide_eq_true_eq,decide_eq_true_eq]
 exact not_congr (finL_two l cs _)
def KR (g:Geo) (w:List Wr):Nat:=g.an.toNat+2*g.sl.toNat+(if w=[] then 0 else w.length+1)+(g.an.toNat+1)
theorem O9 {g:Geo} {d:Dk} {a:An} {j:Nat} {L:List Tx} {w:List Wr} (hg:AS g=true) (hd:DkOk d) (hn:(d.cells.length:Int)=A0 g) (hc:d.cache=[]) (hl:d.left<0) (hp:En g (AF d (BE g))=some (a,j)) (hs:CY g a (AF d (AL g 0)) (AF d (AL g 1))=(L,w,0)) (h1:a.gen≠4294967295) (h2:a.epoch≠4294967295) :
  BK g d=(⟨DY (DY d.cells w) (Au g (CK a L.length)), [],(d.tick (KR g w)).reqs,d.left⟩,if ((Au g (CK a L.length)).filter (free d.cells)).length=0 then 14 else 0,if ((Au g (CK a L.length)).filter (free d.cells)).length=0 then st0 else GD (CK a L.length) L):=by
 obtain⟨g1,g2,g3,g4,g5⟩:=Am.1 hg
 have hao:=Gr hg _ hp
 have hin:=I1 (x:=AF d (AL g 0)) (y:=AF d (AL g 1)) (n:=d.cells.length) hg hao (by rw [BY,Cf];omega) (by rw [BY,Cf];omega) hn
 rw [hs] at hin
 obtain⟨hw1,hw2⟩:=hin rfl
 simp only at hw1 hw2
 have hlv:∀ k,d.live k:=fun k=> .inl hl
 have htl:∀ k,(d.tick k).left=d.left:=fun k=>if_pos hl
 have hr:=hd.r
 unfold BK
 rw [if_pos (hlv _),hp]
 simp only
 unfold Gv
 rw [L3 _ (TM hd hl _),if_pos (show (d.tick g.an.toNat).live _ from .inl (by rw [htl];exact hl)),NP,NP,hs]
 rw [L3 _ (show Lv (d.tick g.an.toNat) (2*g.sl.toNat) from Ix (TM hd hl _)),FX _ _ hr.2 (.inl hl)]
 unfold Ih
 simp only [ne_eq,not_true,if_false]
 have hm:(d.tick (g.an.toNat+2*g.sl.toNat)).mend w=(⟨DY d.cells w, [],(d.tick (g.an.toNat+2*g.sl.toNat+(if w=[] then 0 else w.length+1))).reqs,d.left⟩,false):=by
  unfold Dk.mend
  by_cases hw:w=[]
  ·subst hw
   rw [if_pos rfl,if_pos rfl,BL]
   simp only [Prod.mk.injEq,and_true]
   show (d.tick _:Dk)=_
   unfold Dk.tick
   rw [hc,if_pos hl]
   rfl
  ·rw [if_neg hw,if_neg hw,I9 (Ix (TM hd hl _)) hc (by omega),FX _ _ hr.2 (.inl hl)]
   simp only [htl]
   rfl
 rw [hm]
 simp only [BH,if_false]
 unfold Ig
 rw [if_neg (by rintro(h | h);exact h1 h;exact h2 h)]
 obtain⟨K,hK⟩:∃ K,K=g.an.toNat+2*g.sl.toNat+(if w=[] then 0 else w.length+1):=⟨_,rfl⟩
 rw [<-hK]
 have hrk:0<=(d.tick K).reqs/\(d.tick K).reqs<=1048576:=by show 0<=min _ _/\min _ _<=_;omega
 have hlen:=Dw g (CK a L.length)
 rw [I9 (d:=⟨DY d.cells w, [],(d.tick K).reqs,d.left⟩) ⟨hrk, .inl hl⟩ rfl (by omega)]
 simp only [BH,if_false,Ui,hlen]
 have e1:((⟨DY d.cells w, [],(d.tick K).reqs,d.left⟩:Dk).tick (g.an.toNat+1)).left=d.left:=if_pos hl
 have e2:((⟨DY d.cells w, [],(d.tick K).reqs,d.left⟩:Dk).tick (g.an.toNat+1)).reqs=(d.tick (KR g w)).reqs:=by
  show min ((d.tick K).reqs+((g.an.toNat+1:Nat):Int)) _=min _ _
  show min (min (d.reqs+(K:Nat)) 1048576+((g.an.toNat+1:Nat):Int)) 1048576=min (d.reqs+(KR g w:Nat)) 1048576
  unfold KR
  rw [<-hK]
  omega
 rw [e1,e2]
 split <;> rfl
theorem KL (g:Geo) (l:List Gt):∀ k,(Du g l k=none->∀ i,i<k->C3 g (l.getD i ⟨0, []⟩) (i:Nat)=none)/\∀ a j,Du g l k=some (a,j)->j<k/\C3 g (l.getD j ⟨0, []⟩) (j:Nat)=some a/\∀ i b,i<k->C3 g (l.getD i ⟨0, []⟩) (i:Nat)=some b->b.gen<=a.gen
 | 0=>⟨fun _ i hi=>by omega,fun a j h=>by cases h⟩
 | k+1=>by
  obtain⟨ih1,ih2⟩:=KL g l k
  rw [Gs,Mb]
  cases hS:C3 g (l.getD k ⟨0, []⟩) (k:Nat) with
  | none=>
   refine⟨fun h i hi=>?_,fun a j h=>?_⟩
   ·by_cases e:i=k
    ·rw [e];exact hS
    ·exact ih1 h i (by omega)
   ·obtain⟨q1,q2,q3⟩:=ih2 a j h
    refine⟨by omega,q2,fun i b hi hb=>?_⟩
    by_cases e:i=k
    ·rw [e,hS] at hb;cases hb
    ·exact q3 i b (by omega) hb
  | some c=>
   cases hP:Du g l k with
   | none=>
    refine⟨fun h=>(by cases h),fun a j h=>?_⟩
    cases h
    refine⟨by omega,hS,fun i b hi hb=>?_⟩
    by_cases e:i=k
    ·rw [e,hS] at hb;cases hb;exact Br _
    ·rw [ih1 hP i (by omega)] at hb;cases hb
   | some q=>
    obtain⟨a0,j0⟩:=q
    obtain⟨q1,q2,q3⟩:=ih2 a0 j0 hP
    simp only
    by_cases hlt:a0.gen<c.gen
    ·rw [if_pos hlt]
     refine⟨fun h=>(by cases h),fun a j h=>?_⟩
     cases h
     refine⟨by omega,hS,fun i b hi hb=>?_⟩
     by_cases e:i=k
     ·rw [e,hS] at hb;cases hb;exact Br _
     ·have:=q3 i b (by omega) hb;omega
    ·rw [if_neg hlt]
     refine⟨fun h=>(by cases h),fun a j h=>?_⟩
     cases h
     refine⟨by omega,q2,fun i b hi hb=>?_⟩
     by_cases e:i=k
     ·rw [e,hS] at hb;cases hb;omega
     ·exact q3 i b (by omega) hb
theorem Qt {g:Geo} {d:Dk} {i:Nat} (hi:i<g.an.toNat):(AF d (BE g)).getD i ⟨0, []⟩=Nx d (i:Nat):=by
 rw [AF,Bh (d:=0) (by rw [CI];exact hi),J9 hi]
theorem P9 {g:Geo} {a:An} {i:Nat} (hg:AS g=true) (ha:AY g a=true) (hi:(i:Int)<=65535):C3 g ⟨0,Cw a i⟩ i=some a:=by
 obtain⟨e1,e2,e3,e4⟩:=LR (J7 hg ha (i:=(i:Nat)) ⟨by omega,hi⟩)
 unfold C3
 rw [if_pos ⟨rfl,e1,e2⟩]
 show (match Cu g (BU (Cw a i)) with | some a_1=>if a_1.gen=Cq (Cw a i) then some a_1 else none | none=>none)=_
 rw [show BU (Cw a i)=Ir a from e4,RN hg ha,show Cq (Cw a i)=a.gen from e3]
 simp
theorem P3 {g:Geo} {a b:An} {fill:UInt8} {sizes:List Int} {ep:Int} {bad0 bad1:Int->Bool} (hg:AS g=true) (ha:AY g a=true) (hsq:a.seq<=1000000) (hl:sizes.length<=40) (hbs:b.seq=a.seq) (hbp:b.pos=a.pos) (hb:∀ s,(bad0 s&&bad1 s)=false) (he:∀ j:Nat,j<(A8 g a fill sizes 0 a.pos 0).length->ep=b.epoch\/a.seq+j<=b.last/\ep<=b.epoch) :
  JK g b (G6 g (A8 g a fill sizes 0 a.pos 0) ep bad0) (G6 g (A8 g a fill sizes 0 a.pos 0) ep bad1)=LB b (some (A8 g a fill sizes 0 a.pos 0,(A8 g a fill sizes 0 a.pos 0).flatMap (MI g ep (fun s=>!bad0 s) fun s=>!bad1 s),a.seq+(A8 g a fill sizes 0 a.pos 0).length)):=by
 obtain⟨h1,h2,h3,h4,h5⟩:=Am.1 hg
 have hq:=Cg ha
 have hU0:=Kj (FO (fill:=fill) (sizes:=sizes) hg ha)
 obtain⟨f,e1,e2,e3⟩:=Wz (g:=g) (a:=a) (b:=b) (fill:=fill) (sizes:=sizes) (ep:=ep) (p:=G6 g (A8 g a fill sizes 0 a.pos 0) ep bad0) (q:=G6 g (A8 g a fill sizes 0 a.pos 0) ep bad1) (b0:=fun s=>!bad0 s) (b1:=fun s=>!bad1 s) hg ha hsq hl hbs hbp (fun t ht=>by
  obtain⟨j,j1,rfl⟩:=No ht
  exact Xa hg ha j1 (Nat.le_refl _) (he j j1) fun k _=>hb _)
 rw [e3,P5]
 intro hleft
 have hP:=UZ (x:=a.pos+usedM (A8 g a fill sizes 0 a.pos 0)) hg (by omega)
 have q1:=AD g.sl (show 0<=a.pos+usedM (A8 g a fill sizes 0 a.pos 0) by omega)
 have q2:=A3 (a.pos+usedM (A8 g a fill sizes 0 a.pos 0)) (show 0<g.sl by omega)
 have hz:∀ c:Int->Bool,G6 g (A8 g a fill sizes 0 a.pos 0) ep c ((a.pos+usedM (A8 g a fill sizes 0 a.pos 0)).tmod g.sl)=if c ((a.pos+usedM (A8 g a fill sizes 0 a.pos 0)).tmod g.sl) then none else some zeroC:=fun c=>by
  rw [N_ ⟨q1,q2⟩,RL hg ha (Br _) (by omega)]
 have hb':=hb ((a.pos+usedM (A8 g a fill sizes 0 a.pos 0)).tmod g.sl)
 refine Rl (fun of_ left=>?_) (fun of_ left=>?_) ?_
 ·rw [hP,hz];split;exact O7 _ _ _ _ _;exact O5 _ _ _ _ _
 ·rw [hP,hz];split;exact O7 _ _ _ _ _;exact O5 _ _ _ _ _
 ·rw [hP,hz,hz]
  cases h0:bad0 ((a.pos+usedM (A8 g a fill sizes 0 a.pos 0)).tmod g.sl) <;> cases h1:bad1 ((a.pos+usedM (A8 g a fill sizes 0 a.pos 0)).tmod g.sl) <;> simp_all
section
variable {g:Geo} {a:An} {fill:UInt8} {sizes:List Int}
def If (g:Geo) (a:An) (u:Nat):Nat:=((a.pos+(u:Nat)).tmod g.sl).toNat
theorem HR (hg:AS g=true) (ha:AY g a=true):∀ j,j<=(A8 g a fill sizes 0 a.pos 0).length->((A8 g a fill sizes 0 a.pos 0).take j).flatMap (fun t=>(List.range (t.images.length+1)).map fun k=>(AW g t.pos (k:Nat)).toNat)=(List.range (usedM ((A8 g a fill sizes 0 a.pos 0).take j)).toNat).map (If g a)
 | 0,_=>by simp [usedM]
 | j+1,hj=>by
  have ih:=HR hg ha j (by omega)
  have hj':j<(A8 g a fill sizes 0 a.pos 0).length:=by omega
  have hgt:=Np (fill:=fill) (sizes:=sizes) hg ha hj'
  have hU:=JT (fill:=fill) (sizes:=sizes) hg ha j
  have hu:=used_take _ j hj'
  have eg:(A8 g a fill sizes 0 a.pos 0)[j]=(A8 g a fill sizes 0 a.pos 0).getD j tz:=by rw [List.getD_eq_getElem?_getD,List.getElem?_eq_getElem hj'];rfl
  rw [hu,Ar hj',List.flatMap_append,ih,eg]
  simp only [BR,List.flatMap_nil,List.append_nil]
  rw [show (usedM ((A8 g a fill sizes 0 a.pos 0).take j)+((A8 g a fill sizes 0 a.pos 0).getD j tz).n).toNat=(usedM ((A8 g a fill sizes 0 a.pos 0).take j)).toNat+(((A8 g a fill sizes 0 a.pos 0).getD j tz).images.length+1) by omega]
  have hr:∀ A B:Nat,List.range (A+B)=List.range A ++ (List.range B).map fun x=>A+x:=fun A B=>List.range_add
  rw [hr (usedM ((A8 g a fill sizes 0 a.pos 0).take j)).toNat,Aq,Dg]
  congr 1
  apply BQ
  intro k hk
  have hk:=AC.1 hk
  rw [TQ hg ha hj' hk]
  unfold If
  simp only [Function.comp]
  congr 2
  omega
theorem X7 (hg:AS g=true) (ha:AY g a=true) (u:Nat):If g a u<g.sl.toNat:=by
 obtain⟨h1,h2,h3,h4,h5⟩:=Am.1 hg
 have hq:=Cg ha
 have q1:=AD g.sl (show 0<=a.pos+(u:Nat) by omega)
 have q2:=A3 (a.pos+(u:Nat)) (show 0<g.sl by omega)
 unfold If
 omega
theorem RR (hg:AS g=true) (ha:AY g a=true) {s:Nat} (hs:(s:Int)<g.sl):∃ u:Nat,(u:Int)<g.sl/\If g a u=s:=by
 obtain⟨h1,h2,h3,h4,h5⟩:=Am.1 hg
 have hq:=Cg ha
 by_cases h:a.pos<=(s:Nat)
 ·refine⟨((s:Int) - a.pos).toNat,by omega,?_⟩
  unfold If
  rw [show a.pos+((((s:Int) - a.pos).toNat:Nat):Int)=(s:Nat) by omega,DT (by omega) hs]
  omega
 ·refine⟨((s:Int) - a.pos+g.sl).toNat,by omega,?_⟩
  unfold If
  rw [show a.pos+((((s:Int) - a.pos+g.sl).toNat:Nat):Int)=(s:Nat)+g.sl by omega,Hk (by omega) (by omega) (by omega)]
  omega
theorem SM (hg:AS g=true) (ha:AY g a=true) {u:Nat} (hu:(u:Int)<g.sl):(HJ g ((If g a u:Nat):Int) (A8 g a fill sizes 0 a.pos 0) 0).isSome=decide ((u:Int)<usedM (A8 g a fill sizes 0 a.pos 0)):=by
 have hq:=Cg ha
 have q1:=AD g.sl (show 0<=a.pos+(u:Nat) by omega)
 have e:((If g a u:Nat):Int)=(a.pos+(u:Nat)).tmod g.sl:=by unfold If;omega
 by_cases h:(u:Int)<usedM (A8 g a fill sizes 0 a.pos 0)
 ·rw [decide_eq_true h]
  have hs:=HR (fill:=fill) (sizes:=sizes) hg ha (A8 g a fill sizes 0 a.pos 0).length (Nat.le_refl _)
  rw [List.take_length] at hs
  have hm:If g a u∈(List.range (usedM (A8 g a fill sizes 0 a.pos 0)).toNat).map (If g a):=AH.2 ⟨u,AC.2 (by omega),rfl⟩
  rw [<-hs] at hm
  obtain⟨t,ht,hm⟩:=List.mem_flatMap.1 hm
  obtain⟨k,hk,hm⟩:=AH.1 hm
  have hk:=AC.1 hk
  obtain⟨j,hj,rfl⟩:=No ht
  obtain⟨r1, -⟩:=I6 (ep:=0) hg ha hj hk
  rw [<-hm,B9 r1.1]
  exact SL hg ha hj hk
 ·rw [decide_eq_false h,e,SN hg ha (by omega) hu]
  rfl
end
def XU (g:Geo) (t:Tx) (k:Nat):List Wr:=(List.range 2).map fun c=>⟨AN g (c:Nat) (AW g t.pos k),C6 g ((C9 t.seq 0 t.images).getD k rc0) (c:Nat) (AW g t.pos k)⟩
def Xo (g:Geo) (t:Tx):Nat->List Wr
 | 0=> []
 | k+1=>Xo g t k ++ XU g t k
def WN (g:Geo) (L:List Tx):Nat->List Wr
 | 0=> []
 | i+1=>WN g L i ++ Xo g (L.getD i tz) ((L.getD i tz).images.length+1)
def OI (g:Geo) (s:ByteArray) (L:List Tx):Dk:={ FG g s with cells:=Cr (FG g s).cells (WN g L L.length) }
theorem QV {g:Geo} {t:Tx} {w:Wr}:∀ {n:Nat},w∈Xo g t n↔∃ k c:Nat,k<n/\c<2/\w=⟨AN g c (AW g t.pos k),C6 g ((C9 t.seq 0 t.images).getD k rc0) c (AW g t.pos k)⟩
 | 0=>by simp [Xo]
 | n+1=>by
  rw [Xo,Ax,QV (n:=n)]
  simp only [XU,AH,AC]
  constructor
  ·rintro(⟨k,c,h1,h2,h3⟩ | ⟨c,h1,h2⟩)
   ·exact⟨k,c,by omega,h2,h3⟩
   ·exact⟨n,c,by omega,h1,h2.symm⟩
  ·rintro⟨k,c,h1,h2,h3⟩
   by_cases e:k=n
   ·subst e;exact .inr ⟨c,h2,h3.symm⟩
   ·exact .inl ⟨k,c,by omega,h2,h3⟩
theorem Nt {g:Geo} {L:List Tx} {w:Wr}:∀ {n:Nat},w∈WN g L n↔∃ j k c:Nat,j<n/\k<(L.getD j tz).images.length+1/\c<2/\w=⟨AN g c (AW g (L.getD j tz).pos k),C6 g ((C9 (L.getD j tz).seq 0 (L.getD j tz).images).getD k rc0) c (AW g (L.getD j tz).pos k)⟩
 | 0=>by simp [WN]
 | n+1=>by
  rw [WN,Ax,Nt (n:=n),QV]
  constructor
  ·rintro(⟨j,k,c,h1,h2⟩ | ⟨k,c,h1⟩)
   ·exact⟨j,k,c,by omega,h2⟩
   ·exact⟨n,k,c,by omega,h1⟩
  ·rintro⟨j,k,c,h1,h2⟩
   by_cases e:j=n
   ·subst e;exact .inr ⟨k,c,h2⟩
   ·exact .inl ⟨j,k,c,by omega,h2⟩
theorem RW {g:Geo} {c c' s s':Int} (hc:c=0\/c=1) (hc':c'=0\/c'=1) (hs:0<=s/\s<g.sl) (hs':0<=s'/\s'<g.sl) (h:AN g c s=AN g c' s'):c=c'/\s=s':=by
 unfold AN at h
 rcases hc with rfl | rfl <;> rcases hc' with rfl | rfl <;> omega
theorem IG {g:Geo} {c s:Int} (hc:c=0\/c=1) (hs:0<=s/\s<g.sl):g.an<=AN g c s/\AN g c s<g.an+2*g.sl:=by
 unfold AN
 rcases hc with rfl | rfl <;> omega
def OG (g:Geo) (s:ByteArray) (L:List Tx) (ep a:Int):List UInt8:=
 if g.an<=a/\a<g.an+g.sl then C6 g (Gq g L ep (a - g.an)) 0 (a - g.an) else if g.an<=a/\a<g.an+2*g.sl then C6 g (Gq g L ep (a - g.an - g.sl)) 1 (a - g.an - g.sl) else IW g s a
theorem Ns {g:Geo} {s:ByteArray} {L:List Tx} {ep c i:Int} (hc:c=0\/c=1) (hi:0<=i/\i<g.sl):OG g s L ep (AN g c i)=C6 g (Gq g L ep i) c i:=by
 unfold OG AN
 rcases hc with rfl | rfl
 ·rw [if_pos (by omega),show g.an+0*g.sl+i - g.an=i by omega]
 ·rw [if_neg (by omega),if_pos (by omega),show g.an+1*g.sl+i - g.an - g.sl=i by omega]
theorem KX {g:Geo} {s:ByteArray} {L:List Tx} {ep a:Int} (h:a<g.an\/g.an+2*g.sl<=a) (_hs:0<=g.sl):OG g s L ep a=IW g s a:=by
 unfold OG
 rw [if_neg (by omega),if_neg (by omega)]
theorem Mq {g:Geo} {a:Int} (h1:g.an<=a) (h2:a<g.an+2*g.sl):∃ c i:Int,(c=0\/c=1)/\(0<=i/\i<g.sl)/\a=AN g c i:=by
 by_cases h:a<g.an+g.sl
 ·exact⟨0,a - g.an, .inl rfl,by omega,by unfold AN;omega⟩
 ·exact⟨1,a - g.an - g.sl, .inr rfl,by omega,by unfold AN;omega⟩
section
variable {g:Geo} {s:ByteArray} {a:An} {fill:UInt8} {sizes:List Int}
theorem UQ (hg:AS g=true) (ha:AY g a=true) {i:Int} (hi:0<=i/\i<g.sl) (h:(HJ g i (A8 g a fill sizes 0 a.pos 0) 0).isSome=true):∃ j k:Nat,j<(A8 g a fill sizes 0 a.pos 0).length/\k<((A8 g a fill sizes 0 a.pos 0).getD j tz).images.length+1/\AW g ((A8 g a fill sizes 0 a.pos 0).getD j tz).pos k=i:=by
 have hq:=Cg ha
 obtain⟨u,hu,e⟩:=RR (a:=a) hg ha (s:=i.toNat) (by omega)
 have ei:i=((If g a u:Nat):Int):=by omega
 rw [ei,SM (fill:=fill) (sizes:=sizes) hg ha hu,decide_eq_true_eq] at h
 have hst:=HR (fill:=fill) (sizes:=sizes) hg ha _ (Nat.le_refl (A8 g a fill sizes 0 a.pos 0).length)
 rw [List.take_length] at hst
 have hm:If g a u∈(List.range (usedM (A8 g a fill sizes 0 a.pos 0)).toNat).map (If g a):=AH.2 ⟨u,AC.2 (by omega),rfl⟩
 rw [<-hst,List.mem_flatMap] at hm
 obtain⟨t,ht,hm⟩:=hm
 obtain⟨j,hj,rfl⟩:=No ht
 obtain⟨k,hk,e2⟩:=AH.1 hm
 refine⟨j,k,hj,AC.1 hk,?_⟩
 obtain⟨r1,_⟩:=I6 (ep:=0) (fill:=fill) (sizes:=sizes) hg ha hj (AC.1 hk)
 omega
theorem Mp (hg:AS g=true) (ha:AY g a=true) {x:Int} (h0:0<=x) (h1:x<A0 g):(OI g s (A8 g a fill sizes 0 a.pos 0)).cells.getD x.toNat cz=⟨0,OG g s (A8 g a fill sizes 0 a.pos 0) 0 x, []⟩:=by
 obtain⟨g1,g2,g3,g4,g5⟩:=Am.1 hg
 have hf:=OU (s:=s) hg h0 h1
 have hfl:=(M6 (s:=s) hg).len
 have hl:x.toNat<(FG g s).cells.length:=by omega
 have hw:∀ w∈WN g (A8 g a fill sizes 0 a.pos 0) (A8 g a fill sizes 0 a.pos 0).length,∃ c i:Int,(c=0\/c=1)/\(0<=i/\i<g.sl)/\w=⟨AN g c i,C6 g (Gq g (A8 g a fill sizes 0 a.pos 0) 0 i) c i⟩:=fun w hw=>by
  obtain⟨j,k,c,q1,q2,q3,rfl⟩:=Nt.1 hw
  obtain⟨r1,r2⟩:=I6 (ep:=0) (fill:=fill) (sizes:=sizes) hg ha q1 q2
  exact⟨(c:Nat),_,by omega,r1,by rw [r2]⟩
 show (Cr (FG g s).cells _).getD x.toNat cz=_
 by_cases hx:g.an<=x/\x<g.an+2*g.sl
 ·obtain⟨c,i,hc,hi,rfl⟩:=Mq hx.1 hx.2
  rw [Ns hc hi]
  refine(J2 (F:=C6 g (Gq g (A8 g a fill sizes 0 a.pos 0) 0 i) c i) _ _ _ hl (fun w q qa=>?_) ?_).trans (by rw [hf])
  ·obtain⟨c',i',hc',hi',rfl⟩:=hw w q
   have hb:=IG (g:=g) hc' hi'
   obtain⟨rfl,rfl⟩:=RW (g:=g) hc' hc hi' hi (show AN g c' i'=AN g c i by have:(AN g c' i').toNat=(AN g c i).toNat:=qa;omega)
   rfl
  ·cases hS:(HJ g i (A8 g a fill sizes 0 a.pos 0) 0) with
   | none=>
    right
    have:Gq g (A8 g a fill sizes 0 a.pos 0) 0 i=zeroC:=by unfold Gq;rw [hS]
    rw [this,hf]
    have e:=Lk (g:=g) (s:=s) (c:=c) (i:=i.toNat) hc (by omega)
    rw [B9 hi.1] at e
    exact e
   | some q=>
    left
    obtain⟨j,k,q1,q2,q3⟩:=UQ (fill:=fill) (sizes:=sizes) hg ha hi (by rw [hS];rfl)
    refine⟨⟨AN g (c.toNat:Nat) i,C6 g ((C9 ((A8 g a fill sizes 0 a.pos 0).getD j tz).seq 0 ((A8 g a fill sizes 0 a.pos 0).getD j tz).images).getD k rc0) (c.toNat:Nat) i⟩,?_,?_⟩
    ·exact Nt.2 ⟨j,k,c.toNat,q1,q2,by omega,by rw [q3]⟩
    ·rw [B9 (by omega)]
 ·rw [KX (by omega) (by omega),fmtL_miss _ _ _ hl,hf]
  intro w q e
  obtain⟨c',i',hc',hi',rfl⟩:=hw w q
  have hb:=IG (g:=g) hc' hi'
  have:(AN g c' i').toNat=x.toNat:=e
  omega
theorem KV (hg:AS g=true) (ha:AY g a=true):Holds (OI g s (A8 g a fill sizes 0 a.pos 0)) (A0 g) (OG g s (A8 g a fill sizes 0 a.pos 0) 0):=by
 refine⟨?_,rfl,fun x h0 h1=>by rw [Mp hg ha h0 h1];exact⟨rfl,rfl⟩⟩
 show ((Cr (FG g s).cells _).length:Int)=_
 rw [CM]
 exact(M6 hg).len
theorem NB {b:An} (hg:AS g=true) (hb:AY g b=true) (i:Int):(Cw b i).length<=200:=by
 have:=J8 hg hb
 rw [Cw,Fo]
 omega
end
theorem FM {cs:List Cel} {n:Nat} (h:cs.length=n) {k:Nat} (hk:k<n):(cs.map Bi).getD k []=Bi (cs.getD k cz):=Bh (by omega)
theorem UV {g:Geo} (hg:AS g=true):JQ g (DF g)=true:=by
 obtain⟨g1,g2,g3,g4,g5⟩:=Am.1 hg
 have hz:=Kl zero8
 simp only [JQ,hg,DF,Bm,Bool.and_eq_true,decide_eq_true_eq,At]
 refine⟨⟨by omega,?_⟩,?_⟩
 ·rw [A4]
  intro e he
  rw [List.eq_of_mem_replicate he]
  simp [E9,ent0,JR,BP]
  exact decide_eq_true (by omega)
 ·have:GV (List.replicate (g.d+1).toNat ent0) g.d.toNat=false:=by
   unfold GV
   rw [List.getElem?_replicate_of_lt (by omega)];rfl
  rw [this];rfl
theorem Kx {g:Geo} (hg:AS g=true) {a:Int} (ha:0<=a/\a<=65535):WD a 0 (CT (DF g)):=by
 obtain⟨g1,g2,g3,g4,g5⟩:=Am.1 hg
 refine⟨ha.1,ha.2,Br _,by decide,?_⟩
 rw [Fw,DF,Bm];omega
theorem M5 (g:Geo) (s:ByteArray) (hg:AS g=true) (hs:C5 s.data.toList=0) (hl:s.size<=1000000):Fn Tryz.prog 24 [.ag (A7 g), .v (.string s)] fun r=>r = .tp [.ag (DG (FG g s)), .v (.int .i64 0)]:=by
 obtain⟨g1,g2,g3,g4,g5⟩:=Am.1 hg
 have hcg:=Dt hg
 have hp:=GP hg
 have hN:1<=(A0 g).toNat/\(A0 g).toNat<=300:=by
  have:g.z*Cs g<=4*7:=CQ (by omega) (by omega) (by omega) (by omega)
  unfold A0 at hcg |-
  omega
 have hcN:A0 g=((A0 g).toNat:Int):=by omega
 have hao:=Et hg hs
 have hA:=JA g s hl
 rw [hg,if_pos rfl,if_pos hs,if_pos rfl,hs] at hA
 have hC:=M3 g hg
 rw [hcN] at hC
 have hD:=Uz (A0 g).toNat hN
 refine Fn.st Tryz.func24 rfl ?_
 conv=>whnf
 refine Fn.cl hA ?_
 conv=>whnf
 refine Fn.cl hC ?_
 conv=>whnf
 refine ACalls.beside hD rfl ?_
 rintro _ _ ⟨rfl,rfl⟩
 conv=>whnf
 refine aLoop.ruleRR Nat (fun k=>([(2, .bp 0 0),(4, .bp 1 0),(5,ze 0),(6, .bp 2 0),(10, .bp 3 0),(51,ze g.an),(52,ze k)], [.box 23 (A7 g), .box 32 [nilV,nilV,ze 0,ze 0], .box 40 (CE (A5 g s)), .box 32 [.ow 4 (A0 g).toNat,nilV,ze 0,ze (-1)], .row 87 3 ((Cr (FH g) ((Au g (A5 g s)).take k)).map Bi)])) (fun k=>k<=g.an.toNat) (fun k=>g.an.toNat - k) 0 (Ag _)
  ?_ ?_
 ·refine WkN.rc (ConvF.ofH (ConvH.subRow (k:=3) rfl (es':=(FH g).map Bi) (by simp [FH]) fun i=>?_)) (s:= [0,1,2,4,3]) ⟨⟨rfl,rfl,rfl,rfl,rfl,rfl,rfl,trivial⟩,⟨rfl,rfl,rfl,rfl,rfl,trivial⟩,rfl,rfl,rfl,rfl,rfl⟩
  rw [FH,List.map_replicate]
  by_cases hi:i<(A0 g).toNat
  ·rw [FA hi,FA hi];exact⟨fun _ _ h=>h,AP 1 _,AP 1 _,trivial⟩
  ·rw [List.getD_eq_getElem?_getD,List.getD_eq_getElem?_getD,List.getElem?_eq_none (by simpa using hi),List.getElem?_eq_none (by simpa using hi)];exact SubL.refl _
 ·intro k hk
  conv=>whnf
  refine Al (fun h6=>?_) (fun h6=>?_) <;> (repeat rw [Aa] at h6) <;> conv=>whnf
  ·have hk':k<(Au g (A5 g s)).length:=by rw [Dw];omega
   have hsx:=Es (FH g) hk'
   rw [FQ (by omega)] at hsx
   have hlx:(Cr (FH g) ((Au g (A5 g s)).take k)).length=(A0 g).toNat:=by rw [CM,IZ]
   generalize Cr (FH g) ((Au g (A5 g s)).take k)=cs at hsx hlx |-
   have hga:=FB g k hg (by omega)
   have hnc:=O8 g (A5 g s) k hg hao (by omega)
   have hE:(cs.map Bi).getD (k:Int).toNat []=Bi (cs.getD (k:Int).toNat cz):=FM hlx (by omega)
   repeat' (first | (refine aSeq.go ?_;conv=>whnf) | fail)
   refine Fn.cl hga ?_
   conv=>whnf
   apply aDraw.treeK (0) tys_ok mixed (.one 0 (.one 1 (.one 2 (.one 3 (.one 4 (.one 5 (.one 6 (.one 7 (.one 8 (.one 9 (.one 10 (.one 11 (.one 12 .fin))))))))))))) (by kernel_rfl)
   conv=>whnf
   refine Fn.cl hnc ?_
   conv=>whnf
   try (refine And.intro (by first | omega | (simp;done)) ?_;conv=>whnf)
   try (refine And.intro ⟨rfl,by first | rfl | (simp;done) | (simp;omega),by first | omega | (simp;omega)⟩ ?_;conv=>whnf)
   (first | rw [hE] | skip)
   conv=>whnf
   exact⟨k+1,by omega,by omega,WkN.r (s:= [0,1,2,3,4]) ⟨⟨rfl,rfl,rfl,rfl,rfl,rfl,AA (by omega),trivial⟩,⟨rfl,rfl,rfl,rfl,congrArg (fun l=>some (AB.row _ _ l)) (by rw [hsx,Fa];rfl),trivial⟩,rfl,rfl,rfl,rfl,rfl⟩⟩
  ·have ek:k=(Au g (A5 g s)).length:=by rw [Dw];omega
   rw [ek,List.take_length]
   refine aLoop.ruleRR Nat (fun c=>([(2, .bp 0 0),(4, .bp 1 0),(5,ze 0),(6, .bp 2 0),(10, .bp 3 0),(74,ze c)], [.box 23 (A7 g), .box 32 [nilV,nilV,ze 0,ze 0], .box 40 (CE (A5 g s)), .box 32 [.ow 4 (A0 g).toNat,nilV,ze 0,ze (-1)], .row 87 3 ((IY g s c).map Bi)])) (fun c=>c<=2) (fun c=>2 - c) 0 (Ag _)
    (WkN.r (s:= [0,1,2,3,4]) ⟨⟨rfl,rfl,rfl,rfl,rfl,rfl,trivial⟩,⟨rfl,rfl,rfl,rfl,rfl,trivial⟩,rfl,rfl,rfl,rfl,rfl⟩) ?_
   intro c hc
   conv=>whnf
   refine Al (fun h7=>?_) (fun h7=>?_) <;> (repeat rw [Aa] at h7) <;> conv=>whnf
   ·have hc01:(c:Int)=0\/(c:Int)=1:=by omega
    repeat' (first | (refine aSeq.go ?_;conv=>whnf) | fail)
    refine aLoop.ruleRR Nat (fun i=>([(2, .bp 0 0),(4, .bp 1 0),(5,ze 0),(6, .bp 2 0),(10, .bp 3 0),(15,ze c),(74,ze c),(78,ze g.sl),(79,ze i)], [.box 23 (A7 g), .box 32 [nilV,nilV,ze 0,ze 0], .box 40 (CE (A5 g s)), .box 32 [.ow 4 (A0 g).toNat,nilV,ze 0,ze (-1)], .row 87 3 ((Cr (IY g s c) ((E7 g c).take i)).map Bi)])) (fun i=>i<=g.sl.toNat) (fun i=>g.sl.toNat - i) 0 (Ag _)
     (WkN.r (s:= [0,1,2,3,4]) ⟨⟨rfl,rfl,rfl,rfl,rfl,rfl,rfl,rfl,rfl,trivial⟩,⟨rfl,rfl,rfl,rfl,rfl,trivial⟩,rfl,rfl,rfl,rfl,rfl⟩) ?_
    intro i hi
    conv=>whnf
    refine Al (fun h8=>?_) (fun h8=>?_) <;> (repeat rw [Aa] at h8) <;> conv=>whnf
    ·have hlw:(E7 g c).length=g.sl.toNat:=by simp [E7]
     have hi':i<(E7 g c).length:=by omega
     have hsx:=Es (IY g s c) hi'
     rw [show (E7 g c).getD i ⟨0, []⟩=⟨AN g c (i:Nat),C6 g zeroC c (i:Nat)⟩ from Fp (by omega)] at hsx
     have hlx:(Cr (IY g s c) ((E7 g c).take i)).length=(A0 g).toNat:=by rw [CM,IX]
     generalize Cr (IY g s c) ((E7 g c).take i)=cs at hsx hlx |-
     have hla:=PY g c i hg hc01 (by omega)
     have hin:=Gc (n:=(A0 g).toNat) hg hcN.symm hc01 (s:=i) (by omega)
     have hrc:=Ot g zeroC c i (by decide)
     rw [Mf hg,show Gh g c i=true by simp only [Gh,Bool.and_eq_true,AI];omega] at hrc
     have hE:(cs.map Bi).getD (AN g c i).toNat []=Bi (cs.getD (AN g c i).toNat cz):=FM hlx (by omega)
     repeat' (first | (refine aSeq.go ?_;conv=>whnf) | fail)
     refine Fn.cl hla ?_
     conv=>whnf
     apply aDraw.treeK (0) tys_ok mixed (.one 0 (.one 1 (.one 2 (.one 3 (.one 4 (.one 5 (.one 6 (.one 7 (.one 8 (.one 9 (.one 10 (.one 11 (.one 12 (.one 13 .fin)))))))))))))) (by kernel_rfl)
     conv=>whnf
     (refine ACalls.sub [.ag (A7 g), .ag (EE zeroC),ze c,ze i] (by repeat' (first | exact trivial | exact fun _ _ h=>h | exact AP _ _ | refine And.intro ?_ ?_ | refine AG ?_)) ?_;refine Fn.cl hrc ?_)
     conv=>whnf
     try (refine And.intro (by first | omega | (simp;done)) ?_;conv=>whnf)
     try (refine And.intro ⟨rfl,by first | rfl | (simp;done) | (simp;omega),by first | omega | (simp;omega)⟩ ?_;conv=>whnf)
     (first | rw [hE] | skip)
     conv=>whnf
     exact⟨i+1,by omega,by omega,WkN.r (s:= [0,1,2,3,4]) ⟨⟨rfl,rfl,rfl,rfl,rfl,rfl,rfl,rfl,AA (by omega),trivial⟩,⟨rfl,rfl,rfl,rfl,congrArg (fun l=>some (AB.row _ _ l)) (by rw [hsx,Fa];rfl),trivial⟩,rfl,rfl,rfl,rfl,rfl⟩⟩
    ·have ei:i=(E7 g c).length:=by simp [E7];omega
     repeat' (first | (refine aSeq.go ?_;conv=>whnf) | fail)
     exact⟨c+1,by omega,by omega,WkN.r (s:= [0,1,2,3,4]) ⟨⟨rfl,rfl,rfl,rfl,rfl,AA (by omega),trivial⟩,⟨rfl,rfl,rfl,rfl,by rw [ei,List.take_length];rfl,trivial⟩,rfl,rfl,rfl,rfl,rfl⟩⟩
   ·have ec:c=2:=by omega
    subst ec
    have hT:=Rr g hg
    have hB:=LL g (DF g) (by rw [DF,Bm];omega)
    rw [UV hg] at hB
    refine Fn.cl hT ?_
    conv=>whnf
    refine Fn.cl hB ?_
    conv=>whnf
    refine aLoop.ruleRR Nat (fun z=>([(2, .bp 0 0),(4, .bp 1 0),(5,ze 0),(6, .bp 2 0),(10, .bp 3 0),(21,bA (CT (DF g))),(116,ze g.z),(117,ze z)], [.box 23 (A7 g), .box 32 [nilV,nilV,ze 0,ze 0], .box 40 (CE (A5 g s)), .box 32 [.ow 4 (A0 g).toNat,nilV,ze 0,ze (-1)], .row 87 3 ((E2 g s z).map Bi)])) (fun z=>z<=g.z.toNat) (fun z=>g.z.toNat - z) 0 (Ag _)
     (WkN.r (s:= [0,1,2,3,4]) ⟨⟨rfl,rfl,rfl,rfl,rfl,rfl,rfl,rfl,trivial⟩,⟨rfl,rfl,rfl,rfl,rfl,trivial⟩,rfl,rfl,rfl,rfl,rfl⟩) ?_
    intro z hz
    conv=>whnf
    refine Al (fun h9=>?_) (fun h9=>?_) <;> (repeat rw [Aa] at h9) <;> conv=>whnf
    ·have htb:∀ k:Nat,k<2->0<=CC g z k/\CC g z k<((A0 g).toNat:Int):=fun k hk=>by unfold CC;omega
     have hmul:(z:Int)*Cs g<=(g.z - 1)*Cs g:=Int.mul_le_mul_of_nonneg_right (by omega) (by omega)
     have hz0:0<=(z:Int)*Cs g:=CP (by omega) (by omega)
     have hsb:∀ k:Nat,(k:Int)<Cs g->0<=BI g z k/\BI g z k<((A0 g).toNat:Int):=fun k hk=>by
      rw [<-hcN];unfold BI A0;rw [Int.sub_mul,Int.one_mul] at hmul;omega
     repeat' (first | (refine aSeq.go ?_;conv=>whnf) | fail)
     refine aLoop.ruleRR Nat (fun k=>([(2, .bp 0 0),(4, .bp 1 0),(5,ze 0),(6, .bp 2 0),(10, .bp 3 0),(21,bA (CT (DF g))),(23,ze z),(116,ze g.z),(117,ze z),(120,ze k)], [.box 23 (A7 g), .box 32 [nilV,nilV,ze 0,ze 0], .box 40 (CE (A5 g s)), .box 32 [.ow 4 (A0 g).toNat,nilV,ze 0,ze (-1)], .row 87 3 ((Cr (E2 g s z) ((Ew g z).take k)).map Bi)])) (fun k=>k<=2) (fun k=>2 - k) 0 (Ag _)
      (WkN.r (s:= [0,1,2,3,4]) ⟨⟨rfl,rfl,rfl,rfl,rfl,rfl,rfl,rfl,rfl,rfl,trivial⟩,⟨rfl,rfl,rfl,rfl,rfl,trivial⟩,rfl,rfl,rfl,rfl,rfl⟩) ?_
     intro k hk
     conv=>whnf
     refine Al (fun h10=>?_) (fun h10=>?_) <;> (repeat rw [Aa] at h10) <;> conv=>whnf
     ·have hlw:(Ew g z).length=2:=by simp [Ew]
      have hk':k<(Ew g z).length:=by omega
      have hsx:=Es (E2 g s z) hk'
      rw [show (Ew g z).getD k ⟨0, []⟩=⟨CC g z (k:Nat),CD (CC g z (k:Nat)) 0 (CT (DF g))⟩ from Fp (by omega)] at hsx
      have hlx:(Cr (E2 g s z) ((Ew g z).take k)).length=(A0 g).toNat:=by rw [CM,Ec]
      generalize Cr (E2 g s z) ((Ew g z).take k)=cs at hsx hlx |-
      have hgt:=Sp g z k hg (by omega) (by omega)
      have hin:=htb k (by omega)
      have hmk:=Iz (CC g z k) 0 (CT (DF g)) (Kx hg (by omega))
      have hE:(cs.map Bi).getD (CC g z k).toNat []=Bi (cs.getD (CC g z k).toNat cz):=FM hlx (by omega)
      repeat' (first | (refine aSeq.go ?_;conv=>whnf) | fail)
      refine Fn.cl hgt ?_
      conv=>whnf
      apply aDraw.treeK (0) tys_ok mixed (.one 0 (.one 1 (.one 2 (.one 3 (.one 4 (.one 5 (.one 6 (.one 7 (.one 8 (.one 9 (.one 10 (.one 11 (.one 12 .fin))))))))))))) (by kernel_rfl)
      conv=>whnf
      refine Fn.cl hmk ?_
      conv=>whnf
      try (refine And.intro (by first | omega | (simp;done)) ?_;conv=>whnf)
      try (refine And.intro ⟨rfl,by first | rfl | (simp;done) | (simp;omega),by first | omega | (simp;omega)⟩ ?_;conv=>whnf)
      (first | rw [hE] | skip)
      conv=>whnf
      exact⟨k+1,by omega,by omega,WkN.r (s:= [0,1,2,3,4]) ⟨⟨rfl,rfl,rfl,rfl,rfl,rfl,rfl,rfl,rfl,AA (by omega),trivial⟩,⟨rfl,rfl,rfl,rfl,congrArg (fun l=>some (AB.row _ _ l)) (by rw [hsx,Fa];rfl),trivial⟩,rfl,rfl,rfl,rfl,rfl⟩⟩
     ·have ek:k=(Ew g z).length:=by simp [Ew];omega
      rw [ek,List.take_length]
      have hpr:=Hx g hg
      repeat' (first | (refine aSeq.go ?_;conv=>whnf) | fail)
      refine Fn.cl hpr ?_
      conv=>whnf
      refine aLoop.ruleRR Nat (fun i=>([(2, .bp 0 0),(4, .bp 1 0),(5,ze 0),(6, .bp 2 0),(10, .bp 3 0),(21,bA (CT (DF g))),(23,ze z),(116,ze g.z),(117,ze z),(144,ze (Cs g)),(145,ze i)], [.box 23 (A7 g), .box 32 [nilV,nilV,ze 0,ze 0], .box 40 (CE (A5 g s)), .box 32 [.ow 4 (A0 g).toNat,nilV,ze 0,ze (-1)], .row 87 3 ((Cr (Cr (E2 g s z) (Ew g z)) ((D_ g z).take i)).map Bi)])) (fun i=>i<=(Cs g).toNat) (fun i=>(Cs g).toNat - i) 0 (Ag _)
       (WkN.r (s:= [0,1,2,3,4]) ⟨⟨rfl,rfl,rfl,rfl,rfl,rfl,rfl,rfl,rfl,rfl,rfl,trivial⟩,⟨rfl,rfl,rfl,rfl,rfl,trivial⟩,rfl,rfl,rfl,rfl,rfl⟩) ?_
      intro i hi
      conv=>whnf
      refine Al (fun h11=>?_) (fun h11=>?_) <;> (repeat rw [Aa] at h11) <;> conv=>whnf
      ·have hlw:(D_ g z).length=(Cs g).toNat:=by simp [D_]
       have hi':i<(D_ g z).length:=by omega
       have hsx:=Es (Cr (E2 g s z) (Ew g z)) hi'
       rw [show (D_ g z).getD i ⟨0, []⟩=⟨BI g z (i:Nat),CD (BI g z (i:Nat)) 0 zero8⟩ from Fp (by omega)] at hsx
       have hlx:(Cr (Cr (E2 g s z) (Ew g z)) ((D_ g z).take i)).length=(A0 g).toNat:=by rw [CM,CM,Ec]
       generalize Cr (Cr (E2 g s z) (Ew g z)) ((D_ g z).take i)=cs at hsx hlx |-
       have hgt:=Ud g z i hg (by omega) (by omega)
       have hin:=hsb i (by omega)
       have hmk:=Iz (BI g z i) 0 zero8 ⟨hin.1,by omega,Br _,by decide,by decide⟩
       have hE:(cs.map Bi).getD (BI g z i).toNat []=Bi (cs.getD (BI g z i).toNat cz):=FM hlx (by omega)
       repeat' (first | (refine aSeq.go ?_;conv=>whnf) | fail)
       refine Fn.cl hgt ?_
       conv=>whnf
       apply aDraw.treeK (0) tys_ok mixed (.one 0 (.one 1 (.one 2 (.one 3 (.one 4 (.one 5 (.one 6 (.one 7 (.one 8 (.one 9 (.one 10 (.one 11 (.one 12 .fin))))))))))))) (by kernel_rfl)
       conv=>whnf
       (try (refine And.intro ⟨rfl,by decide,by decide⟩ ?_;conv=>whnf);refine ACalls.shut hmk.go ?_;(conv=>whnf);refine And.intro rfl ?_;(conv=>whnf);refine ACalls.sub [.ag [ze (BI g z i),ze 0,bA zero8]] ⟨AG ⟨ri,ri,fun c v h=>Rd.congr rfl (fun i hi=>by have hi':i<8:=hi;rw [FA (by exact hi'),Jg hi'];rfl) h,trivial⟩,trivial⟩ ?_;refine Fn.cl hmk ?_)
       conv=>whnf
       try (refine And.intro (by first | omega | (simp;done)) ?_;conv=>whnf)
       try (refine And.intro ⟨rfl,by first | rfl | (simp;done) | (simp;omega),by first | omega | (simp;omega)⟩ ?_;conv=>whnf)
       (first | rw [hE] | skip)
       conv=>whnf
       all_goals exact⟨i+1,by omega,by omega,WkN.r (s:= [0,1,2,3,4]) ⟨⟨rfl,rfl,rfl,rfl,rfl,rfl,rfl,rfl,rfl,rfl,AA (by omega),trivial⟩,⟨rfl,rfl,rfl,rfl,congrArg (fun l=>some (AB.row _ _ l)) (by rw [hsx,Fa];rfl),trivial⟩,rfl,rfl,rfl,rfl,rfl⟩⟩
      ·have ei:i=(D_ g z).length:=by simp [D_];omega
       repeat' (first | (refine aSeq.go ?_;conv=>whnf) | fail)
       exact⟨z+1,by omega,by omega,WkN.r (s:= [0,1,2,3,4]) ⟨⟨rfl,rfl,rfl,rfl,rfl,rfl,rfl,AA (by omega),trivial⟩,⟨rfl,rfl,rfl,rfl,by rw [ei,List.take_length];rfl,trivial⟩,rfl,rfl,rfl,rfl,rfl⟩⟩
    ·have ez:z=g.z.toNat:=by omega
     subst ez
     refine⟨(by rw [Ab,Ec]),?_⟩
     exact⟨.tp [.ag (DG (FG g s)), .v (.int .i64 0)],Bu ⟨AG ⟨AJ (f:=Bi) (E2 g s g.z.toNat) (by rw [Ec]) rfl,AP 2 _,ri,ri,trivial⟩,ri,trivial⟩,rfl⟩
def L6 (g:Geo) (s:ByteArray) (L:List Tx) (b:An) (a:Int):List UInt8:=if a<g.an then Cw b a else OG g s L 0 a
section
variable {g:Geo} {s:ByteArray} {a b:An} {fill:UInt8} {sizes:List Int} {d:Dk}
theorem Qd {F:Int->List UInt8} {n:Int} (h:Holds d n F) (l:List Int) (hl:∀ x∈l,0<=x/\x<n):AF d l=l.map fun x=>⟨0,F x⟩:=by
 unfold AF
 refine BQ fun x hx=>?_
 exact h.got (hl x hx).1 (hl x hx).2
theorem RV (hg:AS g=true) {c:Int} (hc:c=0\/c=1):∀ x∈AL g c,0<=x/\x<A0 g:=fun x hx=>by
 obtain⟨g1,g2,g3,g4,g5⟩:=Am.1 hg
 have hcg:=Dt hg
 simp only [AL,AH,AC] at hx
 obtain⟨i,hi,rfl⟩:=hx
 have:=IG (g:=g) hc (s:=(i:Nat)) (by omega)
 omega
theorem Qx (hg:AS g=true) (L:List Tx) {c:Int} (hc:c=0\/c=1) (h:Holds d (A0 g) (L6 g s L b)):AF d (AL g c)=FW g L 0 c g.sl.toNat:=by
 rw [Qd h _ (RV hg hc)]
 unfold AL FW
 rw [Dg]
 refine BQ fun i hi=>?_
 have hi:=AC.1 hi
 have hb:=IG (g:=g) hc (s:=(i:Nat)) (by omega)
 show (⟨0,L6 g s L b (AN g c i)⟩:Gt)=_
 unfold L6
 rw [if_neg (by omega),Ns hc (by omega)]
theorem Wu (hg:AS g=true) {L:List Tx} (hb:AY g b=true) (h:Holds d (A0 g) (L6 g s L b)):En g (AF d (BE g))=some (b,(XB (En g (AF d (BE g))))):=by
 obtain⟨g1,g2,g3,g4,g5⟩:=Am.1 hg
 have hcg:=Dt hg
 have hsp:=KL g (AF d (BE g)) (AF d (BE g)).length
 rw [BY,CI] at hsp
 have hsay:∀ i,i<g.an.toNat->C3 g ((AF d (BE g)).getD i ⟨0, []⟩) (i:Nat)=some b:=fun i hi=>by
  rw [Qt hi,h.got (by omega) (by omega)]
  unfold L6
  rw [if_pos (by omega)]
  exact P9 hg hb (by omega)
 have hpk:En g (AF d (BE g))=Du g (AF d (BE g)) g.an.toNat:=by rw [En,BY,CI]
 rw [hpk]
 cases hP:Du g (AF d (BE g)) g.an.toNat with
 | none=>
  have:=hsp.1 hP 0 (by omega)
  rw [hsay 0 (by omega)] at this
  cases this
 | some q=>
  obtain⟨a0,j⟩:=q
  obtain⟨q1,q2,q3⟩:=hsp.2 a0 j hP
  rw [hsay j q1] at q2
  cases q2
  rfl
theorem Sk {F:Int->List UInt8} (hg:AS g=true) {c:An} (h:Holds d (A0 g) F) {r:Int} {l:Int}:Holds ⟨DY d.cells (Au g c), [],r,l⟩ (A0 g) (fun x=>if x<g.an then Cw c x else F x):=by
 obtain⟨g1,g2,g3,g4,g5⟩:=Am.1 hg
 have hcg:=Dt hg
 refine⟨by rw [<-h.len];show ((DY d.cells _).length:Int)=_;rw [finL_len],rfl,fun x h0 h1=>?_⟩
 obtain⟨e1,e2⟩:=h.cell x h0 h1
 have hlt:x.toNat<d.cells.length:=by have:=h.len;omega
 show ((DY d.cells _).getD x.toNat cz).state=0/\((DY d.cells _).getD x.toNat cz).bytes=_
 have hmem:∀ w∈Au g c,∃ i:Nat,i<g.an.toNat/\w=⟨(i:Nat),Cw c (i:Nat)⟩:=fun w hw=>by
  simp only [Au,AH,AC] at hw
  obtain⟨i,hi,rfl⟩:=hw
  exact⟨i,hi,rfl⟩
 by_cases hx:x<g.an
 ·rw [if_pos hx]
  refine Lo _ _ _ hlt (by rw [e1];decide) (fun w hw hwa=>?_) (.inl ⟨⟨x,Cw c x⟩,?_,rfl⟩)
  ·obtain⟨i,hi,rfl⟩:=hmem w hw
   have:((i:Nat):Int).toNat=x.toNat:=hwa
   show Cw c (i:Nat)=_
   congr 1;omega
  ·simp only [Au,AH,AC]
   exact⟨x.toNat,by omega,by rw [B9 h0]⟩
 ·rw [if_neg hx,finL_miss _ _ _ hlt (fun w hw e=>?_)]
  ·exact⟨e1,e2⟩
  ·obtain⟨i,hi,rfl⟩:=hmem w hw
   have:((i:Nat):Int).toNat=x.toNat:=e
   omega
theorem Uj {n:Int} {F:Int->List UInt8} (h:Holds d n F) (l:List Wr) (hl:∀ w∈l,0<=w.addr/\w.addr<n):l.filter (free d.cells)=l:=by
 rw [List.filter_eq_self]
 intro w hw
 unfold free
 rw [(h.cell w.addr (hl w hw).1 (hl w hw).2).1]
 rfl
theorem Rj (hg:AS g=true) (hs:C5 s.data.toList=0) (hl:sizes.length<=40) (hd:DkOk d) (hb:AY g b=true) (h:Holds d (A0 g) (L6 g s (A8 g (A5 g s) fill sizes 0 (A5 g s).pos 0) b)) (hlf:d.left<0) (hbs:b.seq=1) (hbp:b.pos=0) (hbe:0<=b.epoch) (hlast:b.last<=(A8 g (A5 g s) fill sizes 0 (A5 g s).pos 0).length) (he:b.epoch=0\/b.last=(A8 g (A5 g s) fill sizes 0 (A5 g s).pos 0).length) (h1:b.gen≠4294967295) (h2:b.epoch≠4294967295) :
  ∃ D,BK g d=(D,0,GD (CK b (A8 g (A5 g s) fill sizes 0 (A5 g s).pos 0).length) (A8 g (A5 g s) fill sizes 0 (A5 g s).pos 0))/\Holds D (A0 g) (L6 g s (A8 g (A5 g s) fill sizes 0 (A5 g s).pos 0) (CK b (A8 g (A5 g s) fill sizes 0 (A5 g s).pos 0).length))/\D.left=d.left/\D.reqs=(d.tick (KR g [])).reqs:=by
 obtain⟨g1,g2,g3,g4,g5⟩:=Am.1 hg
 have hcg:=Dt hg
 have hao:=Et hg hs
 have hok:=QS (g:=g) (a:=A5 g s) (fill:=fill) (sizes:=sizes) (epoch:=0) hg hao (by show (1:Int)<=1000000;decide) (by decide)
 have hsc:=P3 (g:=g) (a:=A5 g s) (b:=b) (fill:=fill) (sizes:=sizes) (ep:=0) (bad0:=fun _=>false) (bad1:=fun _=>false) hg hao (by show (1:Int)<=1000000;decide) hl hbs hbp (fun _=>rfl) (fun j hj=>by
  rcases he with he | he
  ·exact .inl he.symm
  ·exact .inr ⟨by show (1:Int)+j<=_;omega,hbe⟩)
 rw [Ro _ _ _ (b0:=fun _=>!false) (b1:=fun _=>!false) (fun _=>rfl) (fun _=>rfl),DO (by show ¬(1:Int)+_ - 1<b.last;omega)] at hsc
 have hv0:=Qx (c:=0) hg _ (.inl rfl) h
 have hv1:=Qx (c:=1) hg _ (.inr rfl) h
 have hs2:CY g b (AF d (AL g 0)) (AF d (AL g 1))=(A8 g (A5 g s) fill sizes 0 (A5 g s).pos 0, [],0):=by
  rw [MM,hv0,hv1,Q7 hg hok (.inl rfl),Q7 hg hok (.inr rfl)]
  exact hsc
 have hm:=O9 hg hd h.len h.cache hlf (Wu hg hb h) hs2 h1 h2
 have hna:=Dw g (CK b (A8 g (A5 g s) fill sizes 0 (A5 g s).pos 0).length)
 rw [Uj h _ (fun w hw=>by
  simp only [Au,AH,AC] at hw
  obtain⟨i,hi,rfl⟩:=hw
  exact⟨by show (0:Int)<=(i:Nat);omega,by show ((i:Nat):Int)<_;omega⟩),if_neg (by omega),if_neg (by omega)] at hm
 refine⟨_,hm,?_,rfl,rfl⟩
 have hf:=Sk (r:=(d.tick (KR g [])).reqs) (l:=d.left) hg (c:=CK b (A8 g (A5 g s) fill sizes 0 (A5 g s).pos 0).length) h
 refine⟨hf.len,hf.cache,fun x h0 h1=>?_⟩
 obtain⟨q1,q2⟩:=hf.cell x h0 h1
 refine⟨q1,q2.trans ?_⟩
 unfold L6
 by_cases hx:x<g.an
 ·simp only [if_pos hx]
 ·simp only [if_neg hx]
theorem Rk (hg:AS g=true) (hs:C5 s.data.toList=0):Holds (OI g s (A8 g (A5 g s) fill sizes 0 (A5 g s).pos 0)) (A0 g) (L6 g s (A8 g (A5 g s) fill sizes 0 (A5 g s).pos 0) (A5 g s)):=by
 obtain⟨g1,g2,g3,g4,g5⟩:=Am.1 hg
 have h:=KV (s:=s) (fill:=fill) (sizes:=sizes) hg (Et hg hs)
 refine⟨h.len,h.cache,fun x h0 h1=>?_⟩
 obtain⟨q1,q2⟩:=h.cell x h0 h1
 refine⟨q1,q2.trans ?_⟩
 unfold L6
 by_cases hx:x<g.an
 ·rw [if_pos hx,KX (.inl hx) (by omega),Q_ hx]
 ·rw [if_neg hx]
theorem Pg (hg:AS g=true) (hs:C5 s.data.toList=0) {F:Int->List UInt8} (hF:F=OG g s (A8 g (A5 g s) fill sizes 0 (A5 g s).pos 0) 0) {x:Int} (h0:0<=x) (h1:x<A0 g):(F x).length<=200:=by
 obtain⟨g1,g2,g3,g4,g5⟩:=Am.1 hg
 have hao:=Et hg hs
 have hok:=QS (g:=g) (a:=A5 g s) (fill:=fill) (sizes:=sizes) (epoch:=0) hg hao (by show (1:Int)<=1000000;decide) (by decide)
 subst hF
 by_cases hx:g.an<=x/\x<g.an+2*g.sl
 ·obtain⟨c,i,hc,hi,rfl⟩:=Mq hx.1 hx.2
  rw [Ns hc hi]
  exact Jb (hok.ok i hi) c i
 ·rw [KX (by omega) (by omega)]
  unfold IW
  split
  ·exact NB hg hao x
  ·rw [if_neg (by omega),if_neg (by omega)]
   split
   ·rw [Fo]
    have:=(Kx (g:=g) (a:=x) hg (by omega)).2.2.2.2
    omega
   ·rw [Fo];decide
theorem QQ (hg:AS g=true) (hs:C5 s.data.toList=0):DkOk (OI g s (A8 g (A5 g s) fill sizes 0 (A5 g s).pos 0)):=by
 obtain⟨g1,g2,g3,g4,g5⟩:=Am.1 hg
 have hao:=Et hg hs
 have hcg:=Dt hg
 have hp:=GP hg
 have h:=KV (s:=s) (fill:=fill) (sizes:=sizes) hg hao
 have hlen:=h.len
 have hN:g.z*Cs g<=4*7:=CQ (by omega) (by omega) (by omega) (by omega)
 refine⟨?_,by rw [h.cache];simp,by show (0:Int)<=0/\(0:Int)<=_;decide,by show (-1:Int)<= -1/\(-1:Int)<=_;decide,fun c hc=>?_,fun w hw=>by rw [h.cache] at hw;cases hw⟩
 ·unfold A0 at hcg hlen;omega
 ·obtain⟨i,hi,rfl⟩:=Do hc
  have hci:=Mp (s:=s) (fill:=fill) (sizes:=sizes) hg hao (x:=(i:Nat)) (by omega) (by omega)
  have e:(OI g s (A8 g (A5 g s) fill sizes 0 (A5 g s).pos 0)).cells.getD ((i:Nat):Int).toNat cz=(OI g s (A8 g (A5 g s) fill sizes 0 (A5 g s).pos 0)).cells[i]:=by
   rw [Aa,List.getD_eq_getElem?_getD,List.getElem?_eq_getElem hi];rfl
  rw [e] at hci
  rw [hci]
  exact⟨⟨Br _,by show (0:Int)<=2;decide⟩,Pg hg hs rfl (by omega) (by omega),by simp⟩
end
theorem ConvF.cap {fr:Fr} {H H':List AB} (i k:Nat) {y:AV} (hx:fget fr i = .bp k 0) (h:capK [.bp k 0] H fun l H2=>l=[y]/\H2=H'):ConvF fr H ((i,y)::fr) H':=fun _ _ c _ a hs hf=>by
 have hr:RdL [.bp k 0] c [a.tmps.getD i undef]:=by
  simp only [RdL]
  exact⟨_,_,rfl,hx ▸ hf.get i,rfl⟩
 obtain⟨l',H1,c1,⟨rfl,rfl⟩,e1,s1,x1,r⟩:=capK_sound hs hr h
 simp only [RdL] at r
 obtain⟨u,us,e,r1,rfl⟩:=r
 injection e with e _
 subst e
 exact⟨c1,e1,s1,(hf.ext x1).cons i _ r1,x1⟩
def Ef (g:Geo):List Tx->Int->Int->Int->Bool
 | [],_,_,_=>true
 | t::r,seq,pos,left=>(decide (t.seq=seq)&&(decide (t.seq<=4294967295)&&(decide (t.pos=pos)&&(decide (2<=t.n)&&(decide (t.n<=left)&&(decide (t.n=t.images.length+1)&&t.images.all (B_ g)))))))&&Ef g r (seq+1) ((pos+t.n).tmod g.sl) (left - t.n)
theorem Tv (g:Geo) (x:Img) (hx:x.bytes.length<=100000):Fn Tryz.prog 124 [.ag (D4 x), .rp (A7 g)] fun r=>r = .v (.bool (!B_ g x)):=by
 have h:=Mu g x hx
 refine Fn.st Tryz.func124 rfl ?_
 conv=>whnf
 refine Fn.cl h ?_
 conv=>whnf
 cases B_ g x with
 | true=>exact⟨_,ri,rfl⟩
 | false=>exact⟨_,ri,rfl⟩
theorem W8 (l:List Img) (g:Geo) (hb:∀ x∈l,x.bytes.length<=100000) (hl:l.length<=1000000):Fn Tryz.prog 178 [Ff l, .fn 124 [.rp (A7 g)]] fun r=>r = .v (.int .i64 (UM (fun x=>!B_ g x) l)):=by
 refine Fn.st Tryz.func178 rfl ?_
 conv=>whnf
 refine aLoop.rule Nat (fun k=>([(0,Ff l),(1, .fn 124 [.rp (A7 g)]),(7, .v (.int .i64 l.length)),(8, .v (.int .i64 k))], [])) (fun k=>k<=l.length/\(l.take k).any (fun x=>!B_ g x)=false) (fun k=>l.length - k) 0 ⟨Ag _,by simp⟩ ⟨[],trivial,⟨rfl,rfl,rfl,rfl,trivial⟩,trivial,rfl,rfl,rfl⟩ ?_
 rintro k ⟨hk,hI⟩
 conv=>whnf
 refine Af (fun h2=>?_) (fun h2=>?_) <;> simp at h2 <;> conv=>whnf
 ·refine⟨by first | omega | (refine⟨rfl,?_,?_⟩ <;> first | omega | (simp only [Ab];done) | (simp only [Ab];omega)) | (simp only [Ab];omega),?_⟩
  conv=>whnf
  refine Fn.closed (Tv g (l.getD k ⟨0,0, []⟩) (hb _ (AE h2))) rfl ?_
  rintro _ rfl
  conv=>whnf
  refine Af (fun h3=>?_) (fun h3=>?_) <;> conv=>whnf
  ·exact⟨_,ri,by rw [Kp (d:=⟨0,0, []⟩) h2 hI (by first | exact h3 | (rw [Aa] at h3;exact h3) | simpa using h3)]⟩
  ·refine⟨k+1,⟨by omega,EV (d:=⟨0,0, []⟩) h2 hI (by first | exact h3 | (rw [Aa] at h3;exact h3) | simpa using h3)⟩,by omega, [],trivial,⟨rfl,rfl,rfl,AA (by omega),trivial⟩,trivial,rfl,rfl,rfl⟩
 ·exact⟨_,ri,by rw [List.take_of_length_le h2] at hI;rw [IK hI]⟩
theorem W9 (l:List Img) (g:Geo) (hb:∀ x∈l,x.bytes.length<=100000) (hl:l.length<=1000000):Fn Tryz.prog 126 [Ff l, .fn 124 [.rp (A7 g)]] fun r=>r = .v (.bool (l.any (fun x=>!B_ g x))):=by
 refine Fn.st Tryz.func126 rfl ?_
 conv=>whnf
 refine Fn.cl (W8 l g hb hl) ?_
 exact⟨_,ri,by rw [Nv]⟩

theorem MU (g:Geo) (a:An) (l:List Tx) (hl:a.label.size<=1000000) (hh:a.homes.length<=1000000) (hn:l.length<=1000000) (hi:∀ t∈l,t.images.length<=1000000/\∀ x∈t.images,x.bytes.length<=100000):Fn Tryz.prog 58 [.ag (A7 g), .ag (CE a),DS l] fun r=>r = .v (Ed ((AS g&&AY g a)&&Ef g l a.seq a.pos g.sl)):=by
 have hA:=Fs g a hl hh
 cases hga:AS g&&AY g a with
 | false=>
  rw [hga] at hA
  rw [Bd]
  refine Fn.st Tryz.func58 rfl ?_
  conv=>whnf
  refine Fn.cl hA ?_
  exact⟨_,ri,rfl⟩
 | true=>
  rw [hga] at hA
  rw [At]
  obtain⟨hg,ha⟩:=Di.1 hga
  obtain⟨g1,g2,g3,g4,g5⟩:=Am.1 hg
  have hp:=Ej ha
  refine Fn.st Tryz.func58 rfl ?_
  conv=>whnf
  refine Fn.cl hA ?_
  conv=>whnf
  refine aDraw.seq tys_ok mixed (by kernel_rfl) ?_
  conv=>whnf
  refine aLoop.ruleRR (Nat × Int × Int × Int) (fun x=>([(2,DS l),(3, .rp (A7 g)),(8, .v (.int .i64 x.2.1)),(9, .v (.int .i64 x.2.2.1)),(10, .v (.int .i64 x.2.2.2)),(26,DS l),(27, .v (.int .i64 l.length)),(28, .v (.int .i64 x.1))], []))
   (fun x=>x.1<=l.length/\(0<=x.2.1/\x.2.1<g.sl)/\(0<=x.2.2.1/\x.2.2.1<=4294967296)/\(0<=x.2.2.2/\x.2.2.2<=30)/\Ef g l a.seq a.pos g.sl=Ef g (l.drop x.1) x.2.2.1 x.2.1 x.2.2.2) (fun x=>l.length - x.1) (0,a.pos,a.seq,g.sl) ⟨Ag _,by show 0<=a.pos/\a.pos<g.sl;omega,by show 0<=a.seq/\a.seq<=4294967296;omega,by show 0<=g.sl/\g.sl<=30;omega,rfl⟩
   ?_ ?_
  ·exact WkN.rc (ConvF.cap 3 0 (y:= .rp (A7 g)) rfl (by (conv=>whnf);exact⟨rfl,rfl⟩)) (s:= []) ⟨⟨rfl,rfl,rfl,rfl,rfl,rfl,rfl,rfl,trivial⟩,trivial,rfl,rfl,rfl,rfl,rfl⟩
  rintro⟨k,pos,seq,left⟩ ⟨hk,b1,b2,b3,hI⟩
  simp only at hk b1 b2 b3 hI |-
  conv=>whnf
  refine Al (fun h6=>?_) (fun h6=>?_) <;> (repeat rw [Aa] at h6) <;> conv=>whnf
  ·have hk':k<l.length:=by omega
   have hm:=hi _ (AE (d:=(⟨0,0,0, []⟩:Tx)) hk')
   have hdr:l.drop k=l.getD k ⟨0,0,0, []⟩::l.drop (k+1):=by
    rw [List.getD_eq_getElem?_getD,List.getElem?_eq_getElem hk'];exact AM hk'
   rw [hdr,Ef] at hI
   repeat' (first | (refine aSeq.go ?_;conv=>whnf) | fail)
   refine⟨⟨by omega,by omega⟩,?_⟩
   conv=>whnf
   rw [Aa]
   generalize l.getD k ⟨0,0,0, []⟩=t at hm hI |-
   have hcf:=W9 t.images g hm.2 hm.1
   rw [show (t.images.any fun x=>!B_ g x) = !t.images.all (B_ g) by rw [BC,Bool.not_not]] at hcf
   have wn:IntKind.i64.wrap ((t.images.length:Int)+1)=t.images.length+1:=wi (by omega)
   generalize hAll:t.images.all (B_ g)=Q at hcf hI
   generalize hC:(decide (t.seq=seq)&&(decide (t.seq<=4294967295)&&(decide (t.pos=pos)&&(decide (2<=t.n)&&(decide (t.n<=left)&&(decide (t.n=t.images.length+1)&&Q))))))=C at hI
   clear hAll hm hi hdr hA
   conv=>whnf
   repeat' (first | (refine aSeq.go ?_;conv=>whnf) | fail)
   repeat' (first | (refine Af (fun h=>?_) (fun h=>?_) <;> (try simp at h) <;> conv=>whnf) | (refine aSeq.go ?_;conv=>whnf) | (refine Fn.cl hcf ?_;conv=>whnf))
   all_goals try (exact⟨_,ri,by rw [hI,show C=false by (rw [<-hC,<-AQ];clear hI hC hcf;simp [*] <;> omega)];rfl⟩)
   have hC1:C=true:=by rw [<-hC];clear hI hC hcf;simp [*] <;> omega
   rw [hC1,At] at hI
   have wn':t.n=t.images.length+1:=by omega
   have w1:IntKind.i64.wrap (pos+t.n)=pos+t.n:=wi (by omega)
   have w2:IntKind.i64.wrap (seq+1)=seq+1:=wi (by omega)
   have w3:IntKind.i64.wrap (left - t.n)=left - t.n:=wi (by omega)
   apply aDraw.treeK (0) tys_ok mixed (.one 0 (.one 1 (.one 2 (.one 3 (.one 4 (.one 5 (.one 6 (.one 7 (.one 8 (.one 9 (.one 10 (.one 11 (.one 12 (.one 13 (.one 14 (.one 15 .fin)))))))))))))))) (by kernel_rfl)
   conv=>whnf
   try (refine And.intro (by first | omega | (simp;done)) ?_;conv=>whnf)
   rw [w1,w2,w3]
   have hq1:=AD g.sl (show 0<=pos+t.n by omega)
   have hq2:=A3 (pos+t.n) (show 0<g.sl by omega)
   exact⟨(k+1,(pos+t.n).tmod g.sl,seq+1,left - t.n),⟨hk',⟨hq1,hq2⟩,(show 0<=seq+1/\seq+1<=4294967296 by omega),(show 0<=left - t.n/\left - t.n<=30 by omega),hI⟩,(show l.length - (k+1)<l.length - k by omega),WkN.r (s:= []) ⟨⟨rfl,rfl,rfl,rfl,rfl,rfl,rfl,AA (by omega),trivial⟩,trivial,rfl,rfl,rfl,rfl,rfl⟩⟩
  ·have ek:k=l.length:=by omega
   subst ek
   exact⟨_,ri,by rw [hI,List.drop_length];rfl⟩
def CU (g:Geo):Int:=1+g.sl+g.z*(2+g.d)
theorem Iv {g:Geo} (hg:AS g=true):18<=CU g/\CU g<=55/\(3<=g.z*(2+g.d)/\g.z*(2+g.d)<=24):=by
 obtain⟨g1,g2,g3,g4,g5⟩:=Am.1 hg
 have h1:g.z*(2+g.d)<=4*6:=CQ (by omega) (by omega) (by omega) (by omega)
 have h2:1*3<=g.z*(2+g.d):=CQ (by omega) (by omega) (by omega) (by omega)
 unfold CU
 omega
theorem SQ (g:Geo) (hg:AS g=true):Fn Tryz.prog 59 [.ag (A7 g)] fun r=>r = .v (.int .i64 (CU g)):=by
 obtain⟨g1,g2,g3,g4,g5⟩:=Am.1 hg
 have hu:=Iv hg
 have w:IntKind.i64.wrap (IntKind.i64.wrap (1+g.sl)+IntKind.i64.wrap (g.z*IntKind.i64.wrap (2+g.d)))=CU g:=by
  rw [wi (n:=2+g.d) (by omega),wi (n:=g.z*(2+g.d)) (by omega),wi (n:=1+g.sl) (by omega)]
  exact wi (by unfold CU at hu;omega)
 refine Fn.st Tryz.func59 rfl ?_
 exact⟨_,ri,by rw [w]⟩
theorem R4 (g:Geo) (hg:AS g=true):Fn Tryz.prog 89 [.ag (A7 g)] fun r=>r = .v (.int .i64 (CU g)):=by
 obtain⟨g1,g2,g3,g4,g5⟩:=Am.1 hg
 have hu:=Iv hg
 have w:IntKind.i64.wrap (IntKind.i64.wrap (1+g.sl)+IntKind.i64.wrap (g.z*IntKind.i64.wrap (2+g.d)))=CU g:=by
  rw [wi (n:=2+g.d) (by omega),wi (n:=g.z*(2+g.d)) (by omega),wi (n:=1+g.sl) (by omega)]
  exact wi (by unfold CU at hu;omega)
 refine Fn.st Tryz.func89 rfl ?_
 exact⟨_,ri,by rw [w]⟩
theorem VH (n lo hi:Int):Fn Tryz.prog 88 [.v (.int .i64 n), .v (.int .i64 lo), .v (.int .i64 hi)] fun r=>r = .v (.bool (BP n lo hi)):=by
 refine Fn.st Tryz.func88 rfl ?_
 conv=>whnf
 repeat' (first | (refine Af (fun h=>?_) (fun h=>?_) <;> (try simp at h) <;> conv=>whnf) | (refine aDraw.seq tys_ok mixed (by kernel_rfl) ?_;conv=>whnf) | (refine aSeq.go ?_;conv=>whnf) | (refine And.intro (by omega) ?_;conv=>whnf))
 all_goals exact⟨_,ri,by simp [BP, *] <;> omega⟩
theorem Oq (g:Geo) (d:Dk) (hg:AS g=true) (h1:d.cells.length<=1000000) (h2:d.cache.length<=1000000):Fn Tryz.prog 28 [.ag (A7 g), .ag (DG d)] fun r=>r = .v (.bool (FZ d&&decide ((d.cells.length:Int)=A0 g))):=by
 have c1:=KI g hg
 have c2:=RA d h1 h2
 refine Fn.st Tryz.func28 rfl ?_
 conv=>whnf
 refine aDraw.seq tys_ok mixed (by kernel_rfl) ?_
 conv=>whnf
 refine Fn.cl c2 ?_
 conv=>whnf
 cases hk:FZ d with
 | false=>
  exact⟨_,ri,rfl⟩
 | true=>
  conv=>whnf
  refine Fn.cl c1 ?_
  exact⟨_,ri,rfl⟩
def H7 (n:Int) (l:List Int) (i:Nat):Bool:=decide (0<=l.getD i 0)&&(decide (l.getD i 0<n)&&(decide (i=0) || decide (l.getD (i - 1) 0<l.getD i 0)))
def GU (n:Int) (l:List Int):Bool:=(List.range l.length).all (H7 n l)
theorem Mn {n:Int} {l:List Int} {k:Nat} (h:(List.range k).all (H7 n l)=true) (e:H7 n l k=true):(List.range (k+1)).all (H7 n l)=true:=by
 rw [Bo,C2,h,At,Bn,e];rfl
theorem QP {n:Int} {l:List Int} {k:Nat} (hk:k<l.length) (e:H7 n l k=false):GU n l=false:=by
 rw [GU,<-AQ,A4]
 intro h
 rw [h k (AC.2 hk)] at e
 cases e
def CL (g:Geo) (s:Stt):Bool:=GU (g.z*g.d) s.lost&&(decide (0<=s.found)&&(decide (0<=s.fixed)&&decide (0<=s.moved)))
def XV (s:Stt):List AV:= [.v (.int .i64 s.found), .v (.int .i64 s.fixed), .v (.int .i64 s.moved),iA s.lost]
theorem Qp (g:Geo) (s:Stt) (hg:AS g=true) (hl:s.lost.length<=1000000):Fn Tryz.prog 60 [.ag (A7 g), .ag (XV s)] fun r=>r = .v (.bool (CL g s)):=by
 obtain⟨g1,g2,g3,g4,g5⟩:=Am.1 hg
 have hm1:g.z*g.d<=4*4:=CQ (by omega) (by omega) (by omega) (by omega)
 have hm0:0<=g.z*g.d:=CP (by omega) (by omega)
 have wm:IntKind.i64.wrap (g.z*g.d)=g.z*g.d:=wi (by omega)
 refine Fn.st Tryz.func60 rfl ?_
 conv=>whnf
 refine aLoop.ruleRR Nat (fun k=>([(2, .bp 0 0),(3, .bp 1 0),(8,iA s.lost),(9, .v (.int .i64 s.lost.length)),(10, .v (.int .i64 k))], [.box 23 (A7 g), .box 42 (XV s)])) (fun k=>k<=s.lost.length/\(List.range k).all (H7 (g.z*g.d) s.lost)=true) (fun k=>s.lost.length - k) 0 ⟨Ag _,rfl⟩
  (WkN.r (s:= [0,1]) ⟨⟨rfl,rfl,rfl,rfl,rfl,trivial⟩,⟨rfl,rfl,trivial⟩,rfl,rfl,rfl,rfl,rfl⟩) ?_
 rintro k ⟨hk,hI⟩
 conv=>whnf
 refine Al (fun h6=>?_) (fun h6=>?_) <;> (repeat rw [Aa] at h6) <;> conv=>whnf
 ·have hk':k<s.lost.length:=by omega
  have hno:=QP (n:=g.z*g.d) hk'
  have hyes:=Mn hI (n:=g.z*g.d) (l:=s.lost)
  unfold H7 at hno hyes
  repeat' (first | (refine aSeq.go ?_;conv=>whnf) | fail)
  refine⟨⟨by omega,by omega⟩,?_⟩
  conv=>whnf
  repeat' (first | (refine aSeq.go ?_;conv=>whnf) | fail)
  rw [Aa]
  refine Al (fun q1=>?_) (fun q1=>?_)
  ·conv=>whnf
   exact⟨_,ri,by rw [CL,hno (by rw [<-AQ];simp only [Bool.and_eq_true,Bt,decide_eq_true_eq];omega),Bd]⟩
  ·conv=>whnf
   rw [wm]
   refine Al (fun q2=>?_) (fun q2=>?_)
   ·conv=>whnf
    exact⟨_,ri,by rw [CL,hno (by rw [<-AQ];simp only [Bool.and_eq_true,Bt,decide_eq_true_eq];omega),Bd]⟩
   ·conv=>whnf
    have wk:IntKind.i64.wrap ((k:Int) - 1)=(k:Int) - 1:=wi (by omega)
    refine Al (fun q3=>?_) (fun q3=>?_)
    ·conv=>whnf
     rw [wk]
     refine⟨⟨by omega,by omega⟩,?_⟩
     conv=>whnf
     rw [show ((k:Int) - 1).toNat=k - 1 by omega]
     refine Al (fun q4=>?_) (fun q4=>?_)
     ·conv=>whnf
      exact⟨_,ri,by rw [CL,hno (by rw [<-AQ];simp only [Bool.and_eq_true,Bt,decide_eq_true_eq];omega),Bd]⟩
     ·conv=>whnf
      exact⟨k+1,⟨hk',hyes (by simp only [Bool.and_eq_true,Bt,decide_eq_true_eq];omega)⟩,by omega,WkN.r (s:= [0,1]) ⟨⟨rfl,rfl,rfl,rfl,AA (by omega),trivial⟩,⟨rfl,rfl,trivial⟩,rfl,rfl,rfl,rfl,rfl⟩⟩
    ·conv=>whnf
     exact⟨k+1,⟨hk',hyes (by simp only [Bool.and_eq_true,Bt,decide_eq_true_eq];omega)⟩,by omega,WkN.r (s:= [0,1]) ⟨⟨rfl,rfl,rfl,rfl,AA (by omega),trivial⟩,⟨rfl,rfl,trivial⟩,rfl,rfl,rfl,rfl,rfl⟩⟩
 ·have ek:k=s.lost.length:=by omega
  have hlo:GU (g.z*g.d) s.lost=true:=by rw [GU,<-ek];exact hI
  refine⟨_,fun _ _ h=>h,?_⟩
  rw [CL,hlo,At]
  refine congrArg (fun b=>AV.v (.bool b)) ?_
  rw [Bz]
  simp only [Bool.and_eq_true,decide_eq_true_eq]
  repeat' split
  all_goals omega
def LA (g:Geo) (d:Dk) (s:Stt):Bool:=AS g&&((FZ d&&decide ((d.cells.length:Int)=A0 g))&&(((AS g&&AY g s.a)&&Ef g s.txns s.a.seq s.a.pos g.sl)&&(decide (0<=s.cursor)&&(decide (s.cursor<CU g)&&CL g s))))
structure StBig (s:Stt):Prop where
 l:s.a.label.size<=1000000
 h:s.a.homes.length<=1000000
 t:s.txns.length<=1000000/\∀ t∈s.txns,t.images.length<=1000000/\∀ x∈t.images,x.bytes.length<=100000
 o:s.lost.length<=1000000
theorem ME (g:Geo) (d:Dk) (s:Stt) (h1:d.cells.length<=1000000) (h2:d.cache.length<=1000000) (hs:StBig s):Fn Tryz.prog 19 [.ag (A7 g), .ag (DG d), .ag (Fg s)] fun r=>r = .v (Ed (LA g d s)):=by
 have hG:Fn Tryz.prog 46 [.ag (A7 g)] fun r=>r = .v (Ed (AS g)):=Ct g.z g.d g.sp g.sl g.an
 unfold LA
 cases hg:AS g with
 | false=>
  rw [hg] at hG
  refine Fn.st Tryz.func19 rfl ?_
  conv=>whnf
  refine Fn.cl hG ?_
  exact⟨_,ri,rfl⟩
 | true=>
  rw [hg] at hG
  have hz:=GE g d hg h1 h2
  have hr:=MU g s.a s.txns hs.l hs.h hs.t.1 hs.t.2
  rw [hg] at hr
  have hu:=SQ g hg
  have hh:=Qp g s hg hs.o
  generalize (FZ d&&decide ((d.cells.length:Int)=A0 g))=Z at hz |-
  generalize ((true&&AY g s.a)&&Ef g s.txns s.a.seq s.a.pos g.sl)=R at hr |-
  generalize CL g s=Q at hh |-
  generalize CU g=U at hu |-
  cases Z with
  | false=>
   refine Fn.st Tryz.func19 rfl ?_
   conv=>whnf
   refine Fn.cl hG ?_
   conv=>whnf
   refine Fn.cl hz ?_
   exact⟨_,ri,rfl⟩
  | true=>
   cases R with
   | false=>
    refine Fn.st Tryz.func19 rfl ?_
    conv=>whnf
    refine Fn.cl hG ?_
    conv=>whnf
    refine Fn.cl hz ?_
    conv=>whnf
    refine Fn.cl hr ?_
    exact⟨_,ri,rfl⟩
   | true=>
    refine Fn.st Tryz.func19 rfl ?_
    conv=>whnf
    refine Fn.cl hG ?_
    conv=>whnf
    refine Fn.cl hz ?_
    conv=>whnf
    refine Fn.cl hr ?_
    conv=>whnf
    refine aDraw.seq tys_ok mixed (by kernel_rfl) ?_
    conv=>whnf
    refine Al (fun q1=>?_) (fun q1=>?_)
    ·conv=>whnf
     exact⟨_,ri,by rw [decide_eq_false (by omega)];rfl⟩
    ·conv=>whnf
     refine Fn.cl hu ?_
     conv=>whnf
     refine Al (fun q2=>?_) (fun q2=>?_)
     ·conv=>whnf
      exact⟨_,ri,by rw [decide_eq_true (p:=0<=s.cursor) (by omega),decide_eq_false (p:=s.cursor<U) (by omega)];rfl⟩
     ·conv=>whnf
      refine Fn.cl hh ?_
      conv=>whnf
      rw [decide_eq_true (p:=0<=s.cursor) (by omega),decide_eq_true (p:=s.cursor<U) (by omega)]
      cases Q with
      | false=>exact⟨_,ri,rfl⟩
      | true=>exact⟨_,ri,rfl⟩
theorem So (s t:Stt) (h:s.lost.length<=1000000):Fn Tryz.prog 54 [.ag [.v (.int .i64 s.found), .v (.int .i64 s.fixed), .v (.int .i64 s.moved),iA s.lost], .ag [.v (.int .i64 t.found), .v (.int .i64 t.fixed), .v (.int .i64 t.moved),iA t.lost]] fun r=>r = .v (.bool (decide (s.found=t.found/\s.fixed=t.fixed/\s.moved=t.moved/\s.lost=t.lost))):=by
 have hi:=QW s.lost t.lost (by omega)
 refine Fn.st Tryz.func54 rfl ?_
 conv=>whnf
 repeat' (first | (refine Af (fun h=>?_) (fun h=>?_) <;> (try simp at h) <;> conv=>whnf) | (refine aDraw.seq tys_ok mixed (by kernel_rfl) ?_;conv=>whnf) | (refine aSeq.go ?_;conv=>whnf) | (refine Fn.cl hi ?_;conv=>whnf) | (refine And.intro (by omega) ?_;conv=>whnf))
 all_goals exact⟨_,ri,by congr 2;rw [Bz];simp [*]⟩
theorem UE {a b:An}:a=b↔a.gen=b.gen/\a.epoch=b.epoch/\a.pos=b.pos/\a.seq=b.seq/\a.last=b.last/\a.label=b.label/\a.homes=b.homes:=by
 cases a;cases b;simp
theorem TZ {a b:Hm}:a=b↔a.places=b.places/\a.next=b.next/\a.root=b.root:=by
 cases a;cases b;simp
theorem Iy {α:Type} {d:α} {l m:List α} {k:Nat} (hl:k<l.length) (hm:k<m.length) (h:l.take k=m.take k) (e:l.getD k d=m.getD k d):l.take (k+1)=m.take (k+1):=by
 rw [List.getD_eq_getElem?_getD,List.getD_eq_getElem?_getD,List.getElem?_eq_getElem hl,List.getElem?_eq_getElem hm] at e
 have e:l[k]=m[k]:=by simpa using e
 rw [Ar hl,Ar hm,h,e]
theorem UT (s:ByteArray):∀ (n i:Nat) (r:List UInt8),s.size - i=n->ByteArray.toList.loop s i r=r.reverse ++ s.data.toList.drop i:=by
 intro n
 induction n with
 | zero=>
  intro i r h
  rw [ByteArray.toList.loop,if_neg (by omega),Av (by show s.data.toList.length<=i;rw [Cm];show s.size<=i;omega),List.append_nil]
 | succ n ih=>
  intro i r h
  have hi:i<s.size:=by omega
  have hi':i<s.data.toList.length:=by rw [Cm];exact hi
  rw [ByteArray.toList.loop,if_pos hi,ih (i+1) _ (by omega),AM hi',List.reverse_cons,List.append_assoc]
  congr 2
  show s.get! i::_=_
  congr 1
  show s.data[i]! = _
  rw [getElem!_pos s.data i hi]
  simp
theorem VD {s t:ByteArray} (h:s.toList=t.toList):s=t:=by
 have e:∀ x:ByteArray,x.toList=x.data.toList:=fun x=>by
  rw [ByteArray.toList,UT x _ 0 [] rfl];rfl
 rw [e,e] at h
 exact ByteArray.ext (Array.toList_inj.mp h)
theorem PZ (a b:An) (hh:a.homes.length<=1000000) (hp:∀ h∈a.homes,h.places.length<=1000000):Fn Tryz.prog 53 [.ag (CE a), .ag (CE b)] fun r=>r = .v (.bool (decide (a=b))):=by
 refine Fn.st Tryz.func53 rfl ?_
 conv=>whnf
 repeat' (first | (refine Af (fun h=>?_) (fun h=>?_) <;> (try simp at h) <;> conv=>whnf) | (refine aDraw.seq tys_ok mixed (by kernel_rfl) ?_;conv=>whnf) | (refine aSeq.go ?_;conv=>whnf) | (refine And.intro (by omega) ?_;conv=>whnf))
 all_goals try (exact⟨_,ri,by rw [decide_eq_false];rw [UE];intro hx;simp_all⟩)
 have hlen:a.homes.length=b.homes.length:=by omega
 have hlab:a.label=b.label:=VD (by assumption)
 have hrest:a=b↔a.homes=b.homes:=by rw [UE];simp [*]
 refine aLoop.ruleRR Nat (fun k=>([(2, .bp 0 0),(3, .bp 1 0),(5, .v (.int .i64 k))], [.box 40 (CE a), .box 40 (CE b)])) (fun k=>k<=a.homes.length/\a.homes.take k=b.homes.take k) (fun k=>a.homes.length - k) 0 ⟨Ag _,rfl⟩
  (WkN.r (s:= [0,1]) ⟨⟨rfl,rfl,rfl,trivial⟩,⟨rfl,rfl,trivial⟩,rfl,rfl,rfl,rfl,rfl⟩) ?_
 rintro k ⟨hk,hI⟩
 conv=>whnf
 refine Al (fun h6=>?_) (fun h6=>?_) <;> (repeat rw [Aa] at h6) <;> conv=>whnf
 ·have hk':k<a.homes.length:=by omega
  have hk2:k<b.homes.length:=by omega
  have hi:=QW (a.homes.getD k ⟨[],0,0⟩).places (b.homes.getD k ⟨[],0,0⟩).places (by have:=hp _ (AE (d:=(⟨[],0,0⟩:Hm)) hk');omega)
  have hno:a.homes.getD k ⟨[],0,0⟩≠b.homes.getD k ⟨[],0,0⟩->decide (a=b)=false:=fun hne=>decide_eq_false fun e=>hne (by rw [e])
  have hyes:=Iy (d:=(⟨[],0,0⟩:Hm)) hk' hk2 hI
  rw [TZ] at hyes
  rw [Ne,TZ] at hno
  clear hrest hI hlen
  repeat' (first | (refine aSeq.go ?_;conv=>whnf) | fail)
  refine aDraw.seq tys_ok mixed (by kernel_rfl) ?_
  refine⟨⟨by omega,by omega⟩,?_⟩
  refine⟨⟨by omega,by omega⟩,?_⟩
  conv=>whnf
  rw [Aa]
  generalize hx:a.homes.getD k ⟨[],0,0⟩=x at hi hno hyes |-
  generalize hy:b.homes.getD k ⟨[],0,0⟩=y at hi hno hyes |-
  refine Fn.cl hi ?_
  conv=>whnf
  by_cases q1:x.places=y.places
  ·rw [decide_eq_true q1]
   refine⟨⟨by omega,by omega⟩,?_⟩
   refine⟨⟨by omega,by omega⟩,?_⟩
   conv=>whnf
   rw [Aa,hx,hy]
   refine Al (fun q2=>?_) (fun q2=>?_)
   ·exact⟨_,ri,by rw [hno fun e=>q2 e.2.1]⟩
   ·refine⟨⟨by omega,by omega⟩,?_⟩
    refine⟨⟨by omega,by omega⟩,?_⟩
    conv=>whnf
    rw [Aa,hx,hy]
    refine Al (fun q3=>?_) (fun q3=>?_)
    ·exact⟨_,ri,by rw [hno fun e=>q3 e.2.2]⟩
    ·exact⟨k+1,⟨hk',hyes ⟨q1,q2,q3⟩⟩,by omega,WkN.r (s:= [0,1]) ⟨⟨rfl,rfl,AA (by omega),trivial⟩,⟨rfl,rfl,trivial⟩,rfl,rfl,rfl,rfl,rfl⟩⟩
  ·rw [decide_eq_false q1]
   exact⟨_,ri,by rw [hno fun e=>q1 e.1]⟩
 ·have ek:k=a.homes.length:=by omega
  subst ek
  have he:a.homes=b.homes:=by
   rw [List.take_length,hlen,List.take_length] at hI;exact hI
  exact⟨_,ri,by rw [decide_eq_true (hrest.2 he)]⟩
theorem Wq {x y:Wr} (h1:x.addr=y.addr) (h2:x.bytes=y.bytes):x=y:=by
 cases x;cases y;simp_all
theorem Rh (l m:List Wr) (hl:l.length<=1000000000) (hb:∀ x∈l,x.bytes.length<=100000000000):Fn Tryz.prog 55 [FF l,FF m] fun r=>r = .v (.bool (decide (l=m))):=by
 refine Fn.st Tryz.func55 rfl ?_
 conv=>whnf
 refine Al (fun h=>?_) (fun h=>?_) <;> (repeat rw [Aa] at h) <;> conv=>whnf
 ·exact⟨_,ri,by rw [decide_eq_false (fun e=>h (by rw [e]))]⟩
 refine aLoop.rule Nat (fun k=>([(0,FF l),(1,FF m),(5, .v (.int .i64 k))], [])) (fun k=>k<=l.length/\l.take k=m.take k) (fun k=>l.length - k) 0 ⟨Ag _,by simp⟩ ⟨[],trivial,⟨rfl,rfl,rfl,trivial⟩,trivial,rfl,rfl,rfl⟩ ?_
 rintro k ⟨hk,hI⟩
 conv=>whnf
 refine Al (fun h2=>?_) (fun h2=>?_) <;> (repeat rw [Aa] at h2) <;> conv=>whnf
 ·have hm:=hb _ (AE (d:=⟨0, []⟩) (show k<l.length by omega))
  refine aDraw.seq tys_ok mixed (by kernel_rfl) ?_
  conv=>whnf
  repeat' (first | (refine aSeq.go ?_;conv=>whnf) | (refine Al (fun _=>?_) (fun _=>?_) <;> conv=>whnf) | (refine Fn.cl (Jd (l.getD k ⟨0, []⟩).bytes (m.getD k ⟨0, []⟩).bytes hm) ?_;conv=>whnf) | (refine And.intro (by first | omega | exact of_decide_eq_true rfl) ?_;conv=>whnf) | fail)
  all_goals first
   | exact⟨_,ri,by rw [decide_eq_false (D0 (fun e=>absurd (congrArg Wr.addr e) ‹_›))]⟩
   | exact⟨_,ri,by rw [decide_eq_false (D0 (fun e=>absurd (congrArg Wr.bytes e) ‹_›))]⟩
   | exact⟨k+1,⟨by omega,Ev hI (by omega) (by omega) (Wq ‹_› ‹_›)⟩,by omega,⟨[],trivial,⟨rfl,rfl,AA (by omega),trivial⟩,trivial,rfl,rfl,rfl⟩⟩
 ·exact⟨_,ri,by rw [decide_eq_true (FD hI (by omega) (by omega))]⟩
def TxJ (g:Geo) (a:An) (x y:List Gt) (pos seq left:Int) (k:Nat) (of_:Int) (ims:List Img) (more:List Wr):Prop:=
 (k=0/\of_=0/\ims=[]/\more=[])\/((1<=k/\(k:Int)<=of_/\of_<=30/\of_<=left/\ims.length<=k/\more.length<=k)/\∃ r im,ims=(if r.kind=1 then im ++ [r.img] else im)/\
  DE g a x y pos seq left=(let t:=AX (fun j=>Cz g a x y pos seq left j of_) (of_ - k).toNat k r im more
   if t.1≠1 then (t.1,0, [], []) else (1,of_,t.2.1,t.2.2)))
section
variable {g:Geo} {a:An} {x y:List Gt} {pos seq left:Int}
theorem Uh {look:Int->Rc × Int × List Wr} {f:Nat} {k:Int} {r:Rc} {im:List Img} {w:List Wr} (h:(look k).2.1=1):AX look (f+1) k r im w=AX look f (k+1) (look k).1 (if r.kind=1 then im ++ [r.img] else im) (w ++ (look k).2.2):=by
 conv=>lhs;unfold AX
 dsimp only
 rw [if_neg (not_not_intro h)]
theorem Ug {look:Int->Rc × Int × List Wr} {f:Nat} {k:Int} {r:Rc} {im:List Img} {w:List Wr} (h:(look k).2.1≠1):AX look (f+1) k r im w=((look k).2.1, [], []):=by
 conv=>lhs;unfold AX
 dsimp only
 rw [if_pos h]
theorem TxJ.step {k:Nat} {of_:Int} {ims:List Img} {more:List Wr} (h:TxJ g a x y pos seq left k of_ ims more) (hk:k=0\/(k:Int)<of_) {q:Rc × Int × List Wr} (hq:Cz g a x y pos seq left (k:Nat) of_=q) (h1:q.2.1=1) (ho:DH g q.1=true) (hi:C_ q.1 a seq (k:Nat) of_ left=true) (hw:q.2.2.length<=1) :
  TxJ g a x y pos seq left (k+1) q.1.of_ (if q.1.kind=1 then ims ++ [q.1.img] else ims) (more ++ q.2.2):=by
 have hN:=GQ ho hi
 have hlen:(if q.1.kind=1 then ims ++ [q.1.img] else ims).length<=ims.length+1:=by split <;> simp
 rcases h with ⟨rfl,rfl,rfl,rfl⟩ | ⟨⟨k1,k2,k3,k4,k5,k6⟩,r,im,e1,e2⟩
 ·refine .inr ⟨⟨by omega,by omega,by omega,hN.2.2.2.2.1 rfl,by simpa using hlen,by simpa using hw⟩,q.1, [],rfl,?_⟩
  have hq:Cz g a x y pos seq left 0 0=q:=hq
  unfold DE
  dsimp only
  rw [hq,if_neg (not_not_intro h1)]
  simp only [Bk]
  rfl
 ·have eo:q.1.of_=of_:=hN.2.2.2.2.2 (by omega)
  have hk:=hk.resolve_left (by omega)
  refine .inr ⟨⟨by omega,by omega,by omega,by omega,by omega,by rw [Ae];omega⟩,q.1,ims,rfl,?_⟩
  rw [e2,eo]
  obtain⟨m,hm⟩:∃ m:Nat,(of_ - k).toNat=m+1:=⟨(of_ - k).toNat - 1,by omega⟩
  rw [hm,Uh (by rw [hq];exact h1),hq,<-e1,show (of_ - ((k+1:Nat):Int)).toNat=m by omega,show ((k:Int)+1)=((k+1:Nat):Int) by omega]
theorem TxJ.stop {k:Nat} {of_:Int} {ims:List Img} {more:List Wr} (h:TxJ g a x y pos seq left k of_ ims more) (hk:k=0\/(k:Int)<of_) {q:Rc × Int × List Wr} (hq:Cz g a x y pos seq left (k:Nat) of_=q) (h1:q.2.1≠1):DE g a x y pos seq left=(q.2.1,0, [], []):=by
 rcases h with ⟨rfl,rfl,rfl,rfl⟩ | ⟨⟨k1,k2,k3,k4,k5,k6⟩,r,im,e1,e2⟩
 ·have hq:Cz g a x y pos seq left 0 0=q:=hq
  unfold DE
  dsimp only
  rw [hq,if_pos h1]
 ·have hk:=hk.resolve_left (by omega)
  obtain⟨m,hm⟩:∃ m:Nat,(of_ - k).toNat=m+1:=⟨(of_ - k).toNat - 1,by omega⟩
  rw [e2,hm,Ug (by rw [hq];exact h1),hq]
  dsimp only
  rw [if_pos h1]
theorem TxJ.fin {k:Nat} {of_:Int} {ims:List Img} {more:List Wr} (h:TxJ g a x y pos seq left k of_ ims more) (hk:¬(k=0\/(k:Int)<of_)):DE g a x y pos seq left=(1,of_,ims,more):=by
 rcases h with ⟨rfl,rfl,rfl,rfl⟩ | ⟨⟨k1,k2,k3,k4,k5,k6⟩,r,im,e1,e2⟩
 ·exact absurd (.inl rfl) hk
 ·rw [e2,show (of_ - k).toNat=0 by omega]
  unfold AX
  dsimp only
  rw [if_neg (by decide),<-e1]
theorem TxJ.len {k:Nat} {of_:Int} {ims:List Img} {more:List Wr} (h:TxJ g a x y pos seq left k of_ ims more):k<=30/\ims.length<=30/\more.length<=30/\0<=of_/\of_<=30:=by
 rcases h with ⟨rfl,rfl,rfl,rfl⟩ | ⟨⟨k1,k2,k3,k4,k5,k6⟩, -⟩
 ·simp
 ·omega
end
theorem Wx {s t:Stt}:s=t↔s.a=t.a/\s.txns=t.txns/\s.only=t.only/\s.cursor=t.cursor/\(s.found=t.found/\s.fixed=t.fixed/\s.moved=t.moved/\s.lost=t.lost):=by
 cases s;cases t;simp
theorem Sd (s t:Stt) (hh:s.a.homes.length<=1000000) (hp:∀ h∈s.a.homes,h.places.length<=1000000) (hl:s.lost.length<=1000000) (ht:s.txns.length<=1000000000) (hi:∀ x∈s.txns,x.images.length<=1000000000/\∀ i∈x.images,i.bytes.length<=100000000000):Fn Tryz.prog 15 [.ag (Fg s), .ag (Fg t)] fun r=>r = .v (.bool (decide (s=t))):=by
 have c1:=PZ s.a t.a hh hp
 have c2:=UR s.txns t.txns ht hi
 have c3:=So s t hl
 refine Fn.st Tryz.func15 rfl ?_
 conv=>whnf
 repeat' (first | (refine Af (fun h=>?_) (fun h=>?_) <;> (try simp at h) <;> conv=>whnf) | (refine aDraw.seq tys_ok mixed (by kernel_rfl) ?_;conv=>whnf) | (refine aSeq.go ?_;conv=>whnf) | (refine Fn.cl c1 ?_;conv=>whnf) | (refine Fn.cl c2 ?_;conv=>whnf) | (refine Fn.cl c3 ?_;conv=>whnf) | (refine And.intro (by omega) ?_;conv=>whnf))
 all_goals exact⟨_,ri,by rw [show decide (s=t)=decide (s.a=t.a/\s.txns=t.txns/\s.only=t.only/\s.cursor=t.cursor/\(s.found=t.found/\s.fixed=t.fixed/\s.moved=t.moved/\s.lost=t.lost)) from decide_eq_decide.2 Wx];congr 2;rw [Bz];simp [*]⟩
theorem U0 {d e:Dk}:d=e↔d.cells=e.cells/\d.cache=e.cache/\d.reqs=e.reqs/\d.left=e.left:=by
 cases d;cases e;simp
theorem Rf {c d:Cel}:c=d↔c.state=d.state/\c.bytes=d.bytes/\c.old=d.old:=by
 cases c;cases d;simp
theorem La (d e:Dk) (h1:d.cells.length<=1000000) (h2:d.cache.length<=1000000) (hb:∀ c∈d.cells,c.bytes.length<=100000000000/\c.old.length<=100000000000) (hw:∀ w∈d.cache,w.bytes.length<=100000000000):Fn Tryz.prog 16 [.ag (DG d), .ag (DG e)] fun r=>r = .v (.bool (decide (d=e))):=by
 have c1:=Rh d.cache e.cache (by omega) hw
 refine Fn.st Tryz.func16 rfl ?_
 conv=>whnf
 repeat' (first | (refine Af (fun h=>?_) (fun h=>?_) <;> (try simp at h) <;> conv=>whnf) | (refine aDraw.seq tys_ok mixed (by kernel_rfl) ?_;conv=>whnf) | (refine aSeq.go ?_;conv=>whnf) | (refine Fn.cl c1 ?_;conv=>whnf) | (refine And.intro (by omega) ?_;conv=>whnf))
 all_goals try (exact⟨_,ri,by rw [decide_eq_false];rw [U0];intro hx;simp_all⟩)
 have hlen:d.cells.length=e.cells.length:=by omega
 have hrest:d=e↔d.cells=e.cells:=by rw [U0];simp [*]
 refine aLoop.ruleRR Nat (fun k=>([(2, .bp 0 0),(3, .bp 1 0),(5, .v (.int .i64 k))], [.box 32 (DG d), .box 32 (DG e)])) (fun k=>k<=d.cells.length/\d.cells.take k=e.cells.take k) (fun k=>d.cells.length - k) 0 ⟨Ag _,rfl⟩
  (WkN.r (s:= [0,1]) ⟨⟨rfl,rfl,rfl,trivial⟩,⟨rfl,rfl,trivial⟩,rfl,rfl,rfl,rfl,rfl⟩) ?_
 rintro k ⟨hk,hI⟩
 conv=>whnf
 refine Al (fun h6=>?_) (fun h6=>?_) <;> (repeat rw [Aa] at h6) <;> conv=>whnf
 ·have hk':k<d.cells.length:=by omega
  have hk2:k<e.cells.length:=by omega
  have hm:=hb _ (AE (d:=(⟨0, [], []⟩:Cel)) hk')
  have b1:=Jd (d.cells.getD k ⟨0, [], []⟩).bytes (e.cells.getD k ⟨0, [], []⟩).bytes hm.1
  have b2:=Jd (d.cells.getD k ⟨0, [], []⟩).old (e.cells.getD k ⟨0, [], []⟩).old hm.2
  have hno:d.cells.getD k ⟨0, [], []⟩≠e.cells.getD k ⟨0, [], []⟩->decide (d=e)=false:=fun hne=>decide_eq_false fun x=>hne (by rw [x])
  have hyes:=Iy (d:=(⟨0, [], []⟩:Cel)) hk' hk2 hI
  rw [Rf] at hyes
  rw [Ne,Rf] at hno
  clear hrest hI hlen
  repeat' (first | (refine aSeq.go ?_;conv=>whnf) | fail)
  refine aDraw.seq tys_ok mixed (by kernel_rfl) ?_
  refine⟨⟨by omega,by omega⟩,?_⟩
  refine⟨⟨by omega,by omega⟩,?_⟩
  conv=>whnf
  rw [Aa]
  generalize hx:d.cells.getD k ⟨0, [], []⟩=x at b1 b2 hno hyes |-
  generalize hy:e.cells.getD k ⟨0, [], []⟩=y at b1 b2 hno hyes |-
  refine Al (fun q1=>?_) (fun q1=>?_)
  ·exact⟨_,ri,by rw [hno fun e=>q1 e.1]⟩
  ·refine⟨⟨by omega,by omega⟩,?_⟩
   refine⟨⟨by omega,by omega⟩,?_⟩
   conv=>whnf
   rw [Aa,hx,hy]
   refine Fn.cl b1 ?_
   conv=>whnf
   by_cases q2:x.bytes=y.bytes
   ·rw [decide_eq_true q2]
    refine⟨⟨by omega,by omega⟩,?_⟩
    refine⟨⟨by omega,by omega⟩,?_⟩
    conv=>whnf
    rw [Aa,hx,hy]
    refine Fn.cl b2 ?_
    conv=>whnf
    by_cases q3:x.old=y.old
    ·rw [decide_eq_true q3]
     exact⟨k+1,⟨hk',hyes ⟨q1,q2,q3⟩⟩,by omega,WkN.r (s:= [0,1]) ⟨⟨rfl,rfl,AA (by omega),trivial⟩,⟨rfl,rfl,trivial⟩,rfl,rfl,rfl,rfl,rfl⟩⟩
    ·rw [decide_eq_false q3]
     exact⟨_,ri,by rw [hno fun e=>q3 e.2.2]⟩
   ·rw [decide_eq_false q2]
    exact⟨_,ri,by rw [hno fun e=>q2 e.2.1]⟩
 ·have ek:k=d.cells.length:=by omega
  subst ek
  have he:d.cells=e.cells:=by
   rw [List.take_length,hlen,List.take_length] at hI;exact hI
  exact⟨_,ri,by rw [decide_eq_true (hrest.2 he)]⟩
theorem Qh (g:Geo) (s:ByteArray) (hg:AS g=false) (hl:s.size<=1000000):Fn Tryz.prog 24 [.ag (A7 g), .v (.string s)] fun r=>r = .tp [.ag [nilV,nilV,ze 0,ze 0], .v (.int .i64 1)]:=by
 have hA:=JA g s hl
 rw [hg] at hA
 refine Fn.st Tryz.func24 rfl ?_
 conv=>whnf
 refine Fn.cl hA ?_
 exact⟨_,ri,rfl⟩
theorem Qg (g:Geo) (s:ByteArray) (hg:AS g=true) (hs:C5 s.data.toList≠0) (hl:s.size<=1000000):Fn Tryz.prog 24 [.ag (A7 g), .v (.string s)] fun r=>r = .tp [.ag [nilV,nilV,ze 0,ze 0], .v (.int .i64 (C5 s.data.toList))]:=by
 have hA:=JA g s hl
 rw [hg,if_pos rfl,if_neg hs,if_pos rfl] at hA
 have hb:(C5 s.data.toList != 0)=true:=bne_iff_ne.2 hs
 generalize C5 s.data.toList=e at hA hb |-
 refine Fn.st Tryz.func24 rfl ?_
 conv=>whnf
 refine Fn.cl hA ?_
 conv=>whnf
 rw [hb]
 exact⟨_,ri,rfl⟩
theorem TO (n:Int) (l:List Int) (k:Nat):H7 n l k=(BP (l.getD k 0) 0 (n - 1)&&!(decide (0<k)&&decide (l.getD k 0<=l.getD (k - 1) 0))):=by
 unfold H7 BP
 rw [Bz]
 simp only [Bool.and_eq_true,Bt,AO,Bool.and_eq_false_iff,decide_eq_true_eq,decide_eq_false_iff_not]
 omega
theorem Vq (l:List Int) (n:Int) (hl:l.length<=1000000) (hn : -1000000<=n/\n<=1000000):Fn Tryz.prog 90 [iA l, .v (.int .i64 n)] fun r=>r = .v (.bool (GU n l&&decide (0<l.length))):=by
 have wn:IntKind.i64.wrap (n - 1)=n - 1:=wi (by omega)
 refine Fn.st Tryz.func90 rfl ?_
 conv=>whnf
 refine aLoop.ruleRR Nat (fun k=>([(0,iA l),(1, .v (.int .i64 n)),(4, .v (.bool false)),(5, .v (.int .i64 k))], [])) (fun k=>k<=l.length/\(List.range k).all (H7 n l)=true) (fun k=>l.length - k) 0 ⟨Ag _,rfl⟩
  (WkN.r (s:= []) ⟨⟨rfl,rfl,rfl,rfl,trivial⟩,trivial,rfl,rfl,rfl,rfl,rfl⟩) ?_
 rintro k ⟨hk,hI⟩
 conv=>whnf
 refine Al (fun h6=>?_) (fun h6=>?_) <;> (repeat rw [Aa] at h6) <;> conv=>whnf
 ·have hk':k<l.length:=by omega
  have hin:=G0 (l.getD (k:Int).toNat 0) 0 (IntKind.i64.wrap (n - 1))
  have hno:=QP (n:=n) hk'
  have hyes:=Mn hI (n:=n) (l:=l)
  rw [TO _ _ _] at hno hyes
  repeat' (first | (refine aSeq.go ?_;conv=>whnf) | fail)
  apply aDraw.treeK (0) tys_ok mixed (.one 0 (.one 1 (.one 2 (.one 3 (.one 4 (.one 5 (.one 6 (.one 7 (.one 8 (.one 9 (.one 10 (.one 11 (.one 12 (.one 13 (.one 14 (.one 15 (.one 16 (.one 17 (.one 18 (.one 19 (.one 20 (.one 21 (.one 22 (.one 23 .fin)))))))))))))))))))))))) (by kernel_rfl)
  conv=>whnf
  try (refine And.intro (by first | omega | (simp;done)) ?_;conv=>whnf)
  refine Fn.cl hin ?_
  conv=>whnf
  try (refine And.intro (by first | omega | (simp;done)) ?_;conv=>whnf)
  try (refine And.intro (by first | omega | (simp;done)) ?_;conv=>whnf)
  rw [Aa,wn]
  cases hq:BP (l.getD k 0) 0 (n - 1) with
  | false=>
   exact⟨_,ri,by rw [hno (by rw [hq,Bd]),Bd]⟩
  | true=>
   have wk:0<k->IntKind.i64.wrap ((k:Int) - 1)=(k:Int) - 1:=fun h=>wi (by omega)
   conv=>whnf
   refine Al (fun q3=>?_) (fun q3=>?_)
   ·refine⟨⟨by omega,by omega⟩,?_⟩
    conv=>whnf
    rw [wk (by omega)]
    refine⟨⟨by omega,by omega⟩,?_⟩
    conv=>whnf
    rw [Aa,show ((k:Int) - 1).toNat=k - 1 by omega]
    refine Al (fun q4=>?_) (fun q4=>?_)
    ·conv=>whnf
     exact⟨_,ri,by rw [hno (by rw [hq,At,decide_eq_true (show 0<k by omega),decide_eq_true q4];rfl),Bd]⟩
    ·conv=>whnf
     exact⟨k+1,⟨hk',hyes (by rw [hq,At,decide_eq_false (Int.not_le.2 q4),B4];rfl)⟩,by omega,WkN.r (s:= []) ⟨⟨rfl,rfl,rfl,AA (by omega),trivial⟩,trivial,rfl,rfl,rfl,rfl,rfl⟩⟩
   ·conv=>whnf
    exact⟨k+1,⟨hk',hyes (by rw [hq,At,decide_eq_false (show ¬0<k by omega),Bd];rfl)⟩,by omega,WkN.r (s:= []) ⟨⟨rfl,rfl,rfl,AA (by omega),trivial⟩,trivial,rfl,rfl,rfl,rfl,rfl⟩⟩
 ·have ek:k=l.length:=by omega
  have hlo:GU n l=true:=by rw [GU,<-ek];exact hI
  exact⟨_,ri,by rw [hlo,At];exact congrArg (fun b=>AV.v (.bool b)) (by rw [Bz];simp only [decide_eq_true_eq];omega)⟩
end Go.Proofs.YtldngmdpiifamaaGreatDoor.A
end
