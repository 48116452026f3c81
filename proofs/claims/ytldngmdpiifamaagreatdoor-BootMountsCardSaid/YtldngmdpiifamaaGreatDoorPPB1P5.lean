/-
Several texts in one.
-/
import Derived.Test.YtldngmdpiifamaaGreatDoorPPB1P4
import Derived.Test.YtldngmdpiifamaaGreatDoorPPB1P1
import Derived.Test.YtldngmdpiifamaaGreatDoorPPB1P3
import Derived.Test.YtldngmdpiifamaaGreatDoorPPB1P2
import Derived.Test.YtldngmdpiifamaaGreatDoorRows
import Derived.Below
import Derived.ChangeSame
import Derived.Carry
import Derived.Lib.LaidIn
import Derived.Lib.LaidU8T
import Derived.LaidHandle
import Derived.MakeChecks
import Derived.Handed
set_option maxRecDepth 100000
set_option maxHeartbeats 8000000
section
namespace Go.Proofs.YtldngmdpiifamaaGreatDoor.A
open Go.RowKit
theorem Wn {x y:Wr} (h1:x.addr=y.addr) (h2:x.bytes=y.bytes):x=y:=by
 cases x;cases y;simp_all
theorem QI (l m:List Wr) (hl:l.length<=1000000000) (hb:∀ x∈l,x.bytes.length<=100000000000):Fn Tryz.prog 55 [F0 l,F0 m] fun r=>r = .v (.bool (decide (l=m))):=by
 refine Fn.st Tryz.func55 rfl ?_
 conv=>whnf
 refine Al (fun h=>?_) (fun h=>?_) <;> (repeat rw [Aa] at h) <;> conv=>whnf
 ·exact⟨_,ri,by rw [decide_eq_false (fun e=>h (by rw [e]))]⟩
 refine aLoop.rule Nat (fun k=>([(0,F0 l),(1,F0 m),(5, .v (.int .i64 k))], [])) (fun k=>k<=l.length/\l.take k=m.take k) (fun k=>l.length - k) 0 ⟨Ae _,by simp⟩ ⟨[],trivial,⟨rfl,rfl,rfl,trivial⟩,trivial,rfl,rfl,rfl⟩ ?_
 rintro k ⟨hk,hI⟩
 conv=>whnf
 refine Al (fun h2=>?_) (fun h2=>?_) <;> (repeat rw [Aa] at h2) <;> conv=>whnf
 ·have hm:=hb _ (AC (d:=⟨0, []⟩) (show k<l.length by omega))
  refine aDraw.seq tys_ok mixed (by kernel_rfl) ?_
  conv=>whnf
  repeat' (first | (refine aSeq.go ?_;conv=>whnf) | (refine Al (fun _=>?_) (fun _=>?_) <;> conv=>whnf) | (refine Fn.cl (IQ (l.getD k ⟨0, []⟩).bytes (m.getD k ⟨0, []⟩).bytes hm) ?_;conv=>whnf) | (refine And.intro (by first | omega | exact of_decide_eq_true rfl) ?_;conv=>whnf) | fail)
  all_goals first
   | exact⟨_,ri,by rw [decide_eq_false (Du (fun e=>absurd (congrArg Wr.addr e) ‹_›))]⟩
   | exact⟨_,ri,by rw [decide_eq_false (Du (fun e=>absurd (congrArg Wr.bytes e) ‹_›))]⟩
   | exact⟨k+1,⟨by omega,Ek hI (by omega) (by omega) (Wn ‹_› ‹_›)⟩,by omega,⟨[],trivial,⟨rfl,rfl,A4 (by omega),trivial⟩,trivial,rfl,rfl,rfl⟩⟩
 ·exact⟨_,ri,by rw [decide_eq_true (Fx hI (by omega) (by omega))]⟩
def TxJ (g:Geo) (a:An) (x y:List Gt) (pos seq left:Int) (k:Nat) (of_:Int) (ims:List Img) (more:List Wr):Prop:=
 (k=0/\of_=0/\ims=[]/\more=[])\/((1<=k/\(k:Int)<=of_/\of_<=30/\of_<=left/\ims.length<=k/\more.length<=k)/\∃ r im,ims=(if r.kind=1 then im ++ [r.img] else im)/\
  D9 g a x y pos seq left=(let t:=AS (fun j=>Cx g a x y pos seq left j of_) (of_ - k).toNat k r im more
   if t.1≠1 then (t.1,0, [], []) else (1,of_,t.2.1,t.2.2)))
section
variable {g:Geo} {a:An} {x y:List Gt} {pos seq left:Int}
theorem Ud {look:Int->Rc × Int × List Wr} {f:Nat} {k:Int} {r:Rc} {im:List Img} {w:List Wr} (h:(look k).2.1=1):AS look (f+1) k r im w=AS look f (k+1) (look k).1 (if r.kind=1 then im ++ [r.img] else im) (w ++ (look k).2.2):=by
 conv=>lhs;unfold AS
 dsimp only
 rw [if_neg (not_not_intro h)]
theorem Uc {look:Int->Rc × Int × List Wr} {f:Nat} {k:Int} {r:Rc} {im:List Img} {w:List Wr} (h:(look k).2.1≠1):AS look (f+1) k r im w=((look k).2.1, [], []):=by
 conv=>lhs;unfold AS
 dsimp only
 rw [if_pos h]
theorem TxJ.step {k:Nat} {of_:Int} {ims:List Img} {more:List Wr} (h:TxJ g a x y pos seq left k of_ ims more) (hk:k=0\/(k:Int)<of_) {q:Rc × Int × List Wr} (hq:Cx g a x y pos seq left (k:Nat) of_=q) (h1:q.2.1=1) (ho:DA g q.1=true) (hi:CU q.1 a seq (k:Nat) of_ left=true) (hw:q.2.2.length<=1) :
  TxJ g a x y pos seq left (k+1) q.1.of_ (if q.1.kind=1 then ims ++ [q.1.img] else ims) (more ++ q.2.2):=by
 have hN:=GD ho hi
 have hlen:(if q.1.kind=1 then ims ++ [q.1.img] else ims).length<=ims.length+1:=by split <;> simp
 rcases h with ⟨rfl,rfl,rfl,rfl⟩ | ⟨⟨k1,k2,k3,k4,k5,k6⟩,r,im,e1,e2⟩
 ·refine .inr ⟨⟨by omega,by omega,by omega,hN.2.2.2.2.1 rfl,by simpa using hlen,by simpa using hw⟩,q.1, [],rfl,?_⟩
  have hq:Cx g a x y pos seq left 0 0=q:=hq
  unfold D9
  dsimp only
  rw [hq,if_neg (not_not_intro h1)]
  simp only [Bj]
  rfl
 ·have eo:q.1.of_=of_:=hN.2.2.2.2.2 (by omega)
  have hk:=hk.resolve_left (by omega)
  refine .inr ⟨⟨by omega,by omega,by omega,by omega,by omega,by rw [List.length_append];omega⟩,q.1,ims,rfl,?_⟩
  rw [e2,eo]
  obtain⟨m,hm⟩:∃ m:Nat,(of_ - k).toNat=m+1:=⟨(of_ - k).toNat - 1,by omega⟩
  rw [hm,Ud (by rw [hq];exact h1),hq,<-e1,show (of_ - ((k+1:Nat):Int)).toNat=m by omega,show ((k:Int)+1)=((k+1:Nat):Int) by omega]
theorem TxJ.stop {k:Nat} {of_:Int} {ims:List Img} {more:List Wr} (h:TxJ g a x y pos seq left k of_ ims more) (hk:k=0\/(k:Int)<of_) {q:Rc × Int × List Wr} (hq:Cx g a x y pos seq left (k:Nat) of_=q) (h1:q.2.1≠1):D9 g a x y pos seq left=(q.2.1,0, [], []):=by
 rcases h with ⟨rfl,rfl,rfl,rfl⟩ | ⟨⟨k1,k2,k3,k4,k5,k6⟩,r,im,e1,e2⟩
 ·have hq:Cx g a x y pos seq left 0 0=q:=hq
  unfold D9
  dsimp only
  rw [hq,if_pos h1]
 ·have hk:=hk.resolve_left (by omega)
  obtain⟨m,hm⟩:∃ m:Nat,(of_ - k).toNat=m+1:=⟨(of_ - k).toNat - 1,by omega⟩
  rw [e2,hm,Uc (by rw [hq];exact h1),hq]
  dsimp only
  rw [if_pos h1]
theorem TxJ.fin {k:Nat} {of_:Int} {ims:List Img} {more:List Wr} (h:TxJ g a x y pos seq left k of_ ims more) (hk:¬(k=0\/(k:Int)<of_)):D9 g a x y pos seq left=(1,of_,ims,more):=by
 rcases h with ⟨rfl,rfl,rfl,rfl⟩ | ⟨⟨k1,k2,k3,k4,k5,k6⟩,r,im,e1,e2⟩
 ·exact absurd (.inl rfl) hk
 ·rw [e2,show (of_ - k).toNat=0 by omega]
  unfold AS
  dsimp only
  rw [if_neg (by decide),<-e1]
theorem TxJ.len {k:Nat} {of_:Int} {ims:List Img} {more:List Wr} (h:TxJ g a x y pos seq left k of_ ims more):k<=30/\ims.length<=30/\more.length<=30/\0<=of_/\of_<=30:=by
 rcases h with ⟨rfl,rfl,rfl,rfl⟩ | ⟨⟨k1,k2,k3,k4,k5,k6⟩, -⟩
 ·simp
 ·omega
end
theorem Wv {s t:Stt}:s=t↔s.a=t.a/\s.txns=t.txns/\s.only=t.only/\s.cursor=t.cursor/\(s.found=t.found/\s.fixed=t.fixed/\s.moved=t.moved/\s.lost=t.lost):=by
 cases s;cases t;simp
theorem RJ (s t:Stt) (hh:s.a.homes.length<=1000000) (hp:∀ h∈s.a.homes,h.places.length<=1000000) (hl:s.lost.length<=1000000) (ht:s.txns.length<=1000000000) (hi:∀ x∈s.txns,x.images.length<=1000000000/\∀ i∈x.images,i.bytes.length<=100000000000):Fn Tryz.prog 15 [.ag (FX s), .ag (FX t)] fun r=>r = .v (.bool (decide (s=t))):=by
 have c1:=P7 s.a t.a hh hp
 have c2:=US s.txns t.txns ht hi
 have c3:=RT s t hl
 refine Fn.st Tryz.func15 rfl ?_
 conv=>whnf
 repeat' (first | (refine Af (fun h=>?_) (fun h=>?_) <;> (try simp at h) <;> conv=>whnf) | (refine aDraw.seq tys_ok mixed (by kernel_rfl) ?_;conv=>whnf) | (refine aSeq.go ?_;conv=>whnf) | (refine Fn.cl c1 ?_;conv=>whnf) | (refine Fn.cl c2 ?_;conv=>whnf) | (refine Fn.cl c3 ?_;conv=>whnf) | (refine And.intro (by omega) ?_;conv=>whnf))
 all_goals exact⟨_,ri,by rw [show decide (s=t)=decide (s.a=t.a/\s.txns=t.txns/\s.only=t.only/\s.cursor=t.cursor/\(s.found=t.found/\s.fixed=t.fixed/\s.moved=t.moved/\s.lost=t.lost)) from decide_eq_decide.2 Wv];congr 2;rw [Cj];simp [*]⟩
theorem Uv {d e:Dk}:d=e↔d.cells=e.cells/\d.cache=e.cache/\d.reqs=e.reqs/\d.left=e.left:=by
 cases d;cases e;simp
theorem QE {c d:Cel}:c=d↔c.state=d.state/\c.bytes=d.bytes/\c.old=d.old:=by
 cases c;cases d;simp
theorem TS (d e:Dk) (h1:d.cells.length<=1000000) (h2:d.cache.length<=1000000) (hb:∀ c∈d.cells,c.bytes.length<=100000000000/\c.old.length<=100000000000) (hw:∀ w∈d.cache,w.bytes.length<=100000000000):Fn Tryz.prog 16 [.ag (F8 d), .ag (F8 e)] fun r=>r = .v (.bool (decide (d=e))):=by
 have c1:=QI d.cache e.cache (by omega) hw
 refine Fn.st Tryz.func16 rfl ?_
 conv=>whnf
 repeat' (first | (refine Af (fun h=>?_) (fun h=>?_) <;> (try simp at h) <;> conv=>whnf) | (refine aDraw.seq tys_ok mixed (by kernel_rfl) ?_;conv=>whnf) | (refine aSeq.go ?_;conv=>whnf) | (refine Fn.cl c1 ?_;conv=>whnf) | (refine And.intro (by omega) ?_;conv=>whnf))
 all_goals try (exact⟨_,ri,by rw [decide_eq_false];rw [Uv];intro hx;simp_all⟩)
 have hlen:d.cells.length=e.cells.length:=by omega
 have hrest:d=e↔d.cells=e.cells:=by rw [Uv];simp [*]
 refine aLoop.ruleRR Nat (fun k=>([(2, .bp 0 0),(3, .bp 1 0),(5, .v (.int .i64 k))], [.box 32 (F8 d), .box 32 (F8 e)])) (fun k=>k<=d.cells.length/\d.cells.take k=e.cells.take k) (fun k=>d.cells.length - k) 0 ⟨Ae _,rfl⟩
  (WkN.r (s:= [0,1]) ⟨⟨rfl,rfl,rfl,trivial⟩,⟨rfl,rfl,trivial⟩,rfl,rfl,rfl,rfl,rfl⟩) ?_
 rintro k ⟨hk,hI⟩
 conv=>whnf
 refine Al (fun h6=>?_) (fun h6=>?_) <;> (repeat rw [Aa] at h6) <;> conv=>whnf
 ·have hk':k<d.cells.length:=by omega
  have hk2:k<e.cells.length:=by omega
  have hm:=hb _ (AC (d:=(⟨0, [], []⟩:Cel)) hk')
  have b1:=IQ (d.cells.getD k ⟨0, [], []⟩).bytes (e.cells.getD k ⟨0, [], []⟩).bytes hm.1
  have b2:=IQ (d.cells.getD k ⟨0, [], []⟩).old (e.cells.getD k ⟨0, [], []⟩).old hm.2
  have hno:d.cells.getD k ⟨0, [], []⟩≠e.cells.getD k ⟨0, [], []⟩->decide (d=e)=false:=fun hne=>decide_eq_false fun x=>hne (by rw [x])
  have hyes:=Io (d:=(⟨0, [], []⟩:Cel)) hk' hk2 hI
  rw [QE] at hyes
  rw [Ne,QE] at hno
  clear hrest hI hlen
  repeat' (first | (refine aSeq.go ?_;conv=>whnf) | fail)
  refine aDraw.seq tys_ok mixed (by kernel_rfl) ?_
  refine⟨⟨by omega,by omega⟩,?_⟩
  refine⟨⟨by omega,by omega⟩,?_⟩
  conv=>whnf
  rw [Aa]
  generalize hx:d.cells.getD k ⟨0, [], []⟩=x at b1 b2 hno hyes |-
  generalize hy:e.cells.getD k ⟨0, [], []⟩=y at b1 b2 hno hyes |-
  refine Al (fun q1=>?_) (fun q1=>?_)
  ·exact⟨_,ri,by rw [hno fun e=>q1 e.1]⟩
  ·refine⟨⟨by omega,by omega⟩,?_⟩
   refine⟨⟨by omega,by omega⟩,?_⟩
   conv=>whnf
   rw [Aa,hx,hy]
   refine Fn.cl b1 ?_
   conv=>whnf
   by_cases q2:x.bytes=y.bytes
   ·rw [decide_eq_true q2]
    refine⟨⟨by omega,by omega⟩,?_⟩
    refine⟨⟨by omega,by omega⟩,?_⟩
    conv=>whnf
    rw [Aa,hx,hy]
    refine Fn.cl b2 ?_
    conv=>whnf
    by_cases q3:x.old=y.old
    ·rw [decide_eq_true q3]
     exact⟨k+1,⟨hk',hyes ⟨q1,q2,q3⟩⟩,by omega,WkN.r (s:= [0,1]) ⟨⟨rfl,rfl,A4 (by omega),trivial⟩,⟨rfl,rfl,trivial⟩,rfl,rfl,rfl,rfl,rfl⟩⟩
    ·rw [decide_eq_false q3]
     exact⟨_,ri,by rw [hno fun e=>q3 e.2.2]⟩
   ·rw [decide_eq_false q2]
    exact⟨_,ri,by rw [hno fun e=>q2 e.2.1]⟩
 ·have ek:k=d.cells.length:=by omega
  subst ek
  have he:d.cells=e.cells:=by
   rw [List.take_length,hlen,List.take_length] at hI;exact hI
  exact⟨_,ri,by rw [decide_eq_true (hrest.2 he)]⟩




theorem NE (g:Geo) (s:ByteArray) (hg:AW g=true) (hs:Di s.data.toList=0):ACalls Tryz.prog false 26 [.ag (A9 g), .v (.string s)] [] fun r H=>r = .ag [.ow 0 (Az g).toNat,nilV,ze 0,ze (-1)]/\H=[.row 87 3 ((FG g s).cells.map AU)]:=by
 obtain⟨g1,g2,g3,g4,g5⟩:=Ao.1 hg
 have hcg:=CW hg
 have hp:=GC hg
 have hN:1<=(Az g).toNat/\(Az g).toNat<=300:=by
  have:g.z*Co g<=4*7:=Dn (by omega) (by omega) (by omega) (by omega)
  unfold Az at hcg |-
  omega
 have hcN:Az g=((Az g).toNat:Int):=by omega
 have hao:=DO hg hs
 have hA:=O2 g s hg
 have hC:=Px g hg
 rw [hcN] at hC
 have hD:=Tb (Az g).toNat hN
 refine ACalls.ofR tys_ok Tryz.func26 rfl rfl (Ad rfl) ?_
 conv=>whnf
 refine Fn.cl hC ?_
 conv=>whnf
 refine ACalls.beside hD rfl ?_
 rintro _ _ ⟨rfl,rfl⟩
 conv=>whnf
 refine Fn.cl hA ?_
 conv=>whnf
 refine aLoop.ruleRR Nat (fun k=>([(2, .bp 0 0),(4, .bp 1 0),(5, .bp 2 0),(6, .bp 3 0),(7,ze k)], [.box 23 (A9 g), .box 32 [nilV,nilV,ze 0,ze 0], .box 32 [.ow 4 (Az g).toNat,nilV,ze 0,ze (-1)], .box 40 (CN (Av g s)), .row 87 3 ((BL (F1 g) ((Ay g (Av g s)).take k)).map AU)])) (fun k=>k<=g.an.toNat) (fun k=>g.an.toNat - k) 0 (Ae _)
  ?_ ?_
 ·refine WkN.rc (ConvF.ofH (ConvH.subRow (k:=2) rfl (es':=(F1 g).map AU) (by simp [F1]) fun i=>?_)) (s:= [0,1,3,4,2]) ⟨⟨rfl,rfl,rfl,rfl,rfl,trivial⟩,⟨rfl,rfl,rfl,rfl,rfl,trivial⟩,rfl,rfl,rfl,rfl,rfl⟩
  rw [F1,CI]
  by_cases hi:i<(Az g).toNat
  ·rw [Fu hi,Fu hi];exact⟨fun _ _ h=>h,AP 1 _,AP 1 _,trivial⟩
  ·rw [List.getD_eq_getElem?_getD,List.getD_eq_getElem?_getD,List.getElem?_eq_none (by simpa using hi),List.getElem?_eq_none (by simpa using hi)];exact SubL.refl _
 ·intro k hk
  conv=>whnf
  refine Al (fun h6=>?_) (fun h6=>?_) <;> (repeat rw [Aa] at h6) <;> conv=>whnf
  ·have hk':k<(Ay g (Av g s)).length:=by rw [Dr];omega
   have hsx:=DN (F1 g) hk'
   rw [FA (by omega)] at hsx
   have hlx:(BL (F1 g) ((Ay g (Av g s)).take k)).length=(Az g).toNat:=by rw [Cn,IJ]
   generalize BL (F1 g) ((Ay g (Av g s)).take k)=cs at hsx hlx |-
   have hnc:=K1 g (Av g s) k hg hao (by omega)
   have hE:(cs.map AU).getD (k:Int).toNat []=AU (cs.getD (k:Int).toNat cz):=Fb hlx (by omega)
   repeat' (first | (refine aSeq.go ?_;conv=>whnf) | fail)
   apply aDraw.treeK (0) tys_ok mixed (.one 0 (.one 1 (.one 2 (.one 3 (.one 4 (.one 5 (.one 6 (.one 7 (.one 8 .fin))))))))) (by kernel_rfl)
   conv=>whnf
   refine Fn.cl hnc ?_
   conv=>whnf
   try (refine And.intro (by first | omega | (simp;done)) ?_;conv=>whnf)
   try (refine And.intro ⟨rfl,by first | rfl | (simp;done) | (simp;omega),by first | omega | (simp;omega)⟩ ?_;conv=>whnf)
   (first | rw [hE] | skip)
   conv=>whnf
   all_goals exact⟨k+1,by omega,by omega,WkN.r (s:= [0,1,2,3,4]) ⟨⟨rfl,rfl,rfl,rfl,A4 (by omega),trivial⟩,⟨rfl,rfl,rfl,rfl,congrArg (fun l=>some (AB.row _ _ l)) (by rw [hsx,Eu];rfl),trivial⟩,rfl,rfl,rfl,rfl,rfl⟩⟩
  ·have ek:k=(Ay g (Av g s)).length:=by rw [Dr];omega
   rw [ek,List.take_length]
   repeat' (first | (refine aSeq.go ?_;conv=>whnf) | fail)
   refine aLoop.ruleRR Nat (fun c=>([(2, .bp 0 0),(4, .bp 1 0),(5, .bp 2 0),(6, .bp 3 0),(8,ze c)], [.box 23 (A9 g), .box 32 [nilV,nilV,ze 0,ze 0], .box 32 [.ow 4 (Az g).toNat,nilV,ze 0,ze (-1)], .box 40 (CN (Av g s)), .row 87 3 ((II g s c).map AU)])) (fun c=>c<=2) (fun c=>2 - c) 0 (Ae _)
    (WkN.r (s:= [0,1,2,3,4]) ⟨⟨rfl,rfl,rfl,rfl,rfl,trivial⟩,⟨rfl,rfl,rfl,rfl,rfl,trivial⟩,rfl,rfl,rfl,rfl,rfl⟩) ?_
   intro c hc
   conv=>whnf
   refine Al (fun h7=>?_) (fun h7=>?_) <;> (repeat rw [Aa] at h7) <;> conv=>whnf
   ·have hc01:(c:Int)=0\/(c:Int)=1:=by omega
    repeat' (first | (refine aSeq.go ?_;conv=>whnf) | fail)
    refine aLoop.ruleRR Nat (fun i=>([(2, .bp 0 0),(4, .bp 1 0),(5, .bp 2 0),(6, .bp 3 0),(8,ze c),(9,ze i)], [.box 23 (A9 g), .box 32 [nilV,nilV,ze 0,ze 0], .box 32 [.ow 4 (Az g).toNat,nilV,ze 0,ze (-1)], .box 40 (CN (Av g s)), .row 87 3 ((BL (II g s c) ((E1 g c).take i)).map AU)])) (fun i=>i<=g.sl.toNat) (fun i=>g.sl.toNat - i) 0 (Ae _)
     (WkN.r (s:= [0,1,2,3,4]) ⟨⟨rfl,rfl,rfl,rfl,rfl,rfl,trivial⟩,⟨rfl,rfl,rfl,rfl,rfl,trivial⟩,rfl,rfl,rfl,rfl,rfl⟩) ?_
    intro i hi
    conv=>whnf
    refine Al (fun h8=>?_) (fun h8=>?_) <;> (repeat rw [Aa] at h8) <;> conv=>whnf
    ·have hlw:(E1 g c).length=g.sl.toNat:=by simp [E1]
     have hi':i<(E1 g c).length:=by omega
     have hsx:=DN (II g s c) hi'
     rw [show (E1 g c).getD i ⟨0, []⟩=⟨AK g c (i:Nat),Cu g zeroC c (i:Nat)⟩ from EA (by omega)] at hsx
     have hlx:(BL (II g s c) ((E1 g c).take i)).length=(Az g).toNat:=by rw [Cn,IH]
     generalize BL (II g s c) ((E1 g c).take i)=cs at hsx hlx |-
     have hokl:FJ g c i=true:=by simp only [FJ,Bool.and_eq_true,AE];omega
     have hla:=CP g c i hg hokl
     have hin:=FN (n:=(Az g).toNat) hg hcN.symm hc01 (s:=i) (by omega)
     have hrc:=F_ g zeroC c i (LN hg) hokl
     have hE:(cs.map AU).getD (AK g c i).toNat []=AU (cs.getD (AK g c i).toNat cz):=Fb hlx (by omega)
     repeat' (first | (refine aSeq.go ?_;conv=>whnf) | fail)
     apply aDraw.treeK (0) tys_ok mixed (.one 0 (.one 1 (.one 2 (.one 3 (.one 4 (.one 6 (.one 7 (.one 8 (.one 9 (.one 5 (.one 10 (.one 11 (.one 12 (.one 13 .fin)))))))))))))) (by kernel_rfl)
     conv=>whnf
     refine Fn.cl hla ?_
     conv=>whnf
     (refine ACalls.sub [.ag (A9 g), .ag (DW zeroC),ze c,ze i] (by repeat' (first | exact trivial | exact fun _ _ h=>h | exact AP _ _ | refine And.intro ?_ ?_ | refine AJ ?_)) ?_;refine Fn.cl hrc ?_)
     conv=>whnf
     try (refine And.intro (by first | omega | (simp;done)) ?_;conv=>whnf)
     try (refine And.intro ⟨rfl,by first | rfl | (simp;done) | (simp;omega),by first | omega | (simp;omega)⟩ ?_;conv=>whnf)
     (first | rw [hE] | skip)
     conv=>whnf
     all_goals exact⟨i+1,by omega,by omega,WkN.r (s:= [0,1,2,3,4]) ⟨⟨rfl,rfl,rfl,rfl,rfl,A4 (by omega),trivial⟩,⟨rfl,rfl,rfl,rfl,congrArg (fun l=>some (AB.row _ _ l)) (by rw [hsx,Eu];rfl),trivial⟩,rfl,rfl,rfl,rfl,rfl⟩⟩
    ·have ei:i=(E1 g c).length:=by simp [E1];omega
     repeat' (first | (refine aSeq.go ?_;conv=>whnf) | fail)
     exact⟨c+1,by omega,by omega,WkN.r (s:= [0,1,2,3,4]) ⟨⟨rfl,rfl,rfl,rfl,A4 (by omega),trivial⟩,⟨rfl,rfl,rfl,rfl,by rw [ei,List.take_length];rfl,trivial⟩,rfl,rfl,rfl,rfl,rfl⟩⟩
   ·have ec:c=2:=by omega
    subst ec
    have hT:=Qa g hg
    have hz8:=JW zero8
    have hB:=P_ (Do g) (by rw [Do,Bd];omega) (fun e he=>by rw [List.eq_of_mem_replicate he];simp only [ent0];omega)
    repeat' (first | (refine aSeq.go ?_;conv=>whnf) | fail)
    refine Fn.cl hT ?_
    conv=>whnf
    refine Fn.cl hB ?_
    conv=>whnf
    repeat' (first | (refine aSeq.go ?_;conv=>whnf) | fail)
    refine aLoop.ruleRR Nat (fun z=>([(2, .bp 0 0),(4, .bp 1 0),(5, .bp 2 0),(10,bA (C9 (Do g))),(11,ze z)], [.box 23 (A9 g), .box 32 [nilV,nilV,ze 0,ze 0], .box 32 [.ow 4 (Az g).toNat,nilV,ze 0,ze (-1)], .box 40 (CN (Av g s)), .row 87 3 ((E2 g s z).map AU)])) (fun z=>z<=g.z.toNat) (fun z=>g.z.toNat - z) 0 (Ae _)
     (WkN.r (s:= [0,1,2,3,4]) ⟨⟨rfl,rfl,rfl,rfl,rfl,trivial⟩,⟨rfl,rfl,rfl,rfl,rfl,trivial⟩,rfl,rfl,rfl,rfl,rfl⟩) ?_
    intro z hz
    conv=>whnf
    refine Al (fun h9=>?_) (fun h9=>?_) <;> (repeat rw [Aa] at h9) <;> conv=>whnf
    ·have htb:∀ k:Nat,k<2->0<=C6 g z k/\C6 g z k<((Az g).toNat:Int):=fun k hk=>by unfold C6;omega
     have hmul:(z:Int)*Co g<=(g.z - 1)*Co g:=Int.mul_le_mul_of_nonneg_right (by omega) (by omega)
     have hz0:0<=(z:Int)*Co g:=Dm (by omega) (by omega)
     have hsb:∀ k:Nat,(k:Int)<Co g->0<=BC g z k/\BC g z k<((Az g).toNat:Int):=fun k hk=>by
      rw [<-hcN];unfold BC Az;rw [Int.sub_mul,Int.one_mul] at hmul;omega
     repeat' (first | (refine aSeq.go ?_;conv=>whnf) | fail)
     refine aLoop.ruleRR Nat (fun k=>([(2, .bp 0 0),(4, .bp 1 0),(5, .bp 2 0),(10,bA (C9 (Do g))),(11,ze z),(12,ze k)], [.box 23 (A9 g), .box 32 [nilV,nilV,ze 0,ze 0], .box 32 [.ow 4 (Az g).toNat,nilV,ze 0,ze (-1)], .box 40 (CN (Av g s)), .row 87 3 ((BL (E2 g s z) ((Em g z).take k)).map AU)])) (fun k=>k<=2) (fun k=>2 - k) 0 (Ae _)
      (WkN.r (s:= [0,1,2,3,4]) ⟨⟨rfl,rfl,rfl,rfl,rfl,rfl,trivial⟩,⟨rfl,rfl,rfl,rfl,rfl,trivial⟩,rfl,rfl,rfl,rfl,rfl⟩) ?_
     intro k hk
     conv=>whnf
     refine Al (fun h10=>?_) (fun h10=>?_) <;> (repeat rw [Aa] at h10) <;> conv=>whnf
     ·have hlw:(Em g z).length=2:=by simp [Em]
      have hk':k<(Em g z).length:=by omega
      have hsx:=DN (E2 g s z) hk'
      rw [show (Em g z).getD k ⟨0, []⟩=⟨C6 g z (k:Nat),C7 (C6 g z (k:Nat)) 0 (C9 (Do g))⟩ from EA (by omega)] at hsx
      have hlx:(BL (E2 g s z) ((Em g z).take k)).length=(Az g).toNat:=by rw [Cn,Ev]
      generalize BL (E2 g s z) ((Em g z).take k)=cs at hsx hlx |-
      have hgt:=Rf g z k hg (by omega) (by omega)
      have hin:=htb k (by omega)
      have hmk:=Hd (C6 g z k) 0 (C9 (Do g)) (Kh hg (by omega))
      have hE:(cs.map AU).getD (C6 g z k).toNat []=AU (cs.getD (C6 g z k).toNat cz):=Fb hlx (by omega)
      repeat' (first | (refine aSeq.go ?_;conv=>whnf) | fail)
      refine Fn.cl hgt ?_
      conv=>whnf
      apply aDraw.treeK (0) tys_ok mixed (.one 0 (.one 1 (.one 2 (.one 3 (.one 4 (.one 5 (.one 6 (.one 7 (.one 8 .fin))))))))) (by kernel_rfl)
      conv=>whnf
      refine Fn.cl hmk ?_
      conv=>whnf
      try (refine And.intro (by first | omega | (simp;done)) ?_;conv=>whnf)
      try (refine And.intro ⟨rfl,by first | rfl | (simp;done) | (simp;omega),by first | omega | (simp;omega)⟩ ?_;conv=>whnf)
      (first | rw [hE] | skip)
      conv=>whnf
      all_goals exact⟨k+1,by omega,by omega,WkN.r (s:= [0,1,2,3,4]) ⟨⟨rfl,rfl,rfl,rfl,rfl,A4 (by omega),trivial⟩,⟨rfl,rfl,rfl,rfl,congrArg (fun l=>some (AB.row _ _ l)) (by rw [hsx,Eu];rfl),trivial⟩,rfl,rfl,rfl,rfl,rfl⟩⟩
     ·have ek:k=(Em g z).length:=by simp [Em];omega
      rw [ek,List.take_length]
      have hpr:=Mx g hg
      repeat' (first | (refine aSeq.go ?_;conv=>whnf) | fail)
      refine aLoop.ruleRR Nat (fun i=>([(2, .bp 0 0),(4, .bp 1 0),(5, .bp 2 0),(10,bA (C9 (Do g))),(11,ze z),(14,ze i)], [.box 23 (A9 g), .box 32 [nilV,nilV,ze 0,ze 0], .box 32 [.ow 4 (Az g).toNat,nilV,ze 0,ze (-1)], .box 40 (CN (Av g s)), .row 87 3 ((BL (BL (E2 g s z) (Em g z)) ((DT g z).take i)).map AU)])) (fun i=>i<=(Co g).toNat) (fun i=>(Co g).toNat - i) 0 (Ae _)
       (WkN.r (s:= [0,1,2,3,4]) ⟨⟨rfl,rfl,rfl,rfl,rfl,rfl,trivial⟩,⟨rfl,rfl,rfl,rfl,rfl,trivial⟩,rfl,rfl,rfl,rfl,rfl⟩) ?_
      intro i hi
      conv=>whnf
      refine Fn.cl hpr ?_
      conv=>whnf
      refine Al (fun h11=>?_) (fun h11=>?_) <;> (repeat rw [Aa] at h11) <;> conv=>whnf
      ·have hlw:(DT g z).length=(Co g).toNat:=by simp [DT]
       have hi':i<(DT g z).length:=by omega
       have hsx:=DN (BL (E2 g s z) (Em g z)) hi'
       rw [show (DT g z).getD i ⟨0, []⟩=⟨BC g z (i:Nat),C7 (BC g z (i:Nat)) 0 zero8⟩ from EA (by omega)] at hsx
       have hlx:(BL (BL (E2 g s z) (Em g z)) ((DT g z).take i)).length=(Az g).toNat:=by rw [Cn,Cn,Ev]
       generalize BL (BL (E2 g s z) (Em g z)) ((DT g z).take i)=cs at hsx hlx |-
       have hgt:=SX g z i hg (by omega) (by omega)
       have hin:=hsb i (by omega)
       have hmk:=Hd (BC g z i) 0 zero8 ⟨hin.1,by omega,Bo _,by decide,by decide⟩
       have hE:(cs.map AU).getD (BC g z i).toNat []=AU (cs.getD (BC g z i).toNat cz):=Fb hlx (by omega)
       repeat' (first | (refine aSeq.go ?_;conv=>whnf) | fail)
       refine Fn.cl hgt ?_
       conv=>whnf
       apply aDraw.treeK (0) tys_ok mixed (.one 0 (.one 1 (.one 2 (.one 3 (.one 4 (.one 5 (.one 6 (.one 7 (.one 8 .fin))))))))) (by kernel_rfl)
       conv=>whnf
       (try (refine And.intro ⟨rfl,by decide,by decide⟩ ?_;conv=>whnf);refine ACalls.shut hmk.go ?_;(conv=>whnf);refine And.intro rfl ?_;(conv=>whnf);refine ACalls.sub [ze (BC g z i),ze 0,bA zero8] ⟨ri,ri,fun c v h=>Rd.congr rfl (fun i hi=>by have hi':i<8:=hi;rw [Fu (by exact hi'),IT hi'];rfl) h,trivial⟩ ?_;refine Fn.cl hmk ?_)
       conv=>whnf
       try (refine And.intro (by first | omega | (simp;done)) ?_;conv=>whnf)
       try (refine And.intro ⟨rfl,by first | rfl | (simp;done) | (simp;omega),by first | omega | (simp;omega)⟩ ?_;conv=>whnf)
       (first | rw [hE] | skip)
       conv=>whnf
       all_goals exact⟨i+1,by omega,by omega,WkN.r (s:= [0,1,2,3,4]) ⟨⟨rfl,rfl,rfl,rfl,rfl,A4 (by omega),trivial⟩,⟨rfl,rfl,rfl,rfl,congrArg (fun l=>some (AB.row _ _ l)) (by rw [hsx,Eu];rfl),trivial⟩,rfl,rfl,rfl,rfl,rfl⟩⟩
      ·have ei:i=(DT g z).length:=by simp [DT];omega
       repeat' (first | (refine aSeq.go ?_;conv=>whnf) | fail)
       exact⟨z+1,by omega,by omega,WkN.r (s:= [0,1,2,3,4]) ⟨⟨rfl,rfl,rfl,rfl,A4 (by omega),trivial⟩,⟨rfl,rfl,rfl,rfl,by rw [ei,List.take_length];rfl,trivial⟩,rfl,rfl,rfl,rfl,rfl⟩⟩
    ·have ez:z=g.z.toNat:=by omega
     subst ez
     exact⟨_, .ag [.ow 0 (Az g).toNat,nilV,ze 0,ze (-1)], [.row 87 3 ((E2 g s g.z.toNat).map AU)],fun _ _ h=>h,WkN.r (s:= [4]) ⟨⟨rfl,trivial⟩,⟨rfl,trivial⟩,rfl,rfl,rfl,rfl,rfl⟩,rfl,rfl⟩
theorem TJ {g:Geo} {t:Tx} {k c:Nat} (cs:List Cel) (h:c<2):BL cs ((TK g t k).take (c+1))=Ib (BL cs ((TK g t k).take c)) ⟨AK g c (AO g t.pos k),Cu g ((Bt t.seq 0 t.images).getD k rc0) c (AO g t.pos k)⟩:=by
 rw [DN cs (by simp [TK];omega)]
 congr 1
 rw [TK,EA h]
@[reducible] def lgH (g:Geo) (a:An) (cs:List Cel):List AB:= [.box 23 (A9 g), .box 32 [nilV,nilV,ze 0,ze 0], .box 32 [.ow 4 (Az g).toNat,nilV,ze 0,ze (-1)], .box 40 (CN a), .row 87 3 (cs.map AU)]
theorem P4 (g:Geo) (s:ByteArray) (sizes:List Int) (fill:UInt8) (hg:AW g=true) (hs:Di s.data.toList=0) (hl:sizes.length<=40):ACalls Tryz.prog false 11 [.ag (A9 g), .v (.string s),iA sizes, .v (.int .u8 fill.toNat)] [] fun r H=>r = .tp [.ag [.ow 0 (Az g).toNat,nilV,ze 0,ze (-1)],D8 (A3 g (Av g s) fill sizes 0 (Av g s).pos 0)]/\H=[.row 87 3 ((Jk g s (A3 g (Av g s) fill sizes 0 (Av g s).pos 0)).cells.map AU)]:=by
 obtain⟨g1,g2,g3,g4,g5⟩:=Ao.1 hg
 have hao:=DO hg hs
 have hA:=O2 g s hg
 have hF:=NE g s hg hs
 have hL:=TH g (Av g s) sizes fill hg hao (by show (1:Int)<=1000000;decide) hl
 have hok:=MQ (g:=g) (a:=Av g s) (fill:=fill) (sizes:=sizes) (epoch:=0) hg hao (by show (1:Int)<=1000000;decide) (by decide)
 have hat:=fun j k hj hk=>GZ (g:=g) (a:=Av g s) (fill:=fill) (sizes:=sizes) (ep:=0) hg hao (j:=j) (k:=k) hj hk
 have hfl:(FG g s).cells.length=(Az g).toNat:=Ev g s _
 refine ACalls.ofR tys_ok Tryz.func11 rfl rfl (Ad rfl) ?_
 conv=>whnf
 refine ACalls.beside hF rfl ?_
 rintro _ _ ⟨rfl,rfl⟩
 conv=>whnf
 refine Fn.cl hA ?_
 conv=>whnf
 refine Fn.cl hL ?_
 conv=>whnf
 generalize A3 g (Av g s) fill sizes 0 (Av g s).pos 0=L at hok hat |-
 have hLl:=hok.len
 refine aLoop.ruleRR Nat (fun i=>([(4, .bp 0 0),(8, .bp 1 0),(10, .bp 2 0),(12,D8 L),(13,ze i)],lgH g (Av g s) (BL (FG g s).cells (TL g L i)))) (fun i=>i<=L.length) (fun i=>L.length - i) 0 (Ae _)
  (WkN.r (s:= [0,1,3,4,2]) ⟨⟨rfl,rfl,rfl,rfl,rfl,trivial⟩,⟨rfl,rfl,rfl,rfl,rfl,trivial⟩,rfl,rfl,rfl,rfl,rfl⟩) ?_
 intro i hi
 conv=>whnf
 refine Al (fun h6=>?_) (fun h6=>?_) <;> (repeat rw [Aa] at h6) <;> conv=>whnf
 ·have hT:L.getD i tz∈L:=AC (d:=tz) h6
  have him:=hok.img _ hT
  obtain⟨T,eT⟩:∃ T,T=L.getD i tz:=⟨_,rfl⟩
  rw [<-eT] at him
  have eT':L.getD ((i:Nat):Int).toNat ⟨0,0,0, []⟩=T:=by rw [Aa,eT];rfl
  have hR:=Pr T.seq 0 T.images (by omega) (fun x hx=>by have:=him.2 x hx;omega)
  have hat':∀ k,k<T.images.length+1->_:=fun k hk=>hat i k h6 (by rw [<-eT];exact hk)
  rw [<-eT] at hat'
  apply aDraw.treeK (0) tys_ok mixed (.one 0 (.one 1 (.one 2 (.one 3 (.one 4 (.one 5 (.one 6 (.one 7 (.one 8 (.one 9 (.one 10 (.one 11 .fin)))))))))))) (by kernel_rfl)
  conv=>whnf
  try (refine And.intro (by first | omega | (simp;done)) ?_;conv=>whnf)
  try (refine And.intro (by first | omega | (simp;done)) ?_;conv=>whnf)
  (rw [eT'];(refine Fn.closed hR rfl ?_);rintro _ rfl)
  conv=>whnf
  have hRl:(Bt T.seq 0 T.images).length=T.images.length+1:=Lr _ _ _
  refine aLoop.ruleRR Nat (fun k=>([(4, .bp 0 0),(8, .bp 1 0),(10, .bp 2 0),(12,D8 L),(13,ze i),(14,Qq (Bt T.seq 0 T.images)),(15,ze k)],lgH g (Av g s) (BL (BL (FG g s).cells (TL g L i)) (We g T k)))) (fun k=>k<=T.images.length+1) (fun k=>T.images.length+1 - k) 0 (Ae _)
   (WkN.r (s:= [0,1,2,3,4]) ⟨⟨rfl,rfl,rfl,rfl,rfl,rfl,rfl,trivial⟩,⟨rfl,rfl,rfl,rfl,rfl,trivial⟩,rfl,rfl,rfl,rfl,rfl⟩) ?_
  intro k hk
  conv=>whnf
  rw [hRl]
  refine Al (fun h7=>?_) (fun h7=>?_) <;> (repeat rw [Aa] at h7) <;> conv=>whnf
  ·have hk':k<T.images.length+1:=by omega
   obtain⟨r1,r2⟩:=hat' k hk'
   have hokR:=hok.ok _ r1
   rw [r2] at hokR
   apply aDraw.treeK (0) tys_ok mixed (.one 0 (.one 1 (.one 2 (.one 3 (.one 4 (.one 5 (.one 6 (.one 7 (.one 8 (.one 9 (.one 10 .fin))))))))))) (by kernel_rfl)
   conv=>whnf
   try (refine And.intro (by first | omega | (simp;done)) ?_;conv=>whnf)
   try (refine And.intro (by first | omega | (simp;done)) ?_;conv=>whnf)
   rw [eT']
   obtain⟨S,hS⟩:∃ S,S=AO g T.pos k:=⟨_,rfl⟩
   rw [show (IntKind.i64.wrap (T.pos+(k:Int))).tmod g.sl=S from hS.symm]
   rw [<-hS] at r1
   obtain⟨X,hX⟩:∃ X,X=BL (BL (FG g s).cells (TL g L i)) (We g T k):=⟨_,rfl⟩
   have hXl:X.length=(Az g).toNat:=by rw [hX,Cn,Cn,hfl]
   rw [<-hX]
   obtain⟨r,hr⟩:∃ r,r=(Bt T.seq 0 T.images).getD k rc0:=⟨_,rfl⟩
   rw [<-hr] at hokR
   have er:(Bt T.seq 0 T.images).getD ((k:Nat):Int).toNat ⟨0,0,0,0,0,⟨0,0, []⟩⟩=r:=by rw [Aa,hr];rfl
   refine aLoop.ruleRR Nat (fun c=>([(4, .bp 0 0),(8, .bp 1 0),(10, .bp 2 0),(12,D8 L),(13,ze i),(14,Qq (Bt T.seq 0 T.images)),(15,ze k),(16,ze S),(17,ze c)],lgH g (Av g s) (BL X ((TK g T k).take c)))) (fun c=>c<=2) (fun c=>2 - c) 0 (Ae _)
    (WkN.r (s:= [0,1,2,3,4]) ⟨⟨rfl,rfl,rfl,rfl,rfl,rfl,rfl,rfl,rfl,trivial⟩,⟨rfl,rfl,rfl,rfl,rfl,trivial⟩,rfl,rfl,rfl,rfl,rfl⟩) ?_
   intro c hc
   conv=>whnf
   refine Al (fun h8=>?_) (fun h8=>?_) <;> (repeat rw [Aa] at h8) <;> conv=>whnf
   ·have hsx:=TJ (g:=g) (t:=T) (k:=k) X (show c<2 by omega)
    rw [<-hS,<-hr] at hsx
    have hlx:(BL X ((TK g T k).take c)).length=(Az g).toNat:=by rw [Cn,hXl]
    generalize BL X ((TK g T k).take c)=cs at hsx hlx |-
    have hc01:(c:Int)=0\/(c:Int)=1:=by omega
    have hoL:FJ g (c:Nat) S=true:=T0 hc01 r1
    have hbd:=GJ (g:=g) hc01 r1
    have hcg:=CW hg
    have hla:=CP g c S hg hoL
    have hrc:=F_ g r c S hokR hoL
    have hE:(cs.map AU).getD (AK g c S).toNat []=AU (cs.getD (AK g c S).toNat cz):=Fb hlx (by omega)
    apply aDraw.treeK (0) tys_ok mixed (.one 0 (.one 1 (.one 2 (.one 3 (.one 4 (.one 6 (.one 7 (.one 8 (.one 9 (.one 10 (.one 11 (.one 12 (.one 5 (.one 13 (.one 14 (.one 15 (.one 16 .fin))))))))))))))))) (by kernel_rfl)
    conv=>whnf
    try (refine And.intro (by first | omega | (simp;done)) ?_;conv=>whnf)
    refine Fn.cl hla ?_
    conv=>whnf
    ((try rw [er]);(refine Fn.closed hrc rfl ?_);rintro _ rfl)
    conv=>whnf
    try (refine And.intro (by first | omega | (simp;done)) ?_;conv=>whnf)
    try (refine And.intro ⟨rfl,by first | rfl | (simp;done) | (simp;omega),by first | omega | (simp;omega)⟩ ?_;conv=>whnf)
    (first | rw [hE] | skip)
    conv=>whnf
    all_goals
     refine⟨c+1,by omega,by omega,?_⟩
     rw [hsx]
     exact WkN.r (s:= [0,1,2,3,4]) ⟨⟨rfl,rfl,rfl,rfl,rfl,rfl,rfl,rfl,A4 (by omega),trivial⟩,⟨rfl,rfl,rfl,rfl,congrArg (fun l=>some (AB.row _ _ l)) (by rw [Eu];rfl),trivial⟩,rfl,rfl,rfl,rfl,rfl⟩
   ·have ec:c=(TK g T k).length:=by simp [TK];omega
    rw [ec,List.take_length]
    repeat' (first | (refine aSeq.go ?_;conv=>whnf) | fail)
    refine⟨k+1,by omega,by omega,?_⟩
    rw [We,FQ,<-hX]
    exact WkN.r (s:= [0,1,2,3,4]) ⟨⟨rfl,rfl,rfl,rfl,rfl,rfl,A4 (by omega),trivial⟩,⟨rfl,rfl,rfl,rfl,rfl,trivial⟩,rfl,rfl,rfl,rfl,rfl⟩
  ·have ek:k=T.images.length+1:=by omega
   repeat' (first | (refine aSeq.go ?_;conv=>whnf) | fail)
   refine⟨i+1,by omega,by omega,?_⟩
   rw [TL,<-eT,FQ,<-ek]
   exact WkN.r (s:= [0,1,2,3,4]) ⟨⟨rfl,rfl,rfl,rfl,A4 (by omega),trivial⟩,⟨rfl,rfl,rfl,rfl,rfl,trivial⟩,rfl,rfl,rfl,rfl,rfl⟩
 ·have ei:i=L.length:=by omega
  subst ei
  exact⟨_, .tp [.ag [.ow 0 (Az g).toNat,nilV,ze 0,ze (-1)],D8 L], [.row 87 3 ((Jk g s L).cells.map AU)],fun _ _ h=>h,WkN.r (s:= [4]) ⟨⟨rfl,trivial⟩,⟨rfl,trivial⟩,rfl,rfl,rfl,rfl,rfl⟩,rfl,rfl⟩

theorem KE {g:Geo} {a:An} {fill:UInt8} (hg:AW g=true) (hsq:a.seq<=1000000):∀ (sizes:List Int) (i:Nat) (pos used:Int),0<=used/\used<=g.sl->i+sizes.length<=1000->FE g (A3 g a fill sizes i pos used) (a.seq+i) pos (g.sl - used)=true
 | [],_,_,_,_,_=>rfl
 | s::r,i,pos,used,hu,hi=>by
  have hn:=Gg s
  simp only [Ah] at hi
  unfold A3
  by_cases hc:g.sl<used+(B6 s:Nat)+1
  ·rw [if_pos hc];rfl
  ·rw [if_neg hc]
   have ih:=KE (fill:=fill) hg hsq r (i+1) ((pos+(B6 s:Nat)+1).tmod g.sl) (used+(B6 s:Nat)+1) (by omega) (by omega)
   have e1:(Cb g a fill i pos (B6 s)).seq=a.seq+i:=rfl
   have e2:(Cb g a fill i pos (B6 s)).pos=pos:=rfl
   have e3:(Cb g a fill i pos (B6 s)).n=(B6 s:Nat)+1:=rfl
   have e4:(Cb g a fill i pos (B6 s)).images=(List.range (B6 s)).map fun k=>FF g fill i k:=rfl
   unfold FE
   rw [e1,e2,e3,e4,decide_eq_true rfl,decide_eq_true (by omega),decide_eq_true rfl,decide_eq_true (by omega),decide_eq_true (by omega),decide_eq_true (by simp)]
   rw [show a.seq+(i:Int)+1=a.seq+((i+1:Nat):Int) by omega,show pos+(((B6 s:Nat):Int)+1)=pos+(B6 s:Nat)+1 by omega,show g.sl - used - (((B6 s:Nat):Int)+1)=g.sl - (used+(B6 s:Nat)+1) by omega,ih]
   simp only [Be,BM,List.all_map,A8]
   intro k _
   exact LW hg fill i k
section
variable {g:Geo} {s:ByteArray} {b:An} {fill:UInt8} {sizes:List Int} {D:Dk}
theorem Un (hg:AW g=true) (hl:sizes.length<=40) (hD:DkOk D) (hn:(D.cells.length:Int)=Az g) (hb:AY g b=true) (hbs:b.seq=1) (hbp:b.pos=0):SK g D (G0 b (A3 g (Av g s) fill sizes 0 (Av g s).pos 0))=true:=by
 obtain⟨g1,g2,g3,g4,g5⟩:=Ao.1 hg
 have hu:=Nr hg
 have hr:=KE (a:=Av g s) (fill:=fill) hg (by show (1:Int)<=1000000;decide) sizes 0 (Av g s).pos 0 ⟨Bo _,by omega⟩ (by omega)
 have e1:(Av g s).seq+((0:Nat):Int)=b.seq:=by rw [hbs];rfl
 have e2:(Av g s).pos=b.pos:=by rw [hbp];rfl
 unfold SK
 rw [hg,Oa.2 hD,decide_eq_true hn]
 show (true&&((true&&true)&&(((true&&AY g b)&&FE g (A3 g (Av g s) fill sizes 0 (Av g s).pos 0) b.seq b.pos g.sl)&&(decide ((0:Int)<=0)&&(decide ((0:Int)<FB g)&&EV g (G0 b _))))))=true
 rw [e1,e2,Int.sub_zero] at hr
 rw [e2,hb,hr,decide_eq_true (show (0:Int)<FB g by omega)]
 rfl
end
theorem StSm.big {S:Stt} (h:StSm S):StBig S:=
 ⟨by have:=h.l;omega,by have:=h.h.1;omega,⟨by have:=h.t.1;omega,fun t ht=>⟨by have:=(h.t.2 t ht).1;omega,fun x hx=>by have:=(h.t.2 t ht).2 x hx;omega⟩⟩,by have:=h.o;omega⟩
def lx:ByteArray:=⟨#[120]⟩
theorem lab_x:Di lx.data.toList=0:=by decide +kernel
theorem TI (g:Geo) (s:ByteArray):Jk g s []=FG g s:=by
 unfold Jk
 rw [show TL g [] ([]:List Tx).length=[] from rfl,show BL (FG g s).cells []=(FG g s).cells from rfl]
theorem I2 (g:Geo) (a:An) (fill:UInt8) (p:Int):A3 g a fill [] 0 p 0=[]:=rfl
theorem wakes22_fn:Fn Tryz.prog 17 [] fun r=>r = .v (.bool true):=by
 have h1:=UX 0 0 0 0 1
 have hg:=SM 0 0 0 0 1
 have hc:Az (Kl 0 0 0 0 1)=34:=by decide
 have ht:K7 (Kl 0 0 0 0 1) []=33:=by decide
 generalize Kl 0 0 0 0 1=g at h1 hg hc ht
 have hs:Di lx.data.toList=0:=lab_x
 have h2:=RY g lx hg hs (by show (1:Nat)<=_;decide)
 have hf:=L0 (s:=lx) (fill:=0) (sizes:= []) hg hs
 have hdk:=Q0 (s:=lx) (fill:=0) (sizes:= []) hg hs
 rw [I2,TI] at hf hdk
 have hvm:=QK (s:=lx) (fill:=0) (sizes:= []) (b:=Av g lx) (d:=FG g lx) hg hs (by simp) hdk (DO hg hs) (by rw [I2];exact hf) (by show (-1:Int)<0;decide) rfl rfl (Bo _) (by show (0:Int)<=((A3 g (Av g lx) 0 [] 0 (Av g lx).pos 0).length:Nat);omega) (.inl rfl) (by show (1:Int)≠_;decide) (by show (0:Int)≠_;decide)
 rw [I2,AG] at hvm
 obtain⟨D,m1,m2,m3,m4⟩:=hvm
 have hD:=Jh hg hdk hf.len
 have hsm:=Jg (g:=g) (d:=FG g lx) hg
 have h3:=LP g _ hg hdk hf.len
 rw [m1] at hD hsm h3
 simp only at hD hsm h3
 have hna:=Iz (n:=0) (DO (g:=g) (s:=lx) hg hs) (by show (1:Int)≠_;decide) (by show (0:Int)≠_;decide) (by show (1:Int)+0 - 1<=_;decide)
 have hok:=Un (s:=lx) (fill:=0) (sizes:= []) hg (by simp) hD.1 (by rw [hD.2];exact hf.len) hna rfl rfl
 rw [I2] at hok
 have hN:=hD.1.n
 have hM:=hD.1.m
 have h4:=St g D _ (by omega) (by omega) hsm.big
 have e4:SK g D (G0 (CF (Av g lx) 0) [])=true:=hok
 rw [e4] at h4
 have hr:D.reqs=33:=by
  rw [m4,ht]
  show min ((0:Int)+(33:Nat)) 1048576=33
  decide
 have hcl:(FG g lx).cells.length=34:=by have:=hf.len;omega
 obtain⟨S,hS⟩:∃ S,S=G0 (CF (Av g lx) 0) []:=⟨_,rfl⟩
 have q1:S.a.gen=2:=by rw [hS];rfl
 have q2:S.a.epoch=1:=by rw [hS];rfl
 have q3:S.a.last=0:=by rw [hS];rfl
 have q4:S.txns.length=0:=by rw [hS];rfl
 rw [<-hS] at h3 h4
 generalize FG g lx=d at h2 h3 hcl
 refine Fn.st Tryz.func17 rfl ?_
 conv=>whnf
 refine Fn.cl h1 ?_
 conv=>whnf
 refine Fn.cl h2 ?_
 conv=>whnf
 refine Fn.cl h3 ?_
 conv=>whnf
 rw [show ((d.cells.length:Int) == 34)=true by rw [hcl];rfl]
 conv=>whnf
 rw [show (S.a.gen == 2)=true by rw [q1];rfl]
 conv=>whnf
 rw [show (S.a.epoch == 1)=true by rw [q2];rfl]
 conv=>whnf
 rw [show (S.a.last == 0)=true by rw [q3];rfl]
 conv=>whnf
 rw [show ((S.txns.length:Int) == 0)=true by rw [q4];rfl]
 conv=>whnf
 rw [show (D.reqs == 33)=true by rw [hr];rfl]
 conv=>whnf
 refine Fn.cl h4 ?_
 exact⟨_,ri,rfl⟩
theorem PJ {n:Nat} {d:Dk} {es:List (List AV)} (hn:d.cells.length=n) (he:es=d.cells.map AU) (hc:d.cache=[]) (hr:d.reqs=0) (hl:d.left = -1):SubL [.sl 3 n fun i=>es.getD i [],nilV,ze 0,ze (-1)] (F8 d):=by
 subst he hn
 unfold F8
 rw [hc,hr,hl]
 exact⟨AH (f:=AU) d.cells rfl rfl,AP 2 _,fun _ _ h=>h,fun _ _ h=>h,trivial⟩
def Fy (d:Dk) (a:Int) (c:Cel):Dk:={ d with cells:=d.cells.set a.toNat c }
def Dk.fault (d:Dk) (kind a frm bit bits:Int):Dk × Int:=
 if BW a 0 ((d.cells.length:Int) - 1)=false then (d,1) else if 0<d.cache.length then (d,9) else
 let c:=d.cells.getD a.toNat cz
 if kind=11 then (Fy d a { c with state:=if c.state=0 then 1 else c.state },0)
 else if kind=12 then (Fy d a { c with state:=2 },0)
 else if kind=13 then (if bit<0\/bits<0 then (d,1) else (Fy d a { c with bytes:=Mb c.bytes bit bits },0))
 else if kind=14 then (Fy d a { c with bytes:=c.old },0)
 else if kind=15 then (if BW frm 0 ((d.cells.length:Int) - 1)=false then (d,1) else (Fy d a { c with bytes:=(d.cells.getD frm.toNat cz).bytes },0))
 else (d,1)
theorem VO (d:Dk) (a:Int) (c:Cel):rkH (Fy d a c)=[.box 73 (JN (.ow 1 d.cells.length) (.ow 2 d.cache.length) d.reqs d.left), .row 87 3 ((d.cells.map AU).set a.toNat (AU c)), .row 130 2 (d.cache.map Dy)]:=by
 unfold rkH Fy
 simp only [A_,List.map_set]
theorem U0 {d:Dk} {a:Int} (ha:0<=a/\a<d.cells.length):(d.cells.map AU).getD a.toNat []=AU (d.cells.getD a.toNat cz):=AX (by omega)
theorem Uz {d:Dk} {a:Int} (ha:0<=a/\a<d.cells.length):Fy d a (d.cells.getD a.toNat cz)=d:=by
 unfold Fy
 obtain⟨c,w,r,l⟩:=d
 simp only [Dk.mk.injEq,and_true]
 simp only at ha
 rw [List.getD_eq_getElem?_getD,List.getElem?_eq_getElem (by omega),Bb,List.set_getElem_self]
theorem Rq (d:Dk) (kind a frm bit bits:Int) (h:DkOk d):ACalls Tryz.prog false 45 [.bp 0 0, .v (.int .i64 kind), .v (.int .i64 a), .v (.int .i64 frm), .v (.int .i64 bit), .v (.int .i64 bits)] (rkH d) fun r H=>r = .v (.int .i64 (d.fault kind a frm bit bits).2)/\H=rkH (d.fault kind a frm bit bits).1:=by
 have hn:=h.n
 have w1:IntKind.i64.wrap ((d.cells.length:Int) - 1)=d.cells.length - 1:=wi (by omega)
 have i1:=TV a 0 ((d.cells.length:Int) - 1)
 have i2:=TV frm 0 ((d.cells.length:Int) - 1)
 refine ACalls.ofR tys_ok Tryz.func45 rfl rfl (Ad rfl) ?_
 conv=>whnf
 rw [w1]
 refine Fn.cl i1 ?_
 cases hA:BW a 0 ((d.cells.length:Int) - 1) with
 | false=>
  exact⟨_, .v (.int .i64 1),rkH d,fun _ _ h=>h,WkN.r (s:= [0,1,2]) ⟨⟨rfl,trivial⟩,⟨rfl,rfl,rfl,trivial⟩,rfl,rfl,rfl,rfl,rfl⟩,by rw [Dk.fault,if_pos hA],by rw [Dk.fault,if_pos hA]⟩
 | true=>
  have ha:0<=a/\a<d.cells.length:=by rw [AE] at hA;omega
  have hmem:a.toNat<d.cells.length:=by omega
  have hgc:=U0 ha
  have hA':¬BW a 0 ((d.cells.length:Int) - 1)=false:=by rw [hA];simp
  conv=>whnf
  by_cases hc:0<d.cache.length
  ·rw [show decide ((d.cache.length:Int) > 0)=true from decide_eq_true (by omega)]
   exact⟨_, .v (.int .i64 9),rkH d,fun _ _ h=>h,WkN.r (s:= [0,1,2]) ⟨⟨rfl,trivial⟩,⟨rfl,rfl,rfl,trivial⟩,rfl,rfl,rfl,rfl,rfl⟩,by rw [Dk.fault,if_neg hA',if_pos hc],by rw [Dk.fault,if_neg hA',if_pos hc]⟩
  ·rw [show decide ((d.cache.length:Int) > 0)=false from decide_eq_false (by omega)]
   have hE:∀ {D:Dk} {e:Int},(D,e)=d.fault kind a frm bit bits->(d.fault kind a frm bit bits).2=e/\(d.fault kind a frm bit bits).1=D:=fun q=>by rw [<-q];exact⟨rfl,rfl⟩
   refine⟨ha,?_⟩
   conv=>whnf
   have hb:(d.cells.getD a.toNat cz).bytes.length<=200:=(h.c _ (AC (d:=cz) hmem)).2.1
   have ho:(d.cells.getD a.toNat cz).old.length<=200:=(h.c _ (AC (d:=cz) hmem)).2.2
   have c1:=Tk (d.cells.getD a.toNat cz).bytes bit bits (by omega)
   have c2:=DJ (d.cells.getD a.toNat cz).old (by omega)
   have hget:d.fault kind a frm bit bits=d.fault kind a frm bit bits:=rfl
   conv at hget=>rhs;rw [Dk.fault,if_neg hA',if_neg hc]
   simp only at hget
   generalize hq:d.cells.getD a.toNat cz=c at hget hgc hb ho c1 c2
   have LDB:(d.cells.map AU).length=d.cells.length:=Ab _
   repeat' (first | (refine aSeq.go ?_;conv=>whnf) | fail)
   have EL:=fun(c':Cel)=>VO d a c'
   have RW:∀ c':Cel,((d.cells.map AU).set a.toNat (AU c'))=((Fy d a c').cells.map AU):=fun c'=>by rw [Fy];simp only [List.map_set]
   have FIN:∀ c':Cel,d.fault kind a frm bit bits=(Fy d a c',0)->∀ es:List (List AV),es=(d.cells.map AU).set a.toNat (AU c')->∃ y r H2,(∀ (x:Ctx) (v:Value),Rd (AV.v (Value.int IntKind.i64 0)) x v->Rd y x v)/\WkR (rkH d).length [(0,y)] [AB.box 73 (JN (.ow 1 d.cells.length) (.ow 2 d.cache.length) d.reqs d.left), .row 87 3 es, .row 130 2 (d.cache.map Dy)] [(0,r)] H2/\(fun r H=>r=AV.v (Value.int IntKind.i64 (d.fault kind a frm bit bits).2)/\H=rkH (d.fault kind a frm bit bits).1) r H2:=fun c' hf es he=>by
    refine⟨_, .v (.int .i64 0),rkH (Fy d a c'),fun _ _ h=>h,WkN.r (s:= [0,1,2]) ?_,by rw [hf],by rw [hf]⟩
    rw [EL,he]
    exact⟨⟨rfl,trivial⟩,⟨rfl,rfl,rfl,trivial⟩,rfl,rfl,rfl,rfl,rfl⟩
   have ONE:d.fault kind a frm bit bits=(d,1)->∃ y r H2,(∀ (x:Ctx) (v:Value),Rd (AV.v (Value.int IntKind.i64 1)) x v->Rd y x v)/\WkR (rkH d).length [(0,y)] (rkH d) [(0,r)] H2/\(fun r H=>r=AV.v (Value.int IntKind.i64 (d.fault kind a frm bit bits).2)/\H=rkH (d.fault kind a frm bit bits).1) r H2:=fun hf=>
    ⟨_, .v (.int .i64 1),rkH d,fun _ _ h=>h,WkN.r (s:= [0,1,2]) ⟨⟨rfl,trivial⟩,⟨rfl,rfl,rfl,trivial⟩,rfl,rfl,rfl,rfl,rfl⟩,by rw [hf],by rw [hf]⟩
   have LSET:∀ e:List AV,((d.cells.map AU).set a.toNat e).length=d.cells.length:=fun e=>by rw [A_,Ab]
   have GSET:∀ e:List AV,((d.cells.map AU).set a.toNat e).getD a.toNat []=e:=fun e=>AM (by simpa using hmem)
   refine Al (fun k1=>?_) (fun k1=>?_) <;> (repeat rw [Aa] at k1) <;> conv=>whnf
   ·rw [if_pos k1] at hget
    refine⟨⟨rfl,LDB.symm,hmem⟩,?_⟩
    conv=>whnf
    rw [hgc]
    conv=>whnf
    refine Al (fun k2=>?_) (fun k2=>?_) <;> (repeat rw [Aa] at k2) <;> conv=>whnf
    ·rw [if_pos k2] at hget
     refine⟨⟨rfl,LDB.symm,hmem⟩,?_⟩
     conv=>whnf
     rw [hgc]
     conv=>whnf
     exact FIN _ hget _ rfl
    ·rw [if_neg k2] at hget
     refine⟨_, .v (.int .i64 0),rkH d,fun _ _ h=>h,WkN.r (s:= [0,1,2]) ⟨⟨rfl,trivial⟩,⟨rfl,rfl,rfl,trivial⟩,rfl,rfl,rfl,rfl,rfl⟩,by rw [hget],?_⟩
     rw [hget]
     show _=rkH (Fy d a c)
     rw [<-hq,Uz ha]
   ·rw [if_neg k1] at hget
    refine Al (fun k2=>?_) (fun k2=>?_) <;> (repeat rw [Aa] at k2) <;> conv=>whnf
    ·rw [if_pos k2] at hget
     refine⟨⟨rfl,LDB.symm,hmem⟩,?_⟩
     conv=>whnf
     rw [hgc]
     conv=>whnf
     exact FIN _ hget _ rfl
    ·rw [if_neg k2] at hget
     refine Al (fun k3=>?_) (fun k3=>?_) <;> (repeat rw [Aa] at k3) <;> conv=>whnf
     ·rw [if_pos k3] at hget
      refine Al (fun k4=>?_) (fun k4=>?_) <;> (repeat rw [Aa] at k4) <;> conv=>whnf
      ·rw [if_pos (.inl k4)] at hget
       exact ONE hget
      ·refine Al (fun k5=>?_) (fun k5=>?_) <;> (repeat rw [Aa] at k5) <;> conv=>whnf
       ·rw [if_pos (.inr k5)] at hget
        exact ONE hget
       ·rw [if_neg (by omega)] at hget
        refine⟨⟨rfl,LDB.symm,hmem⟩,?_⟩
        conv=>whnf
        rw [hgc]
        conv=>whnf
        refine Fn.cl c1 ?_
        refine⟨⟨rfl,LDB.symm,hmem⟩,?_⟩
        conv=>whnf
        rw [hgc]
        conv=>whnf
        exact FIN _ hget _ rfl
     ·rw [if_neg k3] at hget
      refine Al (fun k4=>?_) (fun k4=>?_) <;> (repeat rw [Aa] at k4) <;> conv=>whnf
      ·rw [if_pos k4] at hget
       refine⟨⟨rfl,LDB.symm,hmem⟩,?_⟩
       conv=>whnf
       rw [hgc]
       conv=>whnf
       refine Fn.cl c2 ?_
       refine⟨⟨rfl,LDB.symm,hmem⟩,?_⟩
       conv=>whnf
       rw [hgc]
       conv=>whnf
       exact FIN _ hget _ rfl
      ·rw [if_neg k4] at hget
       refine Al (fun k5=>?_) (fun k5=>?_) <;> (repeat rw [Aa] at k5) <;> conv=>whnf
       ·rw [if_pos k5] at hget
        rw [w1]
        refine Fn.cl i2 ?_
        cases hF:BW frm 0 ((d.cells.length:Int) - 1) with
        | false=>
         rw [if_pos hF] at hget
         conv=>whnf
         exact ONE hget
        | true=>
         rw [if_neg (by rw [hF];simp)] at hget
         have hf:0<=frm/\frm<d.cells.length:=by rw [AE] at hF;omega
         have c3:=DJ (d.cells.getD frm.toNat cz).bytes (by have:=(h.c _ (AC (d:=cz) (show frm.toNat<d.cells.length by omega))).2.1;omega)
         refine⟨hf,?_⟩
         refine⟨⟨rfl,LDB.symm,show frm.toNat<d.cells.length by omega⟩,?_⟩
         conv=>whnf
         rw [U0 hf]
         conv=>whnf
         refine Fn.cl c3 ?_
         refine⟨⟨rfl,LDB.symm,hmem⟩,?_⟩
         conv=>whnf
         rw [hgc]
         conv=>whnf
         exact FIN _ hget _ rfl
       ·rw [if_neg k5] at hget
        exact ONE hget
structure Q4 where
 a:Int
 b:Int
 c:Int
 d:Int
def X4 (x:Q4):List AV:= [.v (.int .i64 x.a), .v (.int .i64 x.b), .v (.int .i64 x.c), .v (.int .i64 x.d)]
def q4z:Q4:=⟨0,0,0,0⟩
def Tt (l:List Q4):AV:= .sl 4 l.length fun i=>X4 (l.getD i ⟨0,0,0,0⟩)
def E8 (n:Int) (d:Dk) (x:Q4):Dk:=(d.fault (11+Dv x.a 5) (Dv x.b n) (Dv x.c n) (Dv x.c 1000) (Dv x.d 1000)).1
def Hw (d:Dk) (l:List Q4):Dk:=(l.take 20).foldl (E8 d.cells.length) d
theorem VP {d:Dk} {a:Int} {c:Cel} (h:DkOk d) (hc:(0<=c.state/\c.state<=2)/\c.bytes.length<=200/\c.old.length<=200):DkOk (Fy d a c):=by
 refine⟨by simpa [Fy] using h.n,h.m,h.r,h.l,fun x hx=>?_,fun w hw=>by simpa [Fy] using h.w w hw⟩
 rcases Ck hx with hx | rfl
 ·exact h.c x hx
 ·exact hc
theorem Q9 {d:Dk} (h:DkOk d) (i:Nat):(0<=(d.cells.getD i cz).state/\(d.cells.getD i cz).state<=2)/\(d.cells.getD i cz).bytes.length<=200/\(d.cells.getD i cz).old.length<=200:=by
 by_cases hi:i<d.cells.length
 ·exact h.c _ (AC (d:=cz) hi)
 ·rw [List.getD_eq_getElem?_getD,List.getElem?_eq_none (by omega)]
  exact⟨⟨Bo _,show (0:Int)<=2 by decide⟩,by simp [cz],by simp [cz]⟩
theorem DkOk.fault {d:Dk} (h:DkOk d) (kind a frm bit bits:Int):DkOk (d.fault kind a frm bit bits).1/\(d.fault kind a frm bit bits).1.cells.length=d.cells.length/\(d.fault kind a frm bit bits).1.cache=d.cache/\(d.fault kind a frm bit bits).1.left=d.left/\(d.fault kind a frm bit bits).1.reqs=d.reqs:=by
 have hc:=Q9 h a.toNat
 have hf:=Q9 h frm.toNat
 have go:∀ c:Cel,((0<=c.state/\c.state<=2)/\c.bytes.length<=200/\c.old.length<=200)->DkOk (Fy d a c)/\(Fy d a c).cells.length=d.cells.length/\(Fy d a c).cache=d.cache/\(Fy d a c).left=d.left/\(Fy d a c).reqs=d.reqs:=fun c h1=>⟨VP h h1,by simp [Fy],rfl,rfl,rfl⟩
 have st:DkOk d/\d.cells.length=d.cells.length/\d.cache=d.cache/\d.left=d.left/\d.reqs=d.reqs:=⟨h,rfl,rfl,rfl,rfl⟩
 unfold Dk.fault
 split
 ·exact st
 ·split
  ·exact st
  ·simp only
   split
   ·refine go _ ⟨?_,hc.2⟩
    simp only
    split
    ·exact⟨by decide,by decide⟩
    ·exact hc.1
   ·split
    ·exact go _ ⟨⟨show (0:Int)<=2 by decide,Bo 2⟩,hc.2⟩
    ·split
     ·split
      ·exact st
      ·exact go _ ⟨hc.1,by simp only [Fc];exact hc.2.1,hc.2.2⟩
     ·split
      ·exact go _ ⟨hc.1,hc.2.2,hc.2.2⟩
      ·split
       ·split
        ·exact st
        ·exact go _ ⟨hc.1,hf.2.1,hc.2.2⟩
       ·exact st
theorem IZ {n:Int}:∀ (l:List Q4) {d:Dk},DkOk d->DkOk (l.foldl (E8 n) d)/\(l.foldl (E8 n) d).cells.length=d.cells.length/\(l.foldl (E8 n) d).cache=d.cache/\(l.foldl (E8 n) d).left=d.left/\(l.foldl (E8 n) d).reqs=d.reqs
 | [],d,h=>⟨h,rfl,rfl,rfl,rfl⟩
 | x::l,d,h=>by
  obtain⟨h1,h2,h3,h4,h5⟩:=h.fault (11+Dv x.a 5) (Dv x.b n) (Dv x.c n) (Dv x.c 1000) (Dv x.d 1000)
  obtain⟨k1,k2,k3,k4,k5⟩:=IZ l (d:=E8 n d x) h1
  exact⟨k1,k2.trans h2,k3.trans h3,k4.trans h4,k5.trans h5⟩
theorem Nw (n:Int) (d:Dk) {l:List Q4} {k:Nat} (h:k<l.length):(l.take (k+1)).foldl (E8 n) d=E8 n ((l.take k).foldl (E8 n) d) (l.getD k q4z):=by
 rw [Bm,List.foldl_append,List.getElem?_eq_getElem h]
 simp [List.getD_eq_getElem?_getD,List.getElem?_eq_getElem h]
theorem Xj {m:Nat} (h:Nat.ble 6 m=true):∀ z∈ [3,4,5],z<m:=fun z hz=>by
 have:=Ad h
 simp at hz
 omega
def Sy (d:Dk) (l:List Q4) (k:Nat):Dk:=(l.take k).foldl (E8 d.cells.length) d
theorem QV (g:Geo) (d:Dk) (l:List Q4) (h:DkOk d) (hl:l.length<=1000000):Fn Tryz.prog 12 [.ag (A9 g), .ag (F8 d),Tt l] fun r=>r = .ag (F8 (Hw d l)):=by
 have hn:=h.n
 have hm:=h.m
 have ho:=Ql d (by omega) (by omega) (fun c hc=>by have:=(h.c c hc).2;omega) (fun w hw=>by have:=(h.w w hw).2;omega)
 have wn:IntKind.u64.wrap (d.cells.length:Int)=d.cells.length:=by rw [IntKind.wrap_u64];omega
 refine Fn.st Tryz.func12 rfl ?_
 conv=>whnf
 refine ACalls.beside ho rfl ?_
 rintro _ _ ⟨rfl,rfl⟩
 conv=>whnf
 refine aLoop.ruleRR Nat (fun k=>([(2,Tt l),(4, .bp 1 0),(6, .bp 2 0),(7, .bp 3 0),(8, .v (.int .i64 k))], [.box 23 (A9 g), .box 32 (F8 d), .box 32 [.v (.slice none 0 0), .v (.slice none 0 0), .v (.int .i64 0), .v (.int .i64 0)], .box 73 (JN (.ow 4 (Sy d l k).cells.length) (.ow 5 (Sy d l k).cache.length) (Sy d l k).reqs (Sy d l k).left), .row 87 3 ((Sy d l k).cells.map AU), .row 130 2 ((Sy d l k).cache.map Dy)])) (fun k=>k<=l.length/\k<=20) (fun k=>20 - k) 0 ⟨Ae _,Ae _⟩
  (WkN.r (s:= [0,1,2,3,4,5]) ⟨⟨rfl,rfl,rfl,rfl,rfl,trivial⟩,⟨rfl,rfl,rfl,rfl,rfl,rfl,trivial⟩,rfl,rfl,rfl,rfl,rfl⟩) ?_
 rintro k ⟨hk,hk2⟩
 have hD:DkOk (Sy d l k)/\_:=IZ (n:=d.cells.length) (l.take k) h
 have hsx:k<l.length->Sy d l (k+1)=E8 d.cells.length (Sy d l k) (l.getD k q4z):=fun hk=>Nw d.cells.length d (l:=l) (k:=k) hk
 have hend:¬(k<l.length/\k<20)->Sy d l k=Hw d l:=fun hq=>by
  unfold Hw Sy
  by_cases e:k=20
  ·subst e;rfl
  ·rw [List.take_of_length_le (show l.length<=k by omega),List.take_of_length_le (show l.length<=20 by omega)]
 generalize hX:Sy d l k=D at hD hsx hend |-
 obtain⟨hD1,hD2,hD3,hD4,hD5⟩:=hD
 have w1:IntKind.i64.wrap ((k:Int)+1)=k+1:=wi (by omega)
 conv=>whnf
 refine Al (fun h6=>?_) (fun h6=>?_) <;> (repeat rw [Aa] at h6) <;> conv=>whnf
 ·refine Al (fun h7=>?_) (fun h7=>?_) <;> (repeat rw [Aa] at h7) <;> conv=>whnf
  ·rw [show decide ((k:Int)<20)=true from decide_eq_true (by omega)]
   conv=>whnf
   repeat' (first | (refine aSeq.go ?_;conv=>whnf) | fail)
   rw [show l.getD k q4z=l.getD ((k:Nat):Int).toNat ⟨0,0,0,0⟩ by rw [Aa];rfl] at hsx
   generalize hx:l.getD ((k:Nat):Int).toNat ⟨0,0,0,0⟩=x at hsx
   have hf:=Rq D (11+Dv x.a 5) (Dv x.b d.cells.length) (Dv x.c d.cells.length) (Dv x.c 1000) (Dv x.d 1000) hD1
   have hsx:=hsx h6
   have b5:0<=Dv x.a 5/\Dv x.a 5<5:=Et (by decide) (by decide)
   have w11:IntKind.i64.wrap (11+IntKind.i64.wrap ((IntKind.u64.wrap x.a).tmod 5))=11+Dv x.a 5:=by
    show IntKind.i64.wrap (11+Dv x.a 5)=_
    exact wi (by omega)
   apply aDraw.treeK (2 ^ 172) tys_ok mixed (.one 0 (.one 1 (.one 2 (.one 3 (.one 4 (.one 5 (.one 6 (.one 7 (.one 8 (.one 9 (.one 10 (.one 11 (.one 12 (.one 13 (.one 14 (.one 15 (.one 16 (.one 17 (.one 18 (.one 19 (.one 20 (.one 21 (.one 22 (.one 23 (.one 24 (.one 25 (.one 26 (.one 27 (.one 28 (.one 29 (.one 30 (.one 31 (.one 32 (.one 33 (.one 34 (.one 35 (.one 36 (.one 37 (.one 38 (.one 39 (.one 40 (.one 41 (.one 42 (.one 43 (.one 44 .fin))))))))))))))))))))))))))))))))))))))))))))) (by kernel_rfl)
   conv=>whnf
   try (refine And.intro (by first | omega | (simp;done)) ?_;conv=>whnf)
   try (refine And.intro (by first | omega | (simp;done)) ?_;conv=>whnf)
   try (refine And.intro (by first | omega | (simp;done)) ?_;conv=>whnf)
   try (refine And.intro (by first | omega | (simp;done)) ?_;conv=>whnf)
   try (refine And.intro (by first | omega | (simp;done)) ?_;conv=>whnf)
   try (refine And.intro (by first | omega | (simp;done)) ?_;conv=>whnf)
   try (refine And.intro (by first | omega | (simp;done)) ?_;conv=>whnf)
   try (refine And.intro (by first | omega | (simp;done)) ?_;conv=>whnf)
   try (refine And.intro (by first | omega | (simp;done)) ?_;conv=>whnf)
   try (refine And.intro (by first | omega | (simp;done)) ?_;conv=>whnf)
   try (refine And.intro (by first | omega | (simp;done)) ?_;conv=>whnf)
   try (refine And.intro (by first | omega | (simp;done)) ?_;conv=>whnf)
   try (refine And.intro (by first | omega | (simp;done)) ?_;conv=>whnf)
   try (refine And.intro (by first | omega | (simp;done)) ?_;conv=>whnf)
   try (refine And.intro (by first | omega | (simp;done)) ?_;conv=>whnf)
   (rw [hx,wn,w11];refine ACalls.frame [3,4,5] hf rfl rfl rfl rfl (by decide) (Xj rfl) ⟨rfl,rfl,rfl,trivial⟩ ?_;rintro _ _ ⟨rfl,rfl⟩)
   conv=>whnf
   repeat' (first | (refine aSeq.go ?_;conv=>whnf) | fail)
   refine⟨k+1,⟨by omega,by omega⟩,by omega,?_⟩
   rw [hsx]
   exact WkN.r (s:= [0,1,2,3,4,5]) ⟨⟨rfl,rfl,rfl,rfl,A4 (by omega),trivial⟩,⟨rfl,rfl,rfl,rfl,rfl,rfl,trivial⟩,rfl,rfl,rfl,rfl,rfl⟩
  ·rw [hend (by omega)]
   refine And.intro (Ab _).symm ?_
   refine And.intro (Ab _).symm ?_
   exact⟨.ag (F8 (Hw d l)),AJ ⟨AH (f:=AU) _ rfl rfl,AH (f:=Dy) _ rfl rfl,ri,ri,trivial⟩,rfl⟩
 ·rw [hend (by omega)]
  refine And.intro (Ab _).symm ?_
  refine And.intro (Ab _).symm ?_
  exact⟨.ag (F8 (Hw d l)),AJ ⟨AH (f:=AU) _ rfl rfl,AH (f:=Dy) _ rfl rfl,ri,ri,trivial⟩,rfl⟩
@[reducible] def Xu (g:Geo) (x:AV) (s:Stt) (e:Int):List AV:= [.v (.int .i64 g.z), .v (.int .i64 g.d), .v (.int .i64 g.sp), .v (.int .i64 g.sl), .v (.int .i64 g.an),x, .v (.int .i64 s.a.gen), .v (.int .i64 s.a.epoch), .v (.int .i64 s.a.pos), .v (.int .i64 s.a.seq), .v (.int .i64 s.a.last), .v (.string s.a.label),HY s.a.homes,D8 s.txns, .v (.bool s.only), .v (.int .i64 s.cursor), .v (.int .i64 s.found), .v (.int .i64 s.fixed), .v (.int .i64 s.moved),iA s.lost, .v (.int .i64 e)]
@[reducible] def IR (g:Geo) (s:Stt) (e:Int) (d:Dk):List AB:= [.box 71 (Xu g (.bp 1 0) s e), .box 73 (JN (.ow 2 d.cells.length) (.ow 3 d.cache.length) d.reqs d.left), .row 87 3 (d.cells.map AU), .row 130 2 (d.cache.map Dy)]
@[reducible] def Mt (g:Geo) (s:Stt) (e:Int) (d:Dk):List AB:= [.box 71 (Xu g (.bp 1 0) s e), .box 73 (JN (.ow 2 d.cells.length) (.ow 4 d.cache.length) d.reqs d.left), .row 87 3 (d.cells.map AU), .dead, .row 130 2 (d.cache.map Dy)]
@[reducible] def Xt (g:Geo) (s:Stt) (e:Int) (d:Dk) (l:List AB):List AB:= .box 71 (Xu g (.bp 1 0) s e):: .box 73 (JN (.ow 2 d.cells.length) (.ow 3 d.cache.length) d.reqs d.left):: .row 87 3 (d.cells.map AU):: .row 130 2 (d.cache.map Dy)::l
theorem Wy (g:Geo) (s:Stt) (e:Int) (d:Dk):ConvH (IR g s e d) (Mt g s e d):=ConvH.move (H:=IR g s e d) 1 3 (by decide) rfl rfl
theorem VH (e:Int):∀ (c:Ctx) (v:Value),Rd (.ag [.v (.int .i64 e), .v (.slice none 0 0)]) c v->Rd (.ag (B4 ⟨e, []⟩)) c v:=AJ ⟨ri,AP 1 _,trivial⟩
theorem W0 (g:Geo) (s:Stt) (e:Int) (d:Dk) (a:Int) (he:e≠0) :
  ACalls Tryz.prog false 119 [.bp 0 0, .v (.int .i64 a)] (IR g s e d) fun r H=>r = .ag (B4 ⟨8, []⟩)/\H=IR g s e d:=by
 have hb:(e != 0)=true:=bne_iff_ne.2 he
 refine ACalls.ofR tys_ok Tryz.func119 rfl rfl (Ad rfl) ?_
 conv=>whnf
 rw [hb]
 exact⟨_, .ag (B4 ⟨8, []⟩),IR g s e d,VH 8,WkN.r (s:= [0,1,2,3]) ⟨⟨rfl,trivial⟩,⟨rfl,rfl,rfl,rfl,trivial⟩,rfl,rfl,rfl,rfl,rfl⟩,rfl,rfl⟩
theorem Wz (g:Geo) (s:Stt) (d:Dk) (a:Int) (h:DkOk d) (ha:0<=a/\a<d.cells.length) :
  ACalls Tryz.prog false 119 [.bp 0 0, .v (.int .i64 a)] (IR g s 0 d) fun r H=>r = .ag (B4 ⟨(d.read a).2.2,(d.read a).2.1⟩)/\H=IR g s (if d.left=0 then 8 else 0) (d.read a).1:=by
 have hr:=S_ d a h.l ha h.m (fun c hc=>by have:=(h.c c hc).2.1;omega) (fun w hw=>by have:=(h.w w hw).2;omega)
 have he:(d.left=0/\(d.read a).2.2=8)\/(¬d.left=0/\(d.read a).2.2≠8):=by
  unfold Dk.read
  by_cases h0:d.left=0
  ·rw [if_pos h0];exact .inl ⟨h0,rfl⟩
  ·rw [if_neg h0];exact .inr ⟨h0,show (d.got a).2≠8 by have:=Kb d a;omega⟩
 generalize d.read a=q at hr he |-
 obtain⟨D,b,e⟩:=q
 simp only at hr he |-
 refine ACalls.ofR tys_ok Tryz.func119 rfl rfl (Ad rfl) ?_
 conv=>whnf
 refine ACalls.frame [1,2,3] hr rfl rfl rfl rfl (by decide) (KA rfl) ⟨rfl,rfl,rfl,trivial⟩ ?_
 rintro _ _ ⟨rfl,rfl⟩
 rcases he with ⟨h0,rfl⟩ | ⟨h0,he⟩
 ·rw [if_pos h0]
  conv=>whnf
  repeat' (first | (refine aSeq.go ?_;conv=>whnf) | fail)
  exact⟨_, .ag (B4 ⟨8,b⟩),IR g s 8 D,fun _ _ h=>h,WkN.r (s:= [0,1,2,3]) ⟨⟨rfl,trivial⟩,⟨rfl,rfl,rfl,rfl,trivial⟩,rfl,rfl,rfl,rfl,rfl⟩,rfl,rfl⟩
 ·rw [if_neg h0]
  conv=>whnf
  repeat' (first | (refine aSeq.go ?_;conv=>whnf) | fail)
  refine Af (fun h8=>absurd (by simpa using h8) he) (fun _=>?_)
  conv=>whnf
  repeat' (first | (refine aSeq.go ?_;conv=>whnf) | fail)
  exact⟨_, .ag (B4 ⟨e,b⟩),IR g s 0 D,fun _ _ h=>h,WkN.r (s:= [0,1,2,3]) ⟨⟨rfl,trivial⟩,⟨rfl,rfl,rfl,rfl,trivial⟩,rfl,rfl,rfl,rfl,rfl⟩,rfl,rfl⟩
theorem ST (g:Geo) (s:Stt) (e:Int) (d:Dk) (a:Int) (b:List UInt8) (he:e≠0) :
  ACalls Tryz.prog false 94 [.bp 0 0, .v (.int .i64 a),bA b] (IR g s e d) fun r H=>r = .v (.bool false)/\H=IR g s e d:=by
 have hb:(e != 0)=true:=bne_iff_ne.2 he
 refine ACalls.ofR tys_ok Tryz.func94 rfl rfl (Ad rfl) ?_
 conv=>whnf
 rw [hb]
 exact⟨_, .v (.bool false),IR g s e d,fun _ _ h=>h,WkN.r (s:= [0,1,2,3]) ⟨⟨rfl,trivial⟩,⟨rfl,rfl,rfl,rfl,trivial⟩,rfl,rfl,rfl,rfl,rfl⟩,rfl,rfl⟩
theorem SS (g:Geo) (s:Stt) (d:Dk) (a:Int) (b:List UInt8) (h:DkOk d) (ha:0<=a/\a<d.cells.length) (hb:b.length<=200) :
  ACalls Tryz.prog false 94 [.bp 0 0, .v (.int .i64 a),bA b] (IR g s 0 d) fun r H=>r = .v (.bool (decide ((d.write a b).2=0)))/\H=IR g s (if (d.write a b).2=8 then 8 else 0) (d.write a b).1:=by
 have hr:=Q_ d a b h.l ha h.m (by omega)
 have he:=GU d a b
 generalize d.write a b=q at hr he |-
 obtain⟨D,e⟩:=q
 simp only at hr he |-
 refine ACalls.ofR tys_ok Tryz.func94 rfl rfl (Ad rfl) ?_
 conv=>whnf
 refine ACalls.frame [1,2,3] hr rfl rfl rfl rfl (by decide) (KA rfl) ⟨rfl,rfl,rfl,trivial⟩ ?_
 rintro _ _ ⟨rfl,rfl⟩
 rcases he with rfl | rfl | rfl
 all_goals
  conv=>whnf
  repeat' (first | (refine aSeq.go ?_;conv=>whnf) | fail)
 ·exact⟨_, .v (.bool false),IR g s 8 D,fun _ _ h=>h,WkN.r (s:= [0,1,2,3]) ⟨⟨rfl,trivial⟩,⟨rfl,rfl,rfl,rfl,trivial⟩,rfl,rfl,rfl,rfl,rfl⟩,rfl,rfl⟩
 ·exact⟨_, .v (.bool false),IR g s 0 D,fun _ _ h=>h,WkN.r (s:= [0,1,2,3]) ⟨⟨rfl,trivial⟩,⟨rfl,rfl,rfl,rfl,trivial⟩,rfl,rfl,rfl,rfl,rfl⟩,rfl,rfl⟩
 ·exact⟨_, .v (.bool true),IR g s 0 D,fun _ _ h=>h,WkN.r (s:= [0,1,2,3]) ⟨⟨rfl,trivial⟩,⟨rfl,rfl,rfl,rfl,trivial⟩,rfl,rfl,rfl,rfl,rfl⟩,rfl,rfl⟩
theorem Tl (g:Geo) (s:Stt) (e:Int) (d:Dk) (h:DkOk d) :
  ACalls Tryz.prog false 95 [.bp 0 0] (IR g s e d) fun r H=>r = .tp []/\H=Mt g s (if e=0 then if d.left=0 then 8 else 0 else e) (if e=0 then if d.left=0 then d else d.flush else d):=by
 have hf:=Ro d h.l h.m (fun w hw=>(h.w w hw).1) (fun w hw=>by have:=(h.w w hw).2;omega)
 by_cases he:e=0
 ·subst he
  rw [if_pos rfl,if_pos rfl]
  refine ACalls.ofR tys_ok Tryz.func95 rfl rfl (Ad rfl) ?_
  conv=>whnf
  refine ACalls.frame [1,2,3] hf rfl rfl rfl rfl (by decide) (KA rfl) ⟨rfl,rfl,rfl,trivial⟩ ?_
  rintro _ _ ⟨rfl,rfl⟩
  by_cases h0:d.left=0
  all_goals
   simp only [h0,if_true,if_false]
   exact⟨_, .tp [],Mt g s _ _,fun _ _ h=>h,WkN.r (s:= [0,1,2,3,4]) ⟨⟨rfl,trivial⟩,⟨rfl,rfl,rfl,trivial,rfl,trivial⟩,rfl,rfl,rfl,rfl,rfl⟩,rfl,rfl⟩
 ·rw [if_neg he,if_neg he]
  have hb:(e == 0)=false:=beq_eq_false_iff_ne.2 he
  refine ACalls.ofR tys_ok Tryz.func95 rfl rfl (Ad rfl) ?_
  conv=>whnf
  rw [hb]
  exact⟨_, .tp [],Mt g s e d,fun _ _ h=>h,WkN.rc (ConvF.ofH (Wy g s e d)) (s:= [0,1,2,3,4]) ⟨⟨rfl,trivial⟩,⟨rfl,rfl,rfl,trivial,rfl,trivial⟩,rfl,rfl,rfl,rfl,rfl⟩,rfl,rfl⟩
theorem J2 {d:Dk} {l:List Wr} {k:Nat} (hk:k<l.length) (h:(d.writes (l.take k)).2.2=true):d.writes (l.take (k+1))=d.writes (l.take k):=by
 rw [F3 d hk,J4 _ h]
def Sg (b:Bool):Int:=if b then 8 else 0
theorem NN (g:Geo) (s:Stt) (d:Dk) (a:An) (hg:AW g=true) (ha:AY g a=true) (h:DkOk d) (hl:∀ w∈Ay g a,Nj d.cells.length w) :
  ACalls Tryz.prog false 31 [.bp 0 0, .ag (CN a)] (IR g s 0 d) fun r H=>r = .v (.int .i64 ((d.writes (Ay g a)).2.1:Nat))/\H=Mt g s (Sg (d.putAll (Ay g a)).2.2) (d.putAll (Ay g a)).1:=by
 obtain⟨g1,g2,g3,g4,g5⟩:=Ao.1 hg
 have hlen:=Dr g a
 refine ACalls.ofR tys_ok Tryz.func31 rfl rfl (Ad rfl) ?_
 conv=>whnf
 refine aLoop.ruleRR Nat (fun k=>([(0, .bp 0 0),(3, .bp 4 0),(5, .v (.int .i64 (d.writes ((Ay g a).take k)).2.1)),(6, .v (.int .i64 k))],Xt g s (Sg (d.writes ((Ay g a).take k)).2.2) (d.writes ((Ay g a).take k)).1 [.box 40 (CN a)])) (fun k=>k<=(Ay g a).length/\(d.writes ((Ay g a).take k)).2.1<=k) (fun k=>(Ay g a).length - k) 0 ⟨Ae _,Nat.le_refl _⟩
  (WkN.r (s:= [0,1,2,3,4]) ⟨⟨rfl,rfl,rfl,rfl,trivial⟩,⟨rfl,rfl,rfl,rfl,rfl,trivial⟩,rfl,rfl,rfl,rfl,rfl⟩) ?_
 rintro k ⟨hk,hnk⟩
 have hd:=Fe h hl k
 conv=>whnf
 refine Al (fun h6=>?_) (fun h6=>?_) <;> (repeat rw [Aa] at h6) <;> conv=>whnf
 ·have hk':k<(Ay g a).length:=by omega
  have hm:=hl _ (AC (d:=(⟨0, []⟩:Wr)) hk')
  have hrc:=K1 g a k hg ha (by omega)
  have hlive:=fun hlv=>JS (d:=d) hk' hlv
  have hstay:=fun hlv=>J2 (d:=d) hk' hlv
  rw [FA (by omega)] at hlive hm
  generalize hX:d.writes ((Ay g a).take k)=Q at hd hlive hstay hnk |-
  obtain⟨X,N,dead⟩:=Q
  simp only at hd hlive hstay hnk
  repeat' (first | (refine aSeq.go ?_;conv=>whnf) | fail)
  refine Fn.cl hrc ?_
  conv=>whnf
  cases dead with
  | true=>
   have hx:=hstay rfl
   have hc:=ST g s 8 X k (Cs a k) (by decide)
   refine ACalls.frame [0,1,2,3] hc rfl rfl rfl rfl (by decide) (Ca rfl) ⟨rfl,rfl,rfl,rfl,trivial⟩ ?_
   rintro _ _ ⟨rfl,rfl⟩
   conv=>whnf
   repeat' (first | (refine aSeq.go ?_;conv=>whnf) | fail)
   refine⟨k+1,⟨hk',by rw [hx];simp only;omega⟩,by omega,?_⟩
   rw [hx]
   exact WkN.r (s:= [0,1,2,3,4]) ⟨⟨rfl,rfl,rfl,A4 (by omega),trivial⟩,⟨rfl,rfl,rfl,rfl,rfl,trivial⟩,rfl,rfl,rfl,rfl,rfl⟩
  | false=>
   have hx:=hlive rfl
   have hc:=SS g s X k (Cs a k) hd.1 (by rw [hd.2];exact hm.1) hm.2
   have hE:=GU X k (Cs a k)
   generalize hQ:X.write k (Cs a k)=Q at hc hx hE
   obtain⟨D,e⟩:=Q
   simp only at hx hE hc
   refine ACalls.frame [0,1,2,3] hc rfl rfl rfl rfl (by decide) (Ca rfl) ⟨rfl,rfl,rfl,rfl,trivial⟩ ?_
   rintro _ _ ⟨rfl,rfl⟩
   rcases hE with rfl | rfl | rfl
   ·have hx:d.writes ((Ay g a).take (k+1))=(D,N,true):=hx
    conv=>whnf
    repeat' (first | (refine aSeq.go ?_;conv=>whnf) | fail)
    refine⟨k+1,⟨hk',by rw [hx];simp only;omega⟩,by omega,?_⟩
    rw [hx]
    exact WkN.r (s:= [0,1,2,3,4]) ⟨⟨rfl,rfl,rfl,A4 (by omega),trivial⟩,⟨rfl,rfl,rfl,rfl,rfl,trivial⟩,rfl,rfl,rfl,rfl,rfl⟩
   ·have hx:d.writes ((Ay g a).take (k+1))=(D,N,false):=hx
    conv=>whnf
    repeat' (first | (refine aSeq.go ?_;conv=>whnf) | fail)
    refine⟨k+1,⟨hk',by rw [hx];simp only;omega⟩,by omega,?_⟩
    rw [hx]
    exact WkN.r (s:= [0,1,2,3,4]) ⟨⟨rfl,rfl,rfl,A4 (by omega),trivial⟩,⟨rfl,rfl,rfl,rfl,rfl,trivial⟩,rfl,rfl,rfl,rfl,rfl⟩
   ·have hx:d.writes ((Ay g a).take (k+1))=(D,N+1,false):=hx
    conv=>whnf
    repeat' (first | (refine aSeq.go ?_;conv=>whnf) | fail)
    refine⟨k+1,⟨hk',by rw [hx];simp only;omega⟩,by omega,?_⟩
    rw [hx]
    exact WkN.r (s:= [0,1,2,3,4]) ⟨⟨rfl,rfl,(show _=AV.v (Value.int IntKind.i64 ((N+1:Nat):Int)) from A4 (show N<1000000000000 by omega)),A4 (by omega),trivial⟩,⟨rfl,rfl,rfl,rfl,rfl,trivial⟩,rfl,rfl,rfl,rfl,rfl⟩
 ·have ek:k=(Ay g a).length:=by omega
  subst ek
  rw [List.take_length] at hd hnk
  rw [List.take_length]
  have hpd:=Ee (d:=d) (l:=Ay g a)
  have hpl:=Ed (d:=d) (l:=Ay g a)
  generalize d.writes (Ay g a)=Q at hpd hpl hd |-
  obtain⟨X,N,dead⟩:=Q
  simp only at hpd hpl hd
  have hf:=Tl g s (Sg dead) X hd.1
  cases dead with
  | true=>
   rw [hpd rfl]
   refine ACalls.frame [0,1,2,3] hf rfl rfl rfl rfl (by decide) (Ca rfl) ⟨rfl,rfl,rfl,rfl,trivial⟩ ?_
   rintro _ _ ⟨rfl,rfl⟩
   exact⟨_, .v (.int .i64 (N:Nat)),Mt g s 8 X,fun _ _ h=>h,WkN.r (s:= [0,1,2,3,5]) ⟨⟨rfl,trivial⟩,⟨rfl,rfl,rfl,trivial,rfl,trivial⟩,rfl,rfl,rfl,rfl,rfl⟩,rfl,rfl⟩
  | false=>
   rw [hpl rfl]
   refine ACalls.frame [0,1,2,3] hf rfl rfl rfl rfl (by decide) (Ca rfl) ⟨rfl,rfl,rfl,rfl,trivial⟩ ?_
   rintro _ _ ⟨rfl,rfl⟩
   by_cases hX0:X.left=0
   all_goals
    simp only [hX0,Sg,BB,if_true,if_false]
    exact⟨_, .v (.int .i64 (N:Nat)),Mt g s _ _,fun _ _ h=>h,WkN.r (s:= [0,1,2,3,5]) ⟨⟨rfl,trivial⟩,⟨rfl,rfl,rfl,trivial,rfl,trivial⟩,rfl,rfl,rfl,rfl,rfl⟩,rfl,rfl⟩
theorem ACalls.lendBox {P:Program} {q:Bool} {f:FuncId} {x:AV} {H:List AB} {K:AV->List AB->Prop} (j k:Nat) {t t':TypeId} {sz':Nat} {cs cs2:List AV} {es':List (List AV)} (hj:H[j]? = some (.box t cs)) (hk:H[k]? = some (.row t' sz' es'))
  (he:cs.map (AV.slIn k es'.length (.sl sz' es'.length fun i=>es'.getD i []))=cs2) (hc:ACalls P q f [x, .ag cs2] ((H.set k .dead).set j (.box t cs2)) K):ACalls P q f [x, .ag cs] H K:=by
 refine⟨hc.go,fun w0 M0 c us hs hr=>?_⟩
 subst he
 have hjk:j≠k:=by rintro rfl;rw [hj] at hk;cases hk
 obtain⟨c1,e1,s1,x1,r1⟩:=hs.freeze hk
 have hj1:(H.set k .dead)[j]? = some (.box t cs):=by rw [List.getElem?_set_ne (Ne.symm hjk)];exact hj
 have h8:∀ (l:List AV) (us:List Value),RdL l c us->RdL (l.map (AV.slIn k es'.length (.sl sz' es'.length fun i=>es'.getD i []))) c1 us:=by
  intro l
  induction l with
  | nil=>intro us h;simp only [RdL] at h;subst h;simp [RdL]
  | cons x l ih=>
   intro us h
   simp only [RdL] at h
   obtain⟨u,vs,rfl,a1,a2⟩:=h
   simp only [Ax,RdL]
   refine⟨u,vs,rfl,?_,ih vs a2⟩
   unfold AV.slIn
   split
   ·rename_i i n
    split
    ·rename_i hik
     subst hik
     split
     ·rename_i hn
      subst hn
      exact r1 u a1
     ·simp [Rd]
    ·exact Rd.ext _ x1 a1
   ·exact Rd.ext _ x1 a1
 have s2:HS w0 M0 c1 ((H.set k .dead).set j (.box t (cs.map (AV.slIn k es'.length (.sl sz' es'.length fun i=>es'.getD i []))))):=by
  refine s1.recell hj1 rfl ?_
  rintro⟨g,xs,h1,h2,_,h4⟩
  obtain⟨g0,ys,q1,q2,q3,_⟩:=hs.blk j _ hj
  have hg:=x1.box j _ (hs.klt hj) q1
  rw [h1] at hg
  injection hg with hg
  injection hg with hg
  injection hg with hg
  subst hg
  rw [e1,q2] at h2
  injection h2 with h2
  have hxy:ys.toArray=xs.toArray:=by injection h2
  have hxy:ys=xs:=by simpa using hxy
  subst hxy
  exact⟨g,ys,h1,by rw [e1];exact q2,h8 _ _ q3,h4⟩
 have hr2:RdL [x, .ag (cs.map (AV.slIn k es'.length (.sl sz' es'.length fun i=>es'.getD i [])))] c1 us:=by
  simp only [RdL] at hr
  obtain⟨u1,_,rfl,p1,u2,_,rfl,p2,rfl⟩:=hr
  simp only [Rd] at p2
  obtain⟨zs,rfl,p3⟩:=p2
  simp only [RdL]
  exact⟨u1,_,rfl,Rd.ext _ x1 p1,_,_,rfl,by simp only [Rd];exact⟨zs,rfl,h8 _ _ p3⟩,rfl⟩
 have:=hc.calls w0 M0 c1 us s2 hr2
 rw [e1] at this
 refine this.mono ?_
 rintro e w' ⟨v,c',r,H2,rfl,rfl,q1,q2,q3,q4,q5⟩
 exact⟨v,c',r,H2,rfl,rfl,q1,q2,x1.trans q3,q4,q5⟩
theorem nums_ones:∀ (n:Nat) (r:List Int) (c:List UInt8),n<=c.length->nums (ED n ++ r) c=((List.range n).map fun i=>((c.getD i 0).toNat:Int)) ++ nums r (c.drop n)
 | 0,r,c,_=>rfl
 | n+1,r, [],h=>by simp at h
 | n+1,r,x::c,h=>by
  have ih:=nums_ones n r c (by simpa using h)
  rw [show ED (n+1) ++ r=1::(ED n ++ r) from rfl,Cf,Ax,Da]
  show (leN ((x::c).take 1):Int)::nums (ED n ++ r) ((x::c).drop 1)=_
  rw [show (x::c).drop 1=c from rfl,ih]
  simp [leN]
theorem VF (n:Nat) (c:List UInt8) (h:n+5<=c.length):I9 n c=⟨(List.range n).map fun i=>((c.getD i 0).toNat:Int),((c.getD n 0).toNat:Int),(leN ((c.drop (n+1)).take 4):Nat)⟩:=by
 have e:=nums_ones (n+1) [4] c (by omega)
 rw [show ED (n+1) ++ [4]=Gy n from rfl] at e
 unfold I9
 rw [e]
 have h1:List.take n ((List.range (n+1)).map (fun i=>((c.getD i 0).toNat:Int)) ++ nums [4] (c.drop (n+1)))=(List.range n).map fun i=>((c.getD i 0).toNat:Int):=by
  rw [Bf,Am,List.append_assoc,List.take_left' (by simp)]
 have h2:((List.range (n+1)).map (fun i=>((c.getD i 0).toNat:Int)) ++ nums [4] (c.drop (n+1))).getD n 0=((c.getD n 0).toNat:Int):=by
  rw [List.getD_eq_getElem?_getD,List.getElem?_append_left (by simp),List.getElem?_map,List.getElem?_range (by omega)];rfl
 have h3:((List.range (n+1)).map (fun i=>((c.getD i 0).toNat:Int)) ++ nums [4] (c.drop (n+1))).getD (n+1) 0=(leN ((c.drop (n+1)).take 4):Nat):=by
  rw [List.getD_eq_getElem?_getD,List.getElem?_append_right (by simp)];simp [nums]
 rw [h1,h2,h3]
theorem WD (b:List UInt8) (h:17<=b.length):(nums szA b).getD 0 0=(leN (b.take 4):Nat)/\(nums szA b).getD 1 0=(leN ((b.drop 4).take 4):Nat)/\(nums szA b).getD 2 0=(leN ((b.drop 8).take 4):Nat)/\(nums szA b).getD 3 0=(leN ((b.drop 12).take 4):Nat)/\(nums szA b).getD 4 0=((b.getD 16 0).toNat:Int):=by
 refine⟨rfl,rfl,?_,?_,?_⟩
 ·show ((leN ((((b.drop 4).drop 4)).take 4):Nat):Int)=_;rw [At]
 ·show ((leN (((((b.drop 4).drop 4).drop 4)).take 4):Nat):Int)=_;rw [At,At]
 ·show ((leN ((((((b.drop 4).drop 4).drop 4)).drop 4).take 1):Nat):Int)=_
  rw [At,At,At]
  have e:b.drop 16=b.getD 16 0::b.drop 17:=by
   rw [List.getD_eq_getElem?_getD,List.getElem?_eq_getElem (by omega)];exact AL (by omega)
  show ((leN ((b.drop 16).take 1):Nat):Int)=_
  rw [e]
  exact congrArg (fun n:Nat=>(n:Int)) (show (b.getD 16 0).toNat+256*0=(b.getD 16 0).toNat by omega)
def VQ (n:Nat) (c:List UInt8):List (List AV):=(List.range n).map fun i=> [.v (.int .i64 ((c.getD i 0).toNat:Int))]
theorem U2 (n:Nat) (c:List UInt8):VQ (n+1) c=VQ n c ++ [[.v (.int .i64 ((c.getD n 0).toNat:Int))]]:=by simp [VQ,Bf]
theorem QF (n:Nat) (c:List UInt8):(VQ n c).length=n:=by simp [VQ]
theorem wb (x:UInt8):IntKind.i64.wrap (x.toNat:Int)=(x.toNat:Int):=wi (by have:=x.toNat_lt;omega)
theorem Rj (g:Geo) (b:List UInt8) (hg:AW g=true) (hb:b.length<=100000):Fn Tryz.prog 212 [.ag (A9 g),bA b] fun r=>r = .tp [.ag (CN ((Cp g b).getD an0)), .v (.bool (Cp g b).isSome)]:=by
 obtain⟨g1,g2,g3,g4,g5⟩:=Ao.1 hg
 have DP:∀ (e:Value) (c:Ctx) (v:Value),Rd (.tp [.ag [.v (.int .i64 0), .v (.int .i64 0), .v (.int .i64 0), .v (.int .i64 0), .v (.int .i64 0), .v (.string ⟨#[]⟩), .v (.slice none 0 0)], .v e]) c v->Rd (.tp [.ag (CN an0), .v e]) c v:=fun e=>B3 (m:= [.ag (CN an0), .v e]) ⟨AJ an0_sub,ri,trivial⟩
 by_cases h18:b.length<18
 ·have hN:Cp g b=none:=by
   rw [Cp]
   split
   ·rfl
   ·rw [show Gl (b.drop 17)=none by rw [Gl,if_pos (by rw [Ac];omega)]]
  rw [hN]
  refine Fn.st Tryz.func212 rfl ?_
  conv=>whnf
  refine Al (fun _=>?_) (fun hq=>absurd h18 (by omega))
  exact⟨_,DP _,rfl⟩
 ·obtain⟨n0,n1,n2,n3,n4⟩:=WD b (by omega)
  have q0:=EP b 4 (by omega) (by decide)
  have q1:=EP (b.drop 4) 4 (by rw [Ac];omega) (by decide)
  have q2:=EP (b.drop 8) 4 (by rw [Ac];omega) (by decide)
  have q3:=EP (b.drop 12) 4 (by rw [Ac];omega) (by decide)
  rw [<-n0] at q0
  rw [<-n1] at q1
  rw [<-n2] at q2
  rw [<-n3] at q3
  have hr:=Ri (b.drop 17) (by rw [Ac];omega)
  have hdl:(b.drop 17).length=b.length - 17:=Ac ..
  cases hL:Gl (b.drop 17) with
  | none=>
   have hN:Cp g b=none:=by rw [Cp,if_neg (by omega),hL]
   rw [hL] at hr
   rw [hN]
   refine Fn.st Tryz.func212 rfl ?_
   conv=>whnf
   refine Al (fun hq=>absurd hq (by omega)) (fun hq=>?_)
   conv=>whnf
   apply aDraw.treeM (0) tys_ok mixed (.one 0 (.one 2 (.one 3 (.one 5 (.one 6 (.one 8 (.one 9 (.one 11 (.one 12 (.one 13 (.one 14 (.two 1 (.two 4 (.two 7 (.two 10 (.one 15 (.one 16 (.one 17 .fin))) 16 (.one 10 (.one 15 (.one 17 .fin)))) 16 (.one 7 (.one 10 (.one 15 (.one 17 .fin))))) 16 (.one 4 (.one 7 (.one 10 (.one 15 (.one 17 .fin)))))) 16 (.one 1 (.one 4 (.one 7 (.one 10 (.one 15 (.one 17 .fin)))))))))))))))))) [6,17,18,19,20,21,22,23,24,25,26,27,28,29,30,31,32] (by kernel_rfl)
   ·conv=>whnf
    try (refine And.intro (by first | omega | (simp;done)) ?_;conv=>whnf)
    try (refine And.intro (by first | omega | (simp;done)) ?_;conv=>whnf)
    try (refine And.intro (by first | omega | (simp;done)) ?_;conv=>whnf)
    try (refine And.intro (by first | omega | (simp;done)) ?_;conv=>whnf)
    refine And.intro ?_ ?_
    ·conv=>whnf
     refine Fn.cl q0 ?_
     refine And.intro ?_ ?_
     ·conv=>whnf
      (refine ACalls.sub [bA (b.drop 4), .v (.int .i64 4)] ⟨A5 (by omega),ri,trivial⟩ ?_;refine Fn.cl q1 ?_)
      refine And.intro ?_ ?_
      ·conv=>whnf
       (refine ACalls.sub [bA (b.drop 8), .v (.int .i64 4)] ⟨A5 (by omega),ri,trivial⟩ ?_;refine Fn.cl q2 ?_)
       refine And.intro ?_ ?_
       ·conv=>whnf
        (refine ACalls.sub [bA (b.drop 12), .v (.int .i64 4)] ⟨A5 (by omega),ri,trivial⟩ ?_;refine Fn.cl q3 ?_)
        conv=>whnf
        try (refine And.intro ⟨rfl,by first | rfl | (simp;done) | (simp;omega),by first | omega | (simp;omega)⟩ ?_;conv=>whnf)
        exact⟨rfl,rfl⟩
       ·conv=>whnf
        (refine ACalls.sub [bA (b.drop 12), .v (.int .i64 4)] ⟨A5 (by omega),ri,trivial⟩ ?_;refine Fn.cl q3 ?_)
        conv=>whnf
        try (refine And.intro ⟨rfl,by first | rfl | (simp;done) | (simp;omega),by first | omega | (simp;omega)⟩ ?_;conv=>whnf)
        exact⟨rfl,rfl⟩
      ·conv=>whnf
       (refine ACalls.sub [bA (b.drop 8), .v (.int .i64 4)] ⟨A5 (by omega),ri,trivial⟩ ?_;refine Fn.cl q2 ?_)
       conv=>whnf
       (refine ACalls.sub [bA (b.drop 12), .v (.int .i64 4)] ⟨A5 (by omega),ri,trivial⟩ ?_;refine Fn.cl q3 ?_)
       conv=>whnf
       try (refine And.intro ⟨rfl,by first | rfl | (simp;done) | (simp;omega),by first | omega | (simp;omega)⟩ ?_;conv=>whnf)
       exact⟨rfl,rfl⟩
     ·conv=>whnf
      (refine ACalls.sub [bA (b.drop 4), .v (.int .i64 4)] ⟨A5 (by omega),ri,trivial⟩ ?_;refine Fn.cl q1 ?_)
      conv=>whnf
      (refine ACalls.sub [bA (b.drop 8), .v (.int .i64 4)] ⟨A5 (by omega),ri,trivial⟩ ?_;refine Fn.cl q2 ?_)
      conv=>whnf
      (refine ACalls.sub [bA (b.drop 12), .v (.int .i64 4)] ⟨A5 (by omega),ri,trivial⟩ ?_;refine Fn.cl q3 ?_)
      conv=>whnf
      try (refine And.intro ⟨rfl,by first | rfl | (simp;done) | (simp;omega),by first | omega | (simp;omega)⟩ ?_;conv=>whnf)
      exact⟨rfl,rfl⟩
    ·conv=>whnf
     refine Fn.cl q0 ?_
     conv=>whnf
     (refine ACalls.sub [bA (b.drop 4), .v (.int .i64 4)] ⟨A5 (by omega),ri,trivial⟩ ?_;refine Fn.cl q1 ?_)
     conv=>whnf
     (refine ACalls.sub [bA (b.drop 8), .v (.int .i64 4)] ⟨A5 (by omega),ri,trivial⟩ ?_;refine Fn.cl q2 ?_)
     conv=>whnf
     (refine ACalls.sub [bA (b.drop 12), .v (.int .i64 4)] ⟨A5 (by omega),ri,trivial⟩ ?_;refine Fn.cl q3 ?_)
     conv=>whnf
     try (refine And.intro ⟨rfl,by first | rfl | (simp;done) | (simp;omega),by first | omega | (simp;omega)⟩ ?_;conv=>whnf)
     exact⟨rfl,rfl⟩
   conv=>whnf
   rw [wb,show b.getD (Int.toNat 16) 0=b.getD 16 0 from rfl,<-n4]
   refine⟨⟨by omega,by omega,by omega,by omega⟩,?_⟩
   conv=>whnf
   refine ACalls.sub [bA (b.drop 17)] ⟨A5 (by omega),trivial⟩ ?_
   refine Fn.cl hr ?_
   conv=>whnf
   rw [show IntKind.i64.wrap (17+0)=17 from rfl]
   refine⟨⟨by omega,by omega,by omega,by omega⟩,?_⟩
   exact⟨_,DP _,rfl⟩
  | some q=>
   obtain⟨s,u⟩:=q
   obtain⟨u1,u2,u3,u4⟩:=Jp hL
   rw [hL] at hr
   simp only at hr
   have hss:s.size=s.data.toList.length:=rfl
   have hs24:=FP u4
   have wu:IntKind.i64.wrap (17+(u:Int))=17+u:=wi (by omega)
   have hmb:g.z*(g.d+6)<=4*10:=Dn (by omega) (by omega) (by omega) (by omega)
   have hm0:0<=g.z*(g.d+6):=Dm (by omega) (by omega)
   have wm:IntKind.i64.wrap (g.z*IntKind.i64.wrap (g.d+6))=g.z*(g.d+6):=by rw [wi (n:=g.d+6) (by omega)];exact wi (by omega)
   have hmn:g.z*(g.d+6)=((g.z.toNat*(g.d.toNat+6):Nat):Int):=by rw [Int.natCast_mul,Int.natCast_add];congr 1 <;> omega
   have hu0:((u:Int) == 0)=false:=beq_eq_false_iff_ne.2 (by omega)
   have hdl2:(b.drop (17+u)).length=b.length - (17+u):=Ac ..
   obtain⟨A,hA⟩:∃ A,A=Ju (g.d.toNat+1) g.z.toNat b s u:=⟨_,rfl⟩
   have hR0:Cp g b=if b.length≠17+u+g.z.toNat*(g.d.toNat+6) then none else if AY g A then some A else none:=by rw [Cp,if_neg (by omega),hL,hA]
   by_cases hlen:b.length=17+u+g.z.toNat*(g.d.toNat+6)
   ·rw [if_neg (by omega)] at hR0
    refine Fn.st Tryz.func212 rfl ?_
    conv=>whnf
    refine Al (fun hq=>absurd hq (by omega)) (fun hq=>?_)
    conv=>whnf
    apply aDraw.treeM (0) tys_ok mixed (.one 0 (.one 2 (.one 3 (.one 5 (.one 6 (.one 8 (.one 9 (.one 11 (.one 12 (.one 13 (.one 14 (.two 1 (.two 4 (.two 7 (.two 10 (.one 15 (.one 16 (.one 17 .fin))) 16 (.one 10 (.one 15 (.one 17 .fin)))) 16 (.one 7 (.one 10 (.one 15 (.one 17 .fin))))) 16 (.one 4 (.one 7 (.one 10 (.one 15 (.one 17 .fin)))))) 16 (.one 1 (.one 4 (.one 7 (.one 10 (.one 15 (.one 17 .fin)))))))))))))))))) [6,17,18,19,20,21,22,23,24,25,26,27,28,29,30,31,32] (by kernel_rfl)
    ·conv=>whnf
     try (refine And.intro (by first | omega | (simp;done)) ?_;conv=>whnf)
     try (refine And.intro (by first | omega | (simp;done)) ?_;conv=>whnf)
     try (refine And.intro (by first | omega | (simp;done)) ?_;conv=>whnf)
     try (refine And.intro (by first | omega | (simp;done)) ?_;conv=>whnf)
     refine And.intro ?_ ?_
     ·conv=>whnf
      refine Fn.cl q0 ?_
      refine And.intro ?_ ?_
      ·conv=>whnf
       (refine ACalls.sub [bA (b.drop 4), .v (.int .i64 4)] ⟨A5 (by omega),ri,trivial⟩ ?_;refine Fn.cl q1 ?_)
       refine And.intro ?_ ?_
       ·conv=>whnf
        (refine ACalls.sub [bA (b.drop 8), .v (.int .i64 4)] ⟨A5 (by omega),ri,trivial⟩ ?_;refine Fn.cl q2 ?_)
        refine And.intro ?_ ?_
        ·conv=>whnf
         (refine ACalls.sub [bA (b.drop 12), .v (.int .i64 4)] ⟨A5 (by omega),ri,trivial⟩ ?_;refine Fn.cl q3 ?_)
         conv=>whnf
         try (refine And.intro ⟨rfl,by first | rfl | (simp;done) | (simp;omega),by first | omega | (simp;omega)⟩ ?_;conv=>whnf)
         exact⟨rfl,rfl⟩
        ·conv=>whnf
         (refine ACalls.sub [bA (b.drop 12), .v (.int .i64 4)] ⟨A5 (by omega),ri,trivial⟩ ?_;refine Fn.cl q3 ?_)
         conv=>whnf
         try (refine And.intro ⟨rfl,by first | rfl | (simp;done) | (simp;omega),by first | omega | (simp;omega)⟩ ?_;conv=>whnf)
         exact⟨rfl,rfl⟩
       ·conv=>whnf
        (refine ACalls.sub [bA (b.drop 8), .v (.int .i64 4)] ⟨A5 (by omega),ri,trivial⟩ ?_;refine Fn.cl q2 ?_)
        conv=>whnf
        (refine ACalls.sub [bA (b.drop 12), .v (.int .i64 4)] ⟨A5 (by omega),ri,trivial⟩ ?_;refine Fn.cl q3 ?_)
        conv=>whnf
        try (refine And.intro ⟨rfl,by first | rfl | (simp;done) | (simp;omega),by first | omega | (simp;omega)⟩ ?_;conv=>whnf)
        exact⟨rfl,rfl⟩
      ·conv=>whnf
       (refine ACalls.sub [bA (b.drop 4), .v (.int .i64 4)] ⟨A5 (by omega),ri,trivial⟩ ?_;refine Fn.cl q1 ?_)
       conv=>whnf
       (refine ACalls.sub [bA (b.drop 8), .v (.int .i64 4)] ⟨A5 (by omega),ri,trivial⟩ ?_;refine Fn.cl q2 ?_)
       conv=>whnf
       (refine ACalls.sub [bA (b.drop 12), .v (.int .i64 4)] ⟨A5 (by omega),ri,trivial⟩ ?_;refine Fn.cl q3 ?_)
       conv=>whnf
       try (refine And.intro ⟨rfl,by first | rfl | (simp;done) | (simp;omega),by first | omega | (simp;omega)⟩ ?_;conv=>whnf)
       exact⟨rfl,rfl⟩
     ·conv=>whnf
      refine Fn.cl q0 ?_
      conv=>whnf
      (refine ACalls.sub [bA (b.drop 4), .v (.int .i64 4)] ⟨A5 (by omega),ri,trivial⟩ ?_;refine Fn.cl q1 ?_)
      conv=>whnf
      (refine ACalls.sub [bA (b.drop 8), .v (.int .i64 4)] ⟨A5 (by omega),ri,trivial⟩ ?_;refine Fn.cl q2 ?_)
      conv=>whnf
      (refine ACalls.sub [bA (b.drop 12), .v (.int .i64 4)] ⟨A5 (by omega),ri,trivial⟩ ?_;refine Fn.cl q3 ?_)
      conv=>whnf
      try (refine And.intro ⟨rfl,by first | rfl | (simp;done) | (simp;omega),by first | omega | (simp;omega)⟩ ?_;conv=>whnf)
      exact⟨rfl,rfl⟩
    conv=>whnf
    rw [wb,show b.getD (Int.toNat 16) 0=b.getD 16 0 from rfl,<-n4]
    refine⟨⟨by omega,by omega,by omega,by omega⟩,?_⟩
    conv=>whnf
    refine ACalls.sub [bA (b.drop 17)] ⟨A5 (by omega),trivial⟩ ?_
    refine Fn.cl hr ?_
    conv=>whnf
    rw [wu]
    refine⟨⟨by omega,by omega,by omega,by omega⟩,?_⟩
    conv=>whnf
    rw [hu0]
    conv=>whnf
    rw [wm]
    refine Al (fun hq=>absurd hq (by simp only [bne_iff_ne,ne_eq] at *;omega)) (fun hq=>?_)
    conv=>whnf
    have hsub:∀ (c:Ctx) (v:Value),Rd (.sl 1 ((b.length:Int).toNat - ((17:Int)+u).toNat) fun i=> [AV.v (Value.int IntKind.u8 (b.getD (i+((17:Int)+u).toNat) 0).toNat)]) c v->Rd (bA (b.drop (17+u))) c v:=by
     rw [show ((17:Int)+u).toNat=17+u by omega]
     exact A5 (by omega)
    have hcl:∀ k,k<g.z.toNat->(g.d.toNat+1)+5<=(b.drop (17+u+(g.d.toNat+6)*k)).length:=fun k hk=>by
     have h1:(g.d.toNat+6)*(k+1)<=(g.d.toNat+6)*g.z.toNat:=Nat.mul_le_mul_left _ (by omega)
     rw [C4,CY (g.d.toNat+6) g.z.toNat] at h1
     rw [Ac];omega
    refine aLoop.ruleRR Nat (fun k=>([(1,bA b),(2, .bp 0 0),(4, .bp 1 0),(6, .bp 2 0),(9,bA (b.drop (17+u+(g.d.toNat+6)*k))),(10, .v (.int .i64 k))], [.box 23 (A9 g), .box 40 [.v (.int .i64 0), .v (.int .i64 0), .v (.int .i64 0), .v (.int .i64 0), .v (.int .i64 0), .v (.string ⟨#[]⟩), .v (.slice none 0 0)], .box 40 [.v (.int .i64 ((nums szA b).getD 0 0)), .v (.int .i64 ((nums szA b).getD 1 0)), .v (.int .i64 ((nums szA b).getD 4 0)), .v (.int .i64 ((nums szA b).getD 2 0)), .v (.int .i64 ((nums szA b).getD 3 0)), .v (.string s), .ow 3 k], .row 132 3 ((De (g.d.toNat+1) k (b.drop (17+u))).map Ih)])) (fun k=>k<=g.z.toNat) (fun k=>g.z.toNat - k) 0 (Ae _)
     ?_ ?_
    ·refine⟨_,_,ConvF.sub 9 (y:=bA (b.drop (17+u))) rfl hsub, [(1002006,132,3)],⟨rfl,rfl,trivial⟩, [0,1,2,3],⟨⟨rfl,rfl,rfl,rfl,rfl,rfl,trivial⟩,⟨rfl,rfl,rfl,rfl,trivial⟩,rfl,rfl,rfl,rfl,rfl⟩⟩
    ·intro k hk
     conv=>whnf
     refine Al (fun h6=>?_) (fun h6=>?_) <;> (repeat rw [Aa] at h6) <;> conv=>whnf
     ·have hk':k<g.z.toNat:=by omega
      have hc5:=hcl k hk'
      have hE:=VF (g.d.toNat+1) (b.drop (17+u+(g.d.toNat+6)*k)) hc5
      have hdd:(b.drop (17+u+(g.d.toNat+6)*k)).drop (g.d.toNat+6)=b.drop (17+u+(g.d.toNat+6)*(k+1)):=by rw [At,C4,C8]
      have hmm:(b.drop (17+u)).drop ((g.d.toNat+6)*k)=b.drop (17+u+(g.d.toNat+6)*k):=by rw [At]
      have hst:=KM (g.d.toNat+1) k (b.drop (17+u))
      rw [show (g.d.toNat+1+5)=g.d.toNat+6 from rfl,hmm] at hst
      generalize b.drop (17+u+(g.d.toNat+6)*k)=c at hc5 hE hdd hst |-
      refine aLoop.ruleRR Nat (fun i=>([(1,bA b),(2, .bp 0 0),(4, .bp 1 0),(6, .bp 2 0),(9,bA c),(10, .v (.int .i64 k)),(11, .bp 4 0),(12, .v (.int .i64 i))], [.box 23 (A9 g), .box 40 [.v (.int .i64 0), .v (.int .i64 0), .v (.int .i64 0), .v (.int .i64 0), .v (.int .i64 0), .v (.string ⟨#[]⟩), .v (.slice none 0 0)], .box 40 [.v (.int .i64 ((nums szA b).getD 0 0)), .v (.int .i64 ((nums szA b).getD 1 0)), .v (.int .i64 ((nums szA b).getD 4 0)), .v (.int .i64 ((nums szA b).getD 2 0)), .v (.int .i64 ((nums szA b).getD 3 0)), .v (.string s), .ow 3 k], .row 132 3 ((De (g.d.toNat+1) k (b.drop (17+u))).map Ih), .box 132 [.ow 5 i, .v (.int .i64 0), .v (.int .i64 0)], .row 3 1 (VQ i c)])) (fun i=>i<=g.d.toNat+1) (fun i=>g.d.toNat+1 - i) 0 (Ae _)
       ⟨_,_,ConvF.refl _ _, [(1004000,3,1)],⟨rfl,rfl,trivial⟩, [0,1,2,3,4,5],⟨⟨rfl,rfl,rfl,rfl,rfl,rfl,rfl,rfl,trivial⟩,⟨rfl,rfl,rfl,rfl,rfl,rfl,trivial⟩,rfl,rfl,rfl,rfl,rfl⟩⟩ ?_
      intro i hi
      conv=>whnf
      refine Al (fun h7=>?_) (fun h7=>?_) <;> (repeat rw [Aa] at h7) <;> conv=>whnf
      ·have hl:i=(VQ i c).length:=(QF i c).symm
       apply aDraw.treeK (0) tys_ok mixed (.one 0 (.one 1 (.one 2 (.one 3 (.one 4 (.one 5 (.one 6 (.one 7 (.one 8 (.one 9 (.one 10 .fin))))))))))) (by kernel_rfl)
       conv=>whnf
       try (refine And.intro (by first | omega | (simp;done)) ?_;conv=>whnf)
       try (refine And.intro (by first | rfl | omega) ?_;conv=>whnf)
       try (refine And.intro (by first | omega | exact⟨by first | rfl | (simp;done) | (simp;omega),by omega⟩) ?_;conv=>whnf)
       try (refine And.intro ⟨rfl,by first | rfl | (simp;done) | (simp;omega),by first | omega | (simp;omega)⟩ ?_;conv=>whnf)
       rw [wb]
       exact⟨i+1,by omega,by omega,WkN.r (s:= [0,1,2,3,4,5]) ⟨⟨rfl,rfl,rfl,rfl,rfl,rfl,rfl,A4 (by omega),trivial⟩,⟨rfl,rfl,rfl,rfl,rfl,congrArg (fun l=>some (AB.row _ _ l)) (U2 i c).symm,trivial⟩,rfl,rfl,rfl,rfl,rfl⟩⟩
      ·have ei:i=g.d.toNat+1:=by omega
       subst ei
       have w1:IntKind.i64.wrap (g.d+1)=g.d+1:=wi (by omega)
       have w2:IntKind.i64.wrap (g.d+2)=g.d+2:=wi (by omega)
       have w6:IntKind.i64.wrap (g.d+6)=g.d+6:=wi (by omega)
       have hgr:=EP (c.drop (g.d.toNat+1+1)) 4 (by rw [Ac];omega) (by decide)
       apply aDraw.treeK (0) tys_ok mixed (.one 0 (.one 1 (.one 2 (.one 3 (.one 4 (.one 5 (.one 6 (.one 7 (.one 8 (.one 9 (.one 10 (.one 11 (.one 13 (.one 12 (.one 14 (.one 15 (.one 16 .fin))))))))))))))))) (by kernel_rfl)
       conv=>whnf
       try (refine And.intro (by first | omega | (simp;done)) ?_;conv=>whnf)
       try (refine And.intro (by first | omega | (simp;done)) ?_;conv=>whnf)
       (refine ACalls.sub [bA (c.drop (g.d.toNat+1+1)), .v (.int .i64 4)] ⟨(by rw [w2,show (g.d+2).toNat=g.d.toNat+1+1 by omega];exact A5 (by omega)),ri,trivial⟩ ?_;refine Fn.cl hgr ?_)
       conv=>whnf
       try (refine And.intro ⟨rfl,by first | rfl | (simp;done) | (simp;omega),by first | omega | (simp;omega)⟩ ?_;conv=>whnf)
       try (refine And.intro ⟨rfl,by first | rfl | (simp;done) | (simp;omega),by first | omega | (simp;omega)⟩ ?_;conv=>whnf)
       rw [w1,wb,show (g.d+1).toNat=g.d.toNat+1 by omega]
       refine And.intro (QF _ _).symm ?_
       refine⟨rfl,?_⟩
       refine⟨⟨by rw [Ab,Eh],by omega⟩,?_⟩
       conv=>whnf
       rw [w6]
       refine⟨⟨by omega,by omega,by omega,by omega⟩,?_⟩
       conv=>whnf
       have e':SubL [.sl 1 (g.d.toNat+1) fun i=>(VQ (g.d.toNat+1) c).getD i [], .v (.int .i64 ((c.getD (g.d.toNat+1) 0).toNat:Int)), .v (.int .i64 ((leN ((c.drop (g.d.toNat+1+1)).take 4):Nat):Int))] (Ih (I9 (g.d.toNat+1) c)):=by
        rw [hE]
        refine⟨fun _ _ h=>Rd.congr (by simp) (fun i hi=>?_) h,fun _ _ h=>h,fun _ _ h=>h,trivial⟩
        have hi':i<g.d.toNat+1:=by simpa using hi
        rw [VQ,D_ hi',D_ hi']
       have hs2:∀ (c':Ctx) (v:Value),Rd (.sl 1 ((c.length:Int).toNat - (g.d+6).toNat) fun i=> [AV.v (Value.int IntKind.u8 (c.getD (i+(g.d+6).toNat) 0).toNat)]) c' v->Rd (bA (b.drop (17+u+(g.d.toNat+6)*(k+1)))) c' v:=by
        rw [<-hdd,show (g.d+6).toNat=g.d.toNat+6 by omega]
        exact A5 (by omega)
       refine⟨k+1,by omega,by omega,WkN.rc (ConvF.trans (ConvF.ofH (ConvH.last 3 rfl e')) (ConvF.sub 9 (y:=bA (b.drop (17+u+(g.d.toNat+6)*(k+1)))) rfl hs2)) (s:= [0,1,2,3]) ⟨⟨rfl,rfl,rfl,rfl,rfl,A4 (by omega),trivial⟩,⟨rfl,rfl,rfl,congrArg (fun l=>some (AB.row _ _ l)) (by rw [hst,Am];rfl),trivial⟩,rfl,rfl,rfl,rfl,rfl⟩⟩
     ·have ek:k=g.z.toNat:=by omega
      subst ek
      have hAl:A.label.size<=1000000:=by rw [hA];show s.size<=_;omega
      have hck:=Pz g A hg hAl
      rw [hA] at hck
      have hhl:(De (g.d.toNat+1) g.z.toNat (b.drop (17+u))).length=g.z.toNat:=Eh _ _ _
      refine ACalls.lendBox (cs2:= [.v (.int .i64 ((nums szA b).getD 0 0)), .v (.int .i64 ((nums szA b).getD 1 0)), .v (.int .i64 ((nums szA b).getD 4 0)), .v (.int .i64 ((nums szA b).getD 2 0)), .v (.int .i64 ((nums szA b).getD 3 0)), .v (.string s), .sl 3 ((De (g.d.toNat+1) g.z.toNat (b.drop (17+u))).map Ih).length fun i=>((De (g.d.toNat+1) g.z.toNat (b.drop (17+u))).map Ih).getD i []]) 2 3 rfl rfl ?_ ?_
      ·show [_,_,_,_,_,_,AV.slIn 3 _ _ (.ow 3 g.z.toNat)]=_
       rw [AV.slIn,if_pos rfl,if_pos (by rw [Ab,hhl])]
       rfl
      have hsa:SubL [.v (.int .i64 ((nums szA b).getD 0 0)), .v (.int .i64 ((nums szA b).getD 1 0)), .v (.int .i64 ((nums szA b).getD 4 0)), .v (.int .i64 ((nums szA b).getD 2 0)), .v (.int .i64 ((nums szA b).getD 3 0)), .v (.string s), .sl 3 ((De (g.d.toNat+1) g.z.toNat (b.drop (17+u))).map Ih).length fun i=>((De (g.d.toNat+1) g.z.toNat (b.drop (17+u))).map Ih).getD i []] (CN (Ju (g.d.toNat+1) g.z.toNat b s u)):=⟨ri,ri,ri,ri,ri,ri,AH (f:=Ih) (De (g.d.toNat+1) g.z.toNat (b.drop (17+u))) (by rw [Ab]) rfl,trivial⟩
      refine ACalls.sub [.ag (A9 g), .ag (CN (Ju (g.d.toNat+1) g.z.toNat b s u))] ⟨ri,AJ hsa,trivial⟩ ?_
      refine Fn.cl hck ?_
      conv=>whnf
      rw [<-hA]
      cases hok:AY g A with
      | false=>
       rw [hR0,hok]
       exact⟨_,DP _,rfl⟩
      | true=>
       rw [hR0,hok]
       conv=>whnf
       exact⟨.tp [.ag (CN A), .v (.bool true)],B3 ⟨AJ (by rw [hA];exact hsa),ri,trivial⟩,rfl⟩
   ·have hN:Cp g b=none:=by rw [hR0,if_pos hlen]
    rw [hN]
    refine Fn.st Tryz.func212 rfl ?_
    conv=>whnf
    refine Al (fun hq=>absurd hq (by omega)) (fun hq=>?_)
    conv=>whnf
    apply aDraw.treeM (0) tys_ok mixed (.one 0 (.one 2 (.one 3 (.one 5 (.one 6 (.one 8 (.one 9 (.one 11 (.one 12 (.one 13 (.one 14 (.two 1 (.two 4 (.two 7 (.two 10 (.one 15 (.one 16 (.one 17 .fin))) 16 (.one 10 (.one 15 (.one 17 .fin)))) 16 (.one 7 (.one 10 (.one 15 (.one 17 .fin))))) 16 (.one 4 (.one 7 (.one 10 (.one 15 (.one 17 .fin)))))) 16 (.one 1 (.one 4 (.one 7 (.one 10 (.one 15 (.one 17 .fin)))))))))))))))))) [6,17,18,19,20,21,22,23,24,25,26,27,28,29,30,31,32] (by kernel_rfl)
    ·conv=>whnf
     try (refine And.intro (by first | omega | (simp;done)) ?_;conv=>whnf)
     try (refine And.intro (by first | omega | (simp;done)) ?_;conv=>whnf)
     try (refine And.intro (by first | omega | (simp;done)) ?_;conv=>whnf)
     try (refine And.intro (by first | omega | (simp;done)) ?_;conv=>whnf)
     refine And.intro ?_ ?_
     ·conv=>whnf
      refine Fn.cl q0 ?_
      refine And.intro ?_ ?_
      ·conv=>whnf
       (refine ACalls.sub [bA (b.drop 4), .v (.int .i64 4)] ⟨A5 (by omega),ri,trivial⟩ ?_;refine Fn.cl q1 ?_)
       refine And.intro ?_ ?_
       ·conv=>whnf
        (refine ACalls.sub [bA (b.drop 8), .v (.int .i64 4)] ⟨A5 (by omega),ri,trivial⟩ ?_;refine Fn.cl q2 ?_)
        refine And.intro ?_ ?_
        ·conv=>whnf
         (refine ACalls.sub [bA (b.drop 12), .v (.int .i64 4)] ⟨A5 (by omega),ri,trivial⟩ ?_;refine Fn.cl q3 ?_)
         conv=>whnf
         try (refine And.intro ⟨rfl,by first | rfl | (simp;done) | (simp;omega),by first | omega | (simp;omega)⟩ ?_;conv=>whnf)
         exact⟨rfl,rfl⟩
        ·conv=>whnf
         (refine ACalls.sub [bA (b.drop 12), .v (.int .i64 4)] ⟨A5 (by omega),ri,trivial⟩ ?_;refine Fn.cl q3 ?_)
         conv=>whnf
         try (refine And.intro ⟨rfl,by first | rfl | (simp;done) | (simp;omega),by first | omega | (simp;omega)⟩ ?_;conv=>whnf)
         exact⟨rfl,rfl⟩
       ·conv=>whnf
        (refine ACalls.sub [bA (b.drop 8), .v (.int .i64 4)] ⟨A5 (by omega),ri,trivial⟩ ?_;refine Fn.cl q2 ?_)
        conv=>whnf
        (refine ACalls.sub [bA (b.drop 12), .v (.int .i64 4)] ⟨A5 (by omega),ri,trivial⟩ ?_;refine Fn.cl q3 ?_)
        conv=>whnf
        try (refine And.intro ⟨rfl,by first | rfl | (simp;done) | (simp;omega),by first | omega | (simp;omega)⟩ ?_;conv=>whnf)
        exact⟨rfl,rfl⟩
      ·conv=>whnf
       (refine ACalls.sub [bA (b.drop 4), .v (.int .i64 4)] ⟨A5 (by omega),ri,trivial⟩ ?_;refine Fn.cl q1 ?_)
       conv=>whnf
       (refine ACalls.sub [bA (b.drop 8), .v (.int .i64 4)] ⟨A5 (by omega),ri,trivial⟩ ?_;refine Fn.cl q2 ?_)
       conv=>whnf
       (refine ACalls.sub [bA (b.drop 12), .v (.int .i64 4)] ⟨A5 (by omega),ri,trivial⟩ ?_;refine Fn.cl q3 ?_)
       conv=>whnf
       try (refine And.intro ⟨rfl,by first | rfl | (simp;done) | (simp;omega),by first | omega | (simp;omega)⟩ ?_;conv=>whnf)
       exact⟨rfl,rfl⟩
     ·conv=>whnf
      refine Fn.cl q0 ?_
      conv=>whnf
      (refine ACalls.sub [bA (b.drop 4), .v (.int .i64 4)] ⟨A5 (by omega),ri,trivial⟩ ?_;refine Fn.cl q1 ?_)
      conv=>whnf
      (refine ACalls.sub [bA (b.drop 8), .v (.int .i64 4)] ⟨A5 (by omega),ri,trivial⟩ ?_;refine Fn.cl q2 ?_)
      conv=>whnf
      (refine ACalls.sub [bA (b.drop 12), .v (.int .i64 4)] ⟨A5 (by omega),ri,trivial⟩ ?_;refine Fn.cl q3 ?_)
      conv=>whnf
      try (refine And.intro ⟨rfl,by first | rfl | (simp;done) | (simp;omega),by first | omega | (simp;omega)⟩ ?_;conv=>whnf)
      exact⟨rfl,rfl⟩
    conv=>whnf
    rw [wb,show b.getD (Int.toNat 16) 0=b.getD 16 0 from rfl,<-n4]
    refine⟨⟨by omega,by omega,by omega,by omega⟩,?_⟩
    conv=>whnf
    refine ACalls.sub [bA (b.drop 17)] ⟨A5 (by omega),trivial⟩ ?_
    refine Fn.cl hr ?_
    conv=>whnf
    rw [wu]
    refine⟨⟨by omega,by omega,by omega,by omega⟩,?_⟩
    conv=>whnf
    rw [hu0]
    conv=>whnf
    rw [wm]
    refine Al (fun hq=>?_) (fun hq=>absurd hq (by omega))
    exact⟨_,DP _,rfl⟩
theorem SZ (g:Geo) (x:Gt) (addr:Int) (hg:AW g=true) (hx:x.bytes.length<=100000):Fn Tryz.prog 174 [.ag (A9 g), .ag (B4 x), .v (.int .i64 addr)] fun r=>r = .tp [.ag (CN ((Cy g x addr).getD an0)), .v (.bool (Cy g x addr).isSome)]:=by
 have hs:=L9 x addr hx
 by_cases h1:x.err=0/\Cq x.bytes=0/\CR x.bytes=addr
 ·have hr:=Rj g (BP x.bytes) hg (by have:=Kq x.bytes;omega)
  have hS:Cy g x addr=match Cp g (BP x.bytes) with | some a=>if a.gen=Cm x.bytes then some a else none | none=>none:=by rw [Cy,if_pos h1];rfl
  have hO:C2 x addr=some ⟨CR x.bytes,Cm x.bytes,BP x.bytes⟩:=by
   unfold C2;simp [h1.1,h1.2.1,h1.2.2]
  rw [hO] at hs
  cases hR:Cp g (BP x.bytes) with
  | none=>
   rw [hR] at hr hS
   rw [hS]
   refine Fn.st Tryz.func174 rfl ?_
   conv=>whnf
   refine Fn.cl hs ?_
   conv=>whnf
   refine Fn.cl hr ?_
   exact⟨_,DP _,rfl⟩
  | some a=>
   rw [hR] at hr hS
   by_cases h4:a.gen=Cm x.bytes
   ·have hS:Cy g x addr=some a:=hS.trans (if_pos h4)
    rw [hS]
    refine Fn.st Tryz.func174 rfl ?_
    conv=>whnf
    refine Fn.cl hs ?_
    conv=>whnf
    refine Fn.cl hr ?_
    conv=>whnf
    refine Al (fun hq=>absurd h4 hq) (fun _=>?_)
    exact⟨_,ri,rfl⟩
   ·have hS:Cy g x addr=none:=hS.trans (if_neg h4)
    rw [hS]
    refine Fn.st Tryz.func174 rfl ?_
    conv=>whnf
    refine Fn.cl hs ?_
    conv=>whnf
    refine Fn.cl hr ?_
    conv=>whnf
    refine Al (fun _=>?_) (fun hq=>absurd hq h4)
    exact⟨_,DP _,rfl⟩
 ·have hS:Cy g x addr=none:=by rw [Cy,if_neg h1]
  have hO:C2 x addr=none:=by
   unfold C2
   rw [if_neg h1]
  rw [hO] at hs
  rw [hS]
  refine Fn.st Tryz.func174 rfl ?_
  conv=>whnf
  refine Fn.cl hs ?_
  exact⟨_,DP _,rfl⟩
def XH (p:Option (An × Nat)):Int:=match p with | some (_,i)=>i | none=> -1
theorem Pi (g:Geo) (l:List Gt) (hg:AW g=true) (hl:l.length<=1000000) (hb:∀ x∈l,x.bytes.length<=100000):Fn Tryz.prog 120 [.ag (A9 g),BU l] fun r=>r = .tp [.ag (CN (Xw (Ef g l))), .v (.int .i64 (XH (Ef g l)))]:=by
 refine Fn.st Tryz.func120 rfl ?_
 conv=>whnf
 refine aLoop.ruleRR Nat (fun k=>([(1,BU l),(2, .bp 0 0),(4, .bp 1 0),(6, .bp 2 0),(7, .v (.int .i64 (XH (Dp g l k)))),(8, .v (.int .i64 k))], [.box 23 (A9 g), .box 40 [.v (.int .i64 0), .v (.int .i64 0), .v (.int .i64 0), .v (.int .i64 0), .v (.int .i64 0), .v (.string ⟨#[]⟩), .v (.slice none 0 0)], .box 40 (CN (Xw (Dp g l k)))])) (fun k=>k<=l.length) (fun k=>l.length - k) 0 (Ae _)
  (WkN.rc (ConvF.ofH (ConvH.subBox 2 rfl an0_sub)) (s:= [0,1,2]) ⟨⟨rfl,rfl,rfl,rfl,rfl,rfl,trivial⟩,⟨rfl,rfl,rfl,trivial⟩,rfl,rfl,rfl,rfl,rfl⟩) ?_
 intro k hk
 have hsucc:=Ge g l k
 conv=>whnf
 refine Al (fun h6=>?_) (fun h6=>?_) <;> (repeat rw [Aa] at h6) <;> conv=>whnf
 ·have hk':k<l.length:=by omega
  have hx:=hb _ (AC (d:=(⟨0, []⟩:Gt)) hk')
  have h2:=SZ g (l.getD k ⟨0, []⟩) k hg hx
  rw [LK] at hsucc
  repeat' (first | (refine aSeq.go ?_;conv=>whnf) | fail)
  apply aDraw.treeM (0) tys_ok mixed (.one 0 (.one 1 (.one 2 (.one 3 (.one 4 (.one 5 (.two 6 (.one 7 (.one 8 (.one 9 (.one 10 (.one 11 (.one 12 .fin)))))) 10 (.one 6 (.one 7 (.one 8 (.one 9 (.one 11 (.one 12 .fin))))))))))))) [9,10,17,18,19,20,21,22,23,24,25,26] (by kernel_rfl)
  ·conv=>whnf
   try (refine And.intro (by first | omega | (simp;done)) ?_;conv=>whnf)
   refine And.intro ?_ ?_
   ·conv=>whnf
    (rw [Aa];refine Fn.cl h2 ?_)
    conv=>whnf
    try (refine And.intro ⟨rfl,by first | rfl | (simp;done) | (simp;omega),by first | omega | (simp;omega)⟩ ?_;conv=>whnf)
    exact⟨rfl,rfl⟩
   ·conv=>whnf
    (rw [Aa];refine Fn.cl h2 ?_)
    conv=>whnf
    try (refine And.intro ⟨rfl,by first | rfl | (simp;done) | (simp;omega),by first | omega | (simp;omega)⟩ ?_;conv=>whnf)
    exact⟨rfl,rfl⟩
  conv=>whnf
  generalize Cy g (l.getD k ⟨0, []⟩) (k:Nat)=S at hsucc |-
  generalize Dp g l k=P at hsucc |-
  cases S with
  | none=>
   conv=>whnf
   repeat' (first | (refine aSeq.go ?_;conv=>whnf) | fail)
   refine⟨k+1,hk',by omega,?_⟩
   rw [show Dp g l (k+1)=P from hsucc]
   exact WkN.r (s:= [0,1,2]) ⟨⟨rfl,rfl,rfl,rfl,rfl,A4 (by omega),trivial⟩,⟨rfl,rfl,rfl,trivial⟩,rfl,rfl,rfl,rfl,rfl⟩
  | some b=>
   cases P with
   | none=>
    conv=>whnf
    repeat' (first | (refine aSeq.go ?_;conv=>whnf) | fail)
    refine⟨k+1,hk',by omega,?_⟩
    rw [show Dp g l (k+1)=some (b,k) from hsucc]
    exact WkN.r (s:= [0,1,2]) ⟨⟨rfl,rfl,rfl,rfl,rfl,A4 (by omega),trivial⟩,⟨rfl,rfl,rfl,trivial⟩,rfl,rfl,rfl,rfl,rfl⟩
   | some q=>
    obtain⟨a,j⟩:=q
    conv=>whnf
    by_cases h5:a.gen<b.gen
    ·have e:Dp g l (k+1)=some (b,k):=hsucc.trans (if_pos h5)
     refine Al (fun h7=>?_) (fun h7=>absurd h5 (Int.not_lt.2 (show b.gen<=a.gen from h7)))
     conv=>whnf
     repeat' (first | (refine aSeq.go ?_;conv=>whnf) | fail)
     refine⟨k+1,hk',by omega,?_⟩
     rw [e]
     exact WkN.r (s:= [0,1,2]) ⟨⟨rfl,rfl,rfl,rfl,rfl,A4 (by omega),trivial⟩,⟨rfl,rfl,rfl,trivial⟩,rfl,rfl,rfl,rfl,rfl⟩
    ·have e:Dp g l (k+1)=some (a,j):=hsucc.trans (if_neg h5)
     refine Al (fun h7=>absurd (show a.gen<b.gen from h7) h5) (fun h7=>?_)
     conv=>whnf
     repeat' (first | (refine aSeq.go ?_;conv=>whnf) | fail)
     refine⟨k+1,hk',by omega,?_⟩
     rw [e]
     exact WkN.r (s:= [0,1,2]) ⟨⟨rfl,rfl,rfl,rfl,rfl,A4 (by omega),trivial⟩,⟨rfl,rfl,rfl,trivial⟩,rfl,rfl,rfl,rfl,rfl⟩
 ·have ek:k=l.length:=by omega
  subst ek
  exact⟨_,ri,rfl⟩
theorem SY (g:Geo) (a:An) (x y:List Gt) (hg:AW g=true) (ha:AY g a=true) (hx:(x.length:Int)=g.sl) (hy:(y.length:Int)=g.sl) (hxb:∀ z∈x,z.bytes.length<=100000) (hyb:∀ z∈y,z.bytes.length<=100000) :
  Fn Tryz.prog 121 [.ag (A9 g), .ag (CN a),BU x,BU y] fun r=>r = .tp [D8 (CS g a x y).1,F0 (CS g a x y).2.1, .v (.int .i64 (CS g a x y).2.2)]:=by
 obtain⟨h1,h2,h3,h4,h5⟩:=Ao.1 hg
 have hq:=BV ha
 refine Fn.st Tryz.func121 rfl ?_
 conv=>whnf
 refine aDraw.of tys_ok mixed [0,1,2,3,4,5,6,7,8] (by kernel_rfl) ?_
 conv=>whnf
 unfold CS
 generalize hR:CT g a x y g.sl.toNat a.pos a.seq g.sl [] []=R
 refine aLoop.rule (Nat × Int × Int × Int × List Tx × List (List AV) × List Wr) (fun z=>([(2,BU x),(3,BU y),(4, .bp 0 0),(5, .bp 1 0),(8, .v (.slice none 0 0)),(9, .v (.slice none 0 0)),(10, .v (.int .i64 0)),(11, .ow 2 z.2.2.2.2.2.1.length),(12, .ow 3 z.2.2.2.2.2.2.length),(13, .v (.int .i64 z.2.1)),(14, .v (.int .i64 z.2.2.1)),(15, .v (.int .i64 z.2.2.2.1))], [.box 23 (A9 g), .box 40 (CN a), .row 78 4 z.2.2.2.2.2.1, .row 130 2 (z.2.2.2.2.2.2.map Dy)]))
  (fun z=>CT g a x y z.1 z.2.1 z.2.2.1 z.2.2.2.1 z.2.2.2.2.1 z.2.2.2.2.2.2=R/\z.2.2.2.1<=z.1/\(0<=z.2.1/\z.2.1<g.sl)/\(0<=z.2.2.1/\z.2.2.1<=4294967296)/\(z.2.2.2.2.1.length*2+z.2.2.2.1<=g.sl/\0<=z.2.2.2.1)/\z.2.2.2.2.2.2.length<=z.2.2.2.2.1.length*30/\SubLL z.2.2.2.2.2.1 (z.2.2.2.2.1.map Hq))
  (fun z=>z.1) (g.sl.toNat,a.pos,a.seq,g.sl, [], [], []) ⟨hR,show g.sl<=(g.sl.toNat:Int) by omega,hq.2,hq.1,⟨show (0:Int)*2+g.sl<=g.sl by omega,show 0<=g.sl by omega⟩,Nat.le_refl 0,trivial⟩ ⟨[(11,78,4),(12,130,2)],⟨rfl,rfl,rfl,rfl,trivial⟩,⟨rfl,rfl,rfl,rfl,rfl,rfl,rfl,rfl,rfl,rfl,rfl,rfl,trivial⟩,⟨rfl,rfl,rfl,rfl,trivial⟩,rfl,rfl,rfl⟩ ?_
 rintro⟨f,pos,seq,left,l,rl,w⟩ ⟨b1,b2,b3,b4,b5,b6,b7⟩
 dsimp only at b1 b2 b3 b4 b5 b6 b7 |-
 have b8:rl.length=l.length:=by have:=b7.len;rwa [Ab] at this
 conv=>whnf
 refine Al (fun c1=>?A) (fun c1=>?B)
 case' A=>conv=>whnf
 case' A=>refine Al (fun c2=>?A1) (fun c2=>?A2)
 case A1=>
  conv=>whnf
  cases f with
  | zero=>exfalso;omega
  | succ f=>
   unfold CT at b1
   rw [if_pos ⟨c1,c2⟩] at b1
   dsimp only at b1
   have tf:=Fi (a:=a) (x:=x) (y:=y) (seq:=seq) (left:=left) hg b3
   refine aLoop.rule (Nat × Int × List Img × List Wr) (fun z=>([(2,BU x),(3,BU y),(4, .bp 0 0),(5, .bp 1 0),(8, .v (.slice none 0 0)),(9, .v (.slice none 0 0)),(10, .v (.int .i64 0)),(11, .ow 2 rl.length),(12, .ow 3 w.length),(13, .v (.int .i64 pos)),(14, .v (.int .i64 seq)),(15, .v (.int .i64 left)),(16, .bp 4 0),(17, .ow 6 z.2.2.2.length),(18, .v (.int .i64 z.2.1)),(19, .v (.int .i64 1)),(20, .v (.int .i64 z.1))], [.box 23 (A9 g), .box 40 (CN a), .row 78 4 rl, .row 130 2 (w.map Dy), .box 78 [.v (.int .i64 seq), .v (.int .i64 pos), .v (.int .i64 0), .ow 5 z.2.2.1.length], .row 83 3 (z.2.2.1.map Dc), .row 130 2 (z.2.2.2.map Dy)]))
    (fun z=>TxJ g a x y pos seq left z.1 z.2.1 z.2.2.1 z.2.2.2) (fun z=>31 - z.1) (0,0, [], []) (.inl ⟨rfl,rfl,rfl,rfl⟩) ⟨[(1004003,83,3),(17,130,2)],⟨rfl,rfl,rfl,rfl,trivial⟩,⟨rfl,rfl,rfl,rfl,rfl,rfl,rfl,rfl,rfl,rfl,rfl,rfl,rfl,rfl,rfl,rfl,rfl,trivial⟩,⟨rfl,rfl,rfl,rfl,rfl,rfl,rfl,trivial⟩,rfl,rfl,rfl⟩ ?_
   rintro⟨k,of_,ims,more⟩ hJ
   dsimp only at hJ |-
   have hJl:=hJ.len
   conv=>whnf
   refine Al (fun d1=>?C) (fun d1=>?D)
   case' D=>conv=>whnf
   case' D=>refine Al (fun d2=>?D1) (fun d2=>?D2)
   case D2=>
    conv=>whnf
    have hT:=hJ.fin (by omega)
    rw [hT] at b1 tf
    dsimp only at b1 tf
    rw [if_neg (by decide),if_neg (by decide)] at b1
    obtain⟨-,⟨n1,n2,n3⟩,n4⟩:=tf.resolve_right (by omega)
    have hm:=Au (pos+of_) (show 0<g.sl by omega)
    have hm0:=A6 g.sl (show 0<=pos+of_ by omega)
    have w1:IntKind.i64.wrap (pos+of_)=pos+of_:=wi (by omega)
    have w2:IntKind.i64.wrap (seq+1)=seq+1:=wi (by omega)
    have w3:IntKind.i64.wrap (left - of_)=left - of_:=wi (by omega)
    refine⟨(by rw [Ab]),?_⟩
    refine⟨rfl,?_⟩
    refine⟨⟨rfl,by omega⟩,?_⟩
    refine⟨(by rw [Ab]),?_⟩
    refine⟨⟨by rw [Ab],by omega⟩,?_⟩
    conv=>whnf
    rw [w1]
    refine⟨by omega,?_⟩
    conv=>whnf
    rw [w2,w3]
    refine⟨(f,(pos+of_).tmod g.sl,seq+1,left - of_,l ++ [⟨seq,pos,of_,ims⟩],rl ++ [[.v (.int .i64 seq), .v (.int .i64 pos), .v (.int .i64 of_), .sl 3 ims.length fun i=>(ims.map Dc).getD i []]],w ++ more),⟨b1,by dsimp only;omega,⟨hm0,hm⟩,by dsimp only;omega,?_,?_,?_⟩,Nat.lt_succ_self f, [],trivial,⟨rfl,rfl,rfl,rfl,rfl,rfl,rfl,by rw [List.length_append];rfl,by rw [List.length_append];rfl,rfl,rfl,rfl,trivial⟩,⟨rfl,rfl,rfl,by rw [Am],trivial⟩,rfl,rfl,rfl⟩
    ·dsimp only
     rw [List.length_append]
     simp only [Ah,AG]
     omega
    ·dsimp only
     rw [List.length_append,List.length_append]
     simp only [Ah,AG]
     omega
    ·dsimp only
     rw [Am]
     refine SubLL.app ?_ b7
     exact⟨fun _ _ h=>h,fun _ _ h=>h,fun _ _ h=>h,AH (f:=Dc) ims rfl rfl,trivial⟩
   all_goals
    conv=>whnf
    have hk:k=0\/(k:Int)<of_:=by omega
    have hsl:=Km (at_:=(k:Nat)) hg b3 (by omega)
    obtain⟨s,es⟩:=Cv hsl.1
    have es2:(IntKind.i64.wrap (pos+(k:Nat))).tmod g.sl=(s:Nat):=es
    have hs1:(s:Int)<g.sl:=by rw [es] at hsl;exact hsl.2
    have hin:BW (s:Nat) 0 (g.sl - 1)=true:=AE.2 (by omega)
    have rl1:=Tc g a (x.getD s gz) (y.getD s gz) (s:Nat) seq (k:Nat) of_ left hg hin (hxb _ (AC (by omega))) (hyb _ (AC (by omega)))
    have hF:=GI (g:=g) (a:=a) (x:=x.getD s gz) (y:=y.getD s gz) (slot:=(s:Nat)) (seq:=seq) (at_:=(k:Nat)) (of_:=of_) (left:=left) ⟨by omega,hs1⟩
    have hrec:Cx g a x y pos seq left (k:Nat) of_=((Dq g a (x.getD s gz) (y.getD s gz) (s:Nat) seq (k:Nat) of_ left).1,(Dq g a (x.getD s gz) (y.getD s gz) (s:Nat) seq (k:Nat) of_ left).2.2,(Dq g a (x.getD s gz) (y.getD s gz) (s:Nat) seq (k:Nat) of_ left).2.1.map fun c=>⟨AK g c (s:Nat),Cu g (Dq g a (x.getD s gz) (y.getD s gz) (s:Nat) seq (k:Nat) of_ left).1 c (s:Nat)⟩):=by
     unfold Cx
     dsimp only
     rw [es,Aa]
    generalize Dq g a (x.getD s gz) (y.getD s gz) (s:Nat) seq (k:Nat) of_ left=Q at rl1 hF hrec
    refine aSeq.go ?_
    refine⟨by omega,?_⟩
    conv=>whnf
    rw [es2]
    conv=>whnf
    apply aDraw.tree tys_ok mixed (.one 0 (.one 1 (.one 2 (.one 3 (.one 4 (.one 5 (.one 6 (.one 7 (.one 8 (.one 9 (.one 10 (.one 11 (.one 12 (.one 13 (.one 14 (.two 15 (.one 16 (.one 17 (.one 18 (.one 19 (.one 20 (.one 21 (.one 22 (.one 23 .fin)))))))) 20 (.one 15 (.one 16 (.one 17 (.one 18 (.one 19 (.one 21 (.one 22 (.one 23 .fin)))))))))))))))))))))))) [22,23,24,60,61,62,63,64,65,66,67,68,69,70,71,72,73,74,75,76,77,78,79] (by kernel_rfl)
    ·conv=>whnf
     try (refine And.intro (by first | omega | (simp;done)) ?_;conv=>whnf)
     try (refine And.intro (by first | omega | (simp;done)) ?_;conv=>whnf)
     refine And.intro ?_ ?_
     ·conv=>whnf
      refine Fn.cl rl1 ?_
      conv=>whnf
      try (refine And.intro ⟨rfl,by first | rfl | (simp;done) | (simp;omega),by first | omega | (simp;omega)⟩ ?_;conv=>whnf)
      exact⟨rfl,rfl⟩
     ·conv=>whnf
      refine Fn.cl rl1 ?_
      conv=>whnf
      try (refine And.intro ⟨rfl,by first | rfl | (simp;done) | (simp;omega),by first | omega | (simp;omega)⟩ ?_;conv=>whnf)
      exact⟨rfl,rfl⟩
    conv=>whnf
    obtain⟨r,ws,how⟩:=Q
    dsimp only at hF hrec |-
    refine Al (fun f1=>?_) (fun f1=>?_) <;> (repeat rw [Aa] at f1) <;> conv=>whnf
    ·obtain⟨q1,rfl,rfl⟩:=hF.resolve_left (fun h=>f1 h.1)
     have hT:=hJ.stop hk hrec f1
     rw [hT] at b1 tf
     dsimp only at b1
     rcases q1 with rfl | rfl
     ·rw [if_neg (by decide),if_pos (by decide)] at b1
      subst b1
      have hws:IntKind.i64.wrap (seq - 1)=seq - 1:=by rw [IntKind.wrap_i64];omega
      conv=>whnf
      rw [hws]
      conv=>whnf
      refine Al (fun e1=>?_) (fun e1=>?_) <;> (repeat rw [Aa] at e1) <;> conv=>whnf
      ·exact⟨_,fun c u h=>D6 12 c u h,by rw [Ex e1];rfl⟩
      ·refine⟨rfl,?_⟩
       refine⟨(by rw [Ab]),?_⟩
       exact⟨.tp [D8 l,F0 w, .v (.int .i64 0)],B3 ⟨G7 l b8 rfl b7,AH w rfl rfl,ri,trivial⟩,by rw [DF (by omega)]⟩
     ·rw [if_pos (by decide)] at b1
      subst b1
      exact⟨_,fun c u h=>D6 12 c u h,rfl⟩
    ·subst f1
     obtain⟨-,⟨o1,o2,o3⟩,o4,o5⟩:=hF.resolve_right (fun h=>by omega)
     have hJ2:=hJ.step hk hrec rfl o1 o3 (by rw [Ab];exact o4)
     dsimp only at hJ2
     obtain⟨IM,hIM⟩:∃ IM,IM=(if r.kind=1 then ims ++ [r.img] else ims):=⟨_,rfl⟩
     rw [<-hIM] at hJ2
     have hJl2:=hJ2.len
     refine aSeq.cut Unit (fun _=>([(2,BU x),(3,BU y),(4, .bp 0 0),(5, .bp 1 0),(8, .v (.slice none 0 0)),(9, .v (.slice none 0 0)),(10, .v (.int .i64 0)),(11, .ow 2 rl.length),(12, .ow 3 w.length),(13, .v (.int .i64 pos)),(14, .v (.int .i64 seq)),(15, .v (.int .i64 left)),(16, .bp 4 0),(17, .ow 6 more.length),(18, .v (.int .i64 r.of_)),(19, .v (.int .i64 1)),(20, .v (.int .i64 k)),(21, .v (.int .i64 (s:Nat))),(22, .bp 7 0),(23,iA ws)], [.box 23 (A9 g), .box 40 (CN a), .row 78 4 rl, .row 130 2 (w.map Dy), .box 78 [.v (.int .i64 seq), .v (.int .i64 pos), .v (.int .i64 0), .ow 5 IM.length], .row 83 3 (IM.map Dc), .row 130 2 (more.map Dy), .box 85 (DW r)])) (fun _=>True) ?_ ?_
     ·conv=>whnf
      refine Al (fun k1=>?_) (fun k1=>?_) <;> (repeat rw [Aa] at k1) <;> conv=>whnf
      ·rw [if_pos k1] at hIM
       refine⟨rfl,?_⟩
       refine⟨⟨by rw [Ab],by omega⟩,?_⟩
       conv=>whnf
       exact⟨(),trivial, [],trivial,⟨rfl,rfl,rfl,rfl,rfl,rfl,rfl,rfl,rfl,rfl,rfl,rfl,rfl,rfl,rfl,rfl,rfl,rfl,rfl,rfl,trivial⟩,⟨rfl,rfl,rfl,rfl,by rw [hIM,List.length_append];rfl,by rw [hIM,Am];rfl,rfl,rfl,trivial⟩,rfl,rfl,rfl⟩
      ·rw [if_neg k1] at hIM
       exact⟨(),trivial, [],trivial,⟨rfl,rfl,rfl,rfl,rfl,rfl,rfl,rfl,rfl,rfl,rfl,rfl,rfl,rfl,rfl,rfl,rfl,rfl,rfl,rfl,trivial⟩,⟨rfl,rfl,rfl,rfl,by rw [hIM],by rw [hIM],rfl,rfl,trivial⟩,rfl,rfl,rfl⟩
     ·rintro⟨⟩ -
      conv=>whnf
      cases ws with
      | nil=>
       rw [Bv,List.append_nil] at hJ2
       refine aLoop.rounds 1 ?_
       conv=>whnf
       exact⟨(k+1,r.of_,IM,more),hJ2,by dsimp only;omega, [],trivial,⟨rfl,rfl,rfl,rfl,rfl,rfl,rfl,rfl,rfl,rfl,rfl,rfl,rfl,rfl,rfl,rfl,A4 (by omega),trivial⟩,⟨rfl,rfl,rfl,rfl,rfl,rfl,rfl,trivial⟩,rfl,rfl,rfl⟩
      | cons c t=>
       have et:t=[]:=by
        cases t with
        | nil=>rfl
        | cons _ _=>simp at o4
       subst et
       have hL:=o5 c (by simp)
       have c1:=CP g c (s:Nat) hg hL
       have c2:=F_ g r c (s:Nat) o1 hL
       refine aLoop.rounds 2 ?_
       conv=>whnf
       apply aDraw.tree tys_ok mixed (.one 0 (.one 1 (.one 2 (.one 3 (.one 4 (.one 5 (.one 6 (.one 8 (.one 9 (.one 10 (.one 11 (.one 12 (.one 13 (.one 14 (.one 7 (.one 15 (.one 16 (.one 17 (.one 18 (.one 19 .fin)))))))))))))))))))) [17,101,102,103,104,105,106,107,108,109,110,111,112,113,114,115,116,117,118,119] (by kernel_rfl)
       ·conv=>whnf
        try (refine And.intro (by first | omega | (simp;done)) ?_;conv=>whnf)
        try (refine And.intro (by first | omega | (simp;done)) ?_;conv=>whnf)
        refine Fn.cl c1 ?_
        conv=>whnf
        refine Fn.cl c2 ?_
        conv=>whnf
        try (refine And.intro (by first | rfl | omega) ?_;conv=>whnf)
        try (refine And.intro (by first | omega | exact⟨by first | rfl | (simp;done) | (simp;omega),by omega⟩) ?_;conv=>whnf)
        exact⟨rfl,rfl⟩
       conv=>whnf
       exact⟨(k+1,r.of_,IM,more ++ [⟨AK g c (s:Nat),Cu g r c (s:Nat)⟩]),hJ2,by dsimp only;omega, [],trivial,⟨rfl,rfl,rfl,rfl,rfl,rfl,rfl,rfl,rfl,rfl,rfl,rfl,rfl,by rw [List.length_append];rfl,rfl,rfl,A4 (by omega),trivial⟩,⟨rfl,rfl,rfl,rfl,rfl,rfl,by rw [Am];rfl,trivial⟩,rfl,rfl,rfl⟩
 all_goals
  conv=>whnf
  have hb:some (l,w,seq)=R:=by
   cases f with
   | zero=>exact b1
   | succ f=>unfold CT at b1;rw [if_neg (by omega)] at b1;exact b1
  subst hb
  have hws:IntKind.i64.wrap (seq - 1)=seq - 1:=by rw [IntKind.wrap_i64];omega
  rw [hws]
  conv=>whnf
  refine Al (fun e1=>?_) (fun e1=>?_) <;> (repeat rw [Aa] at e1) <;> conv=>whnf
  ·exact⟨_,fun c u h=>D6 12 c u h,by rw [Ex e1];rfl⟩
  ·refine⟨rfl,?_⟩
   refine⟨(by rw [Ab]),?_⟩
   exact⟨.tp [D8 l,F0 w, .v (.int .i64 0)],B3 ⟨G7 l b8 rfl b7,AH w rfl rfl,ri,trivial⟩,by rw [DF (by omega)]⟩
def eK (d:Dk) (k:Nat):Int:=if d.live k then 0 else 8
def gK (d:Dk) (k:Nat) (a:Int):Gt:=if d.live k then MV d a else ⟨8, []⟩
theorem Jl {d:Dk} {j k:Nat} (h:d.live k) (hj:j<=k):d.live j:=by unfold Dk.live at *;omega
theorem UI {d:Dk} (hl : -1<=d.left):∀ k,¬d.live k->(d.adv k).left=0
 | 0,h=>by exfalso;apply h;unfold Dk.live;omega
 | k+1,h=>by
  by_cases hk:d.live k
  ·have:=UJ k d h hk
   rw [Fz k (k+1) d this (by omega)];exact this
  ·have:=UI hl k hk
   rw [Fz k (k+1) d this (by omega)];exact this
theorem M8 (g:Geo) (s:Stt) (d:Dk) (k:Nat) (a:Int) (h:DkOk d) (ha:0<=a/\a<d.cells.length) :
  ACalls Tryz.prog false 119 [.bp 0 0, .v (.int .i64 a)] (IR g s (eK d k) (d.adv k)) fun r H=>r = .ag (B4 (gK d (k+1) a))/\H=IR g s (eK d (k+1)) (d.adv (k+1)):=by
 have hd:=h.adv k
 have hn:=(D5 k d).1
 have hl:=h.l
 unfold eK gK
 by_cases hk:d.live k
 ·have hr:=Wz g s (d.adv k) a hd (by rw [hn];exact ha)
  rw [if_pos hk]
  by_cases h0:(d.adv k).left=0
  ·have hk1:=(GS k d hl.1 hk).1 h0
   rw [if_pos h0,Hb a h0] at hr
   rw [if_neg hk1,if_neg hk1,Fz k (k+1) d h0 (by omega)]
   exact hr
  ·have hk1:d.live (k+1):=by
    by_cases e:d.live (k+1)
    ·exact e
    ·exact absurd ((GS k d hl.1 hk).2 e) h0
   rw [if_neg h0,Ha a h0] at hr
   rw [if_pos hk1,if_pos hk1]
   exact hr
 ·have hk1:¬d.live (k+1):=fun h=>hk (Jl h (by omega))
  have h0:=UI hl.1 k hk
  rw [if_neg hk,if_neg hk1,if_neg hk1,Fz k (k+1) d h0 (by omega)]
  exact W0 g s 8 (d.adv k) a (by decide)
theorem UQ (g:Geo) (s:Stt) (d:Dk) (l:List Wr) (k:Nat) (h:DkOk d) (hl:∀ w∈l,Nj d.cells.length w) (hk:k<l.length) :
  ACalls Tryz.prog false 94 [.bp 0 0, .v (.int .i64 (l.getD k ⟨0, []⟩).addr),bA (l.getD k ⟨0, []⟩).bytes] (IR g s (Sg (d.writes (l.take k)).2.2) (d.writes (l.take k)).1) fun r H=>(∃ b,r = .v (.bool b))/\H=IR g s (Sg (d.writes (l.take (k+1))).2.2) (d.writes (l.take (k+1))).1:=by
 have hd:=Fe h hl k
 have hm:=hl _ (AC (d:=(⟨0, []⟩:Wr)) hk)
 have hlive:=fun hlv=>JS (d:=d) hk hlv
 have hstay:=fun hlv=>J2 (d:=d) hk hlv
 generalize d.writes (l.take (k+1))=Q' at hlive hstay |-
 generalize d.writes (l.take k)=Q at hd hlive hstay |-
 obtain⟨X,N,dead⟩:=Q
 simp only at hd hlive hstay |-
 cases dead with
 | true=>
  rw [hstay rfl]
  exact(ST g s 8 X _ _ (by decide)).mono fun r H h=>⟨⟨false,h.1⟩,h.2⟩
 | false=>
  rw [hlive rfl]
  have hc:=SS g s X (l.getD k ⟨0, []⟩).addr (l.getD k ⟨0, []⟩).bytes hd.1 (by rw [hd.2];exact hm.1) hm.2
  refine hc.mono fun r H h=>⟨⟨_,h.1⟩,?_⟩
  rw [h.2]
  show IR g s _ _=IR g s (if decide _=true then 8 else 0) _
  congr 1
  by_cases h8:(X.write (l.getD k ⟨0, []⟩).addr (l.getD k ⟨0, []⟩).bytes).2=8
  ·rw [if_pos h8,if_pos (decide_eq_true h8)]
  ·rw [if_neg h8,if_neg (by rw [decide_eq_false h8];decide)]
def Tg (d:Dk) (ats:List Int) (k:Nat):List Gt:=(List.range k).map fun j=>gK d (j+1) (ats.getD j 0)
theorem Tf (d:Dk) (ats:List Int) (k:Nat):(Tg d ats (k+1)).map B4=(Tg d ats k).map B4 ++ [B4 (gK d (k+1) (ats.getD k 0))]:=by simp [Tg,Bf]
theorem Vg (d:Dk) (ats:List Int) (k:Nat):(Tg d ats k).length=k:=by simp [Tg]
theorem Vh {d:Dk} {ats:List Int} (h:d.live ats.length):Tg d ats ats.length=AD d ats:=by
 apply List.ext_getElem
 ·simp [Tg,AD]
 ·intro i h1 h2
  have hi:i<ats.length:=by simpa [Tg] using h1
  simp only [Tg,AD,List.getElem_map,List.getElem_range]
  rw [gK,if_pos (Jl h (by omega)),List.getD_eq_getElem?_getD,List.getElem?_eq_getElem hi];rfl
def Vi (d:Dk) (g:Geo) (c:Nat) (k:Nat):List Gt:=(List.range k).map fun j=>gK d (2*j+1+c) (AK g (c:Nat) (j:Nat))
theorem ND (d:Dk) (g:Geo) (c:Nat) (k:Nat):(Vi d g c (k+1)).map B4=(Vi d g c k).map B4 ++ [B4 (gK d (2*k+1+c) (AK g (c:Nat) (k:Nat)))]:=by simp [Vi,Bf]
theorem Qo (d:Dk) (g:Geo) (c:Nat) (k:Nat):(Vi d g c k).length=k:=by simp [Vi]
theorem Qp {d:Dk} {g:Geo} {c:Nat} (hc:c<=1) (h:d.live (2*g.sl.toNat)):Vi d g c g.sl.toNat=AD d (AI g (c:Nat)):=by
 unfold Vi AD AI
 rw [Da]
 refine BJ fun j hj=>?_
 have hj:=AA.1 hj
 rw [gK,if_pos (Jl h (by omega))];rfl
theorem V1 {d:Dk} {l:List Wr} (h:l≠ []):(if Sg (d.writes l).2.2=0 then if (d.writes l).1.left=0 then 8 else 0 else Sg (d.writes l).2.2:Int)=Sg (d.mend l).2/\(if Sg (d.writes l).2.2=0 then if (d.writes l).1.left=0 then (d.writes l).1 else (d.writes l).1.flush else (d.writes l).1)=(d.mend l).1:=by
 rw [Dk.mend,if_neg h]
 cases hd:(d.writes l).2.2 with
 | true=>rw [Ee hd];exact⟨rfl,rfl⟩
 | false=>
  rw [Ed hd]
  by_cases h0:(d.writes l).1.left=0
  ·rw [if_pos h0,if_pos h0,if_pos h0];exact⟨rfl,rfl⟩
  ·rw [if_neg h0,if_neg h0,if_neg h0];exact⟨rfl,rfl⟩
theorem Rk (g:Geo) (s:Stt) (d:Dk) (hg:AW g=true) (h:DkOk d) (hn:(d.cells.length:Int)=Az g) :
  ACalls Tryz.prog false 52 [.bp 0 0] (IR g s 0 d) fun r H=>(∃ S,r = .ag (FX S)/\((BD g d).2.1=0->S=(BD g d).2.2))/\H=Mt g s (BD g d).2.1 (BD g d).1:=by
 obtain⟨g1,g2,g3,g4,g5⟩:=Ao.1 hg
 have hcg:=CW hg
 have hl:=h.l
 have e0:eK d 0=0:=by unfold eK;rw [if_pos];unfold Dk.live;omega
 refine ACalls.ofR tys_ok Tryz.func52 rfl rfl (Ad rfl) ?_
 conv=>whnf
 refine aLoop.ruleRR Nat (fun k=>([(0, .bp 0 0),(2, .bp 4 0),(3, .ow 5 k),(4,nilV),(5,nilV),(6,ze k)],Xt g s (eK d k) (d.adv k) [.box 44 [ze 0,ze 0,ze 0,ze 0,ze 0, .v (.string ⟨#[]⟩),nilV,nilV, .v (.bool false),ze 0,ze 0,ze 0,ze 0,nilV], .row 187 2 ((Tg d (B8 g) k).map B4)])) (fun k=>k<=g.an.toNat) (fun k=>g.an.toNat - k) 0 (Ae _)
  ⟨_,_,ConvF.refl _ _, [(3,187,2)],⟨rfl,rfl,trivial⟩, [0,1,2,3,4,5],⟨⟨rfl,rfl,rfl,rfl,rfl,rfl,trivial⟩,⟨by rw [e0];rfl,rfl,rfl,rfl,rfl,rfl,trivial⟩,rfl,rfl,rfl,rfl,rfl⟩⟩ ?_
 intro k hk
 conv=>whnf
 refine Al (fun h6=>?_) (fun h6=>?_) <;> (repeat rw [Aa] at h6) <;> conv=>whnf
 ·have hk':k<g.an.toNat:=by omega
  have hr:=M8 g s d k k h (by omega)
  repeat' (first | (refine aSeq.go ?_;conv=>whnf) | fail)
  refine ACalls.frame [0,1,2,3] hr rfl rfl rfl rfl (by decide) (Ca rfl) ⟨rfl,rfl,rfl,rfl,trivial⟩ ?_
  rintro _ _ ⟨rfl,rfl⟩
  refine⟨rfl,?_⟩
  refine⟨⟨by rw [Ab,Vg],by omega⟩,?_⟩
  conv=>whnf
  exact⟨k+1,hk',by omega,WkN.r (s:= [0,1,2,3,4,5]) ⟨⟨rfl,rfl,rfl,rfl,rfl,A4 (by omega),trivial⟩,⟨rfl,rfl,rfl,rfl,rfl,congrArg (fun l=>some (AB.row _ _ l)) (by rw [Tf,Jz hk'];rfl),trivial⟩,rfl,rfl,rfl,rfl,rfl⟩⟩
 ·have ek:k=g.an.toNat:=by omega
  subst ek
  by_cases hlv:d.live g.an.toNat
  ·have eA:eK d g.an.toNat=0:=by unfold eK;rw [if_pos hlv]
   rw [eA]
   have hrl:Tg d (B8 g) g.an.toNat=AD d (B8 g):=by have:=Vh (d:=d) (ats:=B8 g) (by rw [CC];exact hlv);rwa [CC] at this
   rw [hrl]
   have hM:BD g d=match Ef g (AD d (B8 g)) with | none=>(d.adv g.an.toNat,11,st0) | some (a,_)=>Gh g a (d.adv g.an.toNat):=by unfold BD;rw [if_pos hlv];rfl
   have hnw:=Pi g (AD d (B8 g)) hg (by rw [BT,CC];omega) (Ei h _)
   have hpo:=fun {a j}=>Gd (g:=g) (l:=AD d (B8 g)) hg (AD d (B8 g)).length (a:=a) (j:=j)
   have hpo:∀ {a j},Ef g (AD d (B8 g))=some (a,j)->AY g a=true:=hpo
   have hgl:(AD d (B8 g)).length=g.an.toNat:=by rw [BT,CC]
   generalize AD d (B8 g)=L at hnw hpo hgl hM |-
   have hd1:=h.adv g.an.toNat
   have hs1:=(D5 g.an.toNat d).1
   generalize d.adv g.an.toNat=d1 at hd1 hs1 hM |-
   conv=>whnf
   refine ACalls.shut hnw.go ?_
   refine⟨(by rw [Ab,hgl]),?_⟩
   conv=>whnf
   refine ACalls.sub [.ag (A9 g),BU L] ⟨ri,AH (f:=B4) L hgl.symm rfl,trivial⟩ ?_
   refine Fn.cl hnw ?_
   conv=>whnf
   cases hP:Ef g L with
   | none=>
    rw [hP] at hM
    replace hM:BD g d=(d1,11,st0):=hM
    rw [hM]
    exact⟨.ag (FX st0), .ag (FX st0),Mt g s 11 d1,AJ st0_sub,WkN.rc (ConvF.ofH (ConvH.move 1 3 (by decide) rfl rfl)) (s:= [0,1,2,3,7]) ⟨⟨rfl,trivial⟩,⟨rfl,rfl,rfl,trivial,rfl,trivial⟩,rfl,rfl,rfl,rfl,rfl⟩,⟨st0,rfl,fun _=>rfl⟩,rfl⟩
   | some q=>
    obtain⟨a,j⟩:=q
    have hao:=hpo hP
    rw [hP] at hM
    replace hM:BD g d=Gh g a d1:=hM
    rw [hM]
    clear hM hnw
    have hl1:=hd1.l
    have e10:eK d1 0=0:=by unfold eK;rw [if_pos];unfold Dk.live;omega
    conv=>whnf
    refine aLoop.ruleRR Nat (fun k=>([(0, .bp 0 0),(2, .bp 4 0),(4, .ow 6 k),(5, .ow 7 k),(7, .bp 5 0),(9,ze k)],Xt g s (eK d1 (2*k)) (d1.adv (2*k)) [.box 44 [ze 0,ze 0,ze 0,ze 0,ze 0, .v (.string ⟨#[]⟩),nilV,nilV, .v (.bool false),ze 0,ze 0,ze 0,ze 0,nilV], .box 40 (CN a), .row 187 2 ((Vi d1 g 0 k).map B4), .row 187 2 ((Vi d1 g 1 k).map B4)])) (fun k=>k<=g.sl.toNat) (fun k=>g.sl.toNat - k) 0 (Ae _)
     ⟨_,_,ConvF.refl _ _, [(4,187,2),(5,187,2)],⟨rfl,rfl,rfl,rfl,trivial⟩, [0,1,2,3,4,6,7,8],⟨⟨rfl,rfl,rfl,rfl,rfl,rfl,trivial⟩,⟨by show _=some (AB.box _ (Xu _ _ _ (eK d1 0)));rw [e10];rfl,rfl,rfl,rfl,rfl,rfl,rfl,rfl,trivial⟩,rfl,rfl,rfl,rfl,rfl⟩⟩ ?_
    intro k hk
    conv=>whnf
    refine Al (fun h7=>?_) (fun h7=>?_) <;> (repeat rw [Aa] at h7) <;> conv=>whnf
    ·have hk':k<g.sl.toNat:=by omega
     have hla:=CP g 0 k hg (by simp only [FJ,Bool.and_eq_true,AE];omega)
     have hlb:=CP g 1 k hg (by simp only [FJ,Bool.and_eq_true,AE];omega)
     have hra:=M8 g s d1 (2*k) (AK g 0 k) hd1 (FN hg (by rw [hs1];exact hn) (.inl rfl) (by omega))
     have hrb:=M8 g s d1 (2*k+1) (AK g 1 k) hd1 (FN hg (by rw [hs1];exact hn) (.inr rfl) (by omega))
     repeat' (first | (refine aSeq.go ?_;conv=>whnf) | fail)
     refine Fn.cl hla ?_
     conv=>whnf
     refine ACalls.frame [0,1,2,3] hra rfl rfl rfl rfl (by decide) (Ca rfl) ⟨rfl,rfl,rfl,rfl,trivial⟩ ?_
     rintro _ _ ⟨rfl,rfl⟩
     refine⟨rfl,?_⟩
     refine⟨⟨by rw [Ab,Qo],by omega⟩,?_⟩
     conv=>whnf
     repeat' (first | (refine aSeq.go ?_;conv=>whnf) | fail)
     refine Fn.cl hlb ?_
     conv=>whnf
     refine ACalls.frame [0,1,2,3] hrb rfl rfl rfl rfl (by decide) (Ca rfl) ⟨rfl,rfl,rfl,rfl,trivial⟩ ?_
     rintro _ _ ⟨rfl,rfl⟩
     refine⟨rfl,?_⟩
     refine⟨⟨by rw [Ab,Qo],by omega⟩,?_⟩
     conv=>whnf
     repeat' (first | (refine aSeq.go ?_;conv=>whnf) | fail)
     exact⟨k+1,hk',by omega,WkN.r (s:= [0,1,2,3,4,5,6,7]) ⟨⟨rfl,rfl,rfl,rfl,rfl,A4 (by omega),trivial⟩,⟨rfl,rfl,rfl,rfl,rfl,rfl,congrArg (fun l=>some (AB.row _ _ l)) (by rw [ND];rfl),congrArg (fun l=>some (AB.row _ _ l)) (by rw [ND];rfl),trivial⟩,rfl,rfl,rfl,rfl,rfl⟩⟩
    ·have ek:k=g.sl.toNat:=by omega
     subst ek
     unfold Gh
     by_cases hl2:d1.live (2*g.sl.toNat)
     ·have eB:eK d1 (2*g.sl.toNat)=0:=by unfold eK;rw [if_pos hl2]
      rw [eB,if_pos hl2,Qp (by decide) hl2,Qp (by decide) hl2]
      have hx1:(AD d1 (AI g 0)).length=g.sl.toNat:=by rw [BT,Cc]
      have hx2:(AD d1 (AI g 1)).length=g.sl.toNat:=by rw [BT,Cc]
      have hsc:=SY g a (AD d1 (AI g 0)) (AD d1 (AI g 1)) hg hao (by omega) (by omega) (Ei hd1 _) (Ei hd1 _)
      have hlast:=Hy (x:=AD d1 (AI g 0)) (y:=AD d1 (AI g 1)) hg hao
      have hin:=Ir (x:=AD d1 (AI g 0)) (y:=AD d1 (AI g 1)) (n:=d1.cells.length) hg hao (by omega) (by omega) (by rw [hs1];exact hn)
      have c0:AD d1 (AI g ((0:Nat):Int))=AD d1 (AI g 0):=rfl
      have c1:AD d1 (AI g ((1:Nat):Int))=AD d1 (AI g 1):=rfl
      rw [c0,c1]
      clear c0 c1
      generalize CS g a (AD d1 (AI g 0)) (AD d1 (AI g 1))=S at hsc hlast hin |-
      obtain⟨T,W,e⟩:=S
      simp only at hsc hlast hin
      generalize AD d1 (AI g 0)=X1 at hx1 hsc |-
      generalize AD d1 (AI g 1)=X2 at hx2 hsc |-
      have hd2:=hd1.adv (2*g.sl.toNat)
      have hs2:=(D5 (2*g.sl.toNat) d1).1
      generalize d1.adv (2*g.sl.toNat)=d2 at hd2 hs2 |-
      conv=>whnf
      apply aDraw.treeK (0) tys_ok mixed (.one 0 (.one 1 (.one 2 (.one 3 (.one 4 (.one 5 (.one 6 (.one 7 (.one 8 (.one 9 (.one 10 (.one 11 (.one 12 (.one 13 (.one 14 .fin))))))))))))))) (by kernel_rfl)
      conv=>whnf
      (refine ACalls.shut hsc.go ?_;(conv=>whnf);refine And.intro (by rw [Ab,hx1]) ?_;(conv=>whnf);refine And.intro (by rw [Ab,hx2]) ?_;(conv=>whnf);refine ACalls.sub [.ag (A9 g), .ag (CN a),BU X1,BU X2] ⟨ri,ri,AH (f:=B4) X1 hx1.symm rfl,AH (f:=B4) X2 hx2.symm rfl,trivial⟩ ?_;refine Fn.cl hsc ?_)
      conv=>whnf
      unfold HR
      by_cases he:e=0
      ·subst he
       rw [if_neg (by simp)]
       have hin:=hin rfl
       have hlast:=hlast rfl
       simp only
       conv=>whnf
       have hWin:∀ w∈W,Nj d2.cells.length w:=by rw [hs2];exact hin.1
       refine aLoop.ruleRR Nat (fun k=>([(0, .bp 0 0),(2, .bp 4 0),(7, .bp 5 0),(10,D8 T),(11,F0 W),(13,ze k)],Xt g s (Sg (d2.writes (W.take k)).2.2) (d2.writes (W.take k)).1 [.box 44 [ze 0,ze 0,ze 0,ze 0,ze 0, .v (.string ⟨#[]⟩),nilV,nilV, .v (.bool false),ze 0,ze 0,ze 0,ze 0,nilV], .box 40 (CN a)])) (fun k=>k<=W.length) (fun k=>W.length - k) 0 (Ae _)
        (WkN.r (s:= [0,1,2,3,4,5]) ⟨⟨rfl,rfl,rfl,rfl,rfl,rfl,trivial⟩,⟨rfl,rfl,rfl,rfl,rfl,rfl,trivial⟩,rfl,rfl,rfl,rfl,rfl⟩) ?_
       intro k hk
       conv=>whnf
       refine Al (fun h8=>?_) (fun h8=>?_) <;> (repeat rw [Aa] at h8) <;> conv=>whnf
       ·have hk':k<W.length:=by omega
        have hw:=UQ g s d2 W k hd2 hWin hk'
        repeat' (first | (refine aSeq.go ?_;conv=>whnf) | fail)
        apply aDraw.treeK (2 ^ 139) tys_ok mixed (.one 0 (.one 1 (.one 2 (.one 3 (.one 4 (.one 5 (.one 6 (.one 7 (.one 8 (.one 9 (.one 10 (.one 11 .fin)))))))))))) (by kernel_rfl)
        conv=>whnf
        try (refine And.intro (by first | omega | (simp;done)) ?_;conv=>whnf)
        try (refine And.intro (by first | omega | (simp;done)) ?_;conv=>whnf)
        (rw [Aa];refine ACalls.frame [0,1,2,3] hw rfl rfl rfl rfl (by decide) (Ca rfl) ⟨rfl,rfl,rfl,rfl,trivial⟩ ?_;rintro _ _ ⟨⟨b,rfl⟩,rfl⟩)
        exact⟨k+1,hk',by omega,WkN.r (s:= [0,1,2,3,4,5]) ⟨⟨rfl,rfl,rfl,rfl,rfl,A4 (by omega),trivial⟩,⟨rfl,rfl,rfl,rfl,rfl,rfl,trivial⟩,rfl,rfl,rfl,rfl,rfl⟩⟩
       ·have ek:k=W.length:=by omega
        subst ek
        rw [List.take_length]
        have hdw:=Fe hd2 hWin W.length
        rw [List.take_length] at hdw
        refine aSeq.cutR Unit (fun _=>([(0, .bp 0 0),(2, .bp 5 0),(7, .bp 6 0),(10,D8 T)],Mt g s (Sg (d2.mend W).2) (d2.mend W).1 ++ [AB.box 44 [ze 0,ze 0,ze 0,ze 0,ze 0, .v (.string ⟨#[]⟩),nilV,nilV, .v (.bool false),ze 0,ze 0,ze 0,ze 0,nilV],AB.box 40 (CN a)])) (fun _=>True) ?_ ?_
        ·by_cases hW:W=[]
         ·subst hW
          exact⟨(),trivial,WkN.rc (ConvF.ofH (ConvH.move 1 3 (by decide) rfl rfl)) (s:= [0,1,2,3,6,4,5]) ⟨⟨rfl,rfl,rfl,rfl,trivial⟩,⟨rfl,rfl,rfl,trivial,rfl,rfl,rfl,trivial⟩,rfl,rfl,rfl,rfl,rfl⟩⟩
         ·have hWl:0<W.length:=Df.2 hW
          obtain⟨m1,m2⟩:=V1 (d:=d2) hW
          have hf:=Tl g s (Sg (d2.writes W).2.2) (d2.writes W).1 hdw.1
          rw [m1,m2] at hf
          conv=>whnf
          refine Al (fun _=>?_) (fun hq=>absurd hq (by omega))
          conv=>whnf
          refine ACalls.frame [0,1,2,3] hf rfl rfl rfl rfl (by decide) (Ca rfl) ⟨rfl,rfl,rfl,rfl,trivial⟩ ?_
          rintro _ _ ⟨rfl,rfl⟩
          exact⟨(),trivial,WkN.r (s:= [0,1,2,3,6,4,5]) ⟨⟨rfl,rfl,rfl,rfl,trivial⟩,⟨rfl,rfl,rfl,trivial,rfl,rfl,rfl,trivial⟩,rfl,rfl,rfl,rfl,rfl⟩⟩
        ·rintro _ _
         have hdm:DkOk (d2.mend W).1/\(d2.mend W).1.cells.length=d2.cells.length:=by
          unfold Dk.mend
          split
          ·exact⟨hd2,rfl⟩
          ·exact Hf hd2 hWin
         generalize d2.mend W=M at hdm |-
         obtain⟨d3,dead⟩:=M
         simp only at hdm |-
         cases dead with
         | true=>
          rw [if_pos rfl]
          conv=>whnf
          repeat' (first | (refine aSeq.go ?_;conv=>whnf) | fail)
          exact⟨.ag (FX st0), .ag (FX st0),Mt g s 8 d3,AJ st0_sub,WkN.r (s:= [0,1,2,3,4]) ⟨⟨rfl,trivial⟩,⟨rfl,rfl,rfl,trivial,rfl,trivial⟩,rfl,rfl,rfl,rfl,rfl⟩,⟨st0,rfl,fun _=>rfl⟩,rfl⟩
         | false=>
          rw [if_neg (by decide)]
          have hpa:=EI hao
          unfold HP
          by_cases hmx:a.gen=4294967295\/a.epoch=4294967295
          ·rw [if_pos hmx]
           conv=>whnf
           repeat' (first | (refine aSeq.go ?_;conv=>whnf) | fail)
           refine Al (fun _=>?_) (fun q1=>?_)
           ·conv=>whnf
            repeat' (first | (refine aSeq.go ?_;conv=>whnf) | fail)
            exact⟨.ag (FX st0), .ag (FX st0),Mt g s 14 d3,AJ st0_sub,WkN.r (s:= [0,1,2,3,4]) ⟨⟨rfl,trivial⟩,⟨rfl,rfl,rfl,trivial,rfl,trivial⟩,rfl,rfl,rfl,rfl,rfl⟩,⟨st0,rfl,fun _=>rfl⟩,rfl⟩
           ·conv=>whnf
            refine Al (fun _=>?_) (fun q2=>absurd hmx (by omega))
            conv=>whnf
            repeat' (first | (refine aSeq.go ?_;conv=>whnf) | fail)
            exact⟨.ag (FX st0), .ag (FX st0),Mt g s 14 d3,AJ st0_sub,WkN.r (s:= [0,1,2,3,4]) ⟨⟨rfl,trivial⟩,⟨rfl,rfl,rfl,trivial,rfl,trivial⟩,rfl,rfl,rfl,rfl,rfl⟩,⟨st0,rfl,fun _=>rfl⟩,rfl⟩
          ·rw [if_neg hmx]
           have hna:=Iz (n:=T.length) hao (fun e=>hmx (.inl e)) (fun e=>hmx (.inr e)) hlast.2
           have hban:=NN g s d3 (CF a T.length) hg hna hdm.1 (If hg hna (by rw [hdm.2,hs2,hs1];exact hn))
           have w1:IntKind.i64.wrap (a.gen+1)=a.gen+1:=wi (by omega)
           have w2:IntKind.i64.wrap (a.epoch+1)=a.epoch+1:=wi (by omega)
           have w3:IntKind.i64.wrap (IntKind.i64.wrap (a.seq+T.length) - 1)=a.seq+T.length - 1:=by
            rw [wi (n:=a.seq+T.length) (by omega)];exact wi (by omega)
           conv=>whnf
           repeat' (first | (refine aSeq.go ?_;conv=>whnf) | fail)
           refine Al (fun q=>absurd q (by omega)) (fun q1=>?_)
           conv=>whnf
           refine Al (fun q=>absurd q (by omega)) (fun q2=>?_)
           conv=>whnf
           repeat' (first | (refine aSeq.go ?_;conv=>whnf) | fail)
           rw [w1,w2,w3]
           refine ACalls.frame [0,1,2,4] hban rfl rfl rfl rfl (by decide) (MM rfl rfl) ⟨rfl,rfl,rfl,rfl,trivial⟩ ?_
           rintro _ _ ⟨rfl,rfl⟩
           have hpn:(d3.putAll (Ay g (CF a T.length))).2.1=(d3.writes (Ay g (CF a T.length))).2.1:=by
            cases hdd:(d3.writes (Ay g (CF a T.length))).2.2 with
            | true=>rw [Ee hdd]
            | false=>rw [Ed hdd];split <;> rfl
           rw [<-hpn]
           generalize d3.putAll (Ay g (CF a T.length))=Q
           obtain⟨d4,n,dead⟩:=Q
           simp only
           cases dead with
           | true=>
            rw [if_pos rfl]
            conv=>whnf
            repeat' (first | (refine aSeq.go ?_;conv=>whnf) | fail)
            exact⟨.ag (FX (G0 (CF a T.length) T)), .ag (FX (G0 (CF a T.length) T)),Mt g s 8 d4,AJ ⟨ri,ri,ri,ri,ri,ri,ri,ri,ri,ri,ri,ri,ri,AP 1 _,trivial⟩,WkN.r (s:= [0,1,2,3,7]) ⟨⟨rfl,trivial⟩,⟨rfl,rfl,rfl,trivial,rfl,trivial⟩,rfl,rfl,rfl,rfl,rfl⟩,⟨_,rfl,fun h=>absurd h (show ¬(8:Int)=0 by decide)⟩,rfl⟩
           | false=>
            rw [if_neg (by decide)]
            by_cases hn0:n=0
            ·subst hn0
             rw [if_pos rfl]
             conv=>whnf
             repeat' (first | (refine aSeq.go ?_;conv=>whnf) | fail)
             exact⟨.ag (FX (G0 (CF a T.length) T)), .ag (FX (G0 (CF a T.length) T)),Mt g s 14 d4,AJ ⟨ri,ri,ri,ri,ri,ri,ri,ri,ri,ri,ri,ri,ri,AP 1 _,trivial⟩,WkN.r (s:= [0,1,2,3,7]) ⟨⟨rfl,trivial⟩,⟨rfl,rfl,rfl,trivial,rfl,trivial⟩,rfl,rfl,rfl,rfl,rfl⟩,⟨_,rfl,fun h=>absurd h (show ¬(14:Int)=0 by decide)⟩,rfl⟩
            ·rw [if_neg hn0]
             have hnb:((n:Int) == 0)=false:=beq_eq_false_iff_ne.2 (by omega)
             conv=>whnf
             repeat' (first | (refine aSeq.go ?_;conv=>whnf) | fail)
             rw [hnb]
             conv=>whnf
             repeat' (first | (refine aSeq.go ?_;conv=>whnf) | fail)
             exact⟨.ag (FX (G0 (CF a T.length) T)), .ag (FX (G0 (CF a T.length) T)),Mt g s 0 d4,AJ ⟨ri,ri,ri,ri,ri,ri,ri,ri,ri,ri,ri,ri,ri,AP 1 _,trivial⟩,WkN.r (s:= [0,1,2,3,7]) ⟨⟨rfl,trivial⟩,⟨rfl,rfl,rfl,trivial,rfl,trivial⟩,rfl,rfl,rfl,rfl,rfl⟩,⟨_,rfl,fun _=>rfl⟩,rfl⟩
      ·rw [if_pos (by simpa using he)]
       have hb:(e != 0)=true:=bne_iff_ne.2 he
       rw [hb]
       exact⟨.ag (FX st0), .ag (FX st0),Mt g s e d2,AJ st0_sub,WkN.rc (ConvF.ofH (ConvH.move 1 3 (by decide) rfl rfl)) (s:= [0,1,2,3,8]) ⟨⟨rfl,trivial⟩,⟨rfl,rfl,rfl,trivial,rfl,trivial⟩,rfl,rfl,rfl,rfl,rfl⟩,⟨st0,rfl,fun h=>absurd h he⟩,rfl⟩
     ·have eB:eK d1 (2*g.sl.toNat)=8:=by unfold eK;rw [if_neg hl2]
      rw [eB,if_neg hl2]
      exact⟨.ag (FX st0), .ag (FX st0),Mt g s 8 (d1.adv (2*g.sl.toNat)),AJ st0_sub,WkN.rc (ConvF.ofH (ConvH.move 1 3 (by decide) rfl rfl)) (s:= [0,1,2,3,8]) ⟨⟨rfl,trivial⟩,⟨rfl,rfl,rfl,trivial,rfl,trivial⟩,rfl,rfl,rfl,rfl,rfl⟩,⟨st0,rfl,fun _=>rfl⟩,rfl⟩
  ·have eA:eK d g.an.toNat=8:=by unfold eK;rw [if_neg hlv]
   have hM:BD g d=(d.adv g.an.toNat,8,st0):=by unfold BD;rw [if_neg hlv]
   rw [eA,hM]
   exact⟨.ag (FX st0), .ag (FX st0),Mt g s 8 (d.adv g.an.toNat),AJ st0_sub,WkN.rc (ConvF.ofH (ConvH.move 1 3 (by decide) rfl rfl)) (s:= [0,1,2,3,6]) ⟨⟨rfl,trivial⟩,⟨rfl,rfl,rfl,trivial,rfl,trivial⟩,rfl,rfl,rfl,rfl,rfl⟩,⟨st0,rfl,fun _=>rfl⟩,rfl⟩
theorem Nt (l:List Tx) (hl:l.length<=1000000) (hi:∀ t∈l,t.images.length<=1000000/\∀ x∈t.images,x.bytes.length<=1000000000):Fn Tryz.prog 153 [D8 l] fun r=>r=D8 l:=by
 refine Fn.st Tryz.func153 rfl ?_
 conv=>whnf
 refine aLoop.ruleRR Nat (fun k=>([(0,D8 l),(3, .ow 0 k),(4,ze k)], [.row 78 4 ((l.take k).map Hq)])) (fun k=>k<=l.length) (fun k=>l.length - k) 0 (Ae _)
  ⟨_,_,ConvF.refl _ _, [(3,78,4)],⟨rfl,rfl,trivial⟩, [0],⟨⟨rfl,rfl,rfl,trivial⟩,⟨rfl,trivial⟩,rfl,rfl,rfl,rfl,rfl⟩⟩ ?_
 intro k hk
 conv=>whnf
 refine Al (fun h6=>?_) (fun h6=>?_) <;> (repeat rw [Aa] at h6) <;> conv=>whnf
 ·have hk':k<l.length:=by omega
  have hm:=hi _ (AC (d:=(⟨0,0,0, []⟩:Tx)) hk')
  have b1:=Lo (l.getD k ⟨0,0,0, []⟩).images hm.1 hm.2
  have hl:k=((l.take k).map Hq).length:=by simp;omega
  apply aDraw.treeK (0) tys_ok mixed (.one 0 (.one 1 (.one 2 (.one 3 (.one 4 (.one 5 (.one 6 (.one 7 (.one 8 (.one 9 (.one 10 (.one 11 (.one 12 (.one 13 (.one 14 (.one 15 (.one 16 (.one 17 (.one 18 (.one 19 (.one 20 (.one 21 (.one 22 (.one 23 (.one 24 (.one 25 .fin)))))))))))))))))))))))))) (by kernel_rfl)
  conv=>whnf
  try (refine And.intro (by first | omega | (simp;done)) ?_;conv=>whnf)
  try (refine And.intro (by first | omega | (simp;done)) ?_;conv=>whnf)
  try (refine And.intro (by first | omega | (simp;done)) ?_;conv=>whnf)
  try (refine And.intro (by first | omega | (simp;done)) ?_;conv=>whnf)
  refine Fn.cl b1 ?_
  conv=>whnf
  try (refine And.intro (by first | rfl | omega) ?_;conv=>whnf)
  try (refine And.intro (by first | omega | exact⟨by first | rfl | (simp;done) | (simp;omega),by omega⟩) ?_;conv=>whnf)
  all_goals exact⟨k+1,hk',by omega,WkN.r (s:= [0]) ⟨⟨rfl,rfl,A4 (by omega),trivial⟩,⟨congrArg (fun l=>some (AB.row _ _ l)) (FC (f:=Hq) (d:=(⟨0,0,0, []⟩:Tx)) hk').symm,trivial⟩,rfl,rfl,rfl,rfl,rfl⟩⟩
 ·have ek:k=l.length:=by omega
  subst ek
  rw [List.take_length]
  refine And.intro (Ab _).symm ?_
  exact⟨D8 l,AH (f:=Hq) l rfl rfl,rfl⟩
theorem Mo (s:Stt) (h:StSm s):Fn Tryz.prog 93 [.ag (FX s)] fun r=>r = .ag (FX s):=by
 have c1:=Lp s.a (by have:=h.h.1;omega) h.h.2
 have c2:=Nt s.txns (by have:=h.t.1;omega) (fun t ht=>⟨by have:=(h.t.2 t ht).1;omega,fun x hx=>by have:=(h.t.2 t ht).2 x hx;omega⟩)
 have c3:=J5 s.lost h.o
 refine Fn.st Tryz.func93 rfl ?_
 conv=>whnf
 apply aDraw.treeK (0) tys_ok mixed (.one 0 (.one 1 (.one 3 (.one 4 (.one 6 (.one 7 (.one 8 (.one 2 (.one 10 (.one 5 (.one 9 (.one 11 (.one 12 (.one 13 (.one 14 (.one 15 (.one 16 .fin))))))))))))))))) (by kernel_rfl)
 conv=>whnf
 refine Fn.cl c1 ?_
 conv=>whnf
 refine Fn.cl c2 ?_
 conv=>whnf
 refine Fn.cl c3 ?_
 conv=>whnf
 try (refine And.intro ⟨rfl,by first | rfl | (simp;done) | (simp;omega),by first | omega | (simp;omega)⟩ ?_;conv=>whnf)
 try (refine And.intro ⟨rfl,by first | rfl | (simp;done) | (simp;omega),by first | omega | (simp;omega)⟩ ?_;conv=>whnf)
 try (refine And.intro ⟨rfl,by first | rfl | (simp;done) | (simp;omega),by first | omega | (simp;omega)⟩ ?_;conv=>whnf)
 all_goals exact⟨_,ri,rfl⟩
theorem DkOk.big {d:Dk} (h:DkOk d):d.cells.length<=1000000/\d.cache.length<=1000000/\(∀ c∈d.cells,c.bytes.length<=1000000000/\c.old.length<=1000000000)/\(∀ w∈d.cache,w.bytes.length<=1000000000):=
 ⟨by have:=h.n;omega,by have:=h.m;omega,fun c hc=>by have:=(h.c c hc).2;omega,fun w hw=>by have:=(h.w w hw).2;omega⟩
theorem Ry (g:Geo) (d:Dk) (s:Stt) (h:DkOk d) (hs:StSm s):ACalls Tryz.prog false 30 [.ag (A9 g), .ag (F8 d), .ag (FX s)] [] fun r H=>r = .bp 0 0/\H=IR g s 0 d:=by
 obtain⟨q1,q2,q3,q4⟩:=h.big
 have c1:=Ql d q1 q2 q3 q4
 have c2:=Mo s hs
 refine ACalls.ofR tys_ok Tryz.func30 rfl rfl (Ad rfl) ?_
 conv=>whnf
 apply aDraw.treeK (0) tys_ok mixed (.one 0 (.one 1 (.one 3 (.one 2 (.one 4 (.one 5 (.one 6 (.one 7 .fin)))))))) (by kernel_rfl)
 conv=>whnf
 (refine ACalls.beside c1 rfl ?_;rintro _ _ ⟨rfl,rfl⟩)
 conv=>whnf
 refine Fn.cl c2 ?_
 exact⟨_, .bp 0 0,IR g s 0 d,fun _ _ h=>h,WkN.r (s:= [6,3,4,5]) ⟨⟨rfl,trivial⟩,⟨rfl,rfl,rfl,rfl,trivial⟩,rfl,rfl,rfl,rfl,rfl⟩,rfl,rfl⟩
inductive TrJ where
 | fin
 | jump (k:Nat)
 | one (i:Nat) (r:TrJ)
 | non
 | alt (i:Nat) (a:TrJ) (r:TrJ)
abbrev Seg:=List Nat × Nat × TrJ
def segGet:List Seg->Nat->Option Seg
 | [],_=>none
 | x::_,0=>some x
 | _::r,k+1=>segGet r k
def TrJ.depth (sg:List Seg):TrJ->Nat
 | .fin=>0
 | .jump k=>match segGet sg k with | some s=>s.2.1 | none=>0
 | .one _ r=>r.depth sg+1
 | .non=>0
 | .alt _ a r=>max (a.depth sg+1) (r.depth sg)
def TrJ.alts:TrJ->List Nat
 | .alt i _ r=>i::r.alts
 | _=> []
def eqB:List Bool->List Bool->Bool
 | [], []=>true
 | a::l,b::m=>(a == b)&&eqB l m
 | _,_=>false
theorem eqB_eq:∀ {l m:List Bool},eqB l m=true->l=m
 | [], [],_=>rfl
 | a::l,b::m,h=>by
  simp only [eqB,Bool.and_eq_true,beq_iff_eq] at h
  rw [h.1,eqB_eq h.2]
 | [],_::_,h=>by simp [eqB] at h
 | _::_, [],h=>by simp [eqB] at h
def eqN:List Nat->List Nat->Bool
 | [], []=>true
 | a::l,b::m=>Nat.beq a b&&eqN l m
 | _,_=>false
theorem eqN_eq:∀ {l m:List Nat},eqN l m=true->l=m
 | [], [],_=>rfl
 | a::l,b::m,h=>by
  simp only [eqN,Bool.and_eq_true] at h
  rw [Ag h.1,eqN_eq h.2]
 | [],_::_,h=>by simp [eqN] at h
 | _::_, [],h=>by simp [eqN] at h
def Mk (n:Nat) (s:List Nat):Array Bool:=s.foldl (fun l i=>l.setIfInBounds i true) (Array.replicate n false)
abbrev Sts:=List (Fr × List AB)
def sget:Sts->Nat->Fr × List AB
 | [],_=>([], [])
 | x::_,0=>x
 | _::r,k+1=>sget r k
section
variable {P:Program} {ops:Array Oper} {B:List Nat} {Q:Exit->Act->World->Prop} {mk:Nat}
def F4 (ops:Array Oper) (B:List Nat) (mk:Nat) (sg:List Seg) (me:Nat):TrJ->Bool->Array Bool->Bool
 | .fin,f,l=>f&&(Region.ready .any ops l).isEmpty
 | .jump k,f,l=>f&&Nat.blt me k&&(match segGet sg k with | some s=>eqB l.toList (Mk ops.size s.1).toList | none=>false)
 | .one i r,f,l=>f&&(match ops[i]? with
   | none=>false
   | some o=>match isEff o.op with
    | true=>(match Region.ready .any ops l with | [j]=>Nat.beq i j | _=>false)&&(qM mk i o.op || !I1 ops B mk i)
    | false=>match mk.testBit i with
     | true=>(match Region.ready .any ops l with | [j]=>Nat.beq i j | _=>false)&&(qM mk i o.op || !I1 ops B mk i)
     | false=>Region.free .any ops l i&&(Region.ready .any ops l).contains i)&&F4 ops B mk sg me r true (l.setIfInBounds i true)
 | .non,f,_=>!f
 | .alt i a r,f,l=>(!f || eqN (Region.ready .any ops l) (i::r.alts))&&JR ops B mk i&&F4 ops B mk sg me a true (l.setIfInBounds i true)&&F4 ops B mk sg me r false l
def NW (P:Program) (T:Tys) (n mk:Nat) (ops:Array Oper) (ds:List Nat) (st:Sts) (K:Fr->List AB->Prop):TrJ->Fr->List AB->Prop
 | .fin,fr,H=>K fr H
 | .jump k,fr,H=>canonK ds fr fun l=>l=(sget st k).1/\H=(sget st k).2
 | .one i r,fr,H=>En P T n mk ops i fr H fun fr H=>NW P T n mk ops ds st K r fr H
 | .non,_,_=>True
 | .alt i a r,fr,H=>(En P T n mk ops i fr H fun fr H=>NW P T n mk ops ds st K a fr H)/\NW P T n mk ops ds st K r fr H
def ME (P:Program) (T:Tys) (n mk:Nat) (ops:Array Oper) (ds:List Nat) (st:Sts) (K:Fr->List AB->Prop):List Seg->Nat->Prop
 | [],_=>True
 | s::r,k=>NW P T n mk ops ds st K s.2.2 (sget st k).1 (sget st k).2/\ME P T n mk ops ds st K r (k+1)
def I_ (ops:Array Oper) (B:List Nat) (mk:Nat) (sg:List Seg):List Seg->Nat->Bool
 | [],_=>true
 | s::r,k=>F4 ops B mk sg k s.2.2 true (Mk ops.size s.1)&&Nat.ble (s.2.2.depth sg) s.2.1&&I_ ops B mk sg r (k+1)
variable {T:Tys} {w0:Fl} {M0:Ms} {n d0:Nat} {ce:Ctx}
theorem K3 {ds:List Nat} {st:Sts} {K:Fr->List AB->Prop}:∀ {sg:List Seg} {k0 k:Nat} {s:Seg},ME P T n mk ops ds st K sg k0->segGet sg k=some s->NW P T n mk ops ds st K s.2.2 (sget st (k0+k)).1 (sget st (k0+k)).2
 | [],_,_,_,_,h=>by simp [segGet] at h
 | x::r,k0,0,s,h,hs=>by
  simp only [segGet,Option.some.injEq] at hs
  subst hs
  exact h.1
 | x::r,k0,k+1,s,h,hs=>by
  have:=K3 (k:=k) h.2 hs
  rw [show k0+(k+1)=k0+1+k by omega]
  exact this
theorem Kp {sg0:List Seg}:∀ {sg:List Seg} {k0 k:Nat} {s:Seg},I_ ops B mk sg0 sg k0=true->segGet sg k=some s->F4 ops B mk sg0 (k0+k) s.2.2 true (Mk ops.size s.1)=true/\s.2.2.depth sg0<=s.2.1
 | [],_,_,_,_,h=>by simp [segGet] at h
 | x::r,k0,0,s,h,hs=>by
  simp only [segGet,Option.some.injEq] at hs
  subst hs
  simp only [I_,Bool.and_eq_true] at h
  exact⟨h.1.1,Ad h.1.2⟩
 | x::r,k0,k+1,s,h,hs=>by
  simp only [I_,Bool.and_eq_true] at h
  have:=Kp (k:=k) h.2 hs
  rw [show k0+(k+1)=k0+1+k by omega]
  exact this
theorem segGet_lt:∀ {sg:List Seg} {k:Nat} {s:Seg},segGet sg k=some s->k<sg.length
 | [],_,_,h=>by simp [segGet] at h
 | _::_,0,_,_=>by simp
 | _::r,k+1,s,h=>by
  have:=segGet_lt (sg:=r) (k:=k) h
  simp;omega
def Wj (P:Program) (T:Tys) (ops:Array Oper) (B:List Nat) (mk n:Nat) (Q:Exit->Act->World->Prop) (w0:Fl) (M0:Ms) (ce:Ctx) (st:Sts) (sg:List Seg) (k:Nat):Prop:=
 ∀ (s:Seg) (m:Nat) (c:Ctx) (a:Act),segGet sg k=some s->s.2.1<=m->Cl ops (Mk ops.size s.1)->HS w0 M0 c (sget st k).2->FR w0 c n (sget st k).1 a->Ext ce c->HeldM P ops B mk Q m (Mk ops.size s.1) a c.w
theorem EC (hT:TOk P T) (hB:F9 ops B=true) (hns:Region.noSelect ops=true) {ds:List Nat} {st:Sts} {sg:List Seg} {K:Fr->List AB->Prop} (hq:∀ a w,DI w0 M0 ce n K a w->Q .normal a w) (hpan:∀ c a w,¬Q (.panic c) a w) {me:Nat} (hseg:∀ k,me<k->Wj P T ops B mk n Q w0 M0 ce st sg k) :
  ∀ (r:TrJ) (m:Nat) (l:Array Bool) (c:Ctx) (fr:Fr) (H:List AB) (a:Act),Cl ops l->HS w0 M0 c H->FR w0 c n fr a->Ext ce c->NW P T n mk ops ds st K r fr H->
   (F4 ops B mk sg me r true l=true->r.depth sg<=m->HeldM P ops B mk Q m l a c.w)/\
   (F4 ops B mk sg me r false l=true->r.depth sg<=m+1->∀ j∈r.alts,j∈Region.ready .any ops l->wpOp P ops Q j (fun a' w'=>(I1 ops B mk j=true->Old c.w w')/\HeldM P ops B mk Q m (l.setIfInBounds j true) a' w') a c.w)
 | .fin,m,l,c,fr,H,a,hcl,hs,hf,he,h=>by
  refine⟨fun hd hm=>?_,fun _ _ j hj=>by simp [TrJ.alts] at hj⟩
  simp only [F4,Be,List.isEmpty_iff] at hd
  cases m with
  | zero=>exact⟨hd,hq _ _ ⟨c,fr,H,rfl,h,hs,hf,he⟩⟩
  | succ m=>exact⟨fun _=>hq _ _ ⟨c,fr,H,rfl,h,hs,hf,he⟩,by rw [hd];simp⟩
 | .jump k,m,l,c,fr,H,a,hcl,hs,hf,he,h=>by
  refine⟨fun hd hm=>?_,fun _ _ j hj=>by simp [TrJ.alts] at hj⟩
  simp only [F4,Be,Bool.and_eq_true] at hd
  simp only [TrJ.depth] at hm
  obtain⟨hlt,hd⟩:=hd
  cases hg:segGet sg k with
  | none=>rw [hg] at hd;simp at hd
  | some s=>
   rw [hg] at hd hm
   simp only at hd hm
   have hl:l=Mk ops.size s.1:=Array.ext' (eqB_eq hd)
   obtain⟨e1,e2⟩:=canonK_iff h
   subst hl
   refine hseg k (Ak (Nat.lt_succ_self me) (Ad hlt)) s m c a hg hm hcl (e2 ▸ hs) (e1 ▸ hf.canon _) he
 | .non,m,l,c,fr,H,a,hcl,hs,hf,he,h=>by
  refine⟨fun hd hm=>by simp [F4] at hd,fun _ _ j hj=>by simp [TrJ.alts] at hj⟩
 | .alt i x r,m,l,c,fr,H,a,hcl,hs,hf,he,h=>by
  obtain⟨h1,h2⟩:=h
  have key:∀ m,TrJ.depth sg (.alt i x r)<=m+1->JR ops B mk i=true->F4 ops B mk sg me x true (l.setIfInBounds i true)=true->i∈Region.ready .any ops l->wpOp P ops Q i (fun a' w'=>(I1 ops B mk i=true->Old c.w w')/\HeldM P ops B mk Q m (l.setIfInBounds i true) a' w') a c.w:=by
   intro m hm hk hx hr
   simp only [TrJ.depth] at hm
   unfold JR at hk
   split at hk
   ·rename_i o ho
    refine EH hT ho hk hs hf he (fun c' fr' H' a' q1 q2 q3 q4=>(EC hT hB hns hq hpan hseg x m _ c' fr' H' a' (hcl.set hr) q1 q2 q3 q4).1 hx (by omega)) h1
   ·cases hk
  refine⟨fun hd hm=>?_,fun hd hm j hj hr=>?_⟩
  ·simp only [F4,Bool.not_true,Bool.false_or,Bool.and_eq_true] at hd
   obtain⟨⟨⟨hr,hi⟩,hx⟩,hy⟩:=hd
   have hr':=eqN_eq hr
   cases m with
   | zero=>simp only [TrJ.depth] at hm;omega
   | succ m=>
    refine⟨fun h0=>(by rw [hr'] at h0;cases h0),fun j hj=>?_⟩
    have hj0:=hj
    rw [hr',Bn] at hj
    rcases hj with rfl | hj
    ·exact key m hm hi hx hj0
    ·refine(EC hT hB hns hq hpan hseg r m l c fr H a hcl hs hf he h2).2 hy ?_ j hj hj0
     simp only [TrJ.depth] at hm
     omega
  ·simp only [F4,Bool.not_false,Bool.true_or,Be,Bool.and_eq_true] at hd
   obtain⟨⟨hi,hx⟩,hy⟩:=hd
   simp only [TrJ.alts,Bn] at hj
   rcases hj with rfl | hj
   ·exact key m hm hi hx hr
   ·refine(EC hT hB hns hq hpan hseg r m l c fr H a hcl hs hf he h2).2 hy ?_ j hj hr
    simp only [TrJ.depth] at hm
    omega
 | .one i r,m,l,c,fr,H,a,hcl,hs,hf,he,h=>by
  refine⟨fun hd hm=>?_,fun _ _ j hj=>by simp [TrJ.alts] at hj⟩
  cases m with
  | zero=>simp [TrJ.depth] at hm
  | succ m=>
   simp only [TrJ.depth,Nat.add_le_add_iff_right] at hm
   simp only [F4,Be,Bool.and_eq_true] at hd
   obtain⟨hd1,hd2⟩:=hd
   simp only [NW] at h
   cases ho:ops[i]? with
   | none=>rw [ho] at hd1;simp at hd1
   | some o=>
    rw [ho] at hd1
    simp only at hd1
    have only:(match Region.ready .any ops l with | [j]=>Nat.beq i j | _=>false)=true->(qM mk i o.op || !I1 ops B mk i)=true->HeldM P ops B mk Q (m+1) l a c.w:=by
     intro hr hmq
     have hr':Region.ready .any ops l=[i]:=by
      split at hr
      ·rename_i j hj;rw [hj,Ag hr]
      ·cases hr
     have hri:i∈Region.ready .any ops l:=by rw [hr'];simp
     refine⟨fun h0=>(by rw [hr'] at h0;cases h0),fun j hj=>?_⟩
     rw [hr',BA] at hj
     subst hj
     exact EH hT ho hmq hs hf he (fun c' fr' H' a' q1 q2 q3 q4=>(EC hT hB hns hq hpan hseg r m _ c' fr' H' a' (hcl.set hri) q1 q2 q3 q4).1 hd2 hm) h
    cases hE:isEff o.op with
    | true=>
     rw [hE] at hd1
     simp only [Bool.and_eq_true] at hd1
     exact only hd1.1 hd1.2
    | false=>
     rw [hE] at hd1
     dsimp only at hd1
     cases hM:mk.testBit i with
     | true=>
      rw [hM] at hd1
      simp only [Bool.and_eq_true] at hd1
      exact only hd1.1 hd1.2
     | false=>
     rw [hM] at hd1
     simp only [Bool.and_eq_true] at hd1
     obtain⟨hfree,hr⟩:=hd1
     have hri:i∈Region.ready .any ops l:=by simpa using hr
     simp only [En,DL] at h
     rw [show ops.toList[i]? = some o by simpa using ho] at h
     simp only at h
     have step:∀ v fr2,YieldsIf P ops (Old c.w) o v a->FR w0 c n fr2 (a.put o.dst v)->NW P T n mk ops ds st K r fr2 H->HeldM P ops B mk Q (m+1) l a c.w:=by
      intro v fr2 hy hf2 h2
      exact HeldM.first1 hB ho hM hE (Region.noSelect_spec hns) (fun c a w h=>(hpan _ _ _ h).elim) m l a c.w hcl (Region.free_spec ho hfree) hri hy
       ((EC hT hB hns hq hpan hseg r m _ c fr2 H _ (hcl.set hri) hs hf2 he h2).1 hd2 hm)
     rcases CV hf h with ⟨hw,fr',hf',h⟩ | ⟨hw,fr',hf',h⟩
     ·unfold Gz at h
      rw [hE] at h
      obtain⟨rr,v,h1,h2,h3⟩:=(FU hT hs hf' h).y
      obtain⟨fr2,h4,h5⟩:=BQ hf' h3 h1
      exact step v fr2 (.inl ⟨hw,h2⟩) h5 h4
     ·obtain⟨fr2,h4,h5⟩:=BQ (v:=undef) hf' (by simp [Rd]) h
      exact step undef fr2 (.inr ⟨hw,rfl⟩) h5 h4
theorem Ko (hT:TOk P T) (hB:F9 ops B=true) (hns:Region.noSelect ops=true) {ds:List Nat} {st:Sts} {sg:List Seg} {K:Fr->List AB->Prop} (hq:∀ a w,DI w0 M0 ce n K a w->Q .normal a w) (hpan:∀ c a w,¬Q (.panic c) a w) (hok:I_ ops B mk sg sg 0=true) (h:ME P T n mk ops ds st K sg 0):∀ (z k:Nat),sg.length<=z+k->Wj P T ops B mk n Q w0 M0 ce st sg k
 | 0,k,hz,s,m,c,a,hg,_,_,_,_,_=>by
  have:=segGet_lt hg
  omega
 | z+1,k,hz,s,m,c,a,hg,hm,hcl,hs,hf,he=>by
  obtain⟨h1,h2⟩:=Kp hok hg
  have h3:=K3 h hg
  rw [Aq] at h1 h3
  exact(EC hT hB hns hq hpan (fun k' hk'=>Ko hT hB hns hq hpan hok h z k' (by omega)) s.2.2 m _ c _ _ a hcl hs hf he h3).1 h1 (by omega)
def Wh (ops:Array Oper) (mk:Nat) (sg:List Seg):Bool:=F9 ops (Jt ops)&&Region.noSelect ops&&(match sg with | ([],d,_)::_=>Nat.ble d ops.size | _=>false)&&I_ ops (Jt ops) mk sg sg 0
theorem aDraw.dag (mk:Nat) (hT:TOk P T) (hm:P.follows .mixedOrders=true) {id:Nat} {K:Fr->List AB->Prop} {fr:Fr} {H:List AB} (sg:List Seg) (ds:List Nat) (st:Sts) {F:Fr} {H2:List AB} (hok:Wh ops mk sg=true)
  (h:ME P T n mk ops (ds ++ slots fr) ((fr,H)::st) (fun fr' H'=>canonK (ds ++ slots fr) fr' fun l=>l=F/\H'=H2) sg 0) (hk:K F H2):aDraw P T n d0 id ops K fr H:=by
 simp only [Wh,Bool.and_eq_true] at hok
 obtain⟨⟨⟨hB,hns⟩,hlen⟩,hok⟩:=hok
 refine⟨fun w0 M0 ce c a hs hf he hd Q hQ=>?_⟩
 refine wp_mono (Q:=fun e a w=>e = .normal/\DI w0 M0 ce n (fun fr' H'=>canonK (ds ++ slots fr) fr' fun l=>l=F/\H'=H2) a w) ?_ ?_
 ·refine wp_region_any hm (HeldM.any (B:=Jt ops) (mk:=mk) _ _ _ _ ?_)
  have hb:=(Below.refl c.w.heap.size c.w).drew
  obtain⟨h1,h2⟩:=hs.grow hb
  have hcl:Cl ops (Array.replicate ops.size false):=by
   intro j o hj hlj
   rcases Bp j ops.size with h' | h'
   ·simp [h'] at hlj
   ·simp [Array.getElem?_eq_none h'] at hj
  cases sg with
  | nil=>simp at hlen
  | cons s sg=>
   obtain⟨s1,d,tr⟩:=s
   cases s1 with
   | cons _ _=>simp at hlen
   | nil=>
    exact Ko (w0:=w0) (M0:=M0) (ce:=ce) (st:=(fr,H)::st) hT hB hns (fun a w hl=>⟨rfl,hl⟩) (fun c a w h=>by cases h.1) hok h _ 0 (Nat.le_refl _) ([],d,tr) _ { c with w:=c.w.drew } a rfl (Ad hlen) hcl h1 (hf.ext h2) (he.trans h2)
 ·rintro e a w ⟨rfl,c',fr',H',rfl,h1,h2,h3,h4⟩
  obtain⟨e1,rfl⟩:=canonK_iff h1
  exact hQ c' F H' a hk h2 (e1 ▸ h3.canon _) h4
end
theorem WF {m:Nat} (h:Nat.ble 8 m=true):∀ z∈ [4,5,6,7],z<m:=fun z hz=>by
 have:=Ad h
 simp at hz
 omega
theorem Pj (g:Geo) (d:Dk) (hg:AW g=true) (h:DkOk d) (hn:(d.cells.length:Int)=Az g):Fn Tryz.prog 14 [.ag (A9 g), .ag (F8 d)] fun r=>r = .tp [.ag (FX (BD g d).2.2), .ag (F8 (BD g d).1), .v (.int .i64 (BD g d).2.1)]:=by
 have hb:=Ry g d st0 h st0_sm
 have hm:=Rk g st0 d hg h hn
 have herr:=K8 (g:=g) (d:=d)
 generalize BD g d=M at hm herr |-
 obtain⟨D,e,S⟩:=M
 simp only at herr hm
 refine Fn.st Tryz.func14 rfl ?_
 conv=>whnf
 refine ACalls.sub [.ag (A9 g), .ag (F8 d), .ag (FX st0)] ⟨ri,ri,AJ st0_sub,trivial⟩ ?_
 refine ACalls.beside hb rfl ?_
 rintro _ _ ⟨rfl,rfl⟩
 conv=>whnf
 refine ACalls.frame [4,5,6,7] hm rfl rfl rfl rfl (by decide) (WF rfl) ⟨rfl,rfl,rfl,rfl,trivial⟩ ?_
 rintro _ _ ⟨⟨S',rfl,hS⟩,rfl⟩
 by_cases he:e=0
 ·subst he
  have:=hS rfl
  subst this
  conv=>whnf
  apply aDraw.dag (252) tys_ok mixed [([],11,(.one 0 (.one 1 (.alt 2 (.alt 3 (.alt 4 (.alt 5 (.alt 6 (.alt 7 (.one 8 (.one 9 (.one 10 .fin))) (.alt 8 (.one 7 (.one 9 (.one 10 .fin))) .non)) (.alt 8 (.one 6 (.one 7 (.one 9 (.one 10 .fin)))) .non)) (.alt 8 (.one 5 (.one 6 (.one 7 (.one 9 (.one 10 .fin))))) .non)) (.alt 8 (.one 4 (.one 5 (.one 6 (.one 7 (.one 9 (.one 10 .fin)))))) .non)) (.alt 8 (.one 3 (.one 4 (.one 5 (.one 6 (.one 7 (.one 9 (.one 10 .fin))))))) .non)) (.alt 8 (.one 2 (.one 3 (.one 4 (.one 5 (.one 6 (.one 7 (.one 9 (.one 10 .fin)))))))) .non)))))] [6,32,33,34,35,36,37,38,39] [] (by kernel_rfl)
  ·refine And.intro ?_ ?_
   ·refine And.intro ?_ (And.intro ?_ (trivial))
    ·refine And.intro ?_ (And.intro ?_ (trivial))
     ·refine And.intro ?_ (And.intro ?_ (trivial))
      ·refine And.intro ?_ (And.intro ?_ (trivial))
       ·refine And.intro ?_ (And.intro ?_ (trivial))
        ·refine And.intro ?_ (And.intro ?_ (trivial))
         ·conv=>whnf
          try (refine And.intro ⟨rfl,by first | rfl | (simp;done) | (simp;omega),by first | omega | (simp;omega)⟩ ?_;conv=>whnf)
          try (refine And.intro ⟨rfl,by first | rfl | (simp;done) | (simp;omega),by first | omega | (simp;omega)⟩ ?_;conv=>whnf)
          exact⟨rfl,rfl⟩
         ·conv=>whnf
          try (refine And.intro ⟨rfl,by first | rfl | (simp;done) | (simp;omega),by first | omega | (simp;omega)⟩ ?_;conv=>whnf)
          try (refine And.intro ⟨rfl,by first | rfl | (simp;done) | (simp;omega),by first | omega | (simp;omega)⟩ ?_;conv=>whnf)
          exact⟨rfl,rfl⟩
        ·conv=>whnf
         try (refine And.intro ⟨rfl,by first | rfl | (simp;done) | (simp;omega),by first | omega | (simp;omega)⟩ ?_;conv=>whnf)
         try (refine And.intro ⟨rfl,by first | rfl | (simp;done) | (simp;omega),by first | omega | (simp;omega)⟩ ?_;conv=>whnf)
         exact⟨rfl,rfl⟩
       ·conv=>whnf
        try (refine And.intro ⟨rfl,by first | rfl | (simp;done) | (simp;omega),by first | omega | (simp;omega)⟩ ?_;conv=>whnf)
        try (refine And.intro ⟨rfl,by first | rfl | (simp;done) | (simp;omega),by first | omega | (simp;omega)⟩ ?_;conv=>whnf)
        exact⟨rfl,rfl⟩
      ·conv=>whnf
       try (refine And.intro ⟨rfl,by first | rfl | (simp;done) | (simp;omega),by first | omega | (simp;omega)⟩ ?_;conv=>whnf)
       try (refine And.intro ⟨rfl,by first | rfl | (simp;done) | (simp;omega),by first | omega | (simp;omega)⟩ ?_;conv=>whnf)
       exact⟨rfl,rfl⟩
     ·conv=>whnf
      try (refine And.intro ⟨rfl,by first | rfl | (simp;done) | (simp;omega),by first | omega | (simp;omega)⟩ ?_;conv=>whnf)
      try (refine And.intro ⟨rfl,by first | rfl | (simp;done) | (simp;omega),by first | omega | (simp;omega)⟩ ?_;conv=>whnf)
      exact⟨rfl,rfl⟩
    ·conv=>whnf
     try (refine And.intro ⟨rfl,by first | rfl | (simp;done) | (simp;omega),by first | omega | (simp;omega)⟩ ?_;conv=>whnf)
     try (refine And.intro ⟨rfl,by first | rfl | (simp;done) | (simp;omega),by first | omega | (simp;omega)⟩ ?_;conv=>whnf)
     exact⟨rfl,rfl⟩
   conv=>whnf
   exact trivial
  refine And.intro (Ab _).symm ?_
  refine And.intro (Ab _).symm ?_
  exact⟨.tp [.ag (FX S'), .ag (F8 D), .v (.int .i64 0)],B3 ⟨ri,AJ ⟨AH (f:=AU) D.cells rfl rfl,AH (f:=Dy) D.cache rfl rfl,ri,ri,trivial⟩,ri,trivial⟩,rfl⟩
 ·have hbe:(e != 0)=true:=bne_iff_ne.2 he
  have:=herr he
  subst this
  conv=>whnf
  rw [hbe]
  conv=>whnf
  apply aDraw.dag (3836) tys_ok mixed [([],15,(.one 0 (.one 1 (.one 8 (.alt 2 (.alt 3 (.alt 4 (.alt 5 (.alt 6 (.alt 7 (.alt 9 (.jump 30) (.alt 12 (.jump 31) .non)) (.alt 9 (.jump 23) (.alt 12 (.jump 24) .non))) (.alt 9 (.jump 16) (.alt 12 (.jump 17) .non))) (.alt 9 (.jump 9) (.alt 12 (.jump 10) .non))) (.alt 9 (.jump 4) (.alt 12 (.jump 5) .non))) (.alt 9 (.jump 1) (.alt 12 (.jump 2) .non))) (.alt 9 (.alt 2 (.jump 1) (.alt 10 (.alt 2 (.jump 6) (.alt 11 (.alt 2 (.jump 13) (.alt 12 (.jump 15) .non)) (.alt 12 (.jump 8) .non))) (.alt 12 (.jump 3) .non))) (.alt 12 (.alt 2 (.jump 2) (.alt 9 (.jump 3) .non)) .non))))))),([0,1,2,8,9],10,(.alt 3 (.jump 4) (.alt 10 (.jump 6) (.alt 12 (.jump 7) .non)))),([0,1,2,8,12],10,(.alt 3 (.jump 5) (.alt 9 (.jump 7) .non))),([0,1,8,9,12],10,(.alt 2 (.jump 7) (.alt 10 (.jump 8) .non))),([0,1,2,3,8,9],9,(.alt 4 (.jump 9) (.alt 10 (.jump 11) (.alt 12 (.jump 12) .non)))),([0,1,2,3,8,12],9,(.alt 4 (.jump 10) (.alt 9 (.jump 12) .non))),([0,1,2,8,9,10],9,(.alt 3 (.jump 11) (.alt 11 (.jump 13) (.alt 12 (.jump 14) .non)))),([0,1,2,8,9,12],9,(.alt 3 (.jump 12) (.alt 10 (.jump 14) .non))),([0,1,8,9,10,12],9,(.alt 2 (.jump 14) (.alt 11 (.jump 15) .non))),([0,1,2,3,4,8,9],8,(.alt 5 (.jump 16) (.alt 10 (.jump 18) (.alt 12 (.jump 19) .non)))),([0,1,2,3,4,8,12],8,(.alt 5 (.jump 17) (.alt 9 (.jump 19) .non))),([0,1,2,3,8,9,10],8,(.alt 4 (.jump 18) (.alt 11 (.jump 20) (.alt 12 (.jump 21) .non)))),([0,1,2,3,8,9,12],8,(.alt 4 (.jump 19) (.alt 10 (.jump 21) .non))),([0,1,2,8,9,10,11],8,(.alt 3 (.jump 20) (.alt 12 (.jump 22) .non))),([0,1,2,8,9,10,12],8,(.alt 3 (.jump 21) (.alt 11 (.jump 22) .non))),([0,1,8,9,10,11,12],8,(.one 2 (.one 3 (.one 4 (.one 5 (.one 6 (.one 7 (.one 13 (.one 14 .fin))))))))),([0,1,2,3,4,5,8,9],7,(.alt 6 (.jump 23) (.alt 10 (.jump 25) (.alt 12 (.jump 26) .non)))),([0,1,2,3,4,5,8,12],7,(.alt 6 (.jump 24) (.alt 9 (.jump 26) .non))),([0,1,2,3,4,8,9,10],7,(.alt 5 (.jump 25) (.alt 11 (.jump 27) (.alt 12 (.jump 28) .non)))),([0,1,2,3,4,8,9,12],7,(.alt 5 (.jump 26) (.alt 10 (.jump 28) .non))),([0,1,2,3,8,9,10,11],7,(.alt 4 (.jump 27) (.alt 12 (.jump 29) .non))),([0,1,2,3,8,9,10,12],7,(.alt 4 (.jump 28) (.alt 11 (.jump 29) .non))),([0,1,2,8,9,10,11,12],7,(.one 3 (.one 4 (.one 5 (.one 6 (.one 7 (.one 13 (.one 14 .fin)))))))),([0,1,2,3,4,5,6,8,9],6,(.alt 7 (.jump 30) (.alt 10 (.jump 32) (.alt 12 (.jump 33) .non)))),([0,1,2,3,4,5,6,8,12],6,(.alt 7 (.jump 31) (.alt 9 (.jump 33) .non))),([0,1,2,3,4,5,8,9,10],6,(.alt 6 (.jump 32) (.alt 11 (.jump 34) (.alt 12 (.jump 35) .non)))),([0,1,2,3,4,5,8,9,12],6,(.alt 6 (.jump 33) (.alt 10 (.jump 35) .non))),([0,1,2,3,4,8,9,10,11],6,(.alt 5 (.jump 34) (.alt 12 (.jump 36) .non))),([0,1,2,3,4,8,9,10,12],6,(.alt 5 (.jump 35) (.alt 11 (.jump 36) .non))),([0,1,2,3,8,9,10,11,12],6,(.one 4 (.one 5 (.one 6 (.one 7 (.one 13 (.one 14 .fin))))))),([0,1,2,3,4,5,6,7,8,9],5,(.alt 10 (.jump 37) (.alt 12 (.jump 38) .non))),([0,1,2,3,4,5,6,7,8,12],5,(.alt 9 (.jump 38) (.alt 13 (.one 9 (.one 10 (.one 11 (.one 14 .fin)))) .non))),([0,1,2,3,4,5,6,8,9,10],5,(.alt 7 (.jump 37) (.alt 11 (.jump 39) (.alt 12 (.jump 40) .non)))),([0,1,2,3,4,5,6,8,9,12],5,(.alt 7 (.jump 38) (.alt 10 (.jump 40) .non))),([0,1,2,3,4,5,8,9,10,11],5,(.alt 6 (.jump 39) (.alt 12 (.jump 41) .non))),([0,1,2,3,4,5,8,9,10,12],5,(.alt 6 (.jump 40) (.alt 11 (.jump 41) .non))),([0,1,2,3,4,8,9,10,11,12],5,(.one 5 (.one 6 (.one 7 (.one 13 (.one 14 .fin)))))),([0,1,2,3,4,5,6,7,8,9,10],4,(.alt 11 (.jump 42) (.alt 12 (.jump 43) .non))),([0,1,2,3,4,5,6,7,8,9,12],4,(.alt 10 (.jump 43) (.alt 13 (.one 10 (.one 11 (.one 14 .fin))) .non))),([0,1,2,3,4,5,6,8,9,10,11],4,(.alt 7 (.jump 42) (.alt 12 (.jump 44) .non))),([0,1,2,3,4,5,6,8,9,10,12],4,(.alt 7 (.jump 43) (.alt 11 (.jump 44) .non))),([0,1,2,3,4,5,8,9,10,11,12],4,(.one 6 (.one 7 (.one 13 (.one 14 .fin))))),([0,1,2,3,4,5,6,7,8,9,10,11],3,(.one 12 (.one 13 (.one 14 .fin)))),([0,1,2,3,4,5,6,7,8,9,10,12],3,(.alt 11 (.one 13 (.one 14 .fin)) (.alt 13 (.one 11 (.one 14 .fin)) .non))),([0,1,2,3,4,5,6,8,9,10,11,12],3,(.one 7 (.one 13 (.one 14 .fin))))] [6,20,21,22,23,24,25,26,27,28,29,30,31] [(_,_),(_,_),(_,_),(_,_),(_,_),(_,_),(_,_),(_,_),(_,_),(_,_),(_,_),(_,_),(_,_),(_,_),(_,_),(_,_),(_,_),(_,_),(_,_),(_,_),(_,_),(_,_),(_,_),(_,_),(_,_),(_,_),(_,_),(_,_),(_,_),(_,_),(_,_),(_,_),(_,_),(_,_),(_,_),(_,_),(_,_),(_,_),(_,_),(_,_),(_,_),(_,_),(_,_),(_,_)] (by kernel_rfl)
  ·refine And.intro ?_ ?_
   ·refine And.intro ?_ (And.intro ?_ (And.intro ?_ (trivial)))
    ·refine And.intro ?_ (And.intro ?_ (And.intro ?_ (trivial)))
     ·refine And.intro ?_ (And.intro ?_ (And.intro ?_ (trivial)))
      ·refine And.intro ?_ (And.intro ?_ (And.intro ?_ (trivial)))
       ·refine And.intro ?_ (And.intro ?_ (And.intro ?_ (trivial)))
        ·refine And.intro ?_ (And.intro ?_ (And.intro ?_ (trivial)))
         ·refine And.intro ?_ (And.intro ?_ (trivial))
          ·exact⟨rfl,rfl⟩
          ·conv=>whnf
           try (refine And.intro ⟨rfl,by first | rfl | (simp;done) | (simp;omega),by first | omega | (simp;omega)⟩ ?_;conv=>whnf)
           exact⟨rfl,rfl⟩
         ·exact⟨rfl,rfl⟩
         ·conv=>whnf
          try (refine And.intro ⟨rfl,by first | rfl | (simp;done) | (simp;omega),by first | omega | (simp;omega)⟩ ?_;conv=>whnf)
          exact⟨rfl,rfl⟩
        ·exact⟨rfl,rfl⟩
        ·conv=>whnf
         try (refine And.intro ⟨rfl,by first | rfl | (simp;done) | (simp;omega),by first | omega | (simp;omega)⟩ ?_;conv=>whnf)
         exact⟨rfl,rfl⟩
       ·exact⟨rfl,rfl⟩
       ·conv=>whnf
        try (refine And.intro ⟨rfl,by first | rfl | (simp;done) | (simp;omega),by first | omega | (simp;omega)⟩ ?_;conv=>whnf)
        exact⟨rfl,rfl⟩
      ·exact⟨rfl,rfl⟩
      ·conv=>whnf
       try (refine And.intro ⟨rfl,by first | rfl | (simp;done) | (simp;omega),by first | omega | (simp;omega)⟩ ?_;conv=>whnf)
       exact⟨rfl,rfl⟩
     ·exact⟨rfl,rfl⟩
     ·conv=>whnf
      try (refine And.intro ⟨rfl,by first | rfl | (simp;done) | (simp;omega),by first | omega | (simp;omega)⟩ ?_;conv=>whnf)
      exact⟨rfl,rfl⟩
    ·refine And.intro ?_ (And.intro ?_ (And.intro ?_ (trivial)))
     ·exact⟨rfl,rfl⟩
     ·refine And.intro ?_ (And.intro ?_ (And.intro ?_ (trivial)))
      ·exact⟨rfl,rfl⟩
      ·refine And.intro ?_ (And.intro ?_ (trivial))
       ·exact⟨rfl,rfl⟩
       ·conv=>whnf
        try (refine And.intro ⟨rfl,by first | rfl | (simp;done) | (simp;omega),by first | omega | (simp;omega)⟩ ?_;conv=>whnf)
        exact⟨rfl,rfl⟩
      ·conv=>whnf
       try (refine And.intro ⟨rfl,by first | rfl | (simp;done) | (simp;omega),by first | omega | (simp;omega)⟩ ?_;conv=>whnf)
       exact⟨rfl,rfl⟩
     ·conv=>whnf
      try (refine And.intro ⟨rfl,by first | rfl | (simp;done) | (simp;omega),by first | omega | (simp;omega)⟩ ?_;conv=>whnf)
      exact⟨rfl,rfl⟩
    ·conv=>whnf
     try (refine And.intro ⟨rfl,by first | rfl | (simp;done) | (simp;omega),by first | omega | (simp;omega)⟩ ?_;conv=>whnf)
     refine And.intro ?_ (And.intro ?_ (trivial))
     ·exact⟨rfl,rfl⟩
     ·exact⟨rfl,rfl⟩
   refine And.intro ?_ ?_
   ·refine And.intro ?_ (And.intro ?_ (And.intro ?_ (trivial)))
    ·exact⟨rfl,rfl⟩
    ·exact⟨rfl,rfl⟩
    ·conv=>whnf
     try (refine And.intro ⟨rfl,by first | rfl | (simp;done) | (simp;omega),by first | omega | (simp;omega)⟩ ?_;conv=>whnf)
     exact⟨rfl,rfl⟩
   refine And.intro ?_ ?_
   ·refine And.intro ?_ (And.intro ?_ (trivial))
    ·exact⟨rfl,rfl⟩
    ·exact⟨rfl,rfl⟩
   refine And.intro ?_ ?_
   ·refine And.intro ?_ (And.intro ?_ (trivial))
    ·exact⟨rfl,rfl⟩
    ·exact⟨rfl,rfl⟩
   refine And.intro ?_ ?_
   ·refine And.intro ?_ (And.intro ?_ (And.intro ?_ (trivial)))
    ·exact⟨rfl,rfl⟩
    ·exact⟨rfl,rfl⟩
    ·conv=>whnf
     try (refine And.intro ⟨rfl,by first | rfl | (simp;done) | (simp;omega),by first | omega | (simp;omega)⟩ ?_;conv=>whnf)
     exact⟨rfl,rfl⟩
   refine And.intro ?_ ?_
   ·refine And.intro ?_ (And.intro ?_ (trivial))
    ·exact⟨rfl,rfl⟩
    ·exact⟨rfl,rfl⟩
   refine And.intro ?_ ?_
   ·refine And.intro ?_ (And.intro ?_ (And.intro ?_ (trivial)))
    ·exact⟨rfl,rfl⟩
    ·exact⟨rfl,rfl⟩
    ·conv=>whnf
     try (refine And.intro ⟨rfl,by first | rfl | (simp;done) | (simp;omega),by first | omega | (simp;omega)⟩ ?_;conv=>whnf)
     exact⟨rfl,rfl⟩
   refine And.intro ?_ ?_
   ·refine And.intro ?_ (And.intro ?_ (trivial))
    ·exact⟨rfl,rfl⟩
    ·exact⟨rfl,rfl⟩
   refine And.intro ?_ ?_
   ·refine And.intro ?_ (And.intro ?_ (trivial))
    ·exact⟨rfl,rfl⟩
    ·exact⟨rfl,rfl⟩
   refine And.intro ?_ ?_
   ·refine And.intro ?_ (And.intro ?_ (And.intro ?_ (trivial)))
    ·exact⟨rfl,rfl⟩
    ·exact⟨rfl,rfl⟩
    ·conv=>whnf
     try (refine And.intro ⟨rfl,by first | rfl | (simp;done) | (simp;omega),by first | omega | (simp;omega)⟩ ?_;conv=>whnf)
     exact⟨rfl,rfl⟩
   refine And.intro ?_ ?_
   ·refine And.intro ?_ (And.intro ?_ (trivial))
    ·exact⟨rfl,rfl⟩
    ·exact⟨rfl,rfl⟩
   refine And.intro ?_ ?_
   ·refine And.intro ?_ (And.intro ?_ (And.intro ?_ (trivial)))
    ·exact⟨rfl,rfl⟩
    ·exact⟨rfl,rfl⟩
    ·conv=>whnf
     try (refine And.intro ⟨rfl,by first | rfl | (simp;done) | (simp;omega),by first | omega | (simp;omega)⟩ ?_;conv=>whnf)
     exact⟨rfl,rfl⟩
   refine And.intro ?_ ?_
   ·refine And.intro ?_ (And.intro ?_ (trivial))
    ·exact⟨rfl,rfl⟩
    ·exact⟨rfl,rfl⟩
   refine And.intro ?_ ?_
   ·refine And.intro ?_ (And.intro ?_ (trivial))
    ·exact⟨rfl,rfl⟩
    ·conv=>whnf
     try (refine And.intro ⟨rfl,by first | rfl | (simp;done) | (simp;omega),by first | omega | (simp;omega)⟩ ?_;conv=>whnf)
     exact⟨rfl,rfl⟩
   refine And.intro ?_ ?_
   ·refine And.intro ?_ (And.intro ?_ (trivial))
    ·exact⟨rfl,rfl⟩
    ·exact⟨rfl,rfl⟩
   refine And.intro ?_ ?_
   ·conv=>whnf
    try (refine And.intro ⟨rfl,by first | rfl | (simp;done) | (simp;omega),by first | omega | (simp;omega)⟩ ?_;conv=>whnf)
    exact⟨rfl,rfl⟩
   refine And.intro ?_ ?_
   ·refine And.intro ?_ (And.intro ?_ (And.intro ?_ (trivial)))
    ·exact⟨rfl,rfl⟩
    ·exact⟨rfl,rfl⟩
    ·conv=>whnf
     try (refine And.intro ⟨rfl,by first | rfl | (simp;done) | (simp;omega),by first | omega | (simp;omega)⟩ ?_;conv=>whnf)
     exact⟨rfl,rfl⟩
   refine And.intro ?_ ?_
   ·refine And.intro ?_ (And.intro ?_ (trivial))
    ·exact⟨rfl,rfl⟩
    ·exact⟨rfl,rfl⟩
   refine And.intro ?_ ?_
   ·refine And.intro ?_ (And.intro ?_ (And.intro ?_ (trivial)))
    ·exact⟨rfl,rfl⟩
    ·exact⟨rfl,rfl⟩
    ·conv=>whnf
     try (refine And.intro ⟨rfl,by first | rfl | (simp;done) | (simp;omega),by first | omega | (simp;omega)⟩ ?_;conv=>whnf)
     exact⟨rfl,rfl⟩
   refine And.intro ?_ ?_
   ·refine And.intro ?_ (And.intro ?_ (trivial))
    ·exact⟨rfl,rfl⟩
    ·exact⟨rfl,rfl⟩
   refine And.intro ?_ ?_
   ·refine And.intro ?_ (And.intro ?_ (trivial))
    ·exact⟨rfl,rfl⟩
    ·conv=>whnf
     try (refine And.intro ⟨rfl,by first | rfl | (simp;done) | (simp;omega),by first | omega | (simp;omega)⟩ ?_;conv=>whnf)
     exact⟨rfl,rfl⟩
   refine And.intro ?_ ?_
   ·refine And.intro ?_ (And.intro ?_ (trivial))
    ·exact⟨rfl,rfl⟩
    ·exact⟨rfl,rfl⟩
   refine And.intro ?_ ?_
   ·conv=>whnf
    try (refine And.intro ⟨rfl,by first | rfl | (simp;done) | (simp;omega),by first | omega | (simp;omega)⟩ ?_;conv=>whnf)
    exact⟨rfl,rfl⟩
   refine And.intro ?_ ?_
   ·refine And.intro ?_ (And.intro ?_ (And.intro ?_ (trivial)))
    ·exact⟨rfl,rfl⟩
    ·exact⟨rfl,rfl⟩
    ·conv=>whnf
     try (refine And.intro ⟨rfl,by first | rfl | (simp;done) | (simp;omega),by first | omega | (simp;omega)⟩ ?_;conv=>whnf)
     exact⟨rfl,rfl⟩
   refine And.intro ?_ ?_
   ·refine And.intro ?_ (And.intro ?_ (trivial))
    ·exact⟨rfl,rfl⟩
    ·exact⟨rfl,rfl⟩
   refine And.intro ?_ ?_
   ·refine And.intro ?_ (And.intro ?_ (And.intro ?_ (trivial)))
    ·exact⟨rfl,rfl⟩
    ·exact⟨rfl,rfl⟩
    ·conv=>whnf
     try (refine And.intro ⟨rfl,by first | rfl | (simp;done) | (simp;omega),by first | omega | (simp;omega)⟩ ?_;conv=>whnf)
     exact⟨rfl,rfl⟩
   refine And.intro ?_ ?_
   ·refine And.intro ?_ (And.intro ?_ (trivial))
    ·exact⟨rfl,rfl⟩
    ·exact⟨rfl,rfl⟩
   refine And.intro ?_ ?_
   ·refine And.intro ?_ (And.intro ?_ (trivial))
    ·exact⟨rfl,rfl⟩
    ·conv=>whnf
     try (refine And.intro ⟨rfl,by first | rfl | (simp;done) | (simp;omega),by first | omega | (simp;omega)⟩ ?_;conv=>whnf)
     exact⟨rfl,rfl⟩
   refine And.intro ?_ ?_
   ·refine And.intro ?_ (And.intro ?_ (trivial))
    ·exact⟨rfl,rfl⟩
    ·exact⟨rfl,rfl⟩
   refine And.intro ?_ ?_
   ·conv=>whnf
    try (refine And.intro ⟨rfl,by first | rfl | (simp;done) | (simp;omega),by first | omega | (simp;omega)⟩ ?_;conv=>whnf)
    exact⟨rfl,rfl⟩
   refine And.intro ?_ ?_
   ·refine And.intro ?_ (And.intro ?_ (trivial))
    ·exact⟨rfl,rfl⟩
    ·conv=>whnf
     try (refine And.intro ⟨rfl,by first | rfl | (simp;done) | (simp;omega),by first | omega | (simp;omega)⟩ ?_;conv=>whnf)
     exact⟨rfl,rfl⟩
   refine And.intro ?_ ?_
   ·refine And.intro ?_ (And.intro ?_ (trivial))
    ·exact⟨rfl,rfl⟩
    ·conv=>whnf
     try (refine And.intro ⟨rfl,by first | rfl | (simp;done) | (simp;omega),by first | omega | (simp;omega)⟩ ?_;conv=>whnf)
     exact⟨rfl,rfl⟩
   refine And.intro ?_ ?_
   ·refine And.intro ?_ (And.intro ?_ (And.intro ?_ (trivial)))
    ·exact⟨rfl,rfl⟩
    ·exact⟨rfl,rfl⟩
    ·conv=>whnf
     try (refine And.intro ⟨rfl,by first | rfl | (simp;done) | (simp;omega),by first | omega | (simp;omega)⟩ ?_;conv=>whnf)
     exact⟨rfl,rfl⟩
   refine And.intro ?_ ?_
   ·refine And.intro ?_ (And.intro ?_ (trivial))
    ·exact⟨rfl,rfl⟩
    ·exact⟨rfl,rfl⟩
   refine And.intro ?_ ?_
   ·refine And.intro ?_ (And.intro ?_ (trivial))
    ·exact⟨rfl,rfl⟩
    ·conv=>whnf
     try (refine And.intro ⟨rfl,by first | rfl | (simp;done) | (simp;omega),by first | omega | (simp;omega)⟩ ?_;conv=>whnf)
     exact⟨rfl,rfl⟩
   refine And.intro ?_ ?_
   ·refine And.intro ?_ (And.intro ?_ (trivial))
    ·exact⟨rfl,rfl⟩
    ·exact⟨rfl,rfl⟩
   refine And.intro ?_ ?_
   ·conv=>whnf
    try (refine And.intro ⟨rfl,by first | rfl | (simp;done) | (simp;omega),by first | omega | (simp;omega)⟩ ?_;conv=>whnf)
    exact⟨rfl,rfl⟩
   refine And.intro ?_ ?_
   ·refine And.intro ?_ (And.intro ?_ (trivial))
    ·exact⟨rfl,rfl⟩
    ·conv=>whnf
     try (refine And.intro ⟨rfl,by first | rfl | (simp;done) | (simp;omega),by first | omega | (simp;omega)⟩ ?_;conv=>whnf)
     exact⟨rfl,rfl⟩
   refine And.intro ?_ ?_
   ·refine And.intro ?_ (And.intro ?_ (trivial))
    ·exact⟨rfl,rfl⟩
    ·conv=>whnf
     try (refine And.intro ⟨rfl,by first | rfl | (simp;done) | (simp;omega),by first | omega | (simp;omega)⟩ ?_;conv=>whnf)
     exact⟨rfl,rfl⟩
   refine And.intro ?_ ?_
   ·refine And.intro ?_ (And.intro ?_ (trivial))
    ·exact⟨rfl,rfl⟩
    ·conv=>whnf
     try (refine And.intro ⟨rfl,by first | rfl | (simp;done) | (simp;omega),by first | omega | (simp;omega)⟩ ?_;conv=>whnf)
     exact⟨rfl,rfl⟩
   refine And.intro ?_ ?_
   ·refine And.intro ?_ (And.intro ?_ (trivial))
    ·exact⟨rfl,rfl⟩
    ·exact⟨rfl,rfl⟩
   refine And.intro ?_ ?_
   ·conv=>whnf
    try (refine And.intro ⟨rfl,by first | rfl | (simp;done) | (simp;omega),by first | omega | (simp;omega)⟩ ?_;conv=>whnf)
    exact⟨rfl,rfl⟩
   refine And.intro ?_ ?_
   ·conv=>whnf
    try (refine And.intro ⟨rfl,by first | rfl | (simp;done) | (simp;omega),by first | omega | (simp;omega)⟩ ?_;conv=>whnf)
    try (refine And.intro ⟨rfl,by first | rfl | (simp;done) | (simp;omega),by first | omega | (simp;omega)⟩ ?_;conv=>whnf)
    exact⟨rfl,rfl⟩
   refine And.intro ?_ ?_
   ·refine And.intro ?_ (And.intro ?_ (trivial))
    ·conv=>whnf
     try (refine And.intro ⟨rfl,by first | rfl | (simp;done) | (simp;omega),by first | omega | (simp;omega)⟩ ?_;conv=>whnf)
     exact⟨rfl,rfl⟩
    ·conv=>whnf
     try (refine And.intro ⟨rfl,by first | rfl | (simp;done) | (simp;omega),by first | omega | (simp;omega)⟩ ?_;conv=>whnf)
     exact⟨rfl,rfl⟩
   refine And.intro ?_ ?_
   ·conv=>whnf
    try (refine And.intro ⟨rfl,by first | rfl | (simp;done) | (simp;omega),by first | omega | (simp;omega)⟩ ?_;conv=>whnf)
    exact⟨rfl,rfl⟩
   conv=>whnf
   exact trivial
  refine And.intro (Ab _).symm ?_
  refine And.intro (Ab _).symm ?_
  exact⟨.tp [.ag (FX st0), .ag (F8 D), .v (.int .i64 e)],B3 ⟨AJ st0_sub,AJ ⟨AH (f:=AU) D.cells rfl rfl,AH (f:=Dy) D.cache rfl rfl,ri,ri,trivial⟩,ri,trivial⟩,rfl⟩
theorem Oo {S:Stt} (h:StSm S):Fn Tryz.prog 15 [.ag (FX S), .ag (FX S)] fun r=>r = .v (.bool true):=by
 have:=RJ S S (by have:=h.h.1;omega) (fun x hx=>by have:=h.h.2 x hx;omega) (by have:=h.o;omega) (by have:=h.t.1;omega) (fun x hx=>⟨by have:=(h.t.2 x hx).1;omega,fun i hi=>by have:=(h.t.2 x hx).2 i hi;omega⟩)
 rwa [decide_eq_true rfl] at this
theorem P6 {d:Dk} (h:DkOk d):Fn Tryz.prog 16 [.ag (F8 d), .ag (F8 d)] fun r=>r = .v (.bool true):=by
 have:=TS d d (by have:=h.n;omega) (by have:=h.m;omega) (fun c hc=>by have:=(h.c c hc).2;omega) (fun w hw=>by have:=(h.w w hw).2;omega)
 rwa [decide_eq_true rfl] at this
def Om (d:Dk) (n:Int):Dk:={ d with left:=n }
theorem TM {d:Dk} (h:DkOk d) {n:Int} (hn : -1<=n/\n<=1048576):DkOk (Om d n):=⟨h.n,h.m,h.r,hn,h.c,h.w⟩
theorem Oc (g:Geo) (s:ByteArray) (sizes:List Int) (fill:UInt8) (l:List Q4) (left:Int) (hsz:s.size<=9223372036854775807):Fn Tryz.prog 3 [.ag (A9 g), .v (.string s),iA sizes, .v (.int .u8 fill.toNat),Tt l, .v (.int .i64 left)] fun r=>r = .v (.bool true):=by
 have h1:=Tj g
 have h2:=Jc s hsz
 cases hg:AW g with
 | false=>
  rw [hg] at h1
  refine Fn.st Tryz.func3 rfl ?_
  conv=>whnf
  refine Fn.cl h1 ?_
  exact⟨_,ri,rfl⟩
 | true=>
  rw [hg] at h1
  by_cases hs:Di s.data.toList=0
  ·rw [hs] at h2
   by_cases hl:sizes.length<=40
   ·by_cases hq:l.length<=20
    ·have hw:=wakes22_fn
     have hlg:=P4 g s sizes fill hg hs hl
     have hf:=L0 (s:=s) (fill:=fill) (sizes:=sizes) hg hs
     have hdk:=Q0 (s:=s) (fill:=fill) (sizes:=sizes) hg hs
     have hds:=PJ (n:=(Az g).toNat) (d:=Jk g s (A3 g (Av g s) fill sizes 0 (Av g s).pos 0)) (by have:=hf.len;omega) rfl rfl rfl rfl
     have hcl:(Jk g s (A3 g (Av g s) fill sizes 0 (Av g s).pos 0)).cells.length=(Az g).toNat:=by have:=hf.len;omega
     have hcn:=hf.len
     generalize Jk g s (A3 g (Av g s) fill sizes 0 (Av g s).pos 0)=d at hlg hds hcl hdk hcn
     generalize A3 g (Av g s) fill sizes 0 (Av g s).pos 0=L at hlg
     have h3:=QV g d l hdk (by omega)
     have hso:=IZ (n:=d.cells.length) (l.take 20) hdk
     have eS:(l.take 20).foldl (E8 d.cells.length) d=Hw d l:=rfl
     rw [eS] at hso
     generalize Hw d l=E at h3 hso
     obtain⟨o1,o2,o3,o4,o5⟩:=hso
     have hm:=Et (x:=left) (n:=200) (by decide) (by decide)
     have wl:IntKind.i64.wrap (IntKind.i64.wrap ((IntKind.u64.wrap left).tmod 200) - 1)=Dv left 200 - 1:=by
      show IntKind.i64.wrap (Dv left 200 - 1)=_
      exact wi (by omega)
     have hF:=TM o1 (n:=Dv left 200 - 1) (by omega)
     have hFn:((Om E (Dv left 200 - 1)).cells.length:Int)=Az g:=by show (E.cells.length:Int)=_;rw [o2];exact hcn
     have h4:=LP g _ hg hF hFn
     have h5:=Pj g _ hg hF hFn
     have hmo:=Jh hg hF hFn
     have hsm:=Jg (g:=g) (d:=Om E (Dv left 200 - 1)) hg
     have h6:=Oo hsm
     have h7:=P6 hmo.1
     have eF:F8 (Om E (Dv left 200 - 1))=[Mg E.cells,F0 E.cache, .v (.int .i64 E.reqs), .v (.int .i64 (Dv left 200 - 1))]:=rfl
     generalize BD g (Om E (Dv left 200 - 1))=M at h4 h5 h6 h7
     rw [eF] at h4 h5
     clear hf hmo hsm hF hFn eF eS
     refine Fn.st Tryz.func3 rfl ?_
     conv=>whnf
     refine Fn.cl h1 ?_
     conv=>whnf
     refine Fn.cl h2 ?_
     conv=>whnf
     rw [show decide ((sizes.length:Int) > 40)=false from decide_eq_false (by omega)]
     conv=>whnf
     rw [show decide ((l.length:Int) > 20)=false from decide_eq_false (by omega)]
     conv=>whnf
     refine ACalls.beside hlg rfl ?_
     rintro _ _ ⟨rfl,rfl⟩
     conv=>whnf
     refine ACalls.shut h3.go ?_
     refine⟨(by rw [Ab,hcl]),?_⟩
     conv=>whnf
     refine ACalls.sub [.ag (A9 g), .ag (F8 d),Tt l] ⟨ri,AJ hds,ri,trivial⟩ ?_
     refine Fn.cl h3 ?_
     refine⟨by decide,?_⟩
     conv=>whnf
     rw [wl]
     conv=>whnf
     refine Fn.cl h4 ?_
     conv=>whnf
     refine Fn.cl h5 ?_
     conv=>whnf
     rw [show (M.2.1 == M.2.1)=true from beq_self_eq_true _]
     conv=>whnf
     refine Fn.cl h6 ?_
     conv=>whnf
     refine Fn.cl h7 ?_
     conv=>whnf
     refine Fn.cl hw ?_
     exact⟨_,ri,rfl⟩
    ·refine Fn.st Tryz.func3 rfl ?_
     conv=>whnf
     refine Fn.cl h1 ?_
     conv=>whnf
     refine Fn.cl h2 ?_
     conv=>whnf
     rw [show decide ((sizes.length:Int) > 40)=false from decide_eq_false (by omega)]
     conv=>whnf
     rw [show decide ((l.length:Int) > 20)=true from decide_eq_true (by omega)]
     exact⟨_,ri,rfl⟩
   ·refine Fn.st Tryz.func3 rfl ?_
    conv=>whnf
    refine Fn.cl h1 ?_
    conv=>whnf
    refine Fn.cl h2 ?_
    conv=>whnf
    rw [show decide ((sizes.length:Int) > 40)=true from decide_eq_true (by omega)]
    exact⟨_,ri,rfl⟩
  ·refine Fn.st Tryz.func3 rfl ?_
   conv=>whnf
   refine Fn.cl h1 ?_
   conv=>whnf
   refine Fn.cl h2 ?_
   conv=>whnf
   rw [show (Di s.data.toList != 0)=true from bne_iff_ne.2 hs]
   exact⟨_,ri,rfl⟩
end Go.Proofs.YtldngmdpiifamaaGreatDoor.A
end
section
namespace Go.Proofs.YtldngmdpiifamaaGreatDoor.A
open Go.RowKit Go.ChangeShapes Go.WideShapes Go.ChangeAt Go.Deep
section
variable {H:Type} {enc:TypeId × Value->H} {w:World}
theorem oQ4:OpenE enc w 110 4 fun L=>∃ x,L=X4 x:=
 (WC Tryz.underlying110 (by kernel_rfl)).mono fun L h=>by
  obtain⟨l,hl,rfl, -⟩:=h
  match l,hl with
  | [a,b,c,d],_=>exact⟨⟨a,b,c,d⟩,rfl⟩
def X6 (L:List AV):Prop:=∃ l,L=[Tt l]
theorem oQ4s:OpenE enc w 25 1 X6:=
 (Wd (α:=Q4) (sz:=4) (f:=X4) (d:=⟨0,0,0,0⟩) Tryz.underlying25 (by kernel_rfl) (by decide) oQ4).mono fun L ⟨l,h⟩=>⟨l,h⟩
end
end Go.Proofs.YtldngmdpiifamaaGreatDoor.A
end
section
namespace Go.Proofs.YtldngmdpiifamaaGreatDoor
open Go.ChangeShapes Go.WideShapes Go.ChangeAt Go.RowKit
theorem own_none:ownKnob Tryz.prog.godebug=none:=by kernel_rfl
theorem laidOut:laidOutB Tryz.prog=true:=by kernel_rfl

section
variable {H:Type} {enc:TypeId × Value->H}
theorem TO {f:Func} {s:ChangeSpec} {apart fresh handsOn again:Bool} {W W':World} {args:Array Value} {ds:List (DataW H)} {before:List MemPlace}
  (hW:DataW.Whole enc Tryz.prog f.params.toList s.vars apart W args.toList ds [] before) (hv:s.vars=[]) (hvs:(s.fn H (ds ++ [])).vars=[])
  (hr:f.resultTypes = #[4]) (hfr:(s.fn H (ds ++ [])).results=[.lit (.bool true)]) (hfa:(s.fn H (ds ++ [])).args=ds)
  (hrow:∀ t∈f.params.toList,Tryz.prog.readableRec t=true/\t<Tryz.prog.types.size) (hb:Below W.heap.size W W') :
  s.post enc Tryz.prog f apart fresh handsOn again W args (.bool true) W':=by
 have hlt:∀ p∈before,p.block<W.heap.size:=fun p hp=>hW.lt p hp
 obtain⟨p,q,hA,hV,hpq,hz,hn⟩:=id hW
 rw [hv] at hV
 obtain⟨-,rfl⟩:=trodVars_none hV
 rw [List.append_nil] at hpq
 subst hpq
 have stay:∀ sp:Nat->Bool,(∀ x∈before,sp x.block=true)->DataW.TrodAll enc Tryz.prog W' 0 sp true f.params.toList args.toList ds before:=by
  intro sp hsp
  have go:∀ (ts:List TypeId) (vs:List Value) (es:List (DataW H)) (ps:List MemPlace),(∀ t∈ts,Tryz.prog.readableRec t=true/\t<Tryz.prog.types.size)->(∀ x∈ps,x∈before)->
    DataW.TrodAll enc Tryz.prog W 0 (fun _=>true) true ts vs es ps->DataW.TrodAll enc Tryz.prog W' 0 sp true ts vs es ps:=by
   intro ts
   induction ts with
   | nil=>
    intro vs es ps _ _ h
    cases vs <;> cases es <;> exact h
   | cons t ts ih=>
    intro vs es ps ht hin h
    cases vs with
    | nil=>cases es <;> exact h.elim
    | cons v vs=>
     cases es with
     | nil=>exact h.elim
     | cons e es=>
      obtain⟨p1,p2,h1,h2,rfl⟩:=h
      exact⟨p1,p2,WideElems.Trod_stays laidOut (ht t (by simp)).1 (ht t (by simp)).2 h1 (fun x hx=>hb.same (hlt x (hin x (by simp [hx])))) (fun x hx=>hsp x (hin x (by simp [hx]))),
       ih vs es p2 (fun t' ht'=>ht t' (by simp [ht'])) (fun x hx=>hin x (by simp [hx])) h2,rfl⟩
  exact go _ _ _ _ hrow (fun x hx=>hx) hA
 have hres:∀ (b:Nat) (sp:Nat->Bool) (hd:Bool),DataW.TrodAll enc Tryz.prog W' b sp hd f.resultTypes.toList ((Value.bool true).resultList f.resultTypes.size) (s.fn H (ds ++ [])).results []:=by
  intro b sp hd
  rw [hr,hfr]
  exact trodAll_mk1 ⟨1,by simp [DataW.trod,Value.cells,Tryz.underlying4]⟩
 have hold:∀ p∈before,(fun b=>decide (b<W.heap.size)) p.block=true:=fun p hp=>by simpa using hlt p hp
 have hvars:∀ sp:Nat->Bool,DataW.TrodVars enc Tryz.prog W' sp s.vars (s.fn H (ds ++ [])).vars []:=by
  intro sp;rw [hv,hvs];exact rfl
 refine⟨ds, [],before, [],before, [],hW,hres _ _ _,by rw [hfa];exact stay _ hold,hvars _,World.keptBut_mono (fun p hp=>⟨hp,?_⟩) (hb.frame (·∈before)),fun _=>?_⟩
 ·exact Or.inr (by simpa using hp)
 ·refine⟨ok_one hr rfl (by simp [Value.okWide,Tryz.underlying4,Cell.okWide,Cell.ok]),_,_,([] ++ before) ++ [],⟨[] ++ before, [],trodAll_append (stay _ (fun _ _=>rfl)) (hres _ _ _),hvars _,rfl,?_,?_⟩,?_⟩
  ·intro b off hp
   have hin:MemPlace.cell b off∈before:=by simpa using hp
   rw [hb.frozen (hlt _ hin)]
   exact hz b off hin
  ·intro ha
   have:=hn ha
   simpa using this
  ·intro p hp _
   simpa using hp
end
abbrev TR : List (String × DataW Unit) := [("unicode/utf8.acceptRanges", Rows.laid_unicode_utf8_acceptRanges), ("unicode/utf8.first", Rows.laid_unicode_utf8_first)]
noncomputable def Jo (os:Os):World:=
 let w0:=World.holding Tryz.prog os ⟨#[], #[], []⟩
 let put (h:Array Obj) (g:Nat) (cs:Array Value):Array Obj:=h.modify g fun
  | .cells _ t frozen=> .cells cs t frozen
  | o=>o
 let h1:=put w0.heap 0 (Lib.firstTab.map fun z=>Value.int .u8 z).toArray
 let h2:=put h1 1 ((List.range 16).flatMap fun i=> [Value.int .u8 (Lib.accLo i),Value.int .u8 (Lib.accHi i)]).toArray
 { w0 with heap:=h2 }
theorem TQ (os:Os) (args:Array Value):laidMetH Tryz.prog TR ((Jo os).forCall (fun _ _=>0) ⟨#[],args, []⟩).memory:=by
 rw [MakeChecks.laidMetH_plain _ _ _ (by kernel_rfl)]
 exact(LaidIn.of_run (l:=TR) [1,0] 8 (by kernel_rfl) (by kernel_rfl) (by kernel_rfl) (by kernel_rfl)).met
theorem first_data:Rows.laid_unicode_utf8_first=Lib.firstData:=by kernel_rfl
theorem accept_data:(Rows.laid_unicode_utf8_acceptRanges:DataW Unit)=Lib.acceptData:=by kernel_rfl
theorem RF {W:World} (h:laidMetH Tryz.prog TR W):A.globOk W:=by
 rw [MakeChecks.laidMetH_plain _ _ _ (by kernel_rfl)] at h
 have h1:=Lib.laidMet.reads h (.head _)
 have h2:=Lib.laidMet.reads h (.tail _ (.head _))
 rw [accept_data] at h1
 rw [first_data] at h2
 exact utf8Tabs_of_readsT (U8Types.of196 Tryz.laysValid) ⟨by kernel_rfl,by kernel_rfl,by kernel_rfl,by kernel_rfl,by kernel_rfl,by kernel_rfl,by kernel_rfl⟩ h2 h1
end Go.Proofs.YtldngmdpiifamaaGreatDoor
end
