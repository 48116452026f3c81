/-
Several texts in one.
-/
import Derived.Test.YtldngmdpiifamaaGreatDoorPPB3P4
import Derived.Test.YtldngmdpiifamaaGreatDoorPPB3P3
import Derived.Test.YtldngmdpiifamaaGreatDoorPPB3P2
import Derived.Test.YtldngmdpiifamaaGreatDoorPPB3P1
import Derived.Test.YtldngmdpiifamaaGreatDoorRows
import Derived.Below
import Derived.ChangeSame
import Derived.Carry
import Derived.Lib.LaidIn
import Derived.Lib.LaidU8T
import Derived.LaidHandle
import Derived.MakeChecks
import Derived.Handed
set_option maxRecDepth 100000
set_option maxHeartbeats 8000000
set_option linter.unusedSimpArgs false
set_option linter.unusedVariables false
section
namespace Go.Proofs.YtldngmdpiifamaaGreatDoor.A
open Go.RowKit
theorem Vi (g:Geo) (a:An) (l:List Tx) (hg:AS g=true) (ha:0<=a.pos/\a.pos<g.sl) (hs:0<=a.seq/\a.seq<=4294967296) (hn:l.length<=1000000) (hi:∀ t∈l,t.images.length<=1000000):Fn Tryz.prog 87 [.ag (A7 g), .ag (CE a),DS l] fun r=>r = .v (.bool (Ef g l a.seq a.pos g.sl)):=by
 obtain⟨g1,g2,g3,g4,g5⟩:=Am.1 hg
 refine Fn.st Tryz.func87 rfl ?_
 conv=>whnf
 apply aDraw.treeK (0) tys_ok mixed (.one 0 (.one 1 (.one 2 (.one 3 (.one 4 (.one 5 (.one 6 .fin))))))) (by kernel_rfl)
 conv=>whnf
 refine aLoop.ruleRR (Nat × Int × Int × Int) (fun x=>([(2,DS l),(3, .bp 0 0),(6, .v (.bool false)),(7, .v (.int .i64 x.2.1)),(8, .v (.int .i64 x.2.2.1)),(9, .v (.int .i64 (g.sl - x.2.2.2))),(10, .v (.int .i64 x.1))], [.box 23 (A7 g)]))
  (fun x=>x.1<=l.length/\(0<=x.2.1/\x.2.1<g.sl)/\(0<=x.2.2.1/\x.2.2.1<=4294967296)/\(0<=x.2.2.2/\x.2.2.2<=g.sl)/\Ef g l a.seq a.pos g.sl=Ef g (l.drop x.1) x.2.2.1 x.2.1 x.2.2.2) (fun x=>l.length - x.1) (0,a.pos,a.seq,g.sl) ⟨Ag _,by show 0<=a.pos/\a.pos<g.sl;omega,by show 0<=a.seq/\a.seq<=4294967296;omega,by show 0<=g.sl/\g.sl<=g.sl;omega,rfl⟩
  ?_ ?_
 ·rw [Int.sub_self]
  exact WkN.r (s:= [0]) ⟨⟨rfl,rfl,rfl,rfl,rfl,rfl,rfl,trivial⟩,⟨rfl,trivial⟩,rfl,rfl,rfl,rfl,rfl⟩
 rintro⟨k,pos,seq,left⟩ ⟨hk,b1,b2,b3,hI⟩
 simp only at hk b1 b2 b3 hI |-
 conv=>whnf
 refine Al (fun h6=>?_) (fun h6=>?_) <;> (repeat rw [Aa] at h6) <;> conv=>whnf
 ·have hk':k<l.length:=by omega
  have hm:=hi _ (AE (d:=(⟨0,0,0, []⟩:Tx)) hk')
  have hdr:l.drop k=l.getD k ⟨0,0,0, []⟩::l.drop (k+1):=by
   rw [List.getD_eq_getElem?_getD,List.getElem?_eq_getElem hk'];exact AM hk'
  rw [hdr,Ef] at hI
  repeat' (first | (refine aSeq.go ?_;conv=>whnf) | fail)
  refine⟨⟨by omega,by omega⟩,?_⟩
  conv=>whnf
  rw [Aa]
  generalize l.getD k ⟨0,0,0, []⟩=t at hm hI |-
  have wn:IntKind.i64.wrap ((t.images.length:Int)+1)=t.images.length+1:=wi (by omega)
  generalize hAll:t.images.all (B_ g)=Q at hI
  generalize hC:(decide (t.seq=seq)&&(decide (t.seq<=4294967295)&&(decide (t.pos=pos)&&(decide (2<=t.n)&&(decide (t.n<=left)&&(decide (t.n=t.images.length+1)&&Q))))))=C at hI
  clear hi hdr
  conv=>whnf
  repeat' (first | (refine aSeq.go ?_;conv=>whnf) | fail)
  repeat' (first | (refine Af (fun h=>?_) (fun h=>?_) <;> (try simp at h) <;> conv=>whnf) | (refine aSeq.go ?_;conv=>whnf))
  all_goals try (exact⟨_,ri,by rw [hI,show C=false by (rw [<-hC,<-AQ];clear hI hC hAll;simp [*] <;> omega)];rfl⟩)
  rename_i e1 e2 e3 e4
  have e5:t.n=t.images.length+1:=by rw [<-wn];assumption
  have e6:2<=t.n:=by assumption
  rw [decide_eq_true e1,decide_eq_true (show t.seq<=4294967295 by omega),decide_eq_true e3,decide_eq_true e6,decide_eq_true e5,At,At,At,At,At] at hC
  refine aLoop.ruleRR Nat (fun i=>([(2,DS l),(3, .bp 0 0),(6, .v (.bool false)),(7, .v (.int .i64 pos)),(8, .v (.int .i64 seq)),(9, .v (.int .i64 (g.sl - left))),(10, .v (.int .i64 k)),(11, .bp 1 0),(12, .v (.int .i64 i))], [.box 23 (A7 g), .box 78 (Hi t)]))
   (fun i=>i<=t.images.length/\(t.images.take i).all (B_ g)=true) (fun i=>t.images.length - i) 0 ⟨Ag _,rfl⟩
   (WkN.r (s:= [0,1]) ⟨⟨rfl,rfl,rfl,rfl,rfl,rfl,rfl,rfl,rfl,trivial⟩,⟨rfl,rfl,trivial⟩,rfl,rfl,rfl,rfl,rfl⟩) ?_
  rintro i ⟨hi,hT⟩
  conv=>whnf
  refine Al (fun h7=>?_) (fun h7=>?_) <;> (repeat rw [Aa] at h7) <;> conv=>whnf
  ·have hi':i<t.images.length:=by omega
   repeat' (first | (refine aSeq.go ?_;conv=>whnf) | fail)
   have hx:=KD g (t.images.getD i ⟨0,0, []⟩) hg
   have hTs:(t.images.take (i+1)).all (B_ g)=B_ g (t.images.getD i ⟨0,0, []⟩):=by
    rw [List.take_add_one,C2,hT,At,List.getD_eq_getElem?_getD,List.getElem?_eq_getElem hi'];simp
   apply aDraw.treeK (0) tys_ok mixed (.one 0 (.one 1 (.one 2 (.one 3 (.one 4 (.one 5 (.one 6 (.one 7 .fin)))))))) (by kernel_rfl)
   conv=>whnf
   try (refine And.intro (by first | omega | (simp;done)) ?_;conv=>whnf)
   refine Fn.cl hx ?_
   conv=>whnf
   cases hq:B_ g (t.images.getD i ⟨0,0, []⟩) with
   | false=>
    have hQ:Q=false:=by
     rw [<-hAll,<-AQ,A4]
     intro h
     rw [h _ (AE hi')] at hq
     cases hq
    exact⟨_,ri,by rw [hI,<-hC,hQ,B4,Bd]⟩
   | true=>
    exact⟨i+1,⟨hi',by rw [hTs,hq]⟩,by omega,WkN.r (s:= [0,1]) ⟨⟨rfl,rfl,rfl,rfl,rfl,rfl,rfl,rfl,AA (by omega),trivial⟩,⟨rfl,rfl,trivial⟩,rfl,rfl,rfl,rfl,rfl⟩⟩
  ·have ei:i=t.images.length:=by omega
   rw [ei,List.take_length] at hT
   have hQ:Q=true:=by rw [<-hAll];exact hT
   repeat' (first | (refine aSeq.go ?_;conv=>whnf) | fail)
   have w1:IntKind.i64.wrap (g.sl - left+t.n)=g.sl - left+t.n:=wi (by omega)
   rw [w1]
   refine Al (fun q=>?_) (fun q=>?_)
   ·exact⟨_,ri,by rw [hI,<-hC,decide_eq_false (show ¬t.n<=left by omega),Bd,Bd]⟩
   ·have hC1:C=true:=by rw [<-hC,hQ,decide_eq_true (show t.n<=left by omega)];rfl
    rw [hC1,At] at hI
    have w2:IntKind.i64.wrap (pos+t.n)=pos+t.n:=wi (by omega)
    have w3:IntKind.i64.wrap (seq+1)=seq+1:=wi (by omega)
    refine⟨by omega,?_⟩
    conv=>whnf
    rw [w2,w3]
    have hq1:=AD g.sl (show 0<=pos+t.n by omega)
    have hq2:=A3 (pos+t.n) (show 0<g.sl by omega)
    exact⟨(k+1,(pos+t.n).tmod g.sl,seq+1,left - t.n),⟨hk',⟨hq1,hq2⟩,(show 0<=seq+1/\seq+1<=4294967296 by omega),(show 0<=left - t.n/\left - t.n<=g.sl by omega),hI⟩,(show l.length - (k+1)<l.length - k by omega),WkN.r (s:= [0]) ⟨⟨rfl,rfl,rfl,rfl,rfl,(by rw [show g.sl - (left - t.n)=g.sl - left+t.n by omega];rfl),AA (by omega),trivial⟩,⟨rfl,trivial⟩,rfl,rfl,rfl,rfl,rfl⟩⟩
 ·have ek:k=l.length:=by omega
  subst ek
  exact⟨_,ri,by rw [hI,List.drop_length];rfl⟩
theorem VZ {g:Geo} {a:An} (hg:AS g=true) (h:AY g a=true):(0<=a.pos/\a.pos<g.sl)/\(0<=a.seq/\a.seq<=4294967296):=by
 have hp:=Ej h
 exact⟨by omega,by omega⟩
theorem R8 (g:Geo) (d:Dk) (s:Stt) (hg:AS g=true) (h1:d.cells.length<=1000000) (h2:d.cache.length<=1000000) (hs:StBig s):Fn Tryz.prog 27 [.ag (A7 g), .ag (DG d), .ag (Fg s)] fun r=>r = .v (.bool (LA g d s)):=by
 obtain⟨g1,g2,g3,g4,g5⟩:=Am.1 hg
 have hm1:g.z*g.d<=4*4:=CQ (by omega) (by omega) (by omega) (by omega)
 have hm0:0<=g.z*g.d:=CP (by omega) (by omega)
 have hD:=Oq g d hg h1 h2
 have hA:=H_ g s.a hg hs.l
 have hU:=R4 g hg
 have hN:=VH s.cursor 0 (IntKind.i64.wrap (CU g - 1))
 unfold LA
 rw [hg,At,At]
 generalize (FZ d&&decide ((d.cells.length:Int)=A0 g))=B1 at hD |-
 cases B1 with
 | false=>
  refine Fn.st Tryz.func27 rfl ?_
  conv=>whnf
  apply aDraw.treeK (0) tys_ok mixed (.one 0 (.one 1 (.one 2 (.one 3 (.one 4 (.one 5 (.one 6 (.one 7 (.one 8 (.one 9 (.one 10 (.one 11 (.one 12 (.one 13 (.one 14 (.one 15 (.one 16 (.one 17 (.one 18 (.one 19 (.one 20 (.one 21 (.one 22 (.one 23 (.one 24 (.one 25 (.one 26 (.one 27 (.one 28 (.one 29 (.one 30 (.one 31 (.one 32 (.one 33 (.one 34 (.one 35 (.one 36 (.one 37 (.one 38 (.one 39 (.one 40 (.one 41 (.one 42 (.one 43 (.one 44 (.one 45 (.one 46 .fin))))))))))))))))))))))))))))))))))))))))))))))) (by kernel_rfl)
  conv=>whnf
  refine Fn.cl hD ?_
  conv=>whnf
  (skip)
  conv=>whnf
  (skip)
  conv=>whnf
  (skip)
  conv=>whnf
  (skip)
  conv=>whnf
  all_goals exact⟨_,ri,rfl⟩
 | true=>
  rw [At]
  cases hAn:AY g s.a with
  | false=>
   rw [hAn] at hA
   refine Fn.st Tryz.func27 rfl ?_
   conv=>whnf
   apply aDraw.treeK (0) tys_ok mixed (.one 0 (.one 1 (.one 2 (.one 3 (.one 4 (.one 5 (.one 6 (.one 7 (.one 8 (.one 9 (.one 10 (.one 11 (.one 12 (.one 13 (.one 14 (.one 15 (.one 16 (.one 17 (.one 18 (.one 19 (.one 20 (.one 21 (.one 22 (.one 23 (.one 24 (.one 25 (.one 26 (.one 27 (.one 28 (.one 29 (.one 30 (.one 31 (.one 32 (.one 33 (.one 34 (.one 35 (.one 36 (.one 37 (.one 38 (.one 39 (.one 40 (.one 41 (.one 42 (.one 43 (.one 44 (.one 45 (.one 46 .fin))))))))))))))))))))))))))))))))))))))))))))))) (by kernel_rfl)
   conv=>whnf
   refine Fn.cl hD ?_
   conv=>whnf
   refine Fn.cl hA ?_
   conv=>whnf
   (skip)
   conv=>whnf
   (skip)
   conv=>whnf
   (skip)
   conv=>whnf
   all_goals exact⟨_,ri,rfl⟩
  | true=>
   rw [hAn] at hA
   rw [At]
   obtain⟨p1,p2⟩:=VZ hg hAn
   have hL:=Vi g s.a s.txns hg p1 p2 hs.t.1 (fun t h=>(hs.t.2 t h).1)
   generalize Ef g s.txns s.a.seq s.a.pos g.sl=B3 at hL |-
   cases B3 with
   | false=>
    refine Fn.st Tryz.func27 rfl ?_
    conv=>whnf
    apply aDraw.treeK (0) tys_ok mixed (.one 0 (.one 1 (.one 2 (.one 3 (.one 4 (.one 5 (.one 6 (.one 7 (.one 8 (.one 9 (.one 10 (.one 11 (.one 12 (.one 13 (.one 14 (.one 15 (.one 16 (.one 17 (.one 18 (.one 19 (.one 20 (.one 21 (.one 22 (.one 23 (.one 24 (.one 25 (.one 26 (.one 27 (.one 28 (.one 29 (.one 30 (.one 31 (.one 32 (.one 33 (.one 34 (.one 35 (.one 36 (.one 37 (.one 38 (.one 39 (.one 40 (.one 41 (.one 42 (.one 43 (.one 44 (.one 45 (.one 46 .fin))))))))))))))))))))))))))))))))))))))))))))))) (by kernel_rfl)
    conv=>whnf
    refine Fn.cl hD ?_
    conv=>whnf
    refine Fn.cl hA ?_
    conv=>whnf
    refine Fn.cl hL ?_
    conv=>whnf
    (skip)
    conv=>whnf
    (skip)
    conv=>whnf
    all_goals exact⟨_,ri,rfl⟩
   | true=>
    rw [At]
    refine Fn.st Tryz.func27 rfl ?_
    conv=>whnf
    apply aDraw.treeK (0) tys_ok mixed (.one 0 (.one 1 (.one 2 (.one 3 (.one 4 (.one 5 (.one 6 (.one 7 (.one 8 (.one 9 (.one 10 (.one 11 (.one 12 (.one 13 (.one 14 (.one 15 (.one 16 (.one 17 (.one 18 (.one 19 (.one 20 (.one 21 (.one 22 (.one 23 (.one 24 (.one 25 (.one 26 (.one 27 (.one 28 (.one 29 (.one 30 (.one 31 (.one 32 (.one 33 (.one 34 (.one 35 (.one 36 (.one 37 (.one 38 (.one 39 (.one 40 (.one 41 (.one 42 (.one 43 (.one 44 (.one 45 (.one 46 .fin))))))))))))))))))))))))))))))))))))))))))))))) (by kernel_rfl)
    conv=>whnf
    refine Fn.cl hD ?_
    conv=>whnf
    refine Fn.cl hA ?_
    conv=>whnf
    refine Fn.cl hL ?_
    conv=>whnf
    refine Fn.cl hU ?_
    conv=>whnf
    refine Fn.cl hN ?_
    conv=>whnf
    have hub:1<=CU g/\CU g<=1000000:=by have:=Iv hg;omega
    have wu:IntKind.i64.wrap (CU g - 1)=CU g - 1:=wi (by omega)
    have wm:IntKind.i64.wrap (g.z*g.d)=g.z*g.d:=wi (by omega)
    have hT:=Vq s.lost (g.z*g.d) hs.o (by omega)
    rw [wu]
    cases hq:BP s.cursor 0 (CU g - 1) with
    | false=>
     conv=>whnf
     have:(decide (0<=s.cursor)&&(decide (s.cursor<CU g)&&CL g s))=false:=by
      rw [<-AQ];unfold BP at hq;simp only [Bool.and_eq_true,decide_eq_true_eq];simp at hq;omega
     exact⟨_,ri,by rw [this]⟩
    | true=>
     have hq2:(decide (0<=s.cursor)&&(decide (s.cursor<CU g)&&CL g s))=CL g s:=by
      unfold BP at hq;simp at hq
      rw [decide_eq_true (show 0<=s.cursor by omega),decide_eq_true (show s.cursor<CU g by omega),At,At]
     rw [hq2]
     conv=>whnf
     refine Al (fun q1=>?_) (fun q1=>?_)
     ·exact⟨_,ri,by rw [CL,decide_eq_false (show ¬0<=s.found by omega),Bd,B4]⟩
     conv=>whnf
     refine Al (fun q2=>?_) (fun q2=>?_)
     ·exact⟨_,ri,by rw [CL,decide_eq_false (show ¬0<=s.fixed by omega),Bd,B4,B4]⟩
     conv=>whnf
     refine Al (fun q3=>?_) (fun q3=>?_)
     ·exact⟨_,ri,by rw [CL,decide_eq_false (show ¬0<=s.moved by omega),B4,B4,B4]⟩
     rw [CL,decide_eq_true (show 0<=s.found by omega),decide_eq_true (show 0<=s.fixed by omega),decide_eq_true (show 0<=s.moved by omega),At,At,B7]
     conv=>whnf
     repeat' (first | (refine aSeq.go ?_;conv=>whnf) | fail)
     cases hz:((s.lost.length:Int) == 0) with
     | true=>
      have hl0:s.lost=[]:=AZ (by have:=beq_iff_eq.1 hz;omega)
      conv=>whnf
      exact⟨_,ri,by rw [hl0];rfl⟩
     | false=>
      have hl1:0<s.lost.length:=by have:=bne_iff_ne.1 (show ((s.lost.length:Int) != 0)=true by rw [bne,hz];rfl);omega
      rw [decide_eq_true hl1,B7] at hT
      conv=>whnf
      rw [wm]
      refine Fn.cl hT ?_
      exact⟨_,ri,rfl⟩
theorem Oh (g:Geo) (s:ByteArray) (hg:AS g=true) (hs:C5 s.data.toList=0):ACalls Tryz.prog false 26 [.ag (A7 g), .v (.string s)] [] fun r H=>r = .ag [.ow 0 (A0 g).toNat,nilV,ze 0,ze (-1)]/\H=[.row 87 3 ((FG g s).cells.map Bi)]:=by
 obtain⟨g1,g2,g3,g4,g5⟩:=Am.1 hg
 have hcg:=Dt hg
 have hp:=GP hg
 have hN:1<=(A0 g).toNat/\(A0 g).toNat<=300:=by
  have:g.z*Cs g<=4*7:=CQ (by omega) (by omega) (by omega) (by omega)
  unfold A0 at hcg |-
  omega
 have hcN:A0 g=((A0 g).toNat:Int):=by omega
 have hao:=Et hg hs
 have hA:=Ur g s hg
 have hC:=KI g hg
 rw [hcN] at hC
 have hD:=To (A0 g).toNat hN
 refine ACalls.ofR tys_ok Tryz.func26 rfl rfl (Ad rfl) ?_
 conv=>whnf
 refine Fn.cl hC ?_
 conv=>whnf
 refine ACalls.beside hD rfl ?_
 rintro _ _ ⟨rfl,rfl⟩
 conv=>whnf
 refine Fn.cl hA ?_
 conv=>whnf
 refine aLoop.ruleRR Nat (fun k=>([(2, .bp 0 0),(4, .bp 1 0),(5, .bp 2 0),(6, .bp 3 0),(7,ze k)], [.box 23 (A7 g), .box 32 [nilV,nilV,ze 0,ze 0], .box 32 [.ow 4 (A0 g).toNat,nilV,ze 0,ze (-1)], .box 40 (CE (A5 g s)), .row 87 3 ((Cr (FH g) ((Au g (A5 g s)).take k)).map Bi)])) (fun k=>k<=g.an.toNat) (fun k=>g.an.toNat - k) 0 (Ag _)
  ?_ ?_
 ·refine WkN.rc (ConvF.ofH (ConvH.subRow (k:=2) rfl (es':=(FH g).map Bi) (by simp [FH]) fun i=>?_)) (s:= [0,1,3,4,2]) ⟨⟨rfl,rfl,rfl,rfl,rfl,trivial⟩,⟨rfl,rfl,rfl,rfl,rfl,trivial⟩,rfl,rfl,rfl,rfl,rfl⟩
  rw [FH,List.map_replicate]
  by_cases hi:i<(A0 g).toNat
  ·rw [FA hi,FA hi];exact⟨fun _ _ h=>h,AP 1 _,AP 1 _,trivial⟩
  ·rw [List.getD_eq_getElem?_getD,List.getD_eq_getElem?_getD,List.getElem?_eq_none (by simpa using hi),List.getElem?_eq_none (by simpa using hi)];exact SubL.refl _
 ·intro k hk
  conv=>whnf
  refine Al (fun h6=>?_) (fun h6=>?_) <;> (repeat rw [Aa] at h6) <;> conv=>whnf
  ·have hk':k<(Au g (A5 g s)).length:=by rw [Dw];omega
   have hsx:=Es (FH g) hk'
   rw [FQ (by omega)] at hsx
   have hlx:(Cr (FH g) ((Au g (A5 g s)).take k)).length=(A0 g).toNat:=by rw [CM,IZ]
   generalize Cr (FH g) ((Au g (A5 g s)).take k)=cs at hsx hlx |-
   have hnc:=KJ g (A5 g s) k hg hao (by omega)
   have hE:(cs.map Bi).getD (k:Int).toNat []=Bi (cs.getD (k:Int).toNat cz):=FM hlx (by omega)
   repeat' (first | (refine aSeq.go ?_;conv=>whnf) | fail)
   apply aDraw.treeK (0) tys_ok mixed (.one 0 (.one 1 (.one 2 (.one 3 (.one 4 (.one 5 (.one 6 (.one 7 (.one 8 .fin))))))))) (by kernel_rfl)
   conv=>whnf
   refine Fn.cl hnc ?_
   conv=>whnf
   try (refine And.intro (by first | omega | (simp;done)) ?_;conv=>whnf)
   try (refine And.intro ⟨rfl,by first | rfl | (simp;done) | (simp;omega),by first | omega | (simp;omega)⟩ ?_;conv=>whnf)
   (first | rw [hE] | skip)
   conv=>whnf
   all_goals exact⟨k+1,by omega,by omega,WkN.r (s:= [0,1,2,3,4]) ⟨⟨rfl,rfl,rfl,rfl,AA (by omega),trivial⟩,⟨rfl,rfl,rfl,rfl,congrArg (fun l=>some (AB.row _ _ l)) (by rw [hsx,Fa];rfl),trivial⟩,rfl,rfl,rfl,rfl,rfl⟩⟩
  ·have ek:k=(Au g (A5 g s)).length:=by rw [Dw];omega
   rw [ek,List.take_length]
   repeat' (first | (refine aSeq.go ?_;conv=>whnf) | fail)
   refine aLoop.ruleRR Nat (fun c=>([(2, .bp 0 0),(4, .bp 1 0),(5, .bp 2 0),(6, .bp 3 0),(8,ze c)], [.box 23 (A7 g), .box 32 [nilV,nilV,ze 0,ze 0], .box 32 [.ow 4 (A0 g).toNat,nilV,ze 0,ze (-1)], .box 40 (CE (A5 g s)), .row 87 3 ((IY g s c).map Bi)])) (fun c=>c<=2) (fun c=>2 - c) 0 (Ag _)
    (WkN.r (s:= [0,1,2,3,4]) ⟨⟨rfl,rfl,rfl,rfl,rfl,trivial⟩,⟨rfl,rfl,rfl,rfl,rfl,trivial⟩,rfl,rfl,rfl,rfl,rfl⟩) ?_
   intro c hc
   conv=>whnf
   refine Al (fun h7=>?_) (fun h7=>?_) <;> (repeat rw [Aa] at h7) <;> conv=>whnf
   ·have hc01:(c:Int)=0\/(c:Int)=1:=by omega
    repeat' (first | (refine aSeq.go ?_;conv=>whnf) | fail)
    refine aLoop.ruleRR Nat (fun i=>([(2, .bp 0 0),(4, .bp 1 0),(5, .bp 2 0),(6, .bp 3 0),(8,ze c),(9,ze i)], [.box 23 (A7 g), .box 32 [nilV,nilV,ze 0,ze 0], .box 32 [.ow 4 (A0 g).toNat,nilV,ze 0,ze (-1)], .box 40 (CE (A5 g s)), .row 87 3 ((Cr (IY g s c) ((E7 g c).take i)).map Bi)])) (fun i=>i<=g.sl.toNat) (fun i=>g.sl.toNat - i) 0 (Ag _)
     (WkN.r (s:= [0,1,2,3,4]) ⟨⟨rfl,rfl,rfl,rfl,rfl,rfl,trivial⟩,⟨rfl,rfl,rfl,rfl,rfl,trivial⟩,rfl,rfl,rfl,rfl,rfl⟩) ?_
    intro i hi
    conv=>whnf
    refine Al (fun h8=>?_) (fun h8=>?_) <;> (repeat rw [Aa] at h8) <;> conv=>whnf
    ·have hlw:(E7 g c).length=g.sl.toNat:=by simp [E7]
     have hi':i<(E7 g c).length:=by omega
     have hsx:=Es (IY g s c) hi'
     rw [show (E7 g c).getD i ⟨0, []⟩=⟨AN g c (i:Nat),C6 g zeroC c (i:Nat)⟩ from Fp (by omega)] at hsx
     have hlx:(Cr (IY g s c) ((E7 g c).take i)).length=(A0 g).toNat:=by rw [CM,IX]
     generalize Cr (IY g s c) ((E7 g c).take i)=cs at hsx hlx |-
     have hokl:Gh g c i=true:=by simp only [Gh,Bool.and_eq_true,AI];omega
     have hla:=Dq g c i hg hokl
     have hin:=Gc (n:=(A0 g).toNat) hg hcN.symm hc01 (s:=i) (by omega)
     have hrc:=I3 g zeroC c i (Mf hg) hokl
     have hE:(cs.map Bi).getD (AN g c i).toNat []=Bi (cs.getD (AN g c i).toNat cz):=FM hlx (by omega)
     repeat' (first | (refine aSeq.go ?_;conv=>whnf) | fail)
     apply aDraw.treeK (0) tys_ok mixed (.one 0 (.one 1 (.one 2 (.one 3 (.one 4 (.one 6 (.one 7 (.one 8 (.one 9 (.one 5 (.one 10 (.one 11 (.one 12 (.one 13 .fin)))))))))))))) (by kernel_rfl)
     conv=>whnf
     refine Fn.cl hla ?_
     conv=>whnf
     (refine ACalls.sub [.ag (A7 g), .ag (EE zeroC),ze c,ze i] (by repeat' (first | exact trivial | exact fun _ _ h=>h | exact AP _ _ | refine And.intro ?_ ?_ | refine AG ?_)) ?_;refine Fn.cl hrc ?_)
     conv=>whnf
     try (refine And.intro (by first | omega | (simp;done)) ?_;conv=>whnf)
     try (refine And.intro ⟨rfl,by first | rfl | (simp;done) | (simp;omega),by first | omega | (simp;omega)⟩ ?_;conv=>whnf)
     (first | rw [hE] | skip)
     conv=>whnf
     all_goals exact⟨i+1,by omega,by omega,WkN.r (s:= [0,1,2,3,4]) ⟨⟨rfl,rfl,rfl,rfl,rfl,AA (by omega),trivial⟩,⟨rfl,rfl,rfl,rfl,congrArg (fun l=>some (AB.row _ _ l)) (by rw [hsx,Fa];rfl),trivial⟩,rfl,rfl,rfl,rfl,rfl⟩⟩
    ·have ei:i=(E7 g c).length:=by simp [E7];omega
     repeat' (first | (refine aSeq.go ?_;conv=>whnf) | fail)
     exact⟨c+1,by omega,by omega,WkN.r (s:= [0,1,2,3,4]) ⟨⟨rfl,rfl,rfl,rfl,AA (by omega),trivial⟩,⟨rfl,rfl,rfl,rfl,by rw [ei,List.take_length];rfl,trivial⟩,rfl,rfl,rfl,rfl,rfl⟩⟩
   ·have ec:c=2:=by omega
    subst ec
    have hT:=UW g hg
    have hz8:=Kl zero8
    have hB:=UU (DF g) (by rw [DF,Bm];omega) (fun e he=>by rw [List.eq_of_mem_replicate he];simp only [ent0];omega)
    repeat' (first | (refine aSeq.go ?_;conv=>whnf) | fail)
    refine Fn.cl hT ?_
    conv=>whnf
    refine Fn.cl hB ?_
    conv=>whnf
    repeat' (first | (refine aSeq.go ?_;conv=>whnf) | fail)
    refine aLoop.ruleRR Nat (fun z=>([(2, .bp 0 0),(4, .bp 1 0),(5, .bp 2 0),(10,bA (CT (DF g))),(11,ze z)], [.box 23 (A7 g), .box 32 [nilV,nilV,ze 0,ze 0], .box 32 [.ow 4 (A0 g).toNat,nilV,ze 0,ze (-1)], .box 40 (CE (A5 g s)), .row 87 3 ((E2 g s z).map Bi)])) (fun z=>z<=g.z.toNat) (fun z=>g.z.toNat - z) 0 (Ag _)
     (WkN.r (s:= [0,1,2,3,4]) ⟨⟨rfl,rfl,rfl,rfl,rfl,trivial⟩,⟨rfl,rfl,rfl,rfl,rfl,trivial⟩,rfl,rfl,rfl,rfl,rfl⟩) ?_
    intro z hz
    conv=>whnf
    refine Al (fun h9=>?_) (fun h9=>?_) <;> (repeat rw [Aa] at h9) <;> conv=>whnf
    ·have htb:∀ k:Nat,k<2->0<=CC g z k/\CC g z k<((A0 g).toNat:Int):=fun k hk=>by unfold CC;omega
     have hmul:(z:Int)*Cs g<=(g.z - 1)*Cs g:=Int.mul_le_mul_of_nonneg_right (by omega) (by omega)
     have hz0:0<=(z:Int)*Cs g:=CP (by omega) (by omega)
     have hsb:∀ k:Nat,(k:Int)<Cs g->0<=BI g z k/\BI g z k<((A0 g).toNat:Int):=fun k hk=>by
      rw [<-hcN];unfold BI A0;rw [Int.sub_mul,Int.one_mul] at hmul;omega
     repeat' (first | (refine aSeq.go ?_;conv=>whnf) | fail)
     refine aLoop.ruleRR Nat (fun k=>([(2, .bp 0 0),(4, .bp 1 0),(5, .bp 2 0),(10,bA (CT (DF g))),(11,ze z),(12,ze k)], [.box 23 (A7 g), .box 32 [nilV,nilV,ze 0,ze 0], .box 32 [.ow 4 (A0 g).toNat,nilV,ze 0,ze (-1)], .box 40 (CE (A5 g s)), .row 87 3 ((Cr (E2 g s z) ((Ew g z).take k)).map Bi)])) (fun k=>k<=2) (fun k=>2 - k) 0 (Ag _)
      (WkN.r (s:= [0,1,2,3,4]) ⟨⟨rfl,rfl,rfl,rfl,rfl,rfl,trivial⟩,⟨rfl,rfl,rfl,rfl,rfl,trivial⟩,rfl,rfl,rfl,rfl,rfl⟩) ?_
     intro k hk
     conv=>whnf
     refine Al (fun h10=>?_) (fun h10=>?_) <;> (repeat rw [Aa] at h10) <;> conv=>whnf
     ·have hlw:(Ew g z).length=2:=by simp [Ew]
      have hk':k<(Ew g z).length:=by omega
      have hsx:=Es (E2 g s z) hk'
      rw [show (Ew g z).getD k ⟨0, []⟩=⟨CC g z (k:Nat),CD (CC g z (k:Nat)) 0 (CT (DF g))⟩ from Fp (by omega)] at hsx
      have hlx:(Cr (E2 g s z) ((Ew g z).take k)).length=(A0 g).toNat:=by rw [CM,Ec]
      generalize Cr (E2 g s z) ((Ew g z).take k)=cs at hsx hlx |-
      have hgt:=R7 g z k hg (by omega) (by omega)
      have hin:=htb k (by omega)
      have hmk:=Hr (CC g z k) 0 (CT (DF g)) (Kx hg (by omega))
      have hE:(cs.map Bi).getD (CC g z k).toNat []=Bi (cs.getD (CC g z k).toNat cz):=FM hlx (by omega)
      repeat' (first | (refine aSeq.go ?_;conv=>whnf) | fail)
      refine Fn.cl hgt ?_
      conv=>whnf
      apply aDraw.treeK (0) tys_ok mixed (.one 0 (.one 1 (.one 2 (.one 3 (.one 4 (.one 5 (.one 6 (.one 7 (.one 8 .fin))))))))) (by kernel_rfl)
      conv=>whnf
      refine Fn.cl hmk ?_
      conv=>whnf
      try (refine And.intro (by first | omega | (simp;done)) ?_;conv=>whnf)
      try (refine And.intro ⟨rfl,by first | rfl | (simp;done) | (simp;omega),by first | omega | (simp;omega)⟩ ?_;conv=>whnf)
      (first | rw [hE] | skip)
      conv=>whnf
      all_goals exact⟨k+1,by omega,by omega,WkN.r (s:= [0,1,2,3,4]) ⟨⟨rfl,rfl,rfl,rfl,rfl,AA (by omega),trivial⟩,⟨rfl,rfl,rfl,rfl,congrArg (fun l=>some (AB.row _ _ l)) (by rw [hsx,Fa];rfl),trivial⟩,rfl,rfl,rfl,rfl,rfl⟩⟩
     ·have ek:k=(Ew g z).length:=by simp [Ew];omega
      rw [ek,List.take_length]
      have hpr:=MR g hg
      repeat' (first | (refine aSeq.go ?_;conv=>whnf) | fail)
      refine aLoop.ruleRR Nat (fun i=>([(2, .bp 0 0),(4, .bp 1 0),(5, .bp 2 0),(10,bA (CT (DF g))),(11,ze z),(14,ze i)], [.box 23 (A7 g), .box 32 [nilV,nilV,ze 0,ze 0], .box 32 [.ow 4 (A0 g).toNat,nilV,ze 0,ze (-1)], .box 40 (CE (A5 g s)), .row 87 3 ((Cr (Cr (E2 g s z) (Ew g z)) ((D_ g z).take i)).map Bi)])) (fun i=>i<=(Cs g).toNat) (fun i=>(Cs g).toNat - i) 0 (Ag _)
       (WkN.r (s:= [0,1,2,3,4]) ⟨⟨rfl,rfl,rfl,rfl,rfl,rfl,trivial⟩,⟨rfl,rfl,rfl,rfl,rfl,trivial⟩,rfl,rfl,rfl,rfl,rfl⟩) ?_
      intro i hi
      conv=>whnf
      refine Fn.cl hpr ?_
      conv=>whnf
      refine Al (fun h11=>?_) (fun h11=>?_) <;> (repeat rw [Aa] at h11) <;> conv=>whnf
      ·have hlw:(D_ g z).length=(Cs g).toNat:=by simp [D_]
       have hi':i<(D_ g z).length:=by omega
       have hsx:=Es (Cr (E2 g s z) (Ew g z)) hi'
       rw [show (D_ g z).getD i ⟨0, []⟩=⟨BI g z (i:Nat),CD (BI g z (i:Nat)) 0 zero8⟩ from Fp (by omega)] at hsx
       have hlx:(Cr (Cr (E2 g s z) (Ew g z)) ((D_ g z).take i)).length=(A0 g).toNat:=by rw [CM,CM,Ec]
       generalize Cr (Cr (E2 g s z) (Ew g z)) ((D_ g z).take i)=cs at hsx hlx |-
       have hgt:=Tj g z i hg (by omega) (by omega)
       have hin:=hsb i (by omega)
       have hmk:=Hr (BI g z i) 0 zero8 ⟨hin.1,by omega,Br _,by decide,by decide⟩
       have hE:(cs.map Bi).getD (BI g z i).toNat []=Bi (cs.getD (BI g z i).toNat cz):=FM hlx (by omega)
       repeat' (first | (refine aSeq.go ?_;conv=>whnf) | fail)
       refine Fn.cl hgt ?_
       conv=>whnf
       apply aDraw.treeK (0) tys_ok mixed (.one 0 (.one 1 (.one 2 (.one 3 (.one 4 (.one 5 (.one 6 (.one 7 (.one 8 .fin))))))))) (by kernel_rfl)
       conv=>whnf
       (try (refine And.intro ⟨rfl,by decide,by decide⟩ ?_;conv=>whnf);refine ACalls.shut hmk.go ?_;(conv=>whnf);refine And.intro rfl ?_;(conv=>whnf);refine ACalls.sub [ze (BI g z i),ze 0,bA zero8] ⟨ri,ri,fun c v h=>Rd.congr rfl (fun i hi=>by have hi':i<8:=hi;rw [FA (by exact hi'),Jg hi'];rfl) h,trivial⟩ ?_;refine Fn.cl hmk ?_)
       conv=>whnf
       try (refine And.intro (by first | omega | (simp;done)) ?_;conv=>whnf)
       try (refine And.intro ⟨rfl,by first | rfl | (simp;done) | (simp;omega),by first | omega | (simp;omega)⟩ ?_;conv=>whnf)
       (first | rw [hE] | skip)
       conv=>whnf
       all_goals exact⟨i+1,by omega,by omega,WkN.r (s:= [0,1,2,3,4]) ⟨⟨rfl,rfl,rfl,rfl,rfl,AA (by omega),trivial⟩,⟨rfl,rfl,rfl,rfl,congrArg (fun l=>some (AB.row _ _ l)) (by rw [hsx,Fa];rfl),trivial⟩,rfl,rfl,rfl,rfl,rfl⟩⟩
      ·have ei:i=(D_ g z).length:=by simp [D_];omega
       repeat' (first | (refine aSeq.go ?_;conv=>whnf) | fail)
       exact⟨z+1,by omega,by omega,WkN.r (s:= [0,1,2,3,4]) ⟨⟨rfl,rfl,rfl,rfl,AA (by omega),trivial⟩,⟨rfl,rfl,rfl,rfl,by rw [ei,List.take_length];rfl,trivial⟩,rfl,rfl,rfl,rfl,rfl⟩⟩
    ·have ez:z=g.z.toNat:=by omega
     subst ez
     exact⟨_, .ag [.ow 0 (A0 g).toNat,nilV,ze 0,ze (-1)], [.row 87 3 ((E2 g s g.z.toNat).map Bi)],fun _ _ h=>h,WkN.r (s:= [4]) ⟨⟨rfl,trivial⟩,⟨rfl,trivial⟩,rfl,rfl,rfl,rfl,rfl⟩,rfl,rfl⟩
theorem PG (g:Geo) (s:ByteArray) (hg:AS g=true) (hs:C5 s.data.toList=0):Fn Tryz.prog 26 [.ag (A7 g), .v (.string s)] fun r=>r = .ag (DG (FG g s)):=by
 refine ACalls.fn (Oh g s hg hs) ?_
 rintro _ _ ⟨rfl,rfl⟩
 refine⟨_,ConvH.refl _,?_⟩
 conv=>whnf
 refine And.intro (by rw [Ab];exact(Ec g s _).symm) ?_
 exact⟨.ag (DG (FG g s)),AG ⟨AJ (f:=Bi) (E2 g s g.z.toNat) (by rw [Ec]) rfl,AP 2 _,ri,ri,trivial⟩,rfl⟩

theorem NA (g:Geo) (d:Dk) (a:An) (h1:d.cells.length<=1000000) (h2:d.cache.length<=1000000) (hl:a.label.size<=1000000) (hh:a.homes.length<=1000000) (hbad:((AS g&&AY g a)&&(FZ d&&decide ((d.cells.length:Int)=A0 g)))=false):Fn Tryz.prog 25 [.ag (A7 g), .ag (DG d), .ag (CE a)] fun r=>r = .tp [.ag (DG dk0), .v (.int .i64 0), .v (.int .i64 1)]:=by
 have hA:=Fs g a hl hh
 cases hg:AS g&&AY g a with
 | false=>
  rw [hg] at hA
  refine Fn.st Tryz.func25 rfl ?_
  conv=>whnf
  refine Fn.cl hA ?_
  exact⟨.tp [.ag (DG dk0), .v (.int .i64 0), .v (.int .i64 1)],Bu ⟨AG dk0_sub,ri,ri,trivial⟩,rfl⟩
 | true=>
  rw [hg] at hA
  rw [hg,At] at hbad
  have hs:=GE g d (Di.1 hg).1 h1 h2
  rw [hbad] at hs
  refine Fn.st Tryz.func25 rfl ?_
  conv=>whnf
  refine Fn.cl hA ?_
  conv=>whnf
  refine Fn.cl hs ?_
  exact⟨.tp [.ag (DG dk0), .v (.int .i64 0), .v (.int .i64 1)],Bu ⟨AG dk0_sub,ri,ri,trivial⟩,rfl⟩
theorem Pp (g:Geo) (d:Dk) (a:An) (hg:AS g=true) (ha:AY g a=true) (h:DkOk d) (hn:(d.cells.length:Int)=A0 g):Fn Tryz.prog 25 [.ag (A7 g), .ag (DG d), .ag (CE a)] fun r=>r = .tp [.ag (DG (d.putAll (Au g a)).1), .v (.int .i64 (if (d.putAll (Au g a)).2.2 then 0 else ((d.putAll (Au g a)).2.1:Nat))), .v (.int .i64 (if (d.putAll (Au g a)).2.2 then 8 else 0))]:=by
 have hA:=Fs g a (by have:=(Db hg ha 0 (Ag _)).2.2.2.1;omega) (by have:=(Db hg ha 0 (Ag _)).2.1;omega)
 rw [hg,ha] at hA
 have hN:=h.n
 have hM:=h.m
 have hs:=GE g d hg (by omega) (by omega)
 rw [FY.2 h,decide_eq_true hn,At] at hs
 have ho:=Rb d (by omega) (by omega)
 have hm:=Ka g st0 d a hg ha h (EN hg ha hn)
 have hmo:=Fq h (EN hg ha hn)
 refine Fn.st Tryz.func25 rfl ?_
 conv=>whnf
 refine Fn.cl hA ?_
 conv=>whnf
 refine Fn.cl hs ?_
 conv=>whnf
 apply aDraw.treeK (0) tys_ok mixed (.one 0 (.one 1 (.one 2 (.one 3 (.one 4 (.one 5 .fin)))))) (by kernel_rfl)
 conv=>whnf
 (refine ACalls.beside ho rfl ?_;rintro _ _ ⟨rfl,rfl⟩)
 conv=>whnf
 refine ACalls.pre (ConvH.subBox (cs':=WY g (.bp 4 0) st0) 7 rfl ⟨ri,ri,ri,ri,ri,ri,ri,ri,ri,ri,ri,ri,AP 3 _,AP 4 _,ri,ri,ri,ri,ri,AP 1 _,trivial⟩) ?_
 refine ACalls.frame [7,4,5,6] hm rfl rfl rfl rfl (by decide) (XT rfl) ⟨rfl,rfl,rfl,rfl,trivial⟩ ?_
 rintro _ _ ⟨rfl,rfl⟩
 generalize d.putAll (Au g a)=M at hmo |-
 obtain⟨D,n,dead⟩:=M
 simp only at hmo
 have hdk:=Pm g st0 D hmo.1
 cases dead with
 | true=>
  conv=>whnf
  refine ACalls.frame [7,4,5,6,8] hdk rfl rfl rfl rfl (by decide) (X8 rfl) ⟨rfl,rfl,rfl,rfl,rfl,trivial⟩ ?_
  rintro _ _ ⟨rfl,rfl⟩
  exact⟨_,ri,rfl⟩
 | false=>
  conv=>whnf
  refine ACalls.frame [7,4,5,6,8] hdk rfl rfl rfl rfl (by decide) (X8 rfl) ⟨rfl,rfl,rfl,rfl,rfl,trivial⟩ ?_
  rintro _ _ ⟨rfl,rfl⟩
  exact⟨_,ri,rfl⟩
theorem KW {g:Geo} {a:An} {fill:UInt8} (hg:AS g=true) (hsq:a.seq<=1000000):∀ (sizes:List Int) (i:Nat) (pos used:Int),0<=used/\used<=g.sl->i+sizes.length<=1000->Ef g (A8 g a fill sizes i pos used) (a.seq+i) pos (g.sl - used)=true
 | [],_,_,_,_,_=>rfl
 | s::r,i,pos,used,hu,hi=>by
  have hn:=Hu s
  simp only [Ai] at hi
  unfold A8
  by_cases hc:g.sl<used+(BJ s:Nat)+1
  ·rw [if_pos hc];rfl
  ·rw [if_neg hc]
   have ih:=KW (fill:=fill) hg hsq r (i+1) ((pos+(BJ s:Nat)+1).tmod g.sl) (used+(BJ s:Nat)+1) (by omega) (by omega)
   have e1:(Cn g a fill i pos (BJ s)).seq=a.seq+i:=rfl
   have e2:(Cn g a fill i pos (BJ s)).pos=pos:=rfl
   have e3:(Cn g a fill i pos (BJ s)).n=(BJ s:Nat)+1:=rfl
   have e4:(Cn g a fill i pos (BJ s)).images=(List.range (BJ s)).map fun k=>Nr g fill i k:=rfl
   unfold Ef
   rw [e1,e2,e3,e4,decide_eq_true rfl,decide_eq_true (by omega),decide_eq_true rfl,decide_eq_true (by omega),decide_eq_true (by omega),decide_eq_true (by simp)]
   rw [show a.seq+(i:Int)+1=a.seq+((i+1:Nat):Int) by omega,show pos+(((BJ s:Nat):Int)+1)=pos+(BJ s:Nat)+1 by omega,show g.sl - used - (((BJ s:Nat):Int)+1)=g.sl - (used+(BJ s:Nat)+1) by omega,ih]
   simp only [At,B7,List.all_map,A4]
   intro k _
   exact Mr hg fill i k
section
variable {g:Geo} {s:ByteArray} {b:An} {fill:UInt8} {sizes:List Int} {D:Dk}
theorem Us (hg:AS g=true) (hl:sizes.length<=40) (hD:DkOk D) (hn:(D.cells.length:Int)=A0 g) (hb:AY g b=true) (hbs:b.seq=1) (hbp:b.pos=0):LA g D (GD b (A8 g (A5 g s) fill sizes 0 (A5 g s).pos 0))=true:=by
 obtain⟨g1,g2,g3,g4,g5⟩:=Am.1 hg
 have hu:=Iv hg
 have hr:=KW (a:=A5 g s) (fill:=fill) hg (by show (1:Int)<=1000000;decide) sizes 0 (A5 g s).pos 0 ⟨Br _,by omega⟩ (by omega)
 have e1:(A5 g s).seq+((0:Nat):Int)=b.seq:=by rw [hbs];rfl
 have e2:(A5 g s).pos=b.pos:=by rw [hbp];rfl
 unfold LA
 rw [hg,FY.2 hD,decide_eq_true hn]
 show (true&&((true&&true)&&(((true&&AY g b)&&Ef g (A8 g (A5 g s) fill sizes 0 (A5 g s).pos 0) b.seq b.pos g.sl)&&(decide ((0:Int)<=0)&&(decide ((0:Int)<CU g)&&CL g (GD b _))))))=true
 rw [e1,e2,Int.sub_zero] at hr
 rw [e2,hb,hr,decide_eq_true (show (0:Int)<CU g by omega)]
 rfl
end
theorem StSm.big {S:Stt} (h:StSm S):StBig S:=
 ⟨by have:=h.l;omega,by have:=h.h.1;omega,⟨by have:=h.t.1;omega,fun t ht=>⟨by have:=(h.t.2 t ht).1;omega,fun x hx=>by have:=(h.t.2 t ht).2 x hx;omega⟩⟩,by have:=h.o;omega⟩
def lx:ByteArray:=⟨#[120]⟩
theorem lab_x:C5 lx.data.toList=0:=by decide +kernel
theorem OH (g:Geo) (s:ByteArray):OI g s []=FG g s:=by
 unfold OI
 rw [show WN g [] ([]:List Tx).length=[] from rfl,show Cr (FG g s).cells []=(FG g s).cells from rfl]
theorem IE (g:Geo) (a:An) (fill:UInt8) (p:Int):A8 g a fill [] 0 p 0=[]:=rfl
theorem wakes22_fn:Fn Tryz.prog 17 [] fun r=>r = .v (.bool true):=by
 have h1:=UY 0 0 0 0 1
 have hg:=SZ 0 0 0 0 1
 have hc:A0 (K1 0 0 0 0 1)=34:=by decide
 have ht:KR (K1 0 0 0 0 1) []=33:=by decide
 generalize K1 0 0 0 0 1=g at h1 hg hc ht
 have hs:C5 lx.data.toList=0:=lab_x
 have h2:=M5 g lx hg hs (by show (1:Nat)<=_;decide)
 have hf:=Rk (s:=lx) (fill:=0) (sizes:= []) hg hs
 have hdk:=QQ (s:=lx) (fill:=0) (sizes:= []) hg hs
 rw [IE,OH] at hf hdk
 have hvm:=Rj (s:=lx) (fill:=0) (sizes:= []) (b:=A5 g lx) (d:=FG g lx) hg hs (by simp) hdk (Et hg hs) (by rw [IE];exact hf) (by show (-1:Int)<0;decide) rfl rfl (Br _) (by show (0:Int)<=((A8 g (A5 g lx) 0 [] 0 (A5 g lx).pos 0).length:Nat);omega) (.inl rfl) (by show (1:Int)≠_;decide) (by show (0:Int)≠_;decide)
 rw [IE,AK] at hvm
 obtain⟨D,m1,m2,m3,m4⟩:=hvm
 have hD:=Js hg hdk hf.len
 have hsm:=Jr (g:=g) (d:=FG g lx) hg
 have h3:=Mj g _ hg hdk hf.len
 rw [m1] at hD hsm h3
 simp only at hD hsm h3
 have hna:=IB (n:=0) (Et (g:=g) (s:=lx) hg hs) (by show (1:Int)≠_;decide) (by show (0:Int)≠_;decide) (by show (1:Int)+0 - 1<=_;decide)
 have hok:=Us (s:=lx) (fill:=0) (sizes:= []) hg (by simp) hD.1 (by rw [hD.2];exact hf.len) hna rfl rfl
 rw [IE] at hok
 have hN:=hD.1.n
 have hM:=hD.1.m
 have h4:=ME g D _ (by omega) (by omega) hsm.big
 have e4:LA g D (GD (CK (A5 g lx) 0) [])=true:=hok
 rw [e4] at h4
 have hr:D.reqs=33:=by
  rw [m4,ht]
  show min ((0:Int)+(33:Nat)) 1048576=33
  decide
 have hcl:(FG g lx).cells.length=34:=by have:=hf.len;omega
 obtain⟨S,hS⟩:∃ S,S=GD (CK (A5 g lx) 0) []:=⟨_,rfl⟩
 have q1:S.a.gen=2:=by rw [hS];rfl
 have q2:S.a.epoch=1:=by rw [hS];rfl
 have q3:S.a.last=0:=by rw [hS];rfl
 have q4:S.txns.length=0:=by rw [hS];rfl
 rw [<-hS] at h3 h4
 generalize FG g lx=d at h2 h3 hcl
 refine Fn.st Tryz.func17 rfl ?_
 conv=>whnf
 refine Fn.cl h1 ?_
 conv=>whnf
 refine Fn.cl h2 ?_
 conv=>whnf
 refine Fn.cl h3 ?_
 conv=>whnf
 rw [show ((d.cells.length:Int) == 34)=true by rw [hcl];rfl]
 conv=>whnf
 rw [show (S.a.gen == 2)=true by rw [q1];rfl]
 conv=>whnf
 rw [show (S.a.epoch == 1)=true by rw [q2];rfl]
 conv=>whnf
 rw [show (S.a.last == 0)=true by rw [q3];rfl]
 conv=>whnf
 rw [show ((S.txns.length:Int) == 0)=true by rw [q4];rfl]
 conv=>whnf
 rw [show (D.reqs == 33)=true by rw [hr];rfl]
 conv=>whnf
 refine Fn.cl h4 ?_
 exact⟨_,ri,rfl⟩

def Jc (d:Dk) (a:Int) (c:Cel):Dk:={ d with cells:=d.cells.set a.toNat c }
def Dk.fault (d:Dk) (kind a frm bit bits:Int):Dk × Int:=
 if BP a 0 ((d.cells.length:Int) - 1)=false then (d,1) else if 0<d.cache.length then (d,9) else
 let c:=d.cells.getD a.toNat cz
 if kind=11 then (Jc d a { c with state:=if c.state=0 then 1 else c.state },0)
 else if kind=12 then (Jc d a { c with state:=2 },0)
 else if kind=13 then (if bit<0\/bits<0 then (d,1) else (Jc d a { c with bytes:=Wi c.bytes bit bits },0))
 else if kind=14 then (Jc d a { c with bytes:=c.old },0)
 else if kind=15 then (if BP frm 0 ((d.cells.length:Int) - 1)=false then (d,1) else (Jc d a { c with bytes:=(d.cells.getD frm.toNat cz).bytes },0))
 else (d,1)
structure Q4 where
 a:Int
 b:Int
 c:Int
 d:Int
theorem VS {d:Dk} {a:Int} {c:Cel} (h:DkOk d) (hc:(0<=c.state/\c.state<=2)/\c.bytes.length<=200/\c.old.length<=200):DkOk (Jc d a c):=by
 refine⟨by simpa [Jc] using h.n,h.m,h.r,h.l,fun x hx=>?_,fun w hw=>by simpa [Jc] using h.w w hw⟩
 rcases Cp hx with hx | rfl
 ·exact h.c x hx
 ·exact hc
theorem QZ {d:Dk} (h:DkOk d) (i:Nat):(0<=(d.cells.getD i cz).state/\(d.cells.getD i cz).state<=2)/\(d.cells.getD i cz).bytes.length<=200/\(d.cells.getD i cz).old.length<=200:=by
 by_cases hi:i<d.cells.length
 ·exact h.c _ (AE (d:=cz) hi)
 ·rw [List.getD_eq_getElem?_getD,List.getElem?_eq_none (by omega)]
  exact⟨⟨Br _,show (0:Int)<=2 by decide⟩,by simp [cz],by simp [cz]⟩
theorem DkOk.fault {d:Dk} (h:DkOk d) (kind a frm bit bits:Int):DkOk (d.fault kind a frm bit bits).1/\(d.fault kind a frm bit bits).1.cells.length=d.cells.length/\(d.fault kind a frm bit bits).1.cache=d.cache/\(d.fault kind a frm bit bits).1.left=d.left/\(d.fault kind a frm bit bits).1.reqs=d.reqs:=by
 have hc:=QZ h a.toNat
 have hf:=QZ h frm.toNat
 have go:∀ c:Cel,((0<=c.state/\c.state<=2)/\c.bytes.length<=200/\c.old.length<=200)->DkOk (Jc d a c)/\(Jc d a c).cells.length=d.cells.length/\(Jc d a c).cache=d.cache/\(Jc d a c).left=d.left/\(Jc d a c).reqs=d.reqs:=fun c h1=>⟨VS h h1,by simp [Jc],rfl,rfl,rfl⟩
 have st:DkOk d/\d.cells.length=d.cells.length/\d.cache=d.cache/\d.left=d.left/\d.reqs=d.reqs:=⟨h,rfl,rfl,rfl,rfl⟩
 unfold Dk.fault
 split
 ·exact st
 ·split
  ·exact st
  ·simp only
   split
   ·refine go _ ⟨?_,hc.2⟩
    simp only
    split
    ·exact⟨by decide,by decide⟩
    ·exact hc.1
   ·split
    ·exact go _ ⟨⟨show (0:Int)<=2 by decide,Br 2⟩,hc.2⟩
    ·split
     ·split
      ·exact st
      ·exact go _ ⟨hc.1,by simp only [N0];exact hc.2.1,hc.2.2⟩
     ·split
      ·exact go _ ⟨hc.1,hc.2.2,hc.2.2⟩
      ·split
       ·split
        ·exact st
        ·exact go _ ⟨hc.1,hf.2.1,hc.2.2⟩
       ·exact st
@[reducible] def X0 (g:Geo) (x:AV) (s:Stt) (e:Int):List AV:= [.v (.int .i64 g.z), .v (.int .i64 g.d), .v (.int .i64 g.sp), .v (.int .i64 g.sl), .v (.int .i64 g.an),x, .v (.int .i64 s.a.gen), .v (.int .i64 s.a.epoch), .v (.int .i64 s.a.pos), .v (.int .i64 s.a.seq), .v (.int .i64 s.a.last), .v (.string s.a.label),H4 s.a.homes,DS s.txns, .v (.bool s.only), .v (.int .i64 s.cursor), .v (.int .i64 s.found), .v (.int .i64 s.fixed), .v (.int .i64 s.moved),iA s.lost, .v (.int .i64 e)]
@[reducible] def Je (g:Geo) (s:Stt) (e:Int) (d:Dk):List AB:= [.box 71 (X0 g (.bp 1 0) s e), .box 73 (Lx (.ow 2 d.cells.length) (.ow 3 d.cache.length) d.reqs d.left), .row 87 3 (d.cells.map Bi), .row 130 2 (d.cache.map DA)]
@[reducible] def MN (g:Geo) (s:Stt) (e:Int) (d:Dk):List AB:= [.box 71 (X0 g (.bp 1 0) s e), .box 73 (Lx (.ow 2 d.cells.length) (.ow 4 d.cache.length) d.reqs d.left), .row 87 3 (d.cells.map Bi), .dead, .row 130 2 (d.cache.map DA)]
@[reducible] def Xz (g:Geo) (s:Stt) (e:Int) (d:Dk) (l:List AB):List AB:= .box 71 (X0 g (.bp 1 0) s e):: .box 73 (Lx (.ow 2 d.cells.length) (.ow 3 d.cache.length) d.reqs d.left):: .row 87 3 (d.cells.map Bi):: .row 130 2 (d.cache.map DA)::l
theorem W2 (g:Geo) (s:Stt) (e:Int) (d:Dk):ConvH (Je g s e d) (MN g s e d):=ConvH.move (H:=Je g s e d) 1 3 (by decide) rfl rfl
theorem VL (e:Int):∀ (c:Ctx) (v:Value),Rd (.ag [.v (.int .i64 e), .v (.slice none 0 0)]) c v->Rd (.ag (BB ⟨e, []⟩)) c v:=AG ⟨ri,AP 1 _,trivial⟩
theorem W5 (g:Geo) (s:Stt) (e:Int) (d:Dk) (a:Int) (he:e≠0) :
  ACalls Tryz.prog false 119 [.bp 0 0, .v (.int .i64 a)] (Je g s e d) fun r H=>r = .ag (BB ⟨8, []⟩)/\H=Je g s e d:=by
 have hb:(e != 0)=true:=bne_iff_ne.2 he
 refine ACalls.ofR tys_ok Tryz.func119 rfl rfl (Ad rfl) ?_
 conv=>whnf
 rw [hb]
 exact⟨_, .ag (BB ⟨8, []⟩),Je g s e d,VL 8,WkN.r (s:= [0,1,2,3]) ⟨⟨rfl,trivial⟩,⟨rfl,rfl,rfl,rfl,trivial⟩,rfl,rfl,rfl,rfl,rfl⟩,rfl,rfl⟩
theorem W4 (g:Geo) (s:Stt) (d:Dk) (a:Int) (h:DkOk d) (ha:0<=a/\a<d.cells.length) :
  ACalls Tryz.prog false 119 [.bp 0 0, .v (.int .i64 a)] (Je g s 0 d) fun r H=>r = .ag (BB ⟨(d.read a).2.2,(d.read a).2.1⟩)/\H=Je g s (if d.left=0 then 8 else 0) (d.read a).1:=by
 have hr:=Tm d a h.l ha h.m (fun c hc=>by have:=(h.c c hc).2.1;omega) (fun w hw=>by have:=(h.w w hw).2;omega)
 have he:(d.left=0/\(d.read a).2.2=8)\/(¬d.left=0/\(d.read a).2.2≠8):=by
  unfold Dk.read
  by_cases h0:d.left=0
  ·rw [if_pos h0];exact .inl ⟨h0,rfl⟩
  ·rw [if_neg h0];exact .inr ⟨h0,show (d.got a).2≠8 by have:=Kr d a;omega⟩
 generalize d.read a=q at hr he |-
 obtain⟨D,b,e⟩:=q
 simp only at hr he |-
 refine ACalls.ofR tys_ok Tryz.func119 rfl rfl (Ad rfl) ?_
 conv=>whnf
 refine ACalls.frame [1,2,3] hr rfl rfl rfl rfl (by decide) (KU rfl) ⟨rfl,rfl,rfl,trivial⟩ ?_
 rintro _ _ ⟨rfl,rfl⟩
 rcases he with ⟨h0,rfl⟩ | ⟨h0,he⟩
 ·rw [if_pos h0]
  conv=>whnf
  repeat' (first | (refine aSeq.go ?_;conv=>whnf) | fail)
  exact⟨_, .ag (BB ⟨8,b⟩),Je g s 8 D,fun _ _ h=>h,WkN.r (s:= [0,1,2,3]) ⟨⟨rfl,trivial⟩,⟨rfl,rfl,rfl,rfl,trivial⟩,rfl,rfl,rfl,rfl,rfl⟩,rfl,rfl⟩
 ·rw [if_neg h0]
  conv=>whnf
  repeat' (first | (refine aSeq.go ?_;conv=>whnf) | fail)
  refine Af (fun h8=>absurd (by simpa using h8) he) (fun _=>?_)
  conv=>whnf
  repeat' (first | (refine aSeq.go ?_;conv=>whnf) | fail)
  exact⟨_, .ag (BB ⟨e,b⟩),Je g s 0 D,fun _ _ h=>h,WkN.r (s:= [0,1,2,3]) ⟨⟨rfl,trivial⟩,⟨rfl,rfl,rfl,rfl,trivial⟩,rfl,rfl,rfl,rfl,rfl⟩,rfl,rfl⟩
theorem Tf (g:Geo) (s:Stt) (e:Int) (d:Dk) (a:Int) (b:List UInt8) (he:e≠0) :
  ACalls Tryz.prog false 94 [.bp 0 0, .v (.int .i64 a),bA b] (Je g s e d) fun r H=>r = .v (.bool false)/\H=Je g s e d:=by
 have hb:(e != 0)=true:=bne_iff_ne.2 he
 refine ACalls.ofR tys_ok Tryz.func94 rfl rfl (Ad rfl) ?_
 conv=>whnf
 rw [hb]
 exact⟨_, .v (.bool false),Je g s e d,fun _ _ h=>h,WkN.r (s:= [0,1,2,3]) ⟨⟨rfl,trivial⟩,⟨rfl,rfl,rfl,rfl,trivial⟩,rfl,rfl,rfl,rfl,rfl⟩,rfl,rfl⟩
theorem Te (g:Geo) (s:Stt) (d:Dk) (a:Int) (b:List UInt8) (h:DkOk d) (ha:0<=a/\a<d.cells.length) (hb:b.length<=200) :
  ACalls Tryz.prog false 94 [.bp 0 0, .v (.int .i64 a),bA b] (Je g s 0 d) fun r H=>r = .v (.bool (decide ((d.write a b).2=0)))/\H=Je g s (if (d.write a b).2=8 then 8 else 0) (d.write a b).1:=by
 have hr:=R0 d a b h.l ha h.m (by omega)
 have he:=Hg d a b
 generalize d.write a b=q at hr he |-
 obtain⟨D,e⟩:=q
 simp only at hr he |-
 refine ACalls.ofR tys_ok Tryz.func94 rfl rfl (Ad rfl) ?_
 conv=>whnf
 refine ACalls.frame [1,2,3] hr rfl rfl rfl rfl (by decide) (KU rfl) ⟨rfl,rfl,rfl,trivial⟩ ?_
 rintro _ _ ⟨rfl,rfl⟩
 rcases he with rfl | rfl | rfl
 all_goals
  conv=>whnf
  repeat' (first | (refine aSeq.go ?_;conv=>whnf) | fail)
 ·exact⟨_, .v (.bool false),Je g s 8 D,fun _ _ h=>h,WkN.r (s:= [0,1,2,3]) ⟨⟨rfl,trivial⟩,⟨rfl,rfl,rfl,rfl,trivial⟩,rfl,rfl,rfl,rfl,rfl⟩,rfl,rfl⟩
 ·exact⟨_, .v (.bool false),Je g s 0 D,fun _ _ h=>h,WkN.r (s:= [0,1,2,3]) ⟨⟨rfl,trivial⟩,⟨rfl,rfl,rfl,rfl,trivial⟩,rfl,rfl,rfl,rfl,rfl⟩,rfl,rfl⟩
 ·exact⟨_, .v (.bool true),Je g s 0 D,fun _ _ h=>h,WkN.r (s:= [0,1,2,3]) ⟨⟨rfl,trivial⟩,⟨rfl,rfl,rfl,rfl,trivial⟩,rfl,rfl,rfl,rfl,rfl⟩,rfl,rfl⟩
theorem T0 (g:Geo) (s:Stt) (e:Int) (d:Dk) (h:DkOk d) :
  ACalls Tryz.prog false 95 [.bp 0 0] (Je g s e d) fun r H=>r = .tp []/\H=MN g s (if e=0 then if d.left=0 then 8 else 0 else e) (if e=0 then if d.left=0 then d else d.flush else d):=by
 have hf:=RI d h.l h.m (fun w hw=>(h.w w hw).1) (fun w hw=>by have:=(h.w w hw).2;omega)
 by_cases he:e=0
 ·subst he
  rw [if_pos rfl,if_pos rfl]
  refine ACalls.ofR tys_ok Tryz.func95 rfl rfl (Ad rfl) ?_
  conv=>whnf
  refine ACalls.frame [1,2,3] hf rfl rfl rfl rfl (by decide) (KU rfl) ⟨rfl,rfl,rfl,trivial⟩ ?_
  rintro _ _ ⟨rfl,rfl⟩
  by_cases h0:d.left=0
  all_goals
   simp only [h0,if_true,if_false]
   exact⟨_, .tp [],MN g s _ _,fun _ _ h=>h,WkN.r (s:= [0,1,2,3,4]) ⟨⟨rfl,trivial⟩,⟨rfl,rfl,rfl,trivial,rfl,trivial⟩,rfl,rfl,rfl,rfl,rfl⟩,rfl,rfl⟩
 ·rw [if_neg he,if_neg he]
  have hb:(e == 0)=false:=beq_eq_false_iff_ne.2 he
  refine ACalls.ofR tys_ok Tryz.func95 rfl rfl (Ad rfl) ?_
  conv=>whnf
  rw [hb]
  exact⟨_, .tp [],MN g s e d,fun _ _ h=>h,WkN.rc (ConvF.ofH (W2 g s e d)) (s:= [0,1,2,3,4]) ⟨⟨rfl,trivial⟩,⟨rfl,rfl,rfl,trivial,rfl,trivial⟩,rfl,rfl,rfl,rfl,rfl⟩,rfl,rfl⟩
theorem JD {d:Dk} {l:List Wr} {k:Nat} (hk:k<l.length) (h:(d.writes (l.take k)).2.2=true):d.writes (l.take (k+1))=d.writes (l.take k):=by
 rw [FJ d hk,JF _ h]
def Sy (b:Bool):Int:=if b then 8 else 0
theorem JN (g:Geo) (s:Stt) (d:Dk) (a:An) (hg:AS g=true) (ha:AY g a=true) (h:DkOk d) (hl:∀ w∈Au g a,NE d.cells.length w) :
  ACalls Tryz.prog false 31 [.bp 0 0, .ag (CE a)] (Je g s 0 d) fun r H=>r = .v (.int .i64 ((d.writes (Au g a)).2.1:Nat))/\H=MN g s (Sy (d.putAll (Au g a)).2.2) (d.putAll (Au g a)).1:=by
 obtain⟨g1,g2,g3,g4,g5⟩:=Am.1 hg
 have hlen:=Dw g a
 refine ACalls.ofR tys_ok Tryz.func31 rfl rfl (Ad rfl) ?_
 conv=>whnf
 refine aLoop.ruleRR Nat (fun k=>([(0, .bp 0 0),(3, .bp 4 0),(5, .v (.int .i64 (d.writes ((Au g a).take k)).2.1)),(6, .v (.int .i64 k))],Xz g s (Sy (d.writes ((Au g a).take k)).2.2) (d.writes ((Au g a).take k)).1 [.box 40 (CE a)])) (fun k=>k<=(Au g a).length/\(d.writes ((Au g a).take k)).2.1<=k) (fun k=>(Au g a).length - k) 0 ⟨Ag _,Nat.le_refl _⟩
  (WkN.r (s:= [0,1,2,3,4]) ⟨⟨rfl,rfl,rfl,rfl,trivial⟩,⟨rfl,rfl,rfl,rfl,rfl,trivial⟩,rfl,rfl,rfl,rfl,rfl⟩) ?_
 rintro k ⟨hk,hnk⟩
 have hd:=Fm h hl k
 conv=>whnf
 refine Al (fun h6=>?_) (fun h6=>?_) <;> (repeat rw [Aa] at h6) <;> conv=>whnf
 ·have hk':k<(Au g a).length:=by omega
  have hm:=hl _ (AE (d:=(⟨0, []⟩:Wr)) hk')
  have hrc:=KJ g a k hg ha (by omega)
  have hlive:=fun hlv=>Kh (d:=d) hk' hlv
  have hstay:=fun hlv=>JD (d:=d) hk' hlv
  rw [FQ (by omega)] at hlive hm
  generalize hX:d.writes ((Au g a).take k)=Q at hd hlive hstay hnk |-
  obtain⟨X,N,dead⟩:=Q
  simp only at hd hlive hstay hnk
  repeat' (first | (refine aSeq.go ?_;conv=>whnf) | fail)
  refine Fn.cl hrc ?_
  conv=>whnf
  cases dead with
  | true=>
   have hx:=hstay rfl
   have hc:=Tf g s 8 X k (Cw a k) (by decide)
   refine ACalls.frame [0,1,2,3] hc rfl rfl rfl rfl (by decide) (Ce rfl) ⟨rfl,rfl,rfl,rfl,trivial⟩ ?_
   rintro _ _ ⟨rfl,rfl⟩
   conv=>whnf
   repeat' (first | (refine aSeq.go ?_;conv=>whnf) | fail)
   refine⟨k+1,⟨hk',by rw [hx];simp only;omega⟩,by omega,?_⟩
   rw [hx]
   exact WkN.r (s:= [0,1,2,3,4]) ⟨⟨rfl,rfl,rfl,AA (by omega),trivial⟩,⟨rfl,rfl,rfl,rfl,rfl,trivial⟩,rfl,rfl,rfl,rfl,rfl⟩
  | false=>
   have hx:=hlive rfl
   have hc:=Te g s X k (Cw a k) hd.1 (by rw [hd.2];exact hm.1) hm.2
   have hE:=Hg X k (Cw a k)
   generalize hQ:X.write k (Cw a k)=Q at hc hx hE
   obtain⟨D,e⟩:=Q
   simp only at hx hE hc
   refine ACalls.frame [0,1,2,3] hc rfl rfl rfl rfl (by decide) (Ce rfl) ⟨rfl,rfl,rfl,rfl,trivial⟩ ?_
   rintro _ _ ⟨rfl,rfl⟩
   rcases hE with rfl | rfl | rfl
   ·have hx:d.writes ((Au g a).take (k+1))=(D,N,true):=hx
    conv=>whnf
    repeat' (first | (refine aSeq.go ?_;conv=>whnf) | fail)
    refine⟨k+1,⟨hk',by rw [hx];simp only;omega⟩,by omega,?_⟩
    rw [hx]
    exact WkN.r (s:= [0,1,2,3,4]) ⟨⟨rfl,rfl,rfl,AA (by omega),trivial⟩,⟨rfl,rfl,rfl,rfl,rfl,trivial⟩,rfl,rfl,rfl,rfl,rfl⟩
   ·have hx:d.writes ((Au g a).take (k+1))=(D,N,false):=hx
    conv=>whnf
    repeat' (first | (refine aSeq.go ?_;conv=>whnf) | fail)
    refine⟨k+1,⟨hk',by rw [hx];simp only;omega⟩,by omega,?_⟩
    rw [hx]
    exact WkN.r (s:= [0,1,2,3,4]) ⟨⟨rfl,rfl,rfl,AA (by omega),trivial⟩,⟨rfl,rfl,rfl,rfl,rfl,trivial⟩,rfl,rfl,rfl,rfl,rfl⟩
   ·have hx:d.writes ((Au g a).take (k+1))=(D,N+1,false):=hx
    conv=>whnf
    repeat' (first | (refine aSeq.go ?_;conv=>whnf) | fail)
    refine⟨k+1,⟨hk',by rw [hx];simp only;omega⟩,by omega,?_⟩
    rw [hx]
    exact WkN.r (s:= [0,1,2,3,4]) ⟨⟨rfl,rfl,(show _=AV.v (Value.int IntKind.i64 ((N+1:Nat):Int)) from AA (show N<1000000000000 by omega)),AA (by omega),trivial⟩,⟨rfl,rfl,rfl,rfl,rfl,trivial⟩,rfl,rfl,rfl,rfl,rfl⟩
 ·have ek:k=(Au g a).length:=by omega
  subst ek
  rw [List.take_length] at hd hnk
  rw [List.take_length]
  have hpd:=DM (d:=d) (l:=Au g a)
  have hpl:=DL (d:=d) (l:=Au g a)
  generalize d.writes (Au g a)=Q at hpd hpl hd |-
  obtain⟨X,N,dead⟩:=Q
  simp only at hpd hpl hd
  have hf:=T0 g s (Sy dead) X hd.1
  cases dead with
  | true=>
   rw [hpd rfl]
   refine ACalls.frame [0,1,2,3] hf rfl rfl rfl rfl (by decide) (Ce rfl) ⟨rfl,rfl,rfl,rfl,trivial⟩ ?_
   rintro _ _ ⟨rfl,rfl⟩
   exact⟨_, .v (.int .i64 (N:Nat)),MN g s 8 X,fun _ _ h=>h,WkN.r (s:= [0,1,2,3,5]) ⟨⟨rfl,trivial⟩,⟨rfl,rfl,rfl,trivial,rfl,trivial⟩,rfl,rfl,rfl,rfl,rfl⟩,rfl,rfl⟩
  | false=>
   rw [hpl rfl]
   refine ACalls.frame [0,1,2,3] hf rfl rfl rfl rfl (by decide) (Ce rfl) ⟨rfl,rfl,rfl,rfl,trivial⟩ ?_
   rintro _ _ ⟨rfl,rfl⟩
   by_cases hX0:X.left=0
   all_goals
    simp only [hX0,Sy,BH,if_true,if_false]
    exact⟨_, .v (.int .i64 (N:Nat)),MN g s _ _,fun _ _ h=>h,WkN.r (s:= [0,1,2,3,5]) ⟨⟨rfl,trivial⟩,⟨rfl,rfl,rfl,trivial,rfl,trivial⟩,rfl,rfl,rfl,rfl,rfl⟩,rfl,rfl⟩
theorem ACalls.lendBox {P:Program} {q:Bool} {f:FuncId} {x:AV} {H:List AB} {K:AV->List AB->Prop} (j k:Nat) {t t':TypeId} {sz':Nat} {cs cs2:List AV} {es':List (List AV)} (hj:H[j]? = some (.box t cs)) (hk:H[k]? = some (.row t' sz' es'))
  (he:cs.map (AV.slIn k es'.length (.sl sz' es'.length fun i=>es'.getD i []))=cs2) (hc:ACalls P q f [x, .ag cs2] ((H.set k .dead).set j (.box t cs2)) K):ACalls P q f [x, .ag cs] H K:=by
 refine⟨hc.go,fun w0 M0 c us hs hr=>?_⟩
 subst he
 have hjk:j≠k:=by rintro rfl;rw [hj] at hk;cases hk
 obtain⟨c1,e1,s1,x1,r1⟩:=hs.freeze hk
 have hj1:(H.set k .dead)[j]? = some (.box t cs):=by rw [List.getElem?_set_ne (Ne.symm hjk)];exact hj
 have h8:∀ (l:List AV) (us:List Value),RdL l c us->RdL (l.map (AV.slIn k es'.length (.sl sz' es'.length fun i=>es'.getD i []))) c1 us:=by
  intro l
  induction l with
  | nil=>intro us h;simp only [RdL] at h;subst h;simp [RdL]
  | cons x l ih=>
   intro us h
   simp only [RdL] at h
   obtain⟨u,vs,rfl,a1,a2⟩:=h
   simp only [Ay,RdL]
   refine⟨u,vs,rfl,?_,ih vs a2⟩
   unfold AV.slIn
   split
   ·rename_i i n
    split
    ·rename_i hik
     subst hik
     split
     ·rename_i hn
      subst hn
      exact r1 u a1
     ·simp [Rd]
    ·exact Rd.ext _ x1 a1
   ·exact Rd.ext _ x1 a1
 have s2:HS w0 M0 c1 ((H.set k .dead).set j (.box t (cs.map (AV.slIn k es'.length (.sl sz' es'.length fun i=>es'.getD i []))))):=by
  refine s1.recell hj1 rfl ?_
  rintro⟨g,xs,h1,h2,_,h4⟩
  obtain⟨g0,ys,q1,q2,q3,_⟩:=hs.blk j _ hj
  have hg:=x1.box j _ (hs.klt hj) q1
  rw [h1] at hg
  injection hg with hg
  injection hg with hg
  injection hg with hg
  subst hg
  rw [e1,q2] at h2
  injection h2 with h2
  have hxy:ys.toArray=xs.toArray:=by injection h2
  have hxy:ys=xs:=by simpa using hxy
  subst hxy
  exact⟨g,ys,h1,by rw [e1];exact q2,h8 _ _ q3,h4⟩
 have hr2:RdL [x, .ag (cs.map (AV.slIn k es'.length (.sl sz' es'.length fun i=>es'.getD i [])))] c1 us:=by
  simp only [RdL] at hr
  obtain⟨u1,_,rfl,p1,u2,_,rfl,p2,rfl⟩:=hr
  simp only [Rd] at p2
  obtain⟨zs,rfl,p3⟩:=p2
  simp only [RdL]
  exact⟨u1,_,rfl,Rd.ext _ x1 p1,_,_,rfl,by simp only [Rd];exact⟨zs,rfl,h8 _ _ p3⟩,rfl⟩
 have:=hc.calls w0 M0 c1 us s2 hr2
 rw [e1] at this
 refine this.mono ?_
 rintro e w' ⟨v,c',r,H2,rfl,rfl,q1,q2,q3,q4,q5⟩
 exact⟨v,c',r,H2,rfl,rfl,q1,q2,x1.trans q3,q4,q5⟩
theorem nums_ones:∀ (n:Nat) (r:List Int) (c:List UInt8),n<=c.length->nums (EH n ++ r) c=((List.range n).map fun i=>((c.getD i 0).toNat:Int)) ++ nums r (c.drop n)
 | 0,r,c,_=>rfl
 | n+1,r, [],h=>by simp at h
 | n+1,r,x::c,h=>by
  have ih:=nums_ones n r c (by simpa using h)
  rw [show EH (n+1) ++ r=1::(EH n ++ r) from rfl,Cj,Ay,Dg]
  show (leN ((x::c).take 1):Int)::nums (EH n ++ r) ((x::c).drop 1)=_
  rw [show (x::c).drop 1=c from rfl,ih]
  simp [leN]
theorem VJ (n:Nat) (c:List UInt8) (h:n+5<=c.length):IN n c=⟨(List.range n).map fun i=>((c.getD i 0).toNat:Int),((c.getD n 0).toNat:Int),(leN ((c.drop (n+1)).take 4):Nat)⟩:=by
 have e:=nums_ones (n+1) [4] c (by omega)
 rw [show EH (n+1) ++ [4]=GB n from rfl] at e
 unfold IN
 rw [e]
 have h1:List.take n ((List.range (n+1)).map (fun i=>((c.getD i 0).toNat:Int)) ++ nums [4] (c.drop (n+1)))=(List.range n).map fun i=>((c.getD i 0).toNat:Int):=by
  rw [Bo,Aq,List.append_assoc,List.take_left' (by simp)]
 have h2:((List.range (n+1)).map (fun i=>((c.getD i 0).toNat:Int)) ++ nums [4] (c.drop (n+1))).getD n 0=((c.getD n 0).toNat:Int):=by
  rw [List.getD_eq_getElem?_getD,List.getElem?_append_left (by simp),List.getElem?_map,List.getElem?_range (by omega)];rfl
 have h3:((List.range (n+1)).map (fun i=>((c.getD i 0).toNat:Int)) ++ nums [4] (c.drop (n+1))).getD (n+1) 0=(leN ((c.drop (n+1)).take 4):Nat):=by
  rw [List.getD_eq_getElem?_getD,List.getElem?_append_right (by simp)];simp [nums]
 rw [h1,h2,h3]
theorem WH (b:List UInt8) (h:17<=b.length):(nums szA b).getD 0 0=(leN (b.take 4):Nat)/\(nums szA b).getD 1 0=(leN ((b.drop 4).take 4):Nat)/\(nums szA b).getD 2 0=(leN ((b.drop 8).take 4):Nat)/\(nums szA b).getD 3 0=(leN ((b.drop 12).take 4):Nat)/\(nums szA b).getD 4 0=((b.getD 16 0).toNat:Int):=by
 refine⟨rfl,rfl,?_,?_,?_⟩
 ·show ((leN ((((b.drop 4).drop 4)).take 4):Nat):Int)=_;rw [Aw]
 ·show ((leN (((((b.drop 4).drop 4).drop 4)).take 4):Nat):Int)=_;rw [Aw,Aw]
 ·show ((leN ((((((b.drop 4).drop 4).drop 4)).drop 4).take 1):Nat):Int)=_
  rw [Aw,Aw,Aw]
  have e:b.drop 16=b.getD 16 0::b.drop 17:=by
   rw [List.getD_eq_getElem?_getD,List.getElem?_eq_getElem (by omega)];exact AM (by omega)
  show ((leN ((b.drop 16).take 1):Nat):Int)=_
  rw [e]
  exact congrArg (fun n:Nat=>(n:Int)) (show (b.getD 16 0).toNat+256*0=(b.getD 16 0).toNat by omega)
def VT (n:Nat) (c:List UInt8):List (List AV):=(List.range n).map fun i=> [.v (.int .i64 ((c.getD i 0).toNat:Int))]
theorem U5 (n:Nat) (c:List UInt8):VT (n+1) c=VT n c ++ [[.v (.int .i64 ((c.getD n 0).toNat:Int))]]:=by simp [VT,Bo]
theorem Rg (n:Nat) (c:List UInt8):(VT n c).length=n:=by simp [VT]
theorem wb (x:UInt8):IntKind.i64.wrap (x.toNat:Int)=(x.toNat:Int):=wi (by have:=x.toNat_lt;omega)
theorem RD (g:Geo) (b:List UInt8) (hg:AS g=true) (hb:b.length<=100000):Fn Tryz.prog 212 [.ag (A7 g),bA b] fun r=>r = .tp [.ag (CE ((Cu g b).getD an0)), .v (.bool (Cu g b).isSome)]:=by
 obtain⟨g1,g2,g3,g4,g5⟩:=Am.1 hg
 have DW:∀ (e:Value) (c:Ctx) (v:Value),Rd (.tp [.ag [.v (.int .i64 0), .v (.int .i64 0), .v (.int .i64 0), .v (.int .i64 0), .v (.int .i64 0), .v (.string ⟨#[]⟩), .v (.slice none 0 0)], .v e]) c v->Rd (.tp [.ag (CE an0), .v e]) c v:=fun e=>Bu (m:= [.ag (CE an0), .v e]) ⟨AG an0_sub,ri,trivial⟩
 by_cases h18:b.length<18
 ·have hN:Cu g b=none:=by
   rw [Cu]
   split
   ·rfl
   ·rw [show Gz (b.drop 17)=none by rw [Gz,if_pos (by rw [Ac];omega)]]
  rw [hN]
  refine Fn.st Tryz.func212 rfl ?_
  conv=>whnf
  refine Al (fun _=>?_) (fun hq=>absurd h18 (by omega))
  exact⟨_,DW _,rfl⟩
 ·obtain⟨n0,n1,n2,n3,n4⟩:=WH b (by omega)
  have q0:=EU b 4 (by omega) (by decide)
  have q1:=EU (b.drop 4) 4 (by rw [Ac];omega) (by decide)
  have q2:=EU (b.drop 8) 4 (by rw [Ac];omega) (by decide)
  have q3:=EU (b.drop 12) 4 (by rw [Ac];omega) (by decide)
  rw [<-n0] at q0
  rw [<-n1] at q1
  rw [<-n2] at q2
  rw [<-n3] at q3
  have hr:=RC (b.drop 17) (by rw [Ac];omega)
  have hdl:(b.drop 17).length=b.length - 17:=Ac ..
  cases hL:Gz (b.drop 17) with
  | none=>
   have hN:Cu g b=none:=by rw [Cu,if_neg (by omega),hL]
   rw [hL] at hr
   rw [hN]
   refine Fn.st Tryz.func212 rfl ?_
   conv=>whnf
   refine Al (fun hq=>absurd hq (by omega)) (fun hq=>?_)
   conv=>whnf
   apply aDraw.treeM (0) tys_ok mixed (.one 0 (.one 2 (.one 3 (.one 5 (.one 6 (.one 8 (.one 9 (.one 11 (.one 12 (.one 13 (.one 14 (.two 1 (.two 4 (.two 7 (.two 10 (.one 15 (.one 16 (.one 17 .fin))) 16 (.one 10 (.one 15 (.one 17 .fin)))) 16 (.one 7 (.one 10 (.one 15 (.one 17 .fin))))) 16 (.one 4 (.one 7 (.one 10 (.one 15 (.one 17 .fin)))))) 16 (.one 1 (.one 4 (.one 7 (.one 10 (.one 15 (.one 17 .fin)))))))))))))))))) [6,17,18,19,20,21,22,23,24,25,26,27,28,29,30,31,32] (by kernel_rfl)
   ·conv=>whnf
    try (refine And.intro (by first | omega | (simp;done)) ?_;conv=>whnf)
    try (refine And.intro (by first | omega | (simp;done)) ?_;conv=>whnf)
    try (refine And.intro (by first | omega | (simp;done)) ?_;conv=>whnf)
    try (refine And.intro (by first | omega | (simp;done)) ?_;conv=>whnf)
    refine And.intro ?_ ?_
    ·conv=>whnf
     refine Fn.cl q0 ?_
     refine And.intro ?_ ?_
     ·conv=>whnf
      (refine ACalls.sub [bA (b.drop 4), .v (.int .i64 4)] ⟨A6 (by omega),ri,trivial⟩ ?_;refine Fn.cl q1 ?_)
      refine And.intro ?_ ?_
      ·conv=>whnf
       (refine ACalls.sub [bA (b.drop 8), .v (.int .i64 4)] ⟨A6 (by omega),ri,trivial⟩ ?_;refine Fn.cl q2 ?_)
       refine And.intro ?_ ?_
       ·conv=>whnf
        (refine ACalls.sub [bA (b.drop 12), .v (.int .i64 4)] ⟨A6 (by omega),ri,trivial⟩ ?_;refine Fn.cl q3 ?_)
        conv=>whnf
        try (refine And.intro ⟨rfl,by first | rfl | (simp;done) | (simp;omega),by first | omega | (simp;omega)⟩ ?_;conv=>whnf)
        exact⟨rfl,rfl⟩
       ·conv=>whnf
        (refine ACalls.sub [bA (b.drop 12), .v (.int .i64 4)] ⟨A6 (by omega),ri,trivial⟩ ?_;refine Fn.cl q3 ?_)
        conv=>whnf
        try (refine And.intro ⟨rfl,by first | rfl | (simp;done) | (simp;omega),by first | omega | (simp;omega)⟩ ?_;conv=>whnf)
        exact⟨rfl,rfl⟩
      ·conv=>whnf
       (refine ACalls.sub [bA (b.drop 8), .v (.int .i64 4)] ⟨A6 (by omega),ri,trivial⟩ ?_;refine Fn.cl q2 ?_)
       conv=>whnf
       (refine ACalls.sub [bA (b.drop 12), .v (.int .i64 4)] ⟨A6 (by omega),ri,trivial⟩ ?_;refine Fn.cl q3 ?_)
       conv=>whnf
       try (refine And.intro ⟨rfl,by first | rfl | (simp;done) | (simp;omega),by first | omega | (simp;omega)⟩ ?_;conv=>whnf)
       exact⟨rfl,rfl⟩
     ·conv=>whnf
      (refine ACalls.sub [bA (b.drop 4), .v (.int .i64 4)] ⟨A6 (by omega),ri,trivial⟩ ?_;refine Fn.cl q1 ?_)
      conv=>whnf
      (refine ACalls.sub [bA (b.drop 8), .v (.int .i64 4)] ⟨A6 (by omega),ri,trivial⟩ ?_;refine Fn.cl q2 ?_)
      conv=>whnf
      (refine ACalls.sub [bA (b.drop 12), .v (.int .i64 4)] ⟨A6 (by omega),ri,trivial⟩ ?_;refine Fn.cl q3 ?_)
      conv=>whnf
      try (refine And.intro ⟨rfl,by first | rfl | (simp;done) | (simp;omega),by first | omega | (simp;omega)⟩ ?_;conv=>whnf)
      exact⟨rfl,rfl⟩
    ·conv=>whnf
     refine Fn.cl q0 ?_
     conv=>whnf
     (refine ACalls.sub [bA (b.drop 4), .v (.int .i64 4)] ⟨A6 (by omega),ri,trivial⟩ ?_;refine Fn.cl q1 ?_)
     conv=>whnf
     (refine ACalls.sub [bA (b.drop 8), .v (.int .i64 4)] ⟨A6 (by omega),ri,trivial⟩ ?_;refine Fn.cl q2 ?_)
     conv=>whnf
     (refine ACalls.sub [bA (b.drop 12), .v (.int .i64 4)] ⟨A6 (by omega),ri,trivial⟩ ?_;refine Fn.cl q3 ?_)
     conv=>whnf
     try (refine And.intro ⟨rfl,by first | rfl | (simp;done) | (simp;omega),by first | omega | (simp;omega)⟩ ?_;conv=>whnf)
     exact⟨rfl,rfl⟩
   conv=>whnf
   rw [wb,show b.getD (Int.toNat 16) 0=b.getD 16 0 from rfl,<-n4]
   refine⟨⟨by omega,by omega,by omega,by omega⟩,?_⟩
   conv=>whnf
   refine ACalls.sub [bA (b.drop 17)] ⟨A6 (by omega),trivial⟩ ?_
   refine Fn.cl hr ?_
   conv=>whnf
   rw [show IntKind.i64.wrap (17+0)=17 from rfl]
   refine⟨⟨by omega,by omega,by omega,by omega⟩,?_⟩
   exact⟨_,DW _,rfl⟩
  | some q=>
   obtain⟨s,u⟩:=q
   obtain⟨u1,u2,u3,u4⟩:=J0 hL
   rw [hL] at hr
   simp only at hr
   have hss:s.size=s.data.toList.length:=rfl
   have hs24:=Ge u4
   have wu:IntKind.i64.wrap (17+(u:Int))=17+u:=wi (by omega)
   have hmb:g.z*(g.d+6)<=4*10:=CQ (by omega) (by omega) (by omega) (by omega)
   have hm0:0<=g.z*(g.d+6):=CP (by omega) (by omega)
   have wm:IntKind.i64.wrap (g.z*IntKind.i64.wrap (g.d+6))=g.z*(g.d+6):=by rw [wi (n:=g.d+6) (by omega)];exact wi (by omega)
   have hmn:g.z*(g.d+6)=((g.z.toNat*(g.d.toNat+6):Nat):Int):=by rw [Int.natCast_mul,Int.natCast_add];congr 1 <;> omega
   have hu0:((u:Int) == 0)=false:=beq_eq_false_iff_ne.2 (by omega)
   have hdl2:(b.drop (17+u)).length=b.length - (17+u):=Ac ..
   obtain⟨A,hA⟩:∃ A,A=J5 (g.d.toNat+1) g.z.toNat b s u:=⟨_,rfl⟩
   have hR0:Cu g b=if b.length≠17+u+g.z.toNat*(g.d.toNat+6) then none else if AY g A then some A else none:=by rw [Cu,if_neg (by omega),hL,hA]
   by_cases hlen:b.length=17+u+g.z.toNat*(g.d.toNat+6)
   ·rw [if_neg (by omega)] at hR0
    refine Fn.st Tryz.func212 rfl ?_
    conv=>whnf
    refine Al (fun hq=>absurd hq (by omega)) (fun hq=>?_)
    conv=>whnf
    apply aDraw.treeM (0) tys_ok mixed (.one 0 (.one 2 (.one 3 (.one 5 (.one 6 (.one 8 (.one 9 (.one 11 (.one 12 (.one 13 (.one 14 (.two 1 (.two 4 (.two 7 (.two 10 (.one 15 (.one 16 (.one 17 .fin))) 16 (.one 10 (.one 15 (.one 17 .fin)))) 16 (.one 7 (.one 10 (.one 15 (.one 17 .fin))))) 16 (.one 4 (.one 7 (.one 10 (.one 15 (.one 17 .fin)))))) 16 (.one 1 (.one 4 (.one 7 (.one 10 (.one 15 (.one 17 .fin)))))))))))))))))) [6,17,18,19,20,21,22,23,24,25,26,27,28,29,30,31,32] (by kernel_rfl)
    ·conv=>whnf
     try (refine And.intro (by first | omega | (simp;done)) ?_;conv=>whnf)
     try (refine And.intro (by first | omega | (simp;done)) ?_;conv=>whnf)
     try (refine And.intro (by first | omega | (simp;done)) ?_;conv=>whnf)
     try (refine And.intro (by first | omega | (simp;done)) ?_;conv=>whnf)
     refine And.intro ?_ ?_
     ·conv=>whnf
      refine Fn.cl q0 ?_
      refine And.intro ?_ ?_
      ·conv=>whnf
       (refine ACalls.sub [bA (b.drop 4), .v (.int .i64 4)] ⟨A6 (by omega),ri,trivial⟩ ?_;refine Fn.cl q1 ?_)
       refine And.intro ?_ ?_
       ·conv=>whnf
        (refine ACalls.sub [bA (b.drop 8), .v (.int .i64 4)] ⟨A6 (by omega),ri,trivial⟩ ?_;refine Fn.cl q2 ?_)
        refine And.intro ?_ ?_
        ·conv=>whnf
         (refine ACalls.sub [bA (b.drop 12), .v (.int .i64 4)] ⟨A6 (by omega),ri,trivial⟩ ?_;refine Fn.cl q3 ?_)
         conv=>whnf
         try (refine And.intro ⟨rfl,by first | rfl | (simp;done) | (simp;omega),by first | omega | (simp;omega)⟩ ?_;conv=>whnf)
         exact⟨rfl,rfl⟩
        ·conv=>whnf
         (refine ACalls.sub [bA (b.drop 12), .v (.int .i64 4)] ⟨A6 (by omega),ri,trivial⟩ ?_;refine Fn.cl q3 ?_)
         conv=>whnf
         try (refine And.intro ⟨rfl,by first | rfl | (simp;done) | (simp;omega),by first | omega | (simp;omega)⟩ ?_;conv=>whnf)
         exact⟨rfl,rfl⟩
       ·conv=>whnf
        (refine ACalls.sub [bA (b.drop 8), .v (.int .i64 4)] ⟨A6 (by omega),ri,trivial⟩ ?_;refine Fn.cl q2 ?_)
        conv=>whnf
        (refine ACalls.sub [bA (b.drop 12), .v (.int .i64 4)] ⟨A6 (by omega),ri,trivial⟩ ?_;refine Fn.cl q3 ?_)
        conv=>whnf
        try (refine And.intro ⟨rfl,by first | rfl | (simp;done) | (simp;omega),by first | omega | (simp;omega)⟩ ?_;conv=>whnf)
        exact⟨rfl,rfl⟩
      ·conv=>whnf
       (refine ACalls.sub [bA (b.drop 4), .v (.int .i64 4)] ⟨A6 (by omega),ri,trivial⟩ ?_;refine Fn.cl q1 ?_)
       conv=>whnf
       (refine ACalls.sub [bA (b.drop 8), .v (.int .i64 4)] ⟨A6 (by omega),ri,trivial⟩ ?_;refine Fn.cl q2 ?_)
       conv=>whnf
       (refine ACalls.sub [bA (b.drop 12), .v (.int .i64 4)] ⟨A6 (by omega),ri,trivial⟩ ?_;refine Fn.cl q3 ?_)
       conv=>whnf
       try (refine And.intro ⟨rfl,by first | rfl | (simp;done) | (simp;omega),by first | omega | (simp;omega)⟩ ?_;conv=>whnf)
       exact⟨rfl,rfl⟩
     ·conv=>whnf
      refine Fn.cl q0 ?_
      conv=>whnf
      (refine ACalls.sub [bA (b.drop 4), .v (.int .i64 4)] ⟨A6 (by omega),ri,trivial⟩ ?_;refine Fn.cl q1 ?_)
      conv=>whnf
      (refine ACalls.sub [bA (b.drop 8), .v (.int .i64 4)] ⟨A6 (by omega),ri,trivial⟩ ?_;refine Fn.cl q2 ?_)
      conv=>whnf
      (refine ACalls.sub [bA (b.drop 12), .v (.int .i64 4)] ⟨A6 (by omega),ri,trivial⟩ ?_;refine Fn.cl q3 ?_)
      conv=>whnf
      try (refine And.intro ⟨rfl,by first | rfl | (simp;done) | (simp;omega),by first | omega | (simp;omega)⟩ ?_;conv=>whnf)
      exact⟨rfl,rfl⟩
    conv=>whnf
    rw [wb,show b.getD (Int.toNat 16) 0=b.getD 16 0 from rfl,<-n4]
    refine⟨⟨by omega,by omega,by omega,by omega⟩,?_⟩
    conv=>whnf
    refine ACalls.sub [bA (b.drop 17)] ⟨A6 (by omega),trivial⟩ ?_
    refine Fn.cl hr ?_
    conv=>whnf
    rw [wu]
    refine⟨⟨by omega,by omega,by omega,by omega⟩,?_⟩
    conv=>whnf
    rw [hu0]
    conv=>whnf
    rw [wm]
    refine Al (fun hq=>absurd hq (by simp only [bne_iff_ne,ne_eq] at *;omega)) (fun hq=>?_)
    conv=>whnf
    have hsub:∀ (c:Ctx) (v:Value),Rd (.sl 1 ((b.length:Int).toNat - ((17:Int)+u).toNat) fun i=> [AV.v (Value.int IntKind.u8 (b.getD (i+((17:Int)+u).toNat) 0).toNat)]) c v->Rd (bA (b.drop (17+u))) c v:=by
     rw [show ((17:Int)+u).toNat=17+u by omega]
     exact A6 (by omega)
    have hcl:∀ k,k<g.z.toNat->(g.d.toNat+1)+5<=(b.drop (17+u+(g.d.toNat+6)*k)).length:=fun k hk=>by
     have h1:(g.d.toNat+6)*(k+1)<=(g.d.toNat+6)*g.z.toNat:=Nat.mul_le_mul_left _ (by omega)
     rw [CA,Dd (g.d.toNat+6) g.z.toNat] at h1
     rw [Ac];omega
    refine aLoop.ruleRR Nat (fun k=>([(1,bA b),(2, .bp 0 0),(4, .bp 1 0),(6, .bp 2 0),(9,bA (b.drop (17+u+(g.d.toNat+6)*k))),(10, .v (.int .i64 k))], [.box 23 (A7 g), .box 40 [.v (.int .i64 0), .v (.int .i64 0), .v (.int .i64 0), .v (.int .i64 0), .v (.int .i64 0), .v (.string ⟨#[]⟩), .v (.slice none 0 0)], .box 40 [.v (.int .i64 ((nums szA b).getD 0 0)), .v (.int .i64 ((nums szA b).getD 1 0)), .v (.int .i64 ((nums szA b).getD 4 0)), .v (.int .i64 ((nums szA b).getD 2 0)), .v (.int .i64 ((nums szA b).getD 3 0)), .v (.string s), .ow 3 k], .row 132 3 ((Dm (g.d.toNat+1) k (b.drop (17+u))).map H8)])) (fun k=>k<=g.z.toNat) (fun k=>g.z.toNat - k) 0 (Ag _)
     ?_ ?_
    ·refine⟨_,_,ConvF.sub 9 (y:=bA (b.drop (17+u))) rfl hsub, [(1002006,132,3)],⟨rfl,rfl,trivial⟩, [0,1,2,3],⟨⟨rfl,rfl,rfl,rfl,rfl,rfl,trivial⟩,⟨rfl,rfl,rfl,rfl,trivial⟩,rfl,rfl,rfl,rfl,rfl⟩⟩
    ·intro k hk
     conv=>whnf
     refine Al (fun h6=>?_) (fun h6=>?_) <;> (repeat rw [Aa] at h6) <;> conv=>whnf
     ·have hk':k<g.z.toNat:=by omega
      have hc5:=hcl k hk'
      have hE:=VJ (g.d.toNat+1) (b.drop (17+u+(g.d.toNat+6)*k)) hc5
      have hdd:(b.drop (17+u+(g.d.toNat+6)*k)).drop (g.d.toNat+6)=b.drop (17+u+(g.d.toNat+6)*(k+1)):=by rw [Aw,CA,CF]
      have hmm:(b.drop (17+u)).drop ((g.d.toNat+6)*k)=b.drop (17+u+(g.d.toNat+6)*k):=by rw [Aw]
      have hst:=Ld (g.d.toNat+1) k (b.drop (17+u))
      rw [show (g.d.toNat+1+5)=g.d.toNat+6 from rfl,hmm] at hst
      generalize b.drop (17+u+(g.d.toNat+6)*k)=c at hc5 hE hdd hst |-
      refine aLoop.ruleRR Nat (fun i=>([(1,bA b),(2, .bp 0 0),(4, .bp 1 0),(6, .bp 2 0),(9,bA c),(10, .v (.int .i64 k)),(11, .bp 4 0),(12, .v (.int .i64 i))], [.box 23 (A7 g), .box 40 [.v (.int .i64 0), .v (.int .i64 0), .v (.int .i64 0), .v (.int .i64 0), .v (.int .i64 0), .v (.string ⟨#[]⟩), .v (.slice none 0 0)], .box 40 [.v (.int .i64 ((nums szA b).getD 0 0)), .v (.int .i64 ((nums szA b).getD 1 0)), .v (.int .i64 ((nums szA b).getD 4 0)), .v (.int .i64 ((nums szA b).getD 2 0)), .v (.int .i64 ((nums szA b).getD 3 0)), .v (.string s), .ow 3 k], .row 132 3 ((Dm (g.d.toNat+1) k (b.drop (17+u))).map H8), .box 132 [.ow 5 i, .v (.int .i64 0), .v (.int .i64 0)], .row 3 1 (VT i c)])) (fun i=>i<=g.d.toNat+1) (fun i=>g.d.toNat+1 - i) 0 (Ag _)
       ⟨_,_,ConvF.refl _ _, [(1004000,3,1)],⟨rfl,rfl,trivial⟩, [0,1,2,3,4,5],⟨⟨rfl,rfl,rfl,rfl,rfl,rfl,rfl,rfl,trivial⟩,⟨rfl,rfl,rfl,rfl,rfl,rfl,trivial⟩,rfl,rfl,rfl,rfl,rfl⟩⟩ ?_
      intro i hi
      conv=>whnf
      refine Al (fun h7=>?_) (fun h7=>?_) <;> (repeat rw [Aa] at h7) <;> conv=>whnf
      ·have hl:i=(VT i c).length:=(Rg i c).symm
       apply aDraw.treeK (0) tys_ok mixed (.one 0 (.one 1 (.one 2 (.one 3 (.one 4 (.one 5 (.one 6 (.one 7 (.one 8 (.one 9 (.one 10 .fin))))))))))) (by kernel_rfl)
       conv=>whnf
       try (refine And.intro (by first | omega | (simp;done)) ?_;conv=>whnf)
       try (refine And.intro (by first | rfl | omega) ?_;conv=>whnf)
       try (refine And.intro (by first | omega | exact⟨by first | rfl | (simp;done) | (simp;omega),by omega⟩) ?_;conv=>whnf)
       try (refine And.intro ⟨rfl,by first | rfl | (simp;done) | (simp;omega),by first | omega | (simp;omega)⟩ ?_;conv=>whnf)
       rw [wb]
       exact⟨i+1,by omega,by omega,WkN.r (s:= [0,1,2,3,4,5]) ⟨⟨rfl,rfl,rfl,rfl,rfl,rfl,rfl,AA (by omega),trivial⟩,⟨rfl,rfl,rfl,rfl,rfl,congrArg (fun l=>some (AB.row _ _ l)) (U5 i c).symm,trivial⟩,rfl,rfl,rfl,rfl,rfl⟩⟩
      ·have ei:i=g.d.toNat+1:=by omega
       subst ei
       have w1:IntKind.i64.wrap (g.d+1)=g.d+1:=wi (by omega)
       have w2:IntKind.i64.wrap (g.d+2)=g.d+2:=wi (by omega)
       have w6:IntKind.i64.wrap (g.d+6)=g.d+6:=wi (by omega)
       have hgr:=EU (c.drop (g.d.toNat+1+1)) 4 (by rw [Ac];omega) (by decide)
       apply aDraw.treeK (0) tys_ok mixed (.one 0 (.one 1 (.one 2 (.one 3 (.one 4 (.one 5 (.one 6 (.one 7 (.one 8 (.one 9 (.one 10 (.one 11 (.one 13 (.one 12 (.one 14 (.one 15 (.one 16 .fin))))))))))))))))) (by kernel_rfl)
       conv=>whnf
       try (refine And.intro (by first | omega | (simp;done)) ?_;conv=>whnf)
       try (refine And.intro (by first | omega | (simp;done)) ?_;conv=>whnf)
       (refine ACalls.sub [bA (c.drop (g.d.toNat+1+1)), .v (.int .i64 4)] ⟨(by rw [w2,show (g.d+2).toNat=g.d.toNat+1+1 by omega];exact A6 (by omega)),ri,trivial⟩ ?_;refine Fn.cl hgr ?_)
       conv=>whnf
       try (refine And.intro ⟨rfl,by first | rfl | (simp;done) | (simp;omega),by first | omega | (simp;omega)⟩ ?_;conv=>whnf)
       try (refine And.intro ⟨rfl,by first | rfl | (simp;done) | (simp;omega),by first | omega | (simp;omega)⟩ ?_;conv=>whnf)
       rw [w1,wb,show (g.d+1).toNat=g.d.toNat+1 by omega]
       refine And.intro (Rg _ _).symm ?_
       refine⟨rfl,?_⟩
       refine⟨⟨by rw [Ab,Ep],by omega⟩,?_⟩
       conv=>whnf
       rw [w6]
       refine⟨⟨by omega,by omega,by omega,by omega⟩,?_⟩
       conv=>whnf
       have e':SubL [.sl 1 (g.d.toNat+1) fun i=>(VT (g.d.toNat+1) c).getD i [], .v (.int .i64 ((c.getD (g.d.toNat+1) 0).toNat:Int)), .v (.int .i64 ((leN ((c.drop (g.d.toNat+1+1)).take 4):Nat):Int))] (H8 (IN (g.d.toNat+1) c)):=by
        rw [hE]
        refine⟨fun _ _ h=>Rd.congr (by simp) (fun i hi=>?_) h,fun _ _ h=>h,fun _ _ h=>h,trivial⟩
        have hi':i<g.d.toNat+1:=by simpa using hi
        rw [VT,Ei hi',Ei hi']
       have hs2:∀ (c':Ctx) (v:Value),Rd (.sl 1 ((c.length:Int).toNat - (g.d+6).toNat) fun i=> [AV.v (Value.int IntKind.u8 (c.getD (i+(g.d+6).toNat) 0).toNat)]) c' v->Rd (bA (b.drop (17+u+(g.d.toNat+6)*(k+1)))) c' v:=by
        rw [<-hdd,show (g.d+6).toNat=g.d.toNat+6 by omega]
        exact A6 (by omega)
       refine⟨k+1,by omega,by omega,WkN.rc (ConvF.trans (ConvF.ofH (ConvH.last 3 rfl e')) (ConvF.sub 9 (y:=bA (b.drop (17+u+(g.d.toNat+6)*(k+1)))) rfl hs2)) (s:= [0,1,2,3]) ⟨⟨rfl,rfl,rfl,rfl,rfl,AA (by omega),trivial⟩,⟨rfl,rfl,rfl,congrArg (fun l=>some (AB.row _ _ l)) (by rw [hst,Aq];rfl),trivial⟩,rfl,rfl,rfl,rfl,rfl⟩⟩
     ·have ek:k=g.z.toNat:=by omega
      subst ek
      have hAl:A.label.size<=1000000:=by rw [hA];show s.size<=_;omega
      have hck:=H_ g A hg hAl
      rw [hA] at hck
      have hhl:(Dm (g.d.toNat+1) g.z.toNat (b.drop (17+u))).length=g.z.toNat:=Ep _ _ _
      refine ACalls.lendBox (cs2:= [.v (.int .i64 ((nums szA b).getD 0 0)), .v (.int .i64 ((nums szA b).getD 1 0)), .v (.int .i64 ((nums szA b).getD 4 0)), .v (.int .i64 ((nums szA b).getD 2 0)), .v (.int .i64 ((nums szA b).getD 3 0)), .v (.string s), .sl 3 ((Dm (g.d.toNat+1) g.z.toNat (b.drop (17+u))).map H8).length fun i=>((Dm (g.d.toNat+1) g.z.toNat (b.drop (17+u))).map H8).getD i []]) 2 3 rfl rfl ?_ ?_
      ·show [_,_,_,_,_,_,AV.slIn 3 _ _ (.ow 3 g.z.toNat)]=_
       rw [AV.slIn,if_pos rfl,if_pos (by rw [Ab,hhl])]
       rfl
      have hsa:SubL [.v (.int .i64 ((nums szA b).getD 0 0)), .v (.int .i64 ((nums szA b).getD 1 0)), .v (.int .i64 ((nums szA b).getD 4 0)), .v (.int .i64 ((nums szA b).getD 2 0)), .v (.int .i64 ((nums szA b).getD 3 0)), .v (.string s), .sl 3 ((Dm (g.d.toNat+1) g.z.toNat (b.drop (17+u))).map H8).length fun i=>((Dm (g.d.toNat+1) g.z.toNat (b.drop (17+u))).map H8).getD i []] (CE (J5 (g.d.toNat+1) g.z.toNat b s u)):=⟨ri,ri,ri,ri,ri,ri,AJ (f:=H8) (Dm (g.d.toNat+1) g.z.toNat (b.drop (17+u))) (by rw [Ab]) rfl,trivial⟩
      refine ACalls.sub [.ag (A7 g), .ag (CE (J5 (g.d.toNat+1) g.z.toNat b s u))] ⟨ri,AG hsa,trivial⟩ ?_
      refine Fn.cl hck ?_
      conv=>whnf
      rw [<-hA]
      cases hok:AY g A with
      | false=>
       rw [hR0,hok]
       exact⟨_,DW _,rfl⟩
      | true=>
       rw [hR0,hok]
       conv=>whnf
       exact⟨.tp [.ag (CE A), .v (.bool true)],Bu ⟨AG (by rw [hA];exact hsa),ri,trivial⟩,rfl⟩
   ·have hN:Cu g b=none:=by rw [hR0,if_pos hlen]
    rw [hN]
    refine Fn.st Tryz.func212 rfl ?_
    conv=>whnf
    refine Al (fun hq=>absurd hq (by omega)) (fun hq=>?_)
    conv=>whnf
    apply aDraw.treeM (0) tys_ok mixed (.one 0 (.one 2 (.one 3 (.one 5 (.one 6 (.one 8 (.one 9 (.one 11 (.one 12 (.one 13 (.one 14 (.two 1 (.two 4 (.two 7 (.two 10 (.one 15 (.one 16 (.one 17 .fin))) 16 (.one 10 (.one 15 (.one 17 .fin)))) 16 (.one 7 (.one 10 (.one 15 (.one 17 .fin))))) 16 (.one 4 (.one 7 (.one 10 (.one 15 (.one 17 .fin)))))) 16 (.one 1 (.one 4 (.one 7 (.one 10 (.one 15 (.one 17 .fin)))))))))))))))))) [6,17,18,19,20,21,22,23,24,25,26,27,28,29,30,31,32] (by kernel_rfl)
    ·conv=>whnf
     try (refine And.intro (by first | omega | (simp;done)) ?_;conv=>whnf)
     try (refine And.intro (by first | omega | (simp;done)) ?_;conv=>whnf)
     try (refine And.intro (by first | omega | (simp;done)) ?_;conv=>whnf)
     try (refine And.intro (by first | omega | (simp;done)) ?_;conv=>whnf)
     refine And.intro ?_ ?_
     ·conv=>whnf
      refine Fn.cl q0 ?_
      refine And.intro ?_ ?_
      ·conv=>whnf
       (refine ACalls.sub [bA (b.drop 4), .v (.int .i64 4)] ⟨A6 (by omega),ri,trivial⟩ ?_;refine Fn.cl q1 ?_)
       refine And.intro ?_ ?_
       ·conv=>whnf
        (refine ACalls.sub [bA (b.drop 8), .v (.int .i64 4)] ⟨A6 (by omega),ri,trivial⟩ ?_;refine Fn.cl q2 ?_)
        refine And.intro ?_ ?_
        ·conv=>whnf
         (refine ACalls.sub [bA (b.drop 12), .v (.int .i64 4)] ⟨A6 (by omega),ri,trivial⟩ ?_;refine Fn.cl q3 ?_)
         conv=>whnf
         try (refine And.intro ⟨rfl,by first | rfl | (simp;done) | (simp;omega),by first | omega | (simp;omega)⟩ ?_;conv=>whnf)
         exact⟨rfl,rfl⟩
        ·conv=>whnf
         (refine ACalls.sub [bA (b.drop 12), .v (.int .i64 4)] ⟨A6 (by omega),ri,trivial⟩ ?_;refine Fn.cl q3 ?_)
         conv=>whnf
         try (refine And.intro ⟨rfl,by first | rfl | (simp;done) | (simp;omega),by first | omega | (simp;omega)⟩ ?_;conv=>whnf)
         exact⟨rfl,rfl⟩
       ·conv=>whnf
        (refine ACalls.sub [bA (b.drop 8), .v (.int .i64 4)] ⟨A6 (by omega),ri,trivial⟩ ?_;refine Fn.cl q2 ?_)
        conv=>whnf
        (refine ACalls.sub [bA (b.drop 12), .v (.int .i64 4)] ⟨A6 (by omega),ri,trivial⟩ ?_;refine Fn.cl q3 ?_)
        conv=>whnf
        try (refine And.intro ⟨rfl,by first | rfl | (simp;done) | (simp;omega),by first | omega | (simp;omega)⟩ ?_;conv=>whnf)
        exact⟨rfl,rfl⟩
      ·conv=>whnf
       (refine ACalls.sub [bA (b.drop 4), .v (.int .i64 4)] ⟨A6 (by omega),ri,trivial⟩ ?_;refine Fn.cl q1 ?_)
       conv=>whnf
       (refine ACalls.sub [bA (b.drop 8), .v (.int .i64 4)] ⟨A6 (by omega),ri,trivial⟩ ?_;refine Fn.cl q2 ?_)
       conv=>whnf
       (refine ACalls.sub [bA (b.drop 12), .v (.int .i64 4)] ⟨A6 (by omega),ri,trivial⟩ ?_;refine Fn.cl q3 ?_)
       conv=>whnf
       try (refine And.intro ⟨rfl,by first | rfl | (simp;done) | (simp;omega),by first | omega | (simp;omega)⟩ ?_;conv=>whnf)
       exact⟨rfl,rfl⟩
     ·conv=>whnf
      refine Fn.cl q0 ?_
      conv=>whnf
      (refine ACalls.sub [bA (b.drop 4), .v (.int .i64 4)] ⟨A6 (by omega),ri,trivial⟩ ?_;refine Fn.cl q1 ?_)
      conv=>whnf
      (refine ACalls.sub [bA (b.drop 8), .v (.int .i64 4)] ⟨A6 (by omega),ri,trivial⟩ ?_;refine Fn.cl q2 ?_)
      conv=>whnf
      (refine ACalls.sub [bA (b.drop 12), .v (.int .i64 4)] ⟨A6 (by omega),ri,trivial⟩ ?_;refine Fn.cl q3 ?_)
      conv=>whnf
      try (refine And.intro ⟨rfl,by first | rfl | (simp;done) | (simp;omega),by first | omega | (simp;omega)⟩ ?_;conv=>whnf)
      exact⟨rfl,rfl⟩
    conv=>whnf
    rw [wb,show b.getD (Int.toNat 16) 0=b.getD 16 0 from rfl,<-n4]
    refine⟨⟨by omega,by omega,by omega,by omega⟩,?_⟩
    conv=>whnf
    refine ACalls.sub [bA (b.drop 17)] ⟨A6 (by omega),trivial⟩ ?_
    refine Fn.cl hr ?_
    conv=>whnf
    rw [wu]
    refine⟨⟨by omega,by omega,by omega,by omega⟩,?_⟩
    conv=>whnf
    rw [hu0]
    conv=>whnf
    rw [wm]
    refine Al (fun hq=>?_) (fun hq=>absurd hq (by omega))
    exact⟨_,DW _,rfl⟩
theorem Tl (g:Geo) (x:Gt) (addr:Int) (hg:AS g=true) (hx:x.bytes.length<=100000):Fn Tryz.prog 174 [.ag (A7 g), .ag (BB x), .v (.int .i64 addr)] fun r=>r = .tp [.ag (CE ((C3 g x addr).getD an0)), .v (.bool (C3 g x addr).isSome)]:=by
 have hs:=LQ x addr hx
 by_cases h1:x.err=0/\Cv x.bytes=0/\CX x.bytes=addr
 ·have hr:=RD g (BU x.bytes) hg (by have:=K6 x.bytes;omega)
  have hS:C3 g x addr=match Cu g (BU x.bytes) with | some a=>if a.gen=Cq x.bytes then some a else none | none=>none:=by rw [C3,if_pos h1];rfl
  have hO:C8 x addr=some ⟨CX x.bytes,Cq x.bytes,BU x.bytes⟩:=by
   unfold C8;simp [h1.1,h1.2.1,h1.2.2]
  rw [hO] at hs
  cases hR:Cu g (BU x.bytes) with
  | none=>
   rw [hR] at hr hS
   rw [hS]
   refine Fn.st Tryz.func174 rfl ?_
   conv=>whnf
   refine Fn.cl hs ?_
   conv=>whnf
   refine Fn.cl hr ?_
   exact⟨_,DW _,rfl⟩
  | some a=>
   rw [hR] at hr hS
   by_cases h4:a.gen=Cq x.bytes
   ·have hS:C3 g x addr=some a:=hS.trans (if_pos h4)
    rw [hS]
    refine Fn.st Tryz.func174 rfl ?_
    conv=>whnf
    refine Fn.cl hs ?_
    conv=>whnf
    refine Fn.cl hr ?_
    conv=>whnf
    refine Al (fun hq=>absurd h4 hq) (fun _=>?_)
    exact⟨_,ri,rfl⟩
   ·have hS:C3 g x addr=none:=hS.trans (if_neg h4)
    rw [hS]
    refine Fn.st Tryz.func174 rfl ?_
    conv=>whnf
    refine Fn.cl hs ?_
    conv=>whnf
    refine Fn.cl hr ?_
    conv=>whnf
    refine Al (fun _=>?_) (fun hq=>absurd hq h4)
    exact⟨_,DW _,rfl⟩
 ·have hS:C3 g x addr=none:=by rw [C3,if_neg h1]
  have hO:C8 x addr=none:=by
   unfold C8
   rw [if_neg h1]
  rw [hO] at hs
  rw [hS]
  refine Fn.st Tryz.func174 rfl ?_
  conv=>whnf
  refine Fn.cl hs ?_
  exact⟨_,DW _,rfl⟩
def XQ (p:Option (An × Nat)):Int:=match p with | some (_,i)=>i | none=> -1
theorem PE (g:Geo) (l:List Gt) (hg:AS g=true) (hl:l.length<=1000000) (hb:∀ x∈l,x.bytes.length<=100000):Fn Tryz.prog 120 [.ag (A7 g),BZ l] fun r=>r = .tp [.ag (CE (X5 (En g l))), .v (.int .i64 (XQ (En g l)))]:=by
 refine Fn.st Tryz.func120 rfl ?_
 conv=>whnf
 refine aLoop.ruleRR Nat (fun k=>([(1,BZ l),(2, .bp 0 0),(4, .bp 1 0),(6, .bp 2 0),(7, .v (.int .i64 (XQ (Du g l k)))),(8, .v (.int .i64 k))], [.box 23 (A7 g), .box 40 [.v (.int .i64 0), .v (.int .i64 0), .v (.int .i64 0), .v (.int .i64 0), .v (.int .i64 0), .v (.string ⟨#[]⟩), .v (.slice none 0 0)], .box 40 (CE (X5 (Du g l k)))])) (fun k=>k<=l.length) (fun k=>l.length - k) 0 (Ag _)
  (WkN.rc (ConvF.ofH (ConvH.subBox 2 rfl an0_sub)) (s:= [0,1,2]) ⟨⟨rfl,rfl,rfl,rfl,rfl,rfl,trivial⟩,⟨rfl,rfl,rfl,trivial⟩,rfl,rfl,rfl,rfl,rfl⟩) ?_
 intro k hk
 have hsucc:=Gs g l k
 conv=>whnf
 refine Al (fun h6=>?_) (fun h6=>?_) <;> (repeat rw [Aa] at h6) <;> conv=>whnf
 ·have hk':k<l.length:=by omega
  have hx:=hb _ (AE (d:=(⟨0, []⟩:Gt)) hk')
  have h2:=Tl g (l.getD k ⟨0, []⟩) k hg hx
  rw [Mb] at hsucc
  repeat' (first | (refine aSeq.go ?_;conv=>whnf) | fail)
  apply aDraw.treeM (0) tys_ok mixed (.one 0 (.one 1 (.one 2 (.one 3 (.one 4 (.one 5 (.two 6 (.one 7 (.one 8 (.one 9 (.one 10 (.one 11 (.one 12 .fin)))))) 10 (.one 6 (.one 7 (.one 8 (.one 9 (.one 11 (.one 12 .fin))))))))))))) [9,10,17,18,19,20,21,22,23,24,25,26] (by kernel_rfl)
  ·conv=>whnf
   try (refine And.intro (by first | omega | (simp;done)) ?_;conv=>whnf)
   refine And.intro ?_ ?_
   ·conv=>whnf
    (rw [Aa];refine Fn.cl h2 ?_)
    conv=>whnf
    try (refine And.intro ⟨rfl,by first | rfl | (simp;done) | (simp;omega),by first | omega | (simp;omega)⟩ ?_;conv=>whnf)
    exact⟨rfl,rfl⟩
   ·conv=>whnf
    (rw [Aa];refine Fn.cl h2 ?_)
    conv=>whnf
    try (refine And.intro ⟨rfl,by first | rfl | (simp;done) | (simp;omega),by first | omega | (simp;omega)⟩ ?_;conv=>whnf)
    exact⟨rfl,rfl⟩
  conv=>whnf
  generalize C3 g (l.getD k ⟨0, []⟩) (k:Nat)=S at hsucc |-
  generalize Du g l k=P at hsucc |-
  cases S with
  | none=>
   conv=>whnf
   repeat' (first | (refine aSeq.go ?_;conv=>whnf) | fail)
   refine⟨k+1,hk',by omega,?_⟩
   rw [show Du g l (k+1)=P from hsucc]
   exact WkN.r (s:= [0,1,2]) ⟨⟨rfl,rfl,rfl,rfl,rfl,AA (by omega),trivial⟩,⟨rfl,rfl,rfl,trivial⟩,rfl,rfl,rfl,rfl,rfl⟩
  | some b=>
   cases P with
   | none=>
    conv=>whnf
    repeat' (first | (refine aSeq.go ?_;conv=>whnf) | fail)
    refine⟨k+1,hk',by omega,?_⟩
    rw [show Du g l (k+1)=some (b,k) from hsucc]
    exact WkN.r (s:= [0,1,2]) ⟨⟨rfl,rfl,rfl,rfl,rfl,AA (by omega),trivial⟩,⟨rfl,rfl,rfl,trivial⟩,rfl,rfl,rfl,rfl,rfl⟩
   | some q=>
    obtain⟨a,j⟩:=q
    conv=>whnf
    by_cases h5:a.gen<b.gen
    ·have e:Du g l (k+1)=some (b,k):=hsucc.trans (if_pos h5)
     refine Al (fun h7=>?_) (fun h7=>absurd h5 (Int.not_lt.2 (show b.gen<=a.gen from h7)))
     conv=>whnf
     repeat' (first | (refine aSeq.go ?_;conv=>whnf) | fail)
     refine⟨k+1,hk',by omega,?_⟩
     rw [e]
     exact WkN.r (s:= [0,1,2]) ⟨⟨rfl,rfl,rfl,rfl,rfl,AA (by omega),trivial⟩,⟨rfl,rfl,rfl,trivial⟩,rfl,rfl,rfl,rfl,rfl⟩
    ·have e:Du g l (k+1)=some (a,j):=hsucc.trans (if_neg h5)
     refine Al (fun h7=>absurd (show a.gen<b.gen from h7) h5) (fun h7=>?_)
     conv=>whnf
     repeat' (first | (refine aSeq.go ?_;conv=>whnf) | fail)
     refine⟨k+1,hk',by omega,?_⟩
     rw [e]
     exact WkN.r (s:= [0,1,2]) ⟨⟨rfl,rfl,rfl,rfl,rfl,AA (by omega),trivial⟩,⟨rfl,rfl,rfl,trivial⟩,rfl,rfl,rfl,rfl,rfl⟩
 ·have ek:k=l.length:=by omega
  subst ek
  exact⟨_,ri,rfl⟩
theorem Tk (g:Geo) (a:An) (x y:List Gt) (hg:AS g=true) (ha:AY g a=true) (hx:(x.length:Int)=g.sl) (hy:(y.length:Int)=g.sl) (hxb:∀ z∈x,z.bytes.length<=100000) (hyb:∀ z∈y,z.bytes.length<=100000) :
  Fn Tryz.prog 121 [.ag (A7 g), .ag (CE a),BZ x,BZ y] fun r=>r = .tp [DS (CY g a x y).1,FF (CY g a x y).2.1, .v (.int .i64 (CY g a x y).2.2)]:=by
 obtain⟨h1,h2,h3,h4,h5⟩:=Am.1 hg
 have hq:=Cg ha
 refine Fn.st Tryz.func121 rfl ?_
 conv=>whnf
 refine aDraw.of tys_ok mixed [0,1,2,3,4,5,6,7,8] (by kernel_rfl) ?_
 conv=>whnf
 unfold CY
 generalize hR:CZ g a x y g.sl.toNat a.pos a.seq g.sl [] []=R
 refine aLoop.rule (Nat × Int × Int × Int × List Tx × List (List AV) × List Wr) (fun z=>([(2,BZ x),(3,BZ y),(4, .bp 0 0),(5, .bp 1 0),(8, .v (.slice none 0 0)),(9, .v (.slice none 0 0)),(10, .v (.int .i64 0)),(11, .ow 2 z.2.2.2.2.2.1.length),(12, .ow 3 z.2.2.2.2.2.2.length),(13, .v (.int .i64 z.2.1)),(14, .v (.int .i64 z.2.2.1)),(15, .v (.int .i64 z.2.2.2.1))], [.box 23 (A7 g), .box 40 (CE a), .row 78 4 z.2.2.2.2.2.1, .row 130 2 (z.2.2.2.2.2.2.map DA)]))
  (fun z=>CZ g a x y z.1 z.2.1 z.2.2.1 z.2.2.2.1 z.2.2.2.2.1 z.2.2.2.2.2.2=R/\z.2.2.2.1<=z.1/\(0<=z.2.1/\z.2.1<g.sl)/\(0<=z.2.2.1/\z.2.2.1<=4294967296)/\(z.2.2.2.2.1.length*2+z.2.2.2.1<=g.sl/\0<=z.2.2.2.1)/\z.2.2.2.2.2.2.length<=z.2.2.2.2.1.length*30/\SubLL z.2.2.2.2.2.1 (z.2.2.2.2.1.map Hi))
  (fun z=>z.1) (g.sl.toNat,a.pos,a.seq,g.sl, [], [], []) ⟨hR,show g.sl<=(g.sl.toNat:Int) by omega,hq.2,hq.1,⟨show (0:Int)*2+g.sl<=g.sl by omega,show 0<=g.sl by omega⟩,Nat.le_refl 0,trivial⟩ ⟨[(11,78,4),(12,130,2)],⟨rfl,rfl,rfl,rfl,trivial⟩,⟨rfl,rfl,rfl,rfl,rfl,rfl,rfl,rfl,rfl,rfl,rfl,rfl,trivial⟩,⟨rfl,rfl,rfl,rfl,trivial⟩,rfl,rfl,rfl⟩ ?_
 rintro⟨f,pos,seq,left,l,rl,w⟩ ⟨b1,b2,b3,b4,b5,b6,b7⟩
 dsimp only at b1 b2 b3 b4 b5 b6 b7 |-
 have b8:rl.length=l.length:=by have:=b7.len;rwa [Ab] at this
 conv=>whnf
 refine Al (fun c1=>?A) (fun c1=>?B)
 case' A=>conv=>whnf
 case' A=>refine Al (fun c2=>?A1) (fun c2=>?A2)
 case A1=>
  conv=>whnf
  cases f with
  | zero=>exfalso;omega
  | succ f=>
   unfold CZ at b1
   rw [if_pos ⟨c1,c2⟩] at b1
   dsimp only at b1
   have tf:=Fv (a:=a) (x:=x) (y:=y) (seq:=seq) (left:=left) hg b3
   refine aLoop.rule (Nat × Int × List Img × List Wr) (fun z=>([(2,BZ x),(3,BZ y),(4, .bp 0 0),(5, .bp 1 0),(8, .v (.slice none 0 0)),(9, .v (.slice none 0 0)),(10, .v (.int .i64 0)),(11, .ow 2 rl.length),(12, .ow 3 w.length),(13, .v (.int .i64 pos)),(14, .v (.int .i64 seq)),(15, .v (.int .i64 left)),(16, .bp 4 0),(17, .ow 6 z.2.2.2.length),(18, .v (.int .i64 z.2.1)),(19, .v (.int .i64 1)),(20, .v (.int .i64 z.1))], [.box 23 (A7 g), .box 40 (CE a), .row 78 4 rl, .row 130 2 (w.map DA), .box 78 [.v (.int .i64 seq), .v (.int .i64 pos), .v (.int .i64 0), .ow 5 z.2.2.1.length], .row 83 3 (z.2.2.1.map D4), .row 130 2 (z.2.2.2.map DA)]))
    (fun z=>TxJ g a x y pos seq left z.1 z.2.1 z.2.2.1 z.2.2.2) (fun z=>31 - z.1) (0,0, [], []) (.inl ⟨rfl,rfl,rfl,rfl⟩) ⟨[(1004003,83,3),(17,130,2)],⟨rfl,rfl,rfl,rfl,trivial⟩,⟨rfl,rfl,rfl,rfl,rfl,rfl,rfl,rfl,rfl,rfl,rfl,rfl,rfl,rfl,rfl,rfl,rfl,trivial⟩,⟨rfl,rfl,rfl,rfl,rfl,rfl,rfl,trivial⟩,rfl,rfl,rfl⟩ ?_
   rintro⟨k,of_,ims,more⟩ hJ
   dsimp only at hJ |-
   have hJl:=hJ.len
   conv=>whnf
   refine Al (fun d1=>?C) (fun d1=>?D)
   case' D=>conv=>whnf
   case' D=>refine Al (fun d2=>?D1) (fun d2=>?D2)
   case D2=>
    conv=>whnf
    have hT:=hJ.fin (by omega)
    rw [hT] at b1 tf
    dsimp only at b1 tf
    rw [if_neg (by decide),if_neg (by decide)] at b1
    obtain⟨-,⟨n1,n2,n3⟩,n4⟩:=tf.resolve_right (by omega)
    have hm:=A3 (pos+of_) (show 0<g.sl by omega)
    have hm0:=AD g.sl (show 0<=pos+of_ by omega)
    have w1:IntKind.i64.wrap (pos+of_)=pos+of_:=wi (by omega)
    have w2:IntKind.i64.wrap (seq+1)=seq+1:=wi (by omega)
    have w3:IntKind.i64.wrap (left - of_)=left - of_:=wi (by omega)
    refine⟨(by rw [Ab]),?_⟩
    refine⟨rfl,?_⟩
    refine⟨⟨rfl,by omega⟩,?_⟩
    refine⟨(by rw [Ab]),?_⟩
    refine⟨⟨by rw [Ab],by omega⟩,?_⟩
    conv=>whnf
    rw [w1]
    refine⟨by omega,?_⟩
    conv=>whnf
    rw [w2,w3]
    refine⟨(f,(pos+of_).tmod g.sl,seq+1,left - of_,l ++ [⟨seq,pos,of_,ims⟩],rl ++ [[.v (.int .i64 seq), .v (.int .i64 pos), .v (.int .i64 of_), .sl 3 ims.length fun i=>(ims.map D4).getD i []]],w ++ more),⟨b1,by dsimp only;omega,⟨hm0,hm⟩,by dsimp only;omega,?_,?_,?_⟩,Nat.lt_succ_self f, [],trivial,⟨rfl,rfl,rfl,rfl,rfl,rfl,rfl,by rw [Ae];rfl,by rw [Ae];rfl,rfl,rfl,rfl,trivial⟩,⟨rfl,rfl,rfl,by rw [Aq],trivial⟩,rfl,rfl,rfl⟩
    ·dsimp only
     rw [Ae]
     simp only [Ai,AK]
     omega
    ·dsimp only
     rw [Ae,Ae]
     simp only [Ai,AK]
     omega
    ·dsimp only
     rw [Aq]
     refine SubLL.app ?_ b7
     exact⟨fun _ _ h=>h,fun _ _ h=>h,fun _ _ h=>h,AJ (f:=D4) ims rfl rfl,trivial⟩
   all_goals
    conv=>whnf
    have hk:k=0\/(k:Int)<of_:=by omega
    have hsl:=K2 (at_:=(k:Nat)) hg b3 (by omega)
    obtain⟨s,es⟩:=Cx hsl.1
    have es2:(IntKind.i64.wrap (pos+(k:Nat))).tmod g.sl=(s:Nat):=es
    have hs1:(s:Int)<g.sl:=by rw [es] at hsl;exact hsl.2
    have hin:BP (s:Nat) 0 (g.sl - 1)=true:=AI.2 (by omega)
    have rl1:=Tp g a (x.getD s gz) (y.getD s gz) (s:Nat) seq (k:Nat) of_ left hg hin (hxb _ (AE (by omega))) (hyb _ (AE (by omega)))
    have hF:=GW (g:=g) (a:=a) (x:=x.getD s gz) (y:=y.getD s gz) (slot:=(s:Nat)) (seq:=seq) (at_:=(k:Nat)) (of_:=of_) (left:=left) ⟨by omega,hs1⟩
    have hrec:Cz g a x y pos seq left (k:Nat) of_=((Dv g a (x.getD s gz) (y.getD s gz) (s:Nat) seq (k:Nat) of_ left).1,(Dv g a (x.getD s gz) (y.getD s gz) (s:Nat) seq (k:Nat) of_ left).2.2,(Dv g a (x.getD s gz) (y.getD s gz) (s:Nat) seq (k:Nat) of_ left).2.1.map fun c=>⟨AN g c (s:Nat),C6 g (Dv g a (x.getD s gz) (y.getD s gz) (s:Nat) seq (k:Nat) of_ left).1 c (s:Nat)⟩):=by
     unfold Cz
     dsimp only
     rw [es,Aa]
    generalize Dv g a (x.getD s gz) (y.getD s gz) (s:Nat) seq (k:Nat) of_ left=Q at rl1 hF hrec
    refine aSeq.go ?_
    refine⟨by omega,?_⟩
    conv=>whnf
    rw [es2]
    conv=>whnf
    apply aDraw.tree tys_ok mixed (.one 0 (.one 1 (.one 2 (.one 3 (.one 4 (.one 5 (.one 6 (.one 7 (.one 8 (.one 9 (.one 10 (.one 11 (.one 12 (.one 13 (.one 14 (.two 15 (.one 16 (.one 17 (.one 18 (.one 19 (.one 20 (.one 21 (.one 22 (.one 23 .fin)))))))) 20 (.one 15 (.one 16 (.one 17 (.one 18 (.one 19 (.one 21 (.one 22 (.one 23 .fin)))))))))))))))))))))))) [22,23,24,60,61,62,63,64,65,66,67,68,69,70,71,72,73,74,75,76,77,78,79] (by kernel_rfl)
    ·conv=>whnf
     try (refine And.intro (by first | omega | (simp;done)) ?_;conv=>whnf)
     try (refine And.intro (by first | omega | (simp;done)) ?_;conv=>whnf)
     refine And.intro ?_ ?_
     ·conv=>whnf
      refine Fn.cl rl1 ?_
      conv=>whnf
      try (refine And.intro ⟨rfl,by first | rfl | (simp;done) | (simp;omega),by first | omega | (simp;omega)⟩ ?_;conv=>whnf)
      exact⟨rfl,rfl⟩
     ·conv=>whnf
      refine Fn.cl rl1 ?_
      conv=>whnf
      try (refine And.intro ⟨rfl,by first | rfl | (simp;done) | (simp;omega),by first | omega | (simp;omega)⟩ ?_;conv=>whnf)
      exact⟨rfl,rfl⟩
    conv=>whnf
    obtain⟨r,ws,how⟩:=Q
    dsimp only at hF hrec |-
    refine Al (fun f1=>?_) (fun f1=>?_) <;> (repeat rw [Aa] at f1) <;> conv=>whnf
    ·obtain⟨q1,rfl,rfl⟩:=hF.resolve_left (fun h=>f1 h.1)
     have hT:=hJ.stop hk hrec f1
     rw [hT] at b1 tf
     dsimp only at b1
     rcases q1 with rfl | rfl
     ·rw [if_neg (by decide),if_pos (by decide)] at b1
      subst b1
      have hws:IntKind.i64.wrap (seq - 1)=seq - 1:=by rw [IntKind.wrap_i64];omega
      conv=>whnf
      rw [hws]
      conv=>whnf
      refine Al (fun e1=>?_) (fun e1=>?_) <;> (repeat rw [Aa] at e1) <;> conv=>whnf
      ·exact⟨_,fun c u h=>DB 12 c u h,by rw [E3 e1];rfl⟩
      ·refine⟨rfl,?_⟩
       refine⟨(by rw [Ab]),?_⟩
       exact⟨.tp [DS l,FF w, .v (.int .i64 0)],Bu ⟨Of l b8 rfl b7,AJ w rfl rfl,ri,trivial⟩,by rw [DO (by omega)]⟩
     ·rw [if_pos (by decide)] at b1
      subst b1
      exact⟨_,fun c u h=>DB 12 c u h,rfl⟩
    ·subst f1
     obtain⟨-,⟨o1,o2,o3⟩,o4,o5⟩:=hF.resolve_right (fun h=>by omega)
     have hJ2:=hJ.step hk hrec rfl o1 o3 (by rw [Ab];exact o4)
     dsimp only at hJ2
     obtain⟨IM,hIM⟩:∃ IM,IM=(if r.kind=1 then ims ++ [r.img] else ims):=⟨_,rfl⟩
     rw [<-hIM] at hJ2
     have hJl2:=hJ2.len
     refine aSeq.cut Unit (fun _=>([(2,BZ x),(3,BZ y),(4, .bp 0 0),(5, .bp 1 0),(8, .v (.slice none 0 0)),(9, .v (.slice none 0 0)),(10, .v (.int .i64 0)),(11, .ow 2 rl.length),(12, .ow 3 w.length),(13, .v (.int .i64 pos)),(14, .v (.int .i64 seq)),(15, .v (.int .i64 left)),(16, .bp 4 0),(17, .ow 6 more.length),(18, .v (.int .i64 r.of_)),(19, .v (.int .i64 1)),(20, .v (.int .i64 k)),(21, .v (.int .i64 (s:Nat))),(22, .bp 7 0),(23,iA ws)], [.box 23 (A7 g), .box 40 (CE a), .row 78 4 rl, .row 130 2 (w.map DA), .box 78 [.v (.int .i64 seq), .v (.int .i64 pos), .v (.int .i64 0), .ow 5 IM.length], .row 83 3 (IM.map D4), .row 130 2 (more.map DA), .box 85 (EE r)])) (fun _=>True) ?_ ?_
     ·conv=>whnf
      refine Al (fun k1=>?_) (fun k1=>?_) <;> (repeat rw [Aa] at k1) <;> conv=>whnf
      ·rw [if_pos k1] at hIM
       refine⟨rfl,?_⟩
       refine⟨⟨by rw [Ab],by omega⟩,?_⟩
       conv=>whnf
       exact⟨(),trivial, [],trivial,⟨rfl,rfl,rfl,rfl,rfl,rfl,rfl,rfl,rfl,rfl,rfl,rfl,rfl,rfl,rfl,rfl,rfl,rfl,rfl,rfl,trivial⟩,⟨rfl,rfl,rfl,rfl,by rw [hIM,Ae];rfl,by rw [hIM,Aq];rfl,rfl,rfl,trivial⟩,rfl,rfl,rfl⟩
      ·rw [if_neg k1] at hIM
       exact⟨(),trivial, [],trivial,⟨rfl,rfl,rfl,rfl,rfl,rfl,rfl,rfl,rfl,rfl,rfl,rfl,rfl,rfl,rfl,rfl,rfl,rfl,rfl,rfl,trivial⟩,⟨rfl,rfl,rfl,rfl,by rw [hIM],by rw [hIM],rfl,rfl,trivial⟩,rfl,rfl,rfl⟩
     ·rintro⟨⟩ -
      conv=>whnf
      cases ws with
      | nil=>
       rw [By,List.append_nil] at hJ2
       refine aLoop.rounds 1 ?_
       conv=>whnf
       exact⟨(k+1,r.of_,IM,more),hJ2,by dsimp only;omega, [],trivial,⟨rfl,rfl,rfl,rfl,rfl,rfl,rfl,rfl,rfl,rfl,rfl,rfl,rfl,rfl,rfl,rfl,AA (by omega),trivial⟩,⟨rfl,rfl,rfl,rfl,rfl,rfl,rfl,trivial⟩,rfl,rfl,rfl⟩
      | cons c t=>
       have et:t=[]:=by
        cases t with
        | nil=>rfl
        | cons _ _=>simp at o4
       subst et
       have hL:=o5 c (by simp)
       have c1:=Dq g c (s:Nat) hg hL
       have c2:=I3 g r c (s:Nat) o1 hL
       refine aLoop.rounds 2 ?_
       conv=>whnf
       apply aDraw.tree tys_ok mixed (.one 0 (.one 1 (.one 2 (.one 3 (.one 4 (.one 5 (.one 6 (.one 8 (.one 9 (.one 10 (.one 11 (.one 12 (.one 13 (.one 14 (.one 7 (.one 15 (.one 16 (.one 17 (.one 18 (.one 19 .fin)))))))))))))))))))) [17,101,102,103,104,105,106,107,108,109,110,111,112,113,114,115,116,117,118,119] (by kernel_rfl)
       ·conv=>whnf
        try (refine And.intro (by first | omega | (simp;done)) ?_;conv=>whnf)
        try (refine And.intro (by first | omega | (simp;done)) ?_;conv=>whnf)
        refine Fn.cl c1 ?_
        conv=>whnf
        refine Fn.cl c2 ?_
        conv=>whnf
        try (refine And.intro (by first | rfl | omega) ?_;conv=>whnf)
        try (refine And.intro (by first | omega | exact⟨by first | rfl | (simp;done) | (simp;omega),by omega⟩) ?_;conv=>whnf)
        exact⟨rfl,rfl⟩
       conv=>whnf
       exact⟨(k+1,r.of_,IM,more ++ [⟨AN g c (s:Nat),C6 g r c (s:Nat)⟩]),hJ2,by dsimp only;omega, [],trivial,⟨rfl,rfl,rfl,rfl,rfl,rfl,rfl,rfl,rfl,rfl,rfl,rfl,rfl,by rw [Ae];rfl,rfl,rfl,AA (by omega),trivial⟩,⟨rfl,rfl,rfl,rfl,rfl,rfl,by rw [Aq];rfl,trivial⟩,rfl,rfl,rfl⟩
 all_goals
  conv=>whnf
  have hb:some (l,w,seq)=R:=by
   cases f with
   | zero=>exact b1
   | succ f=>unfold CZ at b1;rw [if_neg (by omega)] at b1;exact b1
  subst hb
  have hws:IntKind.i64.wrap (seq - 1)=seq - 1:=by rw [IntKind.wrap_i64];omega
  rw [hws]
  conv=>whnf
  refine Al (fun e1=>?_) (fun e1=>?_) <;> (repeat rw [Aa] at e1) <;> conv=>whnf
  ·exact⟨_,fun c u h=>DB 12 c u h,by rw [E3 e1];rfl⟩
  ·refine⟨rfl,?_⟩
   refine⟨(by rw [Ab]),?_⟩
   exact⟨.tp [DS l,FF w, .v (.int .i64 0)],Bu ⟨Of l b8 rfl b7,AJ w rfl rfl,ri,trivial⟩,by rw [DO (by omega)]⟩
def eK (d:Dk) (k:Nat):Int:=if d.live k then 0 else 8
def gK (d:Dk) (k:Nat) (a:Int):Gt:=if d.live k then Nx d a else ⟨8, []⟩
theorem Jv {d:Dk} {j k:Nat} (h:d.live k) (hj:j<=k):d.live j:=by unfold Dk.live at *;omega
theorem UH {d:Dk} (hl : -1<=d.left):∀ k,¬d.live k->(d.adv k).left=0
 | 0,h=>by exfalso;apply h;unfold Dk.live;omega
 | k+1,h=>by
  by_cases hk:d.live k
  ·have:=UI k d h hk
   rw [FE k (k+1) d this (by omega)];exact this
  ·have:=UH hl k hk
   rw [FE k (k+1) d this (by omega)];exact this
theorem MZ (g:Geo) (s:Stt) (d:Dk) (k:Nat) (a:Int) (h:DkOk d) (ha:0<=a/\a<d.cells.length) :
  ACalls Tryz.prog false 119 [.bp 0 0, .v (.int .i64 a)] (Je g s (eK d k) (d.adv k)) fun r H=>r = .ag (BB (gK d (k+1) a))/\H=Je g s (eK d (k+1)) (d.adv (k+1)):=by
 have hd:=h.adv k
 have hn:=(D9 k d).1
 have hl:=h.l
 unfold eK gK
 by_cases hk:d.live k
 ·have hr:=W4 g s (d.adv k) a hd (by rw [hn];exact ha)
  rw [if_pos hk]
  by_cases h0:(d.adv k).left=0
  ·have hk1:=(He k d hl.1 hk).1 h0
   rw [if_pos h0,Hq a h0] at hr
   rw [if_neg hk1,if_neg hk1,FE k (k+1) d h0 (by omega)]
   exact hr
  ·have hk1:d.live (k+1):=by
    by_cases e:d.live (k+1)
    ·exact e
    ·exact absurd ((He k d hl.1 hk).2 e) h0
   rw [if_neg h0,Hp a h0] at hr
   rw [if_pos hk1,if_pos hk1]
   exact hr
 ·have hk1:¬d.live (k+1):=fun h=>hk (Jv h (by omega))
  have h0:=UH hl.1 k hk
  rw [if_neg hk,if_neg hk1,if_neg hk1,FE k (k+1) d h0 (by omega)]
  exact W5 g s 8 (d.adv k) a (by decide)
theorem UP (g:Geo) (s:Stt) (d:Dk) (l:List Wr) (k:Nat) (h:DkOk d) (hl:∀ w∈l,NE d.cells.length w) (hk:k<l.length) :
  ACalls Tryz.prog false 94 [.bp 0 0, .v (.int .i64 (l.getD k ⟨0, []⟩).addr),bA (l.getD k ⟨0, []⟩).bytes] (Je g s (Sy (d.writes (l.take k)).2.2) (d.writes (l.take k)).1) fun r H=>(∃ b,r = .v (.bool b))/\H=Je g s (Sy (d.writes (l.take (k+1))).2.2) (d.writes (l.take (k+1))).1:=by
 have hd:=Fm h hl k
 have hm:=hl _ (AE (d:=(⟨0, []⟩:Wr)) hk)
 have hlive:=fun hlv=>Kh (d:=d) hk hlv
 have hstay:=fun hlv=>JD (d:=d) hk hlv
 generalize d.writes (l.take (k+1))=Q' at hlive hstay |-
 generalize d.writes (l.take k)=Q at hd hlive hstay |-
 obtain⟨X,N,dead⟩:=Q
 simp only at hd hlive hstay |-
 cases dead with
 | true=>
  rw [hstay rfl]
  exact(Tf g s 8 X _ _ (by decide)).mono fun r H h=>⟨⟨false,h.1⟩,h.2⟩
 | false=>
  rw [hlive rfl]
  have hc:=Te g s X (l.getD k ⟨0, []⟩).addr (l.getD k ⟨0, []⟩).bytes hd.1 (by rw [hd.2];exact hm.1) hm.2
  refine hc.mono fun r H h=>⟨⟨_,h.1⟩,?_⟩
  rw [h.2]
  show Je g s _ _=Je g s (if decide _=true then 8 else 0) _
  congr 1
  by_cases h8:(X.write (l.getD k ⟨0, []⟩).addr (l.getD k ⟨0, []⟩).bytes).2=8
  ·rw [if_pos h8,if_pos (decide_eq_true h8)]
  ·rw [if_neg h8,if_neg (by rw [decide_eq_false h8];decide)]
def Tu (d:Dk) (ats:List Int) (k:Nat):List Gt:=(List.range k).map fun j=>gK d (j+1) (ats.getD j 0)
theorem Tt (d:Dk) (ats:List Int) (k:Nat):(Tu d ats (k+1)).map BB=(Tu d ats k).map BB ++ [BB (gK d (k+1) (ats.getD k 0))]:=by simp [Tu,Bo]
theorem Vj (d:Dk) (ats:List Int) (k:Nat):(Tu d ats k).length=k:=by simp [Tu]
theorem Vk {d:Dk} {ats:List Int} (h:d.live ats.length):Tu d ats ats.length=AF d ats:=by
 apply List.ext_getElem
 ·simp [Tu,AF]
 ·intro i h1 h2
  have hi:i<ats.length:=by simpa [Tu] using h1
  simp only [Tu,AF,List.getElem_map,List.getElem_range]
  rw [gK,if_pos (Jv h (by omega)),List.getD_eq_getElem?_getD,List.getElem?_eq_getElem hi];rfl
def Vl (d:Dk) (g:Geo) (c:Nat) (k:Nat):List Gt:=(List.range k).map fun j=>gK d (2*j+1+c) (AN g (c:Nat) (j:Nat))
theorem Og (d:Dk) (g:Geo) (c:Nat) (k:Nat):(Vl d g c (k+1)).map BB=(Vl d g c k).map BB ++ [BB (gK d (2*k+1+c) (AN g (c:Nat) (k:Nat)))]:=by simp [Vl,Bo]
theorem QF (d:Dk) (g:Geo) (c:Nat) (k:Nat):(Vl d g c k).length=k:=by simp [Vl]
theorem QG {d:Dk} {g:Geo} {c:Nat} (hc:c<=1) (h:d.live (2*g.sl.toNat)):Vl d g c g.sl.toNat=AF d (AL g (c:Nat)):=by
 unfold Vl AF AL
 rw [Dg]
 refine BQ fun j hj=>?_
 have hj:=AC.1 hj
 rw [gK,if_pos (Jv h (by omega))];rfl
theorem V6 {d:Dk} {l:List Wr} (h:l≠ []):(if Sy (d.writes l).2.2=0 then if (d.writes l).1.left=0 then 8 else 0 else Sy (d.writes l).2.2:Int)=Sy (d.mend l).2/\(if Sy (d.writes l).2.2=0 then if (d.writes l).1.left=0 then (d.writes l).1 else (d.writes l).1.flush else (d.writes l).1)=(d.mend l).1:=by
 rw [Dk.mend,if_neg h]
 cases hd:(d.writes l).2.2 with
 | true=>rw [DM hd];exact⟨rfl,rfl⟩
 | false=>
  rw [DL hd]
  by_cases h0:(d.writes l).1.left=0
  ·rw [if_pos h0,if_pos h0,if_pos h0];exact⟨rfl,rfl⟩
  ·rw [if_neg h0,if_neg h0,if_neg h0];exact⟨rfl,rfl⟩
theorem RE (g:Geo) (s:Stt) (d:Dk) (hg:AS g=true) (h:DkOk d) (hn:(d.cells.length:Int)=A0 g) :
  ACalls Tryz.prog false 52 [.bp 0 0] (Je g s 0 d) fun r H=>(∃ S,r = .ag (Fg S)/\((BK g d).2.1=0->S=(BK g d).2.2))/\H=MN g s (BK g d).2.1 (BK g d).1:=by
 obtain⟨g1,g2,g3,g4,g5⟩:=Am.1 hg
 have hcg:=Dt hg
 have hl:=h.l
 have e0:eK d 0=0:=by unfold eK;rw [if_pos];unfold Dk.live;omega
 refine ACalls.ofR tys_ok Tryz.func52 rfl rfl (Ad rfl) ?_
 conv=>whnf
 refine aLoop.ruleRR Nat (fun k=>([(0, .bp 0 0),(2, .bp 4 0),(3, .ow 5 k),(4,nilV),(5,nilV),(6,ze k)],Xz g s (eK d k) (d.adv k) [.box 44 [ze 0,ze 0,ze 0,ze 0,ze 0, .v (.string ⟨#[]⟩),nilV,nilV, .v (.bool false),ze 0,ze 0,ze 0,ze 0,nilV], .row 187 2 ((Tu d (BE g) k).map BB)])) (fun k=>k<=g.an.toNat) (fun k=>g.an.toNat - k) 0 (Ag _)
  ⟨_,_,ConvF.refl _ _, [(3,187,2)],⟨rfl,rfl,trivial⟩, [0,1,2,3,4,5],⟨⟨rfl,rfl,rfl,rfl,rfl,rfl,trivial⟩,⟨by rw [e0];rfl,rfl,rfl,rfl,rfl,rfl,trivial⟩,rfl,rfl,rfl,rfl,rfl⟩⟩ ?_
 intro k hk
 conv=>whnf
 refine Al (fun h6=>?_) (fun h6=>?_) <;> (repeat rw [Aa] at h6) <;> conv=>whnf
 ·have hk':k<g.an.toNat:=by omega
  have hr:=MZ g s d k k h (by omega)
  repeat' (first | (refine aSeq.go ?_;conv=>whnf) | fail)
  refine ACalls.frame [0,1,2,3] hr rfl rfl rfl rfl (by decide) (Ce rfl) ⟨rfl,rfl,rfl,rfl,trivial⟩ ?_
  rintro _ _ ⟨rfl,rfl⟩
  refine⟨rfl,?_⟩
  refine⟨⟨by rw [Ab,Vj],by omega⟩,?_⟩
  conv=>whnf
  exact⟨k+1,hk',by omega,WkN.r (s:= [0,1,2,3,4,5]) ⟨⟨rfl,rfl,rfl,rfl,rfl,AA (by omega),trivial⟩,⟨rfl,rfl,rfl,rfl,rfl,congrArg (fun l=>some (AB.row _ _ l)) (by rw [Tt,J9 hk'];rfl),trivial⟩,rfl,rfl,rfl,rfl,rfl⟩⟩
 ·have ek:k=g.an.toNat:=by omega
  subst ek
  by_cases hlv:d.live g.an.toNat
  ·have eA:eK d g.an.toNat=0:=by unfold eK;rw [if_pos hlv]
   rw [eA]
   have hrl:Tu d (BE g) g.an.toNat=AF d (BE g):=by have:=Vk (d:=d) (ats:=BE g) (by rw [CI];exact hlv);rwa [CI] at this
   rw [hrl]
   have hM:BK g d=match En g (AF d (BE g)) with | none=>(d.adv g.an.toNat,11,st0) | some (a,_)=>Gv g a (d.adv g.an.toNat):=by unfold BK;rw [if_pos hlv];rfl
   have hnw:=PE g (AF d (BE g)) hg (by rw [BY,CI];omega) (Er h _)
   have hpo:=fun {a j}=>Gr (g:=g) (l:=AF d (BE g)) hg (AF d (BE g)).length (a:=a) (j:=j)
   have hpo:∀ {a j},En g (AF d (BE g))=some (a,j)->AY g a=true:=hpo
   have hgl:(AF d (BE g)).length=g.an.toNat:=by rw [BY,CI]
   generalize AF d (BE g)=L at hnw hpo hgl hM |-
   have hd1:=h.adv g.an.toNat
   have hs1:=(D9 g.an.toNat d).1
   generalize d.adv g.an.toNat=d1 at hd1 hs1 hM |-
   conv=>whnf
   refine ACalls.shut hnw.go ?_
   refine⟨(by rw [Ab,hgl]),?_⟩
   conv=>whnf
   refine ACalls.sub [.ag (A7 g),BZ L] ⟨ri,AJ (f:=BB) L hgl.symm rfl,trivial⟩ ?_
   refine Fn.cl hnw ?_
   conv=>whnf
   cases hP:En g L with
   | none=>
    rw [hP] at hM
    replace hM:BK g d=(d1,11,st0):=hM
    rw [hM]
    exact⟨.ag (Fg st0), .ag (Fg st0),MN g s 11 d1,AG st0_sub,WkN.rc (ConvF.ofH (ConvH.move 1 3 (by decide) rfl rfl)) (s:= [0,1,2,3,7]) ⟨⟨rfl,trivial⟩,⟨rfl,rfl,rfl,trivial,rfl,trivial⟩,rfl,rfl,rfl,rfl,rfl⟩,⟨st0,rfl,fun _=>rfl⟩,rfl⟩
   | some q=>
    obtain⟨a,j⟩:=q
    have hao:=hpo hP
    rw [hP] at hM
    replace hM:BK g d=Gv g a d1:=hM
    rw [hM]
    clear hM hnw
    have hl1:=hd1.l
    have e10:eK d1 0=0:=by unfold eK;rw [if_pos];unfold Dk.live;omega
    conv=>whnf
    refine aLoop.ruleRR Nat (fun k=>([(0, .bp 0 0),(2, .bp 4 0),(4, .ow 6 k),(5, .ow 7 k),(7, .bp 5 0),(9,ze k)],Xz g s (eK d1 (2*k)) (d1.adv (2*k)) [.box 44 [ze 0,ze 0,ze 0,ze 0,ze 0, .v (.string ⟨#[]⟩),nilV,nilV, .v (.bool false),ze 0,ze 0,ze 0,ze 0,nilV], .box 40 (CE a), .row 187 2 ((Vl d1 g 0 k).map BB), .row 187 2 ((Vl d1 g 1 k).map BB)])) (fun k=>k<=g.sl.toNat) (fun k=>g.sl.toNat - k) 0 (Ag _)
     ⟨_,_,ConvF.refl _ _, [(4,187,2),(5,187,2)],⟨rfl,rfl,rfl,rfl,trivial⟩, [0,1,2,3,4,6,7,8],⟨⟨rfl,rfl,rfl,rfl,rfl,rfl,trivial⟩,⟨by show _=some (AB.box _ (X0 _ _ _ (eK d1 0)));rw [e10];rfl,rfl,rfl,rfl,rfl,rfl,rfl,rfl,trivial⟩,rfl,rfl,rfl,rfl,rfl⟩⟩ ?_
    intro k hk
    conv=>whnf
    refine Al (fun h7=>?_) (fun h7=>?_) <;> (repeat rw [Aa] at h7) <;> conv=>whnf
    ·have hk':k<g.sl.toNat:=by omega
     have hla:=Dq g 0 k hg (by simp only [Gh,Bool.and_eq_true,AI];omega)
     have hlb:=Dq g 1 k hg (by simp only [Gh,Bool.and_eq_true,AI];omega)
     have hra:=MZ g s d1 (2*k) (AN g 0 k) hd1 (Gc hg (by rw [hs1];exact hn) (.inl rfl) (by omega))
     have hrb:=MZ g s d1 (2*k+1) (AN g 1 k) hd1 (Gc hg (by rw [hs1];exact hn) (.inr rfl) (by omega))
     repeat' (first | (refine aSeq.go ?_;conv=>whnf) | fail)
     refine Fn.cl hla ?_
     conv=>whnf
     refine ACalls.frame [0,1,2,3] hra rfl rfl rfl rfl (by decide) (Ce rfl) ⟨rfl,rfl,rfl,rfl,trivial⟩ ?_
     rintro _ _ ⟨rfl,rfl⟩
     refine⟨rfl,?_⟩
     refine⟨⟨by rw [Ab,QF],by omega⟩,?_⟩
     conv=>whnf
     repeat' (first | (refine aSeq.go ?_;conv=>whnf) | fail)
     refine Fn.cl hlb ?_
     conv=>whnf
     refine ACalls.frame [0,1,2,3] hrb rfl rfl rfl rfl (by decide) (Ce rfl) ⟨rfl,rfl,rfl,rfl,trivial⟩ ?_
     rintro _ _ ⟨rfl,rfl⟩
     refine⟨rfl,?_⟩
     refine⟨⟨by rw [Ab,QF],by omega⟩,?_⟩
     conv=>whnf
     repeat' (first | (refine aSeq.go ?_;conv=>whnf) | fail)
     exact⟨k+1,hk',by omega,WkN.r (s:= [0,1,2,3,4,5,6,7]) ⟨⟨rfl,rfl,rfl,rfl,rfl,AA (by omega),trivial⟩,⟨rfl,rfl,rfl,rfl,rfl,rfl,congrArg (fun l=>some (AB.row _ _ l)) (by rw [Og];rfl),congrArg (fun l=>some (AB.row _ _ l)) (by rw [Og];rfl),trivial⟩,rfl,rfl,rfl,rfl,rfl⟩⟩
    ·have ek:k=g.sl.toNat:=by omega
     subst ek
     unfold Gv
     by_cases hl2:d1.live (2*g.sl.toNat)
     ·have eB:eK d1 (2*g.sl.toNat)=0:=by unfold eK;rw [if_pos hl2]
      rw [eB,if_pos hl2,QG (by decide) hl2,QG (by decide) hl2]
      have hx1:(AF d1 (AL g 0)).length=g.sl.toNat:=by rw [BY,Cf]
      have hx2:(AF d1 (AL g 1)).length=g.sl.toNat:=by rw [BY,Cf]
      have hsc:=Tk g a (AF d1 (AL g 0)) (AF d1 (AL g 1)) hg hao (by omega) (by omega) (Er hd1 _) (Er hd1 _)
      have hlast:=HT (x:=AF d1 (AL g 0)) (y:=AF d1 (AL g 1)) hg hao
      have hin:=I1 (x:=AF d1 (AL g 0)) (y:=AF d1 (AL g 1)) (n:=d1.cells.length) hg hao (by omega) (by omega) (by rw [hs1];exact hn)
      have c0:AF d1 (AL g ((0:Nat):Int))=AF d1 (AL g 0):=rfl
      have c1:AF d1 (AL g ((1:Nat):Int))=AF d1 (AL g 1):=rfl
      rw [c0,c1]
      clear c0 c1
      generalize CY g a (AF d1 (AL g 0)) (AF d1 (AL g 1))=S at hsc hlast hin |-
      obtain⟨T,W,e⟩:=S
      simp only at hsc hlast hin
      generalize AF d1 (AL g 0)=X1 at hx1 hsc |-
      generalize AF d1 (AL g 1)=X2 at hx2 hsc |-
      have hd2:=hd1.adv (2*g.sl.toNat)
      have hs2:=(D9 (2*g.sl.toNat) d1).1
      generalize d1.adv (2*g.sl.toNat)=d2 at hd2 hs2 |-
      conv=>whnf
      apply aDraw.treeK (0) tys_ok mixed (.one 0 (.one 1 (.one 2 (.one 3 (.one 4 (.one 5 (.one 6 (.one 7 (.one 8 (.one 9 (.one 10 (.one 11 (.one 12 (.one 13 (.one 14 .fin))))))))))))))) (by kernel_rfl)
      conv=>whnf
      (refine ACalls.shut hsc.go ?_;(conv=>whnf);refine And.intro (by rw [Ab,hx1]) ?_;(conv=>whnf);refine And.intro (by rw [Ab,hx2]) ?_;(conv=>whnf);refine ACalls.sub [.ag (A7 g), .ag (CE a),BZ X1,BZ X2] ⟨ri,ri,AJ (f:=BB) X1 hx1.symm rfl,AJ (f:=BB) X2 hx2.symm rfl,trivial⟩ ?_;refine Fn.cl hsc ?_)
      conv=>whnf
      unfold Ih
      by_cases he:e=0
      ·subst he
       rw [if_neg (by simp)]
       have hin:=hin rfl
       have hlast:=hlast rfl
       simp only
       conv=>whnf
       have hWin:∀ w∈W,NE d2.cells.length w:=by rw [hs2];exact hin.1
       refine aLoop.ruleRR Nat (fun k=>([(0, .bp 0 0),(2, .bp 4 0),(7, .bp 5 0),(10,DS T),(11,FF W),(13,ze k)],Xz g s (Sy (d2.writes (W.take k)).2.2) (d2.writes (W.take k)).1 [.box 44 [ze 0,ze 0,ze 0,ze 0,ze 0, .v (.string ⟨#[]⟩),nilV,nilV, .v (.bool false),ze 0,ze 0,ze 0,ze 0,nilV], .box 40 (CE a)])) (fun k=>k<=W.length) (fun k=>W.length - k) 0 (Ag _)
        (WkN.r (s:= [0,1,2,3,4,5]) ⟨⟨rfl,rfl,rfl,rfl,rfl,rfl,trivial⟩,⟨rfl,rfl,rfl,rfl,rfl,rfl,trivial⟩,rfl,rfl,rfl,rfl,rfl⟩) ?_
       intro k hk
       conv=>whnf
       refine Al (fun h8=>?_) (fun h8=>?_) <;> (repeat rw [Aa] at h8) <;> conv=>whnf
       ·have hk':k<W.length:=by omega
        have hw:=UP g s d2 W k hd2 hWin hk'
        repeat' (first | (refine aSeq.go ?_;conv=>whnf) | fail)
        apply aDraw.treeK (2 ^ 139) tys_ok mixed (.one 0 (.one 1 (.one 2 (.one 3 (.one 4 (.one 5 (.one 6 (.one 7 (.one 8 (.one 9 (.one 10 (.one 11 .fin)))))))))))) (by kernel_rfl)
        conv=>whnf
        try (refine And.intro (by first | omega | (simp;done)) ?_;conv=>whnf)
        try (refine And.intro (by first | omega | (simp;done)) ?_;conv=>whnf)
        (rw [Aa];refine ACalls.frame [0,1,2,3] hw rfl rfl rfl rfl (by decide) (Ce rfl) ⟨rfl,rfl,rfl,rfl,trivial⟩ ?_;rintro _ _ ⟨⟨b,rfl⟩,rfl⟩)
        exact⟨k+1,hk',by omega,WkN.r (s:= [0,1,2,3,4,5]) ⟨⟨rfl,rfl,rfl,rfl,rfl,AA (by omega),trivial⟩,⟨rfl,rfl,rfl,rfl,rfl,rfl,trivial⟩,rfl,rfl,rfl,rfl,rfl⟩⟩
       ·have ek:k=W.length:=by omega
        subst ek
        rw [List.take_length]
        have hdw:=Fm hd2 hWin W.length
        rw [List.take_length] at hdw
        refine aSeq.cutR Unit (fun _=>([(0, .bp 0 0),(2, .bp 5 0),(7, .bp 6 0),(10,DS T)],MN g s (Sy (d2.mend W).2) (d2.mend W).1 ++ [AB.box 44 [ze 0,ze 0,ze 0,ze 0,ze 0, .v (.string ⟨#[]⟩),nilV,nilV, .v (.bool false),ze 0,ze 0,ze 0,ze 0,nilV],AB.box 40 (CE a)])) (fun _=>True) ?_ ?_
        ·by_cases hW:W=[]
         ·subst hW
          exact⟨(),trivial,WkN.rc (ConvF.ofH (ConvH.move 1 3 (by decide) rfl rfl)) (s:= [0,1,2,3,6,4,5]) ⟨⟨rfl,rfl,rfl,rfl,trivial⟩,⟨rfl,rfl,rfl,trivial,rfl,rfl,rfl,trivial⟩,rfl,rfl,rfl,rfl,rfl⟩⟩
         ·have hWl:0<W.length:=Dn.2 hW
          obtain⟨m1,m2⟩:=V6 (d:=d2) hW
          have hf:=T0 g s (Sy (d2.writes W).2.2) (d2.writes W).1 hdw.1
          rw [m1,m2] at hf
          conv=>whnf
          refine Al (fun _=>?_) (fun hq=>absurd hq (by omega))
          conv=>whnf
          refine ACalls.frame [0,1,2,3] hf rfl rfl rfl rfl (by decide) (Ce rfl) ⟨rfl,rfl,rfl,rfl,trivial⟩ ?_
          rintro _ _ ⟨rfl,rfl⟩
          exact⟨(),trivial,WkN.r (s:= [0,1,2,3,6,4,5]) ⟨⟨rfl,rfl,rfl,rfl,trivial⟩,⟨rfl,rfl,rfl,trivial,rfl,rfl,rfl,trivial⟩,rfl,rfl,rfl,rfl,rfl⟩⟩
        ·rintro _ _
         have hdm:DkOk (d2.mend W).1/\(d2.mend W).1.cells.length=d2.cells.length:=by
          unfold Dk.mend
          split
          ·exact⟨hd2,rfl⟩
          ·exact Fq hd2 hWin
         generalize d2.mend W=M at hdm |-
         obtain⟨d3,dead⟩:=M
         simp only at hdm |-
         cases dead with
         | true=>
          rw [if_pos rfl]
          conv=>whnf
          repeat' (first | (refine aSeq.go ?_;conv=>whnf) | fail)
          exact⟨.ag (Fg st0), .ag (Fg st0),MN g s 8 d3,AG st0_sub,WkN.r (s:= [0,1,2,3,4]) ⟨⟨rfl,trivial⟩,⟨rfl,rfl,rfl,trivial,rfl,trivial⟩,rfl,rfl,rfl,rfl,rfl⟩,⟨st0,rfl,fun _=>rfl⟩,rfl⟩
         | false=>
          rw [if_neg (by decide)]
          have hpa:=Ej hao
          unfold Ig
          by_cases hmx:a.gen=4294967295\/a.epoch=4294967295
          ·rw [if_pos hmx]
           conv=>whnf
           repeat' (first | (refine aSeq.go ?_;conv=>whnf) | fail)
           refine Al (fun _=>?_) (fun q1=>?_)
           ·conv=>whnf
            repeat' (first | (refine aSeq.go ?_;conv=>whnf) | fail)
            exact⟨.ag (Fg st0), .ag (Fg st0),MN g s 14 d3,AG st0_sub,WkN.r (s:= [0,1,2,3,4]) ⟨⟨rfl,trivial⟩,⟨rfl,rfl,rfl,trivial,rfl,trivial⟩,rfl,rfl,rfl,rfl,rfl⟩,⟨st0,rfl,fun _=>rfl⟩,rfl⟩
           ·conv=>whnf
            refine Al (fun _=>?_) (fun q2=>absurd hmx (by omega))
            conv=>whnf
            repeat' (first | (refine aSeq.go ?_;conv=>whnf) | fail)
            exact⟨.ag (Fg st0), .ag (Fg st0),MN g s 14 d3,AG st0_sub,WkN.r (s:= [0,1,2,3,4]) ⟨⟨rfl,trivial⟩,⟨rfl,rfl,rfl,trivial,rfl,trivial⟩,rfl,rfl,rfl,rfl,rfl⟩,⟨st0,rfl,fun _=>rfl⟩,rfl⟩
          ·rw [if_neg hmx]
           have hna:=IB (n:=T.length) hao (fun e=>hmx (.inl e)) (fun e=>hmx (.inr e)) hlast.2
           have hban:=JN g s d3 (CK a T.length) hg hna hdm.1 (EN hg hna (by rw [hdm.2,hs2,hs1];exact hn))
           have w1:IntKind.i64.wrap (a.gen+1)=a.gen+1:=wi (by omega)
           have w2:IntKind.i64.wrap (a.epoch+1)=a.epoch+1:=wi (by omega)
           have w3:IntKind.i64.wrap (IntKind.i64.wrap (a.seq+T.length) - 1)=a.seq+T.length - 1:=by
            rw [wi (n:=a.seq+T.length) (by omega)];exact wi (by omega)
           conv=>whnf
           repeat' (first | (refine aSeq.go ?_;conv=>whnf) | fail)
           refine Al (fun q=>absurd q (by omega)) (fun q1=>?_)
           conv=>whnf
           refine Al (fun q=>absurd q (by omega)) (fun q2=>?_)
           conv=>whnf
           repeat' (first | (refine aSeq.go ?_;conv=>whnf) | fail)
           rw [w1,w2,w3]
           refine ACalls.frame [0,1,2,4] hban rfl rfl rfl rfl (by decide) (Nn rfl rfl) ⟨rfl,rfl,rfl,rfl,trivial⟩ ?_
           rintro _ _ ⟨rfl,rfl⟩
           have hpn:(d3.putAll (Au g (CK a T.length))).2.1=(d3.writes (Au g (CK a T.length))).2.1:=by
            cases hdd:(d3.writes (Au g (CK a T.length))).2.2 with
            | true=>rw [DM hdd]
            | false=>rw [DL hdd];split <;> rfl
           rw [<-hpn]
           generalize d3.putAll (Au g (CK a T.length))=Q
           obtain⟨d4,n,dead⟩:=Q
           simp only
           cases dead with
           | true=>
            rw [if_pos rfl]
            conv=>whnf
            repeat' (first | (refine aSeq.go ?_;conv=>whnf) | fail)
            exact⟨.ag (Fg (GD (CK a T.length) T)), .ag (Fg (GD (CK a T.length) T)),MN g s 8 d4,AG ⟨ri,ri,ri,ri,ri,ri,ri,ri,ri,ri,ri,ri,ri,AP 1 _,trivial⟩,WkN.r (s:= [0,1,2,3,7]) ⟨⟨rfl,trivial⟩,⟨rfl,rfl,rfl,trivial,rfl,trivial⟩,rfl,rfl,rfl,rfl,rfl⟩,⟨_,rfl,fun h=>absurd h (show ¬(8:Int)=0 by decide)⟩,rfl⟩
           | false=>
            rw [if_neg (by decide)]
            by_cases hn0:n=0
            ·subst hn0
             rw [if_pos rfl]
             conv=>whnf
             repeat' (first | (refine aSeq.go ?_;conv=>whnf) | fail)
             exact⟨.ag (Fg (GD (CK a T.length) T)), .ag (Fg (GD (CK a T.length) T)),MN g s 14 d4,AG ⟨ri,ri,ri,ri,ri,ri,ri,ri,ri,ri,ri,ri,ri,AP 1 _,trivial⟩,WkN.r (s:= [0,1,2,3,7]) ⟨⟨rfl,trivial⟩,⟨rfl,rfl,rfl,trivial,rfl,trivial⟩,rfl,rfl,rfl,rfl,rfl⟩,⟨_,rfl,fun h=>absurd h (show ¬(14:Int)=0 by decide)⟩,rfl⟩
            ·rw [if_neg hn0]
             have hnb:((n:Int) == 0)=false:=beq_eq_false_iff_ne.2 (by omega)
             conv=>whnf
             repeat' (first | (refine aSeq.go ?_;conv=>whnf) | fail)
             rw [hnb]
             conv=>whnf
             repeat' (first | (refine aSeq.go ?_;conv=>whnf) | fail)
             exact⟨.ag (Fg (GD (CK a T.length) T)), .ag (Fg (GD (CK a T.length) T)),MN g s 0 d4,AG ⟨ri,ri,ri,ri,ri,ri,ri,ri,ri,ri,ri,ri,ri,AP 1 _,trivial⟩,WkN.r (s:= [0,1,2,3,7]) ⟨⟨rfl,trivial⟩,⟨rfl,rfl,rfl,trivial,rfl,trivial⟩,rfl,rfl,rfl,rfl,rfl⟩,⟨_,rfl,fun _=>rfl⟩,rfl⟩
      ·rw [if_pos (by simpa using he)]
       have hb:(e != 0)=true:=bne_iff_ne.2 he
       rw [hb]
       exact⟨.ag (Fg st0), .ag (Fg st0),MN g s e d2,AG st0_sub,WkN.rc (ConvF.ofH (ConvH.move 1 3 (by decide) rfl rfl)) (s:= [0,1,2,3,8]) ⟨⟨rfl,trivial⟩,⟨rfl,rfl,rfl,trivial,rfl,trivial⟩,rfl,rfl,rfl,rfl,rfl⟩,⟨st0,rfl,fun h=>absurd h he⟩,rfl⟩
     ·have eB:eK d1 (2*g.sl.toNat)=8:=by unfold eK;rw [if_neg hl2]
      rw [eB,if_neg hl2]
      exact⟨.ag (Fg st0), .ag (Fg st0),MN g s 8 (d1.adv (2*g.sl.toNat)),AG st0_sub,WkN.rc (ConvF.ofH (ConvH.move 1 3 (by decide) rfl rfl)) (s:= [0,1,2,3,8]) ⟨⟨rfl,trivial⟩,⟨rfl,rfl,rfl,trivial,rfl,trivial⟩,rfl,rfl,rfl,rfl,rfl⟩,⟨st0,rfl,fun _=>rfl⟩,rfl⟩
  ·have eA:eK d g.an.toNat=8:=by unfold eK;rw [if_neg hlv]
   have hM:BK g d=(d.adv g.an.toNat,8,st0):=by unfold BK;rw [if_neg hlv]
   rw [eA,hM]
   exact⟨.ag (Fg st0), .ag (Fg st0),MN g s 8 (d.adv g.an.toNat),AG st0_sub,WkN.rc (ConvF.ofH (ConvH.move 1 3 (by decide) rfl rfl)) (s:= [0,1,2,3,6]) ⟨⟨rfl,trivial⟩,⟨rfl,rfl,rfl,trivial,rfl,trivial⟩,rfl,rfl,rfl,rfl,rfl⟩,⟨st0,rfl,fun _=>rfl⟩,rfl⟩
theorem NO (l:List Tx) (hl:l.length<=1000000) (hi:∀ t∈l,t.images.length<=1000000/\∀ x∈t.images,x.bytes.length<=1000000000):Fn Tryz.prog 153 [DS l] fun r=>r=DS l:=by
 refine Fn.st Tryz.func153 rfl ?_
 conv=>whnf
 refine aLoop.ruleRR Nat (fun k=>([(0,DS l),(3, .ow 0 k),(4,ze k)], [.row 78 4 ((l.take k).map Hi)])) (fun k=>k<=l.length) (fun k=>l.length - k) 0 (Ag _)
  ⟨_,_,ConvF.refl _ _, [(3,78,4)],⟨rfl,rfl,trivial⟩, [0],⟨⟨rfl,rfl,rfl,trivial⟩,⟨rfl,trivial⟩,rfl,rfl,rfl,rfl,rfl⟩⟩ ?_
 intro k hk
 conv=>whnf
 refine Al (fun h6=>?_) (fun h6=>?_) <;> (repeat rw [Aa] at h6) <;> conv=>whnf
 ·have hk':k<l.length:=by omega
  have hm:=hi _ (AE (d:=(⟨0,0,0, []⟩:Tx)) hk')
  have b1:=L7 (l.getD k ⟨0,0,0, []⟩).images hm.1 hm.2
  have hl:k=((l.take k).map Hi).length:=by simp;omega
  apply aDraw.treeK (0) tys_ok mixed (.one 0 (.one 1 (.one 2 (.one 3 (.one 4 (.one 5 (.one 6 (.one 7 (.one 8 (.one 9 (.one 10 (.one 11 (.one 12 (.one 13 (.one 14 (.one 15 (.one 16 (.one 17 (.one 18 (.one 19 (.one 20 (.one 21 (.one 22 (.one 23 (.one 24 (.one 25 .fin)))))))))))))))))))))))))) (by kernel_rfl)
  conv=>whnf
  try (refine And.intro (by first | omega | (simp;done)) ?_;conv=>whnf)
  try (refine And.intro (by first | omega | (simp;done)) ?_;conv=>whnf)
  try (refine And.intro (by first | omega | (simp;done)) ?_;conv=>whnf)
  try (refine And.intro (by first | omega | (simp;done)) ?_;conv=>whnf)
  refine Fn.cl b1 ?_
  conv=>whnf
  try (refine And.intro (by first | rfl | omega) ?_;conv=>whnf)
  try (refine And.intro (by first | omega | exact⟨by first | rfl | (simp;done) | (simp;omega),by omega⟩) ?_;conv=>whnf)
  all_goals exact⟨k+1,hk',by omega,WkN.r (s:= [0]) ⟨⟨rfl,rfl,AA (by omega),trivial⟩,⟨congrArg (fun l=>some (AB.row _ _ l)) (FT (f:=Hi) (d:=(⟨0,0,0, []⟩:Tx)) hk').symm,trivial⟩,rfl,rfl,rfl,rfl,rfl⟩⟩
 ·have ek:k=l.length:=by omega
  subst ek
  rw [List.take_length]
  refine And.intro (Ab _).symm ?_
  exact⟨DS l,AJ (f:=Hi) l rfl rfl,rfl⟩
theorem MJ (s:Stt) (h:StSm s):Fn Tryz.prog 93 [.ag (Fg s)] fun r=>r = .ag (Fg s):=by
 have c1:=L8 s.a (by have:=h.h.1;omega) h.h.2
 have c2:=NO s.txns (by have:=h.t.1;omega) (fun t ht=>⟨by have:=(h.t.2 t ht).1;omega,fun x hx=>by have:=(h.t.2 t ht).2 x hx;omega⟩)
 have c3:=JG s.lost h.o
 refine Fn.st Tryz.func93 rfl ?_
 conv=>whnf
 apply aDraw.treeK (0) tys_ok mixed (.one 0 (.one 1 (.one 3 (.one 4 (.one 6 (.one 7 (.one 8 (.one 2 (.one 10 (.one 5 (.one 9 (.one 11 (.one 12 (.one 13 (.one 14 (.one 15 (.one 16 .fin))))))))))))))))) (by kernel_rfl)
 conv=>whnf
 refine Fn.cl c1 ?_
 conv=>whnf
 refine Fn.cl c2 ?_
 conv=>whnf
 refine Fn.cl c3 ?_
 conv=>whnf
 try (refine And.intro ⟨rfl,by first | rfl | (simp;done) | (simp;omega),by first | omega | (simp;omega)⟩ ?_;conv=>whnf)
 try (refine And.intro ⟨rfl,by first | rfl | (simp;done) | (simp;omega),by first | omega | (simp;omega)⟩ ?_;conv=>whnf)
 try (refine And.intro ⟨rfl,by first | rfl | (simp;done) | (simp;omega),by first | omega | (simp;omega)⟩ ?_;conv=>whnf)
 all_goals exact⟨_,ri,rfl⟩
theorem DkOk.big {d:Dk} (h:DkOk d):d.cells.length<=1000000/\d.cache.length<=1000000/\(∀ c∈d.cells,c.bytes.length<=1000000000/\c.old.length<=1000000000)/\(∀ w∈d.cache,w.bytes.length<=1000000000):=
 ⟨by have:=h.n;omega,by have:=h.m;omega,fun c hc=>by have:=(h.c c hc).2;omega,fun w hw=>by have:=(h.w w hw).2;omega⟩
theorem Ma (g:Geo) (d:Dk) (s:Stt) (h:DkOk d) (hs:StSm s):ACalls Tryz.prog false 30 [.ag (A7 g), .ag (DG d), .ag (Fg s)] [] fun r H=>r = .bp 0 0/\H=Je g s 0 d:=by
 obtain⟨q1,q2,q3,q4⟩:=h.big
 have c1:=Ve d q1 q2 q3 q4
 have c2:=MJ s hs
 refine ACalls.ofR tys_ok Tryz.func30 rfl rfl (Ad rfl) ?_
 conv=>whnf
 apply aDraw.treeK (0) tys_ok mixed (.one 0 (.one 1 (.one 3 (.one 2 (.one 4 (.one 5 (.one 6 (.one 7 .fin)))))))) (by kernel_rfl)
 conv=>whnf
 (refine ACalls.beside c1 rfl ?_;rintro _ _ ⟨rfl,rfl⟩)
 conv=>whnf
 refine Fn.cl c2 ?_
 exact⟨_, .bp 0 0,Je g s 0 d,fun _ _ h=>h,WkN.r (s:= [6,3,4,5]) ⟨⟨rfl,trivial⟩,⟨rfl,rfl,rfl,rfl,trivial⟩,rfl,rfl,rfl,rfl,rfl⟩,rfl,rfl⟩
inductive TrJ where
 | fin
 | jump (k:Nat)
 | one (i:Nat) (r:TrJ)
 | non
 | alt (i:Nat) (a:TrJ) (r:TrJ)
abbrev Seg:=List Nat × Nat × TrJ
def segGet:List Seg->Nat->Option Seg
 | [],_=>none
 | x::_,0=>some x
 | _::r,k+1=>segGet r k
def TrJ.depth (sg:List Seg):TrJ->Nat
 | .fin=>0
 | .jump k=>match segGet sg k with | some s=>s.2.1 | none=>0
 | .one _ r=>r.depth sg+1
 | .non=>0
 | .alt _ a r=>max (a.depth sg+1) (r.depth sg)
def TrJ.alts:TrJ->List Nat
 | .alt i _ r=>i::r.alts
 | _=> []
def eqB:List Bool->List Bool->Bool
 | [], []=>true
 | a::l,b::m=>(a == b)&&eqB l m
 | _,_=>false
theorem eqB_eq:∀ {l m:List Bool},eqB l m=true->l=m
 | [], [],_=>rfl
 | a::l,b::m,h=>by
  simp only [eqB,Bool.and_eq_true,beq_iff_eq] at h
  rw [h.1,eqB_eq h.2]
 | [],_::_,h=>by simp [eqB] at h
 | _::_, [],h=>by simp [eqB] at h
def eqN:List Nat->List Nat->Bool
 | [], []=>true
 | a::l,b::m=>Nat.beq a b&&eqN l m
 | _,_=>false
theorem eqN_eq:∀ {l m:List Nat},eqN l m=true->l=m
 | [], [],_=>rfl
 | a::l,b::m,h=>by
  simp only [eqN,Bool.and_eq_true] at h
  rw [Ah h.1,eqN_eq h.2]
 | [],_::_,h=>by simp [eqN] at h
 | _::_, [],h=>by simp [eqN] at h
def MF (n:Nat) (s:List Nat):Array Bool:=s.foldl (fun l i=>l.setIfInBounds i true) (Array.replicate n false)
abbrev Sts:=List (Fr × List AB)
def sget:Sts->Nat->Fr × List AB
 | [],_=>([], [])
 | x::_,0=>x
 | _::r,k+1=>sget r k
section
variable {P:Program} {ops:Array Oper} {B:List Nat} {Q:Exit->Act->World->Prop} {mk:Nat}
def FK (ops:Array Oper) (B:List Nat) (mk:Nat) (sg:List Seg) (me:Nat):TrJ->Bool->Array Bool->Bool
 | .fin,f,l=>f&&(Region.ready .any ops l).isEmpty
 | .jump k,f,l=>f&&Nat.blt me k&&(match segGet sg k with | some s=>eqB l.toList (MF ops.size s.1).toList | none=>false)
 | .one i r,f,l=>f&&(match ops[i]? with
   | none=>false
   | some o=>match isEff o.op with
    | true=>(match Region.ready .any ops l with | [j]=>Nat.beq i j | _=>false)&&(qM mk i o.op || !ID ops B mk i)
    | false=>match mk.testBit i with
     | true=>(match Region.ready .any ops l with | [j]=>Nat.beq i j | _=>false)&&(qM mk i o.op || !ID ops B mk i)
     | false=>Region.free .any ops l i&&(Region.ready .any ops l).contains i)&&FK ops B mk sg me r true (l.setIfInBounds i true)
 | .non,f,_=>!f
 | .alt i a r,f,l=>(!f || eqN (Region.ready .any ops l) (i::r.alts))&&Kf ops B mk i&&FK ops B mk sg me a true (l.setIfInBounds i true)&&FK ops B mk sg me r false l
def O2 (P:Program) (T:Tys) (n mk:Nat) (ops:Array Oper) (ds:List Nat) (st:Sts) (K:Fr->List AB->Prop):TrJ->Fr->List AB->Prop
 | .fin,fr,H=>K fr H
 | .jump k,fr,H=>canonK ds fr fun l=>l=(sget st k).1/\H=(sget st k).2
 | .one i r,fr,H=>Ex P T n mk ops i fr H fun fr H=>O2 P T n mk ops ds st K r fr H
 | .non,_,_=>True
 | .alt i a r,fr,H=>(Ex P T n mk ops i fr H fun fr H=>O2 P T n mk ops ds st K a fr H)/\O2 P T n mk ops ds st K r fr H
def Nf (P:Program) (T:Tys) (n mk:Nat) (ops:Array Oper) (ds:List Nat) (st:Sts) (K:Fr->List AB->Prop):List Seg->Nat->Prop
 | [],_=>True
 | s::r,k=>O2 P T n mk ops ds st K s.2.2 (sget st k).1 (sget st k).2/\Nf P T n mk ops ds st K r (k+1)
def Jl (ops:Array Oper) (B:List Nat) (mk:Nat) (sg:List Seg):List Seg->Nat->Bool
 | [],_=>true
 | s::r,k=>FK ops B mk sg k s.2.2 true (MF ops.size s.1)&&Nat.ble (s.2.2.depth sg) s.2.1&&Jl ops B mk sg r (k+1)
variable {T:Tys} {w0:Fl} {M0:Ms} {n d0:Nat} {ce:Ctx}
theorem KM {ds:List Nat} {st:Sts} {K:Fr->List AB->Prop}:∀ {sg:List Seg} {k0 k:Nat} {s:Seg},Nf P T n mk ops ds st K sg k0->segGet sg k=some s->O2 P T n mk ops ds st K s.2.2 (sget st (k0+k)).1 (sget st (k0+k)).2
 | [],_,_,_,_,h=>by simp [segGet] at h
 | x::r,k0,0,s,h,hs=>by
  simp only [segGet,Option.some.injEq] at hs
  subst hs
  exact h.1
 | x::r,k0,k+1,s,h,hs=>by
  have:=KM (k:=k) h.2 hs
  rw [show k0+(k+1)=k0+1+k by omega]
  exact this
theorem K5 {sg0:List Seg}:∀ {sg:List Seg} {k0 k:Nat} {s:Seg},Jl ops B mk sg0 sg k0=true->segGet sg k=some s->FK ops B mk sg0 (k0+k) s.2.2 true (MF ops.size s.1)=true/\s.2.2.depth sg0<=s.2.1
 | [],_,_,_,_,h=>by simp [segGet] at h
 | x::r,k0,0,s,h,hs=>by
  simp only [segGet,Option.some.injEq] at hs
  subst hs
  simp only [Jl,Bool.and_eq_true] at h
  exact⟨h.1.1,Ad h.1.2⟩
 | x::r,k0,k+1,s,h,hs=>by
  simp only [Jl,Bool.and_eq_true] at h
  have:=K5 (k:=k) h.2 hs
  rw [show k0+(k+1)=k0+1+k by omega]
  exact this
theorem segGet_lt:∀ {sg:List Seg} {k:Nat} {s:Seg},segGet sg k=some s->k<sg.length
 | [],_,_,h=>by simp [segGet] at h
 | _::_,0,_,_=>by simp
 | _::r,k+1,s,h=>by
  have:=segGet_lt (sg:=r) (k:=k) h
  simp;omega
def Wn (P:Program) (T:Tys) (ops:Array Oper) (B:List Nat) (mk n:Nat) (Q:Exit->Act->World->Prop) (w0:Fl) (M0:Ms) (ce:Ctx) (st:Sts) (sg:List Seg) (k:Nat):Prop:=
 ∀ (s:Seg) (m:Nat) (c:Ctx) (a:Act),segGet sg k=some s->s.2.1<=m->Cl ops (MF ops.size s.1)->HS w0 M0 c (sget st k).2->FR w0 c n (sget st k).1 a->Ext ce c->HeldM P ops B mk Q m (MF ops.size s.1) a c.w
theorem EG (hT:TOk P T) (hB:FP ops B=true) (hns:Region.noSelect ops=true) {ds:List Nat} {st:Sts} {sg:List Seg} {K:Fr->List AB->Prop} (hq:∀ a w,DR w0 M0 ce n K a w->Q .normal a w) (hpan:∀ c a w,¬Q (.panic c) a w) {me:Nat} (hseg:∀ k,me<k->Wn P T ops B mk n Q w0 M0 ce st sg k) :
  ∀ (r:TrJ) (m:Nat) (l:Array Bool) (c:Ctx) (fr:Fr) (H:List AB) (a:Act),Cl ops l->HS w0 M0 c H->FR w0 c n fr a->Ext ce c->O2 P T n mk ops ds st K r fr H->
   (FK ops B mk sg me r true l=true->r.depth sg<=m->HeldM P ops B mk Q m l a c.w)/\
   (FK ops B mk sg me r false l=true->r.depth sg<=m+1->∀ j∈r.alts,j∈Region.ready .any ops l->wpOp P ops Q j (fun a' w'=>(ID ops B mk j=true->Old c.w w')/\HeldM P ops B mk Q m (l.setIfInBounds j true) a' w') a c.w)
 | .fin,m,l,c,fr,H,a,hcl,hs,hf,he,h=>by
  refine⟨fun hd hm=>?_,fun _ _ j hj=>by simp [TrJ.alts] at hj⟩
  simp only [FK,At,List.isEmpty_iff] at hd
  cases m with
  | zero=>exact⟨hd,hq _ _ ⟨c,fr,H,rfl,h,hs,hf,he⟩⟩
  | succ m=>exact⟨fun _=>hq _ _ ⟨c,fr,H,rfl,h,hs,hf,he⟩,by rw [hd];simp⟩
 | .jump k,m,l,c,fr,H,a,hcl,hs,hf,he,h=>by
  refine⟨fun hd hm=>?_,fun _ _ j hj=>by simp [TrJ.alts] at hj⟩
  simp only [FK,At,Bool.and_eq_true] at hd
  simp only [TrJ.depth] at hm
  obtain⟨hlt,hd⟩:=hd
  cases hg:segGet sg k with
  | none=>rw [hg] at hd;simp at hd
  | some s=>
   rw [hg] at hd hm
   simp only at hd hm
   have hl:l=MF ops.size s.1:=Array.ext' (eqB_eq hd)
   obtain⟨e1,e2⟩:=canonK_iff h
   subst hl
   refine hseg k (Ak (Nat.lt_succ_self me) (Ad hlt)) s m c a hg hm hcl (e2 ▸ hs) (e1 ▸ hf.canon _) he
 | .non,m,l,c,fr,H,a,hcl,hs,hf,he,h=>by
  refine⟨fun hd hm=>by simp [FK] at hd,fun _ _ j hj=>by simp [TrJ.alts] at hj⟩
 | .alt i x r,m,l,c,fr,H,a,hcl,hs,hf,he,h=>by
  obtain⟨h1,h2⟩:=h
  have key:∀ m,TrJ.depth sg (.alt i x r)<=m+1->Kf ops B mk i=true->FK ops B mk sg me x true (l.setIfInBounds i true)=true->i∈Region.ready .any ops l->wpOp P ops Q i (fun a' w'=>(ID ops B mk i=true->Old c.w w')/\HeldM P ops B mk Q m (l.setIfInBounds i true) a' w') a c.w:=by
   intro m hm hk hx hr
   simp only [TrJ.depth] at hm
   unfold Kf at hk
   split at hk
   ·rename_i o ho
    refine EM hT ho hk hs hf he (fun c' fr' H' a' q1 q2 q3 q4=>(EG hT hB hns hq hpan hseg x m _ c' fr' H' a' (hcl.set hr) q1 q2 q3 q4).1 hx (by omega)) h1
   ·cases hk
  refine⟨fun hd hm=>?_,fun hd hm j hj hr=>?_⟩
  ·simp only [FK,Bool.not_true,Bool.false_or,Bool.and_eq_true] at hd
   obtain⟨⟨⟨hr,hi⟩,hx⟩,hy⟩:=hd
   have hr':=eqN_eq hr
   cases m with
   | zero=>simp only [TrJ.depth] at hm;omega
   | succ m=>
    refine⟨fun h0=>(by rw [hr'] at h0;cases h0),fun j hj=>?_⟩
    have hj0:=hj
    rw [hr',Bq] at hj
    rcases hj with rfl | hj
    ·exact key m hm hi hx hj0
    ·refine(EG hT hB hns hq hpan hseg r m l c fr H a hcl hs hf he h2).2 hy ?_ j hj hj0
     simp only [TrJ.depth] at hm
     omega
  ·simp only [FK,Bool.not_false,Bool.true_or,At,Bool.and_eq_true] at hd
   obtain⟨⟨hi,hx⟩,hy⟩:=hd
   simp only [TrJ.alts,Bq] at hj
   rcases hj with rfl | hj
   ·exact key m hm hi hx hr
   ·refine(EG hT hB hns hq hpan hseg r m l c fr H a hcl hs hf he h2).2 hy ?_ j hj hr
    simp only [TrJ.depth] at hm
    omega
 | .one i r,m,l,c,fr,H,a,hcl,hs,hf,he,h=>by
  refine⟨fun hd hm=>?_,fun _ _ j hj=>by simp [TrJ.alts] at hj⟩
  cases m with
  | zero=>simp [TrJ.depth] at hm
  | succ m=>
   simp only [TrJ.depth,Nat.add_le_add_iff_right] at hm
   simp only [FK,At,Bool.and_eq_true] at hd
   obtain⟨hd1,hd2⟩:=hd
   simp only [O2] at h
   cases ho:ops[i]? with
   | none=>rw [ho] at hd1;simp at hd1
   | some o=>
    rw [ho] at hd1
    simp only at hd1
    have only:(match Region.ready .any ops l with | [j]=>Nat.beq i j | _=>false)=true->(qM mk i o.op || !ID ops B mk i)=true->HeldM P ops B mk Q (m+1) l a c.w:=by
     intro hr hmq
     have hr':Region.ready .any ops l=[i]:=by
      split at hr
      ·rename_i j hj;rw [hj,Ah hr]
      ·cases hr
     have hri:i∈Region.ready .any ops l:=by rw [hr'];simp
     refine⟨fun h0=>(by rw [hr'] at h0;cases h0),fun j hj=>?_⟩
     rw [hr',BG] at hj
     subst hj
     exact EM hT ho hmq hs hf he (fun c' fr' H' a' q1 q2 q3 q4=>(EG hT hB hns hq hpan hseg r m _ c' fr' H' a' (hcl.set hri) q1 q2 q3 q4).1 hd2 hm) h
    cases hE:isEff o.op with
    | true=>
     rw [hE] at hd1
     simp only [Bool.and_eq_true] at hd1
     exact only hd1.1 hd1.2
    | false=>
     rw [hE] at hd1
     dsimp only at hd1
     cases hM:mk.testBit i with
     | true=>
      rw [hM] at hd1
      simp only [Bool.and_eq_true] at hd1
      exact only hd1.1 hd1.2
     | false=>
     rw [hM] at hd1
     simp only [Bool.and_eq_true] at hd1
     obtain⟨hfree,hr⟩:=hd1
     have hri:i∈Region.ready .any ops l:=by simpa using hr
     simp only [Ex,DU] at h
     rw [show ops.toList[i]? = some o by simpa using ho] at h
     simp only at h
     have step:∀ v fr2,YieldsIf P ops (Old c.w) o v a->FR w0 c n fr2 (a.put o.dst v)->O2 P T n mk ops ds st K r fr2 H->HeldM P ops B mk Q (m+1) l a c.w:=by
      intro v fr2 hy hf2 h2
      exact HeldM.first1 hB ho hM hE (Region.noSelect_spec hns) (fun c a w h=>(hpan _ _ _ h).elim) m l a c.w hcl (Region.free_spec ho hfree) hri hy
       ((EG hT hB hns hq hpan hseg r m _ c fr2 H _ (hcl.set hri) hs hf2 he h2).1 hd2 hm)
     rcases Da hf h with ⟨hw,fr',hf',h⟩ | ⟨hw,fr',hf',h⟩
     ·unfold GC at h
      rw [hE] at h
      obtain⟨rr,v,h1,h2,h3⟩:=(Gg hT hs hf' h).y
      obtain⟨fr2,h4,h5⟩:=BV hf' h3 h1
      exact step v fr2 (.inl ⟨hw,h2⟩) h5 h4
     ·obtain⟨fr2,h4,h5⟩:=BV (v:=undef) hf' (by simp [Rd]) h
      exact step undef fr2 (.inr ⟨hw,rfl⟩) h5 h4
theorem K4 (hT:TOk P T) (hB:FP ops B=true) (hns:Region.noSelect ops=true) {ds:List Nat} {st:Sts} {sg:List Seg} {K:Fr->List AB->Prop} (hq:∀ a w,DR w0 M0 ce n K a w->Q .normal a w) (hpan:∀ c a w,¬Q (.panic c) a w) (hok:Jl ops B mk sg sg 0=true) (h:Nf P T n mk ops ds st K sg 0):∀ (z k:Nat),sg.length<=z+k->Wn P T ops B mk n Q w0 M0 ce st sg k
 | 0,k,hz,s,m,c,a,hg,_,_,_,_,_=>by
  have:=segGet_lt hg
  omega
 | z+1,k,hz,s,m,c,a,hg,hm,hcl,hs,hf,he=>by
  obtain⟨h1,h2⟩:=K5 hok hg
  have h3:=KM h hg
  rw [Ap] at h1 h3
  exact(EG hT hB hns hq hpan (fun k' hk'=>K4 hT hB hns hq hpan hok h z k' (by omega)) s.2.2 m _ c _ _ a hcl hs hf he h3).1 h1 (by omega)
def Wl (ops:Array Oper) (mk:Nat) (sg:List Seg):Bool:=FP ops (J4 ops)&&Region.noSelect ops&&(match sg with | ([],d,_)::_=>Nat.ble d ops.size | _=>false)&&Jl ops (J4 ops) mk sg sg 0
theorem aDraw.dag (mk:Nat) (hT:TOk P T) (hm:P.follows .mixedOrders=true) {id:Nat} {K:Fr->List AB->Prop} {fr:Fr} {H:List AB} (sg:List Seg) (ds:List Nat) (st:Sts) {F:Fr} {H2:List AB} (hok:Wl ops mk sg=true)
  (h:Nf P T n mk ops (ds ++ slots fr) ((fr,H)::st) (fun fr' H'=>canonK (ds ++ slots fr) fr' fun l=>l=F/\H'=H2) sg 0) (hk:K F H2):aDraw P T n d0 id ops K fr H:=by
 simp only [Wl,Bool.and_eq_true] at hok
 obtain⟨⟨⟨hB,hns⟩,hlen⟩,hok⟩:=hok
 refine⟨fun w0 M0 ce c a hs hf he hd Q hQ=>?_⟩
 refine wp_mono (Q:=fun e a w=>e = .normal/\DR w0 M0 ce n (fun fr' H'=>canonK (ds ++ slots fr) fr' fun l=>l=F/\H'=H2) a w) ?_ ?_
 ·refine wp_region_any hm (HeldM.any (B:=J4 ops) (mk:=mk) _ _ _ _ ?_)
  have hb:=(Below.refl c.w.heap.size c.w).drew
  obtain⟨h1,h2⟩:=hs.grow hb
  have hcl:Cl ops (Array.replicate ops.size false):=by
   intro j o hj hlj
   rcases Bx j ops.size with h' | h'
   ·simp [h'] at hlj
   ·simp [Array.getElem?_eq_none h'] at hj
  cases sg with
  | nil=>simp at hlen
  | cons s sg=>
   obtain⟨s1,d,tr⟩:=s
   cases s1 with
   | cons _ _=>simp at hlen
   | nil=>
    exact K4 (w0:=w0) (M0:=M0) (ce:=ce) (st:=(fr,H)::st) hT hB hns (fun a w hl=>⟨rfl,hl⟩) (fun c a w h=>by cases h.1) hok h _ 0 (Nat.le_refl _) ([],d,tr) _ { c with w:=c.w.drew } a rfl (Ad hlen) hcl h1 (hf.ext h2) (he.trans h2)
 ·rintro e a w ⟨rfl,c',fr',H',rfl,h1,h2,h3,h4⟩
  obtain⟨e1,rfl⟩:=canonK_iff h1
  exact hQ c' F H' a hk h2 (e1 ▸ h3.canon _) h4
end
theorem WJ {m:Nat} (h:Nat.ble 8 m=true):∀ z∈ [4,5,6,7],z<m:=fun z hz=>by
 have:=Ad h
 simp at hz
 omega
theorem PF (g:Geo) (d:Dk) (hg:AS g=true) (h:DkOk d) (hn:(d.cells.length:Int)=A0 g):Fn Tryz.prog 14 [.ag (A7 g), .ag (DG d)] fun r=>r = .tp [.ag (Fg (BK g d).2.2), .ag (DG (BK g d).1), .v (.int .i64 (BK g d).2.1)]:=by
 have hb:=Ma g d st0 h st0_sm
 have hm:=RE g st0 d hg h hn
 have herr:=KS (g:=g) (d:=d)
 generalize BK g d=M at hm herr |-
 obtain⟨D,e,S⟩:=M
 simp only at herr hm
 refine Fn.st Tryz.func14 rfl ?_
 conv=>whnf
 refine ACalls.sub [.ag (A7 g), .ag (DG d), .ag (Fg st0)] ⟨ri,ri,AG st0_sub,trivial⟩ ?_
 refine ACalls.beside hb rfl ?_
 rintro _ _ ⟨rfl,rfl⟩
 conv=>whnf
 refine ACalls.frame [4,5,6,7] hm rfl rfl rfl rfl (by decide) (WJ rfl) ⟨rfl,rfl,rfl,rfl,trivial⟩ ?_
 rintro _ _ ⟨⟨S',rfl,hS⟩,rfl⟩
 by_cases he:e=0
 ·subst he
  have:=hS rfl
  subst this
  conv=>whnf
  apply aDraw.dag (252) tys_ok mixed [([],11,(.one 0 (.one 1 (.alt 2 (.alt 3 (.alt 4 (.alt 5 (.alt 6 (.alt 7 (.one 8 (.one 9 (.one 10 .fin))) (.alt 8 (.one 7 (.one 9 (.one 10 .fin))) .non)) (.alt 8 (.one 6 (.one 7 (.one 9 (.one 10 .fin)))) .non)) (.alt 8 (.one 5 (.one 6 (.one 7 (.one 9 (.one 10 .fin))))) .non)) (.alt 8 (.one 4 (.one 5 (.one 6 (.one 7 (.one 9 (.one 10 .fin)))))) .non)) (.alt 8 (.one 3 (.one 4 (.one 5 (.one 6 (.one 7 (.one 9 (.one 10 .fin))))))) .non)) (.alt 8 (.one 2 (.one 3 (.one 4 (.one 5 (.one 6 (.one 7 (.one 9 (.one 10 .fin)))))))) .non)))))] [6,32,33,34,35,36,37,38,39] [] (by kernel_rfl)
  ·refine And.intro ?_ ?_
   ·refine And.intro ?_ (And.intro ?_ (trivial))
    ·refine And.intro ?_ (And.intro ?_ (trivial))
     ·refine And.intro ?_ (And.intro ?_ (trivial))
      ·refine And.intro ?_ (And.intro ?_ (trivial))
       ·refine And.intro ?_ (And.intro ?_ (trivial))
        ·refine And.intro ?_ (And.intro ?_ (trivial))
         ·conv=>whnf
          try (refine And.intro ⟨rfl,by first | rfl | (simp;done) | (simp;omega),by first | omega | (simp;omega)⟩ ?_;conv=>whnf)
          try (refine And.intro ⟨rfl,by first | rfl | (simp;done) | (simp;omega),by first | omega | (simp;omega)⟩ ?_;conv=>whnf)
          exact⟨rfl,rfl⟩
         ·conv=>whnf
          try (refine And.intro ⟨rfl,by first | rfl | (simp;done) | (simp;omega),by first | omega | (simp;omega)⟩ ?_;conv=>whnf)
          try (refine And.intro ⟨rfl,by first | rfl | (simp;done) | (simp;omega),by first | omega | (simp;omega)⟩ ?_;conv=>whnf)
          exact⟨rfl,rfl⟩
        ·conv=>whnf
         try (refine And.intro ⟨rfl,by first | rfl | (simp;done) | (simp;omega),by first | omega | (simp;omega)⟩ ?_;conv=>whnf)
         try (refine And.intro ⟨rfl,by first | rfl | (simp;done) | (simp;omega),by first | omega | (simp;omega)⟩ ?_;conv=>whnf)
         exact⟨rfl,rfl⟩
       ·conv=>whnf
        try (refine And.intro ⟨rfl,by first | rfl | (simp;done) | (simp;omega),by first | omega | (simp;omega)⟩ ?_;conv=>whnf)
        try (refine And.intro ⟨rfl,by first | rfl | (simp;done) | (simp;omega),by first | omega | (simp;omega)⟩ ?_;conv=>whnf)
        exact⟨rfl,rfl⟩
      ·conv=>whnf
       try (refine And.intro ⟨rfl,by first | rfl | (simp;done) | (simp;omega),by first | omega | (simp;omega)⟩ ?_;conv=>whnf)
       try (refine And.intro ⟨rfl,by first | rfl | (simp;done) | (simp;omega),by first | omega | (simp;omega)⟩ ?_;conv=>whnf)
       exact⟨rfl,rfl⟩
     ·conv=>whnf
      try (refine And.intro ⟨rfl,by first | rfl | (simp;done) | (simp;omega),by first | omega | (simp;omega)⟩ ?_;conv=>whnf)
      try (refine And.intro ⟨rfl,by first | rfl | (simp;done) | (simp;omega),by first | omega | (simp;omega)⟩ ?_;conv=>whnf)
      exact⟨rfl,rfl⟩
    ·conv=>whnf
     try (refine And.intro ⟨rfl,by first | rfl | (simp;done) | (simp;omega),by first | omega | (simp;omega)⟩ ?_;conv=>whnf)
     try (refine And.intro ⟨rfl,by first | rfl | (simp;done) | (simp;omega),by first | omega | (simp;omega)⟩ ?_;conv=>whnf)
     exact⟨rfl,rfl⟩
   conv=>whnf
   exact trivial
  refine And.intro (Ab _).symm ?_
  refine And.intro (Ab _).symm ?_
  exact⟨.tp [.ag (Fg S'), .ag (DG D), .v (.int .i64 0)],Bu ⟨ri,AG ⟨AJ (f:=Bi) D.cells rfl rfl,AJ (f:=DA) D.cache rfl rfl,ri,ri,trivial⟩,ri,trivial⟩,rfl⟩
 ·have hbe:(e != 0)=true:=bne_iff_ne.2 he
  have:=herr he
  subst this
  conv=>whnf
  rw [hbe]
  conv=>whnf
  apply aDraw.dag (3836) tys_ok mixed [([],15,(.one 0 (.one 1 (.one 8 (.alt 2 (.alt 3 (.alt 4 (.alt 5 (.alt 6 (.alt 7 (.alt 9 (.jump 30) (.alt 12 (.jump 31) .non)) (.alt 9 (.jump 23) (.alt 12 (.jump 24) .non))) (.alt 9 (.jump 16) (.alt 12 (.jump 17) .non))) (.alt 9 (.jump 9) (.alt 12 (.jump 10) .non))) (.alt 9 (.jump 4) (.alt 12 (.jump 5) .non))) (.alt 9 (.jump 1) (.alt 12 (.jump 2) .non))) (.alt 9 (.alt 2 (.jump 1) (.alt 10 (.alt 2 (.jump 6) (.alt 11 (.alt 2 (.jump 13) (.alt 12 (.jump 15) .non)) (.alt 12 (.jump 8) .non))) (.alt 12 (.jump 3) .non))) (.alt 12 (.alt 2 (.jump 2) (.alt 9 (.jump 3) .non)) .non))))))),([0,1,2,8,9],10,(.alt 3 (.jump 4) (.alt 10 (.jump 6) (.alt 12 (.jump 7) .non)))),([0,1,2,8,12],10,(.alt 3 (.jump 5) (.alt 9 (.jump 7) .non))),([0,1,8,9,12],10,(.alt 2 (.jump 7) (.alt 10 (.jump 8) .non))),([0,1,2,3,8,9],9,(.alt 4 (.jump 9) (.alt 10 (.jump 11) (.alt 12 (.jump 12) .non)))),([0,1,2,3,8,12],9,(.alt 4 (.jump 10) (.alt 9 (.jump 12) .non))),([0,1,2,8,9,10],9,(.alt 3 (.jump 11) (.alt 11 (.jump 13) (.alt 12 (.jump 14) .non)))),([0,1,2,8,9,12],9,(.alt 3 (.jump 12) (.alt 10 (.jump 14) .non))),([0,1,8,9,10,12],9,(.alt 2 (.jump 14) (.alt 11 (.jump 15) .non))),([0,1,2,3,4,8,9],8,(.alt 5 (.jump 16) (.alt 10 (.jump 18) (.alt 12 (.jump 19) .non)))),([0,1,2,3,4,8,12],8,(.alt 5 (.jump 17) (.alt 9 (.jump 19) .non))),([0,1,2,3,8,9,10],8,(.alt 4 (.jump 18) (.alt 11 (.jump 20) (.alt 12 (.jump 21) .non)))),([0,1,2,3,8,9,12],8,(.alt 4 (.jump 19) (.alt 10 (.jump 21) .non))),([0,1,2,8,9,10,11],8,(.alt 3 (.jump 20) (.alt 12 (.jump 22) .non))),([0,1,2,8,9,10,12],8,(.alt 3 (.jump 21) (.alt 11 (.jump 22) .non))),([0,1,8,9,10,11,12],8,(.one 2 (.one 3 (.one 4 (.one 5 (.one 6 (.one 7 (.one 13 (.one 14 .fin))))))))),([0,1,2,3,4,5,8,9],7,(.alt 6 (.jump 23) (.alt 10 (.jump 25) (.alt 12 (.jump 26) .non)))),([0,1,2,3,4,5,8,12],7,(.alt 6 (.jump 24) (.alt 9 (.jump 26) .non))),([0,1,2,3,4,8,9,10],7,(.alt 5 (.jump 25) (.alt 11 (.jump 27) (.alt 12 (.jump 28) .non)))),([0,1,2,3,4,8,9,12],7,(.alt 5 (.jump 26) (.alt 10 (.jump 28) .non))),([0,1,2,3,8,9,10,11],7,(.alt 4 (.jump 27) (.alt 12 (.jump 29) .non))),([0,1,2,3,8,9,10,12],7,(.alt 4 (.jump 28) (.alt 11 (.jump 29) .non))),([0,1,2,8,9,10,11,12],7,(.one 3 (.one 4 (.one 5 (.one 6 (.one 7 (.one 13 (.one 14 .fin)))))))),([0,1,2,3,4,5,6,8,9],6,(.alt 7 (.jump 30) (.alt 10 (.jump 32) (.alt 12 (.jump 33) .non)))),([0,1,2,3,4,5,6,8,12],6,(.alt 7 (.jump 31) (.alt 9 (.jump 33) .non))),([0,1,2,3,4,5,8,9,10],6,(.alt 6 (.jump 32) (.alt 11 (.jump 34) (.alt 12 (.jump 35) .non)))),([0,1,2,3,4,5,8,9,12],6,(.alt 6 (.jump 33) (.alt 10 (.jump 35) .non))),([0,1,2,3,4,8,9,10,11],6,(.alt 5 (.jump 34) (.alt 12 (.jump 36) .non))),([0,1,2,3,4,8,9,10,12],6,(.alt 5 (.jump 35) (.alt 11 (.jump 36) .non))),([0,1,2,3,8,9,10,11,12],6,(.one 4 (.one 5 (.one 6 (.one 7 (.one 13 (.one 14 .fin))))))),([0,1,2,3,4,5,6,7,8,9],5,(.alt 10 (.jump 37) (.alt 12 (.jump 38) .non))),([0,1,2,3,4,5,6,7,8,12],5,(.alt 9 (.jump 38) (.alt 13 (.one 9 (.one 10 (.one 11 (.one 14 .fin)))) .non))),([0,1,2,3,4,5,6,8,9,10],5,(.alt 7 (.jump 37) (.alt 11 (.jump 39) (.alt 12 (.jump 40) .non)))),([0,1,2,3,4,5,6,8,9,12],5,(.alt 7 (.jump 38) (.alt 10 (.jump 40) .non))),([0,1,2,3,4,5,8,9,10,11],5,(.alt 6 (.jump 39) (.alt 12 (.jump 41) .non))),([0,1,2,3,4,5,8,9,10,12],5,(.alt 6 (.jump 40) (.alt 11 (.jump 41) .non))),([0,1,2,3,4,8,9,10,11,12],5,(.one 5 (.one 6 (.one 7 (.one 13 (.one 14 .fin)))))),([0,1,2,3,4,5,6,7,8,9,10],4,(.alt 11 (.jump 42) (.alt 12 (.jump 43) .non))),([0,1,2,3,4,5,6,7,8,9,12],4,(.alt 10 (.jump 43) (.alt 13 (.one 10 (.one 11 (.one 14 .fin))) .non))),([0,1,2,3,4,5,6,8,9,10,11],4,(.alt 7 (.jump 42) (.alt 12 (.jump 44) .non))),([0,1,2,3,4,5,6,8,9,10,12],4,(.alt 7 (.jump 43) (.alt 11 (.jump 44) .non))),([0,1,2,3,4,5,8,9,10,11,12],4,(.one 6 (.one 7 (.one 13 (.one 14 .fin))))),([0,1,2,3,4,5,6,7,8,9,10,11],3,(.one 12 (.one 13 (.one 14 .fin)))),([0,1,2,3,4,5,6,7,8,9,10,12],3,(.alt 11 (.one 13 (.one 14 .fin)) (.alt 13 (.one 11 (.one 14 .fin)) .non))),([0,1,2,3,4,5,6,8,9,10,11,12],3,(.one 7 (.one 13 (.one 14 .fin))))] [6,20,21,22,23,24,25,26,27,28,29,30,31] [(_,_),(_,_),(_,_),(_,_),(_,_),(_,_),(_,_),(_,_),(_,_),(_,_),(_,_),(_,_),(_,_),(_,_),(_,_),(_,_),(_,_),(_,_),(_,_),(_,_),(_,_),(_,_),(_,_),(_,_),(_,_),(_,_),(_,_),(_,_),(_,_),(_,_),(_,_),(_,_),(_,_),(_,_),(_,_),(_,_),(_,_),(_,_),(_,_),(_,_),(_,_),(_,_),(_,_),(_,_)] (by kernel_rfl)
  ·refine And.intro ?_ ?_
   ·refine And.intro ?_ (And.intro ?_ (And.intro ?_ (trivial)))
    ·refine And.intro ?_ (And.intro ?_ (And.intro ?_ (trivial)))
     ·refine And.intro ?_ (And.intro ?_ (And.intro ?_ (trivial)))
      ·refine And.intro ?_ (And.intro ?_ (And.intro ?_ (trivial)))
       ·refine And.intro ?_ (And.intro ?_ (And.intro ?_ (trivial)))
        ·refine And.intro ?_ (And.intro ?_ (And.intro ?_ (trivial)))
         ·refine And.intro ?_ (And.intro ?_ (trivial))
          ·exact⟨rfl,rfl⟩
          ·conv=>whnf
           try (refine And.intro ⟨rfl,by first | rfl | (simp;done) | (simp;omega),by first | omega | (simp;omega)⟩ ?_;conv=>whnf)
           exact⟨rfl,rfl⟩
         ·exact⟨rfl,rfl⟩
         ·conv=>whnf
          try (refine And.intro ⟨rfl,by first | rfl | (simp;done) | (simp;omega),by first | omega | (simp;omega)⟩ ?_;conv=>whnf)
          exact⟨rfl,rfl⟩
        ·exact⟨rfl,rfl⟩
        ·conv=>whnf
         try (refine And.intro ⟨rfl,by first | rfl | (simp;done) | (simp;omega),by first | omega | (simp;omega)⟩ ?_;conv=>whnf)
         exact⟨rfl,rfl⟩
       ·exact⟨rfl,rfl⟩
       ·conv=>whnf
        try (refine And.intro ⟨rfl,by first | rfl | (simp;done) | (simp;omega),by first | omega | (simp;omega)⟩ ?_;conv=>whnf)
        exact⟨rfl,rfl⟩
      ·exact⟨rfl,rfl⟩
      ·conv=>whnf
       try (refine And.intro ⟨rfl,by first | rfl | (simp;done) | (simp;omega),by first | omega | (simp;omega)⟩ ?_;conv=>whnf)
       exact⟨rfl,rfl⟩
     ·exact⟨rfl,rfl⟩
     ·conv=>whnf
      try (refine And.intro ⟨rfl,by first | rfl | (simp;done) | (simp;omega),by first | omega | (simp;omega)⟩ ?_;conv=>whnf)
      exact⟨rfl,rfl⟩
    ·refine And.intro ?_ (And.intro ?_ (And.intro ?_ (trivial)))
     ·exact⟨rfl,rfl⟩
     ·refine And.intro ?_ (And.intro ?_ (And.intro ?_ (trivial)))
      ·exact⟨rfl,rfl⟩
      ·refine And.intro ?_ (And.intro ?_ (trivial))
       ·exact⟨rfl,rfl⟩
       ·conv=>whnf
        try (refine And.intro ⟨rfl,by first | rfl | (simp;done) | (simp;omega),by first | omega | (simp;omega)⟩ ?_;conv=>whnf)
        exact⟨rfl,rfl⟩
      ·conv=>whnf
       try (refine And.intro ⟨rfl,by first | rfl | (simp;done) | (simp;omega),by first | omega | (simp;omega)⟩ ?_;conv=>whnf)
       exact⟨rfl,rfl⟩
     ·conv=>whnf
      try (refine And.intro ⟨rfl,by first | rfl | (simp;done) | (simp;omega),by first | omega | (simp;omega)⟩ ?_;conv=>whnf)
      exact⟨rfl,rfl⟩
    ·conv=>whnf
     try (refine And.intro ⟨rfl,by first | rfl | (simp;done) | (simp;omega),by first | omega | (simp;omega)⟩ ?_;conv=>whnf)
     refine And.intro ?_ (And.intro ?_ (trivial))
     ·exact⟨rfl,rfl⟩
     ·exact⟨rfl,rfl⟩
   refine And.intro ?_ ?_
   ·refine And.intro ?_ (And.intro ?_ (And.intro ?_ (trivial)))
    ·exact⟨rfl,rfl⟩
    ·exact⟨rfl,rfl⟩
    ·conv=>whnf
     try (refine And.intro ⟨rfl,by first | rfl | (simp;done) | (simp;omega),by first | omega | (simp;omega)⟩ ?_;conv=>whnf)
     exact⟨rfl,rfl⟩
   refine And.intro ?_ ?_
   ·refine And.intro ?_ (And.intro ?_ (trivial))
    ·exact⟨rfl,rfl⟩
    ·exact⟨rfl,rfl⟩
   refine And.intro ?_ ?_
   ·refine And.intro ?_ (And.intro ?_ (trivial))
    ·exact⟨rfl,rfl⟩
    ·exact⟨rfl,rfl⟩
   refine And.intro ?_ ?_
   ·refine And.intro ?_ (And.intro ?_ (And.intro ?_ (trivial)))
    ·exact⟨rfl,rfl⟩
    ·exact⟨rfl,rfl⟩
    ·conv=>whnf
     try (refine And.intro ⟨rfl,by first | rfl | (simp;done) | (simp;omega),by first | omega | (simp;omega)⟩ ?_;conv=>whnf)
     exact⟨rfl,rfl⟩
   refine And.intro ?_ ?_
   ·refine And.intro ?_ (And.intro ?_ (trivial))
    ·exact⟨rfl,rfl⟩
    ·exact⟨rfl,rfl⟩
   refine And.intro ?_ ?_
   ·refine And.intro ?_ (And.intro ?_ (And.intro ?_ (trivial)))
    ·exact⟨rfl,rfl⟩
    ·exact⟨rfl,rfl⟩
    ·conv=>whnf
     try (refine And.intro ⟨rfl,by first | rfl | (simp;done) | (simp;omega),by first | omega | (simp;omega)⟩ ?_;conv=>whnf)
     exact⟨rfl,rfl⟩
   refine And.intro ?_ ?_
   ·refine And.intro ?_ (And.intro ?_ (trivial))
    ·exact⟨rfl,rfl⟩
    ·exact⟨rfl,rfl⟩
   refine And.intro ?_ ?_
   ·refine And.intro ?_ (And.intro ?_ (trivial))
    ·exact⟨rfl,rfl⟩
    ·exact⟨rfl,rfl⟩
   refine And.intro ?_ ?_
   ·refine And.intro ?_ (And.intro ?_ (And.intro ?_ (trivial)))
    ·exact⟨rfl,rfl⟩
    ·exact⟨rfl,rfl⟩
    ·conv=>whnf
     try (refine And.intro ⟨rfl,by first | rfl | (simp;done) | (simp;omega),by first | omega | (simp;omega)⟩ ?_;conv=>whnf)
     exact⟨rfl,rfl⟩
   refine And.intro ?_ ?_
   ·refine And.intro ?_ (And.intro ?_ (trivial))
    ·exact⟨rfl,rfl⟩
    ·exact⟨rfl,rfl⟩
   refine And.intro ?_ ?_
   ·refine And.intro ?_ (And.intro ?_ (And.intro ?_ (trivial)))
    ·exact⟨rfl,rfl⟩
    ·exact⟨rfl,rfl⟩
    ·conv=>whnf
     try (refine And.intro ⟨rfl,by first | rfl | (simp;done) | (simp;omega),by first | omega | (simp;omega)⟩ ?_;conv=>whnf)
     exact⟨rfl,rfl⟩
   refine And.intro ?_ ?_
   ·refine And.intro ?_ (And.intro ?_ (trivial))
    ·exact⟨rfl,rfl⟩
    ·exact⟨rfl,rfl⟩
   refine And.intro ?_ ?_
   ·refine And.intro ?_ (And.intro ?_ (trivial))
    ·exact⟨rfl,rfl⟩
    ·conv=>whnf
     try (refine And.intro ⟨rfl,by first | rfl | (simp;done) | (simp;omega),by first | omega | (simp;omega)⟩ ?_;conv=>whnf)
     exact⟨rfl,rfl⟩
   refine And.intro ?_ ?_
   ·refine And.intro ?_ (And.intro ?_ (trivial))
    ·exact⟨rfl,rfl⟩
    ·exact⟨rfl,rfl⟩
   refine And.intro ?_ ?_
   ·conv=>whnf
    try (refine And.intro ⟨rfl,by first | rfl | (simp;done) | (simp;omega),by first | omega | (simp;omega)⟩ ?_;conv=>whnf)
    exact⟨rfl,rfl⟩
   refine And.intro ?_ ?_
   ·refine And.intro ?_ (And.intro ?_ (And.intro ?_ (trivial)))
    ·exact⟨rfl,rfl⟩
    ·exact⟨rfl,rfl⟩
    ·conv=>whnf
     try (refine And.intro ⟨rfl,by first | rfl | (simp;done) | (simp;omega),by first | omega | (simp;omega)⟩ ?_;conv=>whnf)
     exact⟨rfl,rfl⟩
   refine And.intro ?_ ?_
   ·refine And.intro ?_ (And.intro ?_ (trivial))
    ·exact⟨rfl,rfl⟩
    ·exact⟨rfl,rfl⟩
   refine And.intro ?_ ?_
   ·refine And.intro ?_ (And.intro ?_ (And.intro ?_ (trivial)))
    ·exact⟨rfl,rfl⟩
    ·exact⟨rfl,rfl⟩
    ·conv=>whnf
     try (refine And.intro ⟨rfl,by first | rfl | (simp;done) | (simp;omega),by first | omega | (simp;omega)⟩ ?_;conv=>whnf)
     exact⟨rfl,rfl⟩
   refine And.intro ?_ ?_
   ·refine And.intro ?_ (And.intro ?_ (trivial))
    ·exact⟨rfl,rfl⟩
    ·exact⟨rfl,rfl⟩
   refine And.intro ?_ ?_
   ·refine And.intro ?_ (And.intro ?_ (trivial))
    ·exact⟨rfl,rfl⟩
    ·conv=>whnf
     try (refine And.intro ⟨rfl,by first | rfl | (simp;done) | (simp;omega),by first | omega | (simp;omega)⟩ ?_;conv=>whnf)
     exact⟨rfl,rfl⟩
   refine And.intro ?_ ?_
   ·refine And.intro ?_ (And.intro ?_ (trivial))
    ·exact⟨rfl,rfl⟩
    ·exact⟨rfl,rfl⟩
   refine And.intro ?_ ?_
   ·conv=>whnf
    try (refine And.intro ⟨rfl,by first | rfl | (simp;done) | (simp;omega),by first | omega | (simp;omega)⟩ ?_;conv=>whnf)
    exact⟨rfl,rfl⟩
   refine And.intro ?_ ?_
   ·refine And.intro ?_ (And.intro ?_ (And.intro ?_ (trivial)))
    ·exact⟨rfl,rfl⟩
    ·exact⟨rfl,rfl⟩
    ·conv=>whnf
     try (refine And.intro ⟨rfl,by first | rfl | (simp;done) | (simp;omega),by first | omega | (simp;omega)⟩ ?_;conv=>whnf)
     exact⟨rfl,rfl⟩
   refine And.intro ?_ ?_
   ·refine And.intro ?_ (And.intro ?_ (trivial))
    ·exact⟨rfl,rfl⟩
    ·exact⟨rfl,rfl⟩
   refine And.intro ?_ ?_
   ·refine And.intro ?_ (And.intro ?_ (And.intro ?_ (trivial)))
    ·exact⟨rfl,rfl⟩
    ·exact⟨rfl,rfl⟩
    ·conv=>whnf
     try (refine And.intro ⟨rfl,by first | rfl | (simp;done) | (simp;omega),by first | omega | (simp;omega)⟩ ?_;conv=>whnf)
     exact⟨rfl,rfl⟩
   refine And.intro ?_ ?_
   ·refine And.intro ?_ (And.intro ?_ (trivial))
    ·exact⟨rfl,rfl⟩
    ·exact⟨rfl,rfl⟩
   refine And.intro ?_ ?_
   ·refine And.intro ?_ (And.intro ?_ (trivial))
    ·exact⟨rfl,rfl⟩
    ·conv=>whnf
     try (refine And.intro ⟨rfl,by first | rfl | (simp;done) | (simp;omega),by first | omega | (simp;omega)⟩ ?_;conv=>whnf)
     exact⟨rfl,rfl⟩
   refine And.intro ?_ ?_
   ·refine And.intro ?_ (And.intro ?_ (trivial))
    ·exact⟨rfl,rfl⟩
    ·exact⟨rfl,rfl⟩
   refine And.intro ?_ ?_
   ·conv=>whnf
    try (refine And.intro ⟨rfl,by first | rfl | (simp;done) | (simp;omega),by first | omega | (simp;omega)⟩ ?_;conv=>whnf)
    exact⟨rfl,rfl⟩
   refine And.intro ?_ ?_
   ·refine And.intro ?_ (And.intro ?_ (trivial))
    ·exact⟨rfl,rfl⟩
    ·conv=>whnf
     try (refine And.intro ⟨rfl,by first | rfl | (simp;done) | (simp;omega),by first | omega | (simp;omega)⟩ ?_;conv=>whnf)
     exact⟨rfl,rfl⟩
   refine And.intro ?_ ?_
   ·refine And.intro ?_ (And.intro ?_ (trivial))
    ·exact⟨rfl,rfl⟩
    ·conv=>whnf
     try (refine And.intro ⟨rfl,by first | rfl | (simp;done) | (simp;omega),by first | omega | (simp;omega)⟩ ?_;conv=>whnf)
     exact⟨rfl,rfl⟩
   refine And.intro ?_ ?_
   ·refine And.intro ?_ (And.intro ?_ (And.intro ?_ (trivial)))
    ·exact⟨rfl,rfl⟩
    ·exact⟨rfl,rfl⟩
    ·conv=>whnf
     try (refine And.intro ⟨rfl,by first | rfl | (simp;done) | (simp;omega),by first | omega | (simp;omega)⟩ ?_;conv=>whnf)
     exact⟨rfl,rfl⟩
   refine And.intro ?_ ?_
   ·refine And.intro ?_ (And.intro ?_ (trivial))
    ·exact⟨rfl,rfl⟩
    ·exact⟨rfl,rfl⟩
   refine And.intro ?_ ?_
   ·refine And.intro ?_ (And.intro ?_ (trivial))
    ·exact⟨rfl,rfl⟩
    ·conv=>whnf
     try (refine And.intro ⟨rfl,by first | rfl | (simp;done) | (simp;omega),by first | omega | (simp;omega)⟩ ?_;conv=>whnf)
     exact⟨rfl,rfl⟩
   refine And.intro ?_ ?_
   ·refine And.intro ?_ (And.intro ?_ (trivial))
    ·exact⟨rfl,rfl⟩
    ·exact⟨rfl,rfl⟩
   refine And.intro ?_ ?_
   ·conv=>whnf
    try (refine And.intro ⟨rfl,by first | rfl | (simp;done) | (simp;omega),by first | omega | (simp;omega)⟩ ?_;conv=>whnf)
    exact⟨rfl,rfl⟩
   refine And.intro ?_ ?_
   ·refine And.intro ?_ (And.intro ?_ (trivial))
    ·exact⟨rfl,rfl⟩
    ·conv=>whnf
     try (refine And.intro ⟨rfl,by first | rfl | (simp;done) | (simp;omega),by first | omega | (simp;omega)⟩ ?_;conv=>whnf)
     exact⟨rfl,rfl⟩
   refine And.intro ?_ ?_
   ·refine And.intro ?_ (And.intro ?_ (trivial))
    ·exact⟨rfl,rfl⟩
    ·conv=>whnf
     try (refine And.intro ⟨rfl,by first | rfl | (simp;done) | (simp;omega),by first | omega | (simp;omega)⟩ ?_;conv=>whnf)
     exact⟨rfl,rfl⟩
   refine And.intro ?_ ?_
   ·refine And.intro ?_ (And.intro ?_ (trivial))
    ·exact⟨rfl,rfl⟩
    ·conv=>whnf
     try (refine And.intro ⟨rfl,by first | rfl | (simp;done) | (simp;omega),by first | omega | (simp;omega)⟩ ?_;conv=>whnf)
     exact⟨rfl,rfl⟩
   refine And.intro ?_ ?_
   ·refine And.intro ?_ (And.intro ?_ (trivial))
    ·exact⟨rfl,rfl⟩
    ·exact⟨rfl,rfl⟩
   refine And.intro ?_ ?_
   ·conv=>whnf
    try (refine And.intro ⟨rfl,by first | rfl | (simp;done) | (simp;omega),by first | omega | (simp;omega)⟩ ?_;conv=>whnf)
    exact⟨rfl,rfl⟩
   refine And.intro ?_ ?_
   ·conv=>whnf
    try (refine And.intro ⟨rfl,by first | rfl | (simp;done) | (simp;omega),by first | omega | (simp;omega)⟩ ?_;conv=>whnf)
    try (refine And.intro ⟨rfl,by first | rfl | (simp;done) | (simp;omega),by first | omega | (simp;omega)⟩ ?_;conv=>whnf)
    exact⟨rfl,rfl⟩
   refine And.intro ?_ ?_
   ·refine And.intro ?_ (And.intro ?_ (trivial))
    ·conv=>whnf
     try (refine And.intro ⟨rfl,by first | rfl | (simp;done) | (simp;omega),by first | omega | (simp;omega)⟩ ?_;conv=>whnf)
     exact⟨rfl,rfl⟩
    ·conv=>whnf
     try (refine And.intro ⟨rfl,by first | rfl | (simp;done) | (simp;omega),by first | omega | (simp;omega)⟩ ?_;conv=>whnf)
     exact⟨rfl,rfl⟩
   refine And.intro ?_ ?_
   ·conv=>whnf
    try (refine And.intro ⟨rfl,by first | rfl | (simp;done) | (simp;omega),by first | omega | (simp;omega)⟩ ?_;conv=>whnf)
    exact⟨rfl,rfl⟩
   conv=>whnf
   exact trivial
  refine And.intro (Ab _).symm ?_
  refine And.intro (Ab _).symm ?_
  exact⟨.tp [.ag (Fg st0), .ag (DG D), .v (.int .i64 e)],Bu ⟨AG st0_sub,AG ⟨AJ (f:=Bi) D.cells rfl rfl,AJ (f:=DA) D.cache rfl rfl,ri,ri,trivial⟩,ri,trivial⟩,rfl⟩
theorem JU {S:Stt} (h:StSm S):Fn Tryz.prog 15 [.ag (Fg S), .ag (Fg S)] fun r=>r = .v (.bool true):=by
 have:=Sd S S (by have:=h.h.1;omega) (fun x hx=>by have:=h.h.2 x hx;omega) (by have:=h.o;omega) (by have:=h.t.1;omega) (fun x hx=>⟨by have:=(h.t.2 x hx).1;omega,fun i hi=>by have:=(h.t.2 x hx).2 i hi;omega⟩)
 rwa [decide_eq_true rfl] at this
theorem Ik {d:Dk} (h:DkOk d):Fn Tryz.prog 16 [.ag (DG d), .ag (DG d)] fun r=>r = .v (.bool true):=by
 have:=La d d (by have:=h.n;omega) (by have:=h.m;omega) (fun c hc=>by have:=(h.c c hc).2;omega) (fun w hw=>by have:=(h.w w hw).2;omega)
 rwa [decide_eq_true rfl] at this
def mn (n:Nat):Nat:=min n 100000
def mI (n:Nat):Int:=if (100000:Int)<n then 100000 else n
theorem TL (n:Nat):mI n=(mn n:Nat):=by
 unfold mI mn
 split <;> omega
def Hb (c:Cel):Nat:=mn c.bytes.length+mn c.old.length
def NH (w:Wr):Nat:=mn w.bytes.length
def F8 (d:Dk):Bool:=decide (310<d.cells.length) || (decide (60<d.cache.length) || decide (60000<(d.cells.map Hb).sum+(d.cache.map NH).sum))
theorem Mx (d:Dk):Fn Tryz.prog 20 [.ag (DG d)] fun r=>r = .v (.bool (F8 d)):=by
 by_cases h1:d.cells.length<=310
 ·by_cases h2:d.cache.length<=60
  ·have e:F8 d=decide (60000<(d.cells.map Hb).sum+(d.cache.map NH).sum):=by
    rw [F8,decide_eq_false (by omega),decide_eq_false (by omega)];rfl
   have e1:∀ k,k<=d.cells.length->((d.cells.take k).map Hb).sum<=200000*k:=fun k=>by
    induction k with
    | zero=>intro _;simp
    | succ k ih=>
     intro hk
     have:=ih (by omega)
     rw [Ba,List.getElem?_eq_getElem (by omega),Aq,List.sum_append]
     have hc:Hb d.cells[k]<=200000:=by unfold Hb mn;omega
     show _+(Hb d.cells[k]+0)<=_
     omega
   have e2:∀ k,k<=d.cache.length->((d.cache.take k).map NH).sum<=100000*k:=fun k=>by
    induction k with
    | zero=>intro _;simp
    | succ k ih=>
     intro hk
     have:=ih (by omega)
     rw [Ba,List.getElem?_eq_getElem (by omega),Aq,List.sum_append]
     have hc:NH d.cache[k]<=100000:=by unfold NH mn;omega
     show _+(NH d.cache[k]+0)<=_
     omega
   rw [e]
   refine Fn.st Tryz.func20 rfl ?_
   conv=>whnf
   rw [show decide ((d.cells.length:Int) > 310)=false from decide_eq_false (by omega)]
   conv=>whnf
   rw [show decide ((d.cache.length:Int) > 60)=false from decide_eq_false (by omega)]
   conv=>whnf
   refine aLoop.ruleRR Nat (fun k=>([(1, .bp 0 0),(2, .v (.bool false)),(3, .v (.int .i64 (((d.cells.take k).map Hb).sum:Nat))),(4, .v (.int .i64 k))], [.box 32 (DG d)])) (fun k=>k<=d.cells.length) (fun k=>d.cells.length - k) 0 (Ag _)
    (WkN.r (s:= [0]) ⟨⟨rfl,rfl,rfl,rfl,trivial⟩,⟨rfl,trivial⟩,rfl,rfl,rfl,rfl,rfl⟩) ?_
   intro k hk
   conv=>whnf
   refine Al (fun h6=>?_) (fun h6=>?_) <;> (repeat rw [Aa] at h6) <;> conv=>whnf
   ·have hk':k<d.cells.length:=by omega
    have hsum:((d.cells.take (k+1)).map Hb).sum=((d.cells.take k).map Hb).sum+Hb (d.cells.getD (k:Int).toNat ⟨0, [], []⟩):=by
     rw [Aa,Ba,List.getElem?_eq_getElem hk',Aq,List.sum_append,List.getD_eq_getElem?_getD,List.getElem?_eq_getElem hk']
     show _+(Hb d.cells[k]+0)=_+Hb d.cells[k]
     omega
    have hb:=e1 k hk
    refine aDraw.of tys_ok mixed [0,1,2,3,4,5,6,7,8,9,10,11,12,13,14,15,16,17,18,19] (by kernel_rfl) ?_
    refine⟨⟨by omega,by omega⟩,?_⟩
    refine⟨⟨by omega,by omega⟩,?_⟩
    conv=>whnf
    have hv:IntKind.i64.wrap (IntKind.i64.wrap ((((d.cells.take k).map Hb).sum:Nat)+mI (d.cells.getD (k:Int).toNat ⟨0, [], []⟩).bytes.length)+mI (d.cells.getD (k:Int).toNat ⟨0, [], []⟩).old.length)=((((d.cells.take (k+1)).map Hb).sum:Nat):Int):=by
     have m1:mn (d.cells.getD (k:Int).toNat ⟨0, [], []⟩).bytes.length<=100000:=Nat.min_le_right _ _
     have m2:mn (d.cells.getD (k:Int).toNat ⟨0, [], []⟩).old.length<=100000:=Nat.min_le_right _ _
     have hw:∀ S p q:Nat,S<=62000000->p<=100000->q<=100000->IntKind.i64.wrap (IntKind.i64.wrap ((S:Int)+p)+q)=((S+(p+q):Nat):Int):=fun S p q h1 h2 h3=>by
      rw [wi (n:=(S:Int)+p) (by omega),wi (by omega)]
      omega
     rw [hsum,TL,TL]
     exact hw _ _ _ (by omega) m1 m2
    exact⟨k+1,hk',by omega,WkN.r (s:= [0]) ⟨⟨rfl,rfl,congrArg (fun n:Int=>AV.v (.int .i64 n)) hv,AA (by omega),trivial⟩,⟨rfl,trivial⟩,rfl,rfl,rfl,rfl,rfl⟩⟩
   ·have ek:k=d.cells.length:=by omega
    subst ek
    rw [List.take_length]
    have e3:=e1 _ (Nat.le_refl _)
    rw [List.take_length] at e3
    generalize (d.cells.map Hb).sum=A at e3 |-
    refine aLoop.ruleRR Nat (fun k=>([(1, .bp 0 0),(2, .v (.bool false)),(3, .v (.int .i64 (A+((d.cache.take k).map NH).sum:Nat))),(5, .v (.int .i64 k))], [.box 32 (DG d)])) (fun k=>k<=d.cache.length) (fun k=>d.cache.length - k) 0 (Ag _)
     (WkN.r (s:= [0]) ⟨⟨rfl,rfl,rfl,rfl,trivial⟩,⟨rfl,trivial⟩,rfl,rfl,rfl,rfl,rfl⟩) ?_
    intro k hk
    conv=>whnf
    refine Al (fun h7=>?_) (fun h7=>?_) <;> (repeat rw [Aa] at h7) <;> conv=>whnf
    ·have hk':k<d.cache.length:=by omega
     have hsum:((d.cache.take (k+1)).map NH).sum=((d.cache.take k).map NH).sum+NH (d.cache.getD (k:Int).toNat ⟨0, []⟩):=by
      rw [Aa,Ba,List.getElem?_eq_getElem hk',Aq,List.sum_append,List.getD_eq_getElem?_getD,List.getElem?_eq_getElem hk']
      show _+(NH d.cache[k]+0)=_+NH d.cache[k]
      omega
     have hb:=e2 k hk
     refine⟨⟨by omega,by omega⟩,?_⟩
     conv=>whnf
     have hv:IntKind.i64.wrap (((A+((d.cache.take k).map NH).sum:Nat):Int)+mI (d.cache.getD (k:Int).toNat ⟨0, []⟩).bytes.length)=((A+((d.cache.take (k+1)).map NH).sum:Nat):Int):=by
      have m1:mn (d.cache.getD (k:Int).toNat ⟨0, []⟩).bytes.length<=100000:=Nat.min_le_right _ _
      rw [hsum,TL,NH,wi (by omega)]
      omega
     exact⟨k+1,hk',by omega,WkN.r (s:= [0]) ⟨⟨rfl,rfl,congrArg (fun n:Int=>AV.v (.int .i64 n)) hv,AA (by omega),trivial⟩,⟨rfl,trivial⟩,rfl,rfl,rfl,rfl,rfl⟩⟩
    ·have ek:k=d.cache.length:=by omega
     subst ek
     rw [List.take_length]
     exact⟨_,ri,congrArg (fun b=>AV.v (.bool b)) (by rw [Bz];simp only [decide_eq_true_eq];omega)⟩
  ·have e:F8 d=true:=by rw [F8,decide_eq_true (show 60<d.cache.length by omega),Bool.true_or,Bool.or_true]
   rw [e]
   refine Fn.st Tryz.func20 rfl ?_
   conv=>whnf
   rw [show decide ((d.cells.length:Int) > 310)=false from decide_eq_false (by omega)]
   conv=>whnf
   rw [show decide ((d.cache.length:Int) > 60)=true from decide_eq_true (by omega)]
   exact⟨_,ri,rfl⟩
 ·have e:F8 d=true:=by rw [F8,decide_eq_true (show 310<d.cells.length by omega),Bool.true_or]
  rw [e]
  refine Fn.st Tryz.func20 rfl ?_
  conv=>whnf
  rw [show decide ((d.cells.length:Int) > 310)=true from decide_eq_true (by omega)]
  exact⟨_,ri,rfl⟩
theorem le_sumN:∀ (l:List Nat) (x:Nat),x∈l->x<=l.sum
 | y::l,x,h=>by
  rw [List.sum_cons]
  rcases Bq.1 h with rfl | h
  ·omega
  ·have:=le_sumN l x h
   omega
theorem Sn {d:Dk} (h:F8 d=false):d.cells.length<=310/\d.cache.length<=60/\(∀ c∈d.cells,c.bytes.length<=60000/\c.old.length<=60000)/\∀ w∈d.cache,w.bytes.length<=60000:=by
 simp only [F8,Dh,decide_eq_false_iff_not] at h
 obtain⟨h1,h2,h3⟩:=h
 refine⟨by omega,by omega,fun c hc=>?_,fun w hw=>?_⟩
 ·have:=le_sumN _ (Hb c) (List.mem_map_of_mem hc)
  have e:Hb c=min c.bytes.length 100000+min c.old.length 100000:=rfl
  omega
 ·have:=le_sumN _ (NH w) (List.mem_map_of_mem hw)
  have e:NH w=min w.bytes.length 100000:=rfl
  omega
def FV (l:List Tx):Bool:=decide (40<l.length) || l.any fun t=>EK t.images
theorem Mw (l:List Tx):Fn Tryz.prog 22 [DS l] fun r=>r = .v (.bool (FV l)):=by
 by_cases h1:l.length<=40
 ·have e:FV l=l.any fun t=>EK t.images:=by rw [FV,decide_eq_false (by omega),Bool.false_or]
  rw [e]
  refine Fn.st Tryz.func22 rfl ?_
  conv=>whnf
  rw [show decide ((l.length:Int) > 40)=false from decide_eq_false (by omega)]
  conv=>whnf
  refine aLoop.ruleRR Nat (fun k=>([(0,DS l),(2, .v (.bool false)),(3, .v (.int .i64 k))], [])) (fun k=>k<=l.length/\((l.take k).any fun t=>EK t.images)=false) (fun k=>l.length - k) 0 ⟨Ag _,rfl⟩
   (WkN.r (s:= []) ⟨⟨rfl,rfl,rfl,trivial⟩,trivial,rfl,rfl,rfl,rfl,rfl⟩) ?_
  rintro k ⟨hk,hI⟩
  conv=>whnf
  refine Al (fun h6=>?_) (fun h6=>?_) <;> (repeat rw [Aa] at h6) <;> conv=>whnf
  ·have hk':k<l.length:=by omega
   have hh:=Uc (l.getD (k:Int).toNat ⟨0,0,0, []⟩).images
   have hst:((l.take (k+1)).any fun t=>EK t.images)=EK (l.getD (k:Int).toNat ⟨0,0,0, []⟩).images:=by
    rw [Aa,List.getD_eq_getElem?_getD,List.getElem?_eq_getElem hk',Ba,List.getElem?_eq_getElem hk',C0,hI]
    simp
   refine⟨⟨by omega,by omega⟩,?_⟩
   conv=>whnf
   cases hb:EK (l.getD (k:Int).toNat ⟨0,0,0, []⟩).images with
   | true=>
    rw [hb] at hh hst
    refine Fn.cl hh ?_
    conv=>whnf
    exact⟨_,ri,congrArg (fun b=>AV.v (.bool b)) (by rw [<-Bf (k+1) l,C0,hst];rfl)⟩
   | false=>
    rw [hb] at hh hst
    refine Fn.cl hh ?_
    exact⟨k+1,⟨hk',hst⟩,by omega,WkN.r (s:= []) ⟨⟨rfl,rfl,AA (by omega),trivial⟩,trivial,rfl,rfl,rfl,rfl,rfl⟩⟩
  ·have ek:k=l.length:=by omega
   rw [ek,List.take_length] at hI
   exact⟨_,ri,by rw [hI]⟩
 ·have e:FV l=true:=by rw [FV,decide_eq_true (show 40<l.length by omega),Bool.true_or]
  rw [e]
  refine Fn.st Tryz.func22 rfl ?_
  conv=>whnf
  rw [show decide ((l.length:Int) > 40)=true from decide_eq_true (by omega)]
  exact⟨_,ri,rfl⟩
theorem Sm {l:List Tx} (h:FV l=false):l.length<=40/\∀ t∈l,EK t.images=false:=by
 simp only [FV,Dh,decide_eq_false_iff_not,List.any_eq_false] at h
 exact⟨by omega,fun t ht=>by simpa using h.2 t ht⟩
theorem Fn.readsB {P:Program} {f:FuncId} {args:List AV} {a b:AV} (h:Fn P f args fun r=>r=a) (hk:∀ c u,Rd a c u->Rd b c u):Fn P f args fun r=>r=b:=
 ⟨h.go,fun c us hd hM hg hr=>(h.calls c us hd hM hg hr).mono fun _ _ ⟨v,_,e1,e2,e3,e4⟩=>⟨v,_,e1,rfl,e3,hk _ _ (e2 ▸ e4)⟩⟩
def F4 (g:Geo) (d:Dk):Bool:=FZ d&&decide ((d.cells.length:Int)=A0 g)
theorem XE (g:Geo) (s:ByteArray) (hl:s.size<=200):∃ F e,Fn Tryz.prog 24 [.ag (A7 g), .v (.string s)] (fun r=>r = .tp [.ag (DG F), .v (.int .i64 e)])/\(AS g=false->F=dk0/\e=1)/\(AS g=true->e=C5 s.data.toList/\(e=0->F=FG g s)/\(e≠0->F=dk0)):=by
 have zs:∀ (n:Int) (c:Ctx) (v:Value),Rd (.tp [.ag [nilV,nilV,ze 0,ze 0], .v (.int .i64 n)]) c v->Rd (.tp [.ag (DG dk0), .v (.int .i64 n)]) c v:=fun n=>Bu (m:= [.ag (DG dk0), .v (.int .i64 n)]) ⟨AG dk0_sub,ri,trivial⟩
 cases hg:AS g with
 | false=>exact⟨dk0,1,(Qh g s hg (by omega)).readsB (zs 1),fun _=>⟨rfl,rfl⟩,fun h=>by cases h⟩
 | true=>
  by_cases hs:C5 s.data.toList=0
  ·exact⟨FG g s,0,M5 g s hg hs (by omega),fun h=>(by cases h),fun _=>⟨hs.symm,fun _=>rfl,fun h=>absurd rfl h⟩⟩
  ·exact⟨dk0,_,(Qg g s hg hs (by omega)).readsB (zs _),fun h=>(by cases h),fun _=>⟨rfl,fun h=>absurd h hs,fun _=>rfl⟩⟩
theorem XN (g:Geo) (d:Dk) (a:An) (h1:d.cells.length<=1000000) (h2:d.cache.length<=1000000) (hl:a.label.size<=1000000) (hh:a.homes.length<=1000000):∃ W n h,Fn Tryz.prog 25 [.ag (A7 g), .ag (DG d), .ag (CE a)] (fun r=>r = .tp [.ag (DG W), .v (.int .i64 n), .v (.int .i64 h)])/\(((AS g&&AY g a)&&F4 g d)=false->W=dk0/\n=0/\h=1)/\(((AS g&&AY g a)&&F4 g d)=true->W=(d.putAll (Au g a)).1/\n=(if (d.putAll (Au g a)).2.2 then 0 else (((d.putAll (Au g a)).2.1:Nat):Int))/\h=(if (d.putAll (Au g a)).2.2 then 8 else 0)):=by
 cases hb:(AS g&&AY g a)&&F4 g d with
 | false=>exact⟨_,_,_,NA g d a h1 h2 hl hh hb,fun _=>⟨rfl,rfl,rfl⟩,fun h=>by cases h⟩
 | true=>
  simp only [F4,Bool.and_eq_true,decide_eq_true_eq] at hb
  exact⟨_,_,_,Pp g d a hb.1.1 hb.1.2 (FY.1 hb.2.1) hb.2.2,fun h=>(by cases h),fun _=>⟨rfl,rfl,rfl⟩⟩
theorem XC (g:Geo) (d:Dk) (h1:d.cells.length<=1000000) (h2:d.cache.length<=1000000):∃ M:Dk × Int × Stt,Fn Tryz.prog 13 [.ag (A7 g), .ag (DG d)] (fun r=>r = .tp [.ag (Fg M.2.2), .ag (DG M.1), .v (.int .i64 M.2.1)])/\((AS g&&F4 g d)=false->M=(dk0,1,st0))/\((AS g&&F4 g d)=true->M=BK g d):=by
 cases hb:AS g&&F4 g d with
 | false=>exact⟨(dk0,1,st0),PV g d h1 h2 hb,fun _=>rfl,fun h=>by cases h⟩
 | true=>
  simp only [F4,Bool.and_eq_true,decide_eq_true_eq] at hb
  exact⟨_,Mj g d hb.1 (FY.1 hb.2.1) hb.2.2,fun h=>(by cases h),fun _=>rfl⟩
theorem kdisk_zero:Fn Tryz.prog 16 [.ag (DG dk0), .ag [nilV,nilV,ze 0,ze 0]] fun r=>r = .v (.bool true):=by
 have:=La dk0 dk0 (by simp [dk0]) (by simp [dk0]) (by simp [dk0]) (by simp [dk0])
 rw [decide_eq_true rfl] at this
 exact this.subA ⟨ri,AG dk0_sub,trivial⟩
theorem kstate_zero:Fn Tryz.prog 15 [.ag (Fg st0), .ag [ze 0,ze 0,ze 0,ze 0,ze 0, .v (.string ⟨#[]⟩),nilV,nilV, .v (.bool false),ze 0,ze 0,ze 0,ze 0,nilV]] fun r=>r = .v (.bool true):=
 (JU st0_sm).subA ⟨ri,AG st0_sub,trivial⟩
theorem VM {g:Geo} {s:ByteArray} (hg:AS g=true) (hs:C5 s.data.toList=0):DkOk (FG g s):=by
 have:=QQ (s:=s) (fill:=0) (sizes:= []) hg hs
 rwa [show A8 g (A5 g s) 0 [] 0 (A5 g s).pos 0=[] from rfl,OH] at this
theorem XD {m:Nat} (h:Nat.ble 14 m=true):∀ z∈ [10,11,12,13],z<m:=fun z hz=>by
 have:=Ad h
 simp at hz
 omega
theorem N3 (g:Geo) (s:ByteArray) (d:Dk) (S:Stt) (a:An) (p1:s.size<=200) (p2:F8 d=false) (p3:F9 a=false) (p4:F9 S.a=false) (p5:FV S.txns=false) (p6:S.lost.length<=60):Fn Tryz.prog 5 [.ag (A7 g), .v (.string s), .ag (DG d), .ag (Fg S), .ag (CE a)] fun r=>r = .v (.bool true):=by
 have c2:=Mx d
 have c3:=Hw a
 have c4:=Hw S.a
 have c5:=Mw S.txns
 rw [p2] at c2
 rw [p3] at c3
 rw [p4] at c4
 rw [p5] at c5
 obtain⟨d1,d2,d3,d4⟩:=Sn p2
 obtain⟨a1,a2⟩:=My p3
 obtain⟨b1,b2⟩:=My p4
 obtain⟨t1,t2⟩:=Sm p5
 have hbig:StBig S:=⟨by omega,by omega,⟨by omega,fun t ht=>by have:=Ub (t2 t ht);exact⟨by omega,fun x hx=>by have:=this.2 x hx;omega⟩⟩,by omega⟩
 have ctw:=Nu d (by omega) (by omega) (fun c hc=>by have:=d3 c hc;omega) (fun w hw=>by have:=d4 w hw;omega)
 have csame:=La d d (by omega) (by omega) (fun c hc=>by have:=d3 c hc;omega) (fun w hw=>by have:=d4 w hw;omega)
 rw [decide_eq_true rfl] at csame
 obtain⟨F,e,cF,F0,F1⟩:=XE g s p1
 obtain⟨W,n,h,cW,W0,W1⟩:=XN g d a (by omega) (by omega) (by omega) (by omega)
 obtain⟨⟨MD,Me,MS⟩,cM,M0,M1⟩:=XC g d (by omega) (by omega)
 have cC:=ME g d S (by omega) (by omega) hbig
 have cG:=Tz g
 have cw:=wakes22_fn
 simp only at cM
 cases hg:AS g with
 | false=>
  obtain⟨rfl,rfl⟩:=F0 hg
  obtain⟨rfl,rfl,rfl⟩:=W0 (by rw [hg];rfl)
  have:=M0 (by rw [hg];rfl)
  simp only [Prod.mk.injEq] at this
  obtain⟨rfl,rfl,rfl⟩:=this
  rw [hg] at cG
  rw [show LA g d S=false by rw [LA,hg];rfl] at cC
  clear F0 F1 W0 W1 M0 M1
  refine Fn.st Tryz.func5 rfl ?_
  conv=>whnf
  rw [show decide ((s.size:Int) > 200)=false from decide_eq_false (by omega)]
  conv=>whnf
  refine Fn.cl c2 ?_
  conv=>whnf
  refine Fn.cl c3 ?_
  conv=>whnf
  refine Fn.cl c4 ?_
  conv=>whnf
  refine Fn.cl c5 ?_
  conv=>whnf
  rw [show decide ((S.lost.length:Int) > 60)=false from decide_eq_false (by omega)]
  conv=>whnf
  refine Fn.cl ctw ?_
  conv=>whnf
  refine Fn.cl cF ?_
  conv=>whnf
  refine Fn.cl cW ?_
  conv=>whnf
  refine Fn.cl cM ?_
  conv=>whnf
  refine Fn.cl cC ?_
  conv=>whnf
  refine Fn.cl csame ?_
  conv=>whnf
  refine Fn.cl cG ?_
  conv=>whnf
  refine Fn.cl kdisk_zero ?_
  conv=>whnf
  refine Fn.cl kdisk_zero ?_
  conv=>whnf
  refine Fn.cl kdisk_zero ?_
  conv=>whnf
  refine Fn.cl kstate_zero ?_
  conv=>whnf
  refine Fn.cl cw ?_
  exact⟨_,ri,rfl⟩
 | true=>
  obtain⟨rfl,F2,F3⟩:=F1 hg
  rw [hg] at cG
  have hsz:s.size<=9223372036854775807:=by omega
  have cL:=Jo s hsz
  have cS:=R8 g d S hg (by omega) (by omega) hbig
  have cD:=Oq g d hg (by omega) (by omega)
  rw [show (FZ d&&decide ((d.cells.length:Int)=A0 g))=F4 g d from rfl] at cD
  have cA:=H_ g a hg (by omega)
  rw [hg,At] at W0 W1 M0 M1
  clear F0 F1
  generalize LA g d S=z at cC cS
  refine Fn.st Tryz.func5 rfl ?_
  conv=>whnf
  rw [show decide ((s.size:Int) > 200)=false from decide_eq_false (by omega)]
  conv=>whnf
  refine Fn.cl c2 ?_
  conv=>whnf
  refine Fn.cl c3 ?_
  conv=>whnf
  refine Fn.cl c4 ?_
  conv=>whnf
  refine Fn.cl c5 ?_
  conv=>whnf
  rw [show decide ((S.lost.length:Int) > 60)=false from decide_eq_false (by omega)]
  conv=>whnf
  refine Fn.cl ctw ?_
  conv=>whnf
  refine Fn.cl cF ?_
  conv=>whnf
  refine Fn.cl cW ?_
  conv=>whnf
  refine Fn.cl cM ?_
  conv=>whnf
  refine Fn.cl cC ?_
  conv=>whnf
  refine Fn.cl csame ?_
  conv=>whnf
  refine Fn.cl cG ?_
  conv=>whnf
  refine Fn.cl cL ?_
  conv=>whnf
  have hE3:C5 s.data.toList=0\/C5 s.data.toList=2\/C5 s.data.toList=3:=by
   unfold C5
   repeat' split
   all_goals simp
  rcases hE3 with hE | hE | hE
  rotate_left 1
  all_goals rw [hE]
  iterate 2
   have:=F3 (by rw [hE];decide)
   subst this
   apply aDraw.tree tys_ok mixed (.one 0 (.one 1 (.one 2 (.one 3 (.one 4 (.one 5 (.one 6 (.one 7 (.one 8 (.one 9 (.one 10 (.one 11 (.one 12 (.one 13 (.one 14 (.one 15 (.one 16 (.one 17 (.one 18 (.one 19 (.one 20 (.one 21 (.one 22 (.one 23 (.one 24 .fin))))))))))))))))))))))))) [135,136,137,138,139,140,141,142,143,144,145,146,147,148,149,150,151,152,153,154,155,156,157,158,159] (by kernel_rfl)
   ·conv=>whnf
    (skip)
    conv=>whnf
    (skip)
    conv=>whnf
    refine Fn.cl kdisk_zero ?_
    exact⟨rfl,rfl⟩
   conv=>whnf
   rotate_left 1
  have:=F2 hE
  subst this
  have cf:=PG g s hg hE
  have cff:=Ik (VM hg hE)
  apply aDraw.tree tys_ok mixed (.one 0 (.one 1 (.one 2 (.one 3 (.one 4 (.one 5 (.one 6 (.one 7 (.one 8 (.one 9 (.one 10 (.one 11 (.one 12 (.one 13 (.one 14 (.one 15 (.one 16 (.one 17 (.one 18 (.one 19 (.one 20 (.one 21 (.one 22 (.one 23 (.one 24 .fin))))))))))))))))))))))))) [135,136,137,138,139,140,141,142,143,144,145,146,147,148,149,150,151,152,153,154,155,156,157,158,159] (by kernel_rfl)
  ·conv=>whnf
   refine Fn.cl cf ?_
   conv=>whnf
   refine Fn.cl cff ?_
   conv=>whnf
   (skip)
   exact⟨rfl,rfl⟩
  conv=>whnf
  all_goals
   refine Fn.cl cS ?_
   conv=>whnf
   cases z
  all_goals
   conv=>whnf
   refine Fn.cl cD ?_
   conv=>whnf
   repeat' (first | (refine aSeq.go ?_;conv=>whnf) | fail)
   refine Fn.cl cA ?_
   conv=>whnf
   cases hR:F4 g d with
   | false=>
    obtain⟨rfl,rfl,rfl⟩:=W0 (by rw [hR,B4])
    have:=M0 hR
    simp only [Prod.mk.injEq] at this
    obtain⟨rfl,rfl,rfl⟩:=this
    cases AY g a
    all_goals
     conv=>whnf
     refine Fn.cl kdisk_zero ?_
     conv=>whnf
     conv=>whnf
     refine Fn.cl kdisk_zero ?_
     conv=>whnf
     refine Fn.cl kstate_zero ?_
     conv=>whnf
     refine Fn.cl cw ?_
     exact⟨_,ri,rfl⟩
   | true=>
    have hRR:=hR
    simp only [F4,Bool.and_eq_true,decide_eq_true_eq] at hRR
    have hdk:DkOk d:=FY.1 hRR.1
    have cR:=PF g d hg hdk hRR.2
    have hmo:=Js hg hdk hRR.2
    have hsm:=Jr (g:=g) (d:=d) hg
    have hMM:=M1 hR
    rw [<-hMM] at cR hmo hsm
    have ck:=Ik hmo.1
    have cs:=JU hsm
    simp only at cR ck cs
    clear hMM hmo hsm M0 M1
    cases hA:AY g a with
    | false=>
     obtain⟨rfl,rfl,rfl⟩:=W0 (by rw [hA];rfl)
     conv=>whnf
     refine Fn.cl kdisk_zero ?_
     conv=>whnf
     conv=>whnf
     refine Fn.cl cR ?_
     conv=>whnf
     rw [show (Me == Me)=true from beq_self_eq_true _]
     conv=>whnf
     refine Fn.cl ck ?_
     conv=>whnf
     refine Fn.cl cs ?_
     conv=>whnf
     refine Fn.cl cw ?_
     exact⟨_,ri,rfl⟩
    | true=>
     obtain⟨rfl,rfl,rfl⟩:=W1 (by rw [hA,hR];rfl)
     have hlw:=EN hg hA hRR.2
     have hpk:=Ik (Fq hdk hlw).1
     have cB:=Ma g d st0 hdk st0_sm
     have cN:=JN g st0 d a hg hA hdk hlw
     have hn1:(d.putAll (Au g a)).2.1=(d.writes (Au g a)).2.1:=by
      cases hx:(d.writes (Au g a)).2.2 with
      | true=>rw [DM hx]
      | false=>
       rw [DL hx]
       split <;> rfl
     rw [<-hn1] at cN
     clear W0 W1 hn1 cW
     generalize d.putAll (Au g a)=P at cN hpk |-
     obtain⟨D,k,dead⟩:=P
     simp only at cN hpk
     conv=>whnf
     refine ACalls.sub [.ag (A7 g), .ag (DG d), .ag (Fg st0)] ⟨ri,ri,AG st0_sub,trivial⟩ ?_
     refine ACalls.beside cB rfl ?_
     rintro _ _ ⟨rfl,rfl⟩
     conv=>whnf
     refine ACalls.frame [10,11,12,13] cN rfl rfl rfl rfl (by decide) (XD rfl) ⟨rfl,rfl,rfl,rfl,trivial⟩ ?_
     rintro _ _ ⟨rfl,rfl⟩
     conv=>whnf
     cases dead
     all_goals
      repeat' (first | (refine aSeq.go ?_;conv=>whnf) | fail)
      apply aDraw.tree tys_ok mixed (.one 0 (.one 1 (.one 2 (.one 3 (.one 4 (.one 5 (.one 6 (.one 7 (.one 8 (.one 9 (.one 10 (.one 11 (.one 12 (.one 13 (.one 14 (.one 15 (.one 16 (.one 17 (.one 18 (.one 19 (.one 20 (.one 21 (.one 22 .fin))))))))))))))))))))))) [210,211,212,213,214,215,216,217,218,219,220,221,222,223,224,225,226,227,228,229,230,231,232] (by kernel_rfl)
      ·conv=>whnf
       ((first | rw [show ((if (D,k,false).2.2=true then (0:Int) else (((D,k,false).2.1:Nat):Int)) != (k:Int))=false from bne_self_eq_false (a:=(k:Int))] | skip);(conv=>whnf);refine ACalls.shut hpk.go ?_;(conv=>whnf);refine And.intro (Ab _).symm ?_;(conv=>whnf);refine And.intro (Ab _).symm ?_;(conv=>whnf);refine ACalls.sub [.ag (DG D), .ag (DG D)] ⟨ri,AG ⟨AJ (f:=Bi) D.cells rfl rfl,AJ (f:=DA) D.cache rfl rfl,ri,ri,trivial⟩,trivial⟩ ?_;refine Fn.cl hpk ?_)
       exact⟨rfl,rfl⟩
      conv=>whnf
      conv=>whnf
      refine Fn.cl cR ?_
      conv=>whnf
      rw [show (Me == Me)=true from beq_self_eq_true _]
      conv=>whnf
      refine Fn.cl ck ?_
      conv=>whnf
      refine Fn.cl cs ?_
      conv=>whnf
      refine Fn.cl cw ?_
      exact⟨_,ri,rfl⟩
theorem Qk (g:Geo) (s:ByteArray) (d:Dk) (S:Stt) (a:An):Fn Tryz.prog 5 [.ag (A7 g), .v (.string s), .ag (DG d), .ag (Fg S), .ag (CE a)] fun r=>r = .v (.bool true):=by
 have c2:=Mx d
 have c3:=Hw a
 have c4:=Hw S.a
 have c5:=Mw S.txns
 by_cases p1:s.size<=200
 ·cases p2:F8 d with
  | true=>
   rw [p2] at c2
   refine Fn.st Tryz.func5 rfl ?_
   conv=>whnf
   rw [show decide ((s.size:Int) > 200)=false from decide_eq_false (by omega)]
   conv=>whnf
   refine Fn.cl c2 ?_
   exact⟨_,ri,rfl⟩
  | false=>
   cases p3:F9 a with
   | true=>
    rw [p2] at c2
    rw [p3] at c3
    refine Fn.st Tryz.func5 rfl ?_
    conv=>whnf
    rw [show decide ((s.size:Int) > 200)=false from decide_eq_false (by omega)]
    conv=>whnf
    refine Fn.cl c2 ?_
    conv=>whnf
    refine Fn.cl c3 ?_
    exact⟨_,ri,rfl⟩
   | false=>
    cases p4:F9 S.a with
    | true=>
     rw [p2] at c2
     rw [p3] at c3
     rw [p4] at c4
     refine Fn.st Tryz.func5 rfl ?_
     conv=>whnf
     rw [show decide ((s.size:Int) > 200)=false from decide_eq_false (by omega)]
     conv=>whnf
     refine Fn.cl c2 ?_
     conv=>whnf
     refine Fn.cl c3 ?_
     conv=>whnf
     refine Fn.cl c4 ?_
     exact⟨_,ri,rfl⟩
    | false=>
     by_cases p56:FV S.txns=false/\S.lost.length<=60
     ·exact N3 g s d S a p1 p2 p3 p4 p56.1 p56.2
     ·rw [p2] at c2
      rw [p3] at c3
      rw [p4] at c4
      refine Fn.st Tryz.func5 rfl ?_
      conv=>whnf
      rw [show decide ((s.size:Int) > 200)=false from decide_eq_false (by omega)]
      conv=>whnf
      refine Fn.cl c2 ?_
      conv=>whnf
      refine Fn.cl c3 ?_
      conv=>whnf
      refine Fn.cl c4 ?_
      conv=>whnf
      cases p5:FV S.txns with
      | true=>
       rw [p5] at c5
       refine Fn.cl c5 ?_
       exact⟨_,ri,rfl⟩
      | false=>
       have p6:¬S.lost.length<=60:=fun h=>p56 ⟨p5,h⟩
       rw [p5] at c5
       refine Fn.cl c5 ?_
       conv=>whnf
       rw [show decide ((S.lost.length:Int) > 60)=true from decide_eq_true (by omega)]
       exact⟨_,ri,rfl⟩
 ·refine Fn.st Tryz.func5 rfl ?_
  conv=>whnf
  rw [show decide ((s.size:Int) > 200)=true from decide_eq_true (by omega)]
  exact⟨_,ri,rfl⟩
end Go.Proofs.YtldngmdpiifamaaGreatDoor.A
end
section
namespace Go.Proofs.YtldngmdpiifamaaGreatDoor.A
open Go.RowKit Go.ChangeShapes Go.WideShapes Go.ChangeAt Go.Deep
section
variable {H:Type} {enc:TypeId × Value->H} {w:World}
theorem oCel:OpenE enc w 87 3 fun L=>∃ x,L=Bi x:=
 (DC [fI,fBy,fBy] Tryz.underlying87 (by kernel_rfl) (by kernel_rfl)).mono fun L h=>by
  obtain⟨_,_,rfl,⟨a,rfl,_⟩,_,_,rfl,⟨b,rfl⟩,_,_,rfl,⟨c,rfl⟩,rfl⟩:=h
  exact⟨⟨a,b,c⟩,rfl⟩
theorem oWr:OpenE enc w 130 2 fun L=>∃ x,L=DA x:=
 (DC [fI,fBy] Tryz.underlying130 (by kernel_rfl) (by kernel_rfl)).mono fun L h=>by
  obtain⟨_,_,rfl,⟨a,rfl,_⟩,_,_,rfl,⟨b,rfl⟩,rfl⟩:=h
  exact⟨⟨a,b⟩,rfl⟩
theorem oCels:OpenE enc w 29 1 fun L=>∃ l,L=[MB l]:=
 (KO (α:=Cel) (sz:=3) (f:=Bi) (d:=⟨0, [], []⟩) Tryz.underlying29 (by kernel_rfl) (by decide) oCel).mono fun L ⟨l,h⟩=>⟨l,h⟩
theorem oWrs:OpenE enc w 30 1 fun L=>∃ l,L=[FF l]:=
 (KO (α:=Wr) (sz:=2) (f:=DA) (d:=⟨0, []⟩) Tryz.underlying30 (by kernel_rfl) (by decide) oWr).mono fun L ⟨l,h⟩=>⟨l,h⟩
def fCels:FieldE enc w:=⟨_,_,_,oCels⟩
def fWrs:FieldE enc w:=⟨_,_,_,oWrs⟩
theorem oDisk:OpenE enc w 32 4 fun L=>∃ x,L=DG x:=
 (DC [fCels,fWrs,fI,fI] Tryz.underlying32 (by kernel_rfl) (by kernel_rfl)).mono fun L h=>by
  obtain⟨_,_,rfl,⟨a,rfl⟩,_,_,rfl,⟨b,rfl⟩,_,_,rfl,⟨c,rfl,_⟩,_,_,rfl,⟨d,rfl,_⟩,rfl⟩:=h
  exact⟨⟨a,b,c,d⟩,rfl⟩
def fImgs:FieldE enc w:=⟨_,_,_,oImgs⟩
theorem oTx:OpenE enc w 78 4 fun L=>∃ x,L=Hi x:=
 (DC [fI,fI,fI,fImgs] Tryz.underlying78 (by kernel_rfl) (by kernel_rfl)).mono fun L h=>by
  obtain⟨_,_,rfl,⟨a,rfl,_⟩,_,_,rfl,⟨b,rfl,_⟩,_,_,rfl,⟨c,rfl,_⟩,_,_,rfl,⟨d,rfl⟩,rfl⟩:=h
  exact⟨⟨a,b,c,d⟩,rfl⟩
theorem oTxs:OpenE enc w 33 1 fun L=>∃ l,L=[DS l]:=
 (KO (α:=Tx) (sz:=4) (f:=Hi) (d:=⟨0,0,0, []⟩) Tryz.underlying33 (by kernel_rfl) (by decide) oTx).mono fun L ⟨l,h⟩=>⟨l,h⟩
def fAn:FieldE enc w:=⟨_,_,_,oAnchor⟩
def fTxs:FieldE enc w:=⟨_,_,_,oTxs⟩
def fBool:FieldE enc w:=⟨_,_,_,oBool⟩
theorem oHealth:OpenE enc w 42 4 fun L=>∃ a b c l,L=[.v (.int .i64 a), .v (.int .i64 b), .v (.int .i64 c),iA l]:=
 (DC [fI,fI,fI,fIs] Tryz.underlying42 (by kernel_rfl) (by kernel_rfl)).mono fun L h=>by
  obtain⟨_,_,rfl,⟨a,rfl,_⟩,_,_,rfl,⟨b,rfl,_⟩,_,_,rfl,⟨c,rfl,_⟩,_,_,rfl,⟨d,rfl⟩,rfl⟩:=h
  exact⟨a,b,c,d,rfl⟩
def fHl:FieldE enc w:=⟨_,_,_,oHealth⟩
theorem oState:OpenE enc w 44 14 fun L=>∃ x,L=Fg x:=
 (DC [fAn,fTxs,fBool,fI,fHl] Tryz.underlying44 (by kernel_rfl) (by kernel_rfl)).mono fun L h=>by
  obtain⟨_,_,rfl,⟨a,rfl⟩,_,_,rfl,⟨t,rfl⟩,_,_,rfl,⟨o,rfl⟩,_,_,rfl,⟨c,rfl,_⟩,_,_,rfl,⟨f,x,m,l,rfl⟩,rfl⟩:=h
  exact⟨⟨a,t,o,c,f,x,m,l⟩,rfl⟩
end
end Go.Proofs.YtldngmdpiifamaaGreatDoor.A
end
section
namespace Go.Proofs.YtldngmdpiifamaaGreatDoor
open Go.ChangeShapes Go.WideShapes Go.ChangeAt Go.RowKit
theorem own_none:ownKnob Tryz.prog.godebug=none:=by kernel_rfl
theorem laidOut:laidOutB Tryz.prog=true:=by kernel_rfl

section
variable {H:Type} {enc:TypeId × Value->H}
theorem TS {f:Func} {s:ChangeSpec} {apart fresh handsOn again:Bool} {W W':World} {args:Array Value} {ds:List (DataW H)} {before:List MemPlace}
  (hW:DataW.Whole enc Tryz.prog f.params.toList s.vars apart W args.toList ds [] before) (hv:s.vars=[]) (hvs:(s.fn H (ds ++ [])).vars=[])
  (hr:f.resultTypes = #[4]) (hfr:(s.fn H (ds ++ [])).results=[.lit (.bool true)]) (hfa:(s.fn H (ds ++ [])).args=ds)
  (hrow:∀ t∈f.params.toList,Tryz.prog.readableRec t=true/\t<Tryz.prog.types.size) (hb:Below W.heap.size W W') :
  s.post enc Tryz.prog f apart fresh handsOn again W args (.bool true) W':=by
 have hlt:∀ p∈before,p.block<W.heap.size:=fun p hp=>hW.lt p hp
 obtain⟨p,q,hA,hV,hpq,hz,hn⟩:=id hW
 rw [hv] at hV
 obtain⟨-,rfl⟩:=trodVars_none hV
 rw [List.append_nil] at hpq
 subst hpq
 have stay:∀ sp:Nat->Bool,(∀ x∈before,sp x.block=true)->DataW.TrodAll enc Tryz.prog W' 0 sp true f.params.toList args.toList ds before:=by
  intro sp hsp
  have go:∀ (ts:List TypeId) (vs:List Value) (es:List (DataW H)) (ps:List MemPlace),(∀ t∈ts,Tryz.prog.readableRec t=true/\t<Tryz.prog.types.size)->(∀ x∈ps,x∈before)->
    DataW.TrodAll enc Tryz.prog W 0 (fun _=>true) true ts vs es ps->DataW.TrodAll enc Tryz.prog W' 0 sp true ts vs es ps:=by
   intro ts
   induction ts with
   | nil=>
    intro vs es ps _ _ h
    cases vs <;> cases es <;> exact h
   | cons t ts ih=>
    intro vs es ps ht hin h
    cases vs with
    | nil=>cases es <;> exact h.elim
    | cons v vs=>
     cases es with
     | nil=>exact h.elim
     | cons e es=>
      obtain⟨p1,p2,h1,h2,rfl⟩:=h
      exact⟨p1,p2,WideElems.Trod_stays laidOut (ht t (by simp)).1 (ht t (by simp)).2 h1 (fun x hx=>hb.same (hlt x (hin x (by simp [hx])))) (fun x hx=>hsp x (hin x (by simp [hx]))),
       ih vs es p2 (fun t' ht'=>ht t' (by simp [ht'])) (fun x hx=>hin x (by simp [hx])) h2,rfl⟩
  exact go _ _ _ _ hrow (fun x hx=>hx) hA
 have hres:∀ (b:Nat) (sp:Nat->Bool) (hd:Bool),DataW.TrodAll enc Tryz.prog W' b sp hd f.resultTypes.toList ((Value.bool true).resultList f.resultTypes.size) (s.fn H (ds ++ [])).results []:=by
  intro b sp hd
  rw [hr,hfr]
  exact trodAll_mk1 ⟨1,by simp [DataW.trod,Value.cells,Tryz.underlying4]⟩
 have hold:∀ p∈before,(fun b=>decide (b<W.heap.size)) p.block=true:=fun p hp=>by simpa using hlt p hp
 have hvars:∀ sp:Nat->Bool,DataW.TrodVars enc Tryz.prog W' sp s.vars (s.fn H (ds ++ [])).vars []:=by
  intro sp;rw [hv,hvs];exact rfl
 refine⟨ds, [],before, [],before, [],hW,hres _ _ _,by rw [hfa];exact stay _ hold,hvars _,World.keptBut_mono (fun p hp=>⟨hp,?_⟩) (hb.frame (·∈before)),fun _=>?_⟩
 ·exact Or.inr (by simpa using hp)
 ·refine⟨ok_one hr rfl (by simp [Value.okWide,Tryz.underlying4,Cell.okWide,Cell.ok]),_,_,([] ++ before) ++ [],⟨[] ++ before, [],trodAll_append (stay _ (fun _ _=>rfl)) (hres _ _ _),hvars _,rfl,?_,?_⟩,?_⟩
  ·intro b off hp
   have hin:MemPlace.cell b off∈before:=by simpa using hp
   rw [hb.frozen (hlt _ hin)]
   exact hz b off hin
  ·intro ha
   have:=hn ha
   simpa using this
  ·intro p hp _
   simpa using hp
end
abbrev TU : List (String × DataW Unit) := [("unicode/utf8.acceptRanges", Rows.laid_unicode_utf8_acceptRanges), ("unicode/utf8.first", Rows.laid_unicode_utf8_first)]
noncomputable def Jz (os:Os):World:=
 let w0:=World.holding Tryz.prog os ⟨#[], #[], []⟩
 let put (h:Array Obj) (g:Nat) (cs:Array Value):Array Obj:=h.modify g fun
  | .cells _ t frozen=> .cells cs t frozen
  | o=>o
 let h1:=put w0.heap 0 (Lib.firstTab.map fun z=>Value.int .u8 z).toArray
 let h2:=put h1 1 ((List.range 16).flatMap fun i=> [Value.int .u8 (Lib.accLo i),Value.int .u8 (Lib.accHi i)]).toArray
 { w0 with heap:=h2 }
theorem TT (os:Os) (args:Array Value):laidMetH Tryz.prog TU ((Jz os).forCall (fun _ _=>0) ⟨#[],args, []⟩).memory:=by
 rw [MakeChecks.laidMetH_plain _ _ _ (by kernel_rfl)]
 exact(LaidIn.of_run (l:=TU) [1,0] 8 (by kernel_rfl) (by kernel_rfl) (by kernel_rfl) (by kernel_rfl)).met
theorem first_data:Rows.laid_unicode_utf8_first=Lib.firstData:=by kernel_rfl
theorem accept_data:(Rows.laid_unicode_utf8_acceptRanges:DataW Unit)=Lib.acceptData:=by kernel_rfl
theorem Sa {W:World} (h:laidMetH Tryz.prog TU W):A.globOk W:=by
 rw [MakeChecks.laidMetH_plain _ _ _ (by kernel_rfl)] at h
 have h1:=Lib.laidMet.reads h (.head _)
 have h2:=Lib.laidMet.reads h (.tail _ (.head _))
 rw [accept_data] at h1
 rw [first_data] at h2
 exact utf8Tabs_of_readsT (U8Types.of196 Tryz.laysValid) ⟨by kernel_rfl,by kernel_rfl,by kernel_rfl,by kernel_rfl,by kernel_rfl,by kernel_rfl,by kernel_rfl⟩ h2 h1
end Go.Proofs.YtldngmdpiifamaaGreatDoor
end
