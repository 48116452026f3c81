/-
Several texts in one.
-/
import Derived.Test.YtepdhdfoipephaaGreatDoorPPD2P3
import Derived.Test.YtepdhdfoipephaaGreatDoorPPD2P2
import Derived.Test.YtepdhdfoipephaaGreatDoorPPD2P1
import Derived.Maps.OwnSet
set_option maxRecDepth 100000
set_option maxHeartbeats 8000000
set_option linter.unusedSimpArgs false
set_option linter.unusedVariables false
set_option linter.deprecated false
namespace Go.Proofs.YtepdhdfoipephaaGreatDoor.A
section
open Go.RowKit
theorem UK (g:Geo) (a:An) (x y:List Gt) (hg:Bq g=true) (ha:Bv g a=true) (hx:(x.length:Int)=g.sl) (hy:(y.length:Int)=g.sl) (hxb:∀ z∈x,z.bytes.length<=100000) (hyb:∀ z∈y,z.bytes.length<=100000) :
  Fn Tryz.prog 201 [.ag (Ba g), .ag (EJ a),FG x,FG y] fun r=>r = .tp [Eg (DS g a x y).1,Ma (DS g a x y).2.1, .v (.int .i64 (DS g a x y).2.2)]:=by
 obtain⟨h1,h2,h3,h4,h5⟩:=Ar.1 hg;have hq:=Jk ha;refine zT Tryz.func201 rfl ?_;conv=>whnf
 refine zA tys_ok mixed [0,1,2,3,4,5,6,7,8] (by kernel_rfl) ?_;conv=>whnf
 unfold DS;generalize hR:E8 g a x y g.sl.toNat a.pos a.seq g.sl [] []=R;refine zP (Nat × Int × Int × Int × List Tx × List (List AV) × List Wr) (fun z=>([(2,FG x),(3,FG y),(4, .bp 0 0),(5, .bp 1 0),(8, .v (.slice none 0 0)),(9, .v (.slice none 0 0)),(10,iv 0),(11, .ow 2 z.2.2.2.2.2.1.length),(12, .ow 3 z.2.2.2.2.2.2.length),(13,iv z.2.1),(14,iv z.2.2.1),(15,iv z.2.2.2.1)], [.box 23 (Ba g), .box 33 (EJ a), .row 112 4 z.2.2.2.2.2.1, .row 134 2 (z.2.2.2.2.2.2.map DR)]))
  (fun z=>E8 g a x y z.1 z.2.1 z.2.2.1 z.2.2.2.1 z.2.2.2.2.1 z.2.2.2.2.2.2=R/\z.2.2.2.1<=z.1/\(0<=z.2.1/\z.2.1<g.sl)/\(0<=z.2.2.1/\z.2.2.1<=4294967296)/\(z.2.2.2.2.1.length*2+z.2.2.2.1<=g.sl/\0<=z.2.2.2.1)/\z.2.2.2.2.2.2.length<=z.2.2.2.2.1.length*30/\SubLL z.2.2.2.2.2.1 (z.2.2.2.2.1.map Eb))
  (fun z=>z.1) (g.sl.toNat,a.pos,a.seq,g.sl, [], [], []) ⟨hR,show g.sl<=(g.sl.toNat:Int) by omega,hq.2,hq.1,⟨show (0:Int)*2+g.sl<=g.sl by omega,show 0<=g.sl by omega⟩,Ah 0,tv⟩ ⟨[(11,112,4),(12,134,2)],tA,tA,tA,rfl,rfl,rfl⟩ ?_
 rintro⟨f,pos,seq,left,l,rl,w⟩ ⟨b1,b2,b3,b4,b5,b6,b7⟩;dsimp only at b1 b2 b3 b4 b5 b6 b7 |-
 have b8:rl.length=l.length:=by have:=b7.len;rwa [Ac] at this
 conv=>whnf
 refine A6 (fun c1=>?A) (fun c1=>?B)
 case' A=>conv=>whnf
 case' A=>refine A6 (fun c2=>?A1) (fun c2=>?A2)
 case A1=>
  conv=>whnf
  cases f with
  | zero=>exfalso;omega
  | succ f=>
   unfold E8 at b1;rw [if_pos ⟨c1,c2⟩] at b1;dsimp only at b1;have tf:=Ii (a:=a) (x:=x) (y:=y) (seq:=seq) (left:=left) hg b3;refine zP (Nat × Int × List Img × List Wr) (fun z=>([(2,FG x),(3,FG y),(4, .bp 0 0),(5, .bp 1 0),(8, .v (.slice none 0 0)),(9, .v (.slice none 0 0)),(10,iv 0),(11, .ow 2 rl.length),(12, .ow 3 w.length),(13,iv pos),(14,iv seq),(15,iv left),(16, .bp 4 0),(17, .ow 6 z.2.2.2.length),(18,iv z.2.1),(19,iv 1),(20,iv z.1)], [.box 23 (Ba g), .box 33 (EJ a), .row 112 4 rl, .row 134 2 (w.map DR), .box 112 [iv seq,iv pos,iv 0, .ow 5 z.2.2.1.length], .row 166 3 (z.2.2.1.map Dv), .row 134 2 (z.2.2.2.map DR)]))
    (fun z=>TxJ g a x y pos seq left z.1 z.2.1 z.2.2.1 z.2.2.2) (fun z=>31 - z.1) (0,0, [], []) (.inl tA) ⟨[(1004003,166,3),(17,134,2)],tA,tA,tA,rfl,rfl,rfl⟩ ?_
   rintro⟨k,of_,ims,more⟩ hJ;dsimp only at hJ |-
   have hJl:=hJ.len;conv=>whnf
   refine A6 (fun d1=>?C) (fun d1=>?D)
   case' D=>conv=>whnf
   case' D=>refine A6 (fun d2=>?D1) (fun d2=>?D2)
   case D2=>
    conv=>whnf
    have hT:=hJ.fin (by omega);rw [hT] at b1 tf;dsimp only at b1 tf;rw [if_neg (by decide),if_neg (by decide)] at b1;obtain⟨-,⟨n1,n2,n3⟩,n4⟩:=tf.resolve_right (by omega);have hm:=AL (pos+of_) (show 0<g.sl by omega);have hm0:=Be g.sl (show 0<=pos+of_ by omega);have w1:IntKind.i64.wrap (pos+of_)=pos+of_:=wi (by omega);have w2:IntKind.i64.wrap (seq+1)=seq+1:=wi (by omega);have w3:IntKind.i64.wrap (left - of_)=left - of_:=wi (by omega);refine⟨(by rw [Ac]),?_⟩;refine⟨rfl,?_⟩;refine⟨⟨rfl,by omega⟩,?_⟩;refine⟨(by rw [Ac]),?_⟩;refine⟨⟨by rw [Ac],by omega⟩,?_⟩;conv=>whnf
    rw [w1];refine⟨by omega,?_⟩;conv=>whnf
    rw [w2,w3];refine⟨(f,(pos+of_).tmod g.sl,seq+1,left - of_,l ++ [⟨seq,pos,of_,ims⟩],rl ++ [[iv seq,iv pos,iv of_, .sl 3 ims.length fun i=>(ims.map Dv).getD i []]],w ++ more),⟨b1,by dsimp only;omega,⟨hm0,hm⟩,by dsimp only;omega,?_,?_,?_⟩,Nat.lt_succ_self f, [],tv,⟨rfl,rfl,rfl,rfl,rfl,rfl,rfl,by rw [Ai];try rfl,by rw [Ai];try rfl,rfl,rfl,rfl,tv⟩,⟨rfl,rfl,rfl,by rw [A0],tv⟩,rfl,rfl,rfl⟩
    ·dsimp only;rw [Ai];simp only [Ap,Bd];omega
    ·dsimp only;rw [Ai,Ai];simp only [Ap,Bd];omega
    ·dsimp only;rw [A0];refine SubLL.app ?_ b7;exact⟨fun _ _ h=>h,fun _ _ h=>h,fun _ _ h=>h,B4 (f:=Dv) ims rfl rfl,tv⟩
   all_goals
    conv=>whnf
    have hk:k=0\/(k:Int)<of_:=by omega
    have hsl:=Hg (at_:=(k:Nat)) hg b3 (by omega);obtain⟨s,es⟩:=Int.eq_ofNat_of_zero_le hsl.1;have es2:(IntKind.i64.wrap (pos+(k:Nat))).tmod g.sl=(s:Nat):=es;have hs1:(s:Int)<g.sl:=by rw [es] at hsl;exact hsl.2
    have hin:C2 (s:Nat) 0 (g.sl - 1)=true:=AD.2 (by omega);have rl1:=UQ g a (x.getD s gz) (y.getD s gz) (s:Nat) seq (k:Nat) of_ left hg hin (hxb _ (A5 (by omega))) (hyb _ (A5 (by omega)));have hF:=Kd (g:=g) (a:=a) (x:=x.getD s gz) (y:=y.getD s gz) (slot:=(s:Nat)) (seq:=seq) (at_:=(k:Nat)) (of_:=of_) (left:=left) ⟨by omega,hs1⟩;have hrec:D7 g a x y pos seq left (k:Nat) of_=((E0 g a (x.getD s gz) (y.getD s gz) (s:Nat) seq (k:Nat) of_ left).1,(E0 g a (x.getD s gz) (y.getD s gz) (s:Nat) seq (k:Nat) of_ left).2.2,(E0 g a (x.getD s gz) (y.getD s gz) (s:Nat) seq (k:Nat) of_ left).2.1.map fun c=>⟨AU g c (s:Nat),BV g (E0 g a (x.getD s gz) (y.getD s gz) (s:Nat) seq (k:Nat) of_ left).1 c (s:Nat)⟩):=by
     unfold D7;dsimp only;rw [es,Aa]
    generalize E0 g a (x.getD s gz) (y.getD s gz) (s:Nat) seq (k:Nat) of_ left=Q at rl1 hF hrec;refine zZ ?_;refine⟨by omega,?_⟩;conv=>whnf
    rw [es2];conv=>whnf
    apply zL tys_ok mixed (.o [0,1,2,3,4,5,6,7,8,9,10,11,12,13,14] (.two 15 (.o [16,17,18,19,20,21,22,23] .fin) 20 (.o [15,16,17,18,19,21,22,23] .fin))) [22,23,24,60,61,62,63,64,65,66,67,68,69,70,71,72,73,74,75,76,77,78,79] (by kernel_rfl)
    ·conv=>whnf
     try (refine Af (by first | omega | exact ixA | exact ixB | (simp;done)) ?_;conv=>whnf)
     try (refine Af (by first | omega | exact ixA | exact ixB | (simp;done)) ?_;conv=>whnf)
     refine Af ?_ ?_
     ·conv=>whnf
      refine z_ rl1 ?_;conv=>whnf
      try (refine tS ?_;conv=>whnf)
      exact tA
     ·conv=>whnf
      refine z_ rl1 ?_;conv=>whnf
      try (refine tS ?_;conv=>whnf)
      exact tA
    conv=>whnf
    obtain⟨r,ws,how⟩:=Q;dsimp only at hF hrec |-
    refine A6 (fun f1=>?_) (fun f1=>?_) <;> (repeat rw [Aa] at f1) <;> conv=>whnf
    ·obtain⟨q1,rfl,rfl⟩:=hF.resolve_left (fun h=>f1 h.1);have hT:=hJ.stop hk hrec f1;rw [hT] at b1 tf;dsimp only at b1;rcases q1 with rfl | rfl
     ·rw [if_neg (by decide),if_pos (by decide)] at b1;subst b1;have hws:IntKind.i64.wrap (seq - 1)=seq - 1:=by rw [IntKind.wrap_i64];omega
      conv=>whnf
      rw [hws];conv=>whnf
      refine A6 (fun e1=>?_) (fun e1=>?_) <;> (repeat rw [Aa] at e1) <;> conv=>whnf
      ·exact⟨_,fun c u h=>J0 12 c u h,by rw [Hz e1];try rfl⟩
      ·refine⟨rfl,?_⟩;refine⟨(by rw [Ac]),?_⟩;exact⟨.tp [Eg l,Ma w,iv 0],BL ⟨OI l b8 rfl b7,B4 w rfl rfl,ri,tv⟩,by rw [Fu (by omega)]⟩
     ·rw [if_pos (by decide)] at b1;subst b1;exact⟨_,fun c u h=>J0 12 c u h,rfl⟩
    ·subst f1;obtain⟨-,⟨o1,o2,o3⟩,o4,o5⟩:=hF.resolve_right (fun h=>by omega);have hJ2:=hJ.step hk hrec rfl o1 o3 (by rw [Ac];exact o4);dsimp only at hJ2;obtain⟨IM,hIM⟩:∃ IM,IM=(if r.kind=1 then ims ++ [r.img] else ims):=⟨_,rfl⟩;rw [<-hIM] at hJ2;have hJl2:=hJ2.len;refine aSeq.cut Unit (fun _=>([(2,FG x),(3,FG y),(4, .bp 0 0),(5, .bp 1 0),(8, .v (.slice none 0 0)),(9, .v (.slice none 0 0)),(10,iv 0),(11, .ow 2 rl.length),(12, .ow 3 w.length),(13,iv pos),(14,iv seq),(15,iv left),(16, .bp 4 0),(17, .ow 6 more.length),(18,iv r.of_),(19,iv 1),(20,iv k),(21,iv (s:Nat)),(22, .bp 7 0),(23,iA ws)], [.box 23 (Ba g), .box 33 (EJ a), .row 112 4 rl, .row 134 2 (w.map DR), .box 112 [iv seq,iv pos,iv 0, .ow 5 IM.length], .row 166 3 (IM.map Dv), .row 134 2 (more.map DR), .box 168 (FQ r)])) (fun _=>True) ?_ ?_
     ·conv=>whnf
      refine A6 (fun k1=>?_) (fun k1=>?_) <;> (repeat rw [Aa] at k1) <;> conv=>whnf
      ·rw [if_pos k1] at hIM;refine⟨rfl,?_⟩;refine⟨⟨by rw [Ac],by omega⟩,?_⟩;conv=>whnf
       exact⟨(),tv, [],tv,tA,⟨rfl,rfl,rfl,rfl,by rw [hIM,Ai];try rfl,by rw [hIM,A0];try rfl,rfl,rfl,tv⟩,rfl,rfl,rfl⟩
      ·rw [if_neg k1] at hIM;exact⟨(),tv, [],tv,tA,⟨rfl,rfl,rfl,rfl,by rw [hIM],by rw [hIM],rfl,rfl,tv⟩,rfl,rfl,rfl⟩
     ·rintro⟨⟩ -
      conv=>whnf
      cases ws with
      | nil=>
       rw [BM,AM] at hJ2;refine zv 1 ?_;conv=>whnf
       exact⟨(k+1,r.of_,IM,more),hJ2,by dsimp only;omega, [],tv,⟨rfl,rfl,rfl,rfl,rfl,rfl,rfl,rfl,rfl,rfl,rfl,rfl,rfl,rfl,rfl,rfl,AR (by omega),tv⟩,tA,rfl,rfl,rfl⟩
      | cons c t=>
       have et:t=[]:=by
        cases t with
        | nil=>rfl
        | cons _ _=>simp at o4
       subst et;have hL:=o5 c (by simp);have c1:=Dd g c (s:Nat) hg hL;have c2:=IN g r c (s:Nat) o1 hL;refine zv 2 ?_;conv=>whnf
       apply zL tys_ok mixed (.o [0,1,2,3,4,5,6,8,9,10,11,12,13,14,7,15,16,17,18,19] .fin) [17,101,102,103,104,105,106,107,108,109,110,111,112,113,114,115,116,117,118,119] (by kernel_rfl)
       ·conv=>whnf
        try (refine Af (by first | omega | exact ixA | exact ixB | (simp;done)) ?_;conv=>whnf)
        try (refine Af (by first | omega | exact ixA | exact ixB | (simp;done)) ?_;conv=>whnf)
        refine z_ c1 ?_;conv=>whnf
        refine z_ c2 ?_;conv=>whnf
        try (refine tJ ?_;conv=>whnf)
        try (refine tK ?_;conv=>whnf)
        exact tA
       conv=>whnf
       exact⟨(k+1,r.of_,IM,more ++ [⟨AU g c (s:Nat),BV g r c (s:Nat)⟩]),hJ2,by dsimp only;omega, [],tv,⟨rfl,rfl,rfl,rfl,rfl,rfl,rfl,rfl,rfl,rfl,rfl,rfl,rfl,by rw [Ai];try rfl,rfl,rfl,AR (by omega),tv⟩,⟨rfl,rfl,rfl,rfl,rfl,rfl,by rw [A0];try rfl,tv⟩,rfl,rfl,rfl⟩
 all_goals
  conv=>whnf
  have hb:some (l,w,seq)=R:=by
   cases f with
   | zero=>exact b1
   | succ f=>unfold E8 at b1;rw [if_neg (by omega)] at b1;exact b1
  subst hb;have hws:IntKind.i64.wrap (seq - 1)=seq - 1:=by rw [IntKind.wrap_i64];omega
  rw [hws];conv=>whnf
  refine A6 (fun e1=>?_) (fun e1=>?_) <;> (repeat rw [Aa] at e1) <;> conv=>whnf
  ·exact⟨_,fun c u h=>J0 12 c u h,by rw [Hz e1];try rfl⟩
  ·refine⟨rfl,?_⟩;refine⟨(by rw [Ac]),?_⟩;exact⟨.tp [Eg l,Ma w,iv 0],BL ⟨OI l b8 rfl b7,B4 w rfl rfl,ri,tv⟩,by rw [Fu (by omega)]⟩
def eK (d:Dk) (k:Nat):Int:=if d.live k then 0 else 8
def gK (d:Dk) (k:Nat) (a:Int):Gt:=if d.live k then To d a else ⟨8, []⟩
theorem JC {d:Dk} {j k:Nat} (h:d.live k) (hj:j<=k):d.live j:=by unfold Dk.live at *;omega
theorem W5 {d:Dk} (hl : -1<=d.left):∀ k,¬d.live k->(d.adv k).left=0
 | 0,h=>by exfalso;apply h;unfold Dk.live;omega
 | k+1,h=>by
  by_cases hk:d.live k
  ·have:=W6 k d h hk;rw [Jo k (k+1) d this (by omega)];exact this
  ·have:=W5 hl k hk;rw [Jo k (k+1) d this (by omega)];exact this
theorem NK (g:Geo) (s:Stt) (d:Dk) (k:Nat) (a:Int) (h:DkOk d) (ha:0<=a/\a<d.cells.length) :
  ACalls Tryz.prog false 79 [.bp 0 0,iv a] (Jp g s (eK d k) (d.adv k)) fun r H=>r = .ag (DB (gK d (k+1) a))/\H=Jp g s (eK d (k+1)) (d.adv (k+1)):=by
 have hd:=h.adv k;have hn:=(FN k d).1;have hl:=h.l;unfold eK gK;by_cases hk:d.live k
 ·have hr:=Yo g s (d.adv k) a hd (by rw [hn];exact ha);rw [if_pos hk];by_cases h0:(d.adv k).left=0
  ·have hk1:=(PY k d hl.1 hk).1 h0;rw [if_pos h0,SH a h0] at hr;rw [if_neg hk1,if_neg hk1,Jo k (k+1) d h0 (by omega)];exact hr
  ·have hk1:d.live (k+1):=by
    by_cases e:d.live (k+1)
    ·exact e
    ·exact absurd ((PY k d hl.1 hk).2 e) h0
   rw [if_neg h0,SG a h0] at hr;rw [if_pos hk1,if_pos hk1];exact hr
 ·have hk1:¬d.live (k+1):=fun h=>hk (JC h (by omega))
  have h0:=W5 hl.1 k hk;rw [if_neg hk,if_neg hk1,if_neg hk1,Jo k (k+1) d h0 (by omega)];exact Yp g s 8 (d.adv k) a (by decide)
theorem WF (g:Geo) (s:Stt) (d:Dk) (l:List Wr) (k:Nat) (h:DkOk d) (hl:∀ w∈l,Rx d.cells.length w) (hk:k<l.length) :
  ACalls Tryz.prog false 88 [.bp 0 0, .v (.int .i64 (l.getD k ⟨0, []⟩).addr),bA (l.getD k ⟨0, []⟩).bytes] (Jp g s (T5 (d.writes (l.take k)).2.2) (d.writes (l.take k)).1) fun r H=>(∃ b,r = .v (.bool b))/\H=Jp g s (T5 (d.writes (l.take (k+1))).2.2) (d.writes (l.take (k+1))).1:=by
 have hd:=H6 h hl k;have hm:=hl _ (A5 (d:=(⟨0, []⟩:Wr)) hk);have hlive:=fun hlv=>Ky (d:=d) hk hlv
 have hstay:=fun hlv=>JR (d:=d) hk hlv
 generalize d.writes (l.take (k+1))=Q' at hlive hstay |-
 generalize d.writes (l.take k)=Q at hd hlive hstay |-
 obtain⟨X,N,dead⟩:=Q;simp only at hd hlive hstay |-
 cases dead with
 | true=>
  rw [hstay rfl];exact(UF g s 8 X _ _ (by decide)).mono fun r H h=>⟨⟨false,h.1⟩,h.2⟩
 | false=>
  rw [hlive rfl];have hc:=UE g s X (l.getD k ⟨0, []⟩).addr (l.getD k ⟨0, []⟩).bytes hd.1 (by rw [hd.2];exact hm.1) hm.2;refine hc.mono fun r H h=>⟨⟨_,h.1⟩,?_⟩
  rw [h.2];show Jp g s _ _=Jp g s (if decide _=true then 8 else 0) _;congr 1;by_cases h8:(X.write (l.getD k ⟨0, []⟩).addr (l.getD k ⟨0, []⟩).bytes).2=8
  ·rw [if_pos h8,if_pos (decide_eq_true h8)]
  ·rw [if_neg h8,if_neg (by rw [decide_eq_false h8];decide)]
def UU (d:Dk) (ats:List Int) (k:Nat):List Gt:=(List.range k).map fun j=>gK d (j+1) (ats.getD j 0)
theorem UT (d:Dk) (ats:List Int) (k:Nat):(UU d ats (k+1)).map DB=(UU d ats k).map DB ++ [DB (gK d (k+1) (ats.getD k 0))]:=by simp [UU,Bh]
theorem WZ (d:Dk) (ats:List Int) (k:Nat):(UU d ats k).length=k:=by simp [UU]
theorem W_ {d:Dk} {ats:List Int} (h:d.live ats.length):UU d ats ats.length=B3 d ats:=by
 apply List.ext_getElem
 ·simp [UU,B3]
 ·intro i h1 h2;have hi:i<ats.length:=by simpa [UU] using h1
  simp only [UU,B3,List.getElem_map,List.getElem_range];rw [gK,if_pos (JC h (by omega)),Ab,Ae hi];try rfl
def Xa (d:Dk) (g:Geo) (c:Nat) (k:Nat):List Gt:=(List.range k).map fun j=>gK d (2*j+1+c) (AU g (c:Nat) (j:Nat))
theorem OJ (d:Dk) (g:Geo) (c:Nat) (k:Nat):(Xa d g c (k+1)).map DB=(Xa d g c k).map DB ++ [DB (gK d (2*k+1+c) (AU g (c:Nat) (k:Nat)))]:=by simp [Xa,Bh]
theorem RG (d:Dk) (g:Geo) (c:Nat) (k:Nat):(Xa d g c k).length=k:=by simp [Xa]
theorem RH {d:Dk} {g:Geo} {c:Nat} (hc:c<=1) (h:d.live (2*g.sl.toNat)):Xa d g c g.sl.toNat=B3 d (BS g (c:Nat)):=by
 unfold Xa B3 BS;rw [List.map_map];refine Cn fun j hj=>?_
 have hj:=AO.1 hj;rw [gK,if_pos (JC h (by omega))];try rfl
theorem Xr {d:Dk} {l:List Wr} (h:l≠ []):(if T5 (d.writes l).2.2=0 then if (d.writes l).1.left=0 then 8 else 0 else T5 (d.writes l).2.2:Int)=T5 (d.mend l).2/\(if T5 (d.writes l).2.2=0 then if (d.writes l).1.left=0 then (d.writes l).1 else (d.writes l).1.flush else (d.writes l).1)=(d.mend l).1:=by
 rw [Dk.mend,if_neg h];cases hd:(d.writes l).2.2 with
 | true=>rw [Fq hd];exact tA
 | false=>
  rw [Ey hd];by_cases h0:(d.writes l).1.left=0
  ·rw [if_pos h0,if_pos h0,if_pos h0];exact tA
  ·rw [if_neg h0,if_neg h0,if_neg h0];exact tA
theorem SA (g:Geo) (s:Stt) (d:Dk) (hg:Bq g=true) (h:DkOk d) (hn:(d.cells.length:Int)=A4 g) :
  ACalls Tryz.prog false 127 [.bp 0 0] (Jp g s 0 d) fun r H=>(∃ S,r = .ag (E6 S)/\((C_ g d).2.1=0->S=(C_ g d).2.2))/\H=N9 g s (C_ g d).2.1 (C_ g d).1:=by
 obtain⟨g1,g2,g3,g4,g5⟩:=Ar.1 hg;have hcg:=D_ hg;have hl:=h.l;have e0:eK d 0=0:=by unfold eK;rw [if_pos];unfold Dk.live;omega
 refine zS tys_ok Tryz.func127 rfl rfl (Ag rfl) ?_;conv=>whnf
 refine zU Nat (fun k=>([(0, .bp 0 0),(2, .bp 4 0),(3, .ow 5 k),(4,nilV),(5,nilV),(6,ze k)],Zz g s (eK d k) (d.adv k) [.box 39 [ze 0,ze 0,ze 0,ze 0,ze 0, .v (.string ⟨#[]⟩),nilV,nilV, .v (.bool false),ze 0,ze 0,ze 0,ze 0,nilV], .row 151 2 ((UU d (Dn g) k).map DB)])) (fun k=>k<=g.an.toNat) (fun k=>g.an.toNat - k) 0 (Aj _)
  ⟨_,_,zB _ _, [(3,151,2)],tA, [0,1,2,3,4,5],⟨tA,⟨by rw [e0];try rfl,rfl,rfl,rfl,rfl,rfl,tv⟩,rfl,rfl,rfl,rfl,rfl⟩⟩ ?_
 intro k hk;conv=>whnf
 refine A6 (fun h6=>?_) (fun h6=>?_) <;> (repeat rw [Aa] at h6) <;> conv=>whnf
 ·have hk':k<g.an.toNat:=by omega
  have hr:=NK g s d k k h (by omega);repeat' (refine zZ ?_;conv=>whnf)
  refine zh [0,1,2,3] hr ?_;rintro _ _ ⟨rfl,rfl⟩;refine⟨rfl,?_⟩;refine⟨⟨by rw [Ac,WZ],by omega⟩,?_⟩;conv=>whnf
  exact⟨k+1,hk',by omega,zR (s:= [0,1,2,3,4,5]) ⟨⟨rfl,rfl,rfl,rfl,rfl,AR (by omega),tv⟩,⟨rfl,rfl,rfl,rfl,rfl,congrArg (fun l=>some (AB.row _ _ l)) (by rw [UT,Nu hk'];try rfl),tv⟩,rfl,rfl,rfl,rfl,rfl⟩⟩
 ·have ek:k=g.an.toNat:=by omega
  subst ek;by_cases hlv:d.live g.an.toNat
  ·have eA:eK d g.an.toNat=0:=by unfold eK;rw [if_pos hlv]
   rw [eA];have hrl:UU d (Dn g) g.an.toNat=B3 d (Dn g):=by have:=W_ (d:=d) (ats:=Dn g) (by rw [Ff];exact hlv);rwa [Ff] at this
   rw [hrl];have hM:C_ g d=match Gl g (B3 d (Dn g)) with | none=>(d.adv g.an.toNat,11,st0) | some (a,_)=>Ir g a (d.adv g.an.toNat):=by unfold C_;rw [if_pos hlv];try rfl
   have hnw:=Qv g (B3 d (Dn g)) hg (by rw [DM,Ff];omega) (Hx h _);have hpo:=fun {a j}=>IT (g:=g) (l:=B3 d (Dn g)) hg (B3 d (Dn g)).length (a:=a) (j:=j)
   have hpo:∀ {a j},Gl g (B3 d (Dn g))=some (a,j)->Bv g a=true:=hpo;have hgl:(B3 d (Dn g)).length=g.an.toNat:=by rw [DM,Ff]
   generalize B3 d (Dn g)=L at hnw hpo hgl hM |-
   have hd1:=h.adv g.an.toNat;have hs1:=(FN g.an.toNat d).1;generalize d.adv g.an.toNat=d1 at hd1 hs1 hM |-
   conv=>whnf
   refine zQ hnw.go ?_;refine⟨(by rw [Ac,hgl]),?_⟩;conv=>whnf
   refine zY [.ag (Ba g),FG L] ⟨ri,B4 (f:=DB) L hgl.symm rfl,tv⟩ ?_;refine z_ hnw ?_;conv=>whnf
   cases hP:Gl g L with
   | none=>
    rw [hP] at hM;replace hM:C_ g d=(d1,11,st0):=hM;rw [hM];exact⟨.ag (E6 st0), .ag (E6 st0),N9 g s 11 d1,Bk st0_sub,zC (zK (zw 1 3 (by decide) rfl rfl)) (s:= [0,1,2,3,7]) tA,⟨st0,rfl,fun _=>rfl⟩,rfl⟩
   | some q=>
    obtain⟨a,j⟩:=q;have hao:=hpo hP;rw [hP] at hM;replace hM:C_ g d=Ir g a d1:=hM;rw [hM];clear hM hnw;have hl1:=hd1.l;have e10:eK d1 0=0:=by unfold eK;rw [if_pos];unfold Dk.live;omega
    conv=>whnf
    refine zU Nat (fun k=>([(0, .bp 0 0),(2, .bp 4 0),(4, .ow 6 k),(5, .ow 7 k),(7, .bp 5 0),(9,ze k)],Zz g s (eK d1 (2*k)) (d1.adv (2*k)) [.box 39 [ze 0,ze 0,ze 0,ze 0,ze 0, .v (.string ⟨#[]⟩),nilV,nilV, .v (.bool false),ze 0,ze 0,ze 0,ze 0,nilV], .box 33 (EJ a), .row 151 2 ((Xa d1 g 0 k).map DB), .row 151 2 ((Xa d1 g 1 k).map DB)])) (fun k=>k<=g.sl.toNat) (fun k=>g.sl.toNat - k) 0 (Aj _)
     ⟨_,_,zB _ _, [(4,151,2),(5,151,2)],tA, [0,1,2,3,4,6,7,8],⟨tA,⟨by show _=some (AB.box _ (Zf _ _ _ (eK d1 0)));rw [e10];try rfl,rfl,rfl,rfl,rfl,rfl,rfl,rfl,tv⟩,rfl,rfl,rfl,rfl,rfl⟩⟩ ?_
    intro k hk;conv=>whnf
    refine A6 (fun h7=>?_) (fun h7=>?_) <;> (repeat rw [Aa] at h7) <;> conv=>whnf
    ·have hk':k<g.sl.toNat:=by omega
     have hla:=Dd g 0 k hg (by simp only [Hp,Ad,AD];omega);have hlb:=Dd g 1 k hg (by simp only [Hp,Ad,AD];omega);have hra:=NK g s d1 (2*k) (AU g 0 k) hd1 (DY hg (by rw [hs1];exact hn) (.inl rfl) (by omega));have hrb:=NK g s d1 (2*k+1) (AU g 1 k) hd1 (DY hg (by rw [hs1];exact hn) (.inr rfl) (by omega));repeat' (refine zZ ?_;conv=>whnf)
     refine z_ hla ?_;conv=>whnf
     refine zh [0,1,2,3] hra ?_;rintro _ _ ⟨rfl,rfl⟩;refine⟨rfl,?_⟩;refine⟨⟨by rw [Ac,RG],by omega⟩,?_⟩;conv=>whnf
     repeat' (refine zZ ?_;conv=>whnf)
     refine z_ hlb ?_;conv=>whnf
     refine zh [0,1,2,3] hrb ?_;rintro _ _ ⟨rfl,rfl⟩;refine⟨rfl,?_⟩;refine⟨⟨by rw [Ac,RG],by omega⟩,?_⟩;conv=>whnf
     repeat' (refine zZ ?_;conv=>whnf)
     exact⟨k+1,hk',by omega,zR (s:= [0,1,2,3,4,5,6,7]) ⟨⟨rfl,rfl,rfl,rfl,rfl,AR (by omega),tv⟩,⟨rfl,rfl,rfl,rfl,rfl,rfl,congrArg (fun l=>some (AB.row _ _ l)) (by rw [OJ];try rfl),congrArg (fun l=>some (AB.row _ _ l)) (by rw [OJ];try rfl),tv⟩,rfl,rfl,rfl,rfl,rfl⟩⟩
    ·have ek:k=g.sl.toNat:=by omega
     subst ek;unfold Ir;by_cases hl2:d1.live (2*g.sl.toNat)
     ·have eB:eK d1 (2*g.sl.toNat)=0:=by unfold eK;rw [if_pos hl2]
      rw [eB,if_pos hl2,RH (by decide) hl2,RH (by decide) hl2];have hx1:(B3 d1 (BS g 0)).length=g.sl.toNat:=by rw [DM,EZ]
      have hx2:(B3 d1 (BS g 1)).length=g.sl.toNat:=by rw [DM,EZ]
      have hsc:=UK g a (B3 d1 (BS g 0)) (B3 d1 (BS g 1)) hg hao (by omega) (by omega) (Hx hd1 _) (Hx hd1 _);have hlast:=K_ (x:=B3 d1 (BS g 0)) (y:=B3 d1 (BS g 1)) hg hao;have hin:=KZ (x:=B3 d1 (BS g 0)) (y:=B3 d1 (BS g 1)) (n:=d1.cells.length) hg hao (by omega) (by omega) (by rw [hs1];exact hn);have c0:B3 d1 (BS g ((0:Nat):Int))=B3 d1 (BS g 0):=rfl;have c1:B3 d1 (BS g ((1:Nat):Int))=B3 d1 (BS g 1):=rfl;rw [c0,c1];clear c0 c1;generalize DS g a (B3 d1 (BS g 0)) (B3 d1 (BS g 1))=S at hsc hlast hin |-
      obtain⟨T,W,e⟩:=S;simp only at hsc hlast hin;generalize B3 d1 (BS g 0)=X1 at hx1 hsc |-
      generalize B3 d1 (BS g 1)=X2 at hx2 hsc |-
      have hd2:=hd1.adv (2*g.sl.toNat);have hs2:=(FN (2*g.sl.toNat) d1).1;generalize d1.adv (2*g.sl.toNat)=d2 at hd2 hs2 |-
      conv=>whnf
      apply zV (0) tys_ok mixed (.o [0,1,2,3,4,5,6,7,8,9,10,11,12,13,14] .fin) (by kernel_rfl);conv=>whnf
      (refine zQ hsc.go ?_;(conv=>whnf);refine Af (by rw [Ac,hx1]) ?_;(conv=>whnf);refine Af (by rw [Ac,hx2]) ?_;(conv=>whnf);refine zY [.ag (Ba g), .ag (EJ a),FG X1,FG X2] ⟨ri,ri,B4 (f:=DB) X1 hx1.symm rfl,B4 (f:=DB) X2 hx2.symm rfl,tv⟩ ?_;refine z_ hsc ?_)
      conv=>whnf
      unfold Lw;by_cases he:e=0
      ·subst he;rw [if_neg (by simp)];have hin:=hin rfl;have hlast:=hlast rfl;simp only;conv=>whnf
       have hWin:∀ w∈W,Rx d2.cells.length w:=by rw [hs2];exact hin.1
       refine zU Nat (fun k=>([(0, .bp 0 0),(2, .bp 4 0),(7, .bp 5 0),(10,Eg T),(11,Ma W),(13,ze k)],Zz g s (T5 (d2.writes (W.take k)).2.2) (d2.writes (W.take k)).1 [.box 39 [ze 0,ze 0,ze 0,ze 0,ze 0, .v (.string ⟨#[]⟩),nilV,nilV, .v (.bool false),ze 0,ze 0,ze 0,ze 0,nilV], .box 33 (EJ a)])) (fun k=>k<=W.length) (fun k=>W.length - k) 0 (Aj _)
        (zR (s:= [0,1,2,3,4,5]) tA) ?_
       intro k hk;conv=>whnf
       refine A6 (fun h8=>?_) (fun h8=>?_) <;> (repeat rw [Aa] at h8) <;> conv=>whnf
       ·have hk':k<W.length:=by omega
        have hw:=WF g s d2 W k hd2 hWin hk';repeat' (refine zZ ?_;conv=>whnf)
        apply zV (2 ^ 139) tys_ok mixed (.o [0,1,2,3,4,5,6,7,8,9,10,11] .fin) (by kernel_rfl);conv=>whnf
        try (refine tI ?_;conv=>whnf)
        try (refine tI ?_;conv=>whnf)
        (rw [Aa];refine zh [0,1,2,3] hw ?_;rintro _ _ ⟨⟨b,rfl⟩,rfl⟩)
        exact⟨k+1,hk',by omega,zR (s:= [0,1,2,3,4,5]) ⟨⟨rfl,rfl,rfl,rfl,rfl,AR (by omega),tv⟩,tA,rfl,rfl,rfl,rfl,rfl⟩⟩
       ·have ek:k=W.length:=by omega
        subst ek;rw [Ay];have hdw:=H6 hd2 hWin W.length;rw [Ay] at hdw;refine aSeq.cutR Unit (fun _=>([(0, .bp 0 0),(2, .bp 5 0),(7, .bp 6 0),(10,Eg T)],N9 g s (T5 (d2.mend W).2) (d2.mend W).1 ++ [AB.box 39 [ze 0,ze 0,ze 0,ze 0,ze 0, .v (.string ⟨#[]⟩),nilV,nilV, .v (.bool false),ze 0,ze 0,ze 0,ze 0,nilV],AB.box 33 (EJ a)])) (fun _=>True) ?_ ?_
        ·by_cases hW:W=[]
         ·subst hW;exact⟨(),tv,zC (zK (zw 1 3 (by decide) rfl rfl)) (s:= [0,1,2,3,6,4,5]) tA⟩
         ·have hWl:0<W.length:=D6.2 hW;obtain⟨m1,m2⟩:=Xr (d:=d2) hW;have hf:=UX g s (T5 (d2.writes W).2.2) (d2.writes W).1 hdw.1;rw [m1,m2] at hf;conv=>whnf
          refine A6 (fun _=>?_) (fun hq=>absurd hq (by omega));conv=>whnf
          refine zh [0,1,2,3] hf ?_;rintro _ _ ⟨rfl,rfl⟩;exact⟨(),tv,zR (s:= [0,1,2,3,6,4,5]) tA⟩
        ·rintro _ _;have hdm:DkOk (d2.mend W).1/\(d2.mend W).1.cells.length=d2.cells.length:=by
          unfold Dk.mend;split
          ·exact⟨hd2,rfl⟩
          ·exact J6 hd2 hWin
         generalize d2.mend W=M at hdm |-
         obtain⟨d3,dead⟩:=M;simp only at hdm |-
         cases dead with
         | true=>
          rw [if_pos rfl];conv=>whnf
          repeat' (refine zZ ?_;conv=>whnf)
          exact⟨.ag (E6 st0), .ag (E6 st0),N9 g s 8 d3,Bk st0_sub,zR (s:= [0,1,2,3,4]) tA,⟨st0,rfl,fun _=>rfl⟩,rfl⟩
         | false=>
          rw [if_neg (by decide)];have hpa:=FM hao;unfold Lu;by_cases hmx:a.gen=4294967295\/a.epoch=4294967295
          ·rw [if_pos hmx];conv=>whnf
           repeat' (refine zZ ?_;conv=>whnf)
           refine A6 (fun _=>?_) (fun q1=>?_)
           ·conv=>whnf
            repeat' (refine zZ ?_;conv=>whnf)
            exact⟨.ag (E6 st0), .ag (E6 st0),N9 g s 14 d3,Bk st0_sub,zR (s:= [0,1,2,3,4]) tA,⟨st0,rfl,fun _=>rfl⟩,rfl⟩
           ·conv=>whnf
            refine A6 (fun _=>?_) (fun q2=>absurd hmx (by omega));conv=>whnf
            repeat' (refine zZ ?_;conv=>whnf)
            exact⟨.ag (E6 st0), .ag (E6 st0),N9 g s 14 d3,Bk st0_sub,zR (s:= [0,1,2,3,4]) tA,⟨st0,rfl,fun _=>rfl⟩,rfl⟩
          ·rw [if_neg hmx];have hna:=Lt (n:=T.length) hao (fun e=>hmx (.inl e)) (fun e=>hmx (.inr e)) hlast.2;have hban:=OS g s d3 (D9 a T.length) hg hna hdm.1 (LX hg hna (by rw [hdm.2,hs2,hs1];exact hn));have w1:IntKind.i64.wrap (a.gen+1)=a.gen+1:=wi (by omega);have w2:IntKind.i64.wrap (a.epoch+1)=a.epoch+1:=wi (by omega);have w3:IntKind.i64.wrap (IntKind.i64.wrap (a.seq+T.length) - 1)=a.seq+T.length - 1:=by
            rw [wi (n:=a.seq+T.length) (by omega)];exact wi (by omega)
           conv=>whnf
           repeat' (refine zZ ?_;conv=>whnf)
           refine A6 (fun q=>absurd q (by omega)) (fun q1=>?_);conv=>whnf
           refine A6 (fun q=>absurd q (by omega)) (fun q2=>?_);conv=>whnf
           repeat' (refine zZ ?_;conv=>whnf)
           rw [w1,w2,w3];refine zX [0,1,2,4] hban rfl rfl rfl rfl (by decide) (Y5 rfl rfl) tA ?_;rintro _ _ ⟨rfl,rfl⟩;have hpn:(d3.putAll (Bg g (D9 a T.length))).2.1=(d3.writes (Bg g (D9 a T.length))).2.1:=by
            cases hdd:(d3.writes (Bg g (D9 a T.length))).2.2 with
            | true=>rw [Fq hdd]
            | false=>rw [Ey hdd];split <;> rfl
           rw [<-hpn];generalize d3.putAll (Bg g (D9 a T.length))=Q;obtain⟨d4,n,dead⟩:=Q;simp only;cases dead with
           | true=>
            rw [if_pos rfl];conv=>whnf
            repeat' (refine zZ ?_;conv=>whnf)
            exact⟨.ag (E6 (Bt (D9 a T.length) T)), .ag (E6 (Bt (D9 a T.length) T)),N9 g s 8 d4,Bk ⟨ri,ri,ri,ri,ri,ri,ri,ri,ri,ri,ri,ri,ri,Bn 1 _,tv⟩,zR (s:= [0,1,2,3,7]) tA,⟨_,rfl,fun h=>absurd h (show ¬(8:Int)=0 by decide)⟩,rfl⟩
           | false=>
            rw [if_neg (by decide)];by_cases hn0:n=0
            ·subst hn0;rw [if_pos rfl];conv=>whnf
             repeat' (refine zZ ?_;conv=>whnf)
             exact⟨.ag (E6 (Bt (D9 a T.length) T)), .ag (E6 (Bt (D9 a T.length) T)),N9 g s 14 d4,Bk ⟨ri,ri,ri,ri,ri,ri,ri,ri,ri,ri,ri,ri,ri,Bn 1 _,tv⟩,zR (s:= [0,1,2,3,7]) tA,⟨_,rfl,fun h=>absurd h (show ¬(14:Int)=0 by decide)⟩,rfl⟩
            ·rw [if_neg hn0];have hnb:((n:Int) == 0)=false:=beq_eq_false_iff_ne.2 (by omega);conv=>whnf
             repeat' (refine zZ ?_;conv=>whnf)
             rw [hnb];conv=>whnf
             repeat' (refine zZ ?_;conv=>whnf)
             exact⟨.ag (E6 (Bt (D9 a T.length) T)), .ag (E6 (Bt (D9 a T.length) T)),N9 g s 0 d4,Bk ⟨ri,ri,ri,ri,ri,ri,ri,ri,ri,ri,ri,ri,ri,Bn 1 _,tv⟩,zR (s:= [0,1,2,3,7]) tA,⟨_,rfl,fun _=>rfl⟩,rfl⟩
      ·rw [if_pos (by simpa using he)];have hb:(e != 0)=true:=bne_iff_ne.2 he;rw [hb];exact⟨.ag (E6 st0), .ag (E6 st0),N9 g s e d2,Bk st0_sub,zC (zK (zw 1 3 (by decide) rfl rfl)) (s:= [0,1,2,3,8]) tA,⟨st0,rfl,fun h=>absurd h he⟩,rfl⟩
     ·have eB:eK d1 (2*g.sl.toNat)=8:=by unfold eK;rw [if_neg hl2]
      rw [eB,if_neg hl2];exact⟨.ag (E6 st0), .ag (E6 st0),N9 g s 8 (d1.adv (2*g.sl.toNat)),Bk st0_sub,zC (zK (zw 1 3 (by decide) rfl rfl)) (s:= [0,1,2,3,8]) tA,⟨st0,rfl,fun _=>rfl⟩,rfl⟩
  ·have eA:eK d g.an.toNat=8:=by unfold eK;rw [if_neg hlv]
   have hM:C_ g d=(d.adv g.an.toNat,8,st0):=by unfold C_;rw [if_neg hlv]
   rw [eA,hM];exact⟨.ag (E6 st0), .ag (E6 st0),N9 g s 8 (d.adv g.an.toNat),Bk st0_sub,zC (zK (zw 1 3 (by decide) rfl rfl)) (s:= [0,1,2,3,6]) tA,⟨st0,rfl,fun _=>rfl⟩,rfl⟩
theorem O1 (l:List Tx) (hl:l.length<=1000000) (hi:∀ t∈l,t.images.length<=1000000/\∀ x∈t.images,x.bytes.length<=1000000000):Fn Tryz.prog 64 [Eg l] fun r=>r=Eg l:=by
 refine zT Tryz.func64 rfl ?_;conv=>whnf
 refine zU Nat (fun k=>([(0,Eg l),(3, .ow 0 k),(4,ze k)], [.row 112 4 ((l.take k).map Eb)])) (fun k=>k<=l.length) (fun k=>l.length - k) 0 (Aj _)
  ⟨_,_,zB _ _, [(3,112,4)],tA, [0],tA⟩ ?_
 intro k hk;conv=>whnf
 refine A6 (fun h6=>?_) (fun h6=>?_) <;> (repeat rw [Aa] at h6) <;> conv=>whnf
 ·have hk':k<l.length:=by omega
  have hm:=hi _ (A5 (d:=(⟨0,0,0, []⟩:Tx)) hk');have b1:=Mb (l.getD k ⟨0,0,0, []⟩).images hm.1 hm.2;have hl:k=((l.take k).map Eb).length:=by simp;omega
  apply zV (0) tys_ok mixed (.o [0,1,2,3,4,5,6,7,8,9,10,11,12,13,14,15,16,17,18,19,20,21,22,23,24,25] .fin) (by kernel_rfl);conv=>whnf
  try (refine tI ?_;conv=>whnf)
  try (refine tI ?_;conv=>whnf)
  try (refine tI ?_;conv=>whnf)
  try (refine tI ?_;conv=>whnf)
  refine z_ b1 ?_;conv=>whnf
  try (refine tJ ?_;conv=>whnf)
  try (refine tK ?_;conv=>whnf)
  all_goals exact⟨k+1,hk',by omega,zR (s:= [0]) ⟨⟨rfl,rfl,AR (by omega),tv⟩,⟨congrArg (fun l=>some (AB.row _ _ l)) (Ge (f:=Eb) (d:=(⟨0,0,0, []⟩:Tx)) hk').symm,tv⟩,rfl,rfl,rfl,rfl,rfl⟩⟩
 ·have ek:k=l.length:=by omega
  subst ek;rw [Ay];refine Af (Ac _).symm ?_;exact⟨Eg l,B4 (f:=Eb) l rfl rfl,rfl⟩
theorem Nz (s:Stt) (h:StSm s):Fn Tryz.prog 24 [.ag (E6 s)] fun r=>r = .ag (E6 s):=by
 have c1:=Mc s.a (by have:=h.h.1;omega) h.h.2;have c2:=O1 s.txns (by have:=h.t.1;omega) (fun t ht=>⟨by have:=(h.t.2 t ht).1;omega,fun x hx=>by have:=(h.t.2 t ht).2 x hx;omega⟩);have c3:=JS s.lost h.o;refine zT Tryz.func24 rfl ?_;conv=>whnf
 apply zV (0) tys_ok mixed (.o [0,1,3,4,6,7,8,2,10,5,9,11,12,13,14,15,16] .fin) (by kernel_rfl);conv=>whnf
 refine z_ c1 ?_;conv=>whnf
 refine z_ c2 ?_;conv=>whnf
 refine z_ c3 ?_;conv=>whnf
 try (refine tS ?_;conv=>whnf)
 try (refine tS ?_;conv=>whnf)
 try (refine tS ?_;conv=>whnf)
 all_goals exact⟨_,ri,rfl⟩
theorem DkOk.big {d:Dk} (h:DkOk d):d.cells.length<=1000000/\d.cache.length<=1000000/\(∀ c∈d.cells,c.bytes.length<=1000000000/\c.old.length<=1000000000)/\(∀ w∈d.cache,w.bytes.length<=1000000000):=
 ⟨by have:=h.n;omega,by have:=h.m;omega,fun c hc=>by have:=(h.c c hc).2;omega,fun w hw=>by have:=(h.w w hw).2;omega⟩
theorem SN (g:Geo) (d:Dk) (s:Stt) (h:DkOk d) (hs:StSm s):ACalls Tryz.prog false 29 [.ag (Ba g), .ag (Eh d), .ag (E6 s)] [] fun r H=>r = .bp 0 0/\H=Jp g s 0 d:=by
 obtain⟨q1,q2,q3,q4⟩:=h.big;have c1:=WU d q1 q2 q3 q4;have c2:=Nz s hs;refine zS tys_ok Tryz.func29 rfl rfl (Ag rfl) ?_;conv=>whnf
 apply zV (0) tys_ok mixed (.o [0,1,3,2,4,5,6,7] .fin) (by kernel_rfl);conv=>whnf
 (refine zW c1 rfl ?_;rintro _ _ ⟨rfl,rfl⟩)
 conv=>whnf
 refine z_ c2 ?_;exact⟨_, .bp 0 0,Jp g s 0 d,fun _ _ h=>h,zR (s:= [6,3,4,5]) tA,rfl,rfl⟩
@[reducible] def ab (a:An) (x:AV):List AV:= [iv a.gen,iv a.epoch,iv a.pos,iv a.seq,iv a.last, .v (.string a.label),x]
@[reducible] def ZW (s:Stt) (x y:AV):List AV:= [iv s.a.gen,iv s.a.epoch,iv s.a.pos,iv s.a.seq,iv s.a.last, .v (.string s.a.label),x,y, .v (.bool s.only),iv s.cursor,iv s.found,iv s.fixed,iv s.moved,iA s.lost]
@[reducible] def Z5 (g:Geo) (x hm tx:AV) (s:Stt) (e:Int):List AV:= [iv g.z,iv g.d,iv g.sp,iv g.sl,iv g.an,x,iv s.a.gen,iv s.a.epoch,iv s.a.pos,iv s.a.seq,iv s.a.last, .v (.string s.a.label),hm,tx, .v (.bool s.only),iv s.cursor,iv s.found,iv s.fixed,iv s.moved,iA s.lost,iv e]
@[reducible] def ZY (g:Geo) (s:Stt) (e:Int) (d:Dk):List AB:= [.box 83 (Z5 g (.bp 1 0) (.ow 4 s.a.homes.length) (.ow 5 s.txns.length) s e), .box 85 (H0 (.ow 2 d.cells.length) (.ow 3 d.cache.length) d.reqs d.left), .row 128 3 (d.cells.map B5), .row 134 2 (d.cache.map DR), .row 177 3 (s.a.homes.map Jq), .row 112 4 (s.txns.map Eb)]
@[reducible] def rwP (g:Geo) (s:Stt) (e:Int) (d:Dk):List AB:= [.box 83 (Z5 g (.bp 1 0) (.ow 4 s.a.homes.length) (.ow 5 s.txns.length) s e), .box 85 (H0 (.ow 2 d.cells.length) (.ow 6 d.cache.length) d.reqs d.left), .row 128 3 (d.cells.map B5), .dead, .row 177 3 (s.a.homes.map Jq), .row 112 4 (s.txns.map Eb), .row 134 2 (d.cache.map DR)]

theorem L9 {α:Type} {n i:Nat} {a d:α} (h:i<n):(List.replicate n a).getD i d=a:=by rw [Ab,CN h];try rfl
theorem Si {i:Nat} (h:i<8):zero8.getD i 0=0:=by
 have:i=0\/i=1\/i=2\/i=3\/i=4\/i=5\/i=6\/i=7:=by omega
 rcases this with rfl | rfl | rfl | rfl | rfl | rfl | rfl | rfl <;> rfl
def Kv (cs:List Cel) (w:Wr):List Cel:=cs.set w.addr.toNat { cs.getD w.addr.toNat cz with bytes:=w.bytes }
def Ed (cs:List Cel) (l:List Wr):List Cel:=l.foldl Kv cs
theorem Pz (cs:List Cel) (w:Wr):(Kv cs w).length=cs.length:=by simp [Kv]
theorem EG (l:List Wr):∀ cs:List Cel,(Ed cs l).length=cs.length:=by
 induction l with
 | nil=>intro cs;rfl
 | cons w l ih=>intro cs;show (Ed (Kv cs w) l).length=_;rw [ih,Pz]
theorem HP (cs:List Cel) {l:List Wr} {k:Nat} (h:k<l.length):Ed cs (l.take (k+1))=Kv (Ed cs (l.take k)) (l.getD k ⟨0, []⟩):=by
 unfold Ed;rw [Bi,Cd,Ae h];simp [Ab,Ae h]
theorem Je (cs:List Cel) (w:Wr):(Kv cs w).map B5=(cs.map B5).set w.addr.toNat (B5 { cs.getD w.addr.toNat cz with bytes:=w.bytes }):=by rw [Kv,C6]
def I0 (g:Geo):List Cel:=List.replicate (A4 g).toNat cz
def GJ (g:Geo) (c:Int):List Wr:=(List.range g.sl.toNat).map fun i=>⟨AU g c (i:Nat),BV g zeroC c (i:Nat)⟩
def HU (g:Geo) (z:Int):List Wr:=(List.range 2).map fun k=>⟨By g z (k:Nat),CA (By g z (k:Nat)) 0 (CL (E4 g))⟩
def GX (g:Geo) (z:Int):List Wr:=(List.range (CG g).toNat).map fun i=>⟨Cs g z (i:Nat),CA (Cs g z (i:Nat)) 0 zero8⟩
def VK (g:Geo) (s:ByteArray):List Cel:=Ed (I0 g) (Bg g (B_ g s))
def N_ (g:Geo) (s:ByteArray):Nat->List Cel
 | 0=>VK g s
 | c+1=>Ed (N_ g s c) (GJ g (c:Nat))
def GP (g:Geo) (s:ByteArray):Nat->List Cel
 | 0=>N_ g s 2
 | z+1=>Ed (Ed (GP g s z) (HU g (z:Nat))) (GX g (z:Nat))
def GO (g:Geo) (s:ByteArray):Dk:=⟨GP g s g.z.toNat, [],0, -1⟩
theorem LE (g:Geo):(I0 g).length=(A4 g).toNat:=by simp [I0]
theorem VJ (g:Geo) (s:ByteArray):(VK g s).length=(A4 g).toNat:=by rw [VK,EG,LE]
theorem LD (g:Geo) (s:ByteArray):∀ c,(N_ g s c).length=(A4 g).toNat
 | 0=>VJ g s
 | c+1=>by rw [N_,EG,LD g s c]
theorem Gz (g:Geo) (s:ByteArray):∀ z,(GP g s z).length=(A4 g).toNat
 | 0=>LD g s 2
 | z+1=>by rw [GP,EG,EG,Gz g s z]
theorem J5 {α:Type} {f:Nat->α} {n k:Nat} {d:α} (h:k<n):((List.range n).map f).getD k d=f k:=by
 rw [Bf (d:=0) (by simpa using h),Ab,Br h];try rfl
theorem HH {g:Geo} (hg:Bq g=true):DP g zeroC=true:=by
 simp [DP,hg,Ef,zeroC,FC]
theorem Jf (cs:List Cel) (l m:List Wr):Ed cs (l ++ m)=Ed (Ed cs l) m:=by unfold Ed;rw [Cd]
theorem GL (cs:List Cel) (i a:Nat) (x:Cel) (ha:a<cs.length):(cs.set i x).getD a cz=if i=a then x else cs.getD a cz:=by
 rw [Ab,List.getElem?_set];by_cases h:i=a
 ·subst h;rw [if_pos rfl,if_pos rfl,if_pos ha];try rfl
 ·rw [if_neg h,if_neg h,<-Ab]
theorem VH (cs:List Cel) (w:Wr) (a:Nat) (ha:a<cs.length):(Kv cs w).getD a cz=if w.addr.toNat=a then { cs.getD a cz with bytes:=w.bytes } else cs.getD a cz:=by
 unfold Kv;rw [GL _ _ _ _ ha];split
 ·rename_i h;rw [h]
 ·rfl
theorem Nb {F:List UInt8}:∀ (l:List Wr) (cs:List Cel) (a:Nat),a<cs.length->(∀ w∈l,w.addr.toNat=a->w.bytes=F)->((∃ w∈l,w.addr.toNat=a)\/(cs.getD a cz).bytes=F)->(Ed cs l).getD a cz={ cs.getD a cz with bytes:=F }
 | [],cs,a,_,_,h=>by
  rcases h with ⟨w,hw,_⟩ | h
  ·cases hw
  ·show cs.getD a cz=_;rw [<-h]
 | w::l,cs,a,ha,hF,h=>by
  have hs:=VH cs w a ha;have ha':a<(Kv cs w).length:=by rw [Pz];exact ha
  have ih:=Nb (F:=F) l (Kv cs w) a ha' (fun x hx=>hF x (AY _ hx));show (Ed (Kv cs w) l).getD a cz=_;by_cases e:w.addr.toNat=a
  ·rw [if_pos e,hF w (by simp) e] at hs;rw [ih (.inr (by rw [hs])),hs]
  ·rw [if_neg e] at hs;rw [ih ?_,hs];rcases h with ⟨x,hx,hxa⟩ | h
   ·rcases Bb.1 hx with rfl | hx
    ·exact absurd hxa e
    ·exact .inl ⟨x,hx,hxa⟩
   ·exact .inr (by rw [hs];exact h)
def JQ (g:Geo):Nat->List Wr
 | 0=> []
 | z+1=>JQ g z ++ (HU g (z:Nat) ++ GX g (z:Nat))
def NZ (g:Geo) (s:ByteArray):List Wr:=Bg g (B_ g s) ++ (GJ g 0 ++ (GJ g 1 ++ JQ g g.z.toNat))
theorem VI (g:Geo) (s:ByteArray):∀ z,GP g s z=Ed (I0 g) (Bg g (B_ g s) ++ (GJ g 0 ++ (GJ g 1 ++ JQ g z)))
 | 0=>by
  show Ed (Ed (VK g s) (GJ g 0)) (GJ g 1)=_;rw [VK,<-Jf,<-Jf,JQ,AM]
 | z+1=>by
  rw [GP,VI g s z,<-Jf,<-Jf,JQ];simp only [A7]
def GN (g:Geo) (s:ByteArray) (a:Int):List UInt8:=
 if a<g.an then Dg (B_ g s) a else if a<g.an+g.sl then BV g zeroC 0 (a - g.an) else if a<g.an+2*g.sl then BV g zeroC 1 (a - g.an - g.sl)
 else if a<g.an+2*g.sl+2*g.z then CA a 0 (CL (E4 g)) else CA a 0 zero8
theorem H5 {g:Geo} (hg:Bq g=true):∀ (n:Nat) (w:Wr),(n:Int)<=g.z->(w∈JQ g n↔(∃ z k:Nat,z<n/\k<2/\w=⟨By g z k,CA (By g z k) 0 (CL (E4 g))⟩)\/∃ z i:Nat,z<n/\i<(CG g).toNat/\w=⟨Cs g z i,CA (Cs g z i) 0 zero8⟩)
 | 0,w,_=>by simp [JQ]
 | n+1,w,h=>by
  rw [JQ,A3,A3,H5 hg n w (by omega)];simp only [HU,GX,AK,AO];constructor
  ·rintro((⟨z,k,h1,h2,h3⟩ | ⟨z,i,h1,h2,h3⟩) | ⟨k,h1,h2⟩ | ⟨i,h1,h2⟩)
   ·exact .inl ⟨z,k,by omega,h2,h3⟩
   ·exact .inr ⟨z,i,by omega,h2,h3⟩
   ·exact .inl ⟨n,k,by omega,h1,h2.symm⟩
   ·exact .inr ⟨n,i,by omega,h1,h2.symm⟩
  ·rintro(⟨z,k,h1,h2,h3⟩ | ⟨z,i,h1,h2,h3⟩)
   ·by_cases e:z=n
    ·subst e;exact .inr (.inl ⟨k,h2,h3.symm⟩)
    ·exact .inl (.inl ⟨z,k,by omega,h2,h3⟩)
   ·by_cases e:z=n
    ·subst e;exact .inr (.inr ⟨i,h2,h3.symm⟩)
    ·exact .inl (.inr ⟨z,i,by omega,h2,h3⟩)
theorem RZ {g:Geo} {s:ByteArray} {a:Int} (h:a<g.an):GN g s a=Dg (B_ g s) a:=if_pos h
theorem LC {g:Geo} {s:ByteArray} {c:Int} {i:Nat} (hc:c=0\/c=1) (hi:(i:Int)<g.sl):GN g s (AU g c i)=BV g zeroC c i:=by
 unfold GN AU;rcases hc with rfl | rfl
 ·rw [if_neg (by omega),if_pos (by omega)];congr 1;omega
 ·rw [if_neg (by omega),if_neg (by omega),if_pos (by omega)];congr 1;omega
theorem P0 {g:Geo} {s:ByteArray} {z k:Nat} (h0:0<=g.sl) (hz:(z:Int)<g.z) (hk:k<2):GN g s (By g z k)=CA (By g z k) 0 (CL (E4 g)):=by
 unfold GN;have:By g z k=g.an+2*g.sl+2*z+k:=rfl;rw [if_neg (by omega),if_neg (by omega),if_neg (by omega),if_pos (by omega)]
theorem Nc {g:Geo} {s:ByteArray} {z i:Nat} (h0:0<=g.sl) (h1:0<=g.z) (h2:0<=CG g):GN g s (Cs g z i)=CA (Cs g z i) 0 zero8:=by
 unfold GN;have:Cs g z i=g.an+2*g.sl+2*g.z+z*CG g+i:=rfl;have:0<=(z:Int)*CG g:=CO (by omega) h2;rw [if_neg (by omega),if_neg (by omega),if_neg (by omega),if_neg (by omega)]
theorem OZ {g:Geo} (hg:Bq g=true):0<CG g:=by
 obtain⟨g1,g2,g3,g4,g5⟩:=Ar.1 hg;unfold CG;omega
theorem VG {g:Geo} {s:ByteArray} (hg:Bq g=true):∀ w∈NZ g s,0<=w.addr/\w.bytes=GN g s w.addr:=by
 obtain⟨g1,g2,g3,g4,g5⟩:=Ar.1 hg;have hp:=OZ hg;intro w hw;simp only [NZ,A3,H5 hg g.z.toNat w (by omega)] at hw;rcases hw with hw | hw | hw | ⟨z,k,h1,h2,rfl⟩ | ⟨z,i,h1,h2,rfl⟩
 ·simp only [Bg,AK,AO] at hw;obtain⟨i,hi,rfl⟩:=hw;exact⟨by show (0:Int)<=(i:Nat);omega,(RZ (by show ((i:Nat):Int)<g.an;omega)).symm⟩
 ·simp only [GJ,AK,AO] at hw;obtain⟨i,hi,rfl⟩:=hw;exact⟨by show 0<=AU g 0 i;unfold AU;omega,(LC (.inl rfl) (by omega)).symm⟩
 ·simp only [GJ,AK,AO] at hw;obtain⟨i,hi,rfl⟩:=hw;exact⟨by show 0<=AU g 1 i;unfold AU;omega,(LC (.inr rfl) (by omega)).symm⟩
 ·exact⟨by show 0<=By g z k;unfold By;omega,(P0 (by omega) (by omega) h2).symm⟩
 ·have:0<=(z:Int)*CG g:=CO (by omega) (by omega);exact⟨by show 0<=Cs g z i;unfold Cs;omega,(Nc (by omega) (by omega) (by omega)).symm⟩
theorem VF {g:Geo} {s:ByteArray} (hg:Bq g=true) {a:Int} (h0:0<=a) (h:a<A4 g):∃ w∈NZ g s,w.addr=a:=by
 obtain⟨g1,g2,g3,g4,g5⟩:=Ar.1 hg;have hp:=OZ hg;by_cases h1:a<g.an
 ·refine⟨⟨a,Dg (B_ g s) a⟩,?_,rfl⟩;simp only [NZ,A3,Bg,AK,AO];exact .inl ⟨a.toNat,by omega,by rw [BZ h0]⟩
 ·have hlog:∀ (c:Int) (i:Nat),(c=0\/c=1)->(i:Int)<g.sl->∃ w∈NZ g s,w.addr=AU g c i:=fun c i hc hi=>by
   refine⟨⟨AU g c i,BV g zeroC c i⟩,?_,rfl⟩;simp only [NZ,A3,GJ,AK,AO];rcases hc with rfl | rfl
   ·exact .inr (.inl ⟨i,by omega,rfl⟩)
   ·exact .inr (.inr (.inl ⟨i,by omega,rfl⟩))
  by_cases h2:a<g.an+g.sl
  ·obtain⟨w,hw,e⟩:=hlog 0 (a - g.an).toNat (.inl rfl) (by omega);exact⟨w,hw,by rw [e];unfold AU;omega⟩
  ·by_cases h3:a<g.an+2*g.sl
   ·obtain⟨w,hw,e⟩:=hlog 1 (a - g.an - g.sl).toNat (.inr rfl) (by omega);exact⟨w,hw,by rw [e];unfold AU;omega⟩
   ·by_cases h4:a<g.an+2*g.sl+2*g.z
    ·refine⟨⟨By g (((a - (g.an+2*g.sl)).toNat / 2:Nat)) ((a - (g.an+2*g.sl)).toNat % 2:Nat),CA (By g (((a - (g.an+2*g.sl)).toNat / 2:Nat)) ((a - (g.an+2*g.sl)).toNat % 2:Nat)) 0 (CL (E4 g))⟩,?_,by show By g _ _=a;unfold By;omega⟩;simp only [NZ,A3,H5 hg g.z.toNat _ (by omega)];exact .inr (.inr (.inr (.inl ⟨_,_,by omega,by omega,rfl⟩)))
    ·have hq:a - (g.an+2*g.sl+2*g.z)=((a - (g.an+2*g.sl+2*g.z)).toNat:Int):=by omega
     generalize hX:(a - (g.an+2*g.sl+2*g.z)).toNat=X at hq;have hP:CG g=((CG g).toNat:Int):=by omega
     have hX2:X<g.z.toNat*(CG g).toNat:=by
      have:(X:Int)<g.z*CG g:=by unfold A4 at h;omega
      rw [hP,show g.z=(g.z.toNat:Int) by omega] at this
      exact_mod_cast this
     generalize hPn:(CG g).toNat=p at hP hX2;have hp0:0<p:=by omega
     have hdm:(X / p)*p+X % p=X:=Nat.div_add_mod' X p;refine⟨⟨Cs g ((X / p:Nat)) ((X % p:Nat)),CA (Cs g ((X / p:Nat)) ((X % p:Nat))) 0 zero8⟩,?_,?_⟩
     ·simp only [NZ,A3,H5 hg g.z.toNat _ (by omega)];exact .inr (.inr (.inr (.inr ⟨X / p,X % p,Nat.div_lt_of_lt_mul (by rw [Nat.mul_comm];exact hX2),by rw [hPn];exact Nat.mod_lt _ hp0,rfl⟩)))
     ·show Cs g _ _=a;unfold Cs;rw [hP];have:((X / p:Nat):Int)*(p:Int)+((X % p:Nat):Int)=(X:Int):=by exact_mod_cast hdm
      omega
theorem Py {g:Geo} {s:ByteArray} (hg:Bq g=true) {a:Int} (h0:0<=a) (h:a<A4 g):(GO g s).cells.getD a.toNat cz=⟨0,GN g s a, []⟩:=by
 have hl:a.toNat<(I0 g).length:=by rw [LE];omega
 obtain⟨w,hw,e⟩:=VF (s:=s) hg h0 h;have hall:=VG (s:=s) hg;show (GP g s g.z.toNat).getD a.toNat cz=_;rw [VI];refine(Nb (F:=GN g s a) (NZ g s) (I0 g) a.toNat hl (fun x hx hxa=>?_) (.inl ⟨w,hw,by rw [e]⟩)).trans ?_
 ·have:=hall x hx;rw [this.2];congr 1;omega
 ·have:(I0 g).getD a.toNat cz=cz:=by
   unfold I0;rw [Ab,List.getElem?_replicate];split <;> rfl
  rw [this];try rfl
structure Holds (d:Dk) (n:Int) (F:Int->List UInt8):Prop where
 len:(d.cells.length:Int)=n
 cache:d.cache=[]
 cell:∀ a:Int,0<=a->a<n->(d.cells.getD a.toNat cz).state=0/\(d.cells.getD a.toNat cz).bytes=F a
theorem Holds.got {d:Dk} {n:Int} {F:Int->List UInt8} (h:Holds d n F) {a:Int} (h0:0<=a) (h1:a<n):To d a=⟨0,F a⟩:=by
 obtain⟨e1,e2⟩:=h.cell a h0 h1;have hg:d.got a=((d.cells.getD a.toNat cz).bytes,0):=by
  unfold Dk.got;rw [h.cache];simp only [MQ];rw [show (d.cells.getD a.toNat ⟨0, [], []⟩)=d.cells.getD a.toNat cz from rfl,if_pos e1]
 rw [To,hg,e2]
theorem Na {g:Geo} {s:ByteArray} (hg:Bq g=true):Holds (GO g s) (A4 g) (GN g s):=by
 have hc:=D_ hg;obtain⟨g1,g2,g3,g4,g5⟩:=Ar.1 hg;refine⟨?_,rfl,fun a h0 h1=>by rw [Py hg h0 h1];exact tA⟩;show ((GP g s g.z.toNat).length:Int)=_;rw [Gz];omega
def Dk.tick (k:Nat) (d:Dk):Dk:=⟨d.cells,d.cache,min (d.reqs+k) 1048576,if d.left<0 then d.left else d.left - k⟩
structure Lv (d:Dk) (k:Nat):Prop where
 r:0<=d.reqs/\d.reqs<=1048576
 l:d.left<0\/(k:Int)<=d.left
theorem Lv.le {d:Dk} {k j:Nat} (h:Lv d k) (hj:j<=k):Lv d j:=⟨h.r,by have:=h.l;omega⟩
theorem Lg {d:Dk} (h:0<=d.reqs/\d.reqs<=1048576) (_h0:d.left≠0) (hl:d.left<0\/1<=d.left):d.req=d.tick 1:=by
 unfold Dk.req Dk.tick;rw [wi (by omega)];congr 1
 ·split <;> omega
 ·split <;> split <;> omega
theorem Gi {d:Dk} (a b:Nat) (_hr:d.reqs<=1048576) (h:d.left<0\/(a:Int)<=d.left):(d.tick a).tick b=d.tick (a+b):=by
 unfold Dk.tick;congr 1
 ·simp only;omega
 ·simp only;by_cases h':d.left<0
  ·simp only [h',if_true]
  ·rw [if_neg h',if_neg (by omega),if_neg h'];omega
theorem Mw {d:Dk} (hr:d.reqs<=1048576):d.tick 0=d:=by
 unfold Dk.tick;obtain⟨c,ca,r,l⟩:=d;simp only [Dk.mk.injEq,true_and] at hr |-
 constructor
 ·omega
 ·split <;> omega
theorem IG {d:Dk} {a b:Nat} (h:Lv d (a+b)):Lv (d.tick a) b:=by
 have:=h.r;have:=h.l;refine⟨?_,?_⟩
 ·show 0<=min _ _/\min _ _<=_;omega
 ·show (if d.left<0 then d.left else d.left - a)<0\/(b:Int)<=(if d.left<0 then d.left else d.left - a);split <;> omega
theorem LZ {d:Dk}:∀ (k:Nat),Lv d k->d.adv k=d.tick k
 | 0,h=>(Mw h.r.2).symm
 | k+1,h=>by
  have ih:=LZ k (h.le (by omega));have h1:=IG (a:=k) (b:=1) h;have h2:=h1.l;show (if (d.adv k).left=0 then d.adv k else (d.adv k).req)=_;rw [ih,if_neg (by omega),Lg h1.r (by omega) (by omega),Gi k 1 h.r.2 (by have:=h.l;omega)]
def free (cs:List Cel) (w:Wr):Bool:=decide ((cs.getD w.addr.toNat cz).state≠2)
theorem Qc {d:Dk} {w:Wr} (h:Lv d 1) (hc:d.cache.length<2000):d.write w.addr w.bytes=if free d.cells w then (⟨d.cells,d.cache ++ [w],(d.tick 1).reqs,(d.tick 1).left⟩,0) else (d.tick 1,7):=by
 have:=h.l;unfold Dk.write free;rw [if_neg (by omega),Lg h.r (by omega) (by omega)];by_cases h2:(d.cells.getD w.addr.toNat cz).state=2
 ·rw [if_pos (.inl h2),if_neg (by simpa using h2)]
 ·rw [if_neg (by rintro(h3 | h3);exact h2 h3;omega),if_pos (by simpa using h2)];try rfl
theorem writes_go:∀ (l:List Wr) (d:Dk) (n:Nat),Lv d l.length->d.cache.length+l.length<=2000->l.foldl Fx (d,n,false)=(⟨d.cells,d.cache ++ l.filter (free d.cells),(d.tick l.length).reqs,(d.tick l.length).left⟩,n+(l.filter (free d.cells)).length,false)
 | [],d,n,h,_=>by
  show (d,n,false)=_;rw [show ([]:List Wr).length=0 from rfl,Mw h.r.2];simp only [List.filter_nil,AM,Bd,C5]
 | w::l,d,n,h,hc=>by
  have hl:(w::l).length=l.length+1:=rfl;rw [hl] at h hc |-
  have hw:=Qc (w:=w) (h.le (show 1<=l.length+1 by omega)) (by omega);have h1:Lv (d.tick 1) l.length:=IG (by rw [CJ];exact h);have ht:=Gi (d:=d) 1 l.length h.r.2 (by have:=h.l;omega);rw [CJ] at ht;show l.foldl Fx (Fx (d,n,false) w)=_;have hs:Fx (d,n,false) w=(match d.write w.addr w.bytes with | (d,e)=>if e=8 then (d,n,true) else (d,n+(if e=0 then 1 else 0),false)):=by
   unfold Fx;rw [if_neg (by simp)]
  rw [hs,hw];cases hf:free d.cells w with
  | true=>
   simp only [if_true];rw [if_neg (by decide)];have hgo:=writes_go l ⟨d.cells,d.cache ++ [w],(d.tick 1).reqs,(d.tick 1).left⟩ (n+1) ⟨h1.r,h1.l⟩ (by simp;omega);have e1:((⟨d.cells,d.cache ++ [w],(d.tick 1).reqs,(d.tick 1).left⟩:Dk).tick l.length).reqs=(d.tick (l.length+1)).reqs/\((⟨d.cells,d.cache ++ [w],(d.tick 1).reqs,(d.tick 1).left⟩:Dk).tick l.length).left=(d.tick (l.length+1)).left:=by rw [<-ht];exact tA
   rw [e1.1,e1.2] at hgo;rw [hgo];simp only [List.filter_cons,hf,if_true,Ap,A7,List.singleton_append,Prod.mk.injEq,and_true,true_and];omega
  | false=>
   simp only [Cv,if_false];rw [if_neg (by decide),if_neg (by decide)];rw [writes_go l (d.tick 1) (n+0) h1 (by show d.cache.length+_<=_;omega),ht];simp only [List.filter_cons,hf,Cv,if_false,C5];rfl
theorem Oq {d:Dk} {l:List Wr} (h:Lv d l.length) (hc:d.cache.length+l.length<=2000):d.writes l=(⟨d.cells,d.cache ++ l.filter (free d.cells),(d.tick l.length).reqs,(d.tick l.length).left⟩,(l.filter (free d.cells)).length,false):=by
 rw [Dk.writes,writes_go l d 0 h hc,Az]
def Fb (cs:List Cel) (w:Wr):List Cel:=if (cs.getD w.addr.toNat cz).state=2 then cs else cs.set w.addr.toNat ⟨0,w.bytes,(cs.getD w.addr.toNat cz).bytes⟩
def CH (cs:List Cel) (l:List Wr):List Cel:=l.foldl Fb cs
theorem G1 (cs:List Cel) (w:Wr):(Fb cs w).length=cs.length:=by unfold Fb;split <;> simp
theorem finL_len:∀ (l:List Wr) (cs:List Cel),(CH cs l).length=cs.length
 | [],_=>rfl
 | w::l,cs=>by show (CH (Fb cs w) l).length=_;rw [finL_len l,G1]
theorem Tw (d:Dk) (w:Wr):d.fin w={ d with cells:=Fb d.cells w }:=by unfold Dk.fin Fb;split <;> rfl
theorem allFin_cells:∀ (l:List Wr) (d:Dk),d.allFin l={ d with cells:=CH d.cells l }
 | [],_=>rfl
 | w::l,d=>by
  show (d.fin w).allFin l=_;rw [allFin_cells l,Tw];try rfl
theorem FJ (cs:List Cel) (w:Wr) (a:Nat) (ha:a<cs.length):(Fb cs w).getD a cz=if w.addr.toNat=a/\(cs.getD a cz).state≠2 then ⟨0,w.bytes,(cs.getD a cz).bytes⟩ else cs.getD a cz:=by
 unfold Fb;by_cases h:(cs.getD w.addr.toNat cz).state=2
 ·rw [if_pos h,if_neg];rintro⟨rfl,h2⟩;exact h2 h
 ·rw [if_neg h,GL _ _ _ _ ha];by_cases e:w.addr.toNat=a
  ·subst e;rw [if_pos rfl,if_pos ⟨rfl,h⟩]
  ·rw [if_neg e,if_neg (fun h=>e h.1)]
theorem finL_miss:∀ (l:List Wr) (cs:List Cel) (a:Nat),a<cs.length->(∀ w∈l,w.addr.toNat≠a)->(CH cs l).getD a cz=cs.getD a cz
 | [],_,_,_,_=>rfl
 | w::l,cs,a,ha,h=>by
  have hs:=FJ cs w a ha;rw [if_neg (fun e=>h w (by simp) e.1)] at hs;show (CH (Fb cs w) l).getD a cz=_;rw [finL_miss l (Fb cs w) a (by rw [G1];exact ha) (fun x hx=>h x (AY _ hx)),hs]
theorem finL_stuck:∀ (l:List Wr) (cs:List Cel) (a:Nat),a<cs.length->(cs.getD a cz).state=2->(CH cs l).getD a cz=cs.getD a cz
 | [],_,_,_,_=>rfl
 | w::l,cs,a,ha,h=>by
  have hs:=FJ cs w a ha;rw [if_neg (fun e=>e.2 h)] at hs;show (CH (Fb cs w) l).getD a cz=_;rw [finL_stuck l (Fb cs w) a (by rw [G1];exact ha) (by rw [hs];exact h),hs]
theorem finL_any:∀ (l:List Wr) (cs:List Cel) (a:Nat),a<cs.length->(CH cs l).getD a cz=cs.getD a cz\/(cs.getD a cz).state≠2/\((CH cs l).getD a cz).state=0/\∃ w∈l,w.addr.toNat=a/\((CH cs l).getD a cz).bytes=w.bytes
 | [],_,_,_=> .inl rfl
 | w::l,cs,a,ha=>by
  have hs:=FJ cs w a ha;have ih:=finL_any l (Fb cs w) a (by rw [G1];exact ha);by_cases e:w.addr.toNat=a/\(cs.getD a cz).state≠2
  ·rw [if_pos e] at hs;rcases ih with ih | ⟨h1,h2,x,hx,h3,h4⟩
   ·refine .inr ⟨e.2,?_,w,by simp,e.1,?_⟩
    ·show ((CH (Fb cs w) l).getD a cz).state=0;rw [ih,hs]
    ·show ((CH (Fb cs w) l).getD a cz).bytes=_;rw [ih,hs]
   ·exact .inr ⟨e.2,h2,x,AY _ hx,h3,h4⟩
  ·rw [if_neg e] at hs;rcases ih with ih | ⟨h1,h2,x,hx,h3,h4⟩
   ·exact .inl (ih.trans hs)
   ·exact .inr ⟨by rw [hs] at h1;exact h1,h2,x,AY _ hx,h3,h4⟩
theorem LO {F:List UInt8}:∀ (l:List Wr) (cs:List Cel) (a:Nat),a<cs.length->(cs.getD a cz).state≠2->(∀ w∈l,w.addr.toNat=a->w.bytes=F)->(∃ w∈l,w.addr.toNat=a)\/((cs.getD a cz).state=0/\(cs.getD a cz).bytes=F)->((CH cs l).getD a cz).state=0/\((CH cs l).getD a cz).bytes=F
 | [],cs,a,_,_,_,h=>by
  rcases h with ⟨w,hw,_⟩ | h
  ·cases hw
  ·exact h
 | w::l,cs,a,ha,h2,hF,h=>by
  have hs:=FJ cs w a ha;have ha':a<(Fb cs w).length:=by rw [G1];exact ha
  show ((CH (Fb cs w) l).getD a cz).state=0/\((CH (Fb cs w) l).getD a cz).bytes=F;by_cases e:w.addr.toNat=a
  ·rw [if_pos ⟨e,h2⟩,hF w (by simp) e] at hs;exact LO l (Fb cs w) a ha' (by rw [hs];show (0:Int)≠2;decide) (fun x hx=>hF x (AY _ hx)) (.inr (by rw [hs];exact tA))
  ·rw [if_neg (fun q=>e q.1)] at hs;refine LO l (Fb cs w) a ha' (by rw [hs];exact h2) (fun x hx=>hF x (AY _ hx)) ?_;rcases h with ⟨x,hx,hxa⟩ | h
   ·rcases Bb.1 hx with rfl | hx
    ·exact absurd hxa e
    ·exact .inl ⟨x,hx,hxa⟩
   ·exact .inr (by rw [hs];exact h)
theorem finL_free:∀ (l:List Wr) (cs cs0:List Cel),(∀ a,(cs.getD a cz).state=2↔(cs0.getD a cz).state=2)->CH cs (l.filter (free cs0))=CH cs l
 | [],_,_,_=>rfl
 | w::l,cs,cs0,h=>by
  have hstep:∀ a,((Fb cs w).getD a cz).state=2↔(cs0.getD a cz).state=2:=fun a=>by
   rw [<-h a];by_cases ha:a<cs.length
   ·rw [FJ cs w a ha];split
    ·rename_i e;constructor
     ·intro q;exact absurd q (by simp)
     ·intro q;exact absurd q e.2
    ·exact Iff.rfl
   ·rw [Ab,Ab,AH (by rw [G1];omega),AH (by omega)]
  show _=CH (Fb cs w) l;rw [List.filter_cons];by_cases hf:free cs0 w=true
  ·rw [if_pos hf];exact finL_free l (Fb cs w) cs0 hstep
  ·rw [if_neg hf];have:Fb cs w=cs:=by
    unfold Fb;rw [if_pos];simp only [free,decide_eq_true_eq,Decidable.not_not] at hf;exact(h _).2 hf
   rw [this];exact finL_free l cs cs0 h
theorem IS {d:Dk} {l:List Wr} (h:Lv d (l.length+1)) (hc:d.cache=[]) (hl:l.length<=2000):d.putAll l=(⟨CH d.cells l, [],(d.tick (l.length+1)).reqs,(d.tick (l.length+1)).left⟩,(l.filter (free d.cells)).length,false):=by
 have hw:=Oq (h.le (show l.length<=l.length+1 by omega)) (by rw [hc];simpa using hl);have h1:=IG (a:=l.length) (b:=1) h;have h2:=h1.l;rw [hc,Bu] at hw;unfold Dk.putAll;rw [hw];simp only [Cv,if_false];rw [if_neg (by show ¬(d.tick l.length).left=0;omega)];have ht:=Gi (d:=d) l.length 1 h.r.2 (by have:=h.l;omega);simp only [Prod.mk.injEq,and_true];unfold Dk.flush;rw [allFin_cells];have h3:Lv ⟨d.cells,l.filter (free d.cells),(d.tick l.length).reqs,(d.tick l.length).left⟩ 1:=⟨h1.r,h1.l⟩;have hr:=Lg (d:=⟨d.cells,l.filter (free d.cells),(d.tick l.length).reqs,(d.tick l.length).left⟩) h3.r (by show (d.tick l.length).left≠0;omega) (by show (d.tick l.length).left<0\/1<=(d.tick l.length).left;omega);rw [hr,<-ht];show (⟨CH d.cells (l.filter (free d.cells)), [],_,_⟩:Dk)=_;rw [finL_free l d.cells d.cells fun _=>Iff.rfl];try rfl
structure Gw (n:Int) (d:Dk) (F:Int->List UInt8) (l:List Wr):Prop where
 ok:DkOk d
 left:d.left = -1
 len:(d.cells.length:Int)=n
 cache:d.cache=l
 cell:∀ a:Int,0<=a->a<n->(d.cells.getD a.toNat cz).state=0/\(d.cells.getD a.toNat cz).bytes=F a
 old:∀ a:Int,0<=a->a<n->(d.cells.getD a.toNat cz).old=F (-1 - a)
abbrev Gd (n:Int) (d:Dk) (F:Int->List UInt8):Prop:=Gw n d F []
def Yg (F:Int->List UInt8) (w:Wr) (a:Int):List UInt8:=if 0<=a then (if w.addr=a then w.bytes else F a) else if w.addr = -1 - a then F w.addr else F a
def R0 (F:Int->List UInt8) (l:List Wr):Int->List UInt8:=l.foldl Yg F
theorem KI {F:Int->List UInt8} (l:List Wr) (w:Wr):R0 F (l ++ [w])=Yg (R0 F l) w:=by
 unfold R0;rw [Cd];try rfl
theorem Gw.req {n:Int} {d:Dk} {F:Int->List UInt8} {l:List Wr} (h:Gw n d F l):Gw n d.req F l:=
 ⟨h.ok.req,by unfold Dk.req;rw [h.left];try rfl,h.len,h.cache,h.cell,h.old⟩
theorem Gd.got {n:Int} {d:Dk} {F:Int->List UInt8} (h:Gd n d F) {a:Int} (h0:0<=a) (h1:a<n):d.got a=(F a,0):=by
 have:=Holds.got ⟨h.len,h.cache,h.cell⟩ h0 h1;unfold To at this;injection this with e1 e2
 exact Prod.ext e2 e1
theorem Gd.read {n:Int} {d:Dk} {F:Int->List UInt8} (h:Gd n d F) {a:Int} (h0:0<=a) (h1:a<n):d.read a=(d.req,F a,0):=by
 unfold Dk.read;rw [if_neg (by rw [h.left];decide),h.got h0 h1]
theorem Gw.write {n:Int} {d:Dk} {F:Int->List UInt8} {l:List Wr} (h:Gw n d F l) (hl:l.length<2000) {a:Int} (h0:0<=a) (h1:a<n) {b:List UInt8} (hb:b.length<=200):(d.write a b).2=0/\Gw n (d.write a b).1 F (l ++ [⟨a,b⟩]):=by
 have hw:=h.ok.write (a:=a) (b:=b) (by rw [<-h.len] at h1;omega) hb;have e:d.write a b=({ d.req with cache:=d.cache ++ [⟨a,b⟩] },0):=by
  unfold Dk.write;rw [if_neg (by rw [h.left];decide),if_neg];rintro(h2 | h2)
  ·have:=(h.cell a h0 h1).1;unfold cz at this;omega
  ·rw [h.cache] at h2;omega
 rw [e] at hw |-
 exact⟨rfl,hw,h.req.left,h.len,by rw [h.cache],h.cell,h.old⟩
theorem Od {cs:List Cel} {F:Int->List UInt8} {a:Int} (h0:0<=a) (h1:a.toNat<cs.length) (hc:(cs.getD a.toNat cz).state=0/\(cs.getD a.toNat cz).bytes=F a):∀ (n:Nat) (l:List Wr),l.length=n->(∀ w∈l,0<=w.addr)->((CH cs l).getD a.toNat cz).state=0/\((CH cs l).getD a.toNat cz).bytes=R0 F l a
 | 0,l,hn,_=>by
  obtain rfl:=AQ.1 hn;exact hc
 | n+1,l,hn,hw=>by
  rcases CB l with rfl | ⟨m,w,rfl⟩
  ·cases hn
  ·have ih:=Od h0 h1 hc n m (by simpa using hn) (fun x hx=>hw x (by simp [hx]));have hwa:=hw w (by simp);have e:CH cs (m ++ [w])=Fb (CH cs m) w:=by unfold CH;rw [Cd];try rfl
   have e2:=FJ (CH cs m) w a.toNat (by rw [finL_len];exact h1);rw [CC,e,e2,KI];unfold Yg;rw [if_pos h0];by_cases hA:w.addr=a
   ·rw [if_pos hA,if_pos ⟨by rw [hA],by rw [ih.1];decide⟩];exact tA
   ·rw [if_neg hA,if_neg (fun h=>hA (by have:=h.1;omega))];exact ih
theorem Sb {cs:List Cel} {F:Int->List UInt8} {a:Int} (h0:0<=a) (h1:a.toNat<cs.length) (hc:(cs.getD a.toNat cz).state=0/\(cs.getD a.toNat cz).bytes=F a) (ho:(cs.getD a.toNat cz).old=F (-1 - a)):∀ (n:Nat) (l:List Wr),l.length=n->(∀ w∈l,0<=w.addr)->((CH cs l).getD a.toNat cz).old=R0 F l (-1 - a)
 | 0,l,hn,_=>by
  obtain rfl:=AQ.1 hn;exact ho
 | n+1,l,hn,hw=>by
  rcases CB l with rfl | ⟨m,w,rfl⟩
  ·cases hn
  ·have ih:=Sb h0 h1 hc ho n m (by simpa using hn) (fun x hx=>hw x (by simp [hx]));have iu:=Od h0 h1 hc n m (by simpa using hn) (fun x hx=>hw x (by simp [hx]));have hwa:=hw w (by simp);have e:CH cs (m ++ [w])=Fb (CH cs m) w:=by unfold CH;rw [Cd];try rfl
   have e2:=FJ (CH cs m) w a.toNat (by rw [finL_len];exact h1);rw [CC,e,e2,KI];unfold Yg;rw [if_neg (show ¬(0:Int)<= -1 - a by omega),show -1 - (-1 - a)=a by omega];by_cases hA:w.addr=a
   ·rw [if_pos hA,if_pos ⟨by rw [hA],by rw [iu.1];decide⟩,hA];exact iu.2
   ·rw [if_neg hA,if_neg (fun h=>hA (by have:=h.1;omega))];exact ih
theorem Gw.flush {n:Int} {d:Dk} {F:Int->List UInt8} {l:List Wr} (h:Gw n d F l):Gd n d.flush (R0 F l):=by
 have e:d.flush=⟨CH d.cells l, [],d.req.reqs,d.req.left⟩:=by
  unfold Dk.flush;rw [allFin_cells,h.cache];try rfl
 have ho:=h.ok.flush;rw [e] at ho |-
 have hl:=h.len;have hw0:∀ w∈l,0<=w.addr:=fun w hw=>by
  rw [<-h.cache] at hw;exact(h.ok.w w hw).1.1
 exact⟨ho,h.req.left,by show ((CH d.cells l).length:Int)=n;rw [finL_len];exact h.len,rfl,fun a h0 h1=>Od h0 (by omega) (h.cell a h0 h1) _ l rfl hw0,fun a h0 h1=>Sb h0 (by omega) (h.cell a h0 h1) (h.old a h0 h1) _ l rfl hw0⟩
theorem Oz {F:Int->List UInt8} {a:Int} (h0:0<=a):∀ (n:Nat) (l:List Wr),l.length=n->(∀ w∈l,w.addr≠a)->R0 F l a=F a
 | 0,l,hn,_=>by
  obtain rfl:=AQ.1 hn;rfl
 | n+1,l,hn,h=>by
  rcases CB l with rfl | ⟨m,w,rfl⟩
  ·rfl
  ·have ih:=Oz (F:=F) h0 n m (by simpa using hn) (fun x hx=>h x (by simp [hx]));rw [CC,KI];unfold Yg;rw [if_pos h0,if_neg (h w (by simp))];exact ih
def V0 (g:Geo) (a:An) (seq:Int) (x:Img):List Wr:=if x.what=255 then [⟨By g x.zone 0,CA (By g x.zone 0) seq x.bytes⟩,⟨By g x.zone 1,CA (By g x.zone 1) seq x.bytes⟩] else [⟨DF g a x.zone x.what,CA (DF g a x.zone x.what) seq x.bytes⟩]
def L2 (g:Geo) (a:An) (seq:Int):List Img->List Wr
 | []=> []
 | x::r=>V0 g a seq x ++ L2 g a seq r
def E2 (a:An) (seq:Int) (x:Img):An:=if x.what=255 then { a with homes:=a.homes.set x.zone.toNat { a.homes.getD x.zone.toNat ⟨[],0,0⟩ with root:=seq } } else a
def Ep (a:An) (seq:Int) (l:List Img):An:=l.foldl (fun a x=>E2 a seq x) a
theorem Qd (a:An) (seq:Int) (x:Img):(E2 a seq x).homes.length=a.homes.length:=by unfold E2;split <;> simp
theorem O0 (seq:Int):∀ (l:List Img) (a:An),(Ep a seq l).homes.length=a.homes.length
 | [],_=>rfl
 | x::r,a=>by
  show (Ep (E2 a seq x) seq r).homes.length=_;rw [O0 seq r,Qd]
theorem So {g:Geo} {a:An} {seq:Int} {x:Img} (ha:Bv g a=true) (hs:0<=seq/\seq<=4294967295):Bv g (E2 a seq x)=true:=by
 unfold E2;split
 ·by_cases hi:x.zone.toNat<a.homes.length
  ·simp only [Bv,Ad,decide_eq_true_eq,Av] at ha |-
   obtain⟨q1,q2,q3,q4,q5,q6,q7⟩:=ha;refine⟨q1,q2,q3,q4,q5,by rw [AW];exact q6,fun y hy=>?_⟩;rcases Cm hy with h | rfl
   ·exact q7 y h
   ·have hh:=q7 _ (A5 (d:=(⟨[],0,0⟩:Hm)) hi);simp only [DL,Ad] at hh |-
    exact⟨hh.1,hh.2.1,AD.2 hs,hh.2.2.2⟩
  ·rw [List.set_eq_of_length_le (by omega)];exact ha
 ·exact ha
theorem KJ {g:Geo} {seq:Int} (hs:0<=seq/\seq<=4294967295):∀ (l:List Img) {a:An},Bv g a=true->Bv g (Ep a seq l)=true
 | [],_,h=>h
 | x::r,_,h=>KJ hs r (So h hs)
def O5 (g:Geo) (a:An) (x:Tx):An:={ Ep a x.seq x.images with gen:=a.gen+1,pos:=(x.pos+x.n).tmod g.sl,seq:=a.seq+1,last:=max a.last a.seq }
theorem IC (seq:Int):∀ (l:List Img) (a:An),(Ep a seq l).gen=a.gen/\(Ep a seq l).epoch=a.epoch/\(Ep a seq l).pos=a.pos/\(Ep a seq l).seq=a.seq/\(Ep a seq l).last=a.last/\(Ep a seq l).label=a.label
 | [],_=>tA
 | x::r,a=>by
  obtain⟨h1,h2,h3,h4,h5,h6⟩:=IC seq r (E2 a seq x);have e:(E2 a seq x).gen=a.gen/\(E2 a seq x).epoch=a.epoch/\(E2 a seq x).pos=a.pos/\(E2 a seq x).seq=a.seq/\(E2 a seq x).last=a.last/\(E2 a seq x).label=a.label:=by unfold E2;split <;> exact tA
  obtain⟨e1,e2,e3,e4,e5,e6⟩:=e;exact⟨h1.trans e1,h2.trans e2,h3.trans e3,h4.trans e4,h5.trans e5,h6.trans e6⟩
theorem U4 {g:Geo} {a:An} {x:Tx} (hg:Bq g=true) (ha:Bv g a=true) (h1:a.gen<4294967295) (h2:a.seq<4294967295) (hx:x.seq=a.seq) (hp:0<=x.pos) (hn:0<=x.n):Bv g (O5 g a x)=true:=by
 obtain⟨g1,g2,g3,g4,g5⟩:=Ar.1 hg;have hh:=ha;simp only [Bv,AX,BD,Bx,Ad,decide_eq_true_eq,AD] at hh;obtain⟨⟨w1,w2,w3,w4⟩,q2,q3,q4,q5,q6,q7⟩:=hh;have hu:=KJ (g:=g) (seq:=x.seq) (by omega) x.images ha;obtain⟨_,e2,_,_,_,e6⟩:=IC x.seq x.images a;simp only [Bv,AX,BD,Bx,Ad,decide_eq_true_eq,AD] at hu |-
 obtain⟨_,_,_,_,u5,u6,u7⟩:=hu;have hm0:0<=(x.pos+x.n).tmod g.sl:=Be _ (by omega);have hm1:(x.pos+x.n).tmod g.sl<g.sl:=AL _ (by omega);refine⟨⟨?_,?_,?_,?_⟩,?_,?_,?_,u5,u6,u7⟩
 ·show 0<=a.gen+1/\a.gen+1<=_;omega
 ·show 0<=(Ep a x.seq x.images).epoch/\(Ep a x.seq x.images).epoch<=_;rw [e2];exact w2
 ·show 0<=a.seq+1/\a.seq+1<=_;omega
 ·show 0<=max a.last a.seq/\max a.last a.seq<=_;omega
 ·show 1<=a.seq+1;omega
 ·show a.seq+1 - 1<=max a.last a.seq;omega
 ·show 0<=(x.pos+x.n).tmod g.sl/\(x.pos+x.n).tmod g.sl<=g.sl - 1;omega
theorem OneTab.eq:∀ {l:List Img} (_:OneTab l) {x y:Img},x∈l->y∈l->x.what=255->y.what=255->x.zone=y.zone->x=y
 | w::l,h,x,y,hx,hy,h1,h2,h3=>by
  obtain⟨q1,q2⟩:=List.pairwise_cons.1 h;rcases Bb.1 hx with ex | mx
  ·rcases Bb.1 hy with ey | my
   ·rw [ex,ey]
   ·rw [ex] at h1 h3;exact absurd h3 (q1 y my h1 h2)
  ·rcases Bb.1 hy with ey | my
   ·rw [ey] at h2 h3;exact absurd h3.symm (q1 x mx h2 h1)
   ·exact OneTab.eq q2 mx my h1 h2 h3
theorem L1 {g:Geo} {a:An} {seq:Int} {w:Wr}:∀ {l:List Img},w∈L2 g a seq l↔∃ x∈l,w∈V0 g a seq x
 | []=>by simp [L2]
 | x::r=>by
  rw [L2,A3,L1];simp
theorem F3 {g:Geo} {x:Img} (h:Bz g x=true):(0<=x.zone/\x.zone<g.z)/\(x.what≠255-> -1<=x.what/\x.what<g.d/\x.bytes.length=8):=by
 simp only [Bz,Ad,AD] at h;refine⟨by omega,fun hw=>?_⟩;have h2:=h.2.2;rw [if_neg hw,Ad,AD,decide_eq_true_eq] at h2;omega
theorem V3 {g:Geo} {a:An} (ha:Bv g a=true) {z:Int} (hz:0<=z/\z<g.z):z.toNat<a.homes.length/\DL g (a.homes.getD z.toNat ⟨[],0,0⟩)=true:=by
 simp only [Bv,Ad,decide_eq_true_eq,Av] at ha;obtain⟨_,_,_,_,_,q6,q7⟩:=ha;have hi:z.toNat<a.homes.length:=by omega
 exact⟨hi,q7 _ (A5 (d:=(⟨[],0,0⟩:Hm)) hi)⟩
theorem L_ {g:Geo} (hg:Bq g=true) {a:An} (ha:Bv g a=true) {z w:Int} (hz:0<=z/\z<g.z) (hw : -1<=w/\w<g.d):∃ s,DF g a z w=Cs g z s/\0<=s/\s<CG g:=by
 obtain⟨g1,g2,g3,g4,g5⟩:=Ar.1 hg;obtain⟨hi,hh⟩:=V3 ha hz;simp only [DL,Ad,decide_eq_true_eq,AD] at hh;obtain⟨p1,p2,p3,p4⟩:=hh;have hat:0<=F0 g w/\F0 g w<=g.d:=by unfold F0;split <;> omega
 refine⟨_,rfl,?_⟩;have hk:(F0 g w).toNat<(a.homes.getD z.toNat ⟨[],0,0⟩).places.length:=by omega
 have hp:=Av.1 p4 (F0 g w).toNat (by simpa using hk);simp only [Ad,AD] at hp;unfold CG;omega
theorem K2 {g:Geo} (hg:Bq g=true) {z s:Int} (hz:0<=z/\z<g.z) (hs:0<=s/\s<CG g):g.an+2*g.sl+2*g.z<=Cs g z s/\Cs g z s<A4 g:=by
 obtain⟨g1,g2,g3,g4,g5⟩:=Ar.1 hg;have hp:=GD hg;have h1:=G5 hg (z:=z) (by omega);have h2:z*CG g+CG g<=g.z*CG g:=by
  have:=Ci (show z+1<=g.z by omega) (show 0<=CG g by omega);rw [Int.add_mul,Int.one_mul] at this;exact this
 unfold Cs A4;omega
theorem N2 {g:Geo} (hg:Bq g=true) {z k:Int} (hz:0<=z/\z<g.z) (hk:0<=k/\k<=1):g.an+2*g.sl<=By g z k/\By g z k<g.an+2*g.sl+2*g.z/\By g z k<A4 g:=by
 obtain⟨g1,g2,g3,g4,g5⟩:=Ar.1 hg;have hp:=GD hg;have h1:=G5 hg (z:=g.z) (by omega);unfold By A4;omega

def FT (l:List (List UInt8)):AV:= .sl 1 l.length fun i=> [bA (l.getD i [])]
theorem Sl (b:List UInt8):Fn Tryz.prog 264 [bA b] fun r=>r = .v (.bool (((b.length:Nat):Int) != 8)):=by
 refine zT Tryz.func264 rfl ?_;exact⟨_,ri,rfl⟩
theorem Yk (l:List (List UInt8))  (hl:l.length<=1000000):Fn Tryz.prog 261 [FT l, .v (.func (.func 264) #[] #[])] fun r=>r = iv (Ui (fun b=>(((b.length:Nat):Int) != 8)) l):=by
 refine zT Tryz.func261 rfl ?_;conv=>whnf
 refine zP Nat (fun k=>([(0,FT l),(1, .v (.func (.func 264) #[] #[])),(7,iv l.length),(8,iv k)], [])) (fun k=>k<=l.length/\(l.take k).any (fun b=>(((b.length:Nat):Int) != 8))=false) (fun k=>l.length - k) 0 ⟨Aj _,by simp⟩ ⟨[],tv,tA,tv,rfl,rfl,rfl⟩ ?_;rintro k ⟨hk,hI⟩;conv=>whnf
 refine Am (fun h2=>?_) (fun h2=>?_) <;> simp at h2 <;> conv=>whnf
 ·refine⟨by first | omega | (refine⟨rfl,?_,?_⟩ <;> first | omega | (simp only [Ac];done) | (simp only [Ac];omega)) | (simp only [Ac];omega),?_⟩;conv=>whnf
  refine z_ (Sl (l.getD k [])) ?_;conv=>whnf
  refine Am (fun h3=>?_) (fun h3=>?_) <;> conv=>whnf
  ·exact⟨_,ri,by rw [HK (d:= []) h2 hI (by first | exact h3 | (rw [Aa] at h3;exact h3) | simpa using h3)]⟩
  ·refine⟨k+1,⟨by omega,DN (d:= []) h2 hI (by first | exact h3 | (rw [Aa] at h3;exact h3) | simpa using h3)⟩,by omega, [],tv,⟨rfl,rfl,rfl,AR (by omega),tv⟩,tv,rfl,rfl,rfl⟩
 ·exact⟨_,ri,by rw [Aw h2] at hI;rw [Gx hI]⟩
theorem Yl (l:List (List UInt8))  (hl:l.length<=1000000):Fn Tryz.prog 228 [FT l, .v (.func (.func 264) #[] #[])] fun r=>r = .v (.bool (l.any (fun b=>(((b.length:Nat):Int) != 8)))):=by
 refine zT Tryz.func228 rfl ?_;conv=>whnf
 refine z_ (Yk l  hl) ?_;exact⟨_,ri,by rw [JG]⟩

theorem Jv (l:List (List UInt8)) (hl:l.length<=1000000) (h:∀ b∈l,b.length=8):Fn Tryz.prog 234 [FT l] fun r=>r = .v (.bool true):=by
 have hc:=Yl l hl;have e:(l.any fun b=>(((b.length:Nat):Int) != 8))=false:=by
  rw [List.any_eq_false];intro b hb;rw [h b hb];decide
 rw [e] at hc;refine zT Tryz.func234 rfl ?_;conv=>whnf
 refine z_ hc ?_;exact⟨_,ri,rfl⟩
theorem Sh (b:List UInt8):Fn Tryz.prog 227 [bA b] fun r=>r = .v (.bool ((((b.length:Nat):Int) != 0)&&(((b.length:Nat):Int) != 8))):=by
 refine zT Tryz.func227 rfl ?_;conv=>whnf
 by_cases h:((b.length:Nat):Int)=0
 ·rw [show (((b.length:Nat):Int) != 0)=false from bne_eq_false_iff_eq.2 h];exact⟨_,ri,rfl⟩
 ·rw [show (((b.length:Nat):Int) != 0)=true from bne_iff_ne.2 h];exact⟨_,ri,by rw [B9]⟩
theorem Ya (l:List (List UInt8))  (hl:l.length<=1000000):Fn Tryz.prog 261 [FT l, .v (.func (.func 227) #[] #[])] fun r=>r = iv (Ui (fun b=>((((b.length:Nat):Int) != 0)&&(((b.length:Nat):Int) != 8))) l):=by
 refine zT Tryz.func261 rfl ?_;conv=>whnf
 refine zP Nat (fun k=>([(0,FT l),(1, .v (.func (.func 227) #[] #[])),(7,iv l.length),(8,iv k)], [])) (fun k=>k<=l.length/\(l.take k).any (fun b=>((((b.length:Nat):Int) != 0)&&(((b.length:Nat):Int) != 8)))=false) (fun k=>l.length - k) 0 ⟨Aj _,by simp⟩ ⟨[],tv,tA,tv,rfl,rfl,rfl⟩ ?_;rintro k ⟨hk,hI⟩;conv=>whnf
 refine Am (fun h2=>?_) (fun h2=>?_) <;> simp at h2 <;> conv=>whnf
 ·refine⟨by first | omega | (refine⟨rfl,?_,?_⟩ <;> first | omega | (simp only [Ac];done) | (simp only [Ac];omega)) | (simp only [Ac];omega),?_⟩;conv=>whnf
  refine z_ (Sh (l.getD k [])) ?_;conv=>whnf
  refine Am (fun h3=>?_) (fun h3=>?_) <;> conv=>whnf
  ·exact⟨_,ri,by rw [HK (d:= []) h2 hI (by first | exact h3 | (rw [Aa] at h3;exact h3) | simpa using h3)]⟩
  ·refine⟨k+1,⟨by omega,DN (d:= []) h2 hI (by first | exact h3 | (rw [Aa] at h3;exact h3) | simpa using h3)⟩,by omega, [],tv,⟨rfl,rfl,rfl,AR (by omega),tv⟩,tv,rfl,rfl,rfl⟩
 ·exact⟨_,ri,by rw [Aw h2] at hI;rw [Gx hI]⟩
theorem Yb (l:List (List UInt8))  (hl:l.length<=1000000):Fn Tryz.prog 228 [FT l, .v (.func (.func 227) #[] #[])] fun r=>r = .v (.bool (l.any (fun b=>((((b.length:Nat):Int) != 0)&&(((b.length:Nat):Int) != 8))))):=by
 refine zT Tryz.func228 rfl ?_;conv=>whnf
 refine z_ (Ya l  hl) ?_;exact⟨_,ri,by rw [JG]⟩

@[reducible] def zlH (g:Geo) (t:List Ent) (had:List (List UInt8)):List AB:= [.box 298 [iv g.d,BP t,FT had]]
def FX (L b:List UInt8) (k:Nat):List UInt8:=Hb (L.take k) (b.take k) ++ L.drop k
theorem Td {L b:List UInt8} (h:L.length<=b.length) (k:Nat):(FX L b k).length=L.length:=by
 simp only [FX,Ai,Gg,As,Ak];omega
theorem Te {L b:List UInt8} {k:Nat} (h:k<L.length) (h2:L.length<=b.length):(FX L b k).getD k 0=L.getD k 0:=by
 have e:(Hb (L.take k) (b.take k)).length=k:=by rw [Gg,As,As];omega
 rw [FX,Ab,A9 (by omega),e,CI,BB,C5,<-Ab]
theorem Tc {L b:List UInt8} {k:Nat} (h:k<L.length) (h2:L.length<=b.length):(FX L b k).set k (L.getD k 0 ^^^ b.getD k 0)=FX L b (k+1):=by
 have e:(Hb (L.take k) (b.take k)).length=k:=by rw [Gg,As,As];omega
 have e2:Hb (L.take (k+1)) (b.take (k+1))=Hb (L.take k) (b.take k) ++ [L.getD k 0 ^^^ b.getD k 0]:=by
  rw [Bi,Bi,Ae h,Ae (by omega),Hb,List.zipWith_append (by rw [As,As];omega),Ab,Ab,Ae h,Ae (show k<b.length by omega)];try rfl
 rw [FX,FX,List.set_append_right _ _ (by omega),e,CI,A_ h,e2,A7];try rfl
theorem Tf {L b:List UInt8} (h:L.length=b.length):FX L b L.length=Hb L b:=by
 rw [FX,List.drop_length,AM,Ay,h,Ay]
theorem Sg {l:List UInt8} {k:Nat} (h:k<l.length):(l.map Eo).getD k []=Eo (l.getD k 0):=Bf h
theorem Ul (L b:List UInt8) (h:L.length=b.length) (hl:L.length<=1000000):ACalls Tryz.prog false 263 [.ow 0 L.length,bA b] [.row 5 1 (L.map Eo)] fun r H=>r = .tp []/\H=[.row 5 1 ((Hb L b).map Eo)]:=by
 refine zS tys_ok Tryz.func263 rfl rfl (Ag rfl) ?_;conv=>whnf
 refine zU Nat (fun k=>([(0, .ow 0 L.length),(6,bA b),(7,iv (b.length:Nat)),(8,iv (k:Nat))], [.row 5 1 ((FX L b k).map Eo)])) (fun k=>k<=b.length) (fun k=>b.length - k) 0 (Aj _)
  (zR (s:= [0]) tA) ?_
 intro k hk;conv=>whnf
 refine A6 (fun h6=>?_) (fun h6=>?_) <;> (repeat rw [Aa] at h6) <;> conv=>whnf
 ·have hk':k<b.length:=by omega
  have hml:=Td (L:=L) (b:=b) (by omega) k;repeat' (refine zZ ?_;conv=>whnf)
  refine⟨⟨by omega,by omega⟩,?_⟩;conv=>whnf
  repeat' (refine zZ ?_;conv=>whnf)
  refine⟨⟨by omega,by omega⟩,?_⟩;refine⟨⟨rfl,by rw [Ac,hml],by omega⟩,?_⟩;rw [Aa,Sg (by omega),Te (by omega) (by omega)];refine⟨⟨by omega,by omega⟩,?_⟩;refine⟨⟨rfl,by rw [Ac,hml],by omega⟩,?_⟩;rw [Aa,Sg (by omega)];refine⟨k+1,hk',by omega,zR (s:= [0]) ⟨⟨rfl,rfl,rfl,AR (by omega),tv⟩,⟨?_,tv⟩,rfl,rfl,rfl,rfl,rfl⟩⟩;have e:((FX L b k).map Eo).set k (Eo (L.getD k 0 ^^^ b.getD k 0))=(FX L b (k+1)).map Eo:=by rw [<-C6,Tc (by omega) (by omega)]
  have ex:=Uv (L.getD k 0) (b.getD k 0).toNat (b.getD k 0).toNat_lt;rw [UInt8.ofNat_toNat] at ex;rw [<-e];show some (AB.row _ _ _)=some (AB.row _ _ _);rw [show Eo (L.getD k 0 ^^^ b.getD k 0)=[AV.v (.int .u8 ((L.getD k 0 ^^^ b.getD k 0).toNat:Nat))] from rfl,<-ex]
 ·have ek:k=b.length:=by omega
  subst ek;exact⟨_, .tp [], [.row 5 1 ((Hb L b).map Eo)],fun _ _ h=>h,zR (s:= [0]) ⟨tA,⟨congrArg (fun z=>some (AB.row 5 1 (List.map Eo z))) (show FX L b b.length=Hb L b by rw [<-h];exact Tf h),tv⟩,rfl,rfl,rfl,rfl,rfl⟩,rfl,rfl⟩
theorem Sj (l:List (List UInt8)) (hl:l.length<=1000000) (h:∀ b∈l,b.length=8):Fn Tryz.prog 262 [iv 8,FT l] fun r=>r = .v (.bool true):=by
 refine zT Tryz.func262 rfl ?_;conv=>whnf
 refine zU Nat (fun k=>([(0,iv 8),(7,FT l),(8,iv (l.length:Nat)),(9,iv (k:Nat))], [])) (fun k=>k<=l.length) (fun k=>l.length - k) 0 (Aj _)
  (zR (s:= []) tA) ?_
 intro k hk;conv=>whnf
 refine A6 (fun h6=>?_) (fun h6=>?_) <;> (repeat rw [Aa] at h6) <;> conv=>whnf
 ·have hk':k<l.length:=by omega
  have h8:=h _ (A5 (d:=([]:List UInt8)) hk');repeat' (refine zZ ?_;conv=>whnf)
  refine⟨⟨by omega,by omega⟩,?_⟩;conv=>whnf
  repeat' (refine zZ ?_;conv=>whnf)
  rw [show (((l.getD (k:Int).toNat []).length:Int) != 8)=false from bne_eq_false_iff_eq.2 (by rw [Aa,h8];try rfl)];exact⟨k+1,hk',by omega,zR (s:= []) ⟨⟨rfl,rfl,rfl,AR (by omega),tv⟩,tv,rfl,rfl,rfl,rfl,rfl⟩⟩
 ·exact⟨_,ri,rfl⟩
def FO (l:List (List UInt8)):List UInt8:=l.foldl Hb zero8
theorem xorL_len:∀ (l:List (List UInt8)) (a:List UInt8),a.length=8->(∀ b∈l,b.length=8)->(l.foldl Hb a).length=8
 | [],_,h,_=>h
 | b::l,a,h,hl=>xorL_len l _ (by rw [Gg,h,hl b (by simp)];rfl) fun c hc=>hl c (by simp [hc])
theorem Nx (l:List (List UInt8)) (hl:l.length<=1000000) (h:∀ b∈l,b.length=8):Fn Tryz.prog 230 [FT l,iv 8] fun r=>r = .tp [bA (FO l),iv 0]:=by
 have ha:=Sj l hl h;refine zT Tryz.func230 rfl ?_;conv=>whnf
 refine z_ ha ?_;refine⟨⟨rfl,by decide,by decide⟩,?_⟩;conv=>whnf
 refine zU Nat (fun k=>([(0,FT l),(6, .ow 0 8),(23,FT l),(24,iv (l.length:Nat)),(25,iv (k:Nat))], [.row 5 1 ((FO (l.take k)).map Eo)])) (fun k=>k<=l.length) (fun k=>l.length - k) 0 (Aj _)
  (zR (s:= [0]) tA) ?_
 intro k hk;conv=>whnf
 refine A6 (fun h6=>?_) (fun h6=>?_) <;> (repeat rw [Aa] at h6) <;> conv=>whnf
 ·have hk':k<l.length:=by omega
  have h8:=h _ (A5 (d:=([]:List UInt8)) hk');have hx:(FO (l.take k)).length=8:=xorL_len _ _ rfl fun b hb=>h b (Cf hb)
  have hi:=Ul (FO (l.take k)) (l.getD k []) (by omega) (by omega);rw [hx] at hi;have hs:Hb (FO (l.take k)) (l.getD k [])=FO (l.take (k+1)):=by
   unfold FO;rw [Bi,Cd,Ab,Ae hk'];try rfl
  rw [hs] at hi;repeat' (refine zZ ?_;conv=>whnf)
  refine⟨⟨by omega,by omega⟩,?_⟩;conv=>whnf
  rw [Aa];repeat' (refine zZ ?_;conv=>whnf)
  refine hi.mono ?_;rintro _ _ ⟨rfl,rfl⟩;exact⟨k+1,hk',by omega,zR (s:= [0]) ⟨⟨rfl,rfl,rfl,rfl,AR (by omega),tv⟩,tA,rfl,rfl,rfl,rfl,rfl⟩⟩
 ·have ek:k=l.length:=by omega
  subst ek;have hx:(FO l).length=8:=xorL_len _ _ rfl h;rw [Ay];refine⟨(by rw [Ac,hx]),?_⟩;exact⟨.tp [bA (FO l),iv 0],BL (m:= [bA (FO l),iv 0]) ⟨H9 hx.symm rfl,ri,tv⟩,rfl⟩
theorem P6 (stamp:Int) (b:List UInt8) (hs:0<=stamp/\stamp<=4294967295) (hb:b.length=8):Fn Tryz.prog 236 [iv stamp,bA b] fun r=>r = .tp [.ag (CX ⟨stamp,(CS b:Nat),false⟩),iv 0]:=by
 have h1:=IH b;refine zT Tryz.func236 rfl ?_;conv=>whnf
 rw [show decide (stamp<0)=false from decide_eq_false (by omega)];conv=>whnf
 rw [show decide (stamp > 4294967295)=false from decide_eq_false (by omega)];conv=>whnf
 rw [show ((b.length:Int) != 8)=false from bne_eq_false_iff_eq.2 (by rw [hb];try rfl)];conv=>whnf
 refine z_ h1 ?_;exact⟨_,ri,rfl⟩
theorem VT (l:List Ent) (hl:l.length<=1000000000):ACalls Tryz.prog false 265 [BP l] [] fun r H=>r = .ow 0 l.length/\H=[.row 97 3 (l.map CX)]:=by
 refine z7 tys_ok Tryz.func265 rfl rfl (by show 1<=_;decide) ?_;refine Af (fun h=>?_) ?_
 ·conv=>whnf
  have h0:=AQ.1 h;subst h0;exact⟨_, .ow 0 0, [.row 97 3 []],fun _ _ h=>h,zI ⟨[(0,97,3)],tA,tA,tA,rfl,rfl,rfl⟩,rfl,rfl⟩
 ·refine⟨⟨rfl,by omega⟩,?_⟩;exact⟨.ow 0 l.length, .ow 0 l.length, [.row 97 3 (l.map CX)],fun _ _ h=>by rwa [Az] at h,zI ⟨[],tv,tA,⟨(congrArg (AB.row _ _) (Ho (d:=(⟨0,0,false⟩:Ent)) CX l)).symm,tv⟩,rfl,rfl,rfl⟩,rfl,rfl⟩
theorem St (t:List Ent) (ht:t.length<=1000000):ACalls Tryz.prog false 235 [.ag [BP t]] [] fun r H=>r = .ag [.ow 0 t.length]/\H=[.row 97 3 (t.map CX)]:=by
 have h1:=VT t (by omega);refine zS tys_ok Tryz.func235 rfl rfl (Ag rfl) ?_;conv=>whnf
 refine zW h1 rfl ?_;rintro _ _ ⟨rfl,rfl⟩;exact⟨.ag [.ow 2 t.length], .ag [.ow 0 t.length], [.row 97 3 (t.map CX)],fun _ _ h=>h,zR (s:= [2]) tA,rfl,rfl⟩
section
variable (g:Geo) (t:List Ent) (had:List (List UInt8)) (ats:List Int) (bs:List (List UInt8)) (stamp:Int)
def EU (i:Nat):List Ent:=(List.range i).map (Kt g t had ats bs stamp) ++ t.drop i
theorem Pc {i:Nat} (h:i<=t.length):(EU g t had ats bs stamp i).length=t.length:=by simp [EU];omega
theorem Ll {i:Nat} (h:i<t.length) (e:Ent):(EU g t had ats bs stamp i).set i e=(List.range i).map (Kt g t had ats bs stamp) ++ e::t.drop (i+1):=by
 rw [EU,List.set_append_right _ _ (by simp),Ac,Cc,CI,A_ h];try rfl
theorem Yv {i:Nat} (h:i<t.length):(EU g t had ats bs stamp i).set i (t.getD i ez)=EU g t had ats bs stamp i:=by
 rw [Ll g t had ats bs stamp h,EU,A_ h,Ab,Ae h];try rfl
theorem J8 {i:Nat} (h:i<t.length):(EU g t had ats bs stamp i).set i (Kt g t had ats bs stamp i)=EU g t had ats bs stamp (i+1):=by
 rw [Ll g t had ats bs stamp h,EU,Bh,A0,A7];try rfl
end
inductive TrJ where
 | fin
 | jump (k:Nat)
 | one (i:Nat) (r:TrJ)
 | non
 | alt (i:Nat) (a:TrJ) (r:TrJ)
def TrJ.o (l:List Nat) (t:TrJ):TrJ:=l.foldr .one t
abbrev Seg:=List Nat × Nat × TrJ
def segGet:List Seg->Nat->Option Seg
 | [],_=>none
 | x::_,0=>some x
 | _::r,k+1=>segGet r k
def TrJ.depth (sg:List Seg):TrJ->Nat
 | .fin=>0
 | .jump k=>match segGet sg k with | some s=>s.2.1 | none=>0
 | .one _ r=>r.depth sg+1
 | .non=>0
 | .alt _ a r=>max (a.depth sg+1) (r.depth sg)
def TrJ.alts:TrJ->List Nat
 | .alt i _ r=>i::r.alts
 | _=> []
def eqB:List Bool->List Bool->Bool
 | [], []=>true
 | a::l,b::m=>(a == b)&&eqB l m
 | _,_=>false
theorem eqB_eq:∀ {l m:List Bool},eqB l m=true->l=m
 | [], [],_=>rfl
 | a::l,b::m,h=>by
  simp only [eqB,Ad,beq_iff_eq] at h;rw [h.1,eqB_eq h.2]
 | [],_::_,h=>by simp [eqB] at h
 | _::_, [],h=>by simp [eqB] at h
def eqN:List Nat->List Nat->Bool
 | [], []=>true
 | a::l,b::m=>Nat.beq a b&&eqN l m
 | _,_=>false
theorem eqN_eq:∀ {l m:List Nat},eqN l m=true->l=m
 | [], [],_=>rfl
 | a::l,b::m,h=>by
  simp only [eqN,Ad] at h;rw [Al h.1,eqN_eq h.2]
 | [],_::_,h=>by simp [eqN] at h
 | _::_, [],h=>by simp [eqN] at h
def Ns (n:Nat) (s:List Nat):Array Bool:=s.foldl (fun l i=>l.setIfInBounds i true) (Array.replicate n false)
abbrev Sts:=List (Fr × List AB)
def sget:Sts->Nat->Fr × List AB
 | [],_=>([], [])
 | x::_,0=>x
 | _::r,k+1=>sget r k
section
variable {P:Program} {ops:Array Oper} {B:List Nat} {Q:Exit->Act->World->Prop} {mk:Nat}
def FW (ops:Array Oper) (B:List Nat) (mk:Nat) (sg:List Seg) (me:Nat):TrJ->Bool->Array Bool->Bool
 | .fin,f,l=>f&&(Region.ready .any ops l).isEmpty
 | .jump k,f,l=>f&&Nat.blt me k&&(match segGet sg k with | some s=>eqB l.toList (Ns ops.size s.1).toList | none=>false)
 | .one i r,f,l=>f&&(match ops[i]? with
   | none=>false
   | some o=>match isEff o.op with
    | true=>(match Region.ready .any ops l with | [j]=>Nat.beq i j | _=>false)&&(qM mk i o.op || !IY ops B mk i)
    | false=>match mk.testBit i with
     | true=>(match Region.ready .any ops l with | [j]=>Nat.beq i j | _=>false)&&(qM mk i o.op || !IY ops B mk i)
     | false=>Region.free .any ops l i&&(Region.ready .any ops l).contains i)&&FW ops B mk sg me r true (l.setIfInBounds i true)
 | .non,f,_=>!f
 | .alt i a r,f,l=>(!f || eqN (Region.ready .any ops l) (i::r.alts))&&Kw ops B mk i&&FW ops B mk sg me a true (l.setIfInBounds i true)&&FW ops B mk sg me r false l
def Pd (P:Program) (T:Tys) (n mk:Nat) (ops:Array Oper) (ds:List Nat) (st:Sts) (K:Fr->List AB->Prop):TrJ->Fr->List AB->Prop
 | .fin,fr,H=>K fr H
 | .jump k,fr,H=>canonK ds fr fun l=>l=(sget st k).1/\H=(sget st k).2
 | .one i r,fr,H=>E5 P T n mk ops i fr H fun fr H=>Pd P T n mk ops ds st K r fr H
 | .non,_,_=>True
 | .alt i a r,fr,H=>(E5 P T n mk ops i fr H fun fr H=>Pd P T n mk ops ds st K a fr H)/\Pd P T n mk ops ds st K r fr H
def NP (P:Program) (T:Tys) (n mk:Nat) (ops:Array Oper) (ds:List Nat) (st:Sts) (K:Fr->List AB->Prop):List Seg->Nat->Prop
 | [],_=>True
 | s::r,k=>Pd P T n mk ops ds st K s.2.2 (sget st k).1 (sget st k).2/\NP P T n mk ops ds st K r (k+1)
def Jy (ops:Array Oper) (B:List Nat) (mk:Nat) (sg:List Seg):List Seg->Nat->Bool
 | [],_=>true
 | s::r,k=>FW ops B mk sg k s.2.2 true (Ns ops.size s.1)&&Nat.ble (s.2.2.depth sg) s.2.1&&Jy ops B mk sg r (k+1)
variable {T:Tys} {w0:Fl} {M0:Ms} {n d0:Nat} {ce:Ctx}
theorem Ln {ds:List Nat} {st:Sts} {K:Fr->List AB->Prop}:∀ {sg:List Seg} {k0 k:Nat} {s:Seg},NP P T n mk ops ds st K sg k0->segGet sg k=some s->Pd P T n mk ops ds st K s.2.2 (sget st (k0+k)).1 (sget st (k0+k)).2
 | [],_,_,_,_,h=>by simp [segGet] at h
 | x::r,k0,0,s,h,hs=>by
  simp only [segGet,Option.some.injEq] at hs;subst hs;exact h.1
 | x::r,k0,k+1,s,h,hs=>by
  have:=Ln (k:=k) h.2 hs;rw [show k0+(k+1)=k0+1+k by omega];exact this
theorem KY {sg0:List Seg}:∀ {sg:List Seg} {k0 k:Nat} {s:Seg},Jy ops B mk sg0 sg k0=true->segGet sg k=some s->FW ops B mk sg0 (k0+k) s.2.2 true (Ns ops.size s.1)=true/\s.2.2.depth sg0<=s.2.1
 | [],_,_,_,_,h=>by simp [segGet] at h
 | x::r,k0,0,s,h,hs=>by
  simp only [segGet,Option.some.injEq] at hs;subst hs;simp only [Jy,Ad] at h;exact⟨h.1.1,Ag h.1.2⟩
 | x::r,k0,k+1,s,h,hs=>by
  simp only [Jy,Ad] at h;have:=KY (k:=k) h.2 hs;rw [show k0+(k+1)=k0+1+k by omega];exact this
theorem segGet_lt:∀ {sg:List Seg} {k:Nat} {s:Seg},segGet sg k=some s->k<sg.length
 | [],_,_,h=>by simp [segGet] at h
 | _::_,0,_,_=>by simp
 | _::r,k+1,s,h=>by
  have:=segGet_lt (sg:=r) (k:=k) h;simp;omega
def XZ (P:Program) (T:Tys) (ops:Array Oper) (B:List Nat) (mk n:Nat) (Q:Exit->Act->World->Prop) (w0:Fl) (M0:Ms) (ce:Ctx) (st:Sts) (sg:List Seg) (k:Nat):Prop:=
 ∀ (s:Seg) (m:Nat) (c:Ctx) (a:Act),segGet sg k=some s->s.2.1<=m->Cl ops (Ns ops.size s.1)->HS w0 M0 c (sget st k).2->FR w0 c n (sget st k).1 a->Ext ce c->HeldM P ops B mk Q m (Ns ops.size s.1) a c.w
theorem EV (hT:TOk P T) (hB:F_ ops B=true) (hns:Region.noSelect ops=true) {ds:List Nat} {st:Sts} {sg:List Seg} {K:Fr->List AB->Prop} (hq:∀ a w,DQ w0 M0 ce n K a w->Q .normal a w) (hpan:∀ c a w,¬Q (.panic c) a w) {me:Nat} (hseg:∀ k,me<k->XZ P T ops B mk n Q w0 M0 ce st sg k) :
  ∀ (r:TrJ) (m:Nat) (l:Array Bool) (c:Ctx) (fr:Fr) (H:List AB) (a:Act),Cl ops l->HS w0 M0 c H->FR w0 c n fr a->Ext ce c->Pd P T n mk ops ds st K r fr H->
   (FW ops B mk sg me r true l=true->r.depth sg<=m->HeldM P ops B mk Q m l a c.w)/\
   (FW ops B mk sg me r false l=true->r.depth sg<=m+1->∀ j∈r.alts,j∈Region.ready .any ops l->wpOp P ops Q j (fun a' w'=>(IY ops B mk j=true->Old c.w w')/\HeldM P ops B mk Q m (l.setIfInBounds j true) a' w') a c.w)
 | .fin,m,l,c,fr,H,a,hcl,hs,hf,he,h=>by
  refine⟨fun hd hm=>?_,fun _ _ j hj=>by simp [TrJ.alts] at hj⟩;simp only [FW,B9,List.isEmpty_iff] at hd;cases m with
  | zero=>exact⟨hd,hq _ _ ⟨c,fr,H,rfl,h,hs,hf,he⟩⟩
  | succ m=>exact⟨fun _=>hq _ _ ⟨c,fr,H,rfl,h,hs,hf,he⟩,by rw [hd];simp⟩
 | .jump k,m,l,c,fr,H,a,hcl,hs,hf,he,h=>by
  refine⟨fun hd hm=>?_,fun _ _ j hj=>by simp [TrJ.alts] at hj⟩;simp only [FW,B9,Ad] at hd;simp only [TrJ.depth] at hm;obtain⟨hlt,hd⟩:=hd;cases hg:segGet sg k with
  | none=>rw [hg] at hd;simp at hd
  | some s=>
   rw [hg] at hd hm;simp only at hd hm;have hl:l=Ns ops.size s.1:=Array.ext' (eqB_eq hd);obtain⟨e1,e2⟩:=canonK_iff h;subst hl;refine hseg k (Aq (Nat.lt_succ_self me) (Ag hlt)) s m c a hg hm hcl (e2 ▸ hs) (e1 ▸ hf.canon _) he
 | .non,m,l,c,fr,H,a,hcl,hs,hf,he,h=>by
  refine⟨fun hd hm=>by simp [FW] at hd,fun _ _ j hj=>by simp [TrJ.alts] at hj⟩
 | .alt i x r,m,l,c,fr,H,a,hcl,hs,hf,he,h=>by
  obtain⟨h1,h2⟩:=h;have key:∀ m,TrJ.depth sg (.alt i x r)<=m+1->Kw ops B mk i=true->FW ops B mk sg me x true (l.setIfInBounds i true)=true->i∈Region.ready .any ops l->wpOp P ops Q i (fun a' w'=>(IY ops B mk i=true->Old c.w w')/\HeldM P ops B mk Q m (l.setIfInBounds i true) a' w') a c.w:=by
   intro m hm hk hx hr;simp only [TrJ.depth] at hm;unfold Kw at hk;split at hk
   ·rename_i o ho;refine Fd hT ho hk hs hf he (fun c' fr' H' a' q1 q2 q3 q4=>(EV hT hB hns hq hpan hseg x m _ c' fr' H' a' (hcl.set hr) q1 q2 q3 q4).1 hx (by omega)) h1
   ·cases hk
  refine⟨fun hd hm=>?_,fun hd hm j hj hr=>?_⟩
  ·simp only [FW,Bool.not_true,Bool.false_or,Ad] at hd;obtain⟨⟨⟨hr,hi⟩,hx⟩,hy⟩:=hd;have hr':=eqN_eq hr;cases m with
   | zero=>simp only [TrJ.depth] at hm;omega
   | succ m=>
    refine⟨fun h0=>(by rw [hr'] at h0;cases h0),fun j hj=>?_⟩;have hj0:=hj;rw [hr',Bb] at hj;rcases hj with rfl | hj
    ·exact key m hm hi hx hj0
    ·refine(EV hT hB hns hq hpan hseg r m l c fr H a hcl hs hf he h2).2 hy ?_ j hj hj0;simp only [TrJ.depth] at hm;omega
  ·simp only [FW,Bool.not_false,Bool.true_or,B9,Ad] at hd;obtain⟨⟨hi,hx⟩,hy⟩:=hd;simp only [TrJ.alts,Bb] at hj;rcases hj with rfl | hj
   ·exact key m hm hi hx hr
   ·refine(EV hT hB hns hq hpan hseg r m l c fr H a hcl hs hf he h2).2 hy ?_ j hj hr;simp only [TrJ.depth] at hm;omega
 | .one i r,m,l,c,fr,H,a,hcl,hs,hf,he,h=>by
  refine⟨fun hd hm=>?_,fun _ _ j hj=>by simp [TrJ.alts] at hj⟩;cases m with
  | zero=>simp [TrJ.depth] at hm
  | succ m=>
   simp only [TrJ.depth,Nat.add_le_add_iff_right] at hm;simp only [FW,B9,Ad] at hd;obtain⟨hd1,hd2⟩:=hd;simp only [Pd] at h;cases ho:ops[i]? with
   | none=>rw [ho] at hd1;simp at hd1
   | some o=>
    rw [ho] at hd1;simp only at hd1;have only:(match Region.ready .any ops l with | [j]=>Nat.beq i j | _=>false)=true->(qM mk i o.op || !IY ops B mk i)=true->HeldM P ops B mk Q (m+1) l a c.w:=by
     intro hr hmq;have hr':Region.ready .any ops l=[i]:=by
      split at hr
      ·rename_i j hj;rw [hj,Al hr]
      ·cases hr
     have hri:i∈Region.ready .any ops l:=by rw [hr'];simp
     refine⟨fun h0=>(by rw [hr'] at h0;cases h0),fun j hj=>?_⟩;rw [hr',AF] at hj;subst hj;exact Fd hT ho hmq hs hf he (fun c' fr' H' a' q1 q2 q3 q4=>(EV hT hB hns hq hpan hseg r m _ c' fr' H' a' (hcl.set hri) q1 q2 q3 q4).1 hd2 hm) h
    cases hE:isEff o.op with
    | true=>
     rw [hE] at hd1;simp only [Ad] at hd1;exact only hd1.1 hd1.2
    | false=>
     rw [hE] at hd1;dsimp only at hd1;cases hM:mk.testBit i with
     | true=>
      rw [hM] at hd1;simp only [Ad] at hd1;exact only hd1.1 hd1.2
     | false=>
     rw [hM] at hd1;simp only [Ad] at hd1;obtain⟨hfree,hr⟩:=hd1;have hri:i∈Region.ready .any ops l:=by simpa using hr
     simp only [E5,Ec] at h;rw [show ops.toList[i]? = some o by simpa using ho] at h;simp only at h;have step:∀ v fr2,YieldsIf P ops (fun w'=>pureOp o.op=true\/Old c.w w') o v a->FR w0 c n fr2 (a.put o.dst v)->Pd P T n mk ops ds st K r fr2 H->HeldM P ops B mk Q (m+1) l a c.w:=by
      intro v fr2 hy hf2 h2;exact HeldM.first1 hB ho hM hE (Region.noSelect_spec hns) (fun c a w h=>(hpan _ _ _ h).elim) m l a c.w hcl (Region.free_spec ho hfree) hri hy
       ((EV hT hB hns hq hpan hseg r m _ c fr2 H _ (hcl.set hri) hs hf2 he h2).1 hd2 hm)
     rcases Dw hf h with ⟨hw,fr',hf',h⟩ | ⟨hw,fr',hf',h⟩
     ·unfold Hf at h;rw [hE] at h;obtain⟨rr,v,h1,h2,h3⟩:=(G2 hT hs hf' h).y;obtain⟨fr2,h4,h5⟩:=Ct hf' h3 h1;exact step v fr2 (.inl ⟨hw,h2⟩) h5 h4
     ·obtain⟨fr2,h4,h5⟩:=Ct (v:=undef) hf' (by simp [Rd]) h;exact step undef fr2 (.inr ⟨hw,rfl⟩) h5 h4
theorem KX (hT:TOk P T) (hB:F_ ops B=true) (hns:Region.noSelect ops=true) {ds:List Nat} {st:Sts} {sg:List Seg} {K:Fr->List AB->Prop} (hq:∀ a w,DQ w0 M0 ce n K a w->Q .normal a w) (hpan:∀ c a w,¬Q (.panic c) a w) (hok:Jy ops B mk sg sg 0=true) (h:NP P T n mk ops ds st K sg 0):∀ (z k:Nat),sg.length<=z+k->XZ P T ops B mk n Q w0 M0 ce st sg k
 | 0,k,hz,s,m,c,a,hg,_,_,_,_,_=>by
  have:=segGet_lt hg;omega
 | z+1,k,hz,s,m,c,a,hg,hm,hcl,hs,hf,he=>by
  obtain⟨h1,h2⟩:=KY hok hg;have h3:=Ln h hg;rw [Az] at h1 h3;exact(EV hT hB hns hq hpan (fun k' hk'=>KX hT hB hns hq hpan hok h z k' (by omega)) s.2.2 m _ c _ _ a hcl hs hf he h3).1 h1 (by omega)
def XX (ops:Array Oper) (mk:Nat) (sg:List Seg):Bool:=F_ ops (JO ops)&&Region.noSelect ops&&(match sg with | ([],d,_)::_=>Nat.ble d ops.size | _=>false)&&Jy ops (JO ops) mk sg sg 0
theorem aDraw.dag (mk:Nat) (hT:TOk P T) (hm:P.follows .mixedOrders=true) {id:Nat} {K:Fr->List AB->Prop} {fr:Fr} {H:List AB} (sg:List Seg) (ds:List Nat) (st:Sts) {F:Fr} {H2:List AB} (hok:XX ops mk sg=true)
  (h:NP P T n mk ops (ds ++ slots fr) ((fr,H)::st) (fun fr' H'=>canonK (ds ++ slots fr) fr' fun l=>l=F/\H'=H2) sg 0) (hk:K F H2):aDraw P T n d0 id ops K fr H:=by
 simp only [XX,Ad] at hok;obtain⟨⟨⟨hB,hns⟩,hlen⟩,hok⟩:=hok;refine⟨fun w0 M0 ce c a hs hf he hd Q hQ=>?_⟩;refine wp_mono (Q:=fun e a w=>e = .normal/\DQ w0 M0 ce n (fun fr' H'=>canonK (ds ++ slots fr) fr' fun l=>l=F/\H'=H2) a w) ?_ ?_
 ·refine wp_region_any hm (HeldM.any (B:=JO ops) (mk:=mk) _ _ _ _ ?_);have hb:=(Below.refl c.w.heap.size c.w).drew;obtain⟨h1,h2⟩:=hs.grow hb;have hcl:Cl ops (Array.replicate ops.size false):=by
   intro j o hj hlj;rcases BU j ops.size with h' | h'
   ·simp [h'] at hlj
   ·simp [BH h'] at hj
  cases sg with
  | nil=>simp at hlen
  | cons s sg=>
   obtain⟨s1,d,tr⟩:=s;cases s1 with
   | cons _ _=>simp at hlen
   | nil=>
    exact KX (w0:=w0) (M0:=M0) (ce:=ce) (st:=(fr,H)::st) hT hB hns (fun a w hl=>⟨rfl,hl⟩) (fun c a w h=>by cases h.1) hok h _ 0 (Ah _) ([],d,tr) _ { c with w:=c.w.drew } a rfl (Ag hlen) hcl h1 (hf.ext h2) (he.trans h2)
 ·rintro e a w ⟨rfl,c',fr',H',rfl,h1,h2,h3,h4⟩;obtain⟨e1,rfl⟩:=canonK_iff h1;exact hQ c' F H' a hk h2 (e1 ▸ h3.canon _) h4
end
theorem Vt {d:Dk} (hd:DkOk d) (hl:d.left<0) (k:Nat):Lv d k:=⟨hd.r, .inl hl⟩
theorem O2 (k:Nat) (d:Dk) (l:List Int):B3 (d.tick k) l=B3 d l:=rfl
theorem finL_two:∀ (l:List Wr) (cs:List Cel) (a:Nat),((CH cs l).getD a cz).state=2↔(cs.getD a cz).state=2:=fun l cs a=>by
 by_cases ha:a<cs.length
 ·by_cases h:(cs.getD a cz).state=2
  ·rw [finL_stuck l cs a ha h]
  ·rcases finL_any l cs a ha with e | ⟨_,e,_⟩
   ·rw [e]
   ·rw [e];exact⟨fun q=>absurd q (by decide),fun q=>absurd q h⟩
 ·rw [Ab,Ab,AH (by rw [finL_len];omega),AH (by omega)]
theorem VD (l:List Wr) (cs:List Cel):free (CH cs l)=free cs:=by
 funext w;unfold free;rw [Dt,decide_eq_true_eq,decide_eq_true_eq];exact not_congr (finL_two l cs _)
def Pi (g:Geo) (w:List Wr):Nat:=g.an.toNat+2*g.sl.toNat+(if w=[] then 0 else w.length+1)+(g.an.toNat+1)
theorem Pj {g:Geo} {d:Dk} {a:An} {j:Nat} {L:List Tx} {w:List Wr} (hg:Bq g=true) (hd:DkOk d) (hn:(d.cells.length:Int)=A4 g) (hc:d.cache=[]) (hl:d.left<0) (hp:Gl g (B3 d (Dn g))=some (a,j)) (hs:DS g a (B3 d (BS g 0)) (B3 d (BS g 1))=(L,w,0)) (h1:a.gen≠4294967295) (h2:a.epoch≠4294967295) :
  C_ g d=(⟨CH (CH d.cells w) (Bg g (D9 a L.length)), [],(d.tick (Pi g w)).reqs,d.left⟩,if ((Bg g (D9 a L.length)).filter (free d.cells)).length=0 then 14 else 0,if ((Bg g (D9 a L.length)).filter (free d.cells)).length=0 then st0 else Bt (D9 a L.length) L):=by
 obtain⟨g1,g2,g3,g4,g5⟩:=Ar.1 hg;have hao:=IT hg _ hp;have hin:=KZ (x:=B3 d (BS g 0)) (y:=B3 d (BS g 1)) (n:=d.cells.length) hg hao (by rw [DM,EZ];omega) (by rw [DM,EZ];omega) hn;rw [hs] at hin;obtain⟨hw1,hw2⟩:=hin rfl;simp only at hw1 hw2;have hlv:∀ k,d.live k:=fun k=> .inl hl
 have htl:∀ k,(d.tick k).left=d.left:=fun k=>if_pos hl
 have hr:=hd.r;unfold C_;rw [if_pos (hlv _),hp];simp only;unfold Ir;rw [LZ _ (Vt hd hl _),if_pos (show (d.tick g.an.toNat).live _ from .inl (by rw [htl];exact hl)),O2,O2,hs];rw [LZ _ (show Lv (d.tick g.an.toNat) (2*g.sl.toNat) from IG (Vt hd hl _)),Gi _ _ hr.2 (.inl hl)];unfold Lw;simp only [ne_eq,not_true,if_false];have hm:(d.tick (g.an.toNat+2*g.sl.toNat)).mend w=(⟨CH d.cells w, [],(d.tick (g.an.toNat+2*g.sl.toNat+(if w=[] then 0 else w.length+1))).reqs,d.left⟩,false):=by
  unfold Dk.mend;by_cases hw:w=[]
  ·subst hw;rw [if_pos rfl,if_pos rfl,C5];simp only [Prod.mk.injEq,and_true];show (d.tick _:Dk)=_;unfold Dk.tick;rw [hc,if_pos hl];try rfl
  ·rw [if_neg hw,if_neg hw,IS (IG (Vt hd hl _)) hc (by omega),Gi _ _ hr.2 (.inl hl)];simp only [htl];rfl
 rw [hm];simp only [Cv,if_false];unfold Lu;rw [if_neg (by rintro(h | h);exact h1 h;exact h2 h)];obtain⟨K,hK⟩:∃ K,K=g.an.toNat+2*g.sl.toNat+(if w=[] then 0 else w.length+1):=⟨_,rfl⟩;rw [<-hK];have hrk:0<=(d.tick K).reqs/\(d.tick K).reqs<=1048576:=by show 0<=min _ _/\min _ _<=_;omega
 have hlen:=Fw g (D9 a L.length);rw [IS (d:=⟨CH d.cells w, [],(d.tick K).reqs,d.left⟩) ⟨hrk, .inl hl⟩ rfl (by omega)];simp only [Cv,if_false,VD,hlen];have e1:((⟨CH d.cells w, [],(d.tick K).reqs,d.left⟩:Dk).tick (g.an.toNat+1)).left=d.left:=if_pos hl;have e2:((⟨CH d.cells w, [],(d.tick K).reqs,d.left⟩:Dk).tick (g.an.toNat+1)).reqs=(d.tick (Pi g w)).reqs:=by
  show min ((d.tick K).reqs+((g.an.toNat+1:Nat):Int)) _=min _ _;show min (min (d.reqs+(K:Nat)) 1048576+((g.an.toNat+1:Nat):Int)) 1048576=min (d.reqs+(Pi g w:Nat)) 1048576;unfold Pi;rw [<-hK];omega
 rw [e1,e2];split <;> rfl
theorem Lk (g:Geo) (l:List Gt):∀ k,(EN g l k=none->∀ i,i<k->Ex g (l.getD i ⟨0, []⟩) (i:Nat)=none)/\∀ a j,EN g l k=some (a,j)->j<k/\Ex g (l.getD j ⟨0, []⟩) (j:Nat)=some a/\∀ i b,i<k->Ex g (l.getD i ⟨0, []⟩) (i:Nat)=some b->b.gen<=a.gen
 | 0=>⟨fun _ i hi=>by omega,fun a j h=>by cases h⟩
 | k+1=>by
  obtain⟨ih1,ih2⟩:=Lk g l k;rw [In,OW];cases hS:Ex g (l.getD k ⟨0, []⟩) (k:Nat) with
  | none=>
   refine⟨fun h i hi=>?_,fun a j h=>?_⟩
   ·by_cases e:i=k
    ·rw [e];exact hS
    ·exact ih1 h i (by omega)
   ·obtain⟨q1,q2,q3⟩:=ih2 a j h;refine⟨by omega,q2,fun i b hi hb=>?_⟩;by_cases e:i=k
    ·rw [e,hS] at hb;cases hb
    ·exact q3 i b (by omega) hb
  | some c=>
   cases hP:EN g l k with
   | none=>
    refine⟨fun h=>(by cases h),fun a j h=>?_⟩;cases h;refine⟨by omega,hS,fun i b hi hb=>?_⟩;by_cases e:i=k
    ·rw [e,hS] at hb;cases hb;exact C7 _
    ·rw [ih1 hP i (by omega)] at hb;cases hb
   | some q=>
    obtain⟨a0,j0⟩:=q;obtain⟨q1,q2,q3⟩:=ih2 a0 j0 hP;simp only;by_cases hlt:a0.gen<c.gen
    ·rw [if_pos hlt];refine⟨fun h=>(by cases h),fun a j h=>?_⟩;cases h;refine⟨by omega,hS,fun i b hi hb=>?_⟩;by_cases e:i=k
     ·rw [e,hS] at hb;cases hb;exact C7 _
     ·have:=q3 i b (by omega) hb;omega
    ·rw [if_neg hlt];refine⟨fun h=>(by cases h),fun a j h=>?_⟩;cases h;refine⟨by omega,q2,fun i b hi hb=>?_⟩;by_cases e:i=k
     ·rw [e,hS] at hb;cases hb;omega
     ·exact q3 i b (by omega) hb
theorem Ru {g:Geo} {d:Dk} {i:Nat} (hi:i<g.an.toNat):(B3 d (Dn g)).getD i ⟨0, []⟩=To d (i:Nat):=by
 rw [B3,Bf (d:=0) (by rw [Ff];exact hi),Nu hi]
theorem Qr {g:Geo} {a:An} {i:Nat} (hg:Bq g=true) (ha:Bv g a=true) (hi:(i:Int)<=65535):Ex g ⟨0,Dg a i⟩ i=some a:=by
 obtain⟨e1,e2,e3,e4⟩:=Jz (Nt hg ha (i:=(i:Nat)) ⟨by omega,hi⟩);unfold Ex;rw [if_pos ⟨rfl,e1,e2⟩];show (match EM g (Cz (Dg a i)) with | some a_1=>if a_1.gen=Cj (Dg a i) then some a_1 else none | none=>none)=_;rw [show Cz (Dg a i)=LY a from e4,SK hg ha,show Cj (Dg a i)=a.gen from e3];simp
section
variable {g:Geo} {a:An} {fill:UInt8} {sizes:List Int}
end
theorem SX {g:Geo} {c c' s s':Int} (hc:c=0\/c=1) (hc':c'=0\/c'=1) (hs:0<=s/\s<g.sl) (hs':0<=s'/\s'<g.sl) (h:AU g c s=AU g c' s'):c=c'/\s=s':=by
 unfold AU at h;rcases hc with rfl | rfl <;> rcases hc' with rfl | rfl <;> omega
theorem Hu {g:Geo} {c s:Int} (hc:c=0\/c=1) (hs:0<=s/\s<g.sl):g.an<=AU g c s/\AU g c s<g.an+2*g.sl:=by
 unfold AU;rcases hc with rfl | rfl <;> omega
section
variable {g:Geo} {s:ByteArray} {a:An} {fill:UInt8} {sizes:List Int}
theorem Jl {b:An} (hg:Bq g=true) (hb:Bv g b=true) (i:Int):(Dg b i).length<=200:=by
 have:=JP hg hb;rw [Dg,EQ];omega
end
theorem K3 {cs:List Cel} {n:Nat} (h:cs.length=n) {k:Nat} (hk:k<n):(cs.map B5).getD k []=B5 (cs.getD k cz):=Bf (by omega)
theorem WL {g:Geo} (hg:Bq g=true):FB g (E4 g)=true:=by
 obtain⟨g1,g2,g3,g4,g5⟩:=Ar.1 hg;have hz:=H8 zero8;simp only [FB,hg,E4,BC,Ad,decide_eq_true_eq,B9];refine⟨⟨by omega,?_⟩,?_⟩
 ·rw [Av];intro e he;rw [CK he];simp [DD,ent0,Hr,C2];exact decide_eq_true (by omega)
 ·have:Gf (List.replicate (g.d+1).toNat ent0) g.d.toNat=false:=by
   unfold Gf;rw [CN (by omega)];try rfl
  rw [this];try rfl
theorem U0 {g:Geo} (hg:Bq g=true) {a:Int} (ha:0<=a/\a<=65535):WC a 0 (CL (E4 g)):=by
 obtain⟨g1,g2,g3,g4,g5⟩:=Ar.1 hg;refine⟨ha.1,ha.2,C7 _,by decide,?_⟩;rw [E3,E4,BC];omega
section
variable {g:Geo} {s:ByteArray} {a b:An} {fill:UInt8} {sizes:List Int} {d:Dk}
theorem QS {F:Int->List UInt8} {n:Int} (h:Holds d n F) (l:List Int) (hl:∀ x∈l,0<=x/\x<n):B3 d l=l.map fun x=>⟨0,F x⟩:=by
 unfold B3;refine Cn fun x hx=>?_
 exact h.got (hl x hx).1 (hl x hx).2
theorem SW (hg:Bq g=true) {c:Int} (hc:c=0\/c=1):∀ x∈BS g c,0<=x/\x<A4 g:=fun x hx=>by
 obtain⟨g1,g2,g3,g4,g5⟩:=Ar.1 hg;have hcg:=D_ hg;simp only [BS,AK,AO] at hx;obtain⟨i,hi,rfl⟩:=hx;have:=Hu (g:=g) hc (s:=(i:Nat)) (by omega);omega
theorem Tj {F:Int->List UInt8} (hg:Bq g=true) {c:An} (h:Holds d (A4 g) F) {r:Int} {l:Int}:Holds ⟨CH d.cells (Bg g c), [],r,l⟩ (A4 g) (fun x=>if x<g.an then Dg c x else F x):=by
 obtain⟨g1,g2,g3,g4,g5⟩:=Ar.1 hg;have hcg:=D_ hg;refine⟨by rw [<-h.len];show ((CH d.cells _).length:Int)=_;rw [finL_len],rfl,fun x h0 h1=>?_⟩;obtain⟨e1,e2⟩:=h.cell x h0 h1;have hlt:x.toNat<d.cells.length:=by have:=h.len;omega
 show ((CH d.cells _).getD x.toNat cz).state=0/\((CH d.cells _).getD x.toNat cz).bytes=_;have hmem:∀ w∈Bg g c,∃ i:Nat,i<g.an.toNat/\w=⟨(i:Nat),Dg c (i:Nat)⟩:=fun w hw=>by
  simp only [Bg,AK,AO] at hw;obtain⟨i,hi,rfl⟩:=hw;exact⟨i,hi,rfl⟩
 by_cases hx:x<g.an
 ·rw [if_pos hx];refine LO _ _ _ hlt (by rw [e1];decide) (fun w hw hwa=>?_) (.inl ⟨⟨x,Dg c x⟩,?_,rfl⟩)
  ·obtain⟨i,hi,rfl⟩:=hmem w hw;have:((i:Nat):Int).toNat=x.toNat:=hwa;show Dg c (i:Nat)=_;congr 1;omega
  ·simp only [Bg,AK,AO];exact⟨x.toNat,by omega,by rw [BZ h0]⟩
 ·rw [if_neg hx,finL_miss _ _ _ hlt (fun w hw e=>?_)]
  ·exact⟨e1,e2⟩
  ·obtain⟨i,hi,rfl⟩:=hmem w hw;have:((i:Nat):Int).toNat=x.toNat:=e;omega
theorem VE {n:Int} {F:Int->List UInt8} (h:Holds d n F) (l:List Wr) (hl:∀ w∈l,0<=w.addr/\w.addr<n):l.filter (free d.cells)=l:=by
 rw [List.filter_eq_self];intro w hw;unfold free;rw [(h.cell w.addr (hl w hw).1 (hl w hw).2).1];try rfl
end



theorem OL (g:Geo) (s:ByteArray) (hg:Bq g=true) (hs:FF s.data.toList=0):ACalls Tryz.prog false 57 [.ag (Ba g), .v (.string s)] [] fun r H=>r = .ag [.ow 0 (A4 g).toNat,nilV,ze 0,ze (-1)]/\H=[.row 128 3 ((GO g s).cells.map B5)]:=by
 obtain⟨g1,g2,g3,g4,g5⟩:=Ar.1 hg;have hcg:=D_ hg;have hp:=GD hg;have hN:1<=(A4 g).toNat/\(A4 g).toNat<=300:=by
  have:g.z*CG g<=4*7:=Int.mul_le_mul (by omega) (by omega) (by omega) (by omega);unfold A4 at hcg |-
  omega
 have hcN:A4 g=((A4 g).toNat:Int):=by omega
 have hao:=Ng hg hs;have hA:=VO g s hg;have hC:=Q9 g hg;rw [hcN] at hC;have hD:=UP (A4 g).toNat hN;refine zS tys_ok Tryz.func57 rfl rfl (Ag rfl) ?_;conv=>whnf
 refine z_ hC ?_;conv=>whnf
 refine zW hD rfl ?_;rintro _ _ ⟨rfl,rfl⟩;conv=>whnf
 refine z_ hA ?_;conv=>whnf
 refine zU Nat (fun k=>([(2, .bp 0 0),(4, .bp 1 0),(5, .bp 2 0),(6, .bp 3 0),(7,ze k)], [.box 23 (Ba g), .box 43 [nilV,nilV,ze 0,ze 0], .box 43 [.ow 4 (A4 g).toNat,nilV,ze 0,ze (-1)], .box 33 (EJ (B_ g s)), .row 128 3 ((Ed (I0 g) ((Bg g (B_ g s)).take k)).map B5)])) (fun k=>k<=g.an.toNat) (fun k=>g.an.toNat - k) 0 (Aj _)
  ?_ ?_
 ·refine zC (zK (z8 (k:=2) rfl (es':=(I0 g).map B5) (by simp [I0]) fun i=>?_)) (s:= [0,1,3,4,2]) tA;rw [I0,List.map_replicate];by_cases hi:i<(A4 g).toNat
  ·rw [L9 hi,L9 hi];exact⟨fun _ _ h=>h,Bn 1 _,Bn 1 _,tv⟩
  ·rw [Ab,Ab,AH (by simpa using hi),AH (by simpa using hi)];exact SubL.refl _
 ·intro k hk;conv=>whnf
  refine A6 (fun h6=>?_) (fun h6=>?_) <;> (repeat rw [Aa] at h6) <;> conv=>whnf
  ·have hk':k<(Bg g (B_ g s)).length:=by rw [Fw];omega
   have hsx:=HP (I0 g) hk';rw [Ko (by omega)] at hsx;have hlx:(Ed (I0 g) ((Bg g (B_ g s)).take k)).length=(A4 g).toNat:=by rw [EG,LE]
   generalize Ed (I0 g) ((Bg g (B_ g s)).take k)=cs at hsx hlx |-
   have hnc:=Lj g (B_ g s) k hg hao (by omega);have hE:(cs.map B5).getD (k:Int).toNat []=B5 (cs.getD (k:Int).toNat cz):=K3 hlx (by omega);repeat' (refine zZ ?_;conv=>whnf)
   apply zV (0) tys_ok mixed (.o [0,1,2,3,4,5,6,7,8] .fin) (by kernel_rfl);conv=>whnf
   refine z_ hnc ?_;conv=>whnf
   try (refine tI ?_;conv=>whnf)
   try (refine tS ?_;conv=>whnf)
   (first | rw [hE] | skip)
   conv=>whnf
   all_goals exact⟨k+1,by omega,by omega,zR (s:= [0,1,2,3,4]) ⟨⟨rfl,rfl,rfl,rfl,AR (by omega),tv⟩,⟨rfl,rfl,rfl,rfl,congrArg (fun l=>some (AB.row _ _ l)) (by rw [hsx,Je];try rfl),tv⟩,rfl,rfl,rfl,rfl,rfl⟩⟩
  ·have ek:k=(Bg g (B_ g s)).length:=by rw [Fw];omega
   rw [ek,Ay];repeat' (refine zZ ?_;conv=>whnf)
   refine zU Nat (fun c=>([(2, .bp 0 0),(4, .bp 1 0),(5, .bp 2 0),(6, .bp 3 0),(8,ze c)], [.box 23 (Ba g), .box 43 [nilV,nilV,ze 0,ze 0], .box 43 [.ow 4 (A4 g).toNat,nilV,ze 0,ze (-1)], .box 33 (EJ (B_ g s)), .row 128 3 ((N_ g s c).map B5)])) (fun c=>c<=2) (fun c=>2 - c) 0 (Aj _)
    (zR (s:= [0,1,2,3,4]) tA) ?_
   intro c hc;conv=>whnf
   refine A6 (fun h7=>?_) (fun h7=>?_) <;> (repeat rw [Aa] at h7) <;> conv=>whnf
   ·have hc01:(c:Int)=0\/(c:Int)=1:=by omega
    repeat' (refine zZ ?_;conv=>whnf)
    refine zU Nat (fun i=>([(2, .bp 0 0),(4, .bp 1 0),(5, .bp 2 0),(6, .bp 3 0),(8,ze c),(9,ze i)], [.box 23 (Ba g), .box 43 [nilV,nilV,ze 0,ze 0], .box 43 [.ow 4 (A4 g).toNat,nilV,ze 0,ze (-1)], .box 33 (EJ (B_ g s)), .row 128 3 ((Ed (N_ g s c) ((GJ g c).take i)).map B5)])) (fun i=>i<=g.sl.toNat) (fun i=>g.sl.toNat - i) 0 (Aj _)
     (zR (s:= [0,1,2,3,4]) tA) ?_
    intro i hi;conv=>whnf
    refine A6 (fun h8=>?_) (fun h8=>?_) <;> (repeat rw [Aa] at h8) <;> conv=>whnf
    ·have hlw:(GJ g c).length=g.sl.toNat:=by simp [GJ]
     have hi':i<(GJ g c).length:=by omega
     have hsx:=HP (N_ g s c) hi';rw [show (GJ g c).getD i ⟨0, []⟩=⟨AU g c (i:Nat),BV g zeroC c (i:Nat)⟩ from J5 (by omega)] at hsx;have hlx:(Ed (N_ g s c) ((GJ g c).take i)).length=(A4 g).toNat:=by rw [EG,LD]
     generalize Ed (N_ g s c) ((GJ g c).take i)=cs at hsx hlx |-
     have hokl:Hp g c i=true:=by simp only [Hp,Ad,AD];omega
     have hla:=Dd g c i hg hokl;have hin:=DY (n:=(A4 g).toNat) hg hcN.symm hc01 (s:=i) (by omega);have hrc:=IN g zeroC c i (HH hg) hokl;have hE:(cs.map B5).getD (AU g c i).toNat []=B5 (cs.getD (AU g c i).toNat cz):=K3 hlx (by omega);repeat' (refine zZ ?_;conv=>whnf)
     apply zV (0) tys_ok mixed (.o [0,1,2,3,4,6,7,8,9,5,10,11,12,13] .fin) (by kernel_rfl);conv=>whnf
     refine z_ hla ?_;conv=>whnf
     (refine zY [.ag (Ba g), .ag (FQ zeroC),ze c,ze i] (by repeat' (first | exact trivial | exact fun _ _ h=>h | exact Bn _ _ | refine Af ?_ ?_ | refine Bk ?_)) ?_;refine z_ hrc ?_)
     conv=>whnf
     try (refine tI ?_;conv=>whnf)
     try (refine tS ?_;conv=>whnf)
     (first | rw [hE] | skip)
     conv=>whnf
     all_goals exact⟨i+1,by omega,by omega,zR (s:= [0,1,2,3,4]) ⟨⟨rfl,rfl,rfl,rfl,rfl,AR (by omega),tv⟩,⟨rfl,rfl,rfl,rfl,congrArg (fun l=>some (AB.row _ _ l)) (by rw [hsx,Je];try rfl),tv⟩,rfl,rfl,rfl,rfl,rfl⟩⟩
    ·have ei:i=(GJ g c).length:=by simp [GJ];omega
     repeat' (refine zZ ?_;conv=>whnf)
     exact⟨c+1,by omega,by omega,zR (s:= [0,1,2,3,4]) ⟨⟨rfl,rfl,rfl,rfl,AR (by omega),tv⟩,⟨rfl,rfl,rfl,rfl,by rw [ei,Ay];try rfl,tv⟩,rfl,rfl,rfl,rfl,rfl⟩⟩
   ·have ec:c=2:=by omega
    subst ec;have hT:=WM g hg;have hz8:=H8 zero8;have hB:=WK (E4 g) (by rw [E4,BC];omega) (fun e he=>by rw [CK he];simp only [ent0];omega);repeat' (refine zZ ?_;conv=>whnf)
    refine z_ hT ?_;conv=>whnf
    refine z_ hB ?_;conv=>whnf
    repeat' (refine zZ ?_;conv=>whnf)
    refine zU Nat (fun z=>([(2, .bp 0 0),(4, .bp 1 0),(5, .bp 2 0),(10,bA (CL (E4 g))),(11,ze z)], [.box 23 (Ba g), .box 43 [nilV,nilV,ze 0,ze 0], .box 43 [.ow 4 (A4 g).toNat,nilV,ze 0,ze (-1)], .box 33 (EJ (B_ g s)), .row 128 3 ((GP g s z).map B5)])) (fun z=>z<=g.z.toNat) (fun z=>g.z.toNat - z) 0 (Aj _)
     (zR (s:= [0,1,2,3,4]) tA) ?_
    intro z hz;conv=>whnf
    refine A6 (fun h9=>?_) (fun h9=>?_) <;> (repeat rw [Aa] at h9) <;> conv=>whnf
    ·have htb:∀ k:Nat,k<2->0<=By g z k/\By g z k<((A4 g).toNat:Int):=fun k hk=>by unfold By;omega
     have hmul:(z:Int)*CG g<=(g.z - 1)*CG g:=Ci (by omega) (by omega);have hz0:0<=(z:Int)*CG g:=CO (by omega) (by omega);have hsb:∀ k:Nat,(k:Int)<CG g->0<=Cs g z k/\Cs g z k<((A4 g).toNat:Int):=fun k hk=>by
      rw [<-hcN];unfold Cs A4;rw [Int.sub_mul,Int.one_mul] at hmul;omega
     repeat' (refine zZ ?_;conv=>whnf)
     refine zU Nat (fun k=>([(2, .bp 0 0),(4, .bp 1 0),(5, .bp 2 0),(10,bA (CL (E4 g))),(11,ze z),(12,ze k)], [.box 23 (Ba g), .box 43 [nilV,nilV,ze 0,ze 0], .box 43 [.ow 4 (A4 g).toNat,nilV,ze 0,ze (-1)], .box 33 (EJ (B_ g s)), .row 128 3 ((Ed (GP g s z) ((HU g z).take k)).map B5)])) (fun k=>k<=2) (fun k=>2 - k) 0 (Aj _)
      (zR (s:= [0,1,2,3,4]) tA) ?_
     intro k hk;conv=>whnf
     refine A6 (fun h10=>?_) (fun h10=>?_) <;> (repeat rw [Aa] at h10) <;> conv=>whnf
     ·have hlw:(HU g z).length=2:=by simp [HU]
      have hk':k<(HU g z).length:=by omega
      have hsx:=HP (GP g s z) hk';rw [show (HU g z).getD k ⟨0, []⟩=⟨By g z (k:Nat),CA (By g z (k:Nat)) 0 (CL (E4 g))⟩ from J5 (by omega)] at hsx;have hlx:(Ed (GP g s z) ((HU g z).take k)).length=(A4 g).toNat:=by rw [EG,Gz]
      generalize Ed (GP g s z) ((HU g z).take k)=cs at hsx hlx |-
      have hgt:=S4 g z k hg (by omega) (by omega);have hin:=htb k (by omega);have hmk:=HG (By g z k) 0 (CL (E4 g)) (U0 hg (by omega));have hE:(cs.map B5).getD (By g z k).toNat []=B5 (cs.getD (By g z k).toNat cz):=K3 hlx (by omega);repeat' (refine zZ ?_;conv=>whnf)
      refine z_ hgt ?_;conv=>whnf
      apply zV (0) tys_ok mixed (.o [0,1,2,3,4,5,6,7,8] .fin) (by kernel_rfl);conv=>whnf
      refine z_ hmk ?_;conv=>whnf
      try (refine tI ?_;conv=>whnf)
      try (refine tS ?_;conv=>whnf)
      (first | rw [hE] | skip)
      conv=>whnf
      all_goals exact⟨k+1,by omega,by omega,zR (s:= [0,1,2,3,4]) ⟨⟨rfl,rfl,rfl,rfl,rfl,AR (by omega),tv⟩,⟨rfl,rfl,rfl,rfl,congrArg (fun l=>some (AB.row _ _ l)) (by rw [hsx,Je];try rfl),tv⟩,rfl,rfl,rfl,rfl,rfl⟩⟩
     ·have ek:k=(HU g z).length:=by simp [HU];omega
      rw [ek,Ay];have hpr:=ND g hg;repeat' (refine zZ ?_;conv=>whnf)
      refine zU Nat (fun i=>([(2, .bp 0 0),(4, .bp 1 0),(5, .bp 2 0),(10,bA (CL (E4 g))),(11,ze z),(14,ze i)], [.box 23 (Ba g), .box 43 [nilV,nilV,ze 0,ze 0], .box 43 [.ow 4 (A4 g).toNat,nilV,ze 0,ze (-1)], .box 33 (EJ (B_ g s)), .row 128 3 ((Ed (Ed (GP g s z) (HU g z)) ((GX g z).take i)).map B5)])) (fun i=>i<=(CG g).toNat) (fun i=>(CG g).toNat - i) 0 (Aj _)
       (zR (s:= [0,1,2,3,4]) tA) ?_
      intro i hi;conv=>whnf
      refine z_ hpr ?_;conv=>whnf
      refine A6 (fun h11=>?_) (fun h11=>?_) <;> (repeat rw [Aa] at h11) <;> conv=>whnf
      ·have hlw:(GX g z).length=(CG g).toNat:=by simp [GX]
       have hi':i<(GX g z).length:=by omega
       have hsx:=HP (Ed (GP g s z) (HU g z)) hi';rw [show (GX g z).getD i ⟨0, []⟩=⟨Cs g z (i:Nat),CA (Cs g z (i:Nat)) 0 zero8⟩ from J5 (by omega)] at hsx;have hlx:(Ed (Ed (GP g s z) (HU g z)) ((GX g z).take i)).length=(A4 g).toNat:=by rw [EG,EG,Gz]
       generalize Ed (Ed (GP g s z) (HU g z)) ((GX g z).take i)=cs at hsx hlx |-
       have hgt:=UJ g z i hg (by omega) (by omega);have hin:=hsb i (by omega);have hmk:=HG (Cs g z i) 0 zero8 ⟨hin.1,by omega,C7 _,by decide,by decide⟩;have hE:(cs.map B5).getD (Cs g z i).toNat []=B5 (cs.getD (Cs g z i).toNat cz):=K3 hlx (by omega);repeat' (refine zZ ?_;conv=>whnf)
       refine z_ hgt ?_;conv=>whnf
       apply zV (0) tys_ok mixed (.o [0,1,2,3,4,5,6,7,8] .fin) (by kernel_rfl);conv=>whnf
       (try (refine Af ⟨rfl,by decide,by decide⟩ ?_;conv=>whnf);refine zQ hmk.go ?_;(conv=>whnf);refine Af rfl ?_;(conv=>whnf);refine zY [ze (Cs g z i),ze 0,bA zero8] ⟨ri,ri,fun c v h=>zH rfl (fun i hi=>by have hi':i<8:=hi;rw [L9 (by exact hi'),Si hi'];try rfl) h,tv⟩ ?_;refine z_ hmk ?_)
       conv=>whnf
       try (refine tI ?_;conv=>whnf)
       try (refine tS ?_;conv=>whnf)
       (first | rw [hE] | skip)
       conv=>whnf
       all_goals exact⟨i+1,by omega,by omega,zR (s:= [0,1,2,3,4]) ⟨⟨rfl,rfl,rfl,rfl,rfl,AR (by omega),tv⟩,⟨rfl,rfl,rfl,rfl,congrArg (fun l=>some (AB.row _ _ l)) (by rw [hsx,Je];try rfl),tv⟩,rfl,rfl,rfl,rfl,rfl⟩⟩
      ·have ei:i=(GX g z).length:=by simp [GX];omega
       repeat' (refine zZ ?_;conv=>whnf)
       exact⟨z+1,by omega,by omega,zR (s:= [0,1,2,3,4]) ⟨⟨rfl,rfl,rfl,rfl,AR (by omega),tv⟩,⟨rfl,rfl,rfl,rfl,by rw [ei,Ay];try rfl,tv⟩,rfl,rfl,rfl,rfl,rfl⟩⟩
    ·have ez:z=g.z.toNat:=by omega
     subst ez;exact⟨_, .ag [.ow 0 (A4 g).toNat,nilV,ze 0,ze (-1)], [.row 128 3 ((GP g s g.z.toNat).map B5)],fun _ _ h=>h,zR (s:= [4]) tA,rfl,rfl⟩
theorem Qy (g:Geo) (s:ByteArray) (hg:Bq g=true) (hs:FF s.data.toList=0):Fn Tryz.prog 57 [.ag (Ba g), .v (.string s)] fun r=>r = .ag (Eh (GO g s)):=by
 refine ACalls.fn (OL g s hg hs) ?_;rintro _ _ ⟨rfl,rfl⟩;refine⟨_,z6 _,?_⟩;conv=>whnf
 refine Af (by rw [Ac];exact(Gz g s _).symm) ?_;exact⟨.ag (Eh (GO g s)),Bk ⟨B4 (f:=B5) (GP g s g.z.toNat) (by rw [Gz]) rfl,Bn 2 _,ri,ri,tv⟩,rfl⟩


section
variable {g:Geo} {s:ByteArray} {b:An} {fill:UInt8} {sizes:List Int} {D:Dk}
end
theorem StSm.big {S:Stt} (h:StSm S):StBig S:=
 ⟨by have:=h.l;omega,by have:=h.h.1;omega,⟨by have:=h.t.1;omega,fun t ht=>⟨by have:=(h.t.2 t ht).1;omega,fun x hx=>by have:=(h.t.2 t ht).2 x hx;omega⟩⟩,by have:=h.o;omega⟩
structure Vol (g:Geo) (K:Int) (d:Dk) (s:Stt):Prop where
 gd:∃ F,Gd (A4 g) d F
 an:Bv g s.a=true
 ring:CD g s.txns s.a.seq s.a.pos g.sl=true
 rest:s.only=false/\s.cursor=0/\s.found=0/\s.fixed=0/\s.moved=0/\s.lost=[]
 gen:s.a.gen<=K
 seq:s.a.seq+s.txns.length<=K
 one:∀ t∈s.txns,OneTab t.images
theorem FL {g:Geo} {a:An} (ha:Bv g a=true):(0<=a.gen/\a.gen<=4294967295)/\(1<=a.seq/\a.seq<=4294967295)/\(0<=a.pos/\a.pos<g.sl)/\(a.homes.length:Int)=g.z:=by
 simp only [Bv,AX,BD,Bx,Ad,decide_eq_true_eq,AD] at ha;omega
theorem JZ {g:Geo}:∀ {l:List Tx} {seq pos a b:Int},a<=b->CD g l seq pos a=true->CD g l seq pos b=true
 | [],_,_,_,_,_,_=>rfl
 | t::r,seq,pos,a,b,hab,h=>by
  simp only [CD,Ad,decide_eq_true_eq] at h |-
  obtain⟨⟨h1,h2,h3,h4,h5,h6,h7⟩,h8⟩:=h;exact⟨⟨h1,h2,h3,h4,by omega,h6,h7⟩,JZ (by omega) h8⟩
theorem DV {g:Geo}:∀ {l:List Tx} {seq pos left:Int},CD g l seq pos left=true->∀ t∈l,t.images.all (Bz g)=true/\t.n=t.images.length+1/\2<=t.n/\t.n<=max left 0
 | t::r,seq,pos,left,h,x,hx=>by
  simp only [CD,Ad,decide_eq_true_eq] at h;obtain⟨⟨h1,h2,h3,h4,h5,h6,h7⟩,h8⟩:=h;rcases Bb.1 hx with rfl | hx
  ·exact⟨h7,h6,h4,by omega⟩
  ·have:=DV h8 x hx;exact⟨this.1,this.2.1,this.2.2.1,by omega⟩
theorem Gy {g:Geo} (hg:Bq g=true) {x:Img} (h:Bz g x=true):x.bytes.length<=45:=by
 obtain⟨g1,g2,g3,g4,g5⟩:=Ar.1 hg;by_cases hw:x.what=255
 ·simp only [Bz,Ad] at h;have h2:=h.2.2;rw [if_pos hw] at h2;by_cases hl:x.bytes.length=9*(g.d+1).toNat
  ·omega
  ·rw [J3 (.inl hl)] at h2;cases h2
 ·have:=(F3 h).2 hw;omega
theorem Vol.st {g:Geo} {K:Int} {d:Dk} {s:Stt} (hg:Bq g=true) (h:Vol g K d s):Mf g d s=true:=by
 obtain⟨F,hF⟩:=h.gd;obtain⟨r1,r2,r3,r4,r5,r6⟩:=h.rest;have hu:=KM hg;have hh:DZ g s=true:=by
  unfold DZ;rw [r3,r4,r5,r6];try rfl
 unfold Mf;rw [hg,Lq.2 hF.ok,decide_eq_true hF.len,h.an,h.ring,r2,hh,decide_eq_true (show (0:Int)<Gb g by omega)];try rfl
theorem Vol.sm {g:Geo} {K:Int} {d:Dk} {s:Stt} (hg:Bq g=true) (h:Vol g K d s):StSm s:=by
 obtain⟨g1,g2,g3,g4,g5⟩:=Ar.1 hg;have hr:=DV h.ring;have hin:=Gk hg (C7 _) h.ring;have hlen:(s.txns.length:Int)<=30:=by
  have:∀ l:List Tx,(∀ t∈l,2<=t.n)->2*(l.length:Int)<=sumT l:=by
   intro l;induction l with
   | nil=>intro _;simp [sumT]
   | cons t r ih=>
    intro hl;have h1:=hl t (by simp);have h2:=ih fun x hx=>hl x (AY _ hx)
    rw [sumT,Ap];omega
  have:=this s.txns fun t ht=>(hr t ht).2.2.1
  have:=hin.2;omega
 refine⟨⟨(G4 hg h.an 0 (Aj _)).2.1,fun x hx=>Kn hg h.an x hx⟩,(G4 hg h.an 0 (Aj _)).2.2.2.1,⟨by omega,fun t ht=>?_⟩,by rw [h.rest.2.2.2.2.2];simp⟩;obtain⟨q1,q2,q3,q4⟩:=hr t ht;refine⟨by omega,fun i hi=>?_⟩;have:=Gy hg (Av.1 q1 i hi);omega
theorem Vol.add {g:Geo} {K:Int} {d d':Dk} {s:Stt} (hg:Bq g=true) (h:Vol g K d s) (hK:K<=4294967294) (hd:∃ F,Gd (A4 g) d' F) {x:Tx} (e1:x.seq=s.a.seq+s.txns.length) (e3:x.pos=(s.a.pos+CT s.txns).tmod g.sl) (e4:2<=x.n) (e5:x.n<=g.sl - CT s.txns) (e6:x.n=x.images.length+1) (e7:∀ y∈x.images,Bz g y=true) (e8:OneTab x.images):Vol g (K+1) d' { s with txns:=s.txns ++ [x] }:=by
 obtain⟨a1,a2,a3,a4⟩:=FL h.an;have hin:=Gk hg (C7 _) h.ring;rw [Sm hin.1] at e3 e5;have hs:=h.seq;refine⟨hd,h.an,JY hg a3.1 a3.2 (C7 _) h.ring e1 (by omega) e3 e4 e5 e6 (Av.2 e7),h.rest,by have:=h.gen;show s.a.gen<=K+1;omega,?_,fun t ht=>?_⟩
 ·show s.a.seq+((s.txns ++ [x]).length:Nat)<=K+1;simp only [Ai,Ap,Bd];omega
 ·rcases A3.1 ht with q | q
  ·exact h.one t q
  ·rw [AF] at q;exact q ▸ e8
theorem Vol.home {g:Geo} {K:Int} {d d':Dk} {s:Stt} (hg:Bq g=true) {x:Tx} {r:List Tx} (hx:s.txns=x::r) (h:Vol g K d s) (hK:K<=4294967294) (hd:∃ F,Gd (A4 g) d' F):Vol g (K+1) d' { s with a:=O5 g s.a x,txns:=r }:=by
 obtain⟨a1,a2,a3,a4⟩:=FL h.an;have hs:=h.seq;have hgn:=h.gen;have hr:=h.ring;rw [hx,Ap] at hs;rw [hx] at hr;have hin:=(Gk hg (C7 _) hr).1 x (by simp);simp only [CD,Ad,decide_eq_true_eq] at hr;obtain⟨⟨h1,h2,h3,h4,h5,h6,h7⟩,h8⟩:=hr;refine⟨hd,U4 hg h.an (by omega) (by omega) h1 (by omega) (by omega),?_,h.rest,by show s.a.gen+1<=K+1;omega,?_,fun t ht=>h.one t (by rw [hx];exact AY _ ht)⟩
 ·show CD g r (s.a.seq+1) ((x.pos+x.n).tmod g.sl) g.sl=true;rw [h3];exact JZ (by omega) h8
 ·show s.a.seq+1+(r.length:Int)<=K+1;omega
theorem Ol {g:Geo} {a:An} {w:Wr} (hw:w∈Bg g a):∃ i:Nat,(i:Int)<g.an/\w=⟨(i:Nat),Dg a (i:Nat)⟩:=by
 simp only [Bg,AK,AO] at hw;obtain⟨i,hi,rfl⟩:=hw;exact⟨i,by omega,rfl⟩
def U2 (g:Geo) (a:An) (x:Tx) (F:Int->List UInt8):Int->List UInt8:=R0 (R0 F (L2 g a x.seq x.images)) (Bg g (O5 g a x))
def ZM (g:Geo):Stt:=Bt (D9 (B_ g ⟨#[]⟩) 0) []
def ZS (g:Geo) (a:An) (q:Int):List UInt8:=if q<g.an then Dg a q else GN g ⟨#[]⟩ q
theorem Pw {g:Geo} (hg:Bq g=true) {d:Dk} (h:Holds d (A4 g) (GN g ⟨#[]⟩)) {c:Int} (hc:c=0\/c=1):B3 d (BS g c)=Gh g [] 0 c g.sl.toNat:=by
 rw [QS h _ (SW hg hc)];unfold BS Gh;rw [List.map_map];refine Cn fun i hi=>?_
 have hi:=AO.1 hi;show (⟨0,GN g ⟨#[]⟩ (AU g c (i:Nat))⟩:Gt)=_;rw [LC hc (by omega)];try rfl
theorem UA {g:Geo} (hg:Bq g=true) {b:An} (hp:b.pos=0) (hl:¬b.seq - 1<b.last) {d:Dk} (h:Holds d (A4 g) (GN g ⟨#[]⟩)):DS g b (B3 d (BS g 0)) (B3 d (BS g 1))=([], [],0):=by
 obtain⟨g1,g2,g3,g4,g5⟩:=Ar.1 hg;have hok:LogOk g [] 0:=⟨by simp,by simp,fun s i k _ h=>(nomatch (show (none:Option (Nat × Int))=some (i,k) from h)),fun s _=>HH hg⟩;rw [N8,Pw hg h (.inl rfl),Pw hg h (.inr rfl),RC hg hok (.inl rfl),RC hg hok (.inr rfl)];obtain⟨n,hn⟩:∃ n,g.sl.toNat=n+1:=⟨g.sl.toNat - 1,by omega⟩;have hz:GY g [] 0 (fun _=>false) 0=some zeroC:=by
  unfold GY;rw [if_pos (by omega)];try rfl
 have hs:BW g 0 0=0:=by
  show (IntKind.i64.wrap 0).tmod g.sl=0;rw [show IntKind.i64.wrap 0=0 from rfl,Int.zero_tmod]
 have h0:DA zeroC b b.seq 0 0 g.sl=false:=decide_eq_false fun h=>h.1 rfl
 have hr:(C3 g b (GY g [] 0 fun _=>false) (GY g [] 0 fun _=>false) 0 b.seq g.sl 0 0).2.1=2:=by
  show (C0 (GY g [] 0 (fun _=>false) (BW g 0 0)) (GY g [] 0 (fun _=>false) (BW g 0 0)) (DW (GY g [] 0 (fun _=>false) (BW g 0 0)) b b.seq 0 0 g.sl) (DW (GY g [] 0 (fun _=>false) (BW g 0 0)) b b.seq 0 0 g.sl)).2.2=2;rw [hs,hz];show (C0 (some zeroC) (some zeroC) (DA zeroC b b.seq 0 0 g.sl) (DA zeroC b b.seq 0 0 g.sl)).2.2=2;rw [h0];try rfl
 have ht:(F6 g b (GY g [] 0 fun _=>false) (GY g [] 0 fun _=>false) 0 b.seq g.sl).1=2:=by
  unfold F6;simp only;rw [if_pos (by rw [hr];decide)];exact hr
 unfold M7;rw [hn,hp,ER];split
 ·simp only;rw [ht,if_neg (by decide),if_pos (by decide),Fu hl]
 ·exact Fu hl
theorem QX {g:Geo} (hg:Bq g=true) (hb:Bv g (B_ g ⟨#[]⟩)=true) (x:Int):(GN g ⟨#[]⟩ x).length<=200:=by
 unfold GN;split
 ·exact Jl hg hb x
 ·split
  ·exact Dy (HH hg) _ _
  ·split
   ·exact Dy (HH hg) _ _
   ·split
    ·rw [EQ,E3];unfold E4;rw [BC];have:=(Ar.1 hg).2.1;omega
    ·rw [EQ];decide
theorem X9 {g:Geo} (hg:Bq g=true) (hb:Bv g (B_ g ⟨#[]⟩)=true):DkOk (GO g ⟨#[]⟩):=by
 have hcb:=H4 hg;have h:=Na (g:=g) (s:=⟨#[]⟩) hg;have hlen:=h.len;refine⟨by omega,by rw [h.cache];simp,by show (0:Int)<=0/\(0:Int)<=_;decide,by show (-1:Int)<= -1/\(-1:Int)<=_;decide,fun c hc=>?_,fun w hw=>by rw [h.cache] at hw;cases hw⟩;obtain⟨i,hi,rfl⟩:=List.getElem_of_mem hc;have hci:=Py (g:=g) (s:=⟨#[]⟩) hg (a:=((i:Nat):Int)) (by omega) (by omega);have e:(GO g ⟨#[]⟩).cells.getD ((i:Nat):Int).toNat cz=(GO g ⟨#[]⟩).cells[i]:=by
  rw [Aa,Ab,Ae hi];try rfl
 rw [e] at hci;rw [hci];exact⟨⟨C7 _,by show (0:Int)<=2;decide⟩,QX hg hb _,by simp⟩
theorem Y2 {g:Geo} (hg:Bq g=true) (hb:Bv g (B_ g ⟨#[]⟩)=true) {d:Dk} (h:Holds d (A4 g) (GN g ⟨#[]⟩)):Gl g (B3 d (Dn g))=some (B_ g ⟨#[]⟩,(ZR (Gl g (B3 d (Dn g))))):=by
 obtain⟨g1,g2,g3,g4,g5⟩:=Ar.1 hg;have hcg:=D_ hg;have hsp:=Lk g (B3 d (Dn g)) (B3 d (Dn g)).length;rw [DM,Ff] at hsp;have hsay:∀ i,i<g.an.toNat->Ex g ((B3 d (Dn g)).getD i ⟨0, []⟩) (i:Nat)=some (B_ g ⟨#[]⟩):=fun i hi=>by
  rw [Ru hi,h.got (by omega) (by omega),RZ (by omega)];exact Qr hg hb (by omega)
 have hpk:Gl g (B3 d (Dn g))=EN g (B3 d (Dn g)) g.an.toNat:=by rw [Gl,DM,Ff]
 rw [hpk];cases hP:EN g (B3 d (Dn g)) g.an.toNat with
 | none=>
  have:=hsp.1 hP 0 (by omega);rw [hsay 0 (by omega)] at this;cases this
 | some q=>
  obtain⟨a0,j⟩:=q;obtain⟨q1,q2,q3⟩:=hsp.2 a0 j hP;rw [hsay j q1] at q2;cases q2;rfl
def QH (g:Geo) (c:An) (q:Int):List UInt8:=if q<0 then ((CH (GO g ⟨#[]⟩).cells (Bg g c)).getD (-1 - q).toNat cz).old else ZS g c q
theorem Yy {g:Geo} (hg:Bq g=true):∃ D,C_ g (GO g ⟨#[]⟩)=(D,0,ZM g)/\DkOk (GO g ⟨#[]⟩)/\((GO g ⟨#[]⟩).cells.length:Int)=A4 g/\Vol g 2 D (ZM g)/\Gd (A4 g) D (QH g (D9 (B_ g ⟨#[]⟩) 0)):=by
 obtain⟨g1,g2,g3,g4,g5⟩:=Ar.1 hg;have hs:FF (⟨#[]⟩:ByteArray).data.toList=0:=lab_nil;have hf:=Na (g:=g) (s:=⟨#[]⟩) hg;have hb:=Ng (g:=g) (s:=⟨#[]⟩) hg hs;have hdk:DkOk (GO g ⟨#[]⟩):=X9 hg hb;have hcg:=D_ hg;have hsc:=UA hg (b:=B_ g ⟨#[]⟩) rfl (by show ¬(1:Int) - 1<0;decide) hf;have hm:=Pj hg hdk hf.len hf.cache (by show (-1:Int)<0;decide) (Y2 hg hb hf) hsc (by show (1:Int)≠_;decide) (by show (0:Int)≠_;decide);have hna:=Fw g (D9 (B_ g ⟨#[]⟩) ([]:List Tx).length);rw [VE hf _ (fun w hw=>by
  simp only [Bg,AK,AO] at hw;obtain⟨i,hi,rfl⟩:=hw;exact⟨by show (0:Int)<=(i:Nat);omega,by show ((i:Nat):Int)<_;omega⟩),if_neg (by omega),if_neg (by omega)] at hm
 have hD:=ST hg hdk hf.len;rw [hm] at hD;have hn:=Lt (n:=0) hb (by show (1:Int)≠_;decide) (by show (0:Int)≠_;decide) (by show (1:Int)+0 - 1<=_;decide);have hfin:=Tj (r:=((GO g ⟨#[]⟩).tick (Pi g [])).reqs) (l:=(GO g ⟨#[]⟩).left) hg (c:=D9 (B_ g ⟨#[]⟩) ([]:List Tx).length) hf;have hgd:Gd (A4 g) _ (QH g (D9 (B_ g ⟨#[]⟩) 0)):=⟨hD.1,rfl,hfin.len,hfin.cache,fun a h0 h1=>by
  unfold QH;rw [if_neg (by omega)];exact hfin.cell a h0 h1,fun a h0 h1=>by
  unfold QH;rw [if_pos (by omega),show -1 - (-1 - a)=a by omega];try rfl⟩
 exact⟨_,hm,hdk,hf.len,⟨⟨_,hgd⟩,hn,rfl,tA,(by show (1:Int)+1<=2;decide),(by show (1:Int)+(0:Nat)<=2;decide),fun t ht=>by cases ht⟩,hgd⟩
structure LogB (l:List Tx):Prop where
 n:l.length<=1000000
 i:∀ t∈l,t.images.length<=1000000/\∀ x∈t.images,x.bytes.length<=1000000000
def G7 (g:Geo) (s:Stt) (F:Int->List UInt8) (z:Int):Option (List Ent):=match Db s.txns z 255 with
 | some p=>Cb g p.1.bytes
 | none=>match CM g ⟨0,F (By g z 0)⟩ (By g z 0) (EB s.a s.txns z) with
  | some t=>some t
  | none=>CM g ⟨0,F (By g z 1)⟩ (By g z 1) (EB s.a s.txns z)
def Mh (g:Geo) (s:Stt) (F:Int->List UInt8) (t:List Ent) (z w:Int):List UInt8:=match Db s.txns z w with
 | some p=>p.1.bytes
 | none=>(DO ⟨0,F (DF g s.a z w)⟩ (DF g s.a z w) (t.getD (F0 g w).toNat ez)).getD []
def HZ (b:List UInt8):List AV:= [bA b]
theorem ConvF.sealTp {fr:Fr} {H:List AB} (i k:Nat) {x z:AV} {t:TypeId} {sz:Nat} {es:List (List AV)} (hx:fget fr i = .tp [x, .ow k es.length,z]) (hk:hget H k=some (.row t sz es)):ConvF fr H ((i, .tp [x, .sl sz es.length fun j=>es.getD j [],z])::fr) (H.set k .dead):=fun _ _ c _ _ hs hf=>by
 rw [hget_eq] at hk;obtain⟨c1,e1,s1,x1,r1⟩:=hs.freeze hk;refine⟨c1,e1,s1,(hf.ext x1).cons i _ ?_,x1⟩;have h0:=hf.get i;have h1:=(hf.ext x1).get i;rw [hx] at h0 h1;simp only [Rd] at h0 h1;obtain⟨us,e,h0⟩:=h0;obtain⟨us',e',h1⟩:=h1;have eu:us'=us:=by
  have:=e.symm.trans e';injection this with this
  simpa using this.symm
 subst eu;obtain⟨y1,l1,rfl,a1,y2,l2,rfl,a2,y3,l3,rfl,a3,rfl⟩:=h0;obtain⟨z1,m1,q1,b1,z2,m2,q2,b2,z3,m3,q3,b3,q4⟩:=h1;subst q2 q3 q4;simp only [List.cons.injEq,and_true] at q1;obtain⟨rfl,rfl,rfl⟩:=q1;simp only [Rd];exact⟨_,e,_,_,rfl,b1,_,_,rfl,r1 _ a2,_,_,rfl,b3,rfl⟩
theorem Ev {L:List (List UInt8)} {n:Nat} {es:List (List AV)} (hn:n=L.length) (he:es=L.map HZ) (c:Ctx) (v:Value) (h:Rd (.sl 1 n fun i=>es.getD i []) c v):Rd (FT L) c v:=B4 (f:=HZ) L hn he c v h
def X5 (g:Geo) (s:Stt) (F:Int->List UInt8) (t:List Ent) (z:Int) (k:Nat):List (List UInt8):=(List.range k).map fun i=>Mh g s F t z (i:Nat)
def EF (g:Geo) (s:Stt) (F:Int->List UInt8) (t:List Ent) (z:Int):List (List UInt8):=X5 g s F t z g.d.toNat ++ [Mh g s F t z (-1)]
theorem R5 {g:Geo} {s:Stt} {F:Int->List UInt8} {z:Int} {t:List Ent} (h:G7 g s F z=some t):FB g t=true:=by
 have hr:∀ {b:List UInt8} {t:List Ent},Cb g b=some t->FB g t=true:=fun {b t} h=>by
  unfold Cb at h;split at h
  ·rename_i hh;obtain rfl:=Option.some.inj h;exact hh.1
  ·cases h
 have ho:∀ {x:Gt} {a r:Int} {t:List Ent},CM g x a r=some t->FB g t=true:=fun {x a r t} h=>by
  unfold CM at h;split at h
  ·split at h
   ·exact hr h
   ·cases h
  ·cases h
 unfold G7 at h;split at h
 ·exact hr h
 ·split at h
  ·rename_i hh;obtain rfl:=Option.some.inj h;exact ho hh
  ·exact ho h
theorem GG {g:Geo} {t:List Ent} (h:FB g t=true):(t.length:Int)=g.d+1:=by
 unfold FB at h
 grind
theorem IV {g:Geo} {s:Stt} {F:Int->List UInt8} {t:List Ent} {z w:Int} (hi:∀ t∈s.txns,∀ x∈t.images,Bz g x=true) (hw:w≠255):(Mh g s F t z w).length=0\/(Mh g s F t z w).length=8:=by
 unfold Mh;split
 ·rename_i p hp;obtain⟨x,q⟩:=p;obtain⟨t',ht, -,hx, -,e⟩:=G0 (Ah _) hp;exact .inr ((F3 (hi t' ht x hx)).2 (by rw [e];exact hw)).2.2
 ·unfold DO;split
  ·split
   ·rename_i h;exact .inr h.2.1
   ·exact .inl rfl
  ·exact .inl rfl
theorem ED {L:List Int} {n:Nat} {es:List (List AV)} (hn:n=L.length) (he:es=L.map fun x=> [AV.v (.int .i64 x)]) (c:Ctx) (v:Value) (h:Rd (.sl 1 n fun i=>es.getD i []) c v):Rd (iA L) c v:=B4 (f:=fun x=> [AV.v (.int .i64 x)]) L hn he c v h
def Ja (g:Geo) (s:Stt) (F:Int->List UInt8) (seq lba:Int) (b:List UInt8):List Img:=match G7 g s F (lba.tdiv g.d) with
 | some t=>Cr (lba.tdiv g.d) (BG g t (EF g s F t (lba.tdiv g.d)) [lba.tmod g.d] [b] seq) (ET g t (EF g s F t (lba.tdiv g.d)) [lba.tmod g.d] [b] g.d.toNat) [lba.tmod g.d] [b]
 | none=> []
theorem WW {L L':List Img} {n:Nat} (e:L=L') (hn:n=L'.length) (c:Ctx) (v:Value) (h:Rd (.sl 3 n fun j=>((List.range L'.length).map fun i=>Dv (L'.getD i ⟨0,0, []⟩)).getD j []) c v):Rd (Ee L) c v:=by
 subst e;refine zH hn (fun i hi=>?_) h;have:i<L.length:=by omega
 simp [this]
theorem NJ {g:Geo} {seq epoch:Int} {x:Img} (hg:Bq g=true) (h2:C2 seq 0 4294967295=true) (h3:C2 epoch 0 4294967295=true) (h7:Bz g x=true) {k n:Nat} (hk:k<n) (hn:n=3):DP g ⟨1,seq,epoch,(k:Nat),n+1,x⟩=true:=by
 simp only [DP,hg,Ef,EO,h2,h3,h7,B9,Bx];simp only [if_neg (show ¬(1:Int)=0 by omega),if_true,Ad,AD];omega
theorem NI {g:Geo} {seq epoch:Int} (hg:Bq g=true) (h2:C2 seq 0 4294967295=true) (h3:C2 epoch 0 4294967295=true) {n:Nat} (hn:n=3):DP g ⟨2,seq,epoch,(n:Nat),n+1,noImg⟩=true:=by
 subst hn;simp only [DP,hg,Ef,EO,h2,h3,B9];simp only [if_neg (show ¬(2:Int)=0 by omega),if_neg (show ¬(2:Int)=1 by omega),if_true,Ad,AD,beq_iff_eq,FC,noImg];simp
@[reducible] def rwQ (g:Geo) (a:An) (l:List Tx) (x:Tx) (d:Dk):List AB:= [.box 83 (Z5 g (.bp 1 0) (.ow 4 a.homes.length) (.ow 5 (l.length+1)) (Bt a l) 0), .box 85 (H0 (.ow 2 d.cells.length) (.ow 6 d.cache.length) d.reqs d.left), .row 128 3 (d.cells.map B5), .dead, .row 177 3 (a.homes.map Jq), .row 112 4 (l.map Eb ++ [Eb x]), .row 134 2 (d.cache.map DR)]
def I4 (g:Geo) (a:An) (l:List Tx) (F:Int->List UInt8) (lba:Int) (b:List UInt8):Tx:=⟨a.seq+(l.length:Int),(a.pos+CT l).tmod g.sl,4,Ja g (Bt a l) F (a.seq+(l.length:Int)) lba b⟩
theorem in01:(0:Int)<=((0:Nat):Int)/\((0:Nat):Int)<((1:Nat):Int):=by decide
def ZC (A:Int) (p:Bool):AV:=match p with
 | true=>iA [A]
 | false=> .v (.slice none 0 0)
def ZT (b:List UInt8) (p:Bool):AV:=match p with
 | true=>FT [b]
 | false=> .v (.slice none 0 0)
def Zm (L:List Img) (p:Bool):AV:=match p with
 | true=>Ee L
 | false=> .v (.slice none 0 0)
def YO (b:Bool):List AV:= [.v (.bool b)]
def Zu (l:List Bool):AV:= .sl 1 l.length fun i=>YO (l.getD i false)
theorem YN {L:List Bool} {n:Nat} {es:List (List AV)} (hn:n=L.length) (he:es=L.map YO) (c:Ctx) (v:Value) (h:Rd (.sl 1 n fun i=>es.getD i []) c v):Rd (Zu L) c v:=B4 (f:=YO) L hn he c v h
theorem BX {l:List Nat} {m:Nat} (h:(l.all fun z=>Nat.ble (z+1) m)=true):∀ z∈l,z<m:=fun z hz=>Ag (Av.1 h z hz)
section
variable {g:Geo} {t:List Ent} {had:List (List UInt8)} {A:Int} {b:List UInt8} {stamp:Int}
end

end
section
open Go.RowKit Go.Shelf
attribute [local go_sem] Oper.semAt_some

theorem Wl (F:Fence) (n:Nat) (h7:F.fn 255) (hro:F.round=none) (hn:1<=n) (l Bs n₀ b off len cap:Nat) (X0 X1 X2 X3:Nat->Value) (hlen:len<=1000000000) (hb:b<n₀) (hBn:Bs<n₀) (J Jx:List Nat->World->Prop)
  (hY:∀ pre x W,J pre W->pre.length<len->x<len->YieldAt F (n - 1) Tryz.prog l #[.int .i64 (x:Nat), .agg #[X0 x,X1 x,X2 x,X3 x]] W fun e W'=>
   (e = .returned (.bool true)/\J (pre ++ [x]) W'/\Below n₀ W W')\/(e = .returned (.bool false)/\Jx (pre ++ [x]) W'))
  (W:World) (hBs:W.cell? ⟨Bs,0,none⟩=some (.slice (some ⟨b,off,none⟩) len cap)) (hc0:∀ j,j<len->W.cell? ⟨b,off+j*4,none⟩=some (X0 j)) (hc1:∀ j,j<len->W.cell? ⟨b,off+j*4+1,none⟩=some (X1 j)) (hc2:∀ j,j<len->W.cell? ⟨b,off+j*4+2,none⟩=some (X2 j)) (hc3:∀ j,j<len->W.cell? ⟨b,off+j*4+3,none⟩=some (X3 j)) (h0:J [] W) :
  CallsIn F n Tryz.prog 255 #[.func (.yield l) #[] #[], .pointer (some ⟨Bs,0,none⟩)] W fun e W'=>(∃ v,e = .returned v)/\
   ((∃ ys,ys=Dc len len/\J ys W')\/(∃ pre,(∃ k,k<=len/\pre=Dc len k)/\Jx pre W')):=by
 have Hc0:=Lib.hid hc0;have Hc1:=Lib.hid hc1;have Hc2:=Lib.hid hc2;have Hc3:=Lib.hid hc3;clear hc0 hc1 hc2 hc3;refine callsIn_of_wp Tryz.func255 rfl h7 ?_ hro;simp only [Tryz.ntmps255,BR,Ap,Bd,Nat.reduceAdd,Nat.reduceSub,CR,CQ,Dz,CZ,Bu,Bl]
 gi_wp2
 gi_loopw [3] (fun i wr=>∃ k:Nat,k<=len/\i = .int .i64 ((len:Int) - 1 - k)/\J (Dc len k) wr/\Below n₀ W wr)
  (fun i _=>(intOf i+1).toNat)
 case atStart=>exact⟨0,Aj _,by simp,h0,Below.refl _ _⟩
 case round=>
  obtain⟨k,hk,rfl,hJs,hnx⟩:=hrel;by_cases hlt:k<len
  ·obtain⟨m,hmk⟩:∃ m,len=k+1+m:=⟨len - (k+1),by omega⟩;rw [show (len:Int) - 1 - k=(m:Int) by omega];obtain⟨fn,tmps,assign,body,hy,hR⟩:=hY _ m wr hJs (by rw [GS];exact hlt) (by omega);have e0:=(hnx.cell (p:=⟨b,off+m*4,none⟩) hb).trans (Hc0.out m (by omega));have e1:=(hnx.cell (p:=⟨b,off+m*4+1,none⟩) hb).trans (Hc1.out m (by omega));have e2:=(hnx.cell (p:=⟨b,off+m*4+2,none⟩) hb).trans (Hc2.out m (by omega));have e3:=(hnx.cell (p:=⟨b,off+m*4+3,none⟩) hb).trans (Hc3.out m (by omega));have eb:=(hnx.cell (p:=⟨Bs,0,none⟩) hBn).trans hBs;have hm:(m:Int)<(len:Int):=by omega
   have Hm:=Lib.hid hmk;clear hmk
   gi_wp2
   refine hR.mono ?_;rintro e W3 (⟨rfl,hJ3,hk3⟩ | ⟨rfl,hJx3⟩)
   ·gi_wp2
    go_roundw
    case rel=>exact⟨k+1,by omega,congrArg (Value.int .i64) (by have:=Hm.out;omega),by rw [Fe,show len - 1 - k=m by have:=Hm.out;omega];exact hJ3,hnx.trans hk3⟩
    case measure=>simp [intOf]
   ·gi_wp2
    refine bodyPost_ret (results_none rfl _ _ _) rfl ?_;exact⟨⟨_,rfl⟩, .inr ⟨_,⟨k+1,by omega,by rw [Fe,show len - 1 - k=m by have:=Hm.out;omega]⟩,hJx3⟩⟩
  ·obtain rfl:k=len:=by omega
   rw [show ((k:Nat):Int) - 1 - k = -1 by omega]
   gi_wp2
   go_end0
   exact⟨⟨_,rfl⟩, .inl ⟨_,rfl,hJs⟩⟩

theorem Wm (F:Fence) (n:Nat) (h7:F.fn 255) (hro:F.round=none) (l Bs:Nat) (a:Option Addr) (cap:Nat) (J:List Nat->World->Prop) (W:World) (hBs:W.cell? ⟨Bs,0,none⟩=some (.slice a 0 cap)) (h0:J [] W) :
  CallsIn F n Tryz.prog 255 #[.func (.yield l) #[] #[], .pointer (some ⟨Bs,0,none⟩)] W fun e W'=>(∃ v,e = .returned v)/\J [] W':=by
 refine callsIn_of_wp Tryz.func255 rfl h7 ?_ hro;simp only [Tryz.ntmps255,BR,Ap,Bd,Nat.reduceAdd,Nat.reduceSub,CR,CQ,Dz,CZ,Bu,Bl]
 gi_wp2
 gi_loopw [3] (fun i wr=>i = .int .i64 (-1)/\J [] wr) (fun _ _=>0)
 case atStart=>exact⟨rfl,h0⟩
 case round=>
  obtain⟨rfl,hJs⟩:=hrel
  gi_wp2
  go_end0
  exact⟨⟨_,rfl⟩,hJs⟩

theorem Ro (F:Fence) (n:Nat) (h7:F.fn 255) (hro:F.round=none) (hn:1<=n) (Bs n₀:Nat) (a:Option Addr) (len cap:Nat) (X0 X1 X2 X3:Nat->Value) (hlen:len<=1000000000) (w:World) (hBs:Bs<n₀) (hn₀:n₀<=w.heap.size)
  (hc:w.cell? ⟨Bs,0,none⟩=some (.slice a len cap)) (hI:0<len->∃ b off,a=some ⟨b,off,none⟩/\b<n₀/\∀ j,j<len->w.cell? ⟨b,off+j*4,none⟩=some (X0 j)/\w.cell? ⟨b,off+j*4+1,none⟩=some (X1 j)/\w.cell? ⟨b,off+j*4+2,none⟩=some (X2 j)/\w.cell? ⟨b,off+j*4+3,none⟩=some (X3 j)) :
  SeqStopsK F n Tryz.prog 255 #[.pointer (some ⟨Bs,0,none⟩)] (fun x:Fin len=> #[Value.int .i64 x.val, .agg #[X0 x,X1 x,X2 x,X3 x]]) (Below n₀) (fun ys=>ys.map Fin.val=Dc len len) (fun pre=>∃ k,k<=len/\pre.map Fin.val=Dc len k) len w:=fun l J Jx W hW _ _ hY h0=>by
 have hc':=(hW.cell (p:=⟨Bs,0,none⟩) (by show Bs<_;omega)).trans hc;rcases Nat.eq_zero_or_pos len with rfl | hp
 ·exact(Wm F n h7 hro l Bs a cap (fun _ W=>J [] W) W hc' h0).mono fun e W' ⟨he,hj⟩=>⟨he, .inl ⟨[],rfl,hj⟩⟩
 ·obtain⟨b,off,rfl,hb,hj⟩:=hI hp;refine(Wl F n h7 hro hn l Bs n₀ b off len cap X0 X1 X2 X3 hlen hb hBs (fun pre W=>∃ q:List (Fin len),q.map Fin.val=pre/\J q W) (fun pre W=>∃ q:List (Fin len),q.map Fin.val=pre/\Jx q W) ?_ W hc' (fun j h=>(hW.cell (p:=⟨b,off+j*4,none⟩) (by show b<_;omega)).trans (hj j h).1) (fun j h=>(hW.cell (p:=⟨b,off+j*4+1,none⟩) (by show b<_;omega)).trans (hj j h).2.1) (fun j h=>(hW.cell (p:=⟨b,off+j*4+2,none⟩) (by show b<_;omega)).trans (hj j h).2.2.1) (fun j h=>(hW.cell (p:=⟨b,off+j*4+3,none⟩) (by show b<_;omega)).trans (hj j h).2.2.2) ⟨[],rfl,h0⟩).mono ?_
  ·rintro pre x W1 ⟨q,hq,hJ⟩ hlt hx;obtain⟨fn,tmps,assign,body,hy,hR⟩:=hY q ⟨x,hx⟩ W1 hJ (by rw [<-hq,Ac] at hlt;exact hlt);refine⟨fn,tmps,assign,body,hy,hR.mono ?_⟩;rintro e W' (⟨he,h1,h2⟩ | ⟨he,h1⟩)
   ·exact .inl ⟨he,⟨_,by simp [hq],h1⟩,h2⟩
   ·exact .inr ⟨he,⟨_,by simp [hq],h1⟩⟩
  ·rintro e W' ⟨he,⟨ys,rfl,q,hq,hJ⟩ | ⟨pre,⟨k,hk,rfl⟩,q,hq,hJ⟩⟩
   ·exact⟨he, .inl ⟨q,hq,hJ⟩⟩
   ·exact⟨he, .inr ⟨q,⟨k,hk,hq⟩,hJ⟩⟩

theorem bktx_is:IsBack Tryz.prog 255 4:=by
 refine⟨enters_of Tryz.func255 (by kernel_rfl) rfl,fun m hm B a len cap X w hlen hc hl hI=>?_⟩;have e:(fun x:Fin len=>(#[Value.int .i64 x.val, .agg (X x.val).toArray]:Array Value))=fun x:Fin len=> #[Value.int .i64 x.val, .agg #[(X x.val).getD 0 undef,(X x.val).getD 1 undef,(X x.val).getD 2 undef,(X x.val).getD 3 undef]]:=by
  funext x;have:=hl x.val;match h:X x.val with
  | [u0,u1,u2,u3]=>rfl
  | []=>rw [h] at this;simp at this
  | [_]=>rw [h] at this;simp at this
  | [_,_]=>rw [h] at this;simp at this
  | [_,_,_]=>rw [h] at this;simp at this
  | _::_::_::_::_::_=>rw [h] at this;simp at this
 rw [e];refine Ro Fence.wide m trivial rfl hm B w.heap.size a len cap (fun j=>(X j).getD 0 undef) (fun j=>(X j).getD 1 undef) (fun j=>(X j).getD 2 undef) (fun j=>(X j).getD 3 undef) hlen w (World.block_lt_of_cell? w _ hc) (Ah _) hc fun hp=>?_
 obtain⟨b,off,h1,h2,h3⟩:=hI hp;refine⟨b,off,h1,h2,fun j hj=>?_⟩;have h4:=hl j;match h:X j with
 | [u0,u1,u2,u3]=>exact⟨h3 j hj 0 u0 (by rw [h];rfl),h3 j hj 1 u1 (by rw [h];rfl),h3 j hj 2 u2 (by rw [h];rfl),h3 j hj 3 u3 (by rw [h];rfl)⟩
 | []=>rw [h] at h4;simp at h4
 | [_]=>rw [h] at h4;simp at h4
 | [_,_]=>rw [h] at h4;simp at h4
 | [_,_,_]=>rw [h] at h4;simp at h4
 | _::_::_::_::_::_=>rw [h] at h4;simp at h4

theorem Wn (F:Fence) (n:Nat) (h7:F.fn 256) (hro:F.round=none) (hn:1<=n) (l Bs n₀ b off len cap:Nat) (X0 X1 X2:Nat->Value) (hlen:len<=1000000000) (hb:b<n₀) (hBn:Bs<n₀) (J Jx:List Nat->World->Prop)
  (hY:∀ pre x W,J pre W->pre.length<len->x<len->YieldAt F (n - 1) Tryz.prog l #[.int .i64 (x:Nat), .agg #[X0 x,X1 x,X2 x]] W fun e W'=>
   (e = .returned (.bool true)/\J (pre ++ [x]) W'/\Below n₀ W W')\/(e = .returned (.bool false)/\Jx (pre ++ [x]) W'))
  (W:World) (hBs:W.cell? ⟨Bs,0,none⟩=some (.slice (some ⟨b,off,none⟩) len cap)) (hc0:∀ j,j<len->W.cell? ⟨b,off+j*3,none⟩=some (X0 j)) (hc1:∀ j,j<len->W.cell? ⟨b,off+j*3+1,none⟩=some (X1 j)) (hc2:∀ j,j<len->W.cell? ⟨b,off+j*3+2,none⟩=some (X2 j)) (h0:J [] W) :
  CallsIn F n Tryz.prog 256 #[.func (.yield l) #[] #[], .pointer (some ⟨Bs,0,none⟩)] W fun e W'=>(∃ v,e = .returned v)/\
   ((∃ ys,ys=Dc len len/\J ys W')\/(∃ pre,(∃ k,k<=len/\pre=Dc len k)/\Jx pre W')):=by
 have Hc0:=Lib.hid hc0;have Hc1:=Lib.hid hc1;have Hc2:=Lib.hid hc2;clear hc0 hc1 hc2;refine callsIn_of_wp Tryz.func256 rfl h7 ?_ hro;simp only [Tryz.ntmps256,BR,Ap,Bd,Nat.reduceAdd,Nat.reduceSub,CR,CQ,Dz,CZ,Bu,Bl]
 gi_wp2
 gi_loopw [3] (fun i wr=>∃ k:Nat,k<=len/\i = .int .i64 ((len:Int) - 1 - k)/\J (Dc len k) wr/\Below n₀ W wr)
  (fun i _=>(intOf i+1).toNat)
 case atStart=>exact⟨0,Aj _,by simp,h0,Below.refl _ _⟩
 case round=>
  obtain⟨k,hk,rfl,hJs,hnx⟩:=hrel;by_cases hlt:k<len
  ·obtain⟨m,hmk⟩:∃ m,len=k+1+m:=⟨len - (k+1),by omega⟩;rw [show (len:Int) - 1 - k=(m:Int) by omega];obtain⟨fn,tmps,assign,body,hy,hR⟩:=hY _ m wr hJs (by rw [GS];exact hlt) (by omega);have e0:=(hnx.cell (p:=⟨b,off+m*3,none⟩) hb).trans (Hc0.out m (by omega));have e1:=(hnx.cell (p:=⟨b,off+m*3+1,none⟩) hb).trans (Hc1.out m (by omega));have e2:=(hnx.cell (p:=⟨b,off+m*3+2,none⟩) hb).trans (Hc2.out m (by omega));have eb:=(hnx.cell (p:=⟨Bs,0,none⟩) hBn).trans hBs;have hm:(m:Int)<(len:Int):=by omega
   have Hm:=Lib.hid hmk;clear hmk
   gi_wp2
   refine hR.mono ?_;rintro e W3 (⟨rfl,hJ3,hk3⟩ | ⟨rfl,hJx3⟩)
   ·gi_wp2
    go_roundw
    case rel=>exact⟨k+1,by omega,congrArg (Value.int .i64) (by have:=Hm.out;omega),by rw [Fe,show len - 1 - k=m by have:=Hm.out;omega];exact hJ3,hnx.trans hk3⟩
    case measure=>simp [intOf]
   ·gi_wp2
    refine bodyPost_ret (results_none rfl _ _ _) rfl ?_;exact⟨⟨_,rfl⟩, .inr ⟨_,⟨k+1,by omega,by rw [Fe,show len - 1 - k=m by have:=Hm.out;omega]⟩,hJx3⟩⟩
  ·obtain rfl:k=len:=by omega
   rw [show ((k:Nat):Int) - 1 - k = -1 by omega]
   gi_wp2
   go_end0
   exact⟨⟨_,rfl⟩, .inl ⟨_,rfl,hJs⟩⟩

theorem Wo (F:Fence) (n:Nat) (h7:F.fn 256) (hro:F.round=none) (l Bs:Nat) (a:Option Addr) (cap:Nat) (J:List Nat->World->Prop) (W:World) (hBs:W.cell? ⟨Bs,0,none⟩=some (.slice a 0 cap)) (h0:J [] W) :
  CallsIn F n Tryz.prog 256 #[.func (.yield l) #[] #[], .pointer (some ⟨Bs,0,none⟩)] W fun e W'=>(∃ v,e = .returned v)/\J [] W':=by
 refine callsIn_of_wp Tryz.func256 rfl h7 ?_ hro;simp only [Tryz.ntmps256,BR,Ap,Bd,Nat.reduceAdd,Nat.reduceSub,CR,CQ,Dz,CZ,Bu,Bl]
 gi_wp2
 gi_loopw [3] (fun i wr=>i = .int .i64 (-1)/\J [] wr) (fun _ _=>0)
 case atStart=>exact⟨rfl,h0⟩
 case round=>
  obtain⟨rfl,hJs⟩:=hrel
  gi_wp2
  go_end0
  exact⟨⟨_,rfl⟩,hJs⟩

theorem Rq (F:Fence) (n:Nat) (h7:F.fn 256) (hro:F.round=none) (hn:1<=n) (Bs n₀:Nat) (a:Option Addr) (len cap:Nat) (X0 X1 X2:Nat->Value) (hlen:len<=1000000000) (w:World) (hBs:Bs<n₀) (hn₀:n₀<=w.heap.size)
  (hc:w.cell? ⟨Bs,0,none⟩=some (.slice a len cap)) (hI:0<len->∃ b off,a=some ⟨b,off,none⟩/\b<n₀/\∀ j,j<len->w.cell? ⟨b,off+j*3,none⟩=some (X0 j)/\w.cell? ⟨b,off+j*3+1,none⟩=some (X1 j)/\w.cell? ⟨b,off+j*3+2,none⟩=some (X2 j)) :
  SeqStopsK F n Tryz.prog 256 #[.pointer (some ⟨Bs,0,none⟩)] (fun x:Fin len=> #[Value.int .i64 x.val, .agg #[X0 x,X1 x,X2 x]]) (Below n₀) (fun ys=>ys.map Fin.val=Dc len len) (fun pre=>∃ k,k<=len/\pre.map Fin.val=Dc len k) len w:=fun l J Jx W hW _ _ hY h0=>by
 have hc':=(hW.cell (p:=⟨Bs,0,none⟩) (by show Bs<_;omega)).trans hc;rcases Nat.eq_zero_or_pos len with rfl | hp
 ·exact(Wo F n h7 hro l Bs a cap (fun _ W=>J [] W) W hc' h0).mono fun e W' ⟨he,hj⟩=>⟨he, .inl ⟨[],rfl,hj⟩⟩
 ·obtain⟨b,off,rfl,hb,hj⟩:=hI hp;refine(Wn F n h7 hro hn l Bs n₀ b off len cap X0 X1 X2 hlen hb hBs (fun pre W=>∃ q:List (Fin len),q.map Fin.val=pre/\J q W) (fun pre W=>∃ q:List (Fin len),q.map Fin.val=pre/\Jx q W) ?_ W hc' (fun j h=>(hW.cell (p:=⟨b,off+j*3,none⟩) (by show b<_;omega)).trans (hj j h).1) (fun j h=>(hW.cell (p:=⟨b,off+j*3+1,none⟩) (by show b<_;omega)).trans (hj j h).2.1) (fun j h=>(hW.cell (p:=⟨b,off+j*3+2,none⟩) (by show b<_;omega)).trans (hj j h).2.2) ⟨[],rfl,h0⟩).mono ?_
  ·rintro pre x W1 ⟨q,hq,hJ⟩ hlt hx;obtain⟨fn,tmps,assign,body,hy,hR⟩:=hY q ⟨x,hx⟩ W1 hJ (by rw [<-hq,Ac] at hlt;exact hlt);refine⟨fn,tmps,assign,body,hy,hR.mono ?_⟩;rintro e W' (⟨he,h1,h2⟩ | ⟨he,h1⟩)
   ·exact .inl ⟨he,⟨_,by simp [hq],h1⟩,h2⟩
   ·exact .inr ⟨he,⟨_,by simp [hq],h1⟩⟩
  ·rintro e W' ⟨he,⟨ys,rfl,q,hq,hJ⟩ | ⟨pre,⟨k,hk,rfl⟩,q,hq,hJ⟩⟩
   ·exact⟨he, .inl ⟨q,hq,hJ⟩⟩
   ·exact⟨he, .inr ⟨q,⟨k,hk,hq⟩,hJ⟩⟩

theorem bkim_is:IsBack Tryz.prog 256 3:=by
 refine⟨enters_of Tryz.func256 (by kernel_rfl) rfl,fun m hm B a len cap X w hlen hc hl hI=>?_⟩;have e:(fun x:Fin len=>(#[Value.int .i64 x.val, .agg (X x.val).toArray]:Array Value))=fun x:Fin len=> #[Value.int .i64 x.val, .agg #[(X x.val).getD 0 undef,(X x.val).getD 1 undef,(X x.val).getD 2 undef]]:=by
  funext x;have:=hl x.val;match h:X x.val with
  | [u0,u1,u2]=>rfl
  | []=>rw [h] at this;simp at this
  | [_]=>rw [h] at this;simp at this
  | [_,_]=>rw [h] at this;simp at this
  | _::_::_::_::_=>rw [h] at this;simp at this
 rw [e];refine Rq Fence.wide m trivial rfl hm B w.heap.size a len cap (fun j=>(X j).getD 0 undef) (fun j=>(X j).getD 1 undef) (fun j=>(X j).getD 2 undef) hlen w (World.block_lt_of_cell? w _ hc) (Ah _) hc fun hp=>?_
 obtain⟨b,off,h1,h2,h3⟩:=hI hp;refine⟨b,off,h1,h2,fun j hj=>?_⟩;have h4:=hl j;match h:X j with
 | [u0,u1,u2]=>exact⟨h3 j hj 0 u0 (by rw [h];rfl),h3 j hj 1 u1 (by rw [h];rfl),h3 j hj 2 u2 (by rw [h];rfl)⟩
 | []=>rw [h] at h4;simp at h4
 | [_]=>rw [h] at h4;simp at h4
 | [_,_]=>rw [h] at h4;simp at h4
 | _::_::_::_::_=>rw [h] at h4;simp at h4

end
section
open Go.RowKit
def Ft (l:List Img) (z w:Int):Nat->Option Nat
 | 0=>none
 | k+1=>if (l.getD k iz).zone=z/\(l.getD k iz).what=w then some k else Ft l z w k
def G_ (l:List Tx) (z w:Int):Nat->Option (Nat × Nat)
 | 0=>none
 | k+1=>match Ft (l.getD k tz).images z w (l.getD k tz).images.length with
  | some i=>some (k,i)
  | none=>G_ l z w k
theorem Sa (l:List Img) (z w:Int):∀ k,Dx l z w k=(Ft l z w k).map fun i=>l.getD i iz
 | 0=>rfl
 | k+1=>by
  rw [Dx,Ft,Sa l z w k];split <;> rfl
theorem Oc (l:List Tx) (z w:Int):∀ k,FI l z w k=(G_ l z w k).map fun p=>((l.getD p.1 tz).images.getD p.2 iz,(l.getD p.1 tz).seq)
 | 0=>rfl
 | k+1=>by
  rw [FI,G_,Sa];cases Ft (l.getD k tz).images z w (l.getD k tz).images.length with
  | some i=>rfl
  | none=>exact Oc l z w k
theorem LK {l:List Img} {z w:Int}:∀ {k:Nat},Ft l z w k=none->∀ j,j<k->¬((l.getD j iz).zone=z/\(l.getD j iz).what=w)
 | k+1,h,j,hj=>by
  rw [Ft] at h;split at h
  ·cases h
  ·rename_i hc;rcases Nat.lt_succ_iff_lt_or_eq.1 hj with q | rfl
   ·exact LK h j q
   ·exact hc
theorem Nj {l:List Img} {z w:Int} {j:Nat} (h:(l.getD j iz).zone=z/\(l.getD j iz).what=w):∀ (k:Nat),j<k->(∀ i,j<i->i<k->¬((l.getD i iz).zone=z/\(l.getD i iz).what=w))->Ft l z w k=some j
 | k+1,hj,hn=>by
  rw [Ft];by_cases e:j=k
  ·subst e;rw [if_pos h]
  ·rw [if_neg (hn k (by omega) (by omega))];exact Nj h k (by omega) fun i q1 q2=>hn i q1 (by omega)
theorem LL {l:List Img} {z w:Int} {j:Nat}:∀ {k:Nat},Ft l z w k=some j->j<k/\(l.getD j iz).zone=z/\(l.getD j iz).what=w
 | k+1,h=>by
  rw [Ft] at h;split at h
  ·rename_i hc;obtain rfl:=Option.some.inj h;exact⟨by omega,hc⟩
  ·have:=LL h;exact⟨by omega,this.2⟩
theorem Nk {l:List Tx} {z w:Int} {j i:Nat} (h:Ft (l.getD j tz).images z w (l.getD j tz).images.length=some i):∀ (k:Nat),j<k->(∀ q,j<q->q<k->Ft (l.getD q tz).images z w (l.getD q tz).images.length=none)->G_ l z w k=some (j,i)
 | k+1,hj,hn=>by
  rw [G_];by_cases e:j=k
  ·subst e;rw [h]
  ·rw [hn k (by omega) (by omega)];exact Nk h k (by omega) fun q q1 q2=>hn q q1 (by omega)
theorem LM {l:List Tx} {z w:Int}:∀ (k:Nat),(∀ q,q<k->Ft (l.getD q tz).images z w (l.getD q tz).images.length=none)->G_ l z w k=none
 | 0,_=>rfl
 | k+1,hn=>by
  rw [G_,hn k (by omega)];exact LM k fun q hq=>hn q (by omega)
theorem LN {l:List Tx} {z w:Int} {p:Nat × Nat}:∀ {k:Nat},G_ l z w k=some p->p.1<k/\p.2<(l.getD p.1 tz).images.length
 | k+1,h=>by
  rw [G_] at h;split at h
  ·rename_i i hi;obtain rfl:=Option.some.inj h;exact⟨Nat.lt_succ_self k,(LL hi).1⟩
  ·have:=LN h;exact⟨by omega,this.2⟩
theorem Wj (a:Option Addr) (len cap:Nat) (w:World) :
  Calls Tryz.prog 220 #[.slice a len cap] w fun e w'=>e = .returned (.func (.func 255) #[] #[.pointer (some ⟨w.heap.size,0,none⟩)])/\w.alloc (.cells #[.slice a len cap] 34)=w':=by
 go_enter Tryz.func220,Tryz.ntmps220
 go_wp2
 go_ret
 exact tA
theorem PS (a:Option Addr) (len cap:Nat) (w:World) :
  Calls Tryz.prog 221 #[.slice a len cap] w fun e w'=>e = .returned (.func (.func 256) #[] #[.pointer (some ⟨w.heap.size,0,none⟩)])/\w.alloc (.cells #[.slice a len cap] 110)=w':=by
 go_enter Tryz.func221,Tryz.ntmps221
 go_wp2
 go_ret
 exact tA
theorem Oi {P:Program} {f g:FuncId} {t:TypeId} (hg:W9 P f) (h:∀ a len cap w,Calls P f #[.slice a len cap] w fun e w'=>e = .returned (.func (.func g) #[] #[.pointer (some ⟨w.heap.size,0,none⟩)])/\w.alloc (.cells #[.slice a len cap] t)=w') (x:AV) (Hin:List AB) (hx:∀ c u,Rd x c u->∃ a len cap,u = .slice a len cap):ACalls P false f [x] Hin fun r H=>r = .fn g [.bp Hin.length 0]/\H=Hin ++ [.box t [x]]:=by
 refine⟨hg,fun w0 M0 c us hs hr=>?_⟩;have hr0:=hr;simp only [RdL] at hr;obtain⟨u,_,rfl,hu,rfl⟩:=hr;obtain⟨a,len,cap,rfl⟩:=hx _ _ hu;obtain⟨c',e1,e2,e3,e4⟩:=hs.box t hr0 (by simp [Value.oneCell']);refine(h a len cap c.w).mono ?_;rintro e w' ⟨rfl,rfl⟩;refine⟨_,c',_,_,rfl,by rw [e1],tA,e2,e3,?_,fun e=>by cases e⟩;simp only [Rd,RdL];exact⟨_,rfl,_,_,rfl,by simpa only [Rd] using e4,rfl⟩
theorem N6 {sz n:Nat} {get:Nat->List AV} (c:Ctx) (u:Value) (hu:Rd (.sl sz n get) c u):∃ a len cap,u = .slice a len cap:=by
 simp only [Rd] at hu;obtain⟨a,p,h, -⟩:=hu;exact⟨_,_,_,h⟩
theorem Pg (l:List Tx) (z w:Int) (hl:l.length<=1000000) (hi:∀ t∈l,t.images.length<=1000000):Fn Tryz.prog 169 [Eg l,iv z,iv w] fun r=>r=(match G_ l z w l.length with | some p=> .tp [iv (p.1:Nat),iv (p.2:Nat), .v (.bool true)] | none=> .tp [iv 0,iv 0, .v (.bool false)]):=by
 refine zT Tryz.func169 rfl ?_;conv=>whnf
 refine(Oi ⟨_,Tryz.func220,rfl,by decide⟩ Wj (Eg l) _ N6).mono ?_;rintro _ _ ⟨rfl,rfl⟩;conv=>whnf
 refine aRF.back tys_ok bktx_is (B:=5) (len:=l.length) (E:=fun i=>Eb (l.getD i ⟨0,0,0, []⟩)) rfl rfl tA (by omega) rfl (by decide) rfl [(4, .rp [iv z]),(5, .rp [iv w])] ⟨.inr ⟨0,_,_,rfl,rfl,rfl,rfl⟩, .inr ⟨1,_,_,rfl,rfl,rfl,rfl⟩,tv⟩ (fun i=>(Ft (l.getD i tz).images z w (l.getD i tz).images.length).isSome) ?_ ?_ ?_
 ·intro i hik hh;have hn:Ft (l.getD i tz).images z w (l.getD i tz).images.length=none:=by simpa using hh
  have him:=hi _ (A5 (d:=tz) hik);obtain⟨t,ht⟩:∃ t,t=l.getD i tz:=⟨_,rfl⟩;rw [show l.getD i ⟨0,0,0, []⟩=t from ht.symm];rw [<-ht] at hn him;refine⟨rfl,?_⟩;conv=>whnf
  refine(Oi ⟨_,Tryz.func221,rfl,by decide⟩ PS (Ee t.images) _ N6).mono ?_;rintro _ _ ⟨rfl,rfl⟩;conv=>whnf
  refine aRF.back tys_ok bkim_is (B:=2) (len:=t.images.length) (E:=fun j=>Dv (t.images.getD j ⟨0,0, []⟩)) rfl rfl tA (by omega) rfl (by decide) rfl [(4, .rp [iv z]),(5, .rp [iv w])] ⟨.inl tA, .inl tA,tv⟩ (fun _=>false) ?_ ?_ ?_
  ·intro j hj _;have hnj:=LK hn j hj;refine⟨rfl,?_⟩;conv=>whnf
   by_cases hz:(t.images.getD j ⟨0,0, []⟩).zone=z
   ·rw [show ((t.images.getD j ⟨0,0, []⟩).zone == z)=true from beq_iff_eq.2 hz];conv=>whnf
    rw [show ((t.images.getD j ⟨0,0, []⟩).what == w)=false from beq_eq_false_iff_ne.2 fun e=>hnj ⟨hz,e⟩];conv=>whnf
   ·rw [show ((t.images.getD j ⟨0,0, []⟩).zone == z)=false from beq_eq_false_iff_ne.2 hz];conv=>whnf
  ·intro j hj h;cases h
  ·intro _;conv=>whnf
 ·intro i hik hh;obtain⟨i0,hi0⟩:=Cq.1 hh;have him:=hi _ (A5 (d:=tz) hik);obtain⟨t,ht⟩:∃ t,t=l.getD i tz:=⟨_,rfl⟩;rw [show l.getD i ⟨0,0,0, []⟩=t from ht.symm];rw [<-ht] at hi0 him;refine⟨rfl,?_⟩;conv=>whnf
  refine(Oi ⟨_,Tryz.func221,rfl,by decide⟩ PS (Ee t.images) _ N6).mono ?_;rintro _ _ ⟨rfl,rfl⟩;conv=>whnf
  refine aRF.back tys_ok bkim_is (B:=8) (len:=t.images.length) (E:=fun j=>Dv (t.images.getD j ⟨0,0, []⟩)) rfl rfl tA (by omega) rfl (by decide) rfl [(4, .rp [iv z]),(5, .rp [iv w])] ⟨.inr ⟨0,_,_,rfl,rfl,rfl,rfl⟩, .inr ⟨1,_,_,rfl,rfl,rfl,rfl⟩,tv⟩ (fun j=>decide ((t.images.getD j iz).zone=z/\(t.images.getD j iz).what=w)) ?_ ?_ ?_
  ·intro j hj hnj;have hnj:=of_decide_eq_false hnj;refine⟨rfl,?_⟩;conv=>whnf
   by_cases hz:(t.images.getD j ⟨0,0, []⟩).zone=z
   ·rw [show ((t.images.getD j ⟨0,0, []⟩).zone == z)=true from beq_iff_eq.2 hz];conv=>whnf
    rw [show ((t.images.getD j ⟨0,0, []⟩).what == w)=false from beq_eq_false_iff_ne.2 fun e=>hnj ⟨hz,e⟩];conv=>whnf
   ·rw [show ((t.images.getD j ⟨0,0, []⟩).zone == z)=false from beq_eq_false_iff_ne.2 hz];conv=>whnf
  ·intro j hj hy;have hy:=of_decide_eq_true hy;refine⟨rfl,?_⟩;conv=>whnf
   rw [show ((t.images.getD j ⟨0,0, []⟩).zone == z)=true from beq_iff_eq.2 hy.1];conv=>whnf
   rw [show ((t.images.getD j ⟨0,0, []⟩).what == w)=true from beq_iff_eq.2 hy.2];refine⟨by simp,rfl,fun hord=>?_⟩;refine⟨by simp,rfl,fun hord2=>?_⟩;conv=>whnf
   have hJ:Ft (l.getD i tz).images z w (l.getD i tz).images.length=some j:=by
    rw [<-ht];exact Nj hy _ hj fun q q1 q2=>of_decide_eq_false (hord q q1 q2)
   rw [Nk hJ l.length hik fun q q1 q2=>by simpa using hord2 q q1 q2];exact⟨_,ri,rfl⟩
  ·intro hno;exfalso;have:=LL hi0;exact of_decide_eq_false (hno i0 this.1) this.2
 ·intro hh;have hn:=LM (l:=l) (z:=z) (w:=w) l.length fun q hq=>by simpa using hh q hq
  conv=>whnf
  rw [hn];exact⟨_,ri,rfl⟩
def flatY:AV->Bool
 | .v _=>true
 | .top=>true
 | _=>false
def flatP:AV->Bool
 | .v _=>true
 | .ow _ _=>true
 | .sl _ 0 _=>true
 | _=>false
def flatQ:AV->Bool
 | .v _=>true
 | .ow _ _=>true
 | .ag l=>l.all flatP
 | _=>false
def flatS:List AB->Bool
 | []=>true
 | .row _ _ es::r=>es.flatten.all flatY&&flatS r
 | _::_=>false
theorem P3 {c c':Ctx}:∀ {l:List AV} {us:List Value},l.all flatY=true->RdL l c us->RdL l c' us
 | [],us,_,h=>by simpa only [RdL] using h
 | x::l,us,hf,h=>by
  rw [AX,Ad] at hf;simp only [RdL] at h |-
  obtain⟨u,vs,rfl,h1,h2⟩:=h;refine⟨u,vs,rfl,?_,P3 hf.2 h2⟩;cases x <;> simp [flatY] at hf
  ·simp only [Rd]
  ·simpa only [Rd] using h1
theorem LH {c c':Ctx} (hr:c'.rho=c.rho) (hl:c'.len=c.len) (hd:c'.dom=c.dom) {x:AV} (hx:flatP x=true) {u:Value} (h:Rd x c u):Rd x c' u:=by
 cases x with
 | v y=>simpa only [Rd] using h
 | ow k n=>
  simp only [Rd] at h |-
  rw [hr,hl,hd];exact h
 | sl sz n get=>
  cases n with
  | zero=>
   simp only [Rd] at h |-
   obtain⟨a,k,h1,h2,h3, -⟩:=h;exact⟨a,k,h1,h2,h3, .inl trivial⟩
  | succ n=>cases hx
 | _=>simp [flatP] at hx
theorem VM {c c':Ctx} (hr:c'.rho=c.rho) (hl:c'.len=c.len) (hd:c'.dom=c.dom) {x:AV} (hx:flatQ x=true) {u:Value} (h:Rd x c u):Rd x c' u:=by
 cases x with
 | v y=>exact LH hr hl hd rfl h
 | ow k n=>exact LH hr hl hd rfl h
 | ag l=>
  simp only [Rd] at h |-
  obtain⟨xs,rfl,hxs⟩:=h;refine⟨xs,rfl,?_⟩;simp only [flatQ] at hx;induction l generalizing xs with
  | nil=>simpa only [RdL] using hxs
  | cons y l ih=>
   rw [AX,Ad] at hx;simp only [RdL] at hxs |-
   obtain⟨u,us,rfl,h1,h2⟩:=hxs;exact⟨u,us,rfl,LH hr hl hd hx.1 h1,ih hx.2 us h2⟩
 | _=>simp [flatQ] at hx
theorem flatS_mem:∀ {R:List AB} {y:AB},flatS R=true->y∈R->∃ t sz es,y = .row t sz es/\es.flatten.all flatY=true
 | .row t sz es::r,y,h,hy=>by
  rw [flatS,Ad] at h;rcases Bb.1 hy with rfl | hy
  ·exact⟨t,sz,es,rfl,h.1⟩
  ·exact flatS_mem h.2 hy
theorem ACalls.fnO {P:Program} {q:Bool} {f:FuncId} {args:List AV} {K:AV->List AB->Prop} (h:ACalls P q f args [] K) (hK:∀ r R,K r R->∀ y∈R,∃ t sz es,y = .row t sz es):FnO P f args K:=by
 refine⟨h.go,fun c0 us hg hd hM hr=>?_⟩;let ce:Ctx:={ c0 with base:=0 };have hce:Ext c0 ce:=⟨rfl,rfl,rfl,Ah _,fun _ _ h=>⟨h,rfl⟩,Ah _,fun _ _=>Ah _,fun _ _ _=>rfl,fun _ _ _ h=>h⟩;have hHS:HS (Fl.all c0.w hg) c0.M ce []:=⟨zm _ hg,rfl,hd,fun _ _=>Iff.rfl,hM,by simp,by simp,by simp⟩;refine(h.calls (Fl.all c0.w hg) c0.M ce us hHS (RdL.ext _ hce hr)).mono ?_;rintro e w' ⟨v,c',r,H',rfl,q1,q2,q3,q4,q5, -⟩;exact⟨v,r,c',H',rfl,q2,q1,q3,q5,hK r H' q2⟩
theorem FnO.lendC {P:Program} {f:FuncId} {args args':List AV} {H:List AB} {K:AV->List AB->Prop} {q:Bool} {k:AV->List AB->Prop} (h:FnO P f args' K) (hs:sealA args H fun a _=>a=args') (hk:∀ r R,K r R->∃ R',ConvH R R'/\(flatQ r=true/\flatS R'=true)/\appK H R' 0 fun d H=>Do (r.shift d) fun r=>k r H):ACalls P q f args H k:=by
 refine⟨h.go,fun w0 M0 c us hs0 hr=>?_⟩;obtain⟨l',H',c',rfl,h2,h3,h4,h5,_⟩:=sealA_sound hs0 hr hs;have hglob:globOk c'.closed.w:=h3.glob;have hc:=h.calls c'.closed us hglob rfl h3.lt h5;have ew:c'.closed.w=c.w:=h2
 suffices hh:Calls P f us.toArray c'.closed.w fun e w'=>∃ v c1 r H1,e = .returned v/\c1.w=w'/\k r H1/\HS w0 M0 c1 H1/\Ext c c1/\Rd r c1 v/\(q=true->Old c.w w') by
  rw [ew] at hh;exact hh
 refine hc.mono ?_;rintro e w' ⟨v,r,c1,R1,rfl,q1,rfl,q21,q31, -⟩;obtain⟨R,hconv,⟨f1,f2⟩,hkk⟩:=hk r R1 q1;obtain⟨c2,ew2,q2,x2⟩:=hconv _ _ _ q21;have q3:Rd r c2 v:=Rd.ext _ x2 q31;have q4:∀ y∈R,∃ t sz es,y = .row t sz es:=fun y hy=>by
  obtain⟨t,sz,es,e, -⟩:=flatS_mem f2 hy;exact⟨t,sz,es,e⟩
 -- the same memory;what the caller holds is not read
 obtain⟨c3,e3⟩:∃ c3:Ctx,c3={ c2 with M:=fun b=>c2.M b\/c.M b }:=⟨_,rfl⟩;have hsub:∀ b,b<c.w.heap.size->c'.M b->c.M b:=fun b hb hm=>by
  by_cases hx:c.M b
  ·exact hx
  ·exact absurd hm (h4.keep b hb hx).1
 have hlow:=q2.low;have q2':HS (Fl.all c.w hs0.glob) c.M c3 R:=by
  subst e3;refine⟨⟨?_,?_,?_,?_,?_⟩,q2.base,q2.dom,fun b hb=>?_,fun b hb=>?_,fun i y hi=>?_,fun i y g hi hl ho=>?_,q2.dis⟩
  ·have:=hlow.os;rw [show (Fl.all c'.closed.w hglob).w=c.w from ew] at this;exact this
  ·have:=hlow.tape;rw [show (Fl.all c'.closed.w hglob).w=c.w from ew] at this;exact this
  ·have:=hlow.output;rw [show (Fl.all c'.closed.w hglob).w=c.w from ew] at this;exact this
  ·have:=hlow.size;rw [show (Fl.all c'.closed.w hglob).w=c.w from ew] at this;exact this
  ·intro b hb;have:=hlow.block b (by show b<c'.closed.w.heap.size;rw [ew];exact hb);rw [show (Fl.all c'.closed.w hglob).w=c.w from ew] at this;exact this
  ·have hb':b<c.w.heap.size:=hb;have:=q2.foreign b (by show b<c'.closed.w.heap.size;rw [ew];exact hb');exact⟨fun hx=>hx.elim (fun hx=>hsub b hb' (this.1 hx)) (fun hx=>hx),fun hx=> .inr hx⟩
  ·have hsz:c.w.heap.size<=c2.w.heap.size:=by
    have:=hlow.size;rw [show (Fl.all c'.closed.w hglob).w=c.w from ew] at this;exact this
   rcases hb with hb | hb
   ·exact q2.lt b hb
   ·exact Aq (hs0.lt b hb) hsz
  ·obtain⟨t,sz,es,rfl,hfl⟩:=flatS_mem f2 (D3 hi);obtain⟨a1,a2,a3,xs,a4,a5,a6⟩:=q2.blk i _ hi;exact⟨a1,a2,a3,xs,a4,P3 hfl a5,a6⟩
  ·have:=q2.own i y g hi hl ho;refine⟨.inl this.1,fun hx=>this.2 ?_⟩;show g<c'.closed.w.heap.size;rw [ew];exact hx
 have q3':Rd r c3 v:=VM (by rw [e3]) (by rw [e3]) (by rw [e3]) f1 q3;have q5:c3.w=c2.w:=by rw [e3]
 obtain⟨p1,p2⟩:=hs0.beside (c':=c3) q2' q4;have h1:=BI (appK_iff hkk);rw [Az,<-hs0.dom] at h1;exact⟨v,c.beside c3,_,_,rfl,by show c3.w=_;rw [q5,ew2],h1,p1,p2,Rd.shift r q3',fun _=>by have:=q2'.low.below.old;rw [q5,ew2] at this;exact this⟩
theorem SubL.tops:∀ (l:List AV),SubL l (List.replicate l.length .top)
 | []=>trivial
 | x::l=>⟨fun _ _ _=>by simp [Rd],SubL.tops l⟩
def Gm (x:Gt) (addr stamp:Int):Option (List UInt8):=match BQ x addr with
 | some s=>if s.stamp=stamp then some s.pay else none
 | none=>none
theorem Ve {x:Gt} {addr stamp:Int} {b:List UInt8} (h:Gm x addr stamp=some b):b.length<=x.bytes.length:=by
 unfold Gm BQ at h;split at h
 ·rename_i s hs;split at hs
  ·obtain rfl:=Option.some.inj hs;split at h
   ·obtain rfl:=Option.some.inj h;simp [Cz];omega
   ·cases h
  ·cases hs
 ·cases h
theorem FD (b:Bool):∀ (c:Ctx) (v:Value),Rd (.tp [.v (.slice none 0 0), .v (.bool b)]) c v->Rd (.tp [bA [], .v (.bool b)]) c v:=BL ⟨Bn 1 _,ri,tv⟩
theorem Sc (x:Gt) (addr stamp:Int) (hl:x.bytes.length<=100000):Fn Tryz.prog 209 [.ag (DB x),iv addr,iv stamp] fun r=>r = .tp [bA ((Gm x addr stamp).getD []), .v (.bool (Gm x addr stamp).isSome)]:=by
 have ho:=U6 x.bytes hl;by_cases h0:x.err=0;rotate_left 1
 ·have e:Gm x addr stamp=none:=by
   unfold Gm BQ;rw [if_neg (fun h=>h0 h.1)]
  rw [e];refine zT Tryz.func209 rfl ?_;conv=>whnf
  rw [show (x.err != 0)=true from bne_iff_ne.2 h0];exact⟨_,FD false,rfl⟩
 by_cases h1:CU x.bytes=0;rotate_left 1
 ·have e:Gm x addr stamp=none:=by
   unfold Gm BQ;rw [if_neg (fun h=>h1 h.2.1)]
  rw [e];rw [if_neg h1] at ho;refine zT Tryz.func209 rfl ?_;conv=>whnf
  rw [show (x.err != 0)=false from bne_eq_false_iff_eq.2 h0];conv=>whnf
  refine z_ ho ?_;conv=>whnf
  rw [show (CU x.bytes != 0)=true from bne_iff_ne.2 h1];exact⟨_,FD false,rfl⟩
 rw [if_pos h1,h1] at ho;by_cases h2:C9 x.bytes=addr;rotate_left 1
 ·have e:Gm x addr stamp=none:=by
   unfold Gm BQ;rw [if_neg (fun h=>h2 h.2.2)]
  rw [e];refine zT Tryz.func209 rfl ?_;conv=>whnf
  rw [show (x.err != 0)=false from bne_eq_false_iff_eq.2 h0];conv=>whnf
  refine z_ ho ?_;conv=>whnf
  rw [show ((⟨C9 x.bytes,Cj x.bytes,Cz x.bytes⟩:Sec).addr != addr)=true from bne_iff_ne.2 h2];exact⟨_,FD false,rfl⟩
 have es:BQ x addr=some ⟨C9 x.bytes,Cj x.bytes,Cz x.bytes⟩:=by unfold BQ;rw [if_pos ⟨h0,h1,h2⟩]
 by_cases h3:Cj x.bytes=stamp
 ·have e:Gm x addr stamp=some (Cz x.bytes):=by unfold Gm;rw [es];simp only;rw [if_pos h3]
  rw [e];refine zT Tryz.func209 rfl ?_;conv=>whnf
  rw [show (x.err != 0)=false from bne_eq_false_iff_eq.2 h0];conv=>whnf
  refine z_ ho ?_;conv=>whnf
  rw [show ((⟨C9 x.bytes,Cj x.bytes,Cz x.bytes⟩:Sec).addr != addr)=false from bne_eq_false_iff_eq.2 h2];conv=>whnf
  rw [show ((⟨C9 x.bytes,Cj x.bytes,Cz x.bytes⟩:Sec).stamp != stamp)=false from bne_eq_false_iff_eq.2 h3];exact⟨_,ri,rfl⟩
 ·have e:Gm x addr stamp=none:=by unfold Gm;rw [es];simp only;rw [if_neg h3]
  rw [e];refine zT Tryz.func209 rfl ?_;conv=>whnf
  rw [show (x.err != 0)=false from bne_eq_false_iff_eq.2 h0];conv=>whnf
  refine z_ ho ?_;conv=>whnf
  rw [show ((⟨C9 x.bytes,Cj x.bytes,Cz x.bytes⟩:Sec).addr != addr)=false from bne_eq_false_iff_eq.2 h2];conv=>whnf
  rw [show ((⟨C9 x.bytes,Cj x.bytes,Cz x.bytes⟩:Sec).stamp != stamp)=true from bne_iff_ne.2 h3];exact⟨_,FD false,rfl⟩
theorem Rm (x:Gt) (addr:Int) (e:Ent):DO x addr e=match Gm x addr e.stamp with
  | some b=>if b.length=8/\((CS b:Nat):Int)=e.sum then some b else none
  | none=>none:=by
 unfold DO Gm;cases BQ x addr with
 | none=>rfl
 | some s=>
  simp only;by_cases h:s.stamp=e.stamp
  ·rw [if_pos h];simp only;by_cases h2:s.pay.length=8/\((CS s.pay:Nat):Int)=e.sum
   ·rw [if_pos h2,if_pos ⟨h,h2⟩]
   ·rw [if_neg h2,if_neg (fun q=>h2 q.2)]
  ·rw [if_neg h,if_neg (fun q=>h q.1)]
theorem T4 (x:Gt) (addr:Int) (e:Ent) (hl:x.bytes.length<=100000):Fn Tryz.prog 171 [.ag (DB x),iv addr, .ag (CX e)] fun r=>r = .tp [bA ((DO x addr e).getD []), .v (.bool (DO x addr e).isSome)]:=by
 have hp:=Sc x addr e.stamp hl;rw [Rm];cases hq:Gm x addr e.stamp with
 | none=>
  rw [hq] at hp;refine zT Tryz.func171 rfl ?_;conv=>whnf
  refine z_ hp ?_;conv=>whnf
  apply zV (0) tys_ok mixed (.o [0,1,2,3,4,5,6,7,8,10,11,9,12,13] .fin) (by kernel_rfl);conv=>whnf
  (skip)
  exact⟨_,FD false,rfl⟩
 | some b=>
  rw [hq] at hp;replace hp:Fn Tryz.prog 209 [.ag (DB x),iv addr,iv e.stamp] fun r=>r = .tp [bA b, .v (.bool true)]:=hp
  have hs:=IH b;simp only;by_cases h8:b.length=8;rotate_left 1
  ·rw [if_neg (fun h=>h8 h.1)];refine zT Tryz.func171 rfl ?_;conv=>whnf
   refine z_ hp ?_;conv=>whnf
   apply zV (0) tys_ok mixed (.o [0,1,2,3,4,5,6,7,8,10,11,9,12,13] .fin) (by kernel_rfl);conv=>whnf
   (rw [show ((b.length:Int) != 8)=true from bne_iff_ne.2 (by omega)])
   conv=>whnf
   all_goals
    exact⟨_,FD false,rfl⟩
  by_cases hE:((CS b:Nat):Int)=e.sum
  ·rw [if_pos ⟨h8,hE⟩];refine zT Tryz.func171 rfl ?_;conv=>whnf
   refine z_ hp ?_;conv=>whnf
   apply zV (0) tys_ok mixed (.o [0,1,2,3,4,5,6,7,8,10,11,9,12,13] .fin) (by kernel_rfl);conv=>whnf
   (rw [show ((b.length:Int) != 8)=false from bne_eq_false_iff_eq.2 (by omega)];(conv=>whnf);refine z_ hs ?_)
   conv=>whnf
   all_goals
    rw [show (((CS b:Nat):Int) != e.sum)=false from bne_eq_false_iff_eq.2 hE];exact⟨_,ri,rfl⟩
  ·rw [if_neg (fun h=>hE h.2)];refine zT Tryz.func171 rfl ?_;conv=>whnf
   refine z_ hp ?_;conv=>whnf
   apply zV (0) tys_ok mixed (.o [0,1,2,3,4,5,6,7,8,10,11,9,12,13] .fin) (by kernel_rfl);conv=>whnf
   (rw [show ((b.length:Int) != 8)=false from bne_eq_false_iff_eq.2 (by omega)];(conv=>whnf);refine z_ hs ?_)
   conv=>whnf
   all_goals
    rw [show (((CS b:Nat):Int) != e.sum)=true from bne_iff_ne.2 hE];exact⟨_,FD false,rfl⟩
theorem KQ (g:Geo) (x:Gt) (addr root:Int):CM g x addr root=match Gm x addr root with
  | some b=>Cb g b
  | none=>none:=by
 unfold CM Gm;cases BQ x addr with
 | none=>rfl
 | some s=>
  simp only;by_cases h:s.stamp=root
  ·rw [if_pos h,if_pos h]
  ·rw [if_neg h,if_neg h]
theorem Qg {g:Geo} {b:List UInt8} (hg:Bq g=true):(DG g b=0↔(Cb g b).isSome=true):=by
 unfold DG;rw [hg,if_neg (by decide)];split <;> simp_all
theorem T1 (g:Geo) (x:Gt) (addr root:Int) (hg:Bq g=true) (hl:x.bytes.length<=100000):Fn Tryz.prog 139 [.ag (Ba g), .ag (DB x),iv addr,iv root] fun r=>r = .tp [.ag [BP ((CM g x addr root).getD [])], .v (.bool (CM g x addr root).isSome)]:=by
 have hp:=Sc x addr root hl;have hG:Fn Tryz.prog 51 [.ag (Ba g)] fun r=>r = .v (Fv (Bq g)):=DC g.z g.d g.sp g.sl g.an
 rw [hg] at hG;rw [KQ];cases hq:Gm x addr root with
 | none=>
  rw [hq] at hp;refine zT Tryz.func139 rfl ?_;conv=>whnf
  refine z_ hp ?_;exact⟨_,BL (m:= [.ag [BP []], .v (.bool false)]) ⟨Bk ⟨Bn 3 _,tv⟩,ri,tv⟩,rfl⟩
 | some b=>
  rw [hq] at hp;replace hp:Fn Tryz.prog 209 [.ag (DB x),iv addr,iv root] fun r=>r = .tp [bA b, .v (.bool true)]:=hp
  have hbl:=Ve hq;have hr:=KN g b (by omega);rw [hg,if_pos rfl] at hr;have hz:=Qg (b:=b) hg;simp only;refine zT Tryz.func139 rfl ?_;conv=>whnf
  refine z_ hp ?_;conv=>whnf
  refine z_ hG ?_;conv=>whnf
  refine z_ hr ?_;conv=>whnf
  cases hR:Cb g b with
  | none=>
   rw [hR] at hz;rw [show (DG g b == 0)=false from beq_eq_false_iff_ne.2 fun e=>by have:=hz.1 e;cases this];exact⟨_,ri,rfl⟩
  | some t=>
   rw [hR] at hz;rw [show (DG g b == 0)=true from beq_iff_eq.2 (hz.2 rfl)];exact⟨_,ri,rfl⟩
theorem Vi (a:An) (l:List Tx) (z:Int) (hz:0<=z/\z<a.homes.length) (hl:l.length<=1000000) (hi:∀ t∈l,t.images.length<=1000000):Fn Tryz.prog 136 [.ag (EJ a),Eg l,iv z] fun r=>r = .tp [iv (EB a l z),iv 0]:=by
 have hf:=Pg l z 255 hl hi;have e:Db l z 255=_:=Oc l z 255 l.length;unfold EB;rw [e];cases hA:G_ l z 255 l.length with
 | none=>
  rw [hA] at hf;refine zT Tryz.func136 rfl ?_;conv=>whnf
  rw [show decide (z<0)=false from decide_eq_false (by omega)];conv=>whnf
  rw [show decide (z>=(a.homes.length:Nat))=false from decide_eq_false (by omega)];conv=>whnf
  refine z_ hf ?_;refine⟨⟨by omega,by omega⟩,?_⟩;exact⟨_,ri,rfl⟩
 | some p=>
  obtain⟨k,i⟩:=p;rw [hA] at hf;obtain⟨hk,hi2⟩:=LN hA;simp only at hk hi2;replace hf:Fn Tryz.prog 169 [Eg l,iv z,iv 255] fun r=>r = .tp [iv (k:Nat),iv (i:Nat), .v (.bool true)]:=hf
  have ixA:(0:Int)<=(k:Nat)/\((k:Nat):Int)<(l.length:Nat):=by omega
  refine zT Tryz.func136 rfl ?_;conv=>whnf
  rw [show decide (z<0)=false from decide_eq_false (by omega)];conv=>whnf
  rw [show decide (z>=(a.homes.length:Nat))=false from decide_eq_false (by omega)];conv=>whnf
  refine z_ hf ?_;refine⟨ixA,?_⟩;exact⟨_,ri,rfl⟩
theorem ACalls.lendBox2 {P:Program} {q:Bool} {f:FuncId} {x:AV} {H:List AB} {K:AV->List AB->Prop} (j k:Nat) {t t':TypeId} {sz':Nat} {ar ar2 cs cs2:List AV} {es':List (List AV)} (hj:H[j]? = some (.box t cs)) (hk:H[k]? = some (.row t' sz' es'))
  (he:cs.map (AV.slIn k es'.length (.sl sz' es'.length fun i=>es'.getD i []))=cs2) (ha:ar.map (AV.slIn k es'.length (.sl sz' es'.length fun i=>es'.getD i []))=ar2) (hc:ACalls P q f [x, .ag ar2] ((H.set k .dead).set j (.box t cs2)) K):ACalls P q f [x, .ag ar] H K:=by
 refine⟨hc.go,fun w0 M0 c us hs hr=>?_⟩;subst he;subst ha;have hjk:j≠k:=by rintro rfl;rw [hj] at hk;cases hk
 obtain⟨c1,e1,s1,x1,r1⟩:=hs.freeze hk;have hj1:(H.set k .dead)[j]? = some (.box t cs):=by rw [AC (Ne.symm hjk)];exact hj
 have h8:∀ (l:List AV) (us:List Value),RdL l c us->RdL (l.map (AV.slIn k es'.length (.sl sz' es'.length fun i=>es'.getD i []))) c1 us:=by
  intro l;induction l with
  | nil=>intro us h;simp only [RdL] at h;subst h;simp [RdL]
  | cons x l ih=>
   intro us h;simp only [RdL] at h;obtain⟨u,vs,rfl,a1,a2⟩:=h;simp only [A8,RdL];refine⟨u,vs,rfl,?_,ih vs a2⟩;unfold AV.slIn;split
   ·rename_i i n;split
    ·rename_i hik;subst hik;split
     ·grind
     ·simp [Rd]
    ·exact Rd.ext _ x1 a1
   ·exact Rd.ext _ x1 a1
 have s2:HS w0 M0 c1 ((H.set k .dead).set j (.box t (cs.map (AV.slIn k es'.length (.sl sz' es'.length fun i=>es'.getD i []))))):=by
  refine s1.recell hj1 rfl ?_;rintro⟨g,xs,h1,h2,_,h4⟩;obtain⟨g0,ys,q1,q2,q3,_⟩:=hs.blk j _ hj;have hg:=x1.box j _ (hs.klt hj) q1;rw [h1] at hg;injection hg with hg
  injection hg with hg
  injection hg with hg
  subst hg;rw [e1,q2] at h2;injection h2 with h2
  have hxy:ys.toArray=xs.toArray:=by injection h2
  have hxy:ys=xs:=by simpa using hxy
  subst hxy;exact⟨g,ys,h1,by rw [e1];exact q2,h8 _ _ q3,h4⟩
 have hr2:RdL [x, .ag (ar.map (AV.slIn k es'.length (.sl sz' es'.length fun i=>es'.getD i [])))] c1 us:=by
  simp only [RdL] at hr;obtain⟨u1,_,rfl,p1,u2,_,rfl,p2,rfl⟩:=hr;simp only [Rd] at p2;obtain⟨zs,rfl,p3⟩:=p2;simp only [RdL];exact⟨u1,_,rfl,Rd.ext _ x1 p1,_,_,rfl,by simp only [Rd];exact⟨zs,rfl,h8 _ _ p3⟩,rfl⟩
 have:=hc.calls w0 M0 c1 us s2 hr2;rw [e1] at this;refine this.mono ?_;rintro e w' ⟨v,c',r,H2,rfl,rfl,q1,q2,q3,q4,q5⟩;exact⟨v,c',r,H2,rfl,rfl,q1,q2,x1.trans q3,q4,q5⟩
theorem JW {a s:Int} {p:List UInt8} (h:p.length<=96):(CA a s p).length<=200:=by rw [EQ];omega
theorem Gw.puts {n:Int} {d:Dk} {F:Int->List UInt8} {W l:List Wr} (h:Gw n d F W) (hl:∀ w∈l,(0<=w.addr/\w.addr<n)/\w.bytes.length<=200) (hn:W.length+l.length<=2000):∀ k:Nat,k<=l.length->(d.writes (l.take k)).2.1=k/\(d.writes (l.take k)).2.2=false/\Gw n (d.writes (l.take k)).1 F (W ++ l.take k)
 | 0,_=>⟨rfl,rfl,by rw [List.take_zero,AM];exact h⟩
 | k+1,hk=>by
  obtain⟨q1,q2,q3⟩:=Gw.puts h hl hn k (by omega);have hx:=Ky (d:=d) (l:=l) (k:=k) (by omega) q2;have hm:=hl _ (A5 (d:=(⟨0, []⟩:Wr)) (show k<l.length by omega));obtain⟨e0,hw⟩:=q3.write (by rw [Ai,As];omega) hm.1.1 hm.1.2 hm.2;rw [hx,e0];refine⟨by simp only [q1];rfl,rfl,?_⟩;have e:l.take (k+1)=l.take k ++ [l.getD k ⟨0, []⟩]:=by
   rw [Bi,Ae (by omega),Ab,Ae (by omega)];try rfl
  rw [e,<-A7];exact hw
theorem Gd.putAll {n:Int} {d:Dk} {F:Int->List UInt8} {l:List Wr} (h:Gd n d F) (hl:∀ w∈l,(0<=w.addr/\w.addr<n)/\w.bytes.length<=200) (hn:l.length<=2000):(d.writes l).2.1=l.length/\(d.putAll l).2.1=l.length/\(d.putAll l).2.2=false/\Gd n (d.putAll l).1 (R0 F l):=by
 obtain⟨q1,q2,q3⟩:=Gw.puts h hl (by simpa using hn) l.length (Ah _);rw [Ay] at q1 q2 q3;have e:=Ey q2;rw [if_neg (by rw [q3.left];decide)] at e;rw [e];exact⟨q1,q1,rfl,by simpa using q3.flush⟩
theorem PX {g:Geo} {a:An} (hg:Bq g=true) (ha:Bv g a=true):∀ w∈Bg g a,(0<=w.addr/\w.addr<A4 g)/\w.bytes.length<=200:=fun w hw=>by
 obtain⟨g1,g2,g3,g4,g5⟩:=Ar.1 hg;have hcb:=D_ hg;obtain⟨i,hi,rfl⟩:=Ol hw;exact⟨⟨by show 0<=((i:Nat):Int);omega,by show ((i:Nat):Int)<A4 g;omega⟩,Jl hg ha _⟩
@[reducible] def rwZ (g:Geo) (s:Stt) (d:Dk):List AB:= [.box 83 (Zf g (.bp 1 0) s 0), .box 85 (H0 (.ow 2 d.cells.length) (.ow 6 d.cache.length) d.reqs d.left), .row 128 3 (d.cells.map B5), .dead, .dead, .dead, .row 134 2 (d.cache.map DR)]
theorem R9 {k:Nat} {m:Nat} {x:AV} {n:Nat} (h:n=m):AV.slIn k m x (.ow k n)=x:=by
 subst h;simp [AV.slIn]

def FK (d:Dk) (a:Int) (c:Cel):Dk:={ d with cells:=d.cells.set a.toNat c }
def Dk.fault (d:Dk) (kind a frm bit bits:Int):Dk × Int:=
 if C2 a 0 ((d.cells.length:Int) - 1)=false then (d,1) else if 0<d.cache.length then (d,9) else
 let c:=d.cells.getD a.toNat cz
 if kind=11 then (FK d a { c with state:=if c.state=0 then 1 else c.state },0)
 else if kind=12 then (FK d a { c with state:=2 },0)
 else if kind=13 then (if bit<0\/bits<0 then (d,1) else (FK d a { c with bytes:=Nd c.bytes bit bits },0))
 else if kind=14 then (FK d a { c with bytes:=c.old },0)
 else if kind=15 then (if C2 frm 0 ((d.cells.length:Int) - 1)=false then (d,1) else (FK d a { c with bytes:=(d.cells.getD frm.toNat cz).bytes },0))
 else (d,1)
theorem Wd {d:Dk} {a:Int} (ha:0<=a/\a<d.cells.length):(d.cells.map B5).getD a.toNat []=B5 (d.cells.getD a.toNat cz):=Bf (by omega)
theorem Wc {d:Dk} {a:Int} (ha:0<=a/\a<d.cells.length):FK d a (d.cells.getD a.toNat cz)=d:=by
 unfold FK;obtain⟨c,w,r,l⟩:=d;simp only [Dk.mk.injEq,and_true];simp only at ha;rw [Ab,Ae (by omega),BE,List.set_getElem_self]
structure Q4 where
 a:Int
 b:Int
 c:Int
 d:Int
theorem XK {d:Dk} {a:Int} {c:Cel} (h:DkOk d) (hc:(0<=c.state/\c.state<=2)/\c.bytes.length<=200/\c.old.length<=200):DkOk (FK d a c):=by
 refine⟨by simpa [FK] using h.n,h.m,h.r,h.l,fun x hx=>?_,fun w hw=>by simpa [FK] using h.w w hw⟩;rcases Cm hx with hx | rfl
 ·exact h.c x hx
 ·exact hc
theorem RY {d:Dk} (h:DkOk d) (i:Nat):(0<=(d.cells.getD i cz).state/\(d.cells.getD i cz).state<=2)/\(d.cells.getD i cz).bytes.length<=200/\(d.cells.getD i cz).old.length<=200:=by
 by_cases hi:i<d.cells.length
 ·exact h.c _ (A5 (d:=cz) hi)
 ·rw [Ab,AH (by omega)];exact⟨⟨C7 _,show (0:Int)<=2 by decide⟩,by simp [cz],by simp [cz]⟩
theorem DkOk.fault {d:Dk} (h:DkOk d) (kind a frm bit bits:Int):DkOk (d.fault kind a frm bit bits).1/\(d.fault kind a frm bit bits).1.cells.length=d.cells.length/\(d.fault kind a frm bit bits).1.cache=d.cache/\(d.fault kind a frm bit bits).1.left=d.left/\(d.fault kind a frm bit bits).1.reqs=d.reqs:=by
 have hc:=RY h a.toNat;have hf:=RY h frm.toNat;have go:∀ c:Cel,((0<=c.state/\c.state<=2)/\c.bytes.length<=200/\c.old.length<=200)->DkOk (FK d a c)/\(FK d a c).cells.length=d.cells.length/\(FK d a c).cache=d.cache/\(FK d a c).left=d.left/\(FK d a c).reqs=d.reqs:=fun c h1=>⟨XK h h1,by simp [FK],rfl,rfl,rfl⟩
 have st:DkOk d/\d.cells.length=d.cells.length/\d.cache=d.cache/\d.left=d.left/\d.reqs=d.reqs:=⟨h,rfl,rfl,rfl,rfl⟩;unfold Dk.fault;split
 ·exact st
 ·split
  ·exact st
  ·simp only;split
   ·refine go _ ⟨?_,hc.2⟩;simp only;split
    ·exact⟨by decide,by decide⟩
    ·exact hc.1
   ·split
    ·exact go _ ⟨⟨show (0:Int)<=2 by decide,C7 2⟩,hc.2⟩
    ·split
     ·split
      ·exact st
      ·exact go _ ⟨hc.1,by simp only [GQ];exact hc.2.1,hc.2.2⟩
     ·split
      ·exact go _ ⟨hc.1,hc.2.2,hc.2.2⟩
      ·split
       ·split
        ·exact st
        ·exact go _ ⟨hc.1,hf.2.1,hc.2.2⟩
       ·exact st
end
section
open Go.RowKit Go.ChangeShapes Go.WideShapes Go.ChangeAt Go.Deep
section
variable {H:Type} {enc:TypeId × Value->H} {w:World}
end
end
section
open Go.RowKit
structure Q2 where
 a:Int
 b:Int
section
open Go.ChangeShapes Go.WideShapes Go.ChangeAt Go.Deep
variable {H:Type} {enc:TypeId × Value->H} {w:World}
end
structure Md where
 a:An
 l:List Tx
 F:Int->List UInt8
 m:List (List UInt8)
def ZV (g:Geo) (M:Md) (lba:Int) (b:List UInt8) (M':Md):Prop:=
 (CT M.l+4<=g.sl/\(G7 g (Bt M.a M.l) M.F (lba.tdiv g.d)).isSome=true/\∃ W:List Wr,(∀ w∈W,(g.an<=w.addr/\w.addr<g.an+2*g.sl/\C9 w.bytes=w.addr)/\w.bytes.length<=200)/\M'=⟨M.a,M.l ++ [I4 g M.a M.l M.F lba b],R0 M.F W,M.m.set lba.toNat b⟩)
 \/((g.sl<CT M.l+4\/G7 g (Bt M.a M.l) M.F (lba.tdiv g.d)=none)/\M'=M)
def ZP (g:Geo) (M:Md):Md:=match M.l with
 | []=>M
 | x::r=>⟨O5 g M.a x,r,U2 g M.a x M.F,M.m⟩
def Kk (n:Int) (F:Int->List UInt8) (q:Int):List UInt8:=if -n<=q/\q<n then F q else []
def EP (g:Geo):Md:=⟨D9 (B_ g ⟨#[]⟩) 0, [],Kk (A4 g) (QH g (D9 (B_ g ⟨#[]⟩) 0)),List.replicate (g.z*g.d).toNat zero8⟩
structure Vo (g:Geo) (K:Int) (M:Md):Prop where
 an:Bv g M.a=true
 ring:CD g M.l M.a.seq M.a.pos g.sl=true
 gen:M.a.gen<=K
 seq:M.a.seq+M.l.length<=K
 one:∀ t∈M.l,OneTab t.images
 fb:∀ q,(M.F q).length<=200
 m:(M.m.length:Int)=g.z*g.d
theorem Vo.vol {g:Geo} {K:Int} {M:Md} (h:Vo g K M) {d:Dk} (hd:Gd (A4 g) d M.F):Vol g K d (Bt M.a M.l):=⟨⟨_,hd⟩,h.an,h.ring,tA,h.gen,h.seq,h.one⟩
theorem Vo.of {g:Geo} {K:Int} {M:Md} {d:Dk} (h:Vol g K d (Bt M.a M.l)) (hf:∀ q,(M.F q).length<=200) (hm:(M.m.length:Int)=g.z*g.d):Vo g K M:=⟨h.an,h.ring,h.gen,h.seq,h.one,hf,hm⟩
theorem MR {a:Int}:∀ (n:Nat) (l:List Wr) (w:Wr),l.length=n->Id l a=some w->w∈l
 | 0,l,w,hn,h=>by
  obtain rfl:=AQ.1 hn;rw [MQ] at h;cases h
 | n+1,l,w,hn,h=>by
  rcases CB l with rfl | ⟨m,x,rfl⟩
  ·cases hn
  ·rw [CC] at h |-
   rw [Is] at h;split at h
   ·obtain rfl:=Option.some.inj h;simp
   ·exact List.mem_append_left _ (MR n m w (by simpa using hn) h)
theorem Us {F:Int->List UInt8} {n:Nat} (hF:∀ q,(F q).length<=n) {W:List Wr} (hW:∀ w∈W,w.bytes.length<=n) (q:Int):(R0 F W q).length<=n:=by
 induction W generalizing F with
 | nil=>exact hF q
 | cons w W ih=>
  refine ih (F:=Yg F w) (fun q=>?_) fun x hx=>hW x (AY _ hx)
  unfold Yg;split
  ·split
   ·exact hW w List.mem_cons_self
   ·exact hF q
  ·split
   ·exact hF _
   ·exact hF q
theorem U1 {g:Geo} (hg:Bq g=true) {a:An} {x:Tx} (ha:Bv g (O5 g a x)=true) {F:Int->List UInt8} (hF:∀ q,(F q).length<=200) (hx:∀ y∈x.images,Bz g y=true) (q:Int):(U2 g a x F q).length<=200:=by
 unfold U2;refine Us (Us hF fun w hw=>?_) (fun w hw=>(PX hg ha w hw).2) q;obtain⟨y,hy,hw⟩:=L1.1 hw;have:=Gy hg (hx y hy);unfold V0 at hw;split at hw
 ·simp only [Bb,List.not_mem_nil,or_false] at hw;rcases hw with rfl | rfl <;> exact JW (by omega)
 ·rw [AF] at hw;rw [hw];exact JW (by omega)
theorem Vo.ck {g:Geo} (hg:Bq g=true) {K:Int} {M:Md} (h:Vo g K M) (hK:K<=4294967294) {d d':Dk} (hd:Gd (A4 g) d M.F) (hd':Gd (A4 g) d' (ZP g M).F):Vo g (K+1) (ZP g M):=by
 obtain⟨a,l,F,m⟩:=M;cases l with
 | nil=>exact⟨h.an,h.ring,by have q:a.gen<=K:=h.gen;show a.gen<=K+1;omega,by have q:a.seq+(([]:List Tx).length:Int)<=K:=h.seq;show a.seq+(([]:List Tx).length:Int)<=K+1;omega,h.one,h.fb,h.m⟩
 | cons x r=>
  have hv:=h.vol hd;have h2:=hv.home hg (x:=x) (r:=r) rfl hK (d':=d') ⟨_,hd'⟩;have hi:=(DV h.ring x (List.mem_cons_self)).1;exact Vo.of (d:=d') h2 (U1 hg h2.an h.fb (Av.1 hi)) h.m
theorem Gd.clip {n:Int} {d:Dk} {F:Int->List UInt8} (h:Gd n d F):Gd n d (Kk n F)/\∀ q,(Kk n F q).length<=200:=by
 have hl:=h.len;refine⟨⟨h.ok,h.left,h.len,h.cache,fun q h0 h1=>?_,fun q h0 h1=>?_⟩,fun q=>?_⟩
 ·have:=h.cell q h0 h1;unfold Kk;rw [if_pos ⟨by omega,h1⟩];exact this
 ·have:=h.old q h0 h1;unfold Kk;rw [if_pos ⟨by omega,by omega⟩];exact this
 ·unfold Kk;split
  ·rename_i hq;by_cases h0:0<=q
   ·have hc:=(h.cell q h0 hq.2).2;rw [<-hc];exact(h.ok.c _ (A5 (by omega))).2.1
   ·have hc:=h.old (-1 - q) (by omega) (by omega);rw [show -1 - (-1 - q)=q by omega] at hc;rw [<-hc];exact(h.ok.c _ (A5 (by omega))).2.2
  ·simp
theorem XS {g:Geo} (hg:Bq g=true):∃ D,C_ g (GO g ⟨#[]⟩)=(D,0,Bt (EP g).a (EP g).l)/\DkOk (GO g ⟨#[]⟩)/\((GO g ⟨#[]⟩).cells.length:Int)=A4 g/\Gd (A4 g) D (EP g).F/\Vo g 2 (EP g):=by
 obtain⟨D,h1,h2,h3,h4,h5⟩:=Yy hg;obtain⟨q1,q2⟩:=h5.clip;refine⟨D,h1,h2,h3,q1,Vo.of (d:=D) (M:=EP g) ⟨⟨_,q1⟩,h4.an,h4.ring,h4.rest,h4.gen,h4.seq,h4.one⟩ q2 ?_⟩;obtain⟨g1,g2,g3,g4,g5⟩:=Ar.1 hg;have:0<=g.z*g.d:=CO (by omega) (by omega);show (((List.replicate (g.z*g.d).toNat zero8).length:Nat):Int)=_;rw [BC];omega
structure Gc (n:Int) (d:Dk) (F:Int->List UInt8) (l:List Wr):Prop where
 ok:DkOk d
 len:(d.cells.length:Int)=n
 cache:d.cache=l
 cell:∀ a:Int,0<=a->a<n->(d.cells.getD a.toNat cz).state=0/\(d.cells.getD a.toNat cz).bytes=F a
theorem Gw.gc {n:Int} {d:Dk} {F:Int->List UInt8} {l:List Wr} (h:Gw n d F l):Gc n d F l:=⟨h.ok,h.len,h.cache,h.cell⟩
theorem Gc.write {n:Int} {d:Dk} {F:Int->List UInt8} {l:List Wr} (h:Gc n d F l) (hl:l.length<2000) {a:Int} (h0:0<=a) (h1:a<n) {b:List UInt8} (hb:b.length<=200):(d.left=0/\d.write a b=(d,8))\/(d.left≠0/\(d.write a b).2=0/\Gc n (d.write a b).1 F (l ++ [⟨a,b⟩])):=by
 by_cases hz:d.left=0
 ·exact .inl ⟨hz,by unfold Dk.write;rw [if_pos hz]⟩
 ·have hw:=h.ok.write (a:=a) (b:=b) (by rw [<-h.len] at h1;omega) hb;have e:d.write a b=({ d.req with cache:=d.cache ++ [⟨a,b⟩] },0):=by
   unfold Dk.write;rw [if_neg hz,if_neg];rintro(h2 | h2)
   ·have:=(h.cell a h0 h1).1;unfold cz at this;omega
   ·rw [h.cache] at h2;omega
  rw [e] at hw |-
  exact .inr ⟨hz,rfl,hw,h.len,by rw [h.cache],h.cell⟩
theorem Gc.puts {n:Int} {d:Dk} {F:Int->List UInt8} {W l:List Wr} (h:Gc n d F W) (hl:∀ w∈l,(0<=w.addr/\w.addr<n)/\w.bytes.length<=200) (hn:W.length+l.length<=2000):∀ k:Nat,k<=l.length->(d.writes (l.take k)).2.2=false->(d.writes (l.take k)).2.1=k/\Gc n (d.writes (l.take k)).1 F (W ++ l.take k)
 | 0,_,_=>⟨rfl,by rw [List.take_zero,AM];exact h⟩
 | k+1,hk,hv=>by
  have hx0:=FV d (l:=l) (k:=k) (by omega);have hv0:(d.writes (l.take k)).2.2=false:=by
   cases hc:(d.writes (l.take k)).2.2 with
   | false=>rfl
   | true=>
    rw [hx0] at hv;unfold Fx at hv;rw [hc] at hv;simp only [if_true] at hv;rw [hc] at hv;cases hv
  obtain⟨q1,q3⟩:=Gc.puts h hl hn k (by omega) hv0;have hx:=Ky (d:=d) (l:=l) (k:=k) (by omega) hv0;have hm:=hl _ (A5 (d:=(⟨0, []⟩:Wr)) (show k<l.length by omega));rcases q3.write (by rw [Ai,As];omega) hm.1.1 hm.1.2 hm.2 with ⟨-,e8⟩ | ⟨-,e0,hw⟩
  ·rw [hx,e8] at hv;cases hv
  ·rw [hx,e0];have e:l.take (k+1)=l.take k ++ [l.getD k ⟨0, []⟩]:=by
    rw [Bi,Ae (by omega),Ab,Ae (by omega)];try rfl
   refine⟨by simp only [q1];rfl,?_⟩;rw [e,<-A7];exact hw
theorem Gc.flush {n:Int} {d:Dk} {F:Int->List UInt8} {l:List Wr} (h:Gc n d F l):Gc n d.flush (R0 F l) []:=by
 have e:d.flush=⟨CH d.cells l, [],d.req.reqs,d.req.left⟩:=by
  unfold Dk.flush;rw [allFin_cells,h.cache];try rfl
 have ho:=h.ok.flush;rw [e] at ho |-
 refine⟨ho,by show ((CH d.cells l).length:Int)=n;rw [finL_len];exact h.len,rfl,fun a h0 h1=>?_⟩;have hl:=h.len;refine Od h0 (by omega) (h.cell a h0 h1) _ l rfl fun w hw=>?_
 rw [<-h.cache] at hw;exact(h.ok.w w hw).1.1
theorem Gc.putAll {n:Int} {d:Dk} {F:Int->List UInt8} {l:List Wr} (h:Gc n d F []) (hl:∀ w∈l,(0<=w.addr/\w.addr<n)/\w.bytes.length<=200) (hn:l.length<=2000) (hv:(d.putAll l).2.2=false):(d.putAll l).2.1=l.length/\Gc n (d.putAll l).1 (R0 F l) []:=by
 cases hw:(d.writes l).2.2 with
 | true=>rw [Fq hw] at hv;cases hv
 | false=>
  have hp:=Gc.puts h hl (by simpa using hn) l.length (Ah _);rw [Ay] at hp;obtain⟨q1,q2⟩:=hp hw;have e:=Ey hw;by_cases h0:(d.writes l).1.left=0
  ·rw [if_pos h0] at e;rw [e] at hv;cases hv
  ·rw [if_neg h0] at e;rw [e];exact⟨q1,by simpa using q2.flush⟩

theorem MF (g:Geo) (w:Int) (hw : -1<=w/\w<g.d):Fn Tryz.prog 223 [.ag (Ba g),iv w] fun r=>r = .tp [iv (F0 g w), .v (.bool true)]:=by
 unfold F0;by_cases h:w = -1
 ·rw [if_pos h];refine zT Tryz.func223 rfl ?_;conv=>whnf
  rw [show (w == -1)=true by simpa using h];exact⟨_,ri,rfl⟩
 ·rw [if_neg h];refine zT Tryz.func223 rfl ?_;conv=>whnf
  rw [show (w == -1)=false by simpa using h];refine zA tys_ok mixed [0,1,2,3,4,5,6,7,8,9,10] (by kernel_rfl) ?_;conv=>whnf
  rw [show decide (w>=0)=true from decide_eq_true (by omega)];conv=>whnf
  rw [show decide (w<g.d)=true from decide_eq_true (by omega)];exact⟨_,ri,rfl⟩
theorem LV {g:Geo} {a:An} (hg:Bq g=true) (ha:Bv g a=true):a.label.size<=1000000/\a.homes.length<=1000/\∀ h∈a.homes,h.places.length<=1000000:=by
 have:=G4 hg ha 0 (Aj _);exact⟨by have:=this.2.2.2.1;omega,by have:=this.2.1;omega,fun h hh=>Kn hg ha h hh⟩
theorem SP (g:Geo) (a:An) (z w:Int) (hg:Bq g=true) (ha:Bv g a=true) (hz:0<=z/\z<g.z) (hw : -1<=w/\w<g.d):Fn Tryz.prog 222 [.ag (Ba g), .ag (EJ a),iv z,iv w] fun r=>r = iv 0:=by
 obtain⟨s1,s2, -⟩:=LV hg ha;have c1:=Nv g a s1 (by omega);rw [hg,ha] at c1;have c2:=MF g w hw;refine zT Tryz.func222 rfl ?_;conv=>whnf
 refine z_ c1 ?_;conv=>whnf
 refine z_ c2 ?_;conv=>whnf
 rw [show decide (z<0)=false from decide_eq_false (by omega)];conv=>whnf
 rw [show decide (z>=g.z)=false from decide_eq_false (by omega)];exact⟨_,ri,rfl⟩
theorem Vg (g:Geo) (a:An) (z w:Int) (hg:Bq g=true) (ha:Bv g a=true) (hz:0<=z/\z<g.z) (hw : -1<=w/\w<g.d):Fn Tryz.prog 170 [.ag (Ba g), .ag (EJ a),iv z,iv w] fun r=>r = .tp [iv (DF g a z w),iv 0]:=by
 obtain⟨g1,g2,g3,g4,g5⟩:=Ar.1 hg;obtain⟨hi,hh⟩:=V3 ha hz;simp only [DL,Ad,decide_eq_true_eq,AD] at hh;obtain⟨p1,p2,p3,p4⟩:=hh;have hat:0<=F0 g w/\F0 g w<=g.d:=by unfold F0;split <;> omega
 have hk:(F0 g w).toNat<(a.homes.getD z.toNat ⟨[],0,0⟩).places.length:=by omega
 have hp:=Av.1 p4 (F0 g w).toNat (by simpa using hk);simp only [Ad,AD] at hp;have c1:=SP g a z w hg ha hz hw;have c2:=MF g w hw;have c3:=V6 g z ((a.homes.getD z.toNat ⟨[],0,0⟩).places.getD (F0 g w).toNat 0) hg hz (by unfold CG;omega);refine zT Tryz.func170 rfl ?_;conv=>whnf
 refine z_ c1 ?_;conv=>whnf
 refine z_ c2 ?_;conv=>whnf
 apply zL tys_ok mixed (.o [0,1,2,3,4,5,6,7,8,9,10,11,12,13,14,15] .fin) [8,9,27,28,29,30,31,32,33,34,35,36,37,38,39,40] (by kernel_rfl)
 ·conv=>whnf
  try (refine Af (by first | omega | exact ixA | exact ixB | (simp;done)) ?_;conv=>whnf)
  try (refine Af (by first | omega | exact ixA | exact ixB | (simp;done)) ?_;conv=>whnf)
  refine z_ c3 ?_;exact tA
 exact⟨_,ri,rfl⟩
theorem MY (g:Geo) (lba:Int) (hg:Bq g=true) (h:0<=lba/\lba<g.z*g.d):Fn Tryz.prog 103 [.ag (Ba g),iv lba] fun r=>r = .tp [iv (lba.tdiv g.d),iv (lba.tmod g.d),iv 0]:=by
 obtain⟨h1,h2,h3,h4,h5⟩:=Ar.1 hg;have hG:Fn Tryz.prog 51 [.ag (Ba g)] fun r=>r = .v (Fv (Bq g)):=DC g.z g.d g.sp g.sl g.an
 rw [hg] at hG;have hp:g.z*g.d<=16:=Int.le_trans (Ci h1.2 (by omega)) (by omega);have hw:IntKind.i64.wrap (IntKind.i64.wrap (g.z*g.d) - 1)=g.z*g.d - 1:=by rw [wi (n:=g.z*g.d) (by omega),wi (by omega)]
 have hn:=Iz lba 0 (IntKind.i64.wrap (IntKind.i64.wrap (g.z*g.d) - 1));rw [show C2 lba 0 (IntKind.i64.wrap (IntKind.i64.wrap (g.z*g.d) - 1))=true from AD.2 (by rw [hw];omega)] at hn;have hq:lba.tdiv g.d=lba / g.d:=Bj h.1;have hq2:0<=lba / g.d/\lba / g.d<=lba:=⟨Ds h.1 (by omega),Int.ediv_le_self _ h.1⟩;refine zT Tryz.func103 rfl ?_;conv=>whnf
 refine z_ hG ?_;conv=>whnf
 refine z_ hn ?_;conv=>whnf
 have hd0:g.d≠0:=by omega
 refine zA tys_ok mixed [0,1,2,3,4,5,6,7,8,9,10] (by kernel_rfl) ?_;refine⟨hd0,?_⟩;refine⟨hd0,?_⟩;exact⟨_,ri,by rw [wi (n:=lba.tdiv g.d) (by omega)]⟩
theorem TH (g:Geo) (w:Int):Fn Tryz.prog 172 [.ag (Ba g),iv w] fun r=>r = iv (F0 g w):=by
 unfold F0;by_cases h:w = -1
 ·rw [if_pos h];refine zT Tryz.func172 rfl ?_;conv=>whnf
  rw [show (w == -1)=true by simpa using h];exact⟨_,ri,rfl⟩
 ·rw [if_neg h];refine zT Tryz.func172 rfl ?_;conv=>whnf
  rw [show (w == -1)=false by simpa using h];exact⟨_,ri,rfl⟩
end
section
open Go.RowKit Go.Maps
theorem Fn.at {P:Program} {f:FuncId} {args:List AV} {K:AV->Prop} (h:Fn P f args K) {c0:Ctx} (hd:c0.dom=0) (hM:∀ b,c0.M b->b<c0.w.heap.size) (hg:globOk c0.w) {W:World} (hB:Below c0.w.heap.size c0.w W) {us:List Value} (hr:RdL args { c0 with w:=W } us) :
  Calls P f us.toArray W fun e w'=>∃ v r,e = .returned v/\K r/\Below W.heap.size W w'/\Rd r { c0 with w:=w' } v:=
 h.2 { c0 with w:=W } us hd (fun b hb=>Aq (hM b hb) hB.size) (hg.keep hB.size hB.block) hr
theorem MG {w w':World} {P:Program} {k:TypeId} {R:Value->Option (DataW Unit × List MemPlace)} {b n:Nat} {D:DataW Unit} (h:w.ownsMap P k R b n D) (hB:Below w.heap.size w w'):w'.ownsMap P k R b n D:=by
 have hl:=h.lt;obtain⟨es,clock,hb,r⟩:=h;exact⟨es,clock,(hB.block b hl).trans hb,r⟩
theorem und_map:Tryz.prog.underlying 303=some (.map 3 4):=by kernel_rfl
theorem und_int:Tryz.prog.underlying 3=some (.int .i64):=by kernel_rfl
theorem und_bool:Tryz.prog.underlying 4=some .bool:=by kernel_rfl
theorem S9 (g:Geo) (A:Int) (hg:Bq g=true) (h:0<=A/\A<g.z*g.d):Fn Tryz.prog 175 [.ag (Ba g),iA [A]] fun r=>r = .tp [iv 4,iv 0]:=by
 refine⟨⟨_,Tryz.func175,rfl,by decide⟩,fun c0 us hd hM hgl hr=>?_⟩;obtain⟨u1,u2,rfl,h1,h2⟩:=Z6 hr;have hu1:u1 = .agg #[.int .i64 g.z, .int .i64 g.d, .int .i64 g.sp, .int .i64 g.sl, .int .i64 g.an]:=by
  simp only [Ba,Rd,RdL] at h1;obtain⟨xs,rfl,a1,_,rfl,rfl,a2,_,rfl,rfl,a3,_,rfl,rfl,a4,_,rfl,rfl,a5,_,rfl,rfl,rfl⟩:=h1;rfl
 have hs:=Qh h2;obtain⟨a,k,rfl⟩:=hs.form;subst hu1;have hC:Fn Tryz.prog 51 [.ag (Ba g)] fun r=>r = .v (Fv (Bq g)):=DC g.z g.d g.sp g.sl g.an
 rw [hg] at hC;have hS:=MY g A hg h;have hX:=Ps [] A (by decide);have hkb:k<=maxLen:=hs.cap.2.2;obtain⟨b,o,rfl, -,hx⟩:=NW hs (k:=0) (show 0<1 by decide);have rg:∀ W,Rd (.ag (Ba g)) { c0 with w:=W } (.agg #[.int .i64 g.z, .int .i64 g.d, .int .i64 g.sp, .int .i64 g.sl, .int .i64 g.an]):=fun W=>by
  simp [Rd,RdL,Ba]
 have cC:∀ W,Below c0.w.heap.size c0.w W->Calls Tryz.prog 51 #[.agg #[.int .i64 g.z, .int .i64 g.d, .int .i64 g.sp, .int .i64 g.sl, .int .i64 g.an]] W fun e w'=>e = .returned (.int .i64 0)/\Below W.heap.size W w':=fun W hB=>(hC.at hd hM hgl hB (us:= [_]) (by simpa [RdL] using rg W)).mono fun e w' ⟨v,r,h1,h2,h3,h4⟩=>by
  subst h2;simp only [Rd] at h4;subst h4;exact⟨h1,h3⟩
 have cS:∀ W,Below c0.w.heap.size c0.w W->Calls Tryz.prog 103 #[.agg #[.int .i64 g.z, .int .i64 g.d, .int .i64 g.sp, .int .i64 g.sl, .int .i64 g.an], .int .i64 A] W fun e w'=>e = .returned (.tuple #[.int .i64 (A.tdiv g.d), .int .i64 (A.tmod g.d), .int .i64 0])/\Below W.heap.size W w':=fun W hB=>(hS.at hd hM hgl hB (us:= [_,_]) (by simpa [RdL,Rd] using rg W)).mono fun e w' ⟨v,r,h1,h2,h3,h4⟩=>by
  subst h2;simp only [Rd,RdL] at h4;obtain⟨xs,rfl,a1,_,rfl,rfl,a2,_,rfl,rfl,a3,_,rfl,rfl,rfl⟩:=h4;exact⟨h1,h3⟩
 have cX:∀ W v,Below c0.w.heap.size c0.w W->Rd (iA []) { c0 with w:=W } v->Calls Tryz.prog 115 #[v, .int .i64 A] W fun e w'=>e = .returned (.bool false)/\Below W.heap.size W w':=fun W v hB hv=>(hX.at hd hM hgl hB (us:= [v,_]) (by simpa [RdL,Rd] using hv)).mono fun e w' ⟨v,r,h1,h2,h3,h4⟩=>by
  subst h2;simp only [Rd] at h4;subst h4;exact⟨h1,h3⟩
 have hmm:=@run_makeMap Tryz.prog;clear hC hS hX hr h2 h1 hs rg
 go_enter Tryz.func175,Tryz.ntmps175
 go_wp2_with fail
 have hB1:Below c0.w.heap.size c0.w (c0.w.alloc (.cells #[.int .i64 g.z, .int .i64 g.d, .int .i64 g.sp, .int .i64 g.sl, .int .i64 g.an] 23)):=(Below.refl _ _).alloc (Ah _) _;((with_reducible refine(cC _ hB1).mono ?_);rintro e w1 ⟨rfl,hBa⟩);have hs1:c0.w.heap.size+1<=w1.heap.size:=by have:=hBa.size;simpa using this
 have hBw:=Lib.hid (hB1.trans (hBa.mono (by simp)));have hbk:=Lib.hid ((hBa.block c0.w.heap.size (by simp)).trans (heap_alloc_new _ _));clear hB1 hBa cC
 go_wp2_with fail
 refine wp_loop_rounds 2 ?_;rw [rounds_succ];have hB2:=Lib.hid (hBw.out.alloc (by omega) (.map #[] 0));have hcell:∀ i,(w1.alloc (.map #[] 0)).cell? ⟨c0.w.heap.size,i,none⟩ = #[Value.int .i64 g.z, .int .i64 g.d, .int .i64 g.sp, .int .i64 g.sl, .int .i64 g.an][i]? :=fun i=>by
  simp only [World.cell?];rw [Below.heap_alloc _ _ _ (by omega),hbk.out];try rfl
 have hx2:(w1.alloc (.map #[] 0)).cell? ⟨b,o,none⟩=some (.int .i64 A):=by
  have q:=World.block_lt_of_cell? c0.w _ hx;exact(hB2.out.cell (by exact q)).trans hx
 have hown:(w1.alloc (.map #[] 0)).ownsMap Tryz.prog 3 (plainElem (H:=Unit) Tryz.prog 4) w1.heap.size 0 (.map []):=World.ownsMap_made _ _ _ _;generalize hW:w1.alloc (.map #[] 0)=W2 at *
 go_wp2_with fail
 ((with_reducible refine(cS _ hB2.out).mono ?_);rintro e w2 ⟨rfl,hBb⟩);have hB3:=Lib.hid (hB2.out.trans (hBb.mono hB2.out.size));have hown2:=MG hown hBb;have hs2:=hBb.size;have hs3:c0.w.heap.size<W2.heap.size:=by rw [<-hW];simp;omega
 have hcell2:∀ i,w2.cell? ⟨c0.w.heap.size,i,none⟩ = #[Value.int .i64 g.z, .int .i64 g.d, .int .i64 g.sp, .int .i64 g.sl, .int .i64 g.an][i]? :=fun i=>(hBb.cell (p:=⟨c0.w.heap.size,i,none⟩) hs3).trans (hcell i)
 clear hcell hx2 hown cS
 go_wp2_with fail
 ((with_reducible refine(cX _ _ hB3.out ?_).mono ?_))
 ·simp only [iA,Rd];exact⟨_,k,rfl,Aj _,hkb, .inl rfl⟩
 rintro e w3 ⟨rfl,hBc⟩;have hB4:=Lib.hid (hB3.out.trans (hBc.mono hB3.out.size));have hown3:=MG hown2 hBc;have hs4:=hBc.size;have hZ:(Lit.int .i64 (A.tdiv g.d)).wf=true:=by
  obtain⟨h1,h2,h3,h4,h5⟩:=Ar.1 hg;have hp:g.z*g.d<=16:=Int.le_trans (Ci h1.2 (by omega)) (by omega);have hq:A.tdiv g.d=A / g.d:=Bj h.1;have hq2:0<=A / g.d/\A / g.d<=A:=⟨Ds h.1 (by omega),Int.ediv_le_self _ h.1⟩;have : -9223372036854775808<=A.tdiv g.d/\A.tdiv g.d<=9223372036854775807:=by omega
  simp only [Lit.wf];rw [Ad];exact⟨decide_eq_true this.1,decide_eq_true this.2⟩
 have hkey:keyOf Tryz.prog 3 (.int .i64 (A.tdiv g.d))=some (.int .i64 (A.tdiv g.d)):=keyOf_int_mk und_int hZ;clear hcell2 hown2 cX
 go_wp2_with (first
  | (at_mapUpdate;refine wpList_mapUpdate_own _ rfl _ _ _ 303 rfl 3 4 (int_keyed und_int) und_map (plainElem (H:=Unit) Tryz.prog 4) w1.heap.size 0 _ rfl hown3 (by unfold maxLen;omega) _ _ _ rfl rfl hkey _ [] (plainElem_bool und_bool true) ?_;intro w4 hown4 hgrow4)
  | go_in)
 rw [rounds_succ];have hsz:Maps.size ((DataW.map (H:=Unit) []).put (Lit.int .i64 (A.tdiv g.d)) (.lit (.bool true)))=1:=rfl;have hB5:=Lib.hid (hB4.out.grown hgrow4 (by have:=hB4.out.size;omega) (fun j hj=>by cases hj;omega))
 go_wp2_with (first
  | (at_len;refine wpList_len_own _ rfl _ 303 rfl 3 4 und_map _ w1.heap.size (0+1) _ rfl hown4 ?_)
  | go_in)
 go_ret2
 refine⟨_,_,rfl,rfl,hB5.out,?_⟩;simp only [Rd,RdL];exact⟨_,rfl,_,_,rfl,rfl,_,_,rfl,rfl,rfl⟩
end
section
open Go.RowKit
theorem HJ (l:List Tx) (z w:Int) (hl:l.length<=1000000) (hi:∀ t∈l,t.images.length<=1000000/\∀ x∈t.images,x.bytes.length<=1000000000):ACalls Tryz.prog false 104 [.ow 0 l.length,iv z,iv w] [.row 112 4 (l.map Eb)] fun r H=>r=(match Db l z w with | some p=> .tp [bA p.1.bytes,iv p.2, .v (.bool true)] | none=> .tp [bA [],iv 0, .v (.bool false)])/\H=[.row 112 4 (l.map Eb)]:=by
 have hf:=Pg l z w hl (fun t ht=>(hi t ht).1);have e:Db l z w=_:=Oc l z w l.length;rw [e];have tsub:SubL [.sl 4 l.length fun i=>(l.map Eb).getD i [],iv z,iv w] [Eg l,iv z,iv w]:=⟨B4 (f:=Eb) l rfl rfl,ri,ri,tv⟩;cases hA:G_ l z w l.length with
 | none=>
  rw [hA] at hf;refine zS tys_ok Tryz.func104 rfl rfl (Ag rfl) ?_;conv=>whnf
  refine zj (args':= [.sl 4 l.length fun i=>(l.map Eb).getD i [],iv z,iv w]) (hf.subA tsub) ⟨(Ac _).symm,rfl⟩ ?_;rintro _ rfl;refine⟨rfl,?_⟩;exact⟨_, .tp [bA [],iv 0, .v (.bool false)], [.row 112 4 (l.map Eb)],BL (m:= [bA [],iv 0, .v (.bool false)]) ⟨Bn 1 _,ri,ri,tv⟩,zR (s:= [0]) tA,rfl,rfl⟩
 | some p=>
  obtain⟨k,i⟩:=p;rw [hA] at hf;obtain⟨hk,hi2⟩:=LN hA;simp only at hk hi2;have hm:=hi _ (A5 (d:=tz) hk);have hc:=BK ((l.getD k tz).images.getD i iz).bytes (hm.2 _ (A5 hi2));replace hf:Fn Tryz.prog 169 [Eg l,iv z,iv w] fun r=>r = .tp [iv (k:Nat),iv (i:Nat), .v (.bool true)]:=hf
  have ixA:(0:Int)<=(k:Nat)/\((k:Nat):Int)<(l.length:Nat):=by omega
  have ixB:(0:Int)<=(i:Nat)/\((i:Nat):Int)<((l.getD k tz).images.length:Nat):=⟨Int.natCast_nonneg _,Int.ofNat_lt.2 hi2⟩;have hE:(l.map Eb).getD (k:Int).toNat []=Eb (l.getD k tz):=by rw [Aa];exact Bf hk
  refine zS tys_ok Tryz.func104 rfl rfl (Ag rfl) ?_;conv=>whnf
  refine zj (args':= [.sl 4 l.length fun i=>(l.map Eb).getD i [],iv z,iv w]) (hf.subA tsub) ⟨(Ac _).symm,rfl⟩ ?_;rintro _ rfl;refine⟨rfl,?_⟩;conv=>whnf
  apply zV (0) tys_ok mixed (.o [0,1,2,3,4,5,6,7,8,10,11,12,13,14,9,15,16,17] .fin) (by kernel_rfl);conv=>whnf
  try (refine tI ?_;conv=>whnf)
  try (first | (refine Af ⟨rfl,(Ac _).symm,by rw [Aa];exact hk⟩ ?_;(conv=>whnf);rw [hE]) | skip;conv=>whnf)
  try (refine tI ?_;conv=>whnf)
  try (first | (refine Af ⟨rfl,(Ac _).symm,by rw [Aa];exact hk⟩ ?_;(conv=>whnf);rw [hE]) | skip;conv=>whnf)
  try (refine tI ?_;conv=>whnf)
  try (first | (refine Af ⟨rfl,(Ac _).symm,by rw [Aa];exact hk⟩ ?_;(conv=>whnf);rw [hE]) | skip;conv=>whnf)
  refine z_ hc ?_;conv=>whnf
  all_goals exact⟨_, .tp [bA ((l.getD k tz).images.getD i iz).bytes, .v (.int .i64 (l.getD k tz).seq), .v (.bool true)], [.row 112 4 (l.map Eb)],fun _ _ h=>h,zR (s:= [0]) tA,rfl,rfl⟩
theorem Vh (l:List Tx) (hl:l.length<=1000000) (hi:∀ t∈l,t.images.length<=1000000/\∀ x∈t.images,x.bytes.length<=1000000000):ACalls Tryz.prog false 117 [Eg l] [] fun r H=>r = .ow 0 l.length/\H=[.row 112 4 (l.map Eb)]:=by
 have hc:=Mv l (by omega);refine zS tys_ok Tryz.func117 rfl rfl (Ag rfl) ?_;conv=>whnf
 refine zW hc rfl ?_;rintro _ _ ⟨rfl,rfl⟩;conv=>whnf
 refine zU Nat (fun k=>([(0, .ow 0 l.length),(9,iv l.length),(10,iv k)], [.row 112 4 (l.map Eb)])) (fun k=>k<=l.length) (fun k=>l.length - k) 0 (Aj _)
  (zR (s:= [0]) tA) ?_
 intro k hk;conv=>whnf
 refine A6 (fun h6=>?_) (fun h6=>?_) <;> (repeat rw [Aa] at h6) <;> conv=>whnf
 ·have hk':k<l.length:=by omega
  have hm:=hi _ (A5 (d:=(⟨0,0,0, []⟩:Tx)) hk');have hE:(l.map Eb).getD (k:Int).toNat []=Eb (l.getD k ⟨0,0,0, []⟩):=by rw [Aa];exact Bf hk'
  have ho:=MV (l.getD k ⟨0,0,0, []⟩).images (by omega);repeat' (refine zZ ?_;conv=>whnf)
  refine⟨⟨by omega,by omega⟩,?_⟩;conv=>whnf
  refine Af ⟨rfl,(Ac _).symm,by rw [Aa];exact hk'⟩ ?_;conv=>whnf
  rw [hE];conv=>whnf
  refine ACalls.pre (ConvH.rowo (k:=0) rfl) ?_;refine zW ho rfl ?_;rintro _ _ ⟨rfl,rfl⟩;refine⟨⟨by omega,by omega⟩,?_⟩;conv=>whnf
  refine Af ⟨rfl,(Ac _).symm,by rw [Aa];exact hk'⟩ ?_;conv=>whnf
  rw [hE];refine⟨⟨by omega,by omega⟩,?_⟩;conv=>whnf
  refine Af ⟨rfl,by rw [AW,Ac],by rw [Aa];exact hk'⟩ ?_;conv=>whnf
  rw [Bm (by rw [Aa,Ac];exact hk')];conv=>whnf
  obtain⟨t,ht⟩:∃ t,t=l.getD k ⟨0,0,0, []⟩:=⟨_,rfl⟩;rw [<-ht] at hm hE |-
  have hS:∀ x∈l.map Eb,AV.ltL x 0=true:=Uz l;have hro:AV.ltL ((l.map Eb).set k (Uh t 1)).flatten 2=true:=KW hS rfl;refine zU Nat (fun j=>([(0, .ow 0 l.length),(3,iv k),(9,iv l.length),(10,iv k),(27, .ow 1 t.images.length),(28,iv t.images.length),(29,iv j)], [.rowo 112 4 ((l.map Eb).set k (Uh t 1)) 2, .row 166 3 (t.images.map Dv)])) (fun j=>j<=t.images.length) (fun j=>t.images.length - j) 0 (Aj _)
   (zR (s:= [0,1]) ⟨tA,⟨⟨hro,_,by rw [HC hS rfl];try rfl⟩,rfl,tv⟩,rfl,rfl,rfl,rfl,rfl⟩) ?_
  intro j hj;conv=>whnf
  refine A6 (fun h7=>?_) (fun h7=>?_) <;> (repeat rw [Aa] at h7) <;> conv=>whnf
  ·have hj':j<t.images.length:=by omega
   have hF:(t.images.map Dv).getD (j:Int).toNat []=Dv (t.images.getD j ⟨0,0, []⟩):=by rw [Aa];exact Bf hj'
   have hG:((l.map Eb).set k (Uh t 1)).getD (k:Int).toNat []=Uh t 1:=by rw [Aa];exact Bm (by rw [Ac];exact hk')
   have b1:=BK (t.images.getD j ⟨0,0, []⟩).bytes (hm.2 _ (A5 hj'));refine⟨⟨by omega,by omega⟩,?_⟩;conv=>whnf
   refine Af ⟨rfl,(Ac _).symm,by rw [Aa];exact hj'⟩ ?_;conv=>whnf
   rw [hF];conv=>whnf
   apply zV (0) tys_ok mixed (.o [0,1,2,3,4,5,6,7,8,9,10,11] .fin) (by kernel_rfl);conv=>whnf
   try (refine tI ?_;conv=>whnf)
   try (first | (refine Af ⟨rfl,by rw [AW,Ac],by rw [Aa];exact hk'⟩ ?_;(conv=>whnf);rw [hG]) | skip;conv=>whnf)
   try (first | (refine Af ⟨rfl,by rw [AW,Ac],by rw [Aa];exact hk'⟩ ?_;(conv=>whnf);rw [hG]) | skip;conv=>whnf)
   refine z_ b1 ?_;conv=>whnf
   try (refine tI ?_;conv=>whnf)
   try (refine tS ?_;conv=>whnf)
   (first | rw [hF] | skip)
   conv=>whnf
   all_goals refine⟨j+1,hj',by omega,zC (zK (z8 (k:=1) rfl (es':=t.images.map Dv) (by simp) ?_)) (s:= [0,1]) ⟨⟨rfl,rfl,rfl,rfl,rfl,rfl,AR (by omega),tv⟩,⟨⟨hro,_,by rw [HC hS rfl];try rfl⟩,rfl,tv⟩,rfl,rfl,rfl,rfl,rfl⟩⟩
   all_goals
    intro i;rw [Aa];refine Fo (f:=Dv) (d:=(⟨0,0, []⟩:Img)) hj' ?_ i;exact⟨fun _ _ h=>h,fun _ _ h=>h,fun _ _ h=>h,tv⟩
  ·exact⟨k+1,hk',by omega,zC (zK (MH hk' ht)) (s:= [0]) ⟨⟨rfl,rfl,AR (by omega),tv⟩,tA,rfl,rfl,rfl,rfl,rfl⟩⟩
 ·exact⟨.ow 0 l.length, .ow 0 l.length, [.row 112 4 (l.map Eb)],fun _ _ h=>h,zR (s:= [0]) tA,rfl,rfl⟩
@[reducible] def stT (s:Stt) (tx lo:AV):List AV:= [iv s.a.gen,iv s.a.epoch,iv s.a.pos,iv s.a.seq,iv s.a.last, .v (.string s.a.label),Ku s.a.homes,tx, .v (.bool s.only),iv s.cursor,iv s.found,iv s.fixed,iv s.moved,lo]
theorem TX (s:Stt) (h:StSm s):ACalls Tryz.prog false 47 [.ag (E6 s)] [] fun r H=>r = .ag (stT s (.ow 0 s.txns.length) (.ow 1 s.lost.length))/\H=[.row 112 4 (s.txns.map Eb), .row 3 1 (s.lost.map On)]:=by
 have c1:=PV s.a (by have:=h.h.1;omega) h.h.2;have c2:=Vh s.txns (by have:=h.t.1;omega) (fun t ht=>⟨by have:=(h.t.2 t ht).1;omega,fun x hx=>by have:=(h.t.2 t ht).2 x hx;omega⟩);have c3:=L5 s.lost (by have:=h.o;omega);refine zS tys_ok Tryz.func47 rfl rfl (Ag rfl) ?_;conv=>whnf
 apply zV (0) tys_ok mixed (.o [0,1,3,4,6,7,8,2,10,5,9,11,12,13,14,15,16] .fin) (by kernel_rfl);conv=>whnf
 refine z_ c1 ?_;conv=>whnf
 (refine zW c2 rfl ?_;rintro _ _ ⟨rfl,rfl⟩)
 conv=>whnf
 (refine zW c3 rfl ?_;rintro _ _ ⟨rfl,rfl⟩)
 conv=>whnf
 try (refine tS ?_;conv=>whnf)
 try (refine tS ?_;conv=>whnf)
 try (refine tS ?_;conv=>whnf)
 all_goals exact⟨_, .ag (stT s (.ow 0 s.txns.length) (.ow 1 s.lost.length)), [.row 112 4 (s.txns.map Eb), .row 3 1 (s.lost.map On)],fun _ _ h=>h,zR (s:= [2,3]) tA,rfl,rfl⟩
@[reducible] def XY (g:Geo) (x tx lo:AV) (s:Stt):List AV:= [iv g.z,iv g.d,iv g.sp,iv g.sl,iv g.an,x,iv s.a.gen,iv s.a.epoch,iv s.a.pos,iv s.a.seq,iv s.a.last, .v (.string s.a.label),Ku s.a.homes,tx, .v (.bool s.only),iv s.cursor,iv s.found,iv s.fixed,iv s.moved,lo]
@[reducible] def Fz (g:Geo) (s:Stt) (d:Dk):List AB:= [.box 116 (XY g (.bp 1 0) (.ow 4 s.txns.length) (iA s.lost) s), .box 185 (H0 (.ow 2 d.cells.length) (.ow 3 d.cache.length) d.reqs d.left), .row 128 3 (d.cells.map B5), .row 134 2 (d.cache.map DR), .row 112 4 (s.txns.map Eb)]
@[reducible] def bwM (g:Geo) (s:Stt) (d:Dk):List AB:= [.box 23 (Ba g), .box 43 (Eh d), .box 39 (E6 s), .box 185 (H0 (.ow 4 d.cells.length) (.ow 5 d.cache.length) d.reqs d.left), .row 128 3 (d.cells.map B5), .row 134 2 (d.cache.map DR), .row 112 4 (s.txns.map Eb)]
theorem Oh (g:Geo) (d:Dk) (s:Stt) (h:DkOk d) (hst:Mf g d s=true) (hs:StSm s):ACalls Tryz.prog false 42 [.ag (Ba g), .ag (Eh d), .ag (E6 s)] [] fun r H=>r = .tp [.bp 0 0,iv 0]/\H=Fz g s d:=by
 have hN:=h.n;have hM:=h.m;have c1:=Ub g d s (by omega) (by omega) hs.big;rw [hst] at c1;have c2:=XE d (by omega) (by omega);have c3:=TX s hs;refine zS tys_ok Tryz.func42 rfl rfl (Ag rfl) ?_;conv=>whnf
 refine z_ c1 ?_;conv=>whnf
 apply zV (0) tys_ok mixed (.o [0,1,3,2,4,5,6,7,8] .fin) (by kernel_rfl);conv=>whnf
 (refine zW c2 rfl ?_;rintro _ _ ⟨rfl,rfl⟩)
 conv=>whnf
 (refine zW c3 rfl ?_;rintro _ _ ⟨rfl,rfl⟩)
 conv=>whnf
 have hx:ConvH (bwM g s d ++ [.row 3 1 (s.lost.map On), .box 116 (XY g (.bp 3 0) (.ow 6 s.txns.length) (.ow 7 s.lost.length) s)]) (bwM g s d ++ [.dead, .box 116 (XY g (.bp 3 0) (.ow 6 s.txns.length) (iA s.lost) s)]):=by
  refine ConvH.trans (zo 8 7 (cs2:=XY g (.bp 3 0) (.ow 6 s.txns.length) (.sl 1 (s.lost.map On).length fun i=>(s.lost.map On).getD i []) s) rfl rfl ?_) (ConvH.subBox 8 rfl ⟨ri,ri,ri,ri,ri,ri,ri,ri,ri,ri,ri,ri,ri,ri,ri,ri,ri,ri,ri,B4 (f:=On) (d:=0) s.lost (Ac _) rfl,tv⟩);simp only [A8,BM,R9 (Ac _).symm];rfl
 all_goals exact⟨_, .tp [.bp 0 0,iv 0],Fz g s d,fun _ _ h=>h,zC (zK hx) (s:= [8,3,4,5,6]) tA,rfl,rfl⟩
theorem LI (l:List Tx) (x:Tx) (z w:Int):∀ k,k<=l.length->FI (l ++ [x]) z w k=FI l z w k
 | 0,_=>rfl
 | k+1,hk=>by
  have e:(l ++ [x]).getD k tz=l.getD k tz:=by
   rw [Ab,Ab,AA (by omega)]
  rw [FI,FI,e,LI l x z w k (by omega)]
theorem I1 (l:List Tx) (x:Tx) (z w:Int):Db (l ++ [x]) z w=match Dx x.images z w x.images.length with
  | some i=>some (i,x.seq)
  | none=>Db l z w:=by
 unfold Db;rw [Ai,Ap,Bd,Az,FI,LI l x z w _ (Ah _),show (l ++ [x]).getD l.length tz=x by simp];cases Dx x.images z w x.images.length <;> rfl
theorem QY (x:Tx) (r:List Tx) (z w:Int):∀ k,FI (x::r) z w (k+1)=match FI r z w k with
  | some p=>some p
  | none=>match Dx x.images z w x.images.length with
   | some i=>some (i,x.seq)
   | none=>none
 | 0=>rfl
 | k+1=>by
  rw [FI,QY x r z w k,FI,show (x::r).getD (k+1) tz=r.getD k tz from rfl];cases Dx (r.getD k tz).images z w (r.getD k tz).images.length <;> rfl
theorem OB {x:Gt} {a s:Int} {p:List UInt8} (he:x.err=0) (hx:x.bytes=CA a s p) (h:WC a s p):BQ x a=some ⟨a,s,p⟩:=by
 obtain⟨h1,h2,h3,h4⟩:=Jz h;unfold BQ;rw [he,hx,h1,h2,h3,h4,if_pos tA]
theorem TY {a s:Int} {p:List UInt8} {e:Ent} (h:WC a s p) (h8:p.length=8) (h1:e.stamp=s) (h2:((CS p:Nat):Int)=e.sum):DO ⟨0,CA a s p⟩ a e=some p:=by
 unfold DO;rw [OB rfl rfl h];simp only;rw [if_pos ⟨h1.symm,h8,h2⟩]
theorem Sw {g:Geo} {a s:Int} {p:List UInt8} (h:WC a s p):CM g ⟨0,CA a s p⟩ a s=Cb g p:=by
 unfold CM;rw [OB rfl rfl h];simp only [if_true]
def M_ (v:Int->List UInt8):Nat->List UInt8
 | 0=>zero8
 | k+1=>Hb (M_ v k) (v (k:Nat))
structure ZoneV (g:Geo) (a:An) (l:List Tx) (F:Int->List UInt8) (z:Int) (t:List Ent) (v:Int->List UInt8):Prop where
 tab:G7 g (Bt a l) F z=some t
 len:∀ w, -1<=w->w<g.d->(v w).length=8
 ent:∀ w, -1<=w->w<g.d->(t.getD (F0 g w).toNat ez).lost=false/\((CS (v w):Nat):Int)=(t.getD (F0 g w).toNat ez).sum
 val:∀ w, -1<=w->w<g.d->match Db l z w with
  | some p=>p.1.bytes=v w/\(t.getD (F0 g w).toNat ez).stamp=p.2
  | none=>DO ⟨0,F (DF g a z w)⟩ (DF g a z w) (t.getD (F0 g w).toNat ez)=some (v w)
 par:v (-1)=M_ v g.d.toNat
def VolV (g:Geo) (a:An) (l:List Tx) (F:Int->List UInt8) (V:Int->Int->List UInt8):Prop:=∀ z,0<=z->z<g.z->∃ t,ZoneV g a l F z t (V z)
theorem ZoneV.one {g:Geo} {a:An} {l:List Tx} {F:Int->List UInt8} {z:Int} {t:List Ent} {v:Int->List UInt8} (h:ZoneV g a l F z t v) {w:Int} (hw : -1<=w/\w<g.d):Mh g (Bt a l) F t z w=v w:=by
 have:=h.val w hw.1 hw.2;unfold Mh;show (match Db l z w with | some p=>p.1.bytes | none=>_)=_;cases hf:Db l z w with
 | some p=>rw [hf] at this;exact this.1
 | none=>
  rw [hf] at this;simp only at this |-
  show (DO ⟨0,F (DF g a z w)⟩ (DF g a z w) (t.getD (F0 g w).toNat ez)).getD []=_;rw [this];try rfl
theorem XI {n:Int} {F:Int->List UInt8} {q:Int} (h0:0<=q) (h1:q<n):Kk n F q=F q:=if_pos ⟨by omega,h1⟩
theorem fold_zero:∀ k,M_ (fun _=>zero8) k=zero8
 | 0=>rfl
 | k+1=>by rw [M_,fold_zero k];rfl
theorem Vr {g:Geo} (hg:Bq g=true):VolV g (EP g).a (EP g).l (EP g).F fun _ _=>zero8:=by
 obtain⟨g1,g2,g3,g4,g5⟩:=Ar.1 hg;intro z h0 h1;obtain⟨k,rfl⟩:∃ k:Nat,z=(k:Nat):=⟨z.toNat,by omega⟩;have hcb:=H4 hg;have hpb:=GD hg;have ht0:=WL hg;have hzh:((EP g).a.homes.getD k ⟨[],0,0⟩)=⟨(List.range (g.d+1).toNat).map Int.ofNat,g.d+1,0⟩:=by
  show (List.replicate g.z.toNat _).getD k _=_;rw [Ab,List.getElem?_replicate,if_pos (by omega)];try rfl
 have hF:∀ q,g.an+2*g.sl<=q->q<A4 g->(EP g).F q=GN g ⟨#[]⟩ q:=fun q hq hq2=>by
  show Kk (A4 g) (QH g _) q=_;rw [XI (by omega) hq2];unfold QH;rw [if_neg (by omega)];exact if_neg (by omega)
 have hti:=N2 hg (z:=(k:Nat)) (k:=0) ⟨h0,h1⟩ (by omega);have htab:G7 g (Bt (EP g).a (EP g).l) (EP g).F (k:Nat)=some (E4 g):=by
  have hroot:EB (EP g).a (EP g).l (k:Nat)=0:=by
   show ((EP g).a.homes.getD ((k:Nat):Int).toNat ⟨[],0,0⟩).root=0;rw [Aa,hzh]
  show (match CM g ⟨0,(EP g).F (By g (k:Nat) 0)⟩ (By g (k:Nat) 0) (EB (EP g).a (EP g).l (k:Nat)) with | some t=>some t | none=>_)=_;have e:=P0 (g:=g) (s:=⟨#[]⟩) (z:=k) (k:=0) (by omega) h1 (by omega);rw [hroot,hF _ hti.1 hti.2.2,show By g ((k:Nat):Int) (0:Int)=By g (k:Nat) ((0:Nat):Int) from rfl,e,Sw ⟨by show 0<=By g (k:Nat) 0;omega,by show By g (k:Nat) 0<=65535;omega,by omega,by omega,by rw [E3];unfold E4;rw [BC];omega⟩,Im ht0]
 have hent:∀ w, -1<=w->w<g.d->(E4 g).getD (F0 g w).toNat ez=ent0:=fun w hw hw2=>by
  have hat:0<=F0 g w/\F0 g w<=g.d:=by unfold F0;split <;> omega
  unfold E4;rw [Ab,List.getElem?_replicate,if_pos (by omega)];try rfl
 refine⟨E4 g,htab,fun _ _ _=>rfl,fun w hw hw2=>?_,fun w hw hw2=>?_,(fold_zero _).symm⟩
 ·rw [hent w hw hw2];exact tA
 ·show DO ⟨0,(EP g).F (DF g (EP g).a (k:Nat) w)⟩ (DF g (EP g).a (k:Nat) w) ((E4 g).getD (F0 g w).toNat ez)=some zero8;have hat:0<=F0 g w/\F0 g w<=g.d:=by unfold F0;split <;> omega
  have hadr:DF g (EP g).a (k:Nat) w=Cs g (k:Nat) ((F0 g w).toNat:Nat):=by
   unfold DF;rw [Aa,hzh];congr 1;rw [Bf (d:=0) (by simp;omega),Ab,Br (by omega)];try rfl
  have hsl:=K2 hg (z:=(k:Nat)) (s:=((F0 g w).toNat:Nat)) ⟨h0,h1⟩ (by unfold CG;omega);rw [hadr,hF _ (by omega) hsl.2,Nc (by omega) (by omega) (by omega),hent w hw hw2];exact TY ⟨by omega,by omega,by omega,by omega,by decide⟩ rfl rfl rfl
theorem LJ (l m:List Img) (z w:Int):∀ k,k<=l.length->Dx (l ++ m) z w k=Dx l z w k
 | 0,_=>rfl
 | k+1,hk=>by
  have e:(l ++ m).getD k iz=l.getD k iz:=by
   rw [Ab,Ab,AA (by omega)]
  rw [Dx,Dx,e,LJ l m z w k (by omega)]
theorem Tv (l m:List Img) (z w:Int):∀ k,k<=m.length->Dx (l ++ m) z w (l.length+k)=match Dx m z w k with
  | some i=>some i
  | none=>Dx l z w l.length
 | 0,_=>LJ l m z w _ (Ah _)
 | k+1,hk=>by
  have e:(l ++ m).getD (l.length+k) iz=m.getD k iz:=by
   rw [Ab,Ab,A9 (by omega),Nat.add_sub_cancel_left]
  rw [<-Nat.add_assoc,Dx,Dx,e];split
  ·rfl
  ·exact Tv l m z w k (by omega)
theorem I2 {l:List Img} {z w:Int} (h:∀ x∈l,x.zone≠z):∀ k,k<=l.length->Dx l z w k=none
 | 0,_=>rfl
 | k+1,hk=>by
  rw [Dx,if_neg (fun q=>h _ (A5 (by omega)) q.1),I2 h k (by omega)]
def V1 (z:Int) (ats:List Int) (bs:List (List UInt8)) (w:Int):Option Img:=(Em ats bs w.toNat ats.length).map fun b=>⟨z,w,b⟩
theorem Ni (z:Int) (ats:List Int) (bs:List (List UInt8)) (m:List Img) {w:Int} (hw:0<=w):∀ k,k<=ats.length->Dx (((List.range ats.length).map fun i=>(⟨z,ats.getD i 0,bs.getD i []⟩:Img)) ++ m) z w k=(Em ats bs w.toNat k).map fun b=>⟨z,w,b⟩
 | 0,_=>rfl
 | k+1,hk=>by
  have e:(((List.range ats.length).map fun i=>(⟨z,ats.getD i 0,bs.getD i []⟩:Img)) ++ m).getD k iz=⟨z,ats.getD k 0,bs.getD k []⟩:=by
   rw [Ab,AA (by simp;omega),AZ,Br (by omega)];try rfl
  rw [Dx,e,Em,Ni z ats bs m hw k (by omega)];by_cases h:ats.getD k 0=w
  ·rw [if_pos ⟨rfl,h⟩,if_pos (by rw [h];omega)];simp only [Dq,h]
  ·rw [if_neg (fun q=>h q.2),if_neg (by omega)]
theorem Jh (z:Int) (t:List Ent) (par:List UInt8) (ats:List Int) (bs:List (List UInt8)) (ha:∀ a∈ats,0<=a/\a<255) (w:Int) (hw:w=255\/(-1<=w/\w<255)):Dx (Cr z t par ats bs) z w (Cr z t par ats bs).length=if w=255 then some ⟨z,255,CL t⟩ else if w = -1 then some ⟨z, -1,par⟩ else V1 z ats bs w:=by
 have hl:=Fs z t par ats bs;have e1:(Cr z t par ats bs).getD (ats.length+1) iz=⟨z,255,CL t⟩:=by
  unfold Cr;rw [Ab,A9 (by simp),show ats.length+1 - ((List.range ats.length).map fun i=>(⟨z,ats.getD i 0,bs.getD i []⟩:Img)).length=1 by simp];try rfl
 have e0:(Cr z t par ats bs).getD ats.length iz=⟨z, -1,par⟩:=by
  unfold Cr;rw [Ab,A9 (by simp),show ats.length - ((List.range ats.length).map fun i=>(⟨z,ats.getD i 0,bs.getD i []⟩:Img)).length=0 by simp];try rfl
 rw [hl,Dx,Dx,e1,e0];by_cases h1:w=255
 ·rw [if_pos ⟨rfl,h1.symm⟩,if_pos h1]
 ·rw [if_neg (fun q=>h1 q.2.symm),if_neg h1];by_cases h2:w = -1
  ·rw [if_pos ⟨rfl,h2.symm⟩,if_pos h2]
  ·rw [if_neg (fun q=>h2 q.2.symm),if_neg h2];exact Ni z ats bs _ (by omega) _ (Ah _)
def Sn (V:Int->Int->List UInt8) (x:Tx) (z w:Int):List UInt8:=match Dx x.images z w x.images.length with
 | some i=>i.bytes
 | none=>V z w
def Zy (g:Geo) (a:An) (l:List Tx) (F:Int->List UInt8) (x:Tx) (z:Int):Prop:=
 (∀ w,Dx x.images z w x.images.length=none)
 \/∃ t ats bs,G7 g (Bt a l) F z=some t/\ats.length=bs.length/\(∀ b∈bs,b.length=8)/\∀ w,w=255\/(-1<=w/\w<g.d)->Dx x.images z w x.images.length=if w=255 then some ⟨z,255,CL (BG g t (EF g (Bt a l) F t z) ats bs x.seq)⟩ else if w = -1 then some ⟨z, -1,ET g t (EF g (Bt a l) F t z) ats bs g.d.toNat⟩ else V1 z ats bs w
theorem Y9 {g:Geo} (hg:Bq g=true) {s:Stt} {F:Int->List UInt8} {t:List Ent} {z:Int} {i:Nat} (hi:(i:Int)<g.d):(EF g s F t z).getD i []=Mh g s F t z (i:Nat):=by
 unfold EF X5;rw [Ab,AA (by simp;omega),AZ,Br (by omega)];try rfl
theorem W7 {g:Geo} (hg:Bq g=true) {a:An} {l:List Tx} {x:Tx} (hseq:0<=x.seq/\x.seq<=4294967295) (hl:∀ t∈l,∀ y∈t.images,Bz g y=true) {F:Int->List UInt8} {V:Int->Int->List UInt8} (h:VolV g a l F V) (hx:∀ z,0<=z->z<g.z->Zy g a l F x z):VolV g a (l ++ [x]) F (Sn V x):=by
 obtain⟨g1,g2,g3,g4,g5⟩:=Ar.1 hg;intro z h0 h1;obtain⟨t,ht⟩:=h z h0 h1;rcases hx z h0 h1 with hn | ⟨t',ats,bs,e1,e2,e3,e4⟩
 ·have hv:∀ w,Sn V x z w=V z w:=fun w=>by unfold Sn;rw [hn w]
  have hf:∀ w,Db (l ++ [x]) z w=Db l z w:=fun w=>by rw [I1,hn w]
  have hvz:Sn V x z=V z:=funext hv;refine⟨t,?_,fun w q1 q2=>by rw [hv];exact ht.len w q1 q2,fun w q1 q2=>by rw [hv];exact ht.ent w q1 q2,fun w q1 q2=>?_,by rw [hvz];exact ht.par⟩
  ·have:=ht.tab;unfold G7 EB at this |-
   show (match Db (l ++ [x]) z 255 with | some p=>_ | none=>match CM g _ _ (match Db (l ++ [x]) z 255 with | some p=>p.2 | none=>_) with | some t=>some t | none=>CM g _ _ (match Db (l ++ [x]) z 255 with | some p=>p.2 | none=>_))=_;rw [hf 255];exact this
  ·rw [hf w,hv];exact ht.val w q1 q2
 ·have et:t'=t:=by
   have:=ht.tab;rw [e1] at this;exact Option.some.inj this
  subst et;have htok:=R5 ht.tab;have htl:=GG htok;have hhad:∀ i:Nat,(i:Int)<g.d->(EF g (Bt a l) F t' z).getD i []=V z (i:Nat):=fun i hi=>by
   rw [Y9 hg hi];exact ht.one ⟨by omega,hi⟩
  have hatN:∀ i:Nat,(i:Int)<g.d->(F0 g (i:Nat)).toNat=i:=fun i hi=>by unfold F0;rw [if_neg (by omega)];omega
  have hkn:∀ i:Nat,(i:Int)<g.d->BO g t' (EF g (Bt a l) F t' z) i=V z (i:Nat):=fun i hi=>by
   have:=(ht.ent (i:Nat) (by omega) hi).1;rw [hatN i hi] at this;unfold BO;rw [this,if_neg (by decide),hhad i hi,if_pos (by rw [ht.len (i:Nat) (by omega) hi];decide)]
  have hup:∀ i:Nat,(i:Int)<g.d->Sn V x z (i:Nat)=Gp g t' (EF g (Bt a l) F t' z) ats bs i:=fun i hi=>by
   have e:=e4 (i:Nat) (.inr ⟨by omega,hi⟩);rw [if_neg (by omega),if_neg (by omega)] at e;unfold Sn Gp;rw [e,V1,Aa];cases Em ats bs i ats.length with
   | some b=>rfl
   | none=>exact(hkn i hi).symm
  have hbn:∀ i:Nat,(i:Int)<g.d->(Gp g t' (EF g (Bt a l) F t' z) ats bs i).length=8:=fun i hi=>by
   unfold Gp;cases hp:Em ats bs i ats.length with
   | some b=>exact J7 e3 (by omega) _ b (Ah _) hp
   | none=>
    show (BO g t' _ i).length=8;rw [hkn i hi];exact ht.len (i:Nat) (by omega) hi
  have hpar:∀ k:Nat,(k:Int)<=g.d->ET g t' (EF g (Bt a l) F t' z) ats bs k=M_ (Sn V x z) k:=by
   intro k;induction k with
   | zero=>intro _;rfl
   | succ k ih=>
    intro hk;rw [ET,if_neg (by rw [hbn k (by omega)];decide),ih (by omega),M_,hup k (by omega)]
  have hpv:Sn V x z (-1)=ET g t' (EF g (Bt a l) F t' z) ats bs g.d.toNat:=by
   have e:=e4 (-1) (.inr ⟨by omega,by omega⟩);rw [if_neg (by omega),if_pos rfl] at e;unfold Sn;rw [e]
  have hhb:∀ b∈EF g (Bt a l) F t' z,b.length=0\/b.length=8:=fun b hb=>by
   unfold EF X5 at hb;rcases A3.1 hb with q | q
   ·obtain⟨i,hi,rfl⟩:=AK.1 q;exact IV (s:=Bt a l) hl (by have:=AO.1 hi;omega)
   ·rw [AF] at q;subst q;exact IV (s:=Bt a l) (w:= -1) hl (by decide)
  have hpl:(ET g t' (EF g (Bt a l) F t' z) ats bs g.d.toNat).length=8:=Gn hhb e3 (by omega) _;have hwt:=FU (g:=g) (t:=t') (had:=EF g (Bt a l) F t' z) (ats:=ats) (bs:=bs) hg htok (stamp:=x.seq) hseq;have htab:G7 g (Bt a (l ++ [x])) F z=some (BG g t' (EF g (Bt a l) F t' z) ats bs x.seq):=by
   have e:=e4 255 (.inl rfl);rw [if_pos rfl] at e;unfold G7;show (match Db (l ++ [x]) z 255 with | some p=>Cb g p.1.bytes | none=>_)=_;rw [I1,e];exact Im hwt
  have hent:∀ i:Nat,(i:Int)<g.d->(BG g t' (EF g (Bt a l) F t' z) ats bs x.seq).getD i ez=match Em ats bs i ats.length with
    | some b=>⟨x.seq,(CS b:Nat),false⟩
    | none=>t'.getD i ez:=fun i hi=>by
   unfold BG;rw [Ab,AA (by simp;omega),AZ,Br (by omega)];show Kt g t' _ ats bs x.seq i=_;unfold Kt;rw [if_neg (by rw [hbn i hi];decide)];cases Em ats bs i ats.length <;> rfl
  have hentp:(BG g t' (EF g (Bt a l) F t' z) ats bs x.seq).getD (F0 g (-1)).toNat ez=⟨x.seq,(CS (Sn V x z (-1)):Nat),false⟩:=by
   rw [show (F0 g (-1)).toNat=g.d.toNat by unfold F0;rw [if_pos rfl]];unfold BG;rw [Ab,A9 (by simp),show g.d.toNat - ((List.range g.d.toNat).map (Kt g t' (EF g (Bt a l) F t' z) ats bs x.seq)).length=0 by simp,hpv];try rfl
  refine⟨_,htab,fun w q1 q2=>?_,fun w q1 q2=>?_,fun w q1 q2=>?_,?_⟩
  ·by_cases hw:w = -1
   ·rw [hw,hpv];exact hpl
   ·obtain⟨i,rfl⟩:∃ i:Nat,w=(i:Nat):=⟨w.toNat,by omega⟩;rw [hup i q2];exact hbn i q2
  ·by_cases hw:w = -1
   ·rw [hw,hentp];exact tA
   ·obtain⟨i,rfl⟩:∃ i:Nat,w=(i:Nat):=⟨w.toNat,by omega⟩;rw [hatN i q2,hent i q2,hup i q2];unfold Gp;cases hp:Em ats bs i ats.length with
    | some b=>exact tA
    | none=>
     have:=ht.ent (i:Nat) q1 q2;rw [hatN i q2] at this;simp only;rw [hkn i q2];exact this
  ·rw [I1];have e:=e4 w (.inr ⟨q1,q2⟩);rw [if_neg (by omega)] at e;by_cases hw:w = -1
   ·subst hw;rw [if_pos rfl] at e;rw [e,hentp,hpv];exact tA
   ·obtain⟨i,rfl⟩:∃ i:Nat,w=(i:Nat):=⟨w.toNat,by omega⟩;rw [if_neg hw,V1,Aa] at e;rw [e,hatN i q2,hent i q2,hup i q2];unfold Gp;cases hp:Em ats bs i ats.length with
    | some b=>exact tA
    | none=>
     have:=ht.val (i:Nat) q1 q2;rw [hatN i q2] at this;simp only [Option.map_none];rw [hkn i q2];exact this
  ·rw [hpv];exact hpar _ (by omega)
theorem YI {g:Geo} (hg:Bq g=true) {a:An} {l:List Tx} {F:Int->List UInt8} {lba:Int} {b:List UInt8} (hlba:0<=lba/\lba<g.z*g.d) (hb:b.length=8) (ht:(G7 g (Bt a l) F (lba.tdiv g.d)).isSome=true):∀ z,0<=z->z<g.z->Zy g a l F (I4 g a l F lba b) z:=by
 obtain⟨g1,g2,g3,g4,g5⟩:=Ar.1 hg;intro z h0 h1;obtain⟨t,ht⟩:=Cq.1 ht;have hm:0<=lba.tmod g.d/\lba.tmod g.d<g.d:=⟨Be _ hlba.1,AL _ (by omega)⟩;have ei:(I4 g a l F lba b).images=Cr (lba.tdiv g.d) (BG g t (EF g (Bt a l) F t (lba.tdiv g.d)) [lba.tmod g.d] [b] (a.seq+(l.length:Int))) (ET g t (EF g (Bt a l) F t (lba.tdiv g.d)) [lba.tmod g.d] [b] g.d.toNat) [lba.tmod g.d] [b]:=by
  show Ja g (Bt a l) F _ lba b=_;unfold Ja;rw [ht]
 by_cases hz:z=lba.tdiv g.d
 ·refine .inr ⟨t, [lba.tmod g.d], [b],by rw [hz];exact ht,rfl,fun x hx=>by rw [AF] at hx;rw [hx];exact hb,fun w hw=>?_⟩;rw [ei,hz];exact Jh _ _ _ _ _ (fun x hx=>by rw [AF] at hx;omega) w (by omega)
 ·refine .inl fun w=>?_
  rw [ei];refine I2 (fun y hy=>?_) _ (Ah _);have:y.zone=lba.tdiv g.d:=by
   unfold Cr at hy;rcases A3.1 hy with q | q
   ·obtain⟨i, -,rfl⟩:=AK.1 q;rfl
   ·simp only [Bb,List.not_mem_nil,or_false] at q;rcases q with rfl | rfl <;> rfl
  rw [this];exact fun e=>hz e.symm
theorem YH {g:Geo} (hg:Bq g=true) {a:An} {l:List Tx} {F:Int->List UInt8} {lba:Int} {b:List UInt8} (hlba:0<=lba/\lba<g.z*g.d) (ht:(G7 g (Bt a l) F (lba.tdiv g.d)).isSome=true) (V:Int->Int->List UInt8) {z w:Int} (hw:0<=w/\w<g.d):Sn V (I4 g a l F lba b) z w=if z=lba.tdiv g.d/\w=lba.tmod g.d then b else V z w:=by
 obtain⟨g1,g2,g3,g4,g5⟩:=Ar.1 hg;obtain⟨t,ht⟩:=Cq.1 ht;have hm:0<=lba.tmod g.d/\lba.tmod g.d<g.d:=⟨Be _ hlba.1,AL _ (by omega)⟩;have ei:(I4 g a l F lba b).images=Cr (lba.tdiv g.d) (BG g t (EF g (Bt a l) F t (lba.tdiv g.d)) [lba.tmod g.d] [b] (a.seq+(l.length:Int))) (ET g t (EF g (Bt a l) F t (lba.tdiv g.d)) [lba.tmod g.d] [b] g.d.toNat) [lba.tmod g.d] [b]:=by
  show Ja g (Bt a l) F _ lba b=_;unfold Ja;rw [ht]
 unfold Sn;rw [ei];by_cases hz:z=lba.tdiv g.d
 ·rw [hz,Jh _ _ _ _ _ (fun x hx=>by rw [AF] at hx;omega) w (by omega),if_neg (by omega),if_neg (by omega)];have ep:V1 (lba.tdiv g.d) [lba.tmod g.d] [b] w=if lba.tmod g.d=((w.toNat:Nat):Int) then some ⟨lba.tdiv g.d,w,b⟩ else none:=by
   show ((if lba.tmod g.d=((w.toNat:Nat):Int) then some b else none:Option (List UInt8)).map fun b=>(⟨lba.tdiv g.d,w,b⟩:Img))=_;split <;> rfl
  rw [ep];by_cases e:lba.tmod g.d=((w.toNat:Nat):Int)
  ·rw [if_pos e,if_pos ⟨rfl,by omega⟩]
  ·rw [if_neg e,if_neg (fun q:_/\_=>e (by omega))]
 ·rw [if_neg (fun q=>hz q.1),I2 (fun y hy=>?_) _ (Ah _)];have:y.zone=lba.tdiv g.d:=by
   unfold Cr at hy;rcases A3.1 hy with q | q
   ·obtain⟨i, -,rfl⟩:=AK.1 q;rfl
   ·simp only [Bb,List.not_mem_nil,or_false] at q;rcases q with rfl | rfl <;> rfl
  rw [this];exact fun e=>hz e.symm
theorem RJ {g:Geo} {b:List UInt8} {t:List Ent} (h:Cb g b=some t):t.length=(g.d+1).toNat:=by
 unfold Cb at h;split at h
 ·rw [<-Option.some.inj h,entsOf_len]
 ·cases h
theorem O4 {g:Geo} {x:Gt} {q r:Int} {t:List Ent} (h:CM g x q r=some t):t.length=(g.d+1).toNat:=by
 rw [KQ] at h;split at h
 ·exact RJ h
 ·cases h
def VB (g:Geo) (i:Nat):Int:=if (i:Int)=g.d then -1 else (i:Nat)
theorem X7 (g:Geo) (s:Stt) (d:Dk) (a:Int) (h:DkOk d) (ha:0<=a/\a<d.cells.length) :
  ACalls Tryz.prog false 138 [.bp 0 0,iv a] (Fz g s d) fun r H=>r = .ag (DB ⟨(d.read a).2.2,(d.read a).2.1⟩)/\H=Fz g s (d.read a).1:=by
 have hr:=VU BK d a h.l ha h.m (fun c hc=>by have:=(h.c c hc).2.1;omega) (fun w hw=>by have:=(h.w w hw).2;omega);refine zS tys_ok Tryz.func138 rfl rfl (Ag rfl) ?_;conv=>whnf
 refine zh [1,2,3] hr ?_;rintro _ _ ⟨rfl,rfl⟩;exact⟨_, .ag (DB ⟨(d.read a).2.2,(d.read a).2.1⟩),Fz g s (d.read a).1,fun _ _ h=>h,zR (s:= [0,1,2,3,4]) tA,rfl,rfl⟩
theorem PL (g:Geo) (s:Stt) (d:Dk) (a:Int) (b:List UInt8) (h:DkOk d) (ha:0<=a/\a<d.cells.length) (hb:b.length<=200) :
  ACalls Tryz.prog false 182 [.bp 0 0,iv a,bA b] (Fz g s d) fun r H=>r = .tp [.v (.bool (decide ((d.write a b).2=0))),iv (if (d.write a b).2=8 then 8 else 0)]/\H=Fz g s (d.write a b).1:=by
 have hr:=T6 BK d a b h.l ha h.m (by omega);have he:(d.write a b).2=8\/(d.write a b).2=7\/(d.write a b).2=0:=by
  unfold Dk.write;split
  ·exact .inl rfl
  ·split
   ·exact .inr (.inl rfl)
   ·exact .inr (.inr rfl)
 generalize d.write a b=q at hr he |-
 obtain⟨d',e⟩:=q;simp only at hr he |-
 refine zS tys_ok Tryz.func182 rfl rfl (Ag rfl) ?_;conv=>whnf
 refine zh [1,2,3] hr ?_;rintro _ _ ⟨rfl,rfl⟩;rcases he with rfl | rfl | rfl
 all_goals
  exact⟨_,_,Fz g s d',fun _ _ h=>h,zR (s:= [0,1,2,3,4]) tA,rfl,rfl⟩
structure Gr where
 f:Int->Gt
 cells:List Cel
 cache:List Wr
instance:CoeFun Gr fun _=>Int->Gt:=⟨Gr.f⟩
structure Gs (n:Int) (d:Dk) (G:Gr):Prop where
 ok:DkOk d
 left:d.left = -1
 len:(d.cells.length:Int)=n
 got:∀ a:Int,0<=a->a<n->d.got a=((G a).bytes,(G a).err)
 cells:d.cells=G.cells
 cache:d.cache=G.cache
theorem Gs.req {n:Int} {d:Dk} {G:Gr} (h:Gs n d G):Gs n d.req G:=⟨h.ok.req,by unfold Dk.req;rw [h.left];try rfl,h.len,h.got,h.cells,h.cache⟩
theorem Gs.read {n:Int} {d:Dk} {G:Gr} (h:Gs n d G) {a:Int} (h0:0<=a) (h1:a<n):d.read a=(d.req,(G a).bytes,(G a).err):=by
 unfold Dk.read;rw [if_neg (by rw [h.left];decide),h.got a h0 h1]
def Fa (d:Dk):Gr:=⟨fun a=>⟨(d.got a).2,(d.got a).1⟩,d.cells,d.cache⟩
theorem Gs.of {n:Int} {d:Dk} (h:DkOk d) (hl:d.left = -1) (hn:(d.cells.length:Int)=n):Gs n d (Fa d):=⟨h,hl,hn,fun _ _ _=>rfl,rfl,rfl⟩
def Gj (g:Geo) (s:Stt) (G:Gr) (z:Int):Option (List Ent):=match Db s.txns z 255 with
 | some p=>Cb g p.1.bytes
 | none=>match CM g (G (By g z 0)) (By g z 0) (EB s.a s.txns z) with
  | some t=>some t
  | none=>CM g (G (By g z 1)) (By g z 1) (EB s.a s.txns z)
def EW (g:Geo) (s:Stt) (G:Gr) (t:List Ent) (z w:Int):List UInt8:=match Db s.txns z w with
 | some p=>p.1.bytes
 | none=>(DO (G (DF g s.a z w)) (DF g s.a z w) (t.getD (F0 g w).toNat ez)).getD []
def EL (g:Geo) (s:Stt) (G:Gr) (t:List Ent) (z:Int):List (List UInt8):=(List.range (g.d.toNat+1)).map fun i=>EW g s G t z (VB g i)
theorem Yi {g:Geo} (hg:Bq g=true) {s:Stt} {G:Gr} {z:Int} {t:List Ent} (h:Gj g s G z=some t):(t.length:Int)=g.d+1:=by
 have g5:=Ar.1 hg;have:t.length=(g.d+1).toNat:=by
  unfold Gj at h;split at h
  ·exact RJ h
  ·split at h
   ·rename_i q;rw [<-Option.some.inj h];exact O4 q
   ·exact O4 h
 omega
theorem RX (g:Geo) (s:Stt) (d:Dk) (G:Gr) (a:Int) (h:Gs (A4 g) d G) (ha:0<=a/\a<A4 g) :
  ACalls Tryz.prog false 138 [.bp 0 0,iv a] (Fz g s d) fun r H=>r = .ag (DB (G a))/\∃ d',Gs (A4 g) d' G/\H=Fz g s d':=by
 have hr:=X7 g s d a h.ok (by rw [h.len];exact ha);rw [h.read ha.1 ha.2] at hr;exact hr.mono fun r H hh=>⟨hh.1,d.req,h.req,hh.2⟩
theorem PF (g:Geo) (s:Stt) (d:Dk) (G:Gr) (z:Int) (hg:Bq g=true) (hl:LogB s.txns) (ha:Bv g s.a=true) (h:Gs (A4 g) d G) (hF:∀ a,(G a).bytes.length<=100000) (h8:∀ a,(G a).err≠8) (hz:0<=z/\z<g.z) (hB:∀ p,Db s.txns z 255=some p->p.1.bytes.length<=100000/\(Cb g p.1.bytes).isSome=true) :
    ACalls Tryz.prog false 66 [.bp 0 0,iv z] (Fz g s d) fun r H=>r=(match Gj g s G z with | some t=>AV.tp [.ag [BP t],iv 0] | none=> .tp [.ag [BP []],iv 13])/\∃ d',Gs (A4 g) d' G/\H=Fz g s d':=by
  have hf:=HJ s.txns z 255 hl.n hl.i;obtain⟨O,hO⟩:∃ O,O=Gj g s G z:=⟨_,rfl⟩;rw [<-hO];unfold Gj at hO;cases hL:Db s.txns z 255 with
  | some p=>
    obtain⟨x,q⟩:=p;rw [hL] at hf hO;simp only at hf hO;obtain⟨hx,ht⟩:=hB _ hL;obtain⟨t,ht⟩:=Cq.1 ht;have ht:Cb g x.bytes=some t:=ht;rw [ht] at hO;subst hO;have hr:=KN g x.bytes hx;rw [hg,if_pos rfl,ht] at hr;refine zS tys_ok Tryz.func66 rfl rfl (Ag rfl) ?_;conv=>whnf
    refine zh [4] hf ?_;rintro _ _ ⟨rfl,rfl⟩;conv=>whnf
    refine z_ hr ?_;exact⟨.tp [.ag [BP t],iv 0], .tp [.ag [BP t],iv 0],Fz g s d,fun _ _ h=>h,zR (s:= [0,1,2,3,4]) tA,rfl,d,h,rfl⟩
  | none=>
    rw [hL] at hf hO;simp only at hf hO;have hR:=Vi s.a s.txns z (by have:=(V3 ha hz).1;omega) hl.n (fun t ht=>(hl.i t ht).1);refine zS tys_ok Tryz.func66 rfl rfl (Ag rfl) ?_;conv=>whnf
    refine zh [4] hf ?_;rintro _ _ ⟨rfl,rfl⟩;conv=>whnf
    apply zL tys_ok mixed (.o [0,1,2,3,4,5,6,7,8,9,10,11,12,13,14,15,16] .fin) [11,12,41,42,43,44,45,46,47,48,49,50,51,52,53,54,55] (by kernel_rfl)
    · conv=>whnf
      (refine zj (args':= [.ag (EJ s.a), .sl 4 s.txns.length fun i=>(s.txns.map Eb).getD i [],iv z]) (hR.subA ⟨fun _ _ h=>h,B4 (f:=Eb) s.txns rfl rfl,fun _ _ h=>h,tv⟩) ⟨(Ac _).symm,rfl⟩ ?_;rintro _ rfl;refine⟨rfl,?_⟩)
      exact tA
    conv=>whnf
    have htab:∀ k:Nat,k<2->g.an+2*g.sl<=By g z (k:Nat)/\By g z (k:Nat)<A4 g:=fun k hk=>by have:=N2 hg hz (k:=(k:Nat)) (by omega);omega
    refine zU (Nat × Dk) (fun x=>([(0, .bp 0 0),(1,iv z),(4, .bp 5 0),(11,iv (EB s.a s.txns z)),(56,iv (x.1:Nat))],Fz g s x.2 ++ ([.box 70 [.v (.slice none 0 0)]]:List AB))) (fun x=>x.1<=2/\Gs (A4 g) x.2 G/\∀ j:Nat,j<x.1->CM g (G (By g z (j:Nat))) (By g z (j:Nat)) (EB s.a s.txns z)=none) (fun x=>2 - x.1) (0,d) ⟨Aj _,h,fun j hj=>absurd hj (Ao j)⟩
      (zR (s:= [0,1,2,3,4,5]) tA) ?_
    rintro⟨k,d1⟩ ⟨hk,hd1,hno⟩;simp only at hk hd1 hno;conv=>whnf
    refine A6 (fun h6=>?_) (fun h6=>?_) <;> (repeat rw [Aa] at h6) <;> conv=>whnf
    · have hk2:k<2:=by omega
      have hta:=Tl g z (k:Nat) hg hz (by omega);obtain⟨q1,q2⟩:=htab k hk2;have hz2:=Ar.1 hg;have hrd:=RX g s d1 G (By g z (k:Nat)) hd1 (by omega);have hto:=T1 g (G (By g z (k:Nat))) (By g z (k:Nat)) (EB s.a s.txns z) hg (hF _);repeat' (refine zZ ?_;conv=>whnf)
      refine z_ hta ?_;conv=>whnf
      repeat' (refine zZ ?_;conv=>whnf)
      refine zh [0,1,2,3,4] hrd ?_;rintro _ _ ⟨rfl,d2,hd2,rfl⟩;conv=>whnf
      rw [show ((G (By g z (k:Nat))).err == 8)=false from beq_eq_false_iff_ne.2 (h8 _)];conv=>whnf
      repeat' (refine zZ ?_;conv=>whnf)
      have hGk:∀ u,CM g (G (By g z (k:Nat))) (By g z (k:Nat)) (EB s.a s.txns z)=some u->O=some u:=fun u hu=>by
        match k,hk2 with
        | 0,_=>
          have hu:CM g (G (By g z 0)) (By g z 0) (EB s.a s.txns z)=some u:=hu;rw [hO,hu]
        | 1,_=>
          have h0:CM g (G (By g z 0)) (By g z 0) (EB s.a s.txns z)=none:=hno 0 (by decide);have hu:CM g (G (By g z 1)) (By g z 1) (EB s.a s.txns z)=some u:=hu;rw [hO,h0];exact hu
      apply zV (0) tys_ok mixed (.o [0,1,2,3,4,5,6] (.two 7 (.o [8,9,10,11,12,13] .fin) 11 (.o [7,8,9,10,12,13] .fin))) (by kernel_rfl);refine Af ?_ ?_;conv=>whnf
      refine z_ hto ?_;conv=>whnf
      try (refine tS ?_;conv=>whnf)
      rotate_left 1;conv=>whnf
      refine z_ hto ?_;conv=>whnf
      try (refine tS ?_;conv=>whnf)
      rotate_left 1;all_goals
        cases hT:CM g (G (By g z (k:Nat))) (By g z (k:Nat)) (EB s.a s.txns z)
      all_goals
        conv=>whnf
        first
        | exact⟨(k+1,d2),⟨by show k+1<=2;omega,hd2,fun j hj=>by by_cases e:j=k;exact e ▸ hT;exact hno j (by have:j<k+1:=hj;omega)⟩,by show 2 - (k+1)<2 - k;omega,zR (s:= [0,1,2,3,4,5]) ⟨⟨rfl,rfl,rfl,rfl,AR (by omega),tv⟩,tA,rfl,rfl,rfl,rfl,rfl⟩⟩
        | (rename_i u
           rw [hGk _ hT];exact⟨.tp [.ag [BP u],iv 0], .tp [.ag [BP u],iv 0],Fz g s d2,fun _ _ h=>h,zR (s:= [0,1,2,3,4]) tA,rfl,d2,hd2,rfl⟩)
    · have ek:k=2:=by omega
      subst ek;have h0:CM g (G (By g z 0)) (By g z 0) (EB s.a s.txns z)=none:=hno 0 (by decide);have h1:CM g (G (By g z 1)) (By g z 1) (EB s.a s.txns z)=none:=hno 1 (by decide);rw [h0] at hO;simp only at hO;rw [h1] at hO;subst hO;repeat' (refine zZ ?_;conv=>whnf)
      exact⟨_, .tp [.ag [BP []],iv 13],Fz g s d1,BL (m:= [.ag [BP []],iv 13]) ⟨Bk ⟨Bn 3 _,tv⟩,ri,tv⟩,zR (s:= [0,1,2,3,4]) tA,rfl,d1,hd1,rfl⟩
theorem JM (g:Geo) (s:Stt) (d:Dk) (G:Gr) (z w:Int) (t:List Ent) (hg:Bq g=true) (ha:Bv g s.a=true) (h:Gs (A4 g) d G) (hF:∀ a,(G a).bytes.length<=100000) (h8:∀ a,(G a).err≠8) (hz:0<=z/\z<g.z) (hw : -1<=w/\w<g.d) (ht:(t.length:Int)=g.d+1) :
  ACalls Tryz.prog false 105 [.bp 0 0,iv z,iv w, .ag [BP t]] (Fz g s d) fun r H=>r = .tp [bA ((DO (G (DF g s.a z w)) (DF g s.a z w) (t.getD (F0 g w).toNat ez)).getD []),iv 0]/\∃ d',Gs (A4 g) d' G/\H=Fz g s d':=by
 have hadr:=Vg g s.a z w hg ha hz hw;obtain⟨sl,e1,e2⟩:=L_ hg ha hz (w:=w) hw;have hsl:=K2 hg hz e2;have hat:0<=F0 g w/\F0 g w<=g.d:=by have:=Ar.1 hg;unfold F0;split <;> omega
 have hci:=TH g w;obtain⟨X,hX⟩:∃ X,X=DF g s.a z w:=⟨_,rfl⟩;rw [<-hX] at hadr e1 |-
 have hcb:=H4 hg;have hrd:=RX g s d G X h (by have:=Ar.1 hg;omega);have heb:=T4 (G X) X (t.getD (F0 g w).toNat ez) (hF _);have ixA:0<=F0 g w/\F0 g w<(t.length:Nat):=by omega
 refine zS tys_ok Tryz.func105 rfl rfl (Ag rfl) ?_;conv=>whnf
 apply zL tys_ok mixed (.o [0,1,2,3,4,5,6,7,8,9,10,11,12,13,14,15,16] .fin) [10,11,15,16,17,18,19,20,21,22,23,24,25,26,27,28,29] (by kernel_rfl)
 ·conv=>whnf
  refine z_ hadr ?_;exact tA
 conv=>whnf
 refine zh [0,1,2,3,4] hrd ?_;rintro _ _ ⟨rfl,d2,hd2,rfl⟩;conv=>whnf
 rw [show ((G X).err == 8)=false from beq_eq_false_iff_ne.2 (h8 X)];conv=>whnf
 repeat' (refine zZ ?_;conv=>whnf)
 apply zL tys_ok mixed (.o [0,1,2,3,4,5,6,7,8,9,10,11,12,13,14,15,16,17] .fin) [13,14,36,37,38,39,40,41,42,43,44,45,46,47,48,49,50,51] (by kernel_rfl)
 ·conv=>whnf
  refine z_ hci ?_;conv=>whnf
  try (refine Af (by first | omega | exact ixA | exact ixB | (simp;done)) ?_;conv=>whnf)
  refine z_ heb ?_;exact tA
 conv=>whnf
 obtain⟨B,hBe⟩:∃ B,B=(DO (G X) X (t.getD (F0 g w).toNat ez)).getD []:=⟨_,rfl⟩;rw [<-hBe];exact⟨.tp [bA B,iv 0], .tp [bA B,iv 0],Fz g s d2,fun _ _ h=>h,zR (s:= [0,1,2,3,4]) tA,rfl,d2,hd2,rfl⟩
end
end Go.Proofs.YtepdhdfoipephaaGreatDoor.A
