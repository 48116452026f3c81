/-
Several texts in one.
-/
import Derived.Test.YtkolckdakddggaaGreatDoorPPC1P2
import Derived.RangeFuncNested
import Derived.RangeFuncBound
import Derived.RangeFuncCalls
import Derived.RangeFuncLeaves
import Derived.RangeFuncBox
import Derived.Shelf.Abstract
import Derived.Shelf.RegionOpen
import Derived.OwnWalkIn
import Derived.TacticsInMore
import Derived.LoopNIn
import Derived.LoopIn
import Derived.Test.YtkolckdakddggaaGreatDoorPPC1P1
import Derived.Test.YtkolckdakddggaaGreatDoorPPC1P0
import Derived.Lib.Overlaps
import Derived.Laws.Externs
set_option maxRecDepth 100000
set_option maxHeartbeats 8000000
set_option linter.unusedSimpArgs false
set_option linter.unusedVariables false
set_option linter.deprecated false
section
namespace Go.Proofs.YtkolckdakddggaaGreatDoor.A
open Go.RowKit
section
variable {P:Program} {T:Tys} {w0:Fl} {M0:Ms} {n d0:Nat} {ce:Ctx}
def Fl.off (w0:Fl):Fl:=⟨w0.w,w0.old,w0.lt,w0.gl,False⟩
theorem HS.off {c:Ctx} {H:List AB} (h:HS w0 M0 c H):HS w0.off M0 c H:=⟨⟨h.low.os,h.low.tape,h.low.output,h.low.size,h.low.block⟩,h.base,h.dom,h.foreign,h.lt,h.blk,h.own,h.dis⟩
theorem HS.on {c:Ctx} {H:List AB} (h:HS w0.off M0 c H):HS w0 M0 c H:=⟨⟨h.low.os,h.low.tape,h.low.output,h.low.size,h.low.block⟩,h.base,h.dom,h.foreign,h.lt,h.blk,h.own,h.dis⟩
theorem FR.off {c:Ctx} {fr:Fr} {a:Act} (h1:a.tmps.size=n) (h2:∀ i,Rd (fget fr i) c (a.tmps.getD i undef)) (hc:¬w0.chk):FR w0 c n fr a:=⟨h1,DfOk.free hc,h2⟩
def frozen (fr:Fr) (H:List AB):Fr->Prop
 | []=>True
 | (i,x)::r=>((x.lt 0=true/\fget fr i=x)\/∃ kk tt cs,x = .rp cs/\AV.ltL cs 0=true/\fget fr i = .bp kk 0/\hget H kk=some (.box tt cs))/\frozen fr H r
def Ctx.calm (c:Ctx) (w:World):Ctx:=⟨w,0,fun _=>False,c.rho,c.len,0⟩
theorem Mo {c:Ctx} {H:List AB} (hs:HS w0 M0 c H) {fr:Fr} {us:Array Value} (hf:∀ i,Rd (fget fr i) c (us.getD i undef)):∀ {frz:Fr},frozen fr H frz->∀ i,Rd (fget frz i) (c.calm c.w) (us.getD i undef)
 | [],_,i=>by simp [fget,Rd]
 | (j,x)::r,h,i=>by
  have hcut:Cut c (c.calm c.w):=⟨⟨rfl,rfl,rfl,Nat.le_refl _,fun _ _ _=>⟨fun h=>h,rfl⟩,Nat.le_refl _,fun k hk=>absurd hk (Ai k),fun k hk=>absurd hk (Ai k),fun k _ hk=>absurd hk (Ai k)⟩,fun _ _=>⟨rfl,rfl⟩⟩
  unfold fget
  cases hb:Nat.beq j i with
  | false=>exact Mo hs hf h.2 i
  | true=>
   have:=Ae hb
   subst this
   simp only [cond_true]
   rcases h.1 with ⟨h1,h2⟩ | ⟨kk,tt,cs,rfl,h1,h2,h3⟩
   ·refine Rd.cut x hcut h1 ?_
    rw [<-h2]
    exact hf j
   ·have hr:=hf j
    rw [h2] at hr
    simp only [Rd] at hr
    obtain⟨_,g,hg,hu⟩:=hr
    rw [hget_eq] at h3
    obtain⟨g',xs,q1,q2,q3,q4⟩:=hs.blk _ _ h3
    rw [q1] at hg
    cases hg
    rw [hu]
    simp only [Rd]
    refine⟨g,0,rfl,fun h=>h,(Array.getElem?_eq_some_iff.1 q2).1,?_⟩
    exact RdAt.of (c:=(c.calm c.w).closed) (b:=g) (off:=0) (RdL.cut cs hcut h1 q3) q4 fun j u hu=>by rw [Am];show c.w.cell? _=_;rw [cell_of_row _ g _ _ tt (0,0) q2];simpa using hu
def EX.code:EX->Code
 | .normal=> .skip
 | .exit id=> .exit id
 | .ret=> .ret
theorem LX {W W':World} {c:Ctx} (hB:c.w.heap.size<=W.heap.size) (ho:Old W W') (h1:W'.os=W.os) (h2:W'.tape=W.tape) (h3:W'.output=W.output) (h4:W.heap.size<=W'.heap.size):Below c.w.heap.size W W':=
 ⟨h1,h2,h3,h4,fun b hb=>ho b (Aj hb hB)⟩
theorem Qe {len k:Nat} (hk:k<=len) {pre:List Nat} {x:Nat} (h:pre ++ [x]=Eg len k) {p:Nat->Prop} (hp:∀ y∈pre,p y):∀ j,x<j->j<len->p j:=by
 intro j hj hl
 have h1:k=pre.length+1:=by have:=congrArg List.length h;simpa [Eg] using this.symm
 subst h1
 have hx:x=len - 1 - pre.length:=by
  have:=congrArg (fun l=>l[pre.length]?) h
  simp [Eg] at this
  exact this
 have hi:len - 1 - j<pre.length:=by omega
 have h2:=congrArg (fun l=>l[len - 1 - j]?) h
 simp only [Eg,List.getElem?_append_left hi,List.getElem?_map,List.getElem?_range (show len - 1 - j<pre.length+1 by omega),Option.map_some] at h2
 rw [show len - 1 - (len - 1 - j)=j by omega] at h2
 exact hp j (List.mem_of_getElem? h2)
theorem DfOk.lt {c:Ctx} (hc:w0.chk):∀ {l:List Deferred},DfOk w0 c l->∀ e∈l,∃ b,e.target = .collected b/\b<c.w.heap.size
 | d::r,h,e,he=>by
  rcases A9.1 he with rfl | he
  ·obtain⟨b,rfl,_,_,h4,_⟩:=h.1 hc
   exact⟨b,rfl,(Array.getElem?_eq_some_iff.1 h4).1⟩
  ·exact DfOk.lt hc h.2 e he
theorem S7 {len:Nat} {i:Nat} (hi:i<len):i∈Eg len len:=by
 rw [Eg,A8]
 exact⟨len - 1 - i,by simp;omega,by omega⟩

theorem aRF.back (hT:TOk P T) {gf:FuncId} {sz:Nat} (hgf:IsBack P gf sz) {g:Operand} {p1 p2:Nat} {asg body:Code} {Q:QA} {fr:Fr} {H:List AB} {B len:Nat} {tb:TypeId} {x:AV} {E:Nat->List AV}
  (hg:ev fr g = .fn gf [.bp B 0]) (hB:hget H B=some (.box tb [x])) (hx:Nv H x sz len E) (hbig:len<=1000000000) (_hni:noIter H=true) (hp:p1<n/\p2<n) (hrb:roundOk body=true)
  (frz:Fr) (hfz:frozen fr H frz) (hit:Nat->Bool)
  (hskip:∀ i,i<len->hit i=false->Wa T n asg ((p2, .ag (E i))::(p1, .v (.int .i64 i))::frz) [] fun fr' H'=>noIter H'=true/\BS P T n 0 body (fun ex _ _=>ex = .normal) fr' H')
  (hhit:∀ i,i<len->hit i=true->Wa T n asg ((p2, .ag (E i))::(p1, .v (.int .i64 i))::fr) H fun fr' H'=>noIter H'=true/\BS P T n H.length body (fun ex _ H'=>ex≠ .normal/\noIter H'=true/\((∀ j,i<j->j<len->hit j=false)->Q ex fr H')) fr' H')
  (hdone:(∀ i,i<len->hit i=false)->Q .normal fr H):aRF P T n d0 g #[p1,p2] asg body Q fr H:=by
 refine⟨fun w0 M0 ce c a hs hf he hd Q' hQ=>?_⟩
 have hgv:=hf.ev g
 rw [hg] at hgv
 simp only [Rd,RdL] at hgv
 obtain⟨_,hgv,_,_,rfl,⟨hBd,gB,hgB,rfl⟩,rfl⟩:=hgv
 rw [hget_eq] at hB
 obtain⟨g',xs,q1,q2,q3,q4⟩:=hs.blk _ _ hB
 rw [hgB] at q1
 cases q1
 simp only [RdL] at q3
 obtain⟨u,_,rfl,hu,rfl⟩:=q3
 obtain⟨ad,cap,rfl,hel⟩:=L4 hs hx hu
 have hcB:c.w.cell? ⟨gB,0,none⟩=some (.slice ad len cap):=by rw [cell_of_row _ gB _ _ tb (0,0) q2];rfl
 obtain⟨X,hXl,hXr,hXc⟩:∃ X:Nat->List Value,(∀ j,(X j).length=sz)/\(∀ i,i<len->RdL (E i) c.closed (X i))/\(0<len->∃ b off,ad=some ⟨b,off,none⟩/\b<c.w.heap.size/\∀ j,j<len->∀ (i:Nat) (u:Value),(X j)[i]? = some u->c.w.cell? ⟨b,off+j*sz+i,none⟩=some u):=by
  rcases Nat.eq_zero_or_pos len with h0 | h0
  ·exact⟨fun _=>List.replicate sz undef,by simp,fun i hi=>by omega,fun h=>by omega⟩
  ·obtain⟨b,off,h1,h2,h3⟩:=hel h0
   refine⟨fun j=>(List.range' (off+j*sz) sz).map fun i=>(c.w.cell? ⟨b,i,none⟩).getD undef,by simp,fun i hi=>?_,fun _=>⟨b,off,h1,h2,fun j hj i u hi=>?_⟩⟩
   ·have:=RdAt.raw _ (h3 i hi).2
    rw [(h3 i hi).1] at this
    exact this
   ·obtain⟨v,hv⟩:=RdAt.some _ (h3 j hj).2 i (by
     rw [(h3 j hj).1]
     have:=(List.getElem?_eq_some_iff.1 hi).1
     simpa using this)
    have hv':c.w.cell? ⟨b,off+j*sz+i,none⟩=some v:=hv
    rw [hv']
    have hil:i<sz:=by
     have:=(List.getElem?_eq_some_iff.1 hi).1
     simpa using this
    rw [List.getElem?_map,List.getElem?_range' hil] at hi
    simp only [Option.map_some,Nat.one_mul,Option.some.injEq] at hi
    rw [hv'] at hi
    simpa using hi
 have hseq:=hgf.seq gB ad len cap X c.w hbig hcB hXl hXc
 have hgl:=hs.glob
 have hlow:=hs.low.size
 -- the two memories of a round
 let wS:Fl:=(Fl.all c.w hgl).off
 have hskipHS:∀ W,Below c.w.heap.size c.w W->HS wS (fun _=>False) (c.calm W) []:=fun W hW=>
  ⟨⟨hW.os,hW.tape,hW.output,hW.size,fun b hb=>hW.block b hb⟩,rfl,rfl,fun _ _=>Iff.rfl,fun _ h=>h.elim,by simp,by simp,by simp⟩
 have hcalm:∀ W,Below c.w.heap.size c.w W->Ext (c.calm c.w) (c.calm W):=fun W hW=>
  ⟨hW.os,hW.tape,hW.output,hW.size,fun b hb _=>⟨fun h=>h,hW.block b hb⟩,Nat.le_refl _,fun k hk=>absurd hk (Ai k),fun k hk=>absurd hk (Ai k),fun k _ hk=>absurd hk (Ai k)⟩
 have hclcalm:Ext c.closed (c.calm c.w):=⟨rfl,rfl,rfl,Nat.le_refl _,fun _ _ _=>⟨fun h=>h,rfl⟩,Nat.le_refl _,fun k hk=>absurd hk (Ai k),fun k hk=>absurd hk (Ai k),fun k _ hk=>absurd hk (Ai k)⟩
 refine(wpIn_wide (n:=5)).1 ?_
 refine wpIn_rangeFunc_ownH (F:=Fence.wide) (n:=5) rfl (by omega) (gf:=gf) (lb:= #[.pointer (some ⟨gB,0,none⟩)]) hgv trivial hgf.enters hseq (fun h k=>h.trans k)
  (fun W l o o' hl ho _ _=>(Below.refl _ W).grown (grownBy_putObj' W l o') (AS hl (Nat.le_of_lt (Array.getElem?_eq_some_iff.1 ho).1)) (fun k e=>by cases e;exact hl)) (Below.refl _ _) (fun _=>rfl)
  (fun pre W=>Below c.w.heap.size c.w W/\∀ y∈pre,hit y.val=false)
  (fun cd pre W=>∃ ex pr y c' H',pre=pr ++ [y]/\(∀ z∈pr,hit z.val=false)/\cd=ex.code/\ex≠ .normal/\((∀ j,y.val<j->j<len->hit j=false)->Q ex fr H')/\c'.w=W/\HS w0 M0 c' H'/\Ext c c'/\noIter H'=true/\(∀ b,c.w.heap.size<=b->c'.M b->∃ (j:Nat) (y:AB),H'[j]? = some y/\y.live=true/\oB (c'.rho j)=some b))
  ?hI ?hIx ⟨Below.refl _ _,by simp⟩
  (fun y a' W=>(hit y.val=false->∃ c' fr' H',c'.w=W/\HS wS (fun _=>False) c' H'/\noIter H'=true/\a'.tmps.size=n/\(∀ i,Rd (fget fr' i) c' (a'.tmps.getD i undef))/\(∀ b,c.w.heap.size<=b->c'.M b->∃ o:Obj,c'.w.heap[b]? = some o/\o.isCells=true)/\BS P T n 0 body (fun ex _ _=>ex = .normal) fr' H'/\c'.dom=H'.length)/\
   (hit y.val=true->∃ c' fr' H',c'.w=W/\HS w0 M0 c' H'/\noIter H'=true/\a'.tmps.size=n/\(∀ i,Rd (fget fr' i) c' (a'.tmps.getD i undef))/\Ext c c'/\(∀ b,c.w.heap.size<=b->c'.M b->∃ o:Obj,c'.w.heap[b]? = some o/\o.isCells=true)/\BS P T n H.length body (fun ex _ H'=>ex≠ .normal/\noIter H'=true/\((∀ j,y.val<j->j<len->hit j=false)->Q ex fr H')) fr' H'))
  ?hAx ?assign ?body ?done ?stop
 case hI=>exact OwnFrom.and (ownFrom_below (Nat.le_refl _) (Nat.le_refl _)) (ownFrom_pure _ _)
 case hIx=>
  rintro cd s W W' row ⟨ex,pr,y,c',H',h1,h2,h3,h4,h5,rfl,h6,h7,h8,h9⟩ hgr hrow
  obtain⟨k1,k2⟩:=h6.turn h8 hlow hgr hrow
  exact⟨ex,pr,y,_,H',h1,h2,h3,h4,h5,rfl,k1,h7.turn (Nat.le_refl _) hgr hrow,h8,h9⟩
 case hAx=>
  have keep:∀ (c':Ctx) {W':World} {row:Option Nat},c'.w.grownBy W' row->(∀ r,row=some r->c.w.heap.size<=r/\∃ o:Obj,c'.w.heap[r]? = some o/\o.isCells=false)->(∀ b,c.w.heap.size<=b->c'.M b->∃ o:Obj,c'.w.heap[b]? = some o/\o.isCells=true)->∀ b,c.w.heap.size<=b->c'.M b->∃ o:Obj,W'.heap[b]? = some o/\o.isCells=true:=by
   intro c' W' row hgr hrow h b hb hm
   obtain⟨o,h1,h2⟩:=h b hb hm
   refine⟨o,(hgr.block b (Array.getElem?_eq_some_iff.1 h1).1 fun e=>?_).trans h1,h2⟩
   obtain⟨_,o',h3,h4⟩:=hrow b e.symm
   rw [h1] at h3
   cases h3
   rw [h2] at h4
   cases h4
  rintro y a' s W W' row ⟨hA,hC⟩ hgr hrow
  refine⟨fun hh=>?_,fun hh=>?_⟩
  ·obtain⟨c',fr',H',rfl,h1,h2,h3,h4,h5,h6,h7⟩:=hA hh
   obtain⟨k1,k2⟩:=h1.turn h2 (Nat.le_refl _) hgr hrow
   exact⟨_,fr',H',rfl,k1,h2,h3,fun i=>Rd.like _ k2 (h4 i),keep c' hgr hrow h5,h6,h7⟩
  ·obtain⟨c',fr',H',rfl,h1,h2,h3,h4,h5,h6,h7⟩:=hC hh
   obtain⟨k1,k2⟩:=h1.turn h2 hlow hgr hrow
   exact⟨_,fr',H',rfl,k1,h2,h3,fun i=>Rd.like _ k2 (h4 i),h5.turn (Nat.le_refl _) hgr hrow,keep c' hgr hrow h6,h7⟩
 case assign=>
  rintro l pre y W K ⟨hW,hpre⟩ hK
  have hput:∀ (c1:Ctx) (fr1:Fr) (w1:Fl),¬w1.chk->(∀ i,Rd (fget fr1 i) c1 (a.tmps.getD i undef))->Rd (.ag (E y.val)) c1 (.agg (X y.val).toArray)->
    FR w1 c1 n ((p2, .ag (E y.val))::(p1, .v (.int .i64 (y.val:Nat)))::fr1) { tmps:=((#[p1,p2]:Array Tmp).zip #[Value.int .i64 y.val, .agg (X y.val).toArray]).foldl (fun t (p,v)=>t.setIfInBounds p v) a.tmps,defers:= [] }:=by
   intro c1 fr1 w1 hc hr1 hr2
   have h0:FR w1 c1 n fr1 { tmps:=a.tmps,defers:= [] }:=FR.off hf.size hr1 hc
   have h1:=h0.put (d:=p1) (x:= .v (.int .i64 (y.val:Nat))) (v:= .int .i64 (y.val:Nat)) hp.1 (by simp [Rd])
   have e:∀ (u v:Value),((#[p1,p2]:Array Tmp).zip #[u,v]).foldl (fun t (p,v)=>t.setIfInBounds p v) a.tmps=(a.tmps.setIfInBounds p1 u).setIfInBounds p2 v:=by intro u v;simp
   rw [e]
   exact h1.put (d:=p2) (x:= .ag (E y.val)) (v:= .agg (X y.val).toArray) hp.2 hr2
  have hWs:=hW.size
  cases hh:hit y.val with
  | false=>
   have hE:Rd (.ag (E y.val)) (c.calm W) (.agg (X y.val).toArray):=by
    simp only [Rd]
    exact⟨_,rfl,RdL.ext _ (hclcalm.trans (hcalm W hW)) (hXr y.val y.isLt)⟩
   have hfr:=hput (c.calm W) frz wS (fun h=>h) (fun i=>Rd.ext _ (hcalm W hW) (Mo hs hf.get hfz i)) hE
   refine Lt (w0:=wS) (M0:=fun _=>False) (ce:=c.calm W) hT (c:=c.calm W) (hskipHS W hW) hfr (Ext.refl _) (hskip y.val y.isLt hh) ?_
   rintro a' W' ⟨c',fr',H',rfl,⟨k1,k2⟩,k3,k4,k5⟩ hold
   have hb:=LX (c:=c) hWs hold k5.os k5.tape k5.output k5.size
   obtain⟨s1,s2⟩:=k3.slim (B0:=c.w.heap.size) (Nat.le_refl _)
   refine hK a' c'.w ⟨k5.size,fun k o _ h1 _=>(hold k (Array.getElem?_eq_some_iff.1 h1).1).trans h1⟩ hb ⟨hW.trans hb,hpre⟩ ⟨fun _=>⟨c'.slim c.w.heap.size H',fr',H',rfl,s1,k1,k4.size,(k4.ext s2).get,fun b hb' hm=>Ko k3 k1 hb' hm,k2,s1.dom⟩,fun e=>by rw [hh] at e;cases e⟩
  | true=>
   obtain⟨g1,g2⟩:=hs.grow hW
   have hE:Rd (.ag (E y.val)) { c with w:=W } (.agg (X y.val).toArray):=by
    simp only [Rd]
    exact⟨_,rfl,RdL.ext _ ((Ext.ofClosed c).trans g2) (hXr y.val y.isLt)⟩
   have hfr:=hput { c with w:=W } fr w0.off (fun h=>h) (fun i=>Rd.ext _ g2 (hf.get i)) hE
   refine Lt (w0:=w0.off) (M0:=M0) (ce:={ c with w:=W }) hT (c:={ c with w:=W }) g1.off hfr (Ext.refl _) (hhit y.val y.isLt hh) ?_
   rintro a' W' ⟨c',fr',H',rfl,⟨k1,k2⟩,k3,k4,k5⟩ hold
   have hb:=LX (c:=c) hWs hold k5.os k5.tape k5.output k5.size
   obtain⟨s1,s2⟩:=k3.slim (B0:=c.w.heap.size) hlow
   refine hK a' c'.w ⟨k5.size,fun k o _ h1 _=>(hold k (Array.getElem?_eq_some_iff.1 h1).1).trans h1⟩ hb ⟨hW.trans hb,hpre⟩ ⟨fun e=>(by rw [hh] at e;cases e),fun _=>⟨c'.slim c.w.heap.size H',fr',H',rfl,s1.on,k1,k4.size,(k4.ext s2).get,(g2.trans k5).trans s2,fun b hb' hm=>Ko k3 k1 hb' hm,k2⟩⟩
 case body=>
  rintro l pre y a' W hl hrec ⟨hW,hpre⟩ ⟨hA,hC⟩ hlt
  cases hh:hit y.val with
  | false=>
   obtain⟨c',fr',H',rfl,h1,h2,h3,h4,h5,h6,h7⟩:=hA hh
   refine BL (w0:=wS) (M0:=fun _=>False) (ce:={ c' with dom:=0 }) (d0:=0) hT rfl body _ _ c' fr' H' a' hrb ?_ h1 (FR.off h3 h4 fun h=>h) (Ext.ofClosed c') h6
   intro e a3 W3 hl3
   have go:∀ ex:EX,Dw wS (fun _=>False) { c' with dom:=0 } n (fun _ _=>ex = .normal) a3 W3->ex = .normal/\KeepsFrom c.w.heap.size c'.w W3/\Below c.w.heap.size c'.w W3:=by
    rintro ex ⟨c3,fr3,H3,rfl,e1,e2,e3,e4⟩
    have hlw:=e2.low
    refine⟨e1,⟨e4.size,fun k o hk ho hc=>?_⟩,⟨e4.os,e4.tape,e4.output,e4.size,fun b hb=>(hlw.block b hb).trans (hW.block b hb).symm⟩⟩
    refine(e4.keep k (Array.getElem?_eq_some_iff.1 ho).1 fun hm=>?_).2.trans ho
    obtain⟨o',q1,q2⟩:=h5 k hk hm
    rw [ho] at q1
    cases q1
    rw [hc] at q2
    cases q2
   cases e with
   | normal=>
    obtain⟨_,k1,k2⟩:=go .normal hl3
    exact⟨k1,k2,hW.trans k2,fun z hz=>by
     rcases At.1 hz with h | h
     ·exact hpre z h
     ·simp at h;subst h;exact hh⟩
   | exit id=>exact absurd (go (.exit id) hl3).1 (by simp)
   | ret=>exact absurd (go .ret hl3).1 (by simp)
   | _=>exact hl3.elim
  | true=>
   obtain⟨c',fr',H',rfl,h1,h2,h3,h4,h5,h6,h7⟩:=hC hh
   have hce:Ext c { c' with dom:=H.length }:=⟨h5.os,h5.tape,h5.output,h5.size,h5.keep,by show c.dom<=H.length;rw [hs.dom];exact Nat.le_refl _,h5.len,h5.rho,h5.box⟩
   have hce2:Ext { c' with dom:=H.length } c':=⟨rfl,rfl,rfl,Nat.le_refl _,fun _ _ h=>⟨h,rfl⟩,by show H.length<=c'.dom;rw [<-hs.dom];exact h5.dom,fun _ _=>Nat.le_refl _,fun _ _ _=>rfl,fun _ _ _ h=>h⟩
   refine BL (w0:=w0.off) (M0:=M0) (ce:={ c' with dom:=H.length }) (d0:=H.length) hT rfl body _ _ c' fr' H' a' hrb ?_ h1.off (FR.off h3 h4 fun h=>h) hce2 h7
   intro e a3 W3 hl3
   have go:∀ ex:EX,Dw w0.off M0 { c' with dom:=H.length } n (fun _ H'=>ex≠ .normal/\noIter H'=true/\((∀ j,y.val<j->j<len->hit j=false)->Q ex fr H')) a3 W3->ex≠ .normal/\KeepsFrom c.w.heap.size c'.w W3/\∃ c3 H3,c3.w=W3/\HS w0.off M0 c3 H3/\Ext { c' with dom:=H.length } c3/\noIter H3=true/\((∀ j,y.val<j->j<len->hit j=false)->Q ex fr H3):=by
    rintro ex ⟨c3,fr3,H3,rfl,⟨e0,e1,e5⟩,e2,e3,e4⟩
    refine⟨e0,⟨e4.size,fun k o hk ho hc=>?_⟩,c3,H3,rfl,e2,e4,e1,e5⟩
    refine(e4.keep k (Array.getElem?_eq_some_iff.1 ho).1 fun hm=>?_).2.trans ho
    obtain⟨o',q1,q2⟩:=h6 k hk hm
    rw [ho] at q1
    cases q1
    rw [hc] at q2
    cases q2
   have mk:∀ ex:EX,Dw w0.off M0 { c' with dom:=H.length } n (fun _ H'=>ex≠ .normal/\noIter H'=true/\((∀ j,y.val<j->j<len->hit j=false)->Q ex fr H')) a3 W3->ex≠ .normal/\KeepsFrom c.w.heap.size c'.w W3/\∃ ex' pr y' c'' H'',pre ++ [y]=pr ++ [y']/\(∀ z∈pr,hit z.val=false)/\ex.code=ex'.code/\ex'≠ .normal/\((∀ j,y'.val<j->j<len->hit j=false)->Q ex' fr H'')/\c''.w=W3/\HS w0 M0 c'' H''/\Ext c c''/\noIter H''=true/\(∀ b,c.w.heap.size<=b->c''.M b->∃ (j:Nat) (y:AB),H''[j]? = some y/\y.live=true/\oB (c''.rho j)=some b):=by
    intro ex hl4
    obtain⟨k0,k1,c3,H3,rfl,k2,k3,k4,k5⟩:=go ex hl4
    obtain⟨s1,s2⟩:=k2.slim (B0:=c.w.heap.size) hlow
    exact⟨k0,k1,ex,pre,y,c3.slim c.w.heap.size H3,H3,rfl,hpre,rfl,k0,k5,rfl,s1.on,(hce.trans k3).trans s2,k4,fun b hb hm=>hm.2.resolve_left (by omega)⟩
   cases e with
   | normal=>exact absurd rfl (mk .normal hl3).1
   | exit id=>exact(mk (.exit id) hl3).2
   | ret=>exact(mk .ret hl3).2
   | _=>exact hl3.elim
 case done=>
  rintro D ys W hD hys ⟨hW,hpre⟩ hdef
  obtain⟨g1,g2⟩:=hs.grow hW
  have hall:∀ i,i<len->hit i=false:=by
   intro i hi
   have:=S7 hi
   rw [<-hys,A8] at this
   obtain⟨y,hy,rfl⟩:=this
   exact hpre y hy
  refine hQ .normal { c with w:=W } fr H _ (hdone hall) g1 ⟨hf.size,⟨fun _=>⟨D,rfl,AS hlow hD,fun hm=>by have:=hs.lt D hm;omega,hdef,?_⟩,hf.defers.ext g2⟩,(hf.ext g2).get⟩ (he.trans g2)
  rename_i hck
  intro e he'
  obtain⟨b,hb,hlt⟩:=hf.defers.lt hck e he'
  rw [hb]
  intro e'
  injection e' with e'
  omega
 case stop=>
  rintro D cd pre W hD ⟨k,hk,hpre⟩ ⟨ex,pr,y,c',H',rfl,h2,rfl,h4,h5,rfl,h6,h7,h8,h9⟩ hdef
  have hq:Q ex fr H':=h5 (Qe hk (pre:=pr.map Fin.val) (x:=y.val) (by rw [<-hpre];simp) (p:=fun j=>hit j=false) (by
   intro z hz
   obtain⟨z',hz',rfl⟩:=A8.1 hz
   exact h2 z' hz'))
  have hM:¬c'.M D:=by
   intro hm
   obtain⟨j,y',q1,q2,q3⟩:=h9 D hD hm
   obtain⟨o,q4,q5⟩:=h6.cells h8 q1 q2 q3
   rw [hdef] at q4
   cases q4
   cases q5
  have hfr:FR w0 c' n fr { a with defers:={ target:= .collected D,args:= #[] }::a.defers }:=by
   refine⟨hf.size,⟨fun hck=>⟨D,rfl,AS hlow hD,hM,hdef,?_⟩,hf.defers.ext h7⟩,(hf.ext h7).get⟩
   intro e he'
   obtain⟨b,hb,hlt⟩:=hf.defers.lt hck e he'
   rw [hb]
   intro e'
   injection e' with e'
   omega
  cases ex with
  | normal=>exact absurd rfl h4
  | exit id=>exact wpIn_exit (hQ (.exit id) c' fr H' _ hq h6 hfr (he.trans h7))
  | ret=>exact wpIn_ret (hQ .ret c' fr H' _ hq h6 hfr (he.trans h7))
end
end Go.Proofs.YtkolckdakddggaaGreatDoor.A
end
section
namespace Go.Proofs.YtkolckdakddggaaGreatDoor.A
open Go.RowKit Go.Shelf
attribute [local go_sem] Oper.semAt_some

theorem Lj (n j:Nat):Eg n (j+1)=Eg n j ++ [n - 1 - j]:=by simp [Eg,Bb]
theorem Nx (n j:Nat):(Eg n j).length=j:=by simp [Eg]

theorem UM (F:Fence) (n:Nat) (h7:F.fn 164) (hro:F.round=none) (hn:1<=n) (l Bs n₀ b off len cap:Nat) (X Y:Nat->Value) (hlen:len<=1000000000) (hb:b<n₀) (hBn:Bs<n₀) (J Jx:List Nat->World->Prop)
  (hY:∀ pre x W,J pre W->pre.length<len->x<len->YieldAt F (n - 1) Tryz.prog l #[.int .i64 (x:Nat), .agg #[X x,Y x]] W fun e W'=>
   (e = .returned (.bool true)/\J (pre ++ [x]) W'/\Below n₀ W W')\/(e = .returned (.bool false)/\Jx (pre ++ [x]) W'))
  (W:World) (hBs:W.cell? ⟨Bs,0,none⟩=some (.slice (some ⟨b,off,none⟩) len cap)) (hc0:∀ j,j<len->W.cell? ⟨b,off+j*2,none⟩=some (X j)) (hc1:∀ j,j<len->W.cell? ⟨b,off+j*2+1,none⟩=some (Y j)) (h0:J [] W) :
  CallsIn F n Tryz.prog 164 #[.func (.yield l) #[] #[], .pointer (some ⟨Bs,0,none⟩)] W fun e W'=>(∃ v,e = .returned v)/\
   ((∃ ys,ys=Eg len len/\J ys W')\/(∃ pre,(∃ k,k<=len/\pre=Eg len k)/\Jx pre W')):=by
 have Hc0:=Lib.hid hc0
 have Hc1:=Lib.hid hc1
 clear hc0 hc1
 refine callsIn_of_wp Tryz.func164 rfl h7 ?_ hro
 simp only [Tryz.ntmps164,BW,Ag,AJ,Nat.reduceAdd,Nat.reduceSub,Array.replicate_succ,Array.replicate_zero,List.push_toArray,List.append_toArray,Bn,Bf]
 gi_wp2
 gi_loopw [3] (fun i wr=>∃ k:Nat,k<=len/\i = .int .i64 ((len:Int) - 1 - k)/\J (Eg len k) wr/\Below n₀ W wr)
  (fun i _=>(intOf i+1).toNat)
 case atStart=>exact⟨0,Ad _,by simp,h0,Below.refl _ _⟩
 case round=>
  obtain⟨k,hk,rfl,hJs,hnx⟩:=hrel
  by_cases hlt:k<len
  ·obtain⟨m,hmk⟩:∃ m,len=k+1+m:=⟨len - (k+1),by omega⟩
   rw [show (len:Int) - 1 - k=(m:Int) by omega]
   obtain⟨fn,tmps,assign,body,hy,hR⟩:=hY _ m wr hJs (by rw [Nx];exact hlt) (by omega)
   have e0:=(hnx.cell (p:=⟨b,off+m*2,none⟩) hb).trans (Hc0.out m (by omega))
   have e1:=(hnx.cell (p:=⟨b,off+m*2+1,none⟩) hb).trans (Hc1.out m (by omega))
   have eb:=(hnx.cell (p:=⟨Bs,0,none⟩) hBn).trans hBs
   have hm:(m:Int)<(len:Int):=by omega
   have Hm:=Lib.hid hmk
   clear hmk
   gi_wp2
   refine hR.mono ?_
   rintro e W3 (⟨rfl,hJ3,hk3⟩ | ⟨rfl,hJx3⟩)
   ·gi_wp2
    go_roundw
    case rel=>exact⟨k+1,by omega,congrArg (Value.int .i64) (by have:=Hm.out;omega),by rw [Lj,show len - 1 - k=m by have:=Hm.out;omega];exact hJ3,hnx.trans hk3⟩
    case measure=>simp [intOf]
   ·gi_wp2
    refine bodyPost_ret (results_none rfl _ _ _) rfl ?_
    exact⟨⟨_,rfl⟩, .inr ⟨_,⟨k+1,by omega,by rw [Lj,show len - 1 - k=m by have:=Hm.out;omega]⟩,hJx3⟩⟩
  ·obtain rfl:k=len:=by omega
   rw [show ((k:Nat):Int) - 1 - k = -1 by omega]
   gi_wp2
   go_end0
   exact⟨⟨_,rfl⟩, .inl ⟨_,rfl,hJs⟩⟩

theorem UN (F:Fence) (n:Nat) (h7:F.fn 164) (hro:F.round=none) (l Bs:Nat) (a:Option Addr) (cap:Nat) (J:List Nat->World->Prop) (W:World) (hBs:W.cell? ⟨Bs,0,none⟩=some (.slice a 0 cap)) (h0:J [] W) :
  CallsIn F n Tryz.prog 164 #[.func (.yield l) #[] #[], .pointer (some ⟨Bs,0,none⟩)] W fun e W'=>(∃ v,e = .returned v)/\J [] W':=by
 refine callsIn_of_wp Tryz.func164 rfl h7 ?_ hro
 simp only [Tryz.ntmps164,BW,Ag,AJ,Nat.reduceAdd,Nat.reduceSub,Array.replicate_succ,Array.replicate_zero,List.push_toArray,List.append_toArray,Bn,Bf]
 gi_wp2
 gi_loopw [3] (fun i wr=>i = .int .i64 (-1)/\J [] wr) (fun _ _=>0)
 case atStart=>exact⟨rfl,h0⟩
 case round=>
  obtain⟨rfl,hJs⟩:=hrel
  gi_wp2
  go_end0
  exact⟨⟨_,rfl⟩,hJs⟩

theorem Qw (F:Fence) (n:Nat) (h7:F.fn 164) (hro:F.round=none) (hn:1<=n) (Bs n₀:Nat) (a:Option Addr) (len cap:Nat) (X Y:Nat->Value) (hlen:len<=1000000000) (w:World) (hBs:Bs<n₀) (hn₀:n₀<=w.heap.size)
  (hc:w.cell? ⟨Bs,0,none⟩=some (.slice a len cap)) (hI:0<len->∃ b off,a=some ⟨b,off,none⟩/\b<n₀/\∀ j,j<len->w.cell? ⟨b,off+j*2,none⟩=some (X j)/\w.cell? ⟨b,off+j*2+1,none⟩=some (Y j)) :
  SeqStopsK F n Tryz.prog 164 #[.pointer (some ⟨Bs,0,none⟩)] (fun x:Fin len=> #[Value.int .i64 x.val, .agg #[X x,Y x]]) (Below n₀) (fun ys=>ys.map Fin.val=Eg len len) (fun pre=>∃ k,k<=len/\pre.map Fin.val=Eg len k) len w:=fun l J Jx W hW _ _ hY h0=>by
 have hc':=(hW.cell (p:=⟨Bs,0,none⟩) (by show Bs<_;omega)).trans hc
 rcases Nat.eq_zero_or_pos len with rfl | hp
 ·exact(UN F n h7 hro l Bs a cap (fun _ W=>J [] W) W hc' h0).mono fun e W' ⟨he,hj⟩=>⟨he, .inl ⟨[],rfl,hj⟩⟩
 ·obtain⟨b,off,rfl,hb,hj⟩:=hI hp
  refine(UM F n h7 hro hn l Bs n₀ b off len cap X Y hlen hb hBs (fun pre W=>∃ q:List (Fin len),q.map Fin.val=pre/\J q W) (fun pre W=>∃ q:List (Fin len),q.map Fin.val=pre/\Jx q W) ?_ W hc' (fun j h=>(hW.cell (p:=⟨b,off+j*2,none⟩) (by show b<_;omega)).trans (hj j h).1) (fun j h=>(hW.cell (p:=⟨b,off+j*2+1,none⟩) (by show b<_;omega)).trans (hj j h).2) ⟨[],rfl,h0⟩).mono ?_
  ·rintro pre x W1 ⟨q,hq,hJ⟩ hlt hx
   obtain⟨fn,tmps,assign,body,hy,hR⟩:=hY q ⟨x,hx⟩ W1 hJ (by rw [<-hq,Aa] at hlt;exact hlt)
   refine⟨fn,tmps,assign,body,hy,hR.mono ?_⟩
   rintro e W' (⟨he,h1,h2⟩ | ⟨he,h1⟩)
   ·exact .inl ⟨he,⟨_,by simp [hq],h1⟩,h2⟩
   ·exact .inr ⟨he,⟨_,by simp [hq],h1⟩⟩
  ·rintro e W' ⟨he,⟨ys,rfl,q,hq,hJ⟩ | ⟨pre,⟨k,hk,rfl⟩,q,hq,hJ⟩⟩
   ·exact⟨he, .inl ⟨q,hq,hJ⟩⟩
   ·exact⟨he, .inr ⟨q,⟨k,hk,hq⟩,hJ⟩⟩

theorem back_is:IsBack Tryz.prog 164 2:=by
 refine⟨enters_of Tryz.func164 (by kernel_rfl) rfl,fun B a len cap X w hlen hc hl hI=>?_⟩
 have e:(fun x:Fin len=>(#[Value.int .i64 x.val, .agg (X x.val).toArray]:Array Value))=fun x:Fin len=> #[Value.int .i64 x.val, .agg #[(X x.val).getD 0 undef,(X x.val).getD 1 undef]]:=by
  funext x
  have:=hl x.val
  match h:X x.val with
  | [u,v]=>rfl
  | []=>rw [h] at this;simp at this
  | [_]=>rw [h] at this;simp at this
  | _::_::_::_=>rw [h] at this;simp at this
 rw [e]
 refine Qw Fence.wide 4 trivial rfl (by omega) B w.heap.size a len cap (fun j=>(X j).getD 0 undef) (fun j=>(X j).getD 1 undef) hlen w (World.block_lt_of_cell? w _ hc) (Nat.le_refl _) hc fun hp=>?_
 obtain⟨b,off,h1,h2,h3⟩:=hI hp
 refine⟨b,off,h1,h2,fun j hj=>?_⟩
 have h4:=hl j
 match h:X j with
 | [u,v]=>exact⟨h3 j hj 0 u (by rw [h];rfl),h3 j hj 1 v (by rw [h];rfl)⟩
 | []=>rw [h] at h4;simp at h4
 | [_]=>rw [h] at h4;simp at h4
 | _::_::_::_=>rw [h] at h4;simp at h4
end Go.Proofs.YtkolckdakddggaaGreatDoor.A
end
section
namespace Go.Proofs.YtkolckdakddggaaGreatDoor.A
open Go.RowKit
structure Cel where
 state:Int
 bytes:List UInt8
 old:List UInt8
 deriving DecidableEq
def Bi (x:Cel):List AV:= [.v (.int .i64 x.state),bA x.bytes,bA x.old]
structure Dk where
 cells:List Cel
 cache:List Wr
 reqs:Int
 left:Int
 deriving DecidableEq
@[reducible] def G3 (x y:AV) (reqs left:Int):List AV:= [x,y, .v (.int .i64 reqs), .v (.int .i64 left)]
@[reducible] def dkH (d:Dk):List AB:= [.box 113 (G3 (.ow 1 d.cells.length) (.ow 2 d.cache.length) d.reqs d.left), .row 84 3 (d.cells.map Bi), .row 131 2 (d.cache.map D3)]
def Dk.req (d:Dk):Dk:={ d with reqs:=if 1048576<IntKind.i64.wrap (d.reqs+1) then 1048576 else IntKind.i64.wrap (d.reqs+1),left:=if d.left > 0 then d.left - 1 else d.left }

theorem FY (d:Dk) (hl : -1<=d.left/\d.left<=1048576):ACalls Tryz.prog false 97 [.bp 0 0] (dkH d) fun r H=>r = .v (.bool (decide (d.left≠0)))/\H=dkH (if d.left=0 then d else d.req):=by
 refine ACalls.ofO tys_ok Tryz.func97 rfl rfl (by decide) ?_
 conv=>whnf
 refine Aw (fun h=>?_) (fun h=>?_) <;> (repeat rw [Ab] at h) <;> conv=>whnf
 ·exact⟨_,dkH d,fun _ _ h=>h,⟨rfl,rfl,rfl,trivial⟩,rfl,⟨rfl,rfl⟩,by simp [h],by rw [if_pos h]⟩
 ·have hw:IntKind.i64.wrap (d.left - 1)=d.left - 1:=by rw [IntKind.wrap_i64];omega
  refine aSeq.go ?_
  conv=>whnf
  refine Aw (fun h2=>?_) (fun h2=>?_) <;> (repeat rw [Ab] at h2) <;> conv=>whnf
  ·exact⟨_,dkH d.req,fun _ _ h=>h,⟨by simp [Dk.req,h2,hw],rfl,rfl,trivial⟩,rfl,⟨rfl,rfl⟩,by simp [h],by rw [if_neg h]⟩
  ·exact⟨_,dkH d.req,fun _ _ h=>h,⟨by simp [Dk.req];omega,rfl,rfl,trivial⟩,rfl,⟨rfl,rfl⟩,by simp [h],by rw [if_neg h]⟩

theorem UL (a:Option Addr) (len cap:Nat) (w:World) :
  Calls Tryz.prog 98 #[.slice a len cap] w fun e w'=>e = .returned (.func (.func 164) #[] #[.pointer (some ⟨w.heap.size,0,none⟩)])/\w.alloc (.cells #[.slice a len cap] 36)=w':=by
 go_enter Tryz.func98,Tryz.ntmps98
 go_wp2
 go_ret
 exact⟨rfl,rfl⟩

theorem OY (x:AV) (Hin:List AB) (hx:∀ c u,Rd x c u->∃ a len cap,u = .slice a len cap):ACalls Tryz.prog false 98 [x] Hin fun r H=>r = .fn 164 [.bp Hin.length 0]/\H=Hin ++ [.box 36 [x]]:=by
 refine⟨⟨_,Tryz.func98,rfl,by decide⟩,fun w0 M0 c us hs hr=>?_⟩
 have hr0:=hr
 simp only [RdL] at hr
 obtain⟨u,_,rfl,hu,rfl⟩:=hr
 obtain⟨a,len,cap,rfl⟩:=hx _ _ hu
 obtain⟨c',e1,e2,e3,e4⟩:=hs.box 36 hr0 (by simp [Value.oneCell'])
 refine(UL a len cap c.w).mono ?_
 rintro e w' ⟨rfl,rfl⟩
 refine⟨_,c',_,_,rfl,by rw [e1],⟨rfl,rfl⟩,e2,e3,?_,fun e=>by cases e⟩
 simp only [Rd,RdL]
 exact⟨_,rfl,_,_,rfl,by simpa only [Rd] using e4,rfl⟩
def M9 (l:List Cel):AV:= .sl 3 l.length fun i=>Bi (l.getD i ⟨0, [], []⟩)
theorem KP (l:List Int) (hl:l.length<=1000000000):ACalls Tryz.prog false 89 [iA l] [] fun r H=>r = .ow 0 l.length/\H=[.row 3 1 (l.map U_)]:=by
 refine ACalls.ofC tys_ok Tryz.func89 rfl rfl (by show 1<=_;decide) ?_
 refine And.intro (fun h=>?_) ?_
 ·conv=>whnf
  have h0:=AC.1 h
  subst h0
  exact⟨_, .ow 0 0, [.row 3 1 []],fun _ _ h=>h,Wk.conv ⟨[(0,3,1)],⟨rfl,rfl,trivial⟩,⟨rfl,trivial⟩,⟨rfl,trivial⟩,rfl,rfl,rfl⟩,rfl,rfl⟩
 ·refine⟨⟨rfl,by omega⟩,?_⟩
  exact⟨.ow 0 l.length, .ow 0 l.length, [.row 3 1 (l.map U_)],fun _ _ h=>by rwa [Am] at h,Wk.conv ⟨[],trivial,⟨rfl,trivial⟩,⟨(congrArg (AB.row _ _) (GE (d:=0) U_ l)).symm,trivial⟩,rfl,rfl,rfl⟩,rfl,rfl⟩
theorem Ml (l:List Hm) (hl:l.length<=1000000000):ACalls Tryz.prog false 155 [Hq l] [] fun r H=>r = .ow 0 l.length/\H=[.row 53 3 (l.map CH)]:=by
 refine ACalls.ofC tys_ok Tryz.func155 rfl rfl (by show 1<=_;decide) ?_
 refine And.intro (fun h=>?_) ?_
 ·conv=>whnf
  have h0:=AC.1 h
  subst h0
  exact⟨_, .ow 0 0, [.row 53 3 []],fun _ _ h=>h,Wk.conv ⟨[(0,53,3)],⟨rfl,rfl,trivial⟩,⟨rfl,trivial⟩,⟨rfl,trivial⟩,rfl,rfl,rfl⟩,rfl,rfl⟩
 ·refine⟨⟨rfl,by omega⟩,?_⟩
  exact⟨.ow 0 l.length, .ow 0 l.length, [.row 53 3 (l.map CH)],fun _ _ h=>by rwa [Am] at h,Wk.conv ⟨[],trivial,⟨rfl,trivial⟩,⟨(congrArg (AB.row _ _) (GE (d:=⟨[],0,0⟩) CH l)).symm,trivial⟩,rfl,rfl,rfl⟩,rfl,rfl⟩
theorem LA (l:List Tx) (hl:l.length<=1000000000):ACalls Tryz.prog false 154 [CW l] [] fun r H=>r = .ow 0 l.length/\H=[.row 45 4 (l.map CI)]:=by
 refine ACalls.ofC tys_ok Tryz.func154 rfl rfl (by show 1<=_;decide) ?_
 refine And.intro (fun h=>?_) ?_
 ·conv=>whnf
  have h0:=AC.1 h
  subst h0
  exact⟨_, .ow 0 0, [.row 45 4 []],fun _ _ h=>h,Wk.conv ⟨[(0,45,4)],⟨rfl,rfl,trivial⟩,⟨rfl,trivial⟩,⟨rfl,trivial⟩,rfl,rfl,rfl⟩,rfl,rfl⟩
 ·refine⟨⟨rfl,by omega⟩,?_⟩
  exact⟨.ow 0 l.length, .ow 0 l.length, [.row 45 4 (l.map CI)],fun _ _ h=>by rwa [Am] at h,Wk.conv ⟨[],trivial,⟨rfl,trivial⟩,⟨(congrArg (AB.row _ _) (GE (d:=⟨0,0,0, []⟩) CI l)).symm,trivial⟩,rfl,rfl,rfl⟩,rfl,rfl⟩
theorem Sn (l:List Img) (hl:l.length<=1000000000):ACalls Tryz.prog false 161 [Ef l] [] fun r H=>r = .ow 0 l.length/\H=[.row 51 3 (l.map DE)]:=by
 refine ACalls.ofC tys_ok Tryz.func161 rfl rfl (by show 1<=_;decide) ?_
 refine And.intro (fun h=>?_) ?_
 ·conv=>whnf
  have h0:=AC.1 h
  subst h0
  exact⟨_, .ow 0 0, [.row 51 3 []],fun _ _ h=>h,Wk.conv ⟨[(0,51,3)],⟨rfl,rfl,trivial⟩,⟨rfl,trivial⟩,⟨rfl,trivial⟩,rfl,rfl,rfl⟩,rfl,rfl⟩
 ·refine⟨⟨rfl,by omega⟩,?_⟩
  exact⟨.ow 0 l.length, .ow 0 l.length, [.row 51 3 (l.map DE)],fun _ _ h=>by rwa [Am] at h,Wk.conv ⟨[],trivial,⟨rfl,trivial⟩,⟨(congrArg (AB.row _ _) (GE (d:=⟨0,0, []⟩) DE l)).symm,trivial⟩,rfl,rfl,rfl⟩,rfl,rfl⟩
theorem Lp (l:List Cel) (hl:l.length<=1000000000):ACalls Tryz.prog false 95 [M9 l] [] fun r H=>r = .ow 0 l.length/\H=[.row 84 3 (l.map Bi)]:=by
 refine ACalls.ofC tys_ok Tryz.func95 rfl rfl (by show 1<=_;decide) ?_
 refine And.intro (fun h=>?_) ?_
 ·conv=>whnf
  have h0:=AC.1 h
  subst h0
  exact⟨_, .ow 0 0, [.row 84 3 []],fun _ _ h=>h,Wk.conv ⟨[(0,84,3)],⟨rfl,rfl,trivial⟩,⟨rfl,trivial⟩,⟨rfl,trivial⟩,rfl,rfl,rfl⟩,rfl,rfl⟩
 ·refine⟨⟨rfl,by omega⟩,?_⟩
  exact⟨.ow 0 l.length, .ow 0 l.length, [.row 84 3 (l.map Bi)],fun _ _ h=>by rwa [Am] at h,Wk.conv ⟨[],trivial,⟨rfl,trivial⟩,⟨(congrArg (AB.row _ _) (GE (d:=⟨0, [], []⟩) Bi l)).symm,trivial⟩,rfl,rfl,rfl⟩,rfl,rfl⟩
theorem L7 (l:List Wr) (hl:l.length<=1000000000):ACalls Tryz.prog false 96 [Kc l] [] fun r H=>r = .ow 0 l.length/\H=[.row 131 2 (l.map D3)]:=by
 refine ACalls.ofC tys_ok Tryz.func96 rfl rfl (by show 1<=_;decide) ?_
 refine And.intro (fun h=>?_) ?_
 ·conv=>whnf
  have h0:=AC.1 h
  subst h0
  exact⟨_, .ow 0 0, [.row 131 2 []],fun _ _ h=>h,Wk.conv ⟨[(0,131,2)],⟨rfl,rfl,trivial⟩,⟨rfl,trivial⟩,⟨rfl,trivial⟩,rfl,rfl,rfl⟩,rfl,rfl⟩
 ·refine⟨⟨rfl,by omega⟩,?_⟩
  exact⟨.ow 0 l.length, .ow 0 l.length, [.row 131 2 (l.map D3)],fun _ _ h=>by rwa [Am] at h,Wk.conv ⟨[],trivial,⟨rfl,trivial⟩,⟨(congrArg (AB.row _ _) (GE (d:=⟨0, []⟩) D3 l)).symm,trivial⟩,rfl,rfl,rfl⟩,rfl,rfl⟩
theorem SubL.app:∀ {a b x y:List AV},SubL a b->SubL x y->SubL (a ++ x) (b ++ y)
 | [], [],_,_,_,k=>k
 | _::_,_::_,_,_,h,k=>⟨h.1,SubL.app h.2 k⟩
 | [],_::_,_,_,h,_=>h.elim
 | _::_, [],_,_,h,_=>h.elim
theorem SubL.flat:∀ {a b:List (List AV)},a.length=b.length->(∀ i,SubL (a.getD i []) (b.getD i []))->SubL a.flatten b.flatten
 | [], [],_,_=>trivial
 | x::a,y::b,hl,h=>by
  rw [Az,Az]
  exact SubL.app (h 0) (SubL.flat (by simpa using hl) fun i=>h (i+1))
 | [],_::_,hl,_=>by simp at hl
 | _::_, [],hl,_=>by simp at hl
theorem ConvH.subRow {H:List AB} {k:Nat} {t:TypeId} {sz:Nat} {es es':List (List AV)} (hk:H[k]? = some (.row t sz es)) (hl:es.length=es'.length) (h:∀ i,SubL (es.getD i []) (es'.getD i [])):ConvH H (H.set k (.row t sz es')):=fun _ _ c hs=>
 ⟨c,rfl,hs.recell hk rfl fun⟨h1,h2,h3,xs,h4,h5,h6⟩=>⟨h1.trans hl,h2,fun e he=>by
  obtain⟨i,hi,rfl⟩:=List.mem_iff_getElem.1 he
  have:=(h i).len
  rw [List.getD_eq_getElem?_getD,List.getD_eq_getElem?_getD,List.getElem?_eq_getElem hi,List.getElem?_eq_getElem (by omega)] at this
  simp only [Bm] at this
  rw [<-this]
  exact h3 _ (BO _),xs,by rw [<-hl];exact h4,(SubL.flat hl h).rdl h5,h6⟩,Ext.refl c⟩
theorem ConvH.subRowo {H:List AB} {k:Nat} {t:TypeId} {sz m m':Nat} {es es':List (List AV)} (hk:H[k]? = some (.rowo t sz es m)) (hl:es.length=es'.length) (h:∀ i,SubL (es.getD i []) (es'.getD i [])) (hm:AV.ltL es'.flatten m'=true):ConvH H (H.set k (.rowo t sz es' m')):=fun _ _ c hs=>
 ⟨c,rfl,hs.recell hk rfl fun⟨h1,h2,h3,h7,xs,h4,h5,h6⟩=>⟨h1.trans hl,h2,fun e he=>by
  obtain⟨i,hi,rfl⟩:=List.mem_iff_getElem.1 he
  have:=(h i).len
  rw [List.getD_eq_getElem?_getD,List.getD_eq_getElem?_getD,List.getElem?_eq_getElem hi,List.getElem?_eq_getElem (by omega)] at this
  simp only [Bm] at this
  rw [<-this]
  exact h3 _ (BO _),hm,xs,by rw [<-hl];exact h4,(SubL.flat hl h).rdl h5,h6⟩,Ext.refl c⟩
theorem J0 {α:Type} {d x:α} {l:List α} {i k:Nat} (h:i≠k):(l.set i x).getD k d=l.getD k d:=by
 rw [List.getD_eq_getElem?_getD,List.getElem?_set_ne h,<-List.getD_eq_getElem?_getD]
theorem By {α:Type} {d x:α} {l:List α} {i:Nat} (h:i<l.length):(l.set i x).getD i d=x:=by
 rw [List.getD_eq_getElem?_getD,List.getElem?_set_self h];rfl
theorem ConvH.last {H:List AB} (k:Nat) {t:TypeId} {sz:Nat} {es:List (List AV)} {e e':List AV} (hk:H[k]? = some (.row t sz (es ++ [e]))) (h:SubL e e'):ConvH H (H.set k (.row t sz (es ++ [e']))):=
 ConvH.subRow hk (by simp) fun i=>by
  by_cases hi:i<es.length
  ·rw [I6 hi,I6 hi];exact SubL.refl _
  ·rw [Hg (by omega),Hg (by omega)]
   cases h2:i - es.length with
   | zero=>exact h
   | succ j=>exact SubL.refl _
def AV.mv (k d:Nat):AV->AV
 | .ow j n=> .ow (bif Nat.beq j k then d else j) n
 | x=>x
theorem Rd.mv {c c':Ctx} {k:Nat} (e:Ext c c') (hd:c.dom<c'.dom) (hr:c'.rho c.dom=c.rho k) (hl:c'.len c.dom=c.len k):∀ (x:AV) {u:Value},Rd x c u->Rd (x.mv k c.dom) c' u
 | .ow j n,u,h=>by
  show Rd (.ow (bif Nat.beq j k then c.dom else j) n) c' u
  cases hb:Nat.beq j k with
  | true=>
   have:=Ae hb
   subst this
   simp only [Rd] at h
   simp only [cond_true,Rd]
   exact⟨hd,by rw [hl];exact h.2.1,h.2.2.1,fun e=>by rw [hr];exact h.2.2.2 (by rw [<-hl];exact e)⟩
  | false=>exact Rd.ext _ e h
 | .top,_,h=>Rd.ext _ e h
 | .v _,_,h=>Rd.ext _ e h
 | .sl _ _ _,_,h=>Rd.ext _ e h
 | .rp _,_,h=>Rd.ext _ e h
 | .bp _ _,_,h=>Rd.ext _ e h
 | .ep _ _ _ _ _,_,h=>Rd.ext _ e h
 | .ag _,_,h=>Rd.ext _ e h
 | .tp _,_,h=>Rd.ext _ e h
 | .fn _ _,_,h=>Rd.ext _ e h
 | .ic _ _,_,h=>Rd.ext _ e h
theorem RdL.mv {c c':Ctx} {k:Nat} (e:Ext c c') (hd:c.dom<c'.dom) (hr:c'.rho c.dom=c.rho k) (hl:c'.len c.dom=c.len k):∀ (l:List AV) {us:List Value},RdL l c us->RdL (l.map (AV.mv k c.dom)) c' us
 | [],_,h=>h
 | x::l,_,h=>by
  simp only [RdL] at h
  obtain⟨y,ys,rfl,h1,h2⟩:=h
  simp only [Ap,RdL]
  exact⟨y,ys,rfl,Rd.mv e hd hr hl x h1,RdL.mv e hd hr hl l h2⟩
theorem ConvH.move {H:List AB} (i k:Nat) {t ti:TypeId} {sz:Nat} {es:List (List AV)} {cs:List AV} (hik:i≠k) (hi:H[i]? = some (.box ti cs)) (hk:H[k]? = some (.row t sz es)) :
  ConvH H (((H.set k .dead).set i (.box ti (cs.map (AV.mv k H.length)))) ++ [.row t sz es]):=fun w0 M0 c hs=>by
 have hil:=(List.getElem?_eq_some_iff.1 hi).1
 have hkl:=(List.getElem?_eq_some_iff.1 hk).1
 have hdom:=hs.dom
 let c':Ctx:={ c with rho:=fun j=>if j=c.dom then c.rho k else c.rho j,len:=fun j=>if j=c.dom then c.len k else c.len j,dom:=c.dom+1 }
 have hn:∀ j,j<c.dom->c'.rho j=c.rho j/\c'.len j=c.len j:=fun j hj=>⟨if_neg (by omega),if_neg (by omega)⟩
 have e:Ext c c':=⟨rfl,rfl,rfl,Nat.le_refl _,fun _ _ h=>⟨h,rfl⟩,Nat.le_succ _,fun j hj=>by rw [(hn j hj).2];exact Nat.le_refl _,fun j hj _=>(hn j hj).1,fun j g hj h=>by rw [(hn j hj).1];exact h⟩
 have hr:c'.rho c.dom=c.rho k:=if_pos rfl
 have hl:c'.len c.dom=c.len k:=if_pos rfl
 have get:∀ j x,(((H.set k .dead).set i (.box ti (cs.map (AV.mv k H.length)))) ++ [.row t sz es])[j]? = some x->x.live=true->(j=c.dom/\x = .row t sz es)\/(j<c.dom/\j=i/\x = .box ti (cs.map (AV.mv k c.dom)))\/(j<c.dom/\j≠i/\j≠k/\H[j]? = some x):=fun j x hj hx=>by
  rw [hdom]
  by_cases h1:j<H.length
  ·rw [List.getElem?_append_left (by simpa using h1)] at hj
   by_cases h2:j=i
   ·subst h2
    rw [List.getElem?_set_self (by simpa using h1)] at hj
    exact .inr (.inl ⟨h1,rfl,(Option.some.inj hj).symm⟩)
   ·rw [List.getElem?_set_ne (Ne.symm h2)] at hj
    by_cases h3:j=k
    ·subst h3
     rw [List.getElem?_set_self h1] at hj
     rw [<-Option.some.inj hj] at hx
     cases hx
    ·rw [List.getElem?_set_ne (Ne.symm h3)] at hj
     exact .inr (.inr ⟨h1,h2,h3,hj⟩)
  ·rw [List.getElem?_append_right (by simpa using h1)] at hj
   simp only [AO] at hj
   cases h2:j - H.length with
   | zero=>rw [h2] at hj;exact .inl ⟨by omega,(Option.some.inj hj).symm⟩
   | succ m=>rw [h2] at hj;simp at hj
 have org:∀ j x,(((H.set k .dead).set i (.box ti (cs.map (AV.mv k H.length)))) ++ [.row t sz es])[j]? = some x->x.live=true->∃ j' y,H[j']? = some y/\y.live=true/\c'.rho j=c.rho j'/\((j=c.dom/\j'=k)\/(j<c.dom/\j'=j/\j≠k)):=fun j x hj hx=>by
  rcases get j x hj hx with ⟨rfl,rfl⟩ | ⟨h1,rfl,rfl⟩ | ⟨h1,h2,h3,h4⟩
  ·exact⟨k,_,hk,rfl,hr, .inl ⟨rfl,rfl⟩⟩
  ·exact⟨j,_,hi,rfl,(hn j h1).1, .inr ⟨h1,rfl,hik⟩⟩
  ·exact⟨j,_,h4,hx,(hn j h1).1, .inr ⟨h1,rfl,h3⟩⟩
 refine⟨c',rfl,⟨hs.low,hs.base,by simp [c',hdom],hs.foreign,hs.lt,fun j x hj=>?_,fun j x g hj hx ho=>?_,fun j1 j2 x y g h1 h2 hx hy o1 o2=>?_⟩,e⟩
 ·cases hx:x.live with
  | false=>cases x <;> first | trivial | cases hx
  | true=>
   rcases get j x hj hx with ⟨rfl,rfl⟩ | ⟨h1,rfl,rfl⟩ | ⟨h1,h2,h3,h4⟩
   ·obtain⟨q1,q2,q3,xs,q4,q5,q6⟩:=hs.blk k _ hk
    exact⟨by rw [hl];exact q1,q2,q3,xs,by rw [hr];exact q4,RdL.ext _ e.closed q5,q6⟩
   ·obtain⟨g,xs,q1,q2,q3,q4⟩:=hs.blk j _ hi
    exact⟨g,xs,by rw [(hn j h1).1];exact q1,q2,RdL.mv e (Nat.lt_succ_self _) hr hl _ q3,q4⟩
   ·exact BlkOk.ext e rfl h1 (hn j h1).2 (fun _ _ _=>rfl) (hs.blk j x h4)
 ·obtain⟨j',y,h1,h2,h3,_⟩:=org j x hj hx
  exact hs.own j' y g h1 h2 (by rw [<-h3];exact ho)
 ·obtain⟨a,y1,p1,p2,p3,p4⟩:=org j1 x h1 hx
  obtain⟨b,y2,r1,r2,r3,r4⟩:=org j2 y h2 hy
  have:=hs.dis a b y1 y2 g p1 r1 p2 r2 (by rw [<-p3];exact o1) (by rw [<-r3];exact o2)
  omega

def XB (T:Tys) (m:Nat) (rs:List ResultVar) (K:AV->List AB->Prop):QA:=fun ex fr H=>match ex with
 | .exit _=>False
 | _=>Hp T rs fr H fun x=>∃ y r H2,(∀ c v,Rd x c v->Rd y c v)/\WkR m [(0,y)] H [(0,r)] H2/\K r H2
theorem ACalls.ofR {P : Program} {T : Tys} (hT : TOk P T) {f : FuncId} {fn : Func} {body : Code} {args : List AV} {Hin : List AB} {K : AV → List AB → Prop} (hf : P.funcs[f]? = some fn) (hb : fn.body = some body) (hname : (fn.name == "runtime.NumGoroutine") = false) (hn : args.length ≤ fn.ntmps)
  (h:BS P T fn.ntmps Hin.length body (XB T Hin.length fn.results.toList K) (frOf 0 args) Hin):ACalls P false f args Hin K:=by
 refine⟨⟨fn,hf,by rw [hb];rfl,hname⟩,fun w0 M0 c0 us hs0 hr=>?_⟩
 have hlen:=hr.length
 have hFR:FR (w0.at c0.w hs0.low) c0 fn.ntmps (frOf 0 args) { tmps:=us.toArray ++ Array.replicate (fn.ntmps - us.toArray.size) undef,defers:= [] }:=by
  refine⟨by simp;omega,trivial,fun i=>?_⟩
  have:=Gh (c:=c0) (m:=fn.ntmps - us.length) (l:=args) (i:=0) (pre:= []) rfl hr i
  rw [Array.getD_eq_getD_getElem?]
  have e:(us.toArray ++ Array.replicate (fn.ntmps - us.toArray.size) undef)[i]? = ([] ++ us ++ List.replicate (fn.ntmps - us.length) undef)[i]? :=by
   have:(us.toArray ++ Array.replicate (fn.ntmps - us.toArray.size) undef)=([] ++ us ++ List.replicate (fn.ntmps - us.length) undef).toArray:=Array.ext' (by simp)
   rw [this];simp only [List.getElem?_toArray]
  rw [e]
  exact this
 have fin:∀ a w,Dw (w0.at c0.w hs0.low) M0 c0 fn.ntmps (fun fr H=>Hp T fn.results.toList fr H fun x=>∃ y r H2,(∀ c v,Rd x c v->Rd y c v)/\WkR Hin.length [(0,y)] H [(0,r)] H2/\K r H2) a w->∃ v,(results fn a.tmps).run P w = .ok v w/\∃ v' c' r H',Ending.returned v = .returned v'/\c'.w=w/\K r H'/\HS w0 M0 c' H'/\Ext c0 c'/\Rd r c' v'/\(false=true->Old c0.w w):=by
  rintro a w ⟨c,fr,H,rfl,h1,h2,h3,h4⟩
  obtain⟨x,v,⟨y,r,H2,o1,o2,o3⟩,q2,q3⟩:=DD hT h2 h3 h1
  have hfr:FR (w0.at c0.w hs0.low) c 1 [(0,y)] { tmps:= #[v],defers:= [] }:=by
   refine⟨rfl,trivial,fun i=>?_⟩
   unfold fget
   cases i with
   | zero=>exact o1 _ _ q2
   | succ i=>show Rd .top c _;simp [Rd]
  obtain⟨c',e1,e2,e3,e4⟩:=o2.sound hs0.dom h2 hfr h4
  have hr':=e3.get 0
  refine⟨v,q3,v,c',r,H2,rfl,e1,o3,⟨LowF.ofAt e2.low,e2.base,e2.dom,e2.foreign,e2.lt,e2.blk,e2.own,e2.dis⟩,e4,?_,fun e=>by cases e⟩
  simpa [fget] using hr'
 refine Du hf hb trivial (Nat.le_refl _) fin ?_
 refine Bd (w0:=w0.at c0.w hs0.low) (M0:=M0) (ce:=c0) hT hs0.dom body _ _ c0 _ Hin _ (Er rfl rfl fun _ _ _ h=>h) hs0.toAt hFR (Ext.refl _) h
def GL (l:List Wr) (a:Int):Option Wr:=l.foldl (fun r w=>if w.addr=a then some w else r) none
theorem Mc (a:Int):GL [] a=none:=rfl
theorem Es (l:List Wr) (w:Wr) (a:Int):GL (l ++ [w]) a=if w.addr=a then some w else GL l a:=by simp [GL]
theorem Je {a:Int}:∀ (n:Nat) (l:List Wr),l.length=n->∀ i,i<l.length->(l.getD i ⟨0, []⟩).addr=a->(∀ j,i<j->j<l.length->(l.getD j ⟨0, []⟩).addr≠a)->GL l a=some (l.getD i ⟨0, []⟩)
 | 0,l,hn,i,hi,_,_=>by omega
 | n+1,l,hn,i,hi,h1,h2=>by
  rcases Cd l with rfl | ⟨m,w,rfl⟩
  ·simp at hn
  ·simp only [Ce] at *
   simp at hn hi
   rw [Es]
   by_cases he:i=m.length
   ·subst he
    simp only [List.getD_eq_getElem?_getD,List.getElem?_append_right (Nat.le_refl _),C8,List.getElem?_cons_zero,Bm] at h1 |-
    rw [if_pos h1]
   ·have hm:∀ j,j<m.length->(m ++ [w]).getD j ⟨0, []⟩=m.getD j ⟨0, []⟩:=fun j hj=>by simp only [List.getD_eq_getElem?_getD,List.getElem?_append_left hj]
    have hw:=h2 m.length (by omega) (by simp)
    simp only [List.getD_eq_getElem?_getD,List.getElem?_append_right (Nat.le_refl _),C8,List.getElem?_cons_zero,Bm] at hw
    rw [if_neg hw,hm i (by omega)]
    rw [hm i (by omega)] at h1
    exact Je n m hn i (by omega) h1 fun j q1 q2=>by rw [<-hm j q2];exact h2 j q1 (by simp;omega)
theorem HR {a:Int}:∀ (n:Nat) (l:List Wr),l.length=n->(∀ j,j<l.length->(l.getD j ⟨0, []⟩).addr≠a)->GL l a=none
 | 0,l,hn,_=>by rw [AC.1 hn];rfl
 | n+1,l,hn,h=>by
  rcases Cd l with rfl | ⟨m,w,rfl⟩
  ·rfl
  ·simp only [Ce] at *
   simp at hn
   rw [Es]
   have hw:=h m.length (by simp)
   simp only [List.getD_eq_getElem?_getD,List.getElem?_append_right (Nat.le_refl _),C8,List.getElem?_cons_zero,Bm] at hw
   rw [if_neg hw]
   exact HR n m hn fun j q=>by
    have:=h j (by simp;omega)
    simpa only [List.getD_eq_getElem?_getD,List.getElem?_append_left q] using this
def Dk.got (d:Dk) (a:Int):List UInt8 × Int:=
 match GL d.cache a with
 | some w=>(w.bytes,0)
 | none=>if (d.cells.getD a.toNat ⟨0, [], []⟩).state=0 then ((d.cells.getD a.toNat ⟨0, [], []⟩).bytes,0) else ([],6)
def Dk.read (d:Dk) (a:Int):Dk × List UInt8 × Int:=if d.left=0 then (d, [],8) else (d.req,d.got a)

theorem T_ (e:Int) (c:Ctx) (v:Value) (h:Rd (.tp [.v (.slice none 0 0), .v (.int .i64 e)]) c v):Rd (.tp [bA [], .v (.int .i64 e)]) c v:=by
 simp only [Rd,RdL] at h |-
 obtain⟨xs,rfl,y,ys,rfl,rfl,h⟩:=h
 exact⟨_,rfl,_,_,rfl,AX 1 (fun i=> [.v (.int .u8 (([]:List UInt8).getD i 0).toNat)]) c (.slice none 0 0) (by simp [Rd]),h⟩
theorem Ma {m:Nat} (h:Nat.ble 3 m=true):∀ z∈ [0,1,2],z<m:=fun z hz=>by
 have:=Ac h
 simp at hz
 omega
theorem UC (hcl:∀ b:List UInt8,b.length<=1000000000->Fn Tryz.prog 60 [bA b] fun r=>r=bA b) (d:Dk) (a:Int) (hl : -1<=d.left/\d.left<=1048576) (ha:0<=a/\a<d.cells.length) (hc:d.cache.length<=2000) (hb:∀ c∈d.cells,c.bytes.length<=100000) (hw:∀ w∈d.cache,w.bytes.length<=100000) :
  ACalls Tryz.prog false 41 [.bp 0 0, .v (.int .i64 a)] (dkH d) fun r H=>r = .tp [bA (d.read a).2.1, .v (.int .i64 (d.read a).2.2)]/\H=dkH (d.read a).1:=by
 refine ACalls.ofO tys_ok Tryz.func41 rfl rfl (by show 2<=_;decide) ?_
 have hq:=FY d hl
 conv=>whnf
 by_cases h0:d.left=0
 ·rw [if_pos h0] at hq
  refine ACalls.frame [0,1,2] hq rfl rfl rfl rfl (by decide) (Ma rfl) ⟨rfl,rfl,rfl,trivial⟩ ?_
  rintro _ _ ⟨rfl,rfl⟩
  rw [show decide (d.left≠0)=false by simp [h0]]
  exact⟨.tp [bA [], .v (.int .i64 8)],dkH d,T_ 8,⟨rfl,rfl,rfl,trivial⟩,rfl,⟨rfl,rfl⟩,by simp [Dk.read,h0],by simp [Dk.read,h0]⟩
 ·rw [if_neg h0] at hq
  refine ACalls.frame [0,1,2] hq rfl rfl rfl rfl (by decide) (Ma rfl) ⟨rfl,rfl,rfl,trivial⟩ ?_
  rintro _ _ ⟨rfl,rfl⟩
  rw [show decide (d.left≠0)=true by simp [h0]]
  conv=>whnf
  refine(OY (.ow 2 d.req.cache.length) _ (fun c u hu=>by simp only [Rd] at hu;obtain⟨_,_,⟨a,p,h,_⟩,_⟩:=hu;exact⟨_,_,_,h⟩)).mono ?_
  rintro _ _ ⟨rfl,rfl⟩
  conv=>whnf
  have hE:∀ i,i<d.cache.length->(d.cache.map D3).getD i []=D3 (d.cache.getD i ⟨0, []⟩):=fun i hi=>AR hi
  refine aRF.back tys_ok back_is (B:=6) (len:=d.cache.length) (E:=fun i=>(d.cache.map D3).getD i []) rfl rfl ⟨rfl,_,_,rfl,by simp [Dk.req],rfl⟩ (by omega) rfl (by decide) rfl [(3, .rp [.v (.int .i64 a)])] ⟨.inr ⟨3,_,_,rfl,rfl,rfl,rfl⟩,trivial⟩ (fun i=>decide ((d.cache.getD i ⟨0, []⟩).addr=a)) ?_ ?_ ?_
  ·intro i hi hh
   rw [hE i hi]
   refine⟨rfl,?_⟩
   have hh':(d.cache.getD i ⟨0, []⟩).addr≠a:=by simpa using hh
   conv=>whnf
   refine Aw (fun h1=>?_) (fun h1=>?_) <;> (repeat rw [Ab] at h1) <;> conv=>whnf
   ·exact absurd h1 hh'
  ·intro i hi hh
   rw [hE i hi]
   refine⟨rfl,?_⟩
   have hh':(d.cache.getD i ⟨0, []⟩).addr=a:=by simpa using hh
   have hcw:=hcl (d.cache.getD i ⟨0, []⟩).bytes (by have:=hw _ (Ay (d:=⟨0, []⟩) hi);omega)
   conv=>whnf
   refine Aw (fun h1=>?_) (fun h1=>?_) <;> (repeat rw [Ab] at h1) <;> conv=>whnf
   ·refine Fn.cl hcw ?_
    conv=>whnf
    refine⟨by simp,rfl,fun hord=>?_⟩
    conv=>whnf
    have hg:d.got a=((d.cache.getD i ⟨0, []⟩).bytes,0):=by
     unfold Dk.got
     rw [Je _ _ rfl i hi hh' fun j q1 q2=>by simpa using hord j q1 q2]
    exact⟨_,dkH d.req,fun _ _ h=>h,⟨rfl,rfl,rfl,trivial⟩,rfl,⟨rfl,rfl⟩,by simp [Dk.read,h0,hg,bA],by simp [Dk.read,h0]⟩
   ·exact absurd hh' h1
  ·intro hh
   have hg:d.got a=if (d.cells.getD a.toNat ⟨0, [], []⟩).state=0 then ((d.cells.getD a.toNat ⟨0, [], []⟩).bytes,0) else ([],6):=by
    unfold Dk.got
    rw [HR _ _ rfl fun j q=>by simpa using hh j q]
   have hgc:(d.cells.map Bi).getD a.toNat []=Bi (d.cells.getD a.toNat ⟨0, [], []⟩):=AR (by omega)
   have hgc':(d.req.cells.map Bi).getD a.toNat []=Bi (d.cells.getD a.toNat ⟨0, [], []⟩):=hgc
   have hcb:=hcl (d.cells.getD a.toNat ⟨0, [], []⟩).bytes (by have:=hb _ (Ay (d:=⟨0, [], []⟩) (show a.toNat<d.cells.length by omega));omega)
   conv=>whnf
   refine aDraw.of tys_ok mixed [0,1,2,3,4,5,6,7,8,9] (by kernel_rfl) ?_
   refine⟨ha,?_⟩
   refine⟨⟨rfl,(Aa _).symm,show a.toNat<d.cells.length by omega⟩,?_⟩
   conv=>whnf
   first | rw [hgc] | rw [hgc']
   conv=>whnf
   refine Aw (fun h1=>?_) (fun h1=>?_) <;> (repeat rw [Ab] at h1) <;> conv=>whnf
   ·rw [if_neg h1] at hg
    exact⟨.tp [bA [], .v (.int .i64 6)],dkH d.req,T_ 6,⟨rfl,rfl,rfl,trivial⟩,rfl,⟨rfl,rfl⟩,by simp only [Dk.read,if_neg h0,hg],by simp only [Dk.read,if_neg h0]⟩
   ·refine Fn.cl hcb ?_
    conv=>whnf
    conv=>whnf
    rw [if_pos h1] at hg
    exact⟨_,dkH d.req,fun _ _ h=>h,⟨rfl,rfl,rfl,trivial⟩,rfl,⟨rfl,rfl⟩,by simp only [Dk.read,if_neg h0,hg,bA],by simp only [Dk.read,if_neg h0]⟩
def Dk.write (d:Dk) (a:Int) (b:List UInt8):Dk × Int:=
 if d.left=0 then (d,8) else if (d.cells.getD a.toNat ⟨0, [], []⟩).state=2\/(2000:Int)<=d.cache.length then (d.req,7) else ({ d.req with cache:=d.cache ++ [⟨a,b⟩] },0)

theorem S4 (hcl:∀ b:List UInt8,b.length<=1000000000->Fn Tryz.prog 60 [bA b] fun r=>r=bA b) (d:Dk) (a:Int) (b:List UInt8) (hl : -1<=d.left/\d.left<=1048576) (ha:0<=a/\a<d.cells.length) (hc:d.cache.length<=2000) (hb:b.length<=100000) :
  ACalls Tryz.prog false 217 [.bp 0 0, .v (.int .i64 a),bA b] (dkH d) fun r H=>r = .v (.int .i64 (d.write a b).2)/\H=dkH (d.write a b).1:=by
 refine ACalls.ofO tys_ok Tryz.func217 rfl rfl (by show 3<=_;decide) ?_
 have hq:=FY d hl
 have hcb:=hcl b (by omega)
 conv=>whnf
 by_cases h0:d.left=0
 ·rw [if_pos h0] at hq
  refine hq.mono ?_
  rintro _ _ ⟨rfl,rfl⟩
  rw [show decide (d.left≠0)=false by simp [h0]]
  exact⟨_,dkH d,fun _ _ h=>h,⟨rfl,rfl,rfl,trivial⟩,rfl,⟨rfl,rfl⟩,by simp only [Dk.write,if_pos h0],by simp only [Dk.write,if_pos h0]⟩
 ·rw [if_neg h0] at hq
  refine hq.mono ?_
  rintro _ _ ⟨rfl,rfl⟩
  rw [show decide (d.left≠0)=true by simp [h0]]
  have hgc:(d.cells.map Bi).getD a.toNat []=Bi (d.cells.getD a.toNat ⟨0, [], []⟩):=AR (by omega)
  have hgc':(d.req.cells.map Bi).getD a.toNat []=Bi (d.cells.getD a.toNat ⟨0, [], []⟩):=hgc
  refine⟨ha,?_⟩
  refine⟨⟨rfl,(Aa _).symm,show a.toNat<d.cells.length by omega⟩,?_⟩
  conv=>whnf
  first | rw [hgc] | rw [hgc']
  conv=>whnf
  refine Aw (fun h1=>?_) (fun h1=>?_) <;> (repeat rw [Ab] at h1) <;> conv=>whnf
  ·exact⟨_,dkH d.req,fun _ _ h=>h,⟨rfl,rfl,rfl,trivial⟩,rfl,⟨rfl,rfl⟩,by simp only [Dk.write,if_neg h0,if_pos (Or.inl h1)],by simp only [Dk.write,if_neg h0,if_pos (Or.inl h1)]⟩
  ·by_cases h2:(2000:Int)<=d.cache.length
   ·rw [show decide ((d.req.cache.length:Int)>=2000)=true from decide_eq_true h2]
    exact⟨_,dkH d.req,fun _ _ h=>h,⟨rfl,rfl,rfl,trivial⟩,rfl,⟨rfl,rfl⟩,by simp only [Dk.write,if_neg h0,if_pos (Or.inr h2)],by simp only [Dk.write,if_neg h0,if_pos (Or.inr h2)]⟩
   ·rw [show decide ((d.req.cache.length:Int)>=2000)=false from decide_eq_false h2]
    have hc':d.req.cache.length<=2000:=hc
    have h3:¬((d.cells.getD a.toNat ⟨0, [], []⟩).state=2\/(2000:Int)<=d.cache.length):=fun h=>h.elim h1 h2
    conv=>whnf
    apply aDraw.tree tys_ok mixed (.one 0 (.one 1 (.one 2 (.one 3 (.one 4 (.one 5 (.one 6 (.one 7 (.one 8 (.one 9 (.one 10 (.one 11 (.one 12 (.one 13 (.one 14 (.one 15 .fin)))))))))))))))) [31,32,33,34,35,36,37,38,39,40,41,42,43,44,45] (by kernel_rfl)
    ·conv=>whnf
     refine Fn.cl hcb ?_
     conv=>whnf
     try (refine And.intro (by first | rfl | omega) ?_;conv=>whnf)
     try (refine And.intro (by first | omega | exact⟨by first | rfl | (simp;done) | (simp;omega),by omega⟩) ?_;conv=>whnf)
     try (refine And.intro ⟨rfl,by first | rfl | (simp;done) | (simp;omega),by first | omega | (simp;omega)⟩ ?_;conv=>whnf)
     exact⟨rfl,rfl⟩
    conv=>whnf
    have e:dkH { d.req with cache:=d.cache ++ [⟨a,b⟩] }=[.box 113 (G3 (.ow 1 d.cells.length) (.ow 2 (d.cache.length+1)) d.req.reqs d.req.left), .row 84 3 (d.cells.map Bi), .row 131 2 (d.cache.map D3 ++ [D3 ⟨a,b⟩])]:=by
     unfold dkH
     simp only [List.length_append,List.length_singleton,Ax,Ap,AT]
     rfl
    refine⟨_,dkH { d.req with cache:=d.cache ++ [⟨a,b⟩] },fun _ _ h=>h,?_,rfl,⟨rfl,rfl⟩,by simp only [Dk.write,if_neg h0,if_neg h3],by simp only [Dk.write,if_neg h0,if_neg h3]⟩
    rw [e]
    exact⟨rfl,rfl,rfl,trivial⟩
def cz:Cel:=⟨0, [], []⟩
def Dk.fin (d:Dk) (w:Wr):Dk:=
 if (d.cells.getD w.addr.toNat cz).state=2 then d else { d with cells:=d.cells.set w.addr.toNat ⟨0,w.bytes,(d.cells.getD w.addr.toNat cz).bytes⟩ }

theorem UE (d:Dk) (w:Wr) (ha:0<=w.addr/\w.addr<d.cells.length) :
  ACalls Tryz.prog false 61 [.bp 0 0, .ag (D3 w)] (dkH d) fun r H=>r = .tp []/\H=dkH (d.fin w):=by
 refine ACalls.ofO tys_ok Tryz.func61 rfl rfl (by show 2<=_;decide) ?_
 have hgc:(d.cells.map Bi).getD w.addr.toNat []=Bi (d.cells.getD w.addr.toNat cz):=AR (by omega)
 conv=>whnf
 refine aDraw.of tys_ok mixed [0,1,2,3,4,5,6,7,8] (by kernel_rfl) ?_
 refine⟨(show 0<=w.addr/\w.addr<d.cells.length from ha),?_⟩
 refine⟨⟨rfl,(Aa _).symm,show w.addr.toNat<d.cells.length by omega⟩,?_⟩
 conv=>whnf
 rw [hgc]
 conv=>whnf
 refine Aw (fun h1=>?_) (fun h1=>?_) <;> (repeat rw [Ab] at h1) <;> conv=>whnf
 ·refine aDraw.of tys_ok mixed [0,1,2,3,4,5,6,7,8,9] (by kernel_rfl) ?_
  refine⟨⟨rfl,(Aa _).symm,show w.addr.toNat<d.cells.length by omega⟩,?_⟩
  conv=>whnf
  rw [hgc]
  refine⟨⟨rfl,(Aa _).symm,show w.addr.toNat<d.cells.length by omega⟩,?_⟩
  conv=>whnf
  rw [hgc]
  conv=>whnf
  have hmem:w.addr.toNat<d.cells.length:=by omega
  refine⟨_,dkH { d with cells:=d.cells.set w.addr.toNat ⟨0,w.bytes,(d.cells.getD w.addr.toNat cz).bytes⟩ },fun _ _ h=>h,?_,rfl,⟨rfl,rfl⟩,rfl,by simp only [Dk.fin,if_neg h1]⟩
  have e:dkH { d with cells:=d.cells.set w.addr.toNat ⟨0,w.bytes,(d.cells.getD w.addr.toNat cz).bytes⟩ }=[.box 113 (G3 (.ow 1 d.cells.length) (.ow 2 d.cache.length) d.reqs d.left), .row 84 3 ((d.cells.map Bi).set w.addr.toNat (Bi ⟨0,w.bytes,(d.cells.getD w.addr.toNat cz).bytes⟩)), .row 131 2 (d.cache.map D3)]:=by
   unfold dkH
   simp only [AO,BX]
  rw [e]
  exact⟨rfl,rfl,rfl,trivial⟩
 ·refine⟨_,dkH d,fun _ _ h=>h,⟨rfl,rfl,rfl,trivial⟩,rfl,⟨rfl,rfl⟩,rfl,by simp only [Dk.fin,if_pos h1]⟩
@[reducible] def dkF (d:Dk):List AB:= [.box 113 (G3 (.ow 1 d.cells.length) (.ow 3 0) d.reqs d.left), .row 84 3 (d.cells.map Bi), .dead, .row 131 2 []]
def Dk.allFin (d:Dk) (l:List Wr):Dk:=l.foldl Dk.fin d
theorem Ri (d:Dk) (w:Wr):(d.fin w).cells.length=d.cells.length:=by unfold Dk.fin;split <;> simp
theorem My (d:Dk) (w:Wr):(d.fin w).cache=d.cache/\(d.fin w).reqs=d.reqs/\(d.fin w).left=d.left:=by unfold Dk.fin;split <;> simp
theorem Ib (l:List Wr):∀ (d:Dk),(d.allFin l).cells.length=d.cells.length/\(d.allFin l).cache=d.cache/\(d.allFin l).reqs=d.reqs/\(d.allFin l).left=d.left:=by
 induction l with
 | nil=>intro d;exact⟨rfl,rfl,rfl,rfl⟩
 | cons w r ih=>
  intro d
  obtain⟨h1,h2,h3,h4⟩:=ih (d.fin w)
  have:=My d w
  exact⟨h1.trans (Ri d w),h2.trans this.1,h3.trans this.2.1,h4.trans this.2.2⟩
theorem JI (d:Dk) {l:List Wr} {k:Nat} (h:k<l.length):d.allFin (l.take (k+1))=(d.allFin (l.take k)).fin (l.getD k ⟨0, []⟩):=by
 unfold Dk.allFin
 rw [AQ,List.foldl_append,List.getElem?_eq_getElem h]
 simp [List.getD_eq_getElem?_getD,List.getElem?_eq_getElem h]
def Dk.flush (d:Dk):Dk:={ d.req.allFin d.cache with cache:= [] }

theorem Qf (d:Dk) (hl : -1<=d.left/\d.left<=1048576) (h0:d.left=0) :
  ACalls Tryz.prog false 86 [.bp 0 0] (dkH d) fun r H=>r = .v (.int .i64 8)/\H=dkH d:=by
 refine ACalls.ofW tys_ok Tryz.func86 rfl rfl (by show 1<=_;decide) ?_
 have hq:=FY d hl
 rw [if_pos h0,show decide (d.left≠0)=false by simp [h0]] at hq
 conv=>whnf
 refine hq.mono ?_
 rintro _ _ ⟨rfl,rfl⟩
 exact⟨_,_,dkH d,fun _ _ h=>h,⟨[],trivial,⟨rfl,trivial⟩,⟨rfl,rfl,rfl,trivial⟩,rfl,rfl,rfl⟩,rfl,rfl⟩
theorem S8 (d:Dk) (hl : -1<=d.left/\d.left<=1048576) (h0:d.left≠0) (hc:d.cache.length<=2000) (ha:∀ w∈d.cache,0<=w.addr/\w.addr<d.cells.length) :
  ACalls Tryz.prog false 86 [.bp 0 0] (dkH d) fun r H=>r = .v (.int .i64 0)/\H=dkF d.flush:=by
 refine ACalls.ofW tys_ok Tryz.func86 rfl rfl (by show 1<=_;decide) ?_
 have hq:=FY d hl
 rw [if_neg h0,show decide (d.left≠0)=true by simp [h0]] at hq
 conv=>whnf
 refine hq.mono ?_
 rintro _ _ ⟨rfl,rfl⟩
 conv=>whnf
 have hE:∀ i,i<d.cache.length->(d.cache.map D3).getD i []=D3 (d.cache.getD i ⟨0, []⟩):=fun i hi=>AR hi
 refine aLoop.rule Nat (fun k=>([(0, .bp 0 0),(12, .ow 2 d.cache.length),(13, .v (.int .i64 d.cache.length)),(14, .v (.int .i64 k)),(2, .v (.int .i64 0))],dkH (d.req.allFin (d.cache.take k)))) (fun k=>k<=d.cache.length) (fun k=>d.cache.length - k) 0 (Ad _) ⟨[],trivial,⟨rfl,rfl,rfl,rfl,rfl,trivial⟩,⟨rfl,rfl,rfl,trivial⟩,rfl,rfl,rfl⟩ ?_
 rintro k hk
 have hall:=Ib (d.cache.take k) d.req
 have hnext:k<d.cache.length->d.req.allFin (d.cache.take (k+1))=(d.req.allFin (d.cache.take k)).fin (d.cache.getD k ⟨0, []⟩):=fun h=>JI d.req h
 have hlast:k=d.cache.length->d.flush={ d.req.allFin (d.cache.take k) with cache:= [] }:=fun h=>by rw [h,List.take_length];rfl
 generalize d.req.allFin (d.cache.take k)=X at hall hnext hlast |-
 obtain⟨xc,xw,xr,xl⟩:=X
 simp only at hall
 obtain⟨q1,q2,q3,q4⟩:=hall
 have q2:xw=d.cache:=q2
 subst q2
 have q1':xc.length=d.cells.length:=q1
 conv=>whnf
 refine Aw (fun h=>?_) (fun h=>?_) <;> (repeat rw [Ab] at h) <;> conv=>whnf
 ·have hd:=UE ⟨xc,d.cache,xr,xl⟩ (d.cache.getD k ⟨0, []⟩) (by have:=ha _ (Ay (d:=⟨0, []⟩) (show k<d.cache.length by omega));show _/\_<((xc.length:Nat):Int);rw [q1'];exact this)
  refine⟨⟨by omega,by omega⟩,?_⟩
  refine⟨⟨rfl,(Aa _).symm,by simpa using h⟩,?_⟩
  conv=>whnf
  rw [show ((k:Int)).toNat=k from Ab k,hE k (by omega)]
  conv=>whnf
  refine ACalls.frame [0,1,2] hd rfl rfl rfl rfl (by decide) (Ma rfl) ⟨rfl,rfl,rfl,trivial⟩ ?_
  rintro _ _ ⟨rfl,rfl⟩
  refine⟨k+1,by omega,by omega, [],trivial,⟨rfl,rfl,rfl,A7 (by omega),rfl,trivial⟩,?_,rfl,rfl,rfl⟩
  rw [hnext (by omega)]
  exact⟨rfl,rfl,rfl,trivial⟩
 ·conv=>whnf
  have ek:k=d.cache.length:=by omega
  rw [hlast ek]
  exact⟨.v (.int .i64 0), .v (.int .i64 0),dkF { cells:=xc,cache:= [],reqs:=xr,left:=xl },fun _ _ h=>h,⟨[(1000001,131,2)],⟨rfl,rfl,trivial⟩,⟨rfl,trivial⟩,⟨rfl,rfl,rfl,trivial⟩,rfl,rfl,rfl⟩,rfl,rfl⟩
theorem US (a:An):rowB (Jo a) szA=leB 4 a.gen.toNat ++ (leB 4 a.epoch.toNat ++ (leB 4 a.seq.toNat ++ (leB 4 a.last.toNat ++ leB 1 a.pos.toNat))):=by
 simp [rowB,Jo,szA]
theorem V3 (g:Geo) (a:An) (hg:A_ g=true) (ha:AN g a=true):Fn Tryz.prog 191 [.ag (Dx a)] fun r=>r=bA (IJ a):=by
 obtain⟨g1,g2,g3,g4,g5⟩:=Ak.1 hg
 obtain⟨q1,q2,q3,q4,q5⟩:=Dv hg ha 0 (Ad _)
 have ha0:=ha
 simp only [AN,Bool.and_eq_true,decide_eq_true_eq,AK,Bq,Bk,A0,Ao] at ha
 obtain⟨⟨w1,w2,w3,w4⟩,_,_,w5,_,_,_⟩:=ha
 have p1:=D9 [] a.gen 4 (by simp) w1 (by decide)
 have p2:=D9 (leB 4 a.gen.toNat) a.epoch 4 (by rw [leB_len];decide) w2 (by decide)
 have p3:=D9 (leB 4 a.gen.toNat ++ leB 4 a.epoch.toNat) a.seq 4 (by simp [leB_len]) w3 (by decide)
 have p4:=D9 (leB 4 a.gen.toNat ++ leB 4 a.epoch.toNat ++ leB 4 a.seq.toNat) a.last 4 (by simp [leB_len]) w4 (by decide)
 have p5:=GC (leB 4 a.gen.toNat ++ leB 4 a.epoch.toNat ++ leB 4 a.seq.toNat ++ leB 4 a.last.toNat) a.pos 1 (by simp [leB_len]) (by omega) (by decide)
 have hlb:=T9 a.label (by omega)
 refine Fn.st Tryz.func191 rfl ?_
 conv=>whnf
 refine ACalls.sub [bA [], .v (.int .i64 a.gen), .v (.int .i64 4)] ⟨AX 1 _,ri,ri,trivial⟩ ?_
 refine Fn.cl p1 ?_
 conv=>whnf
 refine Fn.cl p2 ?_
 conv=>whnf
 refine Fn.cl p3 ?_
 conv=>whnf
 refine Fn.cl p4 ?_
 conv=>whnf
 apply aDraw.treeK (0) tys_ok mixed (.one 0 (.one 1 (.one 2 (.one 4 (.one 5 (.one 3 (.one 6 (.one 7 (.one 8 .fin))))))))) (by kernel_rfl)
 conv=>whnf
 (refine ACalls.beside p5 rfl ?_;rintro _ _ ⟨rfl,rfl⟩)
 conv=>whnf
 refine Fn.cl hlb ?_
 conv=>whnf
 try (refine And.intro (by first | rfl | omega) ?_;conv=>whnf)
 try (refine And.intro (by first | omega | exact⟨by first | rfl | (simp;done) | (simp;omega),by omega⟩) ?_;conv=>whnf)
 have eR:leB 4 a.gen.toNat ++ leB 4 a.epoch.toNat ++ leB 4 a.seq.toNat ++ leB 4 a.last.toNat ++ leB 1 a.pos.toNat=rowB (Jo a) szA:=by rw [US];simp
 rw [eR]
 have hr17:(rowB (Jo a) szA).length=17:=tot_rowB _ _ rfl
 refine And.intro ⟨by simp,by rw [hr17,Ff];omega⟩ ?_
 conv=>whnf
 have e0:(rowB (Jo a) szA).map DG ++ ((List.range (FI a.label).length).map fun i=> [AV.v (Value.int IntKind.u8 (((FI a.label).getD i 0).toNat:Int))])=(Ft a 0).map DG:=by
  rw [OV,<-Ax];simp [Ft]
 have e1:(rowB (Jo a) szA).length+(FI a.label).length=(Ft a 0).length:=by simp [Ft]
 refine aLoop.ruleR Nat (fun k=>([(1, .bp 0 0),(3, .ow 1 (Ft a k).length),(4, .v (.int .i64 k))], [.box 28 (Dx a), .row 5 1 ((Ft a k).map DG)])) (fun k=>k<=a.homes.length) (fun k=>a.homes.length - k) 0 (Ad _)
  (Wk.conv ⟨[],trivial,⟨rfl,congrArg (AV.ow 1) e1,rfl,trivial⟩,⟨rfl,congrArg (AB.row _ _) e0.symm,trivial⟩,rfl,rfl,rfl⟩) ?_
 intro k hk
 conv=>whnf
 refine Aw (fun h6=>?_) (fun h6=>?_) <;> (repeat rw [Ab] at h6) <;> conv=>whnf
 ·have hk':k<a.homes.length:=by omega
  have hh4:=q5 _ (Ay (d:=(⟨[],0,0⟩:Hm)) hk')
  obtain⟨f1,f2,f3,f4,f5⟩:=No hg hh4
  have hst:=MD a k hk'
  have hB:=(Dv hg ha0 k hk).1
  have hB2:=(Dv hg ha0 (k+1) hk').1
  obtain⟨h,hh⟩:∃ h,h=a.homes.getD k ⟨[],0,0⟩:=⟨_,rfl⟩
  rw [<-hh] at hh4 f1 f2 f3 f4 f5 hst
  generalize hX:Ft a k=X at hst hB |-
  have hlm:(Lx h).length=h.places.length+5:=by rw [I4,tot_rowB _ _ (by rw [List.length_append,Ij];rfl),Ih]
  rw [hst,List.length_append,hlm] at hB2
  refine aLoop.ruleR Nat (fun j=>([(1, .bp 0 0),(3, .ow 1 (X ++ Nc (h.places.take j)).length),(4, .v (.int .i64 k)),(5, .v (.int .i64 j))], [.box 28 (Dx a), .row 5 1 ((X ++ Nc (h.places.take j)).map DG)])) (fun j=>j<=h.places.length) (fun j=>h.places.length - j) 0 (Ad _)
   (Wk.conv ⟨[],trivial,⟨rfl,congrArg (fun l=>AV.ow 1 (List.length l)) (List.append_nil X).symm,rfl,rfl,trivial⟩,⟨rfl,congrArg (fun l=>AB.row _ _ (List.map DG l)) (List.append_nil X),trivial⟩,rfl,rfl,rfl⟩) ?_
  intro j hj
  conv=>whnf
  have hgk:a.homes.getD (k:Int).toNat ⟨[],0,0⟩=h:=by rw [Ab,hh]
  refine⟨by first | omega | (refine⟨rfl,?_,?_⟩ <;> first | omega | (simp only [Aa];done) | (simp only [Aa];omega)) | (simp only [Aa];omega),?_⟩
  conv=>whnf
  rw [hgk]
  refine Aw (fun h7=>?_) (fun h7=>?_) <;> (repeat rw [Ab] at h7) <;> conv=>whnf
  ·refine⟨by first | omega | (refine⟨rfl,?_,?_⟩ <;> first | omega | (simp only [Aa];done) | (simp only [Aa];omega)) | (simp only [Aa];omega),?_⟩
   conv=>whnf
   rw [hgk]
   refine⟨by first | omega | (refine⟨rfl,?_,?_⟩ <;> first | omega | (simp only [Aa];done) | (simp only [Aa];omega)) | (simp only [Aa];omega),?_⟩
   conv=>whnf
   rw [Ab]
   have hj':j<h.places.length:=by omega
   have hp:=f2 _ (Ay (d:=(0:Int)) hj')
   have hpl:=JV (h.places.take j)
   have hps:=Of h.places j hj'
   have hput:=GC (X ++ Nc (h.places.take j)) (h.places.getD j 0) 1 (by rw [List.length_append,hpl,Al];omega) (by omega) (by decide)
   rw [As,<-hps] at hput
   refine ACalls.shut (hput).go ?_
   conv=>whnf
   repeat' (refine And.intro (by first | rfl | omega | (simp;done) | (simp only [Aa];omega) | (simp;omega)) ?_;conv=>whnf)
   refine ACalls.sub [bA (X ++ Nc (h.places.take j)), .v (.int .i64 (h.places.getD j 0)), .v (.int .i64 1)] ⟨Lq rfl rfl,ri,ri,trivial⟩ ?_
   refine ACalls.beside (hput) rfl ?_
   rintro _ _ ⟨rfl,rfl⟩
   refine⟨j+1,by omega,by omega,WkN.r (s:= [0,2]) ⟨⟨rfl,rfl,rfl,A7 (by omega),trivial⟩,⟨rfl,rfl,trivial⟩,rfl,rfl,rfl,rfl,rfl⟩⟩
  ·have ej:j=h.places.length:=by omega
   subst ej
   have hpl:=JV (h.places.take h.places.length)
   rw [List.take_length] at hpl |-
   have hp1:=D9 (X ++ Nc h.places) h.next 1 (by rw [List.length_append,hpl];omega) (by omega) (by decide)
   have hp2:=GC (X ++ Nc h.places ++ leB 1 h.next.toNat) h.root 4 (by rw [List.length_append,List.length_append,hpl,leB_len];omega) (by omega) (by decide)
   have eY:X ++ Nc h.places ++ leB 1 h.next.toNat ++ leB 4 h.root.toNat=X ++ Lx h:=by simp [Lx,rowB]
   rw [eY] at hp2
   apply aDraw.treeK (0) tys_ok mixed (.one 0 (.one 1 (.one 2 (.one 3 (.one 4 (.one 5 (.one 6 (.one 8 (.one 9 (.one 10 (.one 11 (.one 12 (.one 13 (.one 7 (.one 14 (.one 15 .fin)))))))))))))))) (by kernel_rfl)
   conv=>whnf
   try (refine And.intro (by first | omega | (simp;done)) ?_;conv=>whnf)
   try (refine And.intro (by first | omega | (simp;done)) ?_;conv=>whnf)
   (rw [hgk];refine ACalls.shut hp1.go ?_;(conv=>whnf);refine And.intro (by simp) ?_;(conv=>whnf);refine ACalls.sub [bA (X ++ Nc h.places), .v (.int .i64 h.next), .v (.int .i64 1)] ⟨Lq rfl rfl,ri,ri,trivial⟩ ?_;refine Fn.cl hp1 ?_)
   conv=>whnf
   (refine ACalls.beside hp2 rfl ?_;rintro _ _ ⟨rfl,rfl⟩)
   refine⟨k+1,hk',by omega,WkN.r (s:= [0,2]) ⟨⟨rfl,congrArg (AV.ow 2) (by rw [hst]),A7 (by omega),trivial⟩,⟨rfl,congrArg (fun l=>some (AB.row _ _ l)) (by rw [hst]),trivial⟩,rfl,rfl,rfl,rfl,rfl⟩⟩
 ·have ek:k=a.homes.length:=by omega
  subst ek
  rw [O_]
  refine⟨by simp,?_⟩
  exact⟨bA (IJ a),Lq rfl rfl,rfl⟩
def BQ (a:An) (i:Int):List UInt8:=AM i a.gen (IJ a)
theorem Hk {g:Geo} {a:An} (hg:A_ g=true) (ha:AN g a=true):(IJ a).length<=82:=by
 obtain⟨g1,g2,g3,g4,g5⟩:=Ak.1 hg
 have hz:=ha
 simp only [AN,Bool.and_eq_true,decide_eq_true_eq,AK,Bq,Bk,A0,Ao] at hz
 obtain⟨_,_,_,_,q6,q7,q8⟩:=hz
 have h24:=GM q6
 have hs:a.label.size=a.label.data.toList.length:=rfl
 have hr:(rowB (Jo a) szA).length=17:=tot_rowB _ _ rfl
 have hm:=(JY hg a.homes q8).2
 have hmul:a.homes.length*(g.d.toNat+6)<=4*10:=Cx (by omega) (by omega)
 rw [IJ,List.length_append,List.length_append,hr,Ff,hm]
 omega
theorem OZ {g:Geo} {a:An} (ha:AN g a=true):0<=a.gen/\a.gen<=4294967295:=by
 simp only [AN,Bool.and_eq_true,decide_eq_true_eq,AK,Bq,Bk,A0,Ao] at ha
 exact ha.1.1
theorem Jp {g:Geo} {a:An} (hg:A_ g=true) (ha:AN g a=true) {i:Int} (hi:0<=i/\i<=65535):SP i a.gen (IJ a):=
 ⟨hi.1,hi.2,(OZ ha).1,(OZ ha).2,by have:=Hk hg ha;omega⟩
theorem K5 (g:Geo) (a:An) (i:Int) (hg:A_ g=true) (ha:AN g a=true) (hi:0<=i/\i<=65535):Fn Tryz.prog 118 [.ag (Dx a), .v (.int .i64 i)] fun r=>r=bA (BQ a i):=by
 have h1:=V3 g a hg ha
 have h2:=Ek i a.gen (IJ a) (Jp hg ha hi)
 refine Fn.st Tryz.func118 rfl ?_
 conv=>whnf
 apply aDraw.tree tys_ok mixed (.one 0 (.one 1 (.one 2 (.one 3 (.one 4 (.one 5 (.one 6 .fin))))))) [4,5,6,7,8,9,10] (by kernel_rfl)
 ·conv=>whnf
  refine Fn.cl h1 ?_
  conv=>whnf
  refine Fn.cl h2 ?_
  exact⟨rfl,rfl⟩
 exact⟨_,ri,rfl⟩
theorem Ua (g:Geo) (a:An) (i:Int) (hg:A_ g=true) (ha:AN g a=true) (hi:0<=i/\i<g.an):Fn Tryz.prog 159 [.ag (AF g), .ag (Dx a), .v (.int .i64 i)] fun r=>r = .tp [bA (BQ a i), .v (.int .i64 0)]:=by
 obtain⟨g1,g2,g3,g4,g5⟩:=Ak.1 hg
 obtain⟨q1,q2,q3,q4,q5⟩:=Dv hg ha 0 (Ad _)
 have h1:=SN g a (by omega) (by omega)
 rw [hg,ha] at h1
 have h2:=KV g i hg hi
 have h3:=NH i a.gen (IJ a) (Jp hg ha (by omega))
 refine Fn.st Tryz.func159 rfl ?_
 conv=>whnf
 refine Fn.cl h1 ?_
 conv=>whnf
 refine Fn.cl h2 ?_
 conv=>whnf
 refine Fn.cl h3 ?_
 exact⟨_,ri,rfl⟩
end Go.Proofs.YtkolckdakddggaaGreatDoor.A
end
section
namespace Go.Proofs.YtkolckdakddggaaGreatDoor
open Go.RowKit



end Go.Proofs.YtkolckdakddggaaGreatDoor
end
section
namespace Go.Proofs.YtkolckdakddggaaGreatDoor.A
open Go.RowKit

theorem PX (n k:Nat) (c:List UInt8):DA n (k+1) c=DA n k c ++ [Ji n (c.drop ((n+5)*k))]:=by
 rw [DA,DA,Bb,Ax];rfl
theorem Mk (n k:Nat) (c:List UInt8):(DA n k c).length=k:=by simp [DA]
theorem QW {L:List Int} {n:Nat} {es:List (List AV)} (hn:n=L.length) (he:es=L.map U_) (c:Ctx) (v:Value) (h:Rd (.sl 1 n fun i=>es.getD i []) c v):Rd (iA L) c v:=by
 subst he
 exact Rd.congr hn (fun i hi=>AR (f:=U_) (l:=L) (d:=0) (hn ▸ hi)) h
theorem F8 {α:Type} {f:α->List AV} {d:α} {l:List α} {k:Nat} {e:List AV} (hk:k<l.length) (h:SubL e (f (l.getD k d))) (i:Nat):SubL (((l.map f).set k e).getD i []) ((l.map f).getD i []):=by
 by_cases hi:k=i
 ·subst hi
  rw [By (by simpa using hk),AR (d:=d) hk]
  exact h
 ·rw [J0 hi];exact SubL.refl _
theorem Up (h:Hm):SubL [.sl 1 h.places.length fun i=>(h.places.map U_).getD i [], .v (.int .i64 h.next), .v (.int .i64 h.root)] (CH h):=
 ⟨QW rfl rfl,fun _ _ h=>h,fun _ _ h=>h,trivial⟩
theorem UO (a:An) (hh:a.homes.length<=1000) (hp:∀ h∈a.homes,h.places.length<=1000000):Fn Tryz.prog 83 [.ag (Dx a)] fun r=>r = .ag (Dx a):=by
 have hc:=Ml a.homes (by omega)
 refine Fn.st Tryz.func83 rfl ?_
 conv=>whnf
 refine ACalls.beside hc rfl ?_
 rintro _ _ ⟨rfl,rfl⟩
 conv=>whnf
 refine aLoop.ruleRR Nat (fun k=>([(1, .bp 0 0),(2, .bp 1 0),(10, .v (.int .i64 a.homes.length)),(11, .v (.int .i64 k))], [.box 28 [.v (.int .i64 a.gen), .v (.int .i64 a.epoch), .v (.int .i64 a.pos), .v (.int .i64 a.seq), .v (.int .i64 a.last), .v (.string a.label), .ow 2 a.homes.length], .box 28 [.v (.int .i64 0), .v (.int .i64 0), .v (.int .i64 0), .v (.int .i64 0), .v (.int .i64 0), .v (.string ⟨#[]⟩), .v (.slice none 0 0)], .row 53 3 (a.homes.map CH)])) (fun k=>k<=a.homes.length) (fun k=>a.homes.length - k) 0 (Ad _)
  (WkN.r (s:= [0,1,2]) ⟨⟨rfl,rfl,rfl,rfl,trivial⟩,⟨rfl,rfl,rfl,trivial⟩,rfl,rfl,rfl,rfl,rfl⟩) ?_
 intro k hk
 conv=>whnf
 refine Aw (fun h6=>?_) (fun h6=>?_) <;> (repeat rw [Ab] at h6) <;> conv=>whnf
 ·have hk':k<a.homes.length:=by omega
  have hi:=KP (a.homes.getD k ⟨[],0,0⟩).places (by have:=hp _ (Ay (d:=(⟨[],0,0⟩:Hm)) hk');omega)
  have hE:(a.homes.map CH).getD (k:Int).toNat []=CH (a.homes.getD k ⟨[],0,0⟩):=by rw [Ab];exact AR hk'
  apply aDraw.treeK (0) tys_ok mixed (.one 0 (.one 1 (.one 2 (.one 3 (.one 4 (.one 5 (.one 6 (.one 7 (.one 8 (.one 9 (.one 10 (.one 11 (.one 12 .fin))))))))))))) (by kernel_rfl)
  conv=>whnf
  try (first | (refine And.intro ⟨rfl,(Aa _).symm,by omega⟩ ?_;(conv=>whnf);rw [hE]) | skip;conv=>whnf)
  try (first | (refine And.intro ⟨rfl,(Aa _).symm,by omega⟩ ?_;(conv=>whnf);rw [hE]) | skip;conv=>whnf)
  try (refine And.intro (by first | omega | (simp;done)) ?_;conv=>whnf)
  try (first | (refine And.intro ⟨rfl,(Aa _).symm,by omega⟩ ?_;(conv=>whnf);rw [hE]) | skip;conv=>whnf)
  (refine ACalls.beside hi rfl ?_;rintro _ _ ⟨rfl,rfl⟩)
  conv=>whnf
  try (refine And.intro (by first | omega | (simp;done)) ?_;conv=>whnf)
  try (refine And.intro ⟨rfl,by first | rfl | (simp;done) | (simp;omega),by first | omega | (simp;omega)⟩ ?_;conv=>whnf)
  (refine And.intro (Aa _).symm ?_;(conv=>whnf);refine And.intro ⟨rfl,(Aa _).symm,by omega⟩ ?_;(conv=>whnf);rw [hE])
  refine⟨k+1,hk',by omega,WkN.rc (ConvF.ofH (ConvH.subRow (k:=2) rfl (es':=a.homes.map CH) (by simp) ?_)) (s:= [0,1,2]) ⟨⟨rfl,rfl,rfl,A7 (by omega),trivial⟩,⟨rfl,rfl,rfl,trivial⟩,rfl,rfl,rfl,rfl,rfl⟩⟩
  rw [Ab]
  exact F8 (d:=(⟨[],0,0⟩:Hm)) hk' (Up _)
 ·have ek:k=a.homes.length:=by omega
  refine And.intro (Aa _).symm ?_
  exact⟨.ag (Dx a),AG ⟨ri,ri,ri,ri,ri,ri,AH (f:=CH) a.homes rfl rfl,trivial⟩,rfl⟩
def EH (d:Dk):List AV:= [M9 d.cells,Kc d.cache, .v (.int .i64 d.reqs), .v (.int .i64 d.left)]
theorem Rj (d:Dk) (h1:d.cells.length<=1000000000) (h2:d.cache.length<=1000000000):ACalls Tryz.prog false 40 [.ag (EH d)] [] fun r H=>r = .bp 0 0/\H=dkH d:=by
 have c1:=Lp d.cells h1
 have c2:=L7 d.cache h2
 refine ACalls.ofR tys_ok Tryz.func40 rfl rfl (Ac rfl) ?_
 conv=>whnf
 apply aDraw.treeK (0) tys_ok mixed (.one 0 (.one 1 (.one 3 (.one 4 (.one 2 (.one 6 (.one 5 (.one 7 (.one 8 (.one 9 .fin)))))))))) (by kernel_rfl)
 conv=>whnf
 (refine ACalls.beside c1 rfl ?_;rintro _ _ ⟨rfl,rfl⟩)
 conv=>whnf
 (refine ACalls.beside c2 rfl ?_;rintro _ _ ⟨rfl,rfl⟩)
 conv=>whnf
 try (refine And.intro ⟨rfl,by first | rfl | (simp;done) | (simp;omega),by first | omega | (simp;omega)⟩ ?_;conv=>whnf)
 try (refine And.intro ⟨rfl,by first | rfl | (simp;done) | (simp;omega),by first | omega | (simp;omega)⟩ ?_;conv=>whnf)
 exact⟨_, .bp 0 0,dkH d,fun _ _ h=>h,WkN.r (s:= [3,1,2]) ⟨⟨rfl,trivial⟩,⟨rfl,rfl,rfl,trivial⟩,rfl,rfl,rfl,rfl,rfl⟩,rfl,rfl⟩
theorem ON (d:Dk) (h1:d.cells.length<=1000000000) (h2:d.cache.length<=1000000000) (hb:∀ c∈d.cells,c.bytes.length<=1000000000/\c.old.length<=1000000000) (hw:∀ w∈d.cache,w.bytes.length<=1000000000):Fn Tryz.prog 42 [.ag (EH d)] fun r=>r = .ag (EH d):=by
 have c1:=Lp d.cells h1
 have c2:=L7 d.cache h2
 refine Fn.st Tryz.func42 rfl ?_
 conv=>whnf
 apply aDraw.treeK (0) tys_ok mixed (.one 0 (.one 1 (.one 3 (.one 4 (.one 2 (.one 6 (.one 5 (.one 7 (.one 8 (.one 9 .fin)))))))))) (by kernel_rfl)
 conv=>whnf
 (refine ACalls.beside c1 rfl ?_;rintro _ _ ⟨rfl,rfl⟩)
 conv=>whnf
 (refine ACalls.beside c2 rfl ?_;rintro _ _ ⟨rfl,rfl⟩)
 conv=>whnf
 try (refine And.intro ⟨rfl,by first | rfl | (simp;done) | (simp;omega),by first | omega | (simp;omega)⟩ ?_;conv=>whnf)
 try (refine And.intro ⟨rfl,by first | rfl | (simp;done) | (simp;omega),by first | omega | (simp;omega)⟩ ?_;conv=>whnf)
 refine aLoop.ruleRR Nat (fun k=>([(1, .bp 0 0),(2, .bp 1 0),(16, .ow 2 d.cells.length),(17, .v (.int .i64 d.cells.length)),(18, .v (.int .i64 k))], [.box 38 (G3 (.ow 2 d.cells.length) (.ow 3 d.cache.length) d.reqs d.left), .box 38 [.v (.slice none 0 0), .v (.slice none 0 0), .v (.int .i64 0), .v (.int .i64 0)], .row 84 3 (d.cells.map Bi), .row 131 2 (d.cache.map D3)])) (fun k=>k<=d.cells.length) (fun k=>d.cells.length - k) 0 (Ad _)
  (WkN.r (s:= [0,1,2,3]) ⟨⟨rfl,rfl,rfl,rfl,rfl,trivial⟩,⟨rfl,rfl,rfl,rfl,trivial⟩,rfl,rfl,rfl,rfl,rfl⟩) ?_
 intro k hk
 conv=>whnf
 refine Aw (fun h6=>?_) (fun h6=>?_) <;> (repeat rw [Ab] at h6) <;> conv=>whnf
 ·have hk':k<d.cells.length:=by omega
  have hm:=hb _ (Ay (d:=(⟨0, [], []⟩:Cel)) hk')
  have b1:=CR (d.cells.getD k ⟨0, [], []⟩).bytes hm.1
  have b2:=CR (d.cells.getD k ⟨0, [], []⟩).old hm.2
  have hE:(d.cells.map Bi).getD (k:Int).toNat []=Bi (d.cells.getD k ⟨0, [], []⟩):=by rw [Ab];exact AR hk'
  refine⟨⟨by omega,by omega⟩,?_⟩
  conv=>whnf
  refine And.intro ⟨rfl,(Aa _).symm,by rw [Ab];exact hk'⟩ ?_
  conv=>whnf
  rw [hE]
  conv=>whnf
  apply aDraw.treeK (16) tys_ok mixed (.one 0 (.one 1 (.one 2 (.one 3 (.one 5 (.one 6 (.one 7 (.one 9 (.one 10 (.two 4 (.one 8 (.one 11 (.one 12 (.one 13 (.one 14 (.one 15 (.one 16 (.one 17 .fin)))))))) 8 (.two 4 (.one 11 (.one 12 (.one 13 (.one 14 (.one 15 (.one 16 (.one 17 .fin))))))) 11 (.one 12 (.one 13 (.two 4 (.one 14 (.one 15 (.one 16 (.one 17 .fin)))) 14 (.one 4 (.one 15 (.one 16 (.one 17 .fin)))))))))))))))))) (by kernel_rfl)
  refine And.intro ?_ ?_
  conv=>whnf
  refine Fn.cl b1 ?_
  conv=>whnf
  refine Fn.cl b2 ?_
  conv=>whnf
  try (refine And.intro (by first | omega | (simp;done)) ?_;conv=>whnf)
  try (refine And.intro ⟨rfl,by first | rfl | (simp;done) | (simp;omega),by first | omega | (simp;omega)⟩ ?_;conv=>whnf)
  (first | rw [hE] | rw [By (by rw [Ab,Aa];exact hk')] | skip)
  conv=>whnf
  try (refine And.intro (by first | omega | (simp;done)) ?_;conv=>whnf)
  try (refine And.intro ⟨rfl,by first | rfl | (simp;done) | (simp;omega),by first | omega | (simp;omega)⟩ ?_;conv=>whnf)
  (first | rw [hE] | rw [By (by rw [Ab,Aa];exact hk')] | skip)
  conv=>whnf
  rotate_left 1
  conv=>whnf
  refine Fn.cl b1 ?_
  refine And.intro ?_ ?_
  conv=>whnf
  refine Fn.cl b2 ?_
  conv=>whnf
  try (refine And.intro (by first | omega | (simp;done)) ?_;conv=>whnf)
  try (refine And.intro ⟨rfl,by first | rfl | (simp;done) | (simp;omega),by first | omega | (simp;omega)⟩ ?_;conv=>whnf)
  (first | rw [hE] | rw [By (by rw [Ab,Aa];exact hk')] | skip)
  conv=>whnf
  try (refine And.intro (by first | omega | (simp;done)) ?_;conv=>whnf)
  try (refine And.intro ⟨rfl,by first | rfl | (simp;done) | (simp;omega),by first | omega | (simp;omega)⟩ ?_;conv=>whnf)
  (first | rw [hE] | rw [By (by rw [Ab,Aa];exact hk')] | skip)
  conv=>whnf
  rotate_left 1
  conv=>whnf
  refine Fn.cl b2 ?_
  conv=>whnf
  try (refine And.intro (by first | omega | (simp;done)) ?_;conv=>whnf)
  refine And.intro ?_ ?_
  conv=>whnf
  try (refine And.intro ⟨rfl,by first | rfl | (simp;done) | (simp;omega),by first | omega | (simp;omega)⟩ ?_;conv=>whnf)
  (first | rw [hE] | rw [By (by rw [Ab,Aa];exact hk')] | skip)
  conv=>whnf
  try (refine And.intro (by first | omega | (simp;done)) ?_;conv=>whnf)
  try (refine And.intro ⟨rfl,by first | rfl | (simp;done) | (simp;omega),by first | omega | (simp;omega)⟩ ?_;conv=>whnf)
  (first | rw [hE] | rw [By (by rw [Ab,Aa];exact hk')] | skip)
  conv=>whnf
  rotate_left 1
  conv=>whnf
  try (refine And.intro ⟨rfl,by first | rfl | (simp;done) | (simp;omega),by first | omega | (simp;omega)⟩ ?_;conv=>whnf)
  (first | rw [hE] | rw [By (by rw [Ab,Aa];exact hk')] | skip)
  conv=>whnf
  try (refine And.intro (by first | omega | (simp;done)) ?_;conv=>whnf)
  try (refine And.intro ⟨rfl,by first | rfl | (simp;done) | (simp;omega),by first | omega | (simp;omega)⟩ ?_;conv=>whnf)
  (first | rw [hE] | rw [By (by rw [Ab,Aa];exact hk')] | skip)
  conv=>whnf
  rotate_left 1
  all_goals refine⟨k+1,hk',by omega,WkN.rc (ConvF.ofH (ConvH.subRow (k:=2) rfl (es':=d.cells.map Bi) (by simp) ?_)) (s:= [0,1,2,3]) ⟨⟨rfl,rfl,rfl,rfl,A7 (by omega),trivial⟩,⟨rfl,rfl,rfl,rfl,trivial⟩,rfl,rfl,rfl,rfl,rfl⟩⟩
  all_goals
   intro i
   rw [List.set_set,Ab]
   refine F8 (f:=Bi) (d:=(⟨0, [], []⟩:Cel)) hk' ?_ i
   exact⟨fun _ _ h=>h,fun _ _ h=>h,fun _ _ h=>h,trivial⟩
 ·refine aLoop.ruleRR Nat (fun k=>([(1, .bp 0 0),(2, .bp 1 0),(41, .ow 3 d.cache.length),(42, .v (.int .i64 d.cache.length)),(43, .v (.int .i64 k))], [.box 38 (G3 (.ow 2 d.cells.length) (.ow 3 d.cache.length) d.reqs d.left), .box 38 [.v (.slice none 0 0), .v (.slice none 0 0), .v (.int .i64 0), .v (.int .i64 0)], .row 84 3 (d.cells.map Bi), .row 131 2 (d.cache.map D3)])) (fun k=>k<=d.cache.length) (fun k=>d.cache.length - k) 0 (Ad _)
   (WkN.r (s:= [0,1,2,3]) ⟨⟨rfl,rfl,rfl,rfl,rfl,trivial⟩,⟨rfl,rfl,rfl,rfl,trivial⟩,rfl,rfl,rfl,rfl,rfl⟩) ?_
  intro k hk
  conv=>whnf
  refine Aw (fun h7=>?_) (fun h7=>?_) <;> (repeat rw [Ab] at h7) <;> conv=>whnf
  ·have hk':k<d.cache.length:=by omega
   have hm:=hw _ (Ay (d:=(⟨0, []⟩:Wr)) hk')
   have b1:=CR (d.cache.getD k ⟨0, []⟩).bytes hm
   have hE:(d.cache.map D3).getD (k:Int).toNat []=D3 (d.cache.getD k ⟨0, []⟩):=by rw [Ab];exact AR hk'
   refine⟨⟨by omega,by omega⟩,?_⟩
   conv=>whnf
   refine And.intro ⟨rfl,(Aa _).symm,by rw [Ab];exact hk'⟩ ?_
   conv=>whnf
   rw [hE]
   conv=>whnf
   apply aDraw.treeK (0) tys_ok mixed (.one 0 (.one 1 (.one 2 (.one 3 (.one 4 (.one 5 (.one 6 (.one 7 (.one 8 .fin))))))))) (by kernel_rfl)
   conv=>whnf
   refine Fn.cl b1 ?_
   conv=>whnf
   try (refine And.intro (by first | omega | (simp;done)) ?_;conv=>whnf)
   try (refine And.intro ⟨rfl,by first | rfl | (simp;done) | (simp;omega),by first | omega | (simp;omega)⟩ ?_;conv=>whnf)
   (first | rw [hE] | skip)
   conv=>whnf
   all_goals refine⟨k+1,hk',by omega,WkN.rc (ConvF.ofH (ConvH.subRow (k:=3) rfl (es':=d.cache.map D3) (by simp) ?_)) (s:= [0,1,2,3]) ⟨⟨rfl,rfl,rfl,rfl,A7 (by omega),trivial⟩,⟨rfl,rfl,rfl,rfl,trivial⟩,rfl,rfl,rfl,rfl,rfl⟩⟩
   all_goals
    intro i
    rw [Ab]
    refine F8 (f:=D3) (d:=(⟨0, []⟩:Wr)) hk' ?_ i
    exact⟨fun _ _ h=>h,fun _ _ h=>h,trivial⟩
  ·refine And.intro (Aa _).symm ?_
   refine And.intro (Aa _).symm ?_
   exact⟨.ag (EH d),AG ⟨AH (f:=Bi) d.cells rfl rfl,AH (f:=D3) d.cache rfl rfl,ri,ri,trivial⟩,rfl⟩
def G0 (c:Cel):Bool:=Cb c.state 0 2&&(decide (c.bytes.length<=200)&&decide (c.old.length<=200))
def Ke (n:Nat) (w:Wr):Bool:=Cb w.addr 0 ((n:Int) - 1)&&decide (w.bytes.length<=200)
def L2 (d:Dk):Bool:=(Cb d.cells.length 1 300&&(decide (d.cache.length<=2000)&&(Cb d.reqs 0 1048576&&Cb d.left (-1) 1048576)))&&(d.cells.all G0&&d.cache.all (Ke d.cells.length))
theorem Ny (n lo hi:Int):Fn Tryz.prog 39 [.v (.int .i64 n), .v (.int .i64 lo), .v (.int .i64 hi)] fun r=>r = .v (.bool (Cb n lo hi)):=by
 refine Fn.st Tryz.func39 rfl ?_
 conv=>whnf
 repeat' (first | (refine Ah (fun h=>?_) (fun h=>?_) <;> (try simp at h) <;> conv=>whnf) | (refine aDraw.seq tys_ok mixed (by kernel_rfl) ?_;conv=>whnf) | (refine aSeq.go ?_;conv=>whnf) | (refine And.intro (by omega) ?_;conv=>whnf))
 all_goals exact⟨_,ri,by simp [Cb, *] <;> omega⟩
theorem UF (c:Cel):Fn Tryz.prog 92 [.ag (Bi c)] fun r=>r = .v (.bool (G0 c)):=by
 refine Fn.st Tryz.func92 rfl ?_
 conv=>whnf
 repeat' (first | (refine Ah (fun h=>?_) (fun h=>?_) <;> (try simp at h) <;> conv=>whnf) | (refine aDraw.seq tys_ok mixed (by kernel_rfl) ?_;conv=>whnf) | (refine aSeq.go ?_;conv=>whnf) | (refine Fn.cl (Ny _ _ _) ?_;conv=>whnf) | (refine And.intro (by omega) ?_;conv=>whnf))
 all_goals exact⟨_,ri,by congr 2;rw [C5];simp [G0, *] <;> omega⟩
theorem SB (c:Cel):Fn Tryz.prog 91 [.ag (Bi c)] fun r=>r = .v (.bool (!G0 c)):=by
 refine Fn.st Tryz.func91 rfl ?_
 conv=>whnf
 refine Fn.cl (UF c) ?_
 exact⟨_,ri,rfl⟩
theorem Xc (l:List Cel)  (hl:l.length<=1000000):Fn Tryz.prog 162 [M9 l, .v (.func (.func 91) #[] #[])] fun r=>r = .v (.int .i64 (UZ (fun c=>!G0 c) l)):=by
 refine Fn.st Tryz.func162 rfl ?_
 conv=>whnf
 refine aLoop.rule Nat (fun k=>([(0,M9 l),(1, .v (.func (.func 91) #[] #[])),(7, .v (.int .i64 l.length)),(8, .v (.int .i64 k))], [])) (fun k=>k<=l.length/\(l.take k).any (fun c=>!G0 c)=false) (fun k=>l.length - k) 0 ⟨Ad _,by simp⟩ ⟨[],trivial,⟨rfl,rfl,rfl,rfl,trivial⟩,trivial,rfl,rfl,rfl⟩ ?_
 rintro k ⟨hk,hI⟩
 conv=>whnf
 refine Ah (fun h2=>?_) (fun h2=>?_) <;> simp at h2 <;> conv=>whnf
 ·refine⟨by first | omega | (refine⟨rfl,?_,?_⟩ <;> first | omega | (simp only [Aa];done) | (simp only [Aa];omega)) | (simp only [Aa];omega),?_⟩
  conv=>whnf
  refine Fn.cl (SB (l.getD k ⟨0, [], []⟩)) ?_
  conv=>whnf
  refine Ah (fun h3=>?_) (fun h3=>?_) <;> conv=>whnf
  ·exact⟨_,ri,by rw [JX (d:=⟨0, [], []⟩) h2 hI (by first | exact h3 | (rw [Ab] at h3;exact h3) | simpa using h3)]⟩
  ·refine⟨k+1,⟨by omega,E7 (d:=⟨0, [], []⟩) h2 hI (by first | exact h3 | (rw [Ab] at h3;exact h3) | simpa using h3)⟩,by omega, [],trivial,⟨rfl,rfl,rfl,A7 (by omega),trivial⟩,trivial,rfl,rfl,rfl⟩
 ·exact⟨_,ri,by rw [Ar h2] at hI;rw [I1 hI]⟩
theorem Xd (l:List Cel)  (hl:l.length<=1000000):Fn Tryz.prog 90 [M9 l, .v (.func (.func 91) #[] #[])] fun r=>r = .v (.bool (l.any (fun c=>!G0 c))):=by
 refine Fn.st Tryz.func90 rfl ?_
 conv=>whnf
 refine Fn.cl (Xc l  hl) ?_
 exact⟨_,ri,by rw [Nn]⟩

theorem SA (d:Dk) (w:Wr) (hn:d.cells.length<=1000000):Fn Tryz.prog 94 [.ag (D3 w), .rp (EH d)] fun r=>r = .v (.bool (!Ke d.cells.length w)):=by
 have w1:IntKind.i64.wrap ((d.cells.length:Int) - 1)=d.cells.length - 1:=wi (by omega)
 refine Fn.st Tryz.func94 rfl ?_
 conv=>whnf
 rw [w1]
 repeat' (first | (refine Ah (fun h=>?_) (fun h=>?_) <;> (try simp at h) <;> conv=>whnf) | (refine aDraw.seq tys_ok mixed (by kernel_rfl) ?_;conv=>whnf) | (refine aSeq.go ?_;conv=>whnf) | (refine Fn.cl (Ny _ _ _) ?_;conv=>whnf) | (refine And.intro (by omega) ?_;conv=>whnf))
 all_goals exact⟨_,ri,by congr 2;rw [C5];simp [Ke, *] <;> omega⟩
theorem W_ (l:List Wr) (d:Dk) (hn:d.cells.length<=1000000) (hl:l.length<=1000000):Fn Tryz.prog 163 [Kc l, .fn 94 [.rp (EH d)]] fun r=>r = .v (.int .i64 (UZ (fun w=>!Ke d.cells.length w) l)):=by
 refine Fn.st Tryz.func163 rfl ?_
 conv=>whnf
 refine aLoop.rule Nat (fun k=>([(0,Kc l),(1, .fn 94 [.rp (EH d)]),(7, .v (.int .i64 l.length)),(8, .v (.int .i64 k))], [])) (fun k=>k<=l.length/\(l.take k).any (fun w=>!Ke d.cells.length w)=false) (fun k=>l.length - k) 0 ⟨Ad _,by simp⟩ ⟨[],trivial,⟨rfl,rfl,rfl,rfl,trivial⟩,trivial,rfl,rfl,rfl⟩ ?_
 rintro k ⟨hk,hI⟩
 conv=>whnf
 refine Ah (fun h2=>?_) (fun h2=>?_) <;> simp at h2 <;> conv=>whnf
 ·refine⟨by first | omega | (refine⟨rfl,?_,?_⟩ <;> first | omega | (simp only [Aa];done) | (simp only [Aa];omega)) | (simp only [Aa];omega),?_⟩
  conv=>whnf
  refine Fn.cl (SA d (l.getD k ⟨0, []⟩) hn) ?_
  conv=>whnf
  refine Ah (fun h3=>?_) (fun h3=>?_) <;> conv=>whnf
  ·exact⟨_,ri,by rw [JX (d:=⟨0, []⟩) h2 hI (by first | exact h3 | (rw [Ab] at h3;exact h3) | simpa using h3)]⟩
  ·refine⟨k+1,⟨by omega,E7 (d:=⟨0, []⟩) h2 hI (by first | exact h3 | (rw [Ab] at h3;exact h3) | simpa using h3)⟩,by omega, [],trivial,⟨rfl,rfl,rfl,A7 (by omega),trivial⟩,trivial,rfl,rfl,rfl⟩
 ·exact⟨_,ri,by rw [Ar h2] at hI;rw [I1 hI]⟩
theorem Xa (l:List Wr) (d:Dk) (hn:d.cells.length<=1000000) (hl:l.length<=1000000):Fn Tryz.prog 93 [Kc l, .fn 94 [.rp (EH d)]] fun r=>r = .v (.bool (l.any (fun w=>!Ke d.cells.length w))):=by
 refine Fn.st Tryz.func93 rfl ?_
 conv=>whnf
 refine Fn.cl (W_ l d hn hl) ?_
 exact⟨_,ri,by rw [Nn]⟩

theorem M5 (d:Dk) (h1:d.cells.length<=1000000) (h2:d.cache.length<=1000000):Fn Tryz.prog 38 [.ag (EH d)] fun r=>r = .v (F3 (L2 d)):=by
 have c1:=Xd d.cells h1
 have c2:=Xa d.cache d h1 h2
 rw [show (d.cells.any fun c=>!G0 c) = !d.cells.all G0 by rw [B7,Bool.not_not]] at c1
 rw [show (d.cache.any fun w=>!Ke d.cells.length w) = !d.cache.all (Ke d.cells.length) by rw [B7,Bool.not_not]] at c2
 obtain⟨A,hA⟩:∃ A,A=d.cells.all G0:=⟨_,rfl⟩
 obtain⟨B,hB⟩:∃ B,B=d.cache.all (Ke d.cells.length):=⟨_,rfl⟩
 have hok:L2 d=((Cb d.cells.length 1 300&&(decide (d.cache.length<=2000)&&(Cb d.reqs 0 1048576&&Cb d.left (-1) 1048576)))&&(A&&B)):=by rw [L2,hA,hB]
 rw [<-hA] at c1
 rw [<-hB] at c2
 rw [hok]
 clear hok hA hB
 refine Fn.st Tryz.func38 rfl ?_
 conv=>whnf
 repeat' (first | (refine Ah (fun h=>?_) (fun h=>?_) <;> (try simp at h) <;> conv=>whnf) | (refine aDraw.seq tys_ok mixed (by kernel_rfl) ?_;conv=>whnf) | (refine aSeq.go ?_;conv=>whnf) | (refine Fn.cl (Ny _ _ _) ?_;conv=>whnf) | (refine Fn.cl c1 ?_;conv=>whnf) | (refine Fn.cl c2 ?_;conv=>whnf) | (refine And.intro (by omega) ?_;conv=>whnf))
 all_goals exact⟨_,ri,by
  first
   | (rw [show ((Cb d.cells.length 1 300&&(decide (d.cache.length<=2000)&&(Cb d.reqs 0 1048576&&Cb d.left (-1) 1048576)))&&(A&&B))=false by rw [<-Bw];simp [*] <;> omega];rfl)
   | (rw [show ((Cb d.cells.length 1 300&&(decide (d.cache.length<=2000)&&(Cb d.reqs 0 1048576&&Cb d.left (-1) 1048576)))&&(A&&B))=true by simp [*] <;> omega];rfl)⟩

def cel0:List AV:= [.v (.int .i64 0), .v (.slice none 0 0), .v (.slice none 0 0)]
theorem T5 (n:Nat) (hn:1<=n/\n<=300):ACalls Tryz.prog false 115 [.v (.int .i64 n)] [] fun r H=>r = .ag [.ow 0 n, .v (.slice none 0 0), .v (.int .i64 0), .v (.int .i64 (-1))]/\H=[.row 84 3 (List.replicate n cel0)]:=by
 refine ACalls.ofR tys_ok Tryz.func115 rfl rfl (Ac rfl) ?_
 refine⟨⟨rfl,by omega,by omega⟩,?_⟩
 conv=>whnf
 exact⟨_, .ag [.ow 0 n, .v (.slice none 0 0), .v (.int .i64 0), .v (.int .i64 (-1))], [.row 84 3 (List.replicate n cel0)],fun _ _ h=>h,WkN.r (s:= [1]) ⟨⟨by rw [Ab];rfl,trivial⟩,⟨by rw [Ab];rfl,trivial⟩,rfl,rfl,rfl,rfl,rfl⟩,rfl,rfl⟩
@[reducible] def dkG (d:Dk):List AB:= [.box 113 (G3 (.ow 1 d.cells.length) (.ow 3 d.cache.length) d.reqs d.left), .row 84 3 (d.cells.map Bi), .dead, .row 131 2 (d.cache.map D3)]
theorem Xb (d:Dk):ConvH (dkH d) (dkG d):=ConvH.move (H:=dkH d) 0 2 (by decide) rfl rfl
theorem Lk (d:Dk) (hl : -1<=d.left/\d.left<=1048576) (hc:d.cache.length<=2000) (ha:∀ w∈d.cache,0<=w.addr/\w.addr<d.cells.length) :
  ACalls Tryz.prog false 86 [.bp 0 0] (dkH d) fun r H=>r = .v (.int .i64 (if d.left=0 then 8 else 0))/\H=dkG (if d.left=0 then d else d.flush):=by
 by_cases h0:d.left=0
 ·rw [if_pos h0,if_pos h0]
  exact(Qf d hl h0).conv fun r H ⟨h1,h2⟩=>⟨_,h2 ▸ Xb d,h1,rfl⟩
 ·rw [if_neg h0,if_neg h0]
  exact(S8 d hl h0 hc ha).conv fun r H ⟨h1,h2⟩=>⟨_,h2 ▸ ConvH.refl _,h1,rfl⟩
theorem Ey {α β:Type} {f:α->β} {d:α} {l:List α} {k:Nat} (h:k<l.length):(l.take (k+1)).map f=(l.take k).map f ++ [f (l.getD k d)]:=by
 rw [A3 h,Ax,List.getD_eq_getElem?_getD,List.getElem?_eq_getElem h];rfl
theorem Sl (d:Dk) (h1:d.cells.length<=1000000) (h2:d.cache.length<=1000000) (hb:∀ c∈d.cells,c.bytes.length<=1000000000/\c.old.length<=1000000000) (hw:∀ w∈d.cache,w.bytes.length<=1000000000) :
  ACalls Tryz.prog false 134 [.ag (EH d)] [] fun r H=>r = .ag (G3 (.ow 0 d.cells.length) (.ow 1 d.cache.length) d.reqs d.left)/\H=[.row 84 3 (d.cells.map Bi), .row 131 2 (d.cache.map D3)]:=by
 refine ACalls.ofR tys_ok Tryz.func134 rfl rfl (Ac rfl) ?_
 conv=>whnf
 refine aLoop.ruleRR Nat (fun k=>([(1, .bp 0 0),(2, .bp 1 0),(3, .bp 2 0),(4, .v (.int .i64 k))], [.box 38 (EH d), .box 38 [.v (.slice none 0 0), .v (.slice none 0 0), .v (.int .i64 0), .v (.int .i64 0)], .box 38 [.ow 3 k, .v (.slice none 0 0), .v (.int .i64 d.reqs), .v (.int .i64 d.left)], .row 84 3 ((d.cells.take k).map Bi)])) (fun k=>k<=d.cells.length) (fun k=>d.cells.length - k) 0 (Ad _)
  ⟨_,_,ConvF.refl _ _, [(1002000,84,3)],⟨rfl,rfl,trivial⟩, [0,1,2,3],⟨⟨rfl,rfl,rfl,rfl,trivial⟩,⟨rfl,rfl,rfl,rfl,trivial⟩,rfl,rfl,rfl,rfl,rfl⟩⟩ ?_
 intro k hk
 conv=>whnf
 refine Aw (fun h6=>?_) (fun h6=>?_) <;> (repeat rw [Ab] at h6) <;> conv=>whnf
 ·have hk':k<d.cells.length:=by omega
  obtain⟨c,hc⟩:∃ c,c=d.cells.getD k ⟨0, [], []⟩:=⟨_,rfl⟩
  have hm:=hb _ (Ay (d:=(⟨0, [], []⟩:Cel)) hk')
  rw [<-hc] at hm
  have b1:=Dh c.bytes hm.1
  have b2:=Dh c.old hm.2
  rw [hc] at b1 b2
  have hl:k=((d.cells.take k).map Bi).length:=by simp;omega
  apply aDraw.treeK (0) tys_ok mixed (.one 0 (.one 1 (.one 2 (.one 3 (.one 4 (.one 5 (.one 6 (.one 7 (.one 8 (.one 9 (.one 10 (.one 11 (.one 12 (.one 13 (.one 15 (.one 16 (.one 17 (.one 18 (.one 19 (.one 20 (.one 14 (.one 21 (.one 22 (.one 23 (.one 24 (.one 25 (.one 26 .fin))))))))))))))))))))))))))) (by kernel_rfl)
  conv=>whnf
  try (refine And.intro (by first | omega | (simp;done)) ?_;conv=>whnf)
  try (refine And.intro (by first | omega | (simp;done)) ?_;conv=>whnf)
  try (refine And.intro (by first | omega | (simp;done)) ?_;conv=>whnf)
  refine Fn.cl b1 ?_
  conv=>whnf
  refine Fn.cl b2 ?_
  conv=>whnf
  try (refine And.intro (by first | rfl | omega) ?_;conv=>whnf)
  try (refine And.intro (by first | omega | exact⟨by first | rfl | (simp;done) | (simp;omega),by omega⟩) ?_;conv=>whnf)
  try (refine And.intro ⟨rfl,by first | rfl | (simp;done) | (simp;omega),by first | omega | (simp;omega)⟩ ?_;conv=>whnf)
  exact⟨k+1,hk',by omega,WkN.r (s:= [0,1,2,3]) ⟨⟨rfl,rfl,rfl,A7 (by omega),trivial⟩,⟨rfl,rfl,rfl,congrArg (fun l=>some (AB.row _ _ l)) (Ey hk').symm,trivial⟩,rfl,rfl,rfl,rfl,rfl⟩⟩
 ·have ek:k=d.cells.length:=by omega
  subst ek
  refine aLoop.ruleRR Nat (fun k=>([(1, .bp 0 0),(2, .bp 1 0),(3, .bp 2 0),(5, .v (.int .i64 k))], [.box 38 (EH d), .box 38 [.v (.slice none 0 0), .v (.slice none 0 0), .v (.int .i64 0), .v (.int .i64 0)], .box 38 [.ow 3 d.cells.length, .ow 4 k, .v (.int .i64 d.reqs), .v (.int .i64 d.left)], .row 84 3 (d.cells.map Bi), .row 131 2 ((d.cache.take k).map D3)])) (fun k=>k<=d.cache.length) (fun k=>d.cache.length - k) 0 (Ad _)
   ⟨_,_,ConvF.refl _ _, [(1002001,131,2)],⟨rfl,rfl,trivial⟩, [0,1,2,3,4],⟨⟨rfl,rfl,rfl,rfl,trivial⟩,⟨rfl,rfl,rfl,by rw [List.take_length];rfl,rfl,trivial⟩,rfl,rfl,rfl,rfl,rfl⟩⟩ ?_
  intro k hk
  conv=>whnf
  refine Aw (fun h7=>?_) (fun h7=>?_) <;> (repeat rw [Ab] at h7) <;> conv=>whnf
  ·have hk':k<d.cache.length:=by omega
   have hm:=hw _ (Ay (d:=(⟨0, []⟩:Wr)) hk')
   have b1:=Dh (d.cache.getD k ⟨0, []⟩).bytes hm
   have hl:k=((d.cache.take k).map D3).length:=by simp;omega
   apply aDraw.treeK (0) tys_ok mixed (.one 0 (.one 1 (.one 2 (.one 3 (.one 4 (.one 5 (.one 6 (.one 7 (.one 8 (.one 9 (.one 10 (.one 11 (.one 12 (.one 13 (.one 14 (.one 15 (.one 16 (.one 17 (.one 18 (.one 19 .fin)))))))))))))))))))) (by kernel_rfl)
   conv=>whnf
   try (refine And.intro (by first | omega | (simp;done)) ?_;conv=>whnf)
   try (refine And.intro (by first | omega | (simp;done)) ?_;conv=>whnf)
   refine Fn.cl b1 ?_
   conv=>whnf
   try (refine And.intro (by first | rfl | omega) ?_;conv=>whnf)
   try (refine And.intro (by first | omega | exact⟨by first | rfl | (simp;done) | (simp;omega),by omega⟩) ?_;conv=>whnf)
   try (refine And.intro ⟨rfl,by first | rfl | (simp;done) | (simp;omega),by first | omega | (simp;omega)⟩ ?_;conv=>whnf)
   exact⟨k+1,hk',by omega,WkN.r (s:= [0,1,2,3,4]) ⟨⟨rfl,rfl,rfl,A7 (by omega),trivial⟩,⟨rfl,rfl,rfl,rfl,congrArg (fun l=>some (AB.row _ _ l)) (Ey hk').symm,trivial⟩,rfl,rfl,rfl,rfl,rfl⟩⟩
  ·have ek:k=d.cache.length:=by omega
   subst ek
   exact⟨_, .ag (G3 (.ow 0 d.cells.length) (.ow 1 d.cache.length) d.reqs d.left), [.row 84 3 (d.cells.map Bi), .row 131 2 (d.cache.map D3)],fun _ _ h=>h,WkN.r (s:= [3,4]) ⟨⟨rfl,trivial⟩,⟨rfl,by rw [List.take_length];rfl,trivial⟩,rfl,rfl,rfl,rfl,rfl⟩,rfl,rfl⟩
@[reducible] def rkH (d:Dk):List AB:= [.box 92 (G3 (.ow 1 d.cells.length) (.ow 2 d.cache.length) d.reqs d.left), .row 84 3 (d.cells.map Bi), .row 131 2 (d.cache.map D3)]
theorem MU (d:Dk) (h1:d.cells.length<=1000000) (h2:d.cache.length<=1000000) (hb:∀ c∈d.cells,c.bytes.length<=1000000000/\c.old.length<=1000000000) (hw:∀ w∈d.cache,w.bytes.length<=1000000000) :
  ACalls Tryz.prog false 63 [.ag (EH d)] [] fun r H=>r = .bp 0 0/\H=rkH d:=by
 have c1:=Sl d h1 h2 hb hw
 refine ACalls.ofR tys_ok Tryz.func63 rfl rfl (Ac rfl) ?_
 conv=>whnf
 refine ACalls.beside c1 rfl ?_
 rintro _ _ ⟨rfl,rfl⟩
 exact⟨_, .bp 0 0,rkH d,fun _ _ h=>h,WkN.r (s:= [3,1,2]) ⟨⟨rfl,trivial⟩,⟨rfl,rfl,rfl,trivial⟩,rfl,rfl,rfl,rfl,rfl⟩,rfl,rfl⟩
theorem MQ (d:Dk) (hl : -1<=d.left/\d.left<=1048576):ACalls Tryz.prog false 209 [.bp 0 0] (rkH d) fun r H=>r = .v (.bool (decide (d.left≠0)))/\H=rkH (if d.left=0 then d else d.req):=by
 refine ACalls.ofR tys_ok Tryz.func209 rfl rfl (Ac rfl) ?_
 conv=>whnf
 refine Aw (fun h=>?_) (fun h=>?_) <;> (repeat rw [Ab] at h) <;> conv=>whnf
 ·exact⟨_, .v (.bool false),rkH d,fun _ _ h=>h,WkN.r (s:= [0,1,2]) ⟨⟨rfl,trivial⟩,⟨rfl,rfl,rfl,trivial⟩,rfl,rfl,rfl,rfl,rfl⟩,by simp [h],by rw [if_pos h]⟩
 ·have hw:IntKind.i64.wrap (d.left - 1)=d.left - 1:=by rw [IntKind.wrap_i64];omega
  try
   refine aSeq.go ?_
   conv=>whnf
  refine Aw (fun h2=>?_) (fun h2=>?_) <;> (repeat rw [Ab] at h2) <;> conv=>whnf
  ·exact⟨_, .v (.bool true),rkH d.req,fun _ _ h=>h,WkN.r (s:= [0,1,2]) ⟨⟨rfl,trivial⟩,⟨congrArg (fun x=>some (AB.box 92 (G3 (.ow 1 d.cells.length) (.ow 2 d.cache.length) d.req.reqs x))) (show IntKind.i64.wrap (d.left - 1)=d.req.left by simp [Dk.req,h2,hw]),rfl,rfl,trivial⟩,rfl,rfl,rfl,rfl,rfl⟩,by simp [h],by rw [if_neg h]⟩
  ·exact⟨_, .v (.bool true),rkH d.req,fun _ _ h=>h,WkN.r (s:= [0,1,2]) ⟨⟨rfl,trivial⟩,⟨congrArg (fun x=>some (AB.box 92 (G3 (.ow 1 d.cells.length) (.ow 2 d.cache.length) d.req.reqs x))) (show d.left=d.req.left by simp [Dk.req];omega),rfl,rfl,trivial⟩,rfl,rfl,rfl,rfl,rfl⟩,by simp [h],by rw [if_neg h]⟩
theorem NV (d:Dk) (a:Int) (hl : -1<=d.left/\d.left<=1048576) (ha:0<=a/\a<d.cells.length) (hc:d.cache.length<=2000) (hb:∀ c∈d.cells,c.bytes.length<=100000) (hw:∀ w∈d.cache,w.bytes.length<=100000) :
  ACalls Tryz.prog false 243 [.bp 0 0, .v (.int .i64 a)] (rkH d) fun r H=>r = .ag (Db ⟨(d.read a).2.2,(d.read a).2.1⟩)/\H=rkH (d.read a).1:=by
 have hq:=MQ d hl
 have no:∀ (e:Int) (c:Ctx) (v:Value),Rd (.ag [.v (.int .i64 e), .v (.slice none 0 0)]) c v->Rd (.ag (Db ⟨e, []⟩)) c v:=fun e=>AG ⟨ri,AX 1 _,trivial⟩
 by_cases h0:d.left=0
 ·rw [if_pos h0,show decide (d.left≠0)=false by simp [h0]] at hq
  refine ACalls.ofR tys_ok Tryz.func243 rfl rfl (Ac rfl) ?_
  conv=>whnf
  refine ACalls.frame [0,1,2] hq rfl rfl rfl rfl (by decide) (Ma rfl) ⟨rfl,rfl,rfl,trivial⟩ ?_
  rintro _ _ ⟨rfl,rfl⟩
  exact⟨.ag (Db ⟨8, []⟩), .ag (Db ⟨8, []⟩),rkH d,no 8,WkN.r (s:= [0,1,2]) ⟨⟨rfl,trivial⟩,⟨rfl,rfl,rfl,trivial⟩,rfl,rfl,rfl,rfl,rfl⟩,by simp [Dk.read,h0],by simp [Dk.read,h0]⟩
 ·rw [if_neg h0,show decide (d.left≠0)=true by simp [h0]] at hq
  have hE:∀ i,i<d.cache.length->(d.cache.map D3).getD i []=D3 (d.cache.getD i ⟨0, []⟩):=fun i hi=>AR hi
  have w1:IntKind.i64.wrap ((d.req.cache.length:Int) - 1)=(d.cache.length:Int) - 1:=by show IntKind.i64.wrap ((d.cache.length:Int) - 1)=_;exact wi (by omega)
  refine ACalls.ofR tys_ok Tryz.func243 rfl rfl (Ac rfl) ?_
  conv=>whnf
  refine ACalls.frame [0,1,2] hq rfl rfl rfl rfl (by decide) (Ma rfl) ⟨rfl,rfl,rfl,trivial⟩ ?_
  rintro _ _ ⟨rfl,rfl⟩
  conv=>whnf
  refine aLoop.ruleRR Nat (fun k=>([(0, .bp 0 0),(1, .v (.int .i64 a)),(4, .bp 3 0),(5, .v (.int .i64 ((k:Int) - 1)))], [.box 92 (G3 (.ow 1 d.cells.length) (.ow 2 d.cache.length) d.req.reqs d.req.left), .row 84 3 (d.cells.map Bi), .row 131 2 (d.cache.map D3), .box 263 [.v (.int .i64 0), .v (.slice none 0 0)]])) (fun k=>k<=d.cache.length/\∀ j,k<=j->j<d.cache.length->(d.cache.getD j ⟨0, []⟩).addr≠a) (fun k=>k) d.cache.length ⟨Nat.le_refl _,fun j h1 h2=>absurd h2 (by omega)⟩
   (WkN.r (s:= [0,1,2,3]) ⟨⟨rfl,rfl,rfl,congrArg (fun x=>AV.v (.int .i64 x)) w1,trivial⟩,⟨rfl,rfl,rfl,rfl,trivial⟩,rfl,rfl,rfl,rfl,rfl⟩) ?_
  rintro k ⟨hk,hI⟩
  conv=>whnf
  refine Aw (fun h6=>?_) (fun h6=>?_) <;> (repeat rw [Ab] at h6) <;> conv=>whnf
  ·have hk':k - 1<d.cache.length:=by omega
   have ek:((k:Int) - 1).toNat=k - 1:=by omega
   have hE':(d.cache.map D3).getD ((k:Int) - 1).toNat []=D3 (d.cache.getD (k - 1) ⟨0, []⟩):=by rw [ek];exact AR hk'
   have hcw:=Dh (d.cache.getD (k - 1) ⟨0, []⟩).bytes (by have:=hw _ (Ay (d:=⟨0, []⟩) hk');omega)
   refine⟨⟨by omega,by omega⟩,?_⟩
   refine⟨⟨rfl,(Aa _).symm,by omega⟩,?_⟩
   conv=>whnf
   rw [hE']
   conv=>whnf
   refine Aw (fun h7=>?_) (fun h7=>?_) <;> (repeat rw [Ab] at h7) <;> conv=>whnf
   ·refine⟨⟨by omega,by omega⟩,?_⟩
    refine⟨⟨rfl,(Aa _).symm,by omega⟩,?_⟩
    conv=>whnf
    rw [hE']
    conv=>whnf
    refine Fn.cl hcw ?_
    conv=>whnf
    have hg:d.got a=((d.cache.getD (k - 1) ⟨0, []⟩).bytes,0):=by
     unfold Dk.got
     rw [Je _ _ rfl (k - 1) hk' h7 fun j q1 q2=>hI j (by omega) q2]
    exact⟨_, .ag (Db ⟨0,(d.cache.getD (k - 1) ⟨0, []⟩).bytes⟩),rkH d.req,fun _ _ h=>h,WkN.r (s:= [0,1,2]) ⟨⟨rfl,trivial⟩,⟨rfl,rfl,rfl,trivial⟩,rfl,rfl,rfl,rfl,rfl⟩,by simp [Dk.read,h0,hg],by simp [Dk.read,h0]⟩
   ·refine⟨k - 1,⟨by omega,fun j q1 q2=>?_⟩,by omega,WkN.r (s:= [0,1,2,3]) ⟨⟨rfl,rfl,rfl,congrArg (fun x=>AV.v (.int .i64 x)) (show IntKind.i64.wrap ((k:Int) - 1 - 1)=((k - 1:Nat):Int) - 1 by rw [wi (by omega)];omega),trivial⟩,⟨rfl,rfl,rfl,rfl,trivial⟩,rfl,rfl,rfl,rfl,rfl⟩⟩
    by_cases hj:j=k - 1
    ·rw [hj];exact h7
    ·exact hI j (by omega) q2
  ·have hg:d.got a=if (d.cells.getD a.toNat ⟨0, [], []⟩).state=0 then ((d.cells.getD a.toNat ⟨0, [], []⟩).bytes,0) else ([],6):=by
    unfold Dk.got
    rw [HR _ _ rfl fun j q=>hI j (by omega) q]
   have hgc:(d.cells.map Bi).getD a.toNat []=Bi (d.cells.getD a.toNat ⟨0, [], []⟩):=AR (by omega)
   have hcb:=Dh (d.cells.getD a.toNat ⟨0, [], []⟩).bytes (by have:=hb _ (Ay (d:=⟨0, [], []⟩) (show a.toNat<d.cells.length by omega));omega)
   refine⟨ha,?_⟩
   refine⟨⟨rfl,(Aa _).symm,show a.toNat<d.cells.length by omega⟩,?_⟩
   conv=>whnf
   rw [hgc]
   conv=>whnf
   refine Aw (fun h1=>?_) (fun h1=>?_) <;> (repeat rw [Ab] at h1) <;> conv=>whnf
   ·rw [if_neg h1] at hg
    exact⟨.ag (Db ⟨6, []⟩), .ag (Db ⟨6, []⟩),rkH d.req,no 6,WkN.r (s:= [0,1,2]) ⟨⟨rfl,trivial⟩,⟨rfl,rfl,rfl,trivial⟩,rfl,rfl,rfl,rfl,rfl⟩,by simp only [Dk.read,if_neg h0,hg],by simp only [Dk.read,if_neg h0]⟩
   ·rw [if_pos h1] at hg
    refine⟨ha,?_⟩
    refine⟨⟨rfl,(Aa _).symm,show a.toNat<d.cells.length by omega⟩,?_⟩
    conv=>whnf
    rw [hgc]
    conv=>whnf
    refine Fn.cl hcb ?_
    exact⟨_, .ag (Db ⟨0,(d.cells.getD a.toNat ⟨0, [], []⟩).bytes⟩),rkH d.req,fun _ _ h=>h,WkN.r (s:= [0,1,2]) ⟨⟨rfl,trivial⟩,⟨rfl,rfl,rfl,trivial⟩,rfl,rfl,rfl,rfl,rfl⟩,by simp only [Dk.read,if_neg h0,hg],by simp only [Dk.read,if_neg h0]⟩
theorem LL (d:Dk) (a:Int) (b:List UInt8) (hl : -1<=d.left/\d.left<=1048576) (ha:0<=a/\a<d.cells.length) (hc:d.cache.length<=2000) (hb:b.length<=100000) :
  ACalls Tryz.prog false 145 [.bp 0 0, .v (.int .i64 a),bA b] (rkH d) fun r H=>r = .v (.int .i64 (d.write a b).2)/\H=rkH (d.write a b).1:=by
 have hq:=MQ d hl
 have hcb:=Dh b (by omega)
 by_cases h0:d.left=0
 ·rw [if_pos h0,show decide (d.left≠0)=false by simp [h0]] at hq
  refine ACalls.ofR tys_ok Tryz.func145 rfl rfl (Ac rfl) ?_
  conv=>whnf
  refine hq.mono ?_
  rintro _ _ ⟨rfl,rfl⟩
  exact⟨_, .v (.int .i64 8),rkH d,fun _ _ h=>h,WkN.r (s:= [0,1,2]) ⟨⟨rfl,trivial⟩,⟨rfl,rfl,rfl,trivial⟩,rfl,rfl,rfl,rfl,rfl⟩,by simp only [Dk.write,if_pos h0],by simp only [Dk.write,if_pos h0]⟩
 ·rw [if_neg h0,show decide (d.left≠0)=true by simp [h0]] at hq
  have hgc:(d.cells.map Bi).getD a.toNat []=Bi (d.cells.getD a.toNat ⟨0, [], []⟩):=AR (by omega)
  have hgc':(d.req.cells.map Bi).getD a.toNat []=Bi (d.cells.getD a.toNat ⟨0, [], []⟩):=hgc
  refine ACalls.ofR tys_ok Tryz.func145 rfl rfl (Ac rfl) ?_
  conv=>whnf
  refine hq.mono ?_
  rintro _ _ ⟨rfl,rfl⟩
  refine⟨ha,?_⟩
  refine⟨⟨rfl,(Aa _).symm,show a.toNat<d.cells.length by omega⟩,?_⟩
  conv=>whnf
  first | rw [hgc] | rw [hgc']
  conv=>whnf
  refine Aw (fun h1=>?_) (fun h1=>?_) <;> (repeat rw [Ab] at h1) <;> conv=>whnf
  ·exact⟨_, .v (.int .i64 7),rkH d.req,fun _ _ h=>h,WkN.r (s:= [0,1,2]) ⟨⟨rfl,trivial⟩,⟨rfl,rfl,rfl,trivial⟩,rfl,rfl,rfl,rfl,rfl⟩,by simp only [Dk.write,if_neg h0,if_pos (Or.inl h1)],by simp only [Dk.write,if_neg h0,if_pos (Or.inl h1)]⟩
  ·by_cases h2:(2000:Int)<=d.cache.length
   ·rw [show decide ((d.req.cache.length:Int)>=2000)=true from decide_eq_true h2]
    exact⟨_, .v (.int .i64 7),rkH d.req,fun _ _ h=>h,WkN.r (s:= [0,1,2]) ⟨⟨rfl,trivial⟩,⟨rfl,rfl,rfl,trivial⟩,rfl,rfl,rfl,rfl,rfl⟩,by simp only [Dk.write,if_neg h0,if_pos (Or.inr h2)],by simp only [Dk.write,if_neg h0,if_pos (Or.inr h2)]⟩
   ·rw [show decide ((d.req.cache.length:Int)>=2000)=false from decide_eq_false h2]
    have hc':d.req.cache.length<=2000:=hc
    have h3:¬((d.cells.getD a.toNat ⟨0, [], []⟩).state=2\/(2000:Int)<=d.cache.length):=fun h=>h.elim h1 h2
    conv=>whnf
    apply aDraw.treeK (0) tys_ok mixed (.one 0 (.one 1 (.one 2 (.one 3 (.one 4 (.one 5 (.one 6 (.one 7 (.one 8 (.one 9 (.one 10 (.one 11 (.one 12 (.one 13 (.one 14 (.one 15 .fin)))))))))))))))) (by kernel_rfl)
    conv=>whnf
    refine Fn.cl hcb ?_
    conv=>whnf
    try (refine And.intro (by first | rfl | omega) ?_;conv=>whnf)
    try (refine And.intro (by first | omega | exact⟨by first | rfl | (simp;done) | (simp;omega),by omega⟩) ?_;conv=>whnf)
    try (refine And.intro ⟨rfl,by first | rfl | (simp;done) | (simp;omega),by first | omega | (simp;omega)⟩ ?_;conv=>whnf)
    have e:rkH { d.req with cache:=d.cache ++ [⟨a,b⟩] }=[.box 92 (G3 (.ow 1 d.cells.length) (.ow 2 (d.cache.length+1)) d.req.reqs d.req.left), .row 84 3 (d.cells.map Bi), .row 131 2 (d.cache.map D3 ++ [D3 ⟨a,b⟩])]:=by
     unfold rkH
     simp only [List.length_append,List.length_singleton,Ax,Ap,AT]
     rfl
    refine⟨_, .v (.int .i64 0),rkH { d.req with cache:=d.cache ++ [⟨a,b⟩] },fun _ _ h=>h,WkN.r (s:= [0,1,2]) ?_,by simp only [Dk.write,if_neg h0,if_neg h3],by simp only [Dk.write,if_neg h0,if_neg h3]⟩
    rw [e]
    exact⟨⟨rfl,trivial⟩,⟨rfl,rfl,rfl,trivial⟩,rfl,rfl,rfl,rfl,rfl⟩
theorem TP (d:Dk) (w:Wr) (ha:0<=w.addr/\w.addr<d.cells.length) (hb:w.bytes.length<=100000) :
  ACalls Tryz.prog false 211 [.bp 0 0, .ag (D3 w)] (rkH d) fun r H=>r = .tp []/\H=rkH (d.fin w):=by
 have hgc:(d.cells.map Bi).getD w.addr.toNat []=Bi (d.cells.getD w.addr.toNat cz):=AR (by omega)
 have hcb:=Dh w.bytes (by omega)
 refine ACalls.ofR tys_ok Tryz.func211 rfl rfl (Ac rfl) ?_
 conv=>whnf
 apply aDraw.treeK (0) tys_ok mixed (.one 0 (.one 1 (.one 2 (.one 3 (.one 4 (.one 5 (.one 6 (.one 7 (.one 8 .fin))))))))) (by kernel_rfl)
 conv=>whnf
 try (refine And.intro (by first | omega | (simp;done)) ?_;conv=>whnf)
 refine⟨⟨rfl,(Aa _).symm,show w.addr.toNat<d.cells.length by omega⟩,?_⟩
 conv=>whnf
 rw [hgc]
 conv=>whnf
 refine Aw (fun h1=>?_) (fun h1=>?_) <;> (repeat rw [Ab] at h1) <;> conv=>whnf
 ·exact⟨_, .tp [],rkH d,fun _ _ h=>h,WkN.r (s:= [0,1,2]) ⟨⟨rfl,trivial⟩,⟨rfl,rfl,rfl,trivial⟩,rfl,rfl,rfl,rfl,rfl⟩,rfl,by simp only [Dk.fin,if_pos h1]⟩
 ·have hmem:w.addr.toNat<d.cells.length:=by omega
  apply aDraw.treeK (0) tys_ok mixed (.one 0 (.one 1 (.one 2 (.one 3 (.one 4 (.one 5 (.one 6 (.one 7 (.one 8 (.one 9 (.one 10 (.one 11 (.one 12 (.one 13 (.one 14 (.one 15 (.one 16 (.one 17 (.one 18 .fin))))))))))))))))))) (by kernel_rfl)
  conv=>whnf
  try (first | (refine And.intro ⟨rfl,(Aa _).symm,hmem⟩ ?_;(conv=>whnf);rw [hgc]) | (refine And.intro ⟨rfl,by simp,hmem⟩ ?_;(conv=>whnf);rw [By (by simpa using hmem)]) | skip;conv=>whnf)
  try (first | (refine And.intro ⟨rfl,(Aa _).symm,hmem⟩ ?_;(conv=>whnf);rw [hgc]) | (refine And.intro ⟨rfl,by simp,hmem⟩ ?_;(conv=>whnf);rw [By (by simpa using hmem)]) | skip;conv=>whnf)
  refine Fn.cl hcb ?_
  conv=>whnf
  try (refine And.intro ⟨rfl,by first | rfl | (simp;done) | (simp;omega),by first | omega | (simp;omega)⟩ ?_;conv=>whnf)
  (first | rw [hgc] | rw [By (by simpa using hmem)] | skip)
  conv=>whnf
  try (refine And.intro ⟨rfl,by first | rfl | (simp;done) | (simp;omega),by first | omega | (simp;omega)⟩ ?_;conv=>whnf)
  (first | rw [hgc] | rw [By (by simpa using hmem)] | skip)
  conv=>whnf
  try (refine And.intro ⟨rfl,by first | rfl | (simp;done) | (simp;omega),by first | omega | (simp;omega)⟩ ?_;conv=>whnf)
  (first | rw [hgc] | rw [By (by simpa using hmem)] | skip)
  conv=>whnf
  have e:rkH (d.fin w)=[.box 92 (G3 (.ow 1 d.cells.length) (.ow 2 d.cache.length) d.reqs d.left), .row 84 3 ((d.cells.map Bi).set w.addr.toNat (Bi ⟨0,w.bytes,(d.cells.getD w.addr.toNat cz).bytes⟩)), .row 131 2 (d.cache.map D3)]:=by
   rw [Dk.fin,if_neg h1]
   unfold rkH
   simp only [AO,BX]
  refine⟨_, .tp [],rkH (d.fin w),fun _ _ h=>h,WkN.r (s:= [0,1,2]) ?_,rfl,rfl⟩
  rw [e]
  exact⟨⟨rfl,trivial⟩,⟨rfl,congrArg (fun l=>some (AB.row _ _ l)) (by rw [List.set_set,List.set_set];rfl),rfl,trivial⟩,rfl,rfl,rfl,rfl,rfl⟩
@[reducible] def rkG (d:Dk):List AB:= [.box 92 (G3 (.ow 1 d.cells.length) (.ow 3 d.cache.length) d.reqs d.left), .row 84 3 (d.cells.map Bi), .dead, .row 131 2 (d.cache.map D3)]
theorem WF (d:Dk):ConvH (rkH d) (rkG d):=ConvH.move (H:=rkH d) 0 2 (by decide) rfl rfl
theorem LQ (d:Dk) (hl : -1<=d.left/\d.left<=1048576) (hc:d.cache.length<=2000) (ha:∀ w∈d.cache,0<=w.addr/\w.addr<d.cells.length) (hb:∀ w∈d.cache,w.bytes.length<=100000) :
  ACalls Tryz.prog false 147 [.bp 0 0] (rkH d) fun r H=>r = .v (.int .i64 (if d.left=0 then 8 else 0))/\H=rkG (if d.left=0 then d else d.flush):=by
 have hq:=MQ d hl
 by_cases h0:d.left=0
 ·rw [if_pos h0,show decide (d.left≠0)=false by simp [h0]] at hq
  rw [if_pos h0,if_pos h0]
  refine ACalls.ofR tys_ok Tryz.func147 rfl rfl (Ac rfl) ?_
  conv=>whnf
  refine hq.mono ?_
  rintro _ _ ⟨rfl,rfl⟩
  exact⟨_, .v (.int .i64 8),rkG d,fun _ _ h=>h,WkN.rc (ConvF.ofH (WF d)) (s:= [0,1,2,3]) ⟨⟨rfl,trivial⟩,⟨rfl,rfl,trivial,rfl,trivial⟩,rfl,rfl,rfl,rfl,rfl⟩,rfl,rfl⟩
 ·rw [if_neg h0,show decide (d.left≠0)=true by simp [h0]] at hq
  rw [if_neg h0,if_neg h0]
  have hE:∀ i,i<d.cache.length->(d.cache.map D3).getD i []=D3 (d.cache.getD i ⟨0, []⟩):=fun i hi=>AR hi
  refine ACalls.ofR tys_ok Tryz.func147 rfl rfl (Ac rfl) ?_
  conv=>whnf
  refine hq.mono ?_
  rintro _ _ ⟨rfl,rfl⟩
  conv=>whnf
  refine aLoop.ruleRR Nat (fun k=>([(0, .bp 0 0),(2, .v (.int .i64 0)),(3, .v (.int .i64 k))],rkH (d.req.allFin (d.cache.take k)))) (fun k=>k<=d.cache.length) (fun k=>d.cache.length - k) 0 (Ad _)
   (WkN.r (s:= [0,1,2]) ⟨⟨rfl,rfl,rfl,trivial⟩,⟨rfl,rfl,rfl,trivial⟩,rfl,rfl,rfl,rfl,rfl⟩) ?_
  intro k hk
  have hall:=Ib (d.cache.take k) d.req
  have hnext:k<d.cache.length->d.req.allFin (d.cache.take (k+1))=(d.req.allFin (d.cache.take k)).fin (d.cache.getD k ⟨0, []⟩):=fun h=>JI d.req h
  have hlast:k=d.cache.length->d.flush={ d.req.allFin (d.cache.take k) with cache:= [] }:=fun h=>by rw [h,List.take_length];rfl
  generalize d.req.allFin (d.cache.take k)=X at hall hnext hlast |-
  obtain⟨xc,xw,xr,xl⟩:=X
  simp only at hall
  obtain⟨q1,q2,q3,q4⟩:=hall
  have q2:xw=d.cache:=q2
  subst q2
  have q1':xc.length=d.cells.length:=q1
  conv=>whnf
  refine Aw (fun h=>?_) (fun h=>?_) <;> (repeat rw [Ab] at h) <;> conv=>whnf
  ·have hk':k<d.cache.length:=h
   have hd:=TP ⟨xc,d.cache,xr,xl⟩ (d.cache.getD k ⟨0, []⟩) (by have:=ha _ (Ay (d:=⟨0, []⟩) hk');show _/\_<((xc.length:Nat):Int);rw [q1'];exact this) (hb _ (Ay (d:=⟨0, []⟩) hk'))
   refine⟨⟨by omega,by omega⟩,?_⟩
   refine⟨⟨rfl,(Aa _).symm,by simpa using hk'⟩,?_⟩
   conv=>whnf
   rw [show ((k:Int)).toNat=k from Ab k,hE k hk']
   conv=>whnf
   refine ACalls.frame [0,1,2] hd rfl rfl rfl rfl (by decide) (Ma rfl) ⟨rfl,rfl,rfl,trivial⟩ ?_
   rintro _ _ ⟨rfl,rfl⟩
   refine⟨k+1,hk',by omega,WkN.r (s:= [0,1,2]) ?_⟩
   rw [hnext hk']
   exact⟨⟨rfl,rfl,A7 (by omega),trivial⟩,⟨rfl,rfl,rfl,trivial⟩,rfl,rfl,rfl,rfl,rfl⟩
  ·have ek:k=d.cache.length:=Nat.le_antisymm hk h
   rw [hlast ek]
   exact⟨_, .v (.int .i64 0),rkG { cells:=xc,cache:= [],reqs:=xr,left:=xl },fun _ _ h=>h,⟨_,_,ConvF.refl _ _, [(1000001,131,2)],⟨rfl,rfl,trivial⟩, [0,1,2,3],⟨⟨rfl,trivial⟩,⟨rfl,rfl,trivial,rfl,trivial⟩,rfl,rfl,rfl,rfl,rfl⟩⟩,rfl,rfl⟩
structure DkOk (d:Dk):Prop where
 n:1<=d.cells.length/\d.cells.length<=300
 m:d.cache.length<=2000
 r:0<=d.reqs/\d.reqs<=1048576
 l : -1<=d.left/\d.left<=1048576
 c:∀ c∈d.cells,(0<=c.state/\c.state<=2)/\c.bytes.length<=200/\c.old.length<=200
 w:∀ w∈d.cache,(0<=w.addr/\w.addr<d.cells.length)/\w.bytes.length<=200
theorem Oq {d:Dk}:L2 d=true↔DkOk d:=by
 constructor
 ·intro h
  simp only [L2,Bool.and_eq_true,A0,decide_eq_true_eq,Ao,G0,Ke] at h
  obtain⟨⟨h1,h2,h3,h4⟩,h5,h6⟩:=h
  exact⟨by omega,h2,h3,h4,fun c hc=>h5 c hc,fun w hw=>⟨by have:=(h6 w hw).1;omega,(h6 w hw).2⟩⟩
 ·intro h
  simp only [L2,Bool.and_eq_true,A0,decide_eq_true_eq,Ao,G0,Ke]
  exact⟨⟨by have:=h.n;omega,h.m,h.r,h.l⟩,fun c hc=>h.c c hc,fun w hw=>⟨by have:=(h.w w hw).1;omega,(h.w w hw).2⟩⟩
theorem DkOk.req {d:Dk} (h:DkOk d):DkOk d.req:=by
 have hr:=h.r
 have hl:=h.l
 refine⟨h.n,h.m,?_,?_,h.c,h.w⟩
 ·show 0<=(if 1048576<IntKind.i64.wrap (d.reqs+1) then 1048576 else IntKind.i64.wrap (d.reqs+1))/\(if 1048576<IntKind.i64.wrap (d.reqs+1) then 1048576 else IntKind.i64.wrap (d.reqs+1))<=1048576
  rw [wi (by omega)]
  split <;> omega
 ·show -1<=(if d.left > 0 then d.left - 1 else d.left)/\(if d.left > 0 then d.left - 1 else d.left)<=1048576
  split <;> omega
theorem Sv {d:Dk} (h:DkOk d) (a:Int):(d.got a).1.length<=200:=by
 unfold Dk.got
 cases hl:GL d.cache a with
 | some w=>
  have:∀ (l:List Wr) (r:Option Wr),(∀ x∈l,x.bytes.length<=200)->(∀ x,r=some x->x.bytes.length<=200)->∀ x,l.foldl (fun r w=>if w.addr=a then some w else r) r=some x->x.bytes.length<=200:=by
   intro l
   induction l with
   | nil=>intro r _ h2 x hx;exact h2 x hx
   | cons y l ih=>
    intro r h1 h2 x hx
    refine ih _ (fun x hx=>h1 x (AE _ hx)) (fun x hx=>?_) x hx
    simp only at hx
    split at hx
    ·cases hx;exact h1 y (by simp)
    ·exact h2 x hx
  exact this d.cache none (fun x hx=>(h.w x hx).2) (fun x hx=>by cases hx) w hl
 | none=>
  simp only
  split
  ·by_cases ha:a.toNat<d.cells.length
   ·exact(h.c _ (Ay (d:=⟨0, [], []⟩) ha)).2.1
   ·rw [List.getD_eq_getElem?_getD,List.getElem?_eq_none (by omega)];simp
  ·simp
theorem DkOk.read {d:Dk} (h:DkOk d) (a:Int):DkOk (d.read a).1:=by
 unfold Dk.read
 split
 ·exact h
 ·exact h.req
theorem DkOk.write {d:Dk} (h:DkOk d) {a:Int} {b:List UInt8} (ha:0<=a/\a<d.cells.length) (hb:b.length<=200):DkOk (d.write a b).1:=by
 unfold Dk.write
 split
 ·exact h
 ·split
  ·exact h.req
  ·rename_i h1
   have h2:=h.req
   refine⟨h2.n,?_,h2.r,h2.l,h2.c,fun w hw=>?_⟩
   ·simp only [List.length_append,List.length_singleton];omega
   ·rcases At.1 hw with hw | hw
    ·exact h.w w hw
    ·simp at hw;subst hw;exact⟨ha,hb⟩
theorem DkOk.fin {d:Dk} (h:DkOk d) {w:Wr} (hb:w.bytes.length<=200):DkOk (d.fin w):=by
 unfold Dk.fin
 split
 ·exact h
 ·refine⟨by simpa using h.n,h.m,h.r,h.l,fun c hc=>?_,fun x hx=>by simpa using h.w x hx⟩
  rcases BC hc with hc | rfl
  ·exact h.c c hc
  ·refine⟨⟨B_ _,show (0:Int)<=2 by decide⟩,hb,?_⟩
   show (d.cells.getD w.addr.toNat cz).bytes.length<=200
   by_cases ha:w.addr.toNat<d.cells.length
   ·exact(h.c _ (Ay (d:=cz) ha)).2.1
   ·rw [List.getD_eq_getElem?_getD,List.getElem?_eq_none (by omega)];simp [cz]
theorem DkOk.allFin (l:List Wr):∀ {d:Dk},DkOk d->(∀ w∈l,w.bytes.length<=200)->DkOk (d.allFin l):=by
 induction l with
 | nil=>intro d h _;exact h
 | cons w l ih=>intro d h hw;exact ih (h.fin (hw w (by simp))) fun x hx=>hw x (AE _ hx)
theorem DkOk.flush {d:Dk} (h:DkOk d):DkOk d.flush:=by
 have h1:=h.req.allFin d.cache (fun w hw=>(h.w w hw).2)
 exact⟨h1.n,by simp [Dk.flush],h1.r,h1.l,h1.c,fun w hw=>by simp [Dk.flush] at hw⟩
theorem Vb (d:Dk) (a:Int) (b:List UInt8):(d.write a b).1.cells.length=d.cells.length:=by
 unfold Dk.write;split
 ·rfl
 ·split <;> rfl
theorem Rg (d:Dk):d.flush.cells.length=d.cells.length:=(Ib d.cache d.req).1
def Dk.adv:Nat->Dk->Dk
 | 0,d=>d
 | k+1,d=>let e:=Dk.adv k d;if e.left=0 then e else e.req
def Dk.live (k:Nat) (d:Dk):Prop:=d.left<0\/(k:Int)<=d.left
instance (k:Nat) (d:Dk):Decidable (d.live k):=by unfold Dk.live;infer_instance
theorem Fo (k:Nat) (d:Dk):(d.adv k).cells=d.cells/\(d.adv k).cache=d.cache:=by
 induction k with
 | zero=>exact⟨rfl,rfl⟩
 | succ k ih=>show (if _ then _ else _:Dk).cells=_/\(if _ then _ else _:Dk).cache=_;split <;> exact ih
theorem Pb (k:Nat) (d:Dk) (h:d.live k):(d.adv k).left=if d.left<0 then d.left else d.left - k:=by
 induction k with
 | zero=>show d.left=_;simp
 | succ k ih=>
  have h':d.live k:=by unfold Dk.live at *;omega
  have ih:=ih h'
  have h0:¬(d.adv k).left=0:=by rw [ih];unfold Dk.live at h;split <;> omega
  show (if (d.adv k).left=0 then d.adv k else (d.adv k).req).left=_
  rw [if_neg h0]
  show (if (d.adv k).left > 0 then (d.adv k).left - 1 else (d.adv k).left)=_
  rw [ih]
  unfold Dk.live at h
  split <;> split <;> omega
theorem UW (k:Nat) (d:Dk) (h:¬d.live (k+1)) (h':d.live k):(d.adv k).left=0:=by
 rw [Pb k d h']
 unfold Dk.live at *
 split <;> omega
theorem IG (k n:Nat) (d:Dk) (h:(d.adv k).left=0) (hn:k<=n):d.adv n=d.adv k:=by
 induction n with
 | zero=>rw [show k=0 by omega]
 | succ n ih=>
  by_cases e:k=n+1
  ·rw [e]
  ·have:=ih (by omega)
   show (if (d.adv n).left=0 then d.adv n else (d.adv n).req)=_
   rw [this,if_pos h]
theorem UU (k:Nat) (d:Dk) (h:¬(d.adv k).left=0):d.adv (k+1)=(d.adv k).req:=if_neg h
theorem Pa (k:Nat) (d:Dk) (hl : -1<=d.left) (h:d.live k):(d.adv k).left=0↔¬d.live (k+1):=by
 rw [Pb k d h]
 unfold Dk.live at *
 split <;> omega
theorem DkOk.adv {d:Dk} (h:DkOk d) (k:Nat):DkOk (d.adv k):=by
 induction k with
 | zero=>exact h
 | succ k ih=>show DkOk (if _ then _ else _);split;exact ih;exact ih.req
theorem Wg (k:Nat) (d:Dk) (a:Int):(d.adv k).got a=d.got a:=by
 unfold Dk.got
 rw [(Fo k d).1,(Fo k d).2]
def Sw (d:Dk) (a:Int):Gt:=⟨(d.got a).2,(d.got a).1⟩
theorem QZ (d:Dk) (a:Int):(d.got a).2=0\/(d.got a).2=6:=by
 unfold Dk.got
 cases GL d.cache a with
 | some w=>exact .inl rfl
 | none=>simp only;split;exact .inl rfl;exact .inr rfl
def Cf (s:Dk × Nat × Bool) (w:Wr):Dk × Nat × Bool:=
 if s.2.2 then s else
 match s.1.write w.addr w.bytes with
 | (d,e)=>if e=8 then (d,s.2.1,true) else (d,s.2.1+(if e=0 then 1 else 0),false)
def Dk.writes (d:Dk) (l:List Wr):Dk × Nat × Bool:=l.foldl Cf (d,0,false)
def Dk.putAll (d:Dk) (l:List Wr):Dk × Nat × Bool:=
 match d.writes l with
 | (d1,n,dead)=>if dead then (d1,n,true) else if d1.left=0 then (d1,n,true) else (d1.flush,n,false)
theorem E8 (d:Dk) {l:List Wr} {k:Nat} (h:k<l.length):d.writes (l.take (k+1))=Cf (d.writes (l.take k)) (l.getD k ⟨0, []⟩):=by
 unfold Dk.writes
 rw [AQ,List.foldl_append,List.getElem?_eq_getElem h]
 simp [List.getD_eq_getElem?_getD,List.getElem?_eq_getElem h]
theorem G4 {s:Dk × Nat × Bool} (w:Wr) (h:s.2.2=true):Cf s w=s:=by unfold Cf;rw [if_pos h]
theorem Jv (d:Dk) {l:List Wr} {k:Nat} (hk:k<=l.length) (h:(d.writes (l.take k)).2.2=true):d.writes l=d.writes (l.take k):=by
 have:∀ n,k<=n->n<=l.length->d.writes (l.take n)=d.writes (l.take k):=by
  intro n
  induction n with
  | zero=>intro h1 _;rw [show k=0 by omega]
  | succ n ih=>
   intro h1 h2
   by_cases e:k=n+1
   ·rw [e]
   ·rw [E8 d (by omega),ih (by omega) (by omega),G4 _ h]
 have:=this l.length hk (Nat.le_refl _)
 rwa [List.take_length] at this
theorem Pd {P:Dk->Prop} (l:List Wr) (hw:∀ d,P d->∀ w∈l,P (d.write w.addr w.bytes).1) {d:Dk} (h:P d) (k:Nat):P (d.writes (l.take k)).1:=by
 induction k with
 | zero=>simpa [Dk.writes] using h
 | succ k ih=>
  by_cases hk:k<l.length
  ·rw [E8 d hk]
   unfold Cf
   split
   ·exact ih
   ·have:=hw _ ih _ (Ay (d:=(⟨0, []⟩:Wr)) hk)
    simp only
    split <;> exact this
  ·rw [Ar (by omega)];rwa [Ar (by omega)] at ih
def an0:An:=⟨0,0,0,0,0,⟨#[]⟩, []⟩
theorem an0_sub:SubL [.v (.int .i64 0), .v (.int .i64 0), .v (.int .i64 0), .v (.int .i64 0), .v (.int .i64 0), .v (.string ⟨#[]⟩), .v (.slice none 0 0)] (Dx an0):=
 ⟨fun _ _ h=>h,fun _ _ h=>h,fun _ _ h=>h,fun _ _ h=>h,fun _ _ h=>h,fun _ _ h=>h,AX 3 _,trivial⟩
structure Stt where
 a:An
 txns:List Tx
 only:Bool
 cursor:Int
 found:Int
 fixed:Int
 moved:Int
 lost:List Int
 deriving DecidableEq
def EB (s:Stt):List AV:= [.v (.int .i64 s.a.gen), .v (.int .i64 s.a.epoch), .v (.int .i64 s.a.pos), .v (.int .i64 s.a.seq), .v (.int .i64 s.a.last), .v (.string s.a.label),Hq s.a.homes,CW s.txns, .v (.bool s.only), .v (.int .i64 s.cursor), .v (.int .i64 s.found), .v (.int .i64 s.fixed), .v (.int .i64 s.moved),iA s.lost]
def st0:Stt:=⟨an0, [],false,0,0,0,0, []⟩
@[reducible] def Xm (g:Geo) (x:AV) (s:Stt):List AV:= [.v (.int .i64 g.z), .v (.int .i64 g.d), .v (.int .i64 g.sp), .v (.int .i64 g.sl), .v (.int .i64 g.an),x, .v (.int .i64 s.a.gen), .v (.int .i64 s.a.epoch), .v (.int .i64 s.a.pos), .v (.int .i64 s.a.seq), .v (.int .i64 s.a.last), .v (.string s.a.label),Hq s.a.homes,CW s.txns, .v (.bool s.only), .v (.int .i64 s.cursor), .v (.int .i64 s.found), .v (.int .i64 s.fixed), .v (.int .i64 s.moved),iA s.lost]
@[reducible] def MB (g:Geo) (s:Stt) (d:Dk):List AB:= [.box 107 (Xm g (.bp 1 0) s), .box 113 (G3 (.ow 2 d.cells.length) (.ow 3 d.cache.length) d.reqs d.left), .row 84 3 (d.cells.map Bi), .row 131 2 (d.cache.map D3)]
@[reducible] def bwG (g:Geo) (s:Stt) (d:Dk):List AB:= [.box 107 (Xm g (.bp 1 0) s), .box 113 (G3 (.ow 2 d.cells.length) (.ow 4 d.cache.length) d.reqs d.left), .row 84 3 (d.cells.map Bi), .dead, .row 131 2 (d.cache.map D3)]
theorem Iy {m:Nat} (h:Nat.ble 4 m=true):∀ z∈ [1,2,3],z<m:=fun z hz=>by
 have:=Ac h
 simp at hz
 omega
theorem EL {m:Nat} (h:Nat.ble 4 m=true):∀ z∈ [0,1,2,3],z<m:=fun z hz=>by
 have:=Ac h
 simp at hz
 omega
theorem Rk (g:Geo) (s:Stt) (d:Dk) (a:Int) (b:List UInt8) (h:DkOk d) (ha:0<=a/\a<d.cells.length) (hb:b.length<=200) :
  ACalls Tryz.prog false 160 [.bp 0 0, .v (.int .i64 a),bA b] (MB g s d) fun r H=>r = .tp [.v (.bool (decide ((d.write a b).2=0))), .v (.int .i64 (if (d.write a b).2=8 then 8 else 0))]/\H=MB g s (d.write a b).1:=by
 have hr:=S4 CR d a b h.l ha h.m (by omega)
 have he:(d.write a b).2=8\/(d.write a b).2=7\/(d.write a b).2=0:=by
  unfold Dk.write;split
  ·exact .inl rfl
  ·split
   ·exact .inr (.inl rfl)
   ·exact .inr (.inr rfl)
 generalize d.write a b=q at hr he |-
 obtain⟨d',e⟩:=q
 simp only at hr he |-
 refine ACalls.ofR tys_ok Tryz.func160 rfl rfl (Ac rfl) ?_
 conv=>whnf
 refine ACalls.frame [1,2,3] hr rfl rfl rfl rfl (by decide) (Iy rfl) ⟨rfl,rfl,rfl,trivial⟩ ?_
 rintro _ _ ⟨rfl,rfl⟩
 rcases he with rfl | rfl | rfl
 all_goals
  exact⟨_,_,MB g s d',fun _ _ h=>h,WkN.r (s:= [0,1,2,3]) ⟨⟨rfl,trivial⟩,⟨rfl,rfl,rfl,rfl,trivial⟩,rfl,rfl,rfl,rfl,rfl⟩,rfl,rfl⟩
@[reducible] def Yr (g:Geo) (s:Stt) (d:Dk) (l:List AB):List AB:= .box 107 (Xm g (.bp 1 0) s):: .box 113 (G3 (.ow 2 d.cells.length) (.ow 3 d.cache.length) d.reqs d.left):: .row 84 3 (d.cells.map Bi):: .row 131 2 (d.cache.map D3)::l
def AZ (d:Dk) (ats:List Int):List Gt:=ats.map (Sw d)
def C3 (g:Geo):List Int:=(List.range g.an.toNat).map Int.ofNat
theorem RL {d:Dk} {k:Nat} (a:Int) (h:¬(d.adv k).left=0):(d.adv k).read a=(d.adv (k+1),d.got a):=by
 rw [Dk.read,if_neg h,UU k d h,Wg]
theorem RM {d:Dk} {k:Nat} (a:Int) (h:(d.adv k).left=0):(d.adv k).read a=(d.adv k, [],8):=by rw [Dk.read,if_pos h]
theorem Ex (g:Geo):(C3 g).length=g.an.toNat:=by simp [C3]
theorem ME {g:Geo} {k:Nat} (h:k<g.an.toNat):(C3 g).getD k 0=k:=by
 rw [C3,AR (d:=0) (by simpa using h),List.getD_eq_getElem?_getD,List.getElem?_range h];rfl
theorem Dg (d:Dk) (ats:List Int):(AZ d ats).length=ats.length:=by simp [AZ]
def Bx (g:Geo) (copy:Int):List Int:=(List.range g.sl.toNat).map fun i=>Bz g copy (i:Nat)
theorem Ep (g:Geo) (c:Int):(Bx g c).length=g.sl.toNat:=by simp [Bx]
theorem Dt {g:Geo} (hg:A_ g=true):g.an+2*g.sl+2*g.z<=Aq g:=by
 obtain⟨g1,g2,g3,g4,g5⟩:=Ak.1 hg
 have hp:=Ga hg
 have:0<=g.z*Cc g:=CT (by omega) (by omega)
 unfold Aq
 omega
theorem GK {g:Geo} {n:Nat} (hg:A_ g=true) (hn:(n:Int)=Aq g) {c s:Int} (hc:c=0\/c=1) (hs:0<=s/\s<g.sl):0<=Bz g c s/\Bz g c s<n:=by
 obtain⟨g1,g2,g3,g4,g5⟩:=Ak.1 hg
 have:=Dt hg
 unfold Bz
 rcases hc with rfl | rfl <;> omega
def Pc (n:Nat) (w:Wr):Prop:=(0<=w.addr/\w.addr<n)/\w.bytes.length<=200
theorem F6 {d:Dk} (h:DkOk d) {l:List Wr} (hl:∀ w∈l,Pc d.cells.length w) (k:Nat):DkOk (d.writes (l.take k)).1/\(d.writes (l.take k)).1.cells.length=d.cells.length:=
 Pd (P:=fun x=>DkOk x/\x.cells.length=d.cells.length) l (fun x hx w hw=>⟨hx.1.write (by rw [hx.2];exact(hl w hw).1) (hl w hw).2,by rw [Vb,hx.2]⟩) ⟨h,rfl⟩ k
theorem GX (d:Dk) (a:Int) (b:List UInt8):(d.write a b).2=8\/(d.write a b).2=7\/(d.write a b).2=0:=by
 unfold Dk.write;split
 ·exact .inl rfl
 ·split
  ·exact .inr (.inl rfl)
  ·exact .inr (.inr rfl)
theorem Ie {d:Dk} {l:List Wr} {k:Nat} (hk:k<l.length) (h:(d.writes (l.take k)).2.2=false) :
  d.writes (l.take (k+1))=(((d.writes (l.take k)).1.write (l.getD k ⟨0, []⟩).addr (l.getD k ⟨0, []⟩).bytes).1,(d.writes (l.take k)).2.1+(if ((d.writes (l.take k)).1.write (l.getD k ⟨0, []⟩).addr (l.getD k ⟨0, []⟩).bytes).2=0 then 1 else 0),decide (((d.writes (l.take k)).1.write (l.getD k ⟨0, []⟩).addr (l.getD k ⟨0, []⟩).bytes).2=8)):=by
 rw [E8 d hk]
 unfold Cf
 rw [if_neg (by rw [h];decide)]
 simp only
 by_cases h8:((d.writes (l.take k)).1.write (l.getD k ⟨0, []⟩).addr (l.getD k ⟨0, []⟩).bytes).2=8
 ·rw [if_pos h8,h8];simp
 ·rw [if_neg h8,decide_eq_false h8]
theorem Dp {d:Dk} {l:List Wr} (h:(d.writes l).2.2=true):d.putAll l=((d.writes l).1,(d.writes l).2.1,true):=by
 unfold Dk.putAll
 generalize d.writes l=q at h |-
 obtain⟨a,b,c⟩:=q
 simp only at h |-
 rw [if_pos h]
theorem CV {d:Dk} {l:List Wr} (h:(d.writes l).2.2=false):d.putAll l=if (d.writes l).1.left=0 then ((d.writes l).1,(d.writes l).2.1,true) else ((d.writes l).1.flush,(d.writes l).2.1,false):=by
 unfold Dk.putAll
 generalize d.writes l=q at h |-
 obtain⟨a,b,c⟩:=q
 simp only at h |-
 rw [if_neg (by rw [h];decide)]
theorem FC {d:Dk} (h:DkOk d) {l:List Wr} (hl:∀ w∈l,Pc d.cells.length w):DkOk (d.putAll l).1/\(d.putAll l).1.cells.length=d.cells.length:=by
 have hw:=F6 h hl l.length
 rw [List.take_length] at hw
 cases hd:(d.writes l).2.2 with
 | true=>rw [Dp hd];exact hw
 | false=>
  rw [CV hd]
  split
  ·exact hw
  ·exact⟨hw.1.flush,by rw [Rg,hw.2]⟩
def Dk.mend (d:Dk) (l:List Wr):Dk × Bool:=if l=[] then (d,false) else ((d.putAll l).1,(d.putAll l).2.2)
def Av (g:Geo) (a:An):List Wr:=(List.range g.an.toNat).map fun i=>⟨(i:Nat),BQ a (i:Nat)⟩
theorem Cj (g:Geo) (a:An):(Av g a).length=g.an.toNat:=by simp [Av]
theorem GU {g:Geo} {a:An} {k:Nat} (h:k<g.an.toNat):(Av g a).getD k ⟨0, []⟩=⟨(k:Nat),BQ a (k:Nat)⟩:=by
 rw [Av,AR (d:=0) (by simpa using h),List.getD_eq_getElem?_getD,List.getElem?_range h];rfl
theorem OX (g:Geo) (s:Stt) (d:Dk) (a:An) (hg:A_ g=true) (ha:AN g a=true) (h:DkOk d) (hl:∀ w∈Av g a,Pc d.cells.length w) :
  ACalls Tryz.prog false 87 [.bp 0 0, .ag (Dx a)] (MB g s d) fun r H=>r = .tp [.v (.int .i64 (if (d.putAll (Av g a)).2.2 then 0 else ((d.putAll (Av g a)).2.1:Nat))), .v (.int .i64 (if (d.putAll (Av g a)).2.2 then 8 else 0))]/\H=bwG g s (d.putAll (Av g a)).1:=by
 obtain⟨g1,g2,g3,g4,g5⟩:=Ak.1 hg
 have hlen:=Cj g a
 refine ACalls.ofR tys_ok Tryz.func87 rfl rfl (Ac rfl) ?_
 conv=>whnf
 refine aLoop.ruleRR Nat (fun k=>([(0, .bp 0 0),(3, .bp 4 0),(6, .v (.int .i64 (d.writes ((Av g a).take k)).2.1)),(19, .v (.int .i64 g.an)),(20, .v (.int .i64 k))],Yr g s (d.writes ((Av g a).take k)).1 [.box 28 (Dx a)])) (fun k=>k<=(Av g a).length/\(d.writes ((Av g a).take k)).2.2=false/\(d.writes ((Av g a).take k)).2.1<=k) (fun k=>(Av g a).length - k) 0 ⟨Ad _,rfl,Nat.le_refl _⟩
  (WkN.r (s:= [0,1,2,3,4]) ⟨⟨rfl,rfl,rfl,rfl,rfl,trivial⟩,⟨rfl,rfl,rfl,rfl,rfl,trivial⟩,rfl,rfl,rfl,rfl,rfl⟩) ?_
 rintro k ⟨hk,hlv,hnk⟩
 have hd:=F6 h hl k
 conv=>whnf
 refine Aw (fun h6=>?_) (fun h6=>?_) <;> (repeat rw [Ab] at h6) <;> conv=>whnf
 ·have hk':k<(Av g a).length:=by omega
  have hm:=hl _ (Ay (d:=(⟨0, []⟩:Wr)) hk')
  have hx:=Ie hk' hlv
  rw [GU (by omega)] at hx hm
  generalize hX:(d.writes ((Av g a).take k)).1=X at hd hx |-
  generalize hN:(d.writes ((Av g a).take k)).2.1=N at hx hnk |-
  have hga:=KV g k hg (by omega)
  have hnc:=Ua g a k hg ha (by omega)
  have hc:=Rk g s X k (BQ a k) hd.1 (by rw [hd.2];exact hm.1) hm.2
  repeat' (first | (refine aSeq.go ?_;conv=>whnf) | fail)
  refine Fn.cl hga ?_
  conv=>whnf
  apply aDraw.treeK (0) tys_ok mixed (.one 0 (.one 1 (.one 2 (.one 3 (.one 4 (.one 5 (.one 6 (.one 7 (.one 8 (.one 9 (.one 10 (.one 11 .fin)))))))))))) (by kernel_rfl)
  conv=>whnf
  refine Fn.cl hnc ?_
  conv=>whnf
  have hE:=GX X k (BQ a k)
  generalize hQ:X.write k (BQ a k)=Q at hc hx hE
  obtain⟨D,e⟩:=Q
  simp only at hx hE hc
  refine ACalls.frame [0,1,2,3] hc rfl rfl rfl rfl (by decide) (EL rfl) ⟨rfl,rfl,rfl,rfl,trivial⟩ ?_
  rintro _ _ ⟨rfl,rfl⟩
  rcases hE with rfl | hE
  ·rw [if_pos rfl]
   conv=>whnf
   have hdd:(d.writes ((Av g a).take (k+1))).2.2=true:=by rw [hx];rfl
   have hdl:d.writes (Av g a)=d.writes ((Av g a).take (k+1)):=Jv d hk' hdd
   have hp:(d.putAll (Av g a)).1=D/\(d.putAll (Av g a)).2.2=true:=by
    rw [Dp (by rw [hdl];exact hdd),hdl,hx];exact⟨rfl,rfl⟩
   rw [hp.1,hp.2]
   exact⟨_, .tp [.v (.int .i64 0), .v (.int .i64 8)],bwG g s D,fun _ _ h=>h,WkN.rc (ConvF.ofH (ConvH.move 1 3 (by decide) rfl rfl)) (s:= [0,1,2,3,5]) ⟨⟨rfl,trivial⟩,⟨rfl,rfl,rfl,trivial,rfl,trivial⟩,rfl,rfl,rfl,rfl,rfl⟩,rfl,rfl⟩
  ·rw [if_neg (by omega)]
   have h1:(d.writes ((Av g a).take (k+1))).1=D:=by rw [hx]
   have h2:(d.writes ((Av g a).take (k+1))).2.2=false:=by rw [hx];exact decide_eq_false (by omega)
   have h3:(d.writes ((Av g a).take (k+1))).2.1=N+if e=0 then 1 else 0:=by rw [hx]
   rcases hE with rfl | rfl
   all_goals
    conv=>whnf
    repeat' (first | (refine aSeq.go ?_;conv=>whnf) | fail)
    refine⟨k+1,⟨hk',h2,by rw [h3];simp;omega⟩,by omega,?_⟩
    rw [h1,h3]
   ·exact WkN.r (s:= [0,1,2,3,4]) ⟨⟨rfl,rfl,rfl,rfl,A7 (by omega),trivial⟩,⟨rfl,rfl,rfl,rfl,rfl,trivial⟩,rfl,rfl,rfl,rfl,rfl⟩
   ·exact WkN.r (s:= [0,1,2,3,4]) ⟨⟨rfl,rfl,A7 (by omega),rfl,A7 (by omega),trivial⟩,⟨rfl,rfl,rfl,rfl,rfl,trivial⟩,rfl,rfl,rfl,rfl,rfl⟩
 ·have ek:k=(Av g a).length:=by omega
  subst ek
  rw [List.take_length] at hlv hd hnk
  rw [List.take_length]
  have hp:=CV hlv
  generalize (d.writes (Av g a)).1=X at hp hd |-
  generalize (d.writes (Av g a)).2.1=N at hp |-
  have hf:=Lk X hd.1.l hd.1.m (fun w hw=>(hd.1.w w hw).1)
  rw [hp]
  refine ACalls.frame [1,2,3] hf rfl rfl rfl rfl (by decide) (Iy rfl) ⟨rfl,rfl,rfl,trivial⟩ ?_
  rintro _ _ ⟨rfl,rfl⟩
  by_cases hX:X.left=0
  ·simp only [hX,if_true]
   exact⟨_, .tp [.v (.int .i64 0), .v (.int .i64 8)],bwG g s _,fun _ _ h=>h,WkN.r (s:= [0,1,2,3,5]) ⟨⟨rfl,trivial⟩,⟨rfl,rfl,rfl,trivial,rfl,trivial⟩,rfl,rfl,rfl,rfl,rfl⟩,rfl,rfl⟩
  ·simp only [hX,if_false]
   exact⟨_, .tp [.v (.int .i64 (N:Nat)), .v (.int .i64 0)],bwG g s _,fun _ _ h=>h,WkN.r (s:= [0,1,2,3,5]) ⟨⟨rfl,trivial⟩,⟨rfl,rfl,rfl,trivial,rfl,trivial⟩,rfl,rfl,rfl,rfl,rfl⟩,rfl,rfl⟩
theorem Ia {g:Geo} {a:An} {n:Nat} (hg:A_ g=true) (ha:AN g a=true) (hn:(n:Int)=Aq g):∀ w∈Av g a,Pc n w:=by
 obtain⟨g1,g2,g3,g4,g5⟩:=Ak.1 hg
 have hc:=Dt hg
 intro w hw
 simp only [Av,A8,A6] at hw
 obtain⟨i,hi,rfl⟩:=hw
 refine⟨⟨by show (0:Int)<=(i:Nat);omega,by show ((i:Nat):Int)<n;omega⟩,?_⟩
 show (AM (i:Nat) a.gen (IJ a)).length<=200
 rw [CM]
 have:=Hk hg ha
 omega
def DI (g:Geo) (x:Gt) (addr:Int):Option An:=
 if x.err=0/\DJ x.bytes=0/\DU x.bytes=addr then
  match Ed g (CL x.bytes) with
  | some a=>if a.gen=Dd x.bytes then some a else none
  | none=>none
 else none
theorem F0 (e:Value):∀ (c:Ctx) (v:Value),Rd (.tp [.ag [.v (.int .i64 0), .v (.int .i64 0), .v (.int .i64 0), .v (.int .i64 0), .v (.int .i64 0), .v (.string ⟨#[]⟩), .v (.slice none 0 0)], .v e]) c v->Rd (.tp [.ag (Dx an0), .v e]) c v:=
 BI (m:= [.ag (Dx an0), .v e]) ⟨AG an0_sub,ri,trivial⟩
theorem Pp (b:List UInt8):(CL b).length<=b.length:=by simp [CL];omega
theorem ConvH.subBox {H:List AB} (k:Nat) {t:TypeId} {cs cs':List AV} (hk:H[k]? = some (.box t cs)) (h:SubL cs cs'):ConvH H (H.set k (.box t cs')):=fun _ _ c hs=>
 ⟨c,rfl,hs.recell hk rfl fun⟨g,xs,h1,h2,h3,h4⟩=>⟨g,xs,h1,h2,h.rdl h3,h4⟩,Ext.refl c⟩
def Og (g:Geo) (l:List Gt) (st:Option (An × Nat)) (i:Nat):Option (An × Nat):=
 match DI g (l.getD i ⟨0, []⟩) (i:Nat) with
 | none=>st
 | some b=>match st with
  | none=>some (b,i)
  | some (a,j)=>if a.gen<b.gen then some (b,i) else some (a,j)
def Ee (g:Geo) (l:List Gt) (k:Nat):Option (An × Nat):=(List.range k).foldl (Og g l) none
def FD (g:Geo) (l:List Gt):Option (An × Nat):=Ee g l l.length
theorem H9 (g:Geo) (l:List Gt) (k:Nat):Ee g l (k+1)=Og g l (Ee g l k) k:=by rw [Ee,Bb,List.foldl_append];rfl
def Yg (p:Option (An × Nat)):An:=match p with | some (a,_)=>a | none=>an0
def Yp (p:Option (An × Nat)):Nat:=match p with | some (_,i)=>i | none=>0
def SubLL:List (List AV)->List (List AV)->Prop
 | [], []=>True
 | a::r,b::s=>SubL a b/\SubLL r s
 | _,_=>False
theorem SubLL.get:∀ {es fs:List (List AV)} {i:Nat},SubLL es fs->i<es.length->SubL (es.getD i []) (fs.getD i [])
 | [],_,_,_,h=>by simp at h
 | a::r,b::s,0,h,_=>by simpa using h.1
 | a::r,b::s,i+1,h,hi=>by
  have:=SubLL.get (i:=i) h.2 (by simpa using hi)
  simpa using this
 | _::_, [],_,h,_=>h.elim
theorem NW {α:Type} {f:α->List AV} {d:α} {sz n:Nat} {es:List (List AV)} (l:List α) (hn:n=l.length) (he:n=es.length) (h:SubLL es (l.map f)) (c:Ctx) (u:Value) (hr:Rd (.sl sz n fun i=>es.getD i []) c u):Rd (.sl sz l.length fun i=>f (l.getD i d)) c u:=
 Rd.sub hn (fun i hi=>by
  have:=h.get (i:=i) (by omega)
  rwa [AR (d:=d) (by omega)] at this) hr
theorem MF {g:Geo} {l:List Tx} {epoch:Int} (hg:A_ g=true) (h:LogOk g l epoch) {copy:Int} (hc:copy=0\/copy=1) {s:Nat} (hs:(s:Int)<g.sl):De g ((F5 g l epoch copy g.sl.toNat).getD s gz) copy (s:Nat)=some (TO g l epoch (s:Nat)):=by
 have hin:(0:Int)<=(s:Nat)/\((s:Nat):Int)<g.sl:=by omega
 have e:(F5 g l epoch copy g.sl.toNat).getD s gz=⟨0,Df g (TO g l epoch (s:Nat)) copy (s:Nat)⟩:=by
  unfold F5
  rw [AR (d:=0) (by rw [CA];omega)]
  rw [List.getD_eq_getElem?_getD,List.getElem?_range (by omega)]
  rfl
 rw [e]
 refine LK hg (h.ok s hin) ?_
 rw [J9,A0.2 (show 0<=((s:Nat):Int)/\((s:Nat):Int)<=g.sl - 1 by omega)]
 rcases hc with rfl | rfl <;> rfl
theorem IS {g:Geo} {x:Gt} {copy s:Int} (h:¬(0<=s/\s<g.sl)):De g x copy s=none:=by
 refine Ps ?_
 have:Cb s 0 (g.sl - 1)=false:=by
  rw [<-Bw]
  intro e
  have:=A0.1 e
  omega
 rw [J9,this]
 simp
def O0 (a:An) (p q:Int->Option Rc) (slot seq at_ of_ left:Int):Rc × List Int × Int:=
 BR (p slot) (q slot) (Dr (p slot) a seq at_ of_ left) (Dr (q slot) a seq at_ of_ left)
def BT (g:Geo) (a:An) (p q:Int->Option Rc) (pos seq left at_ of_:Int):Rc × Int × List Wr:=
 let s:=CU g pos at_
 let z:=O0 a p q s seq at_ of_ left
 (z.1,z.2.2,z.2.1.map fun c=>⟨Bz g c s,Df g z.1 c s⟩)
def EY (g:Geo) (a:An) (p q:Int->Option Rc) (pos seq left:Int):Int × Int × List Img × List Wr:=
 let z:=BT g a p q pos seq left 0 0
 if z.2.1≠1 then (z.2.1,0, [], []) else
  let t:=Bh (fun k=>BT g a p q pos seq left k z.1.of_) (z.1.of_ - 1).toNat 1 z.1 [] z.2.2
  if t.1≠1 then (t.1,0, [], []) else (1,z.1.of_,t.2.1,t.2.2)
def Ei (g:Geo) (a:An) (p q:Int->Option Rc):Nat->Int->Int->Int->List Tx->List Wr->Option (List Tx × List Wr × Int)
 | 0,_,seq,_,l,w=>some (l,w,seq)
 | f+1,pos,seq,left,l,w=>
  if 0<left/\seq<=4294967295 then
   let t:=EY g a p q pos seq left
   if t.1=3 then none else if t.1≠1 then some (l,w,seq)
   else Ei g a p q f ((pos+t.2.1).tmod g.sl) (seq+1) (left - t.2.1) (l ++ [⟨seq,pos,t.2.1,t.2.2.1⟩]) (w ++ t.2.2.2)
  else some (l,w,seq)
def LI (g:Geo) (a:An) (p q:Int->Option Rc):List Tx × List Wr × Int:=Sz a (Ei g a p q g.sl.toNat a.pos a.seq g.sl [] [])
def Dm (g:Geo) (x:List Gt) (copy:Int):Int->Option Rc:=fun s=>De g (x.getD s.toNat gz) copy s
theorem QF (g:Geo) (a:An) (x y:List Gt):∀ (f:Nat) (pos seq left:Int) (l:List Tx) (w:List Wr),DV g a x y f pos seq left l w=Ei g a (Dm g x 0) (Dm g y 1) f pos seq left l w
 | 0,_,_,_,_,_=>rfl
 | f+1,pos,seq,left,l,w=>by
  unfold DV Ei
  have e:Fp g a x y pos seq left=EY g a (Dm g x 0) (Dm g y 1) pos seq left:=rfl
  rw [e]
  simp only [QF g a x y f]
theorem MN (g:Geo) (a:An) (x y:List Gt):Dl g a x y=LI g a (Dm g x 0) (Dm g y 1):=by
 unfold Dl LI
 rw [QF]
def Gv (g:Geo) (l:List Tx) (epoch:Int) (bad:Int->Bool):Int->Option Rc:=fun s=>if 0<=s/\s<g.sl then (if bad s then none else some (TO g l epoch s)) else none
theorem QG {g:Geo} {l:List Tx} {epoch:Int} (hg:A_ g=true) (h:LogOk g l epoch) {copy:Int} (hc:copy=0\/copy=1):Dm g (F5 g l epoch copy g.sl.toNat) copy=Gv g l epoch fun _=>false:=by
 funext s
 unfold Dm Gv
 by_cases hs:0<=s/\s<g.sl
 ·rw [if_pos hs,if_neg (Bool.false_ne_true)]
  obtain⟨k,rfl⟩:=Int.eq_ofNat_of_zero_le hs.1
  rw [Ab]
  exact MF hg h hc hs.2
 ·rw [if_neg hs]
  exact IS hs
theorem RdL.split {c:Ctx}:∀ {l m:List AV} {xs:List Value},RdL (l ++ m) c xs->∃ a b,xs=a ++ b/\RdL l c a/\RdL m c b
 | [],m,xs,h=>⟨[],xs,rfl,by simp only [RdL],h⟩
 | x::l,m,xs,h=>by
  simp only [Bf,RdL] at h
  obtain⟨y,ys,rfl,h1,h2⟩:=h
  obtain⟨a,b,rfl,h3,h4⟩:=RdL.split h2
  exact⟨y::a,b,rfl,by simp only [RdL];exact⟨y,a,rfl,h1,h3⟩,h4⟩
theorem SubLL.len:∀ {es fs:List (List AV)},SubLL es fs->es.length=fs.length
 | [], [],_=>rfl
 | _::_,_::_,h=>by simp [SubLL.len h.2]
 | [],_::_,h=>h.elim
 | _::_, [],h=>h.elim
theorem SubLL.flat:∀ {es fs:List (List AV)} {c:Ctx} {xs:List Value},SubLL es fs->RdL es.flatten c xs->RdL fs.flatten c xs
 | [], [],_,_,_,h=>h
 | a::r,b::s,c,xs,h,hr=>by
  rw [Az] at hr |-
  obtain⟨x1,x2,rfl,h1,h2⟩:=RdL.split hr
  exact RdL.append (h.1.rdl h1) (SubLL.flat h.2 h2)
 | [],_::_,_,_,h,_=>h.elim
 | _::_, [],_,_,h,_=>h.elim
theorem SubLL.sz:∀ {es fs:List (List AV)} {sz:Nat},SubLL es fs->(∀ e∈es,e.length=sz)->∀ e∈fs,e.length=sz
 | [], [],_,_,_=>by simp
 | a::r,b::s,sz,h,hs=>by
  intro e he
  rcases A9.1 he with rfl | he
  ·rw [<-h.1.len];exact hs a (by simp)
  ·exact SubLL.sz h.2 (fun e he=>hs e (AE _ he)) e he
 | [],_::_,_,h,_=>h.elim
 | _::_, [],_,h,_=>h.elim
def ABSub:AB->AB->Prop
 | .row t sz es, .row t' sz' es'=>t=t'/\sz=sz'/\SubLL es es'
 | x,y=>x=y
def HSub:List AB->List AB->Prop
 | [], []=>True
 | x::r,y::s=>ABSub x y/\HSub r s
 | _,_=>False
theorem HSub.len:∀ {H H':List AB},HSub H H'->H.length=H'.length
 | [], [],_=>rfl
 | _::_,_::_,h=>by simp [HSub.len h.2]
 | [],_::_,h=>h.elim
 | _::_, [],h=>h.elim
theorem HSub.get:∀ {H H':List AB} {k:Nat} {y:AB},HSub H H'->H'[k]? = some y->∃ x,H[k]? = some x/\ABSub x y
 | [], [],k,y,_,h=>by simp at h
 | x::r,y::s,0,z,h,hz=>by
  simp at hz
  subst hz
  exact⟨x,by simp,h.1⟩
 | x::r,y::s,k+1,z,h,hz=>by
  obtain⟨w,h1,h2⟩:=HSub.get (k:=k) h.2 (by simpa using hz)
  exact⟨w,by simpa using h1,h2⟩
 | [],_::_,_,_,h,_=>h.elim
 | _::_, [],_,_,_,hz=>by simp at hz
theorem ABSub.live:∀ {x y:AB},ABSub x y->x.live=y.live:=by
 intro x y h
 cases x <;> cases y <;> simp only [ABSub] at h <;> first | rfl | cases h
theorem ABSub.blk {c:Ctx} {k:Nat}:∀ {x y:AB},ABSub x y->BlkOk c k x->BlkOk c k y
 | .row t sz es, .row t' sz' es',h,hb=>by
  obtain⟨rfl,rfl,h⟩:=h
  obtain⟨h1,h2,h3,xs,h4,h5,h6⟩:=hb
  refine⟨h1.trans h.len,h2,h.sz h3,xs,?_,h.flat h5,h6⟩
  rw [<-h.len]
  exact h4
 | .row _ _ _, .box _ _,h,_=>by cases h
 | .row _ _ _, .iter _ _,h,_=>by cases h
 | .row _ _ _, .dead,h,_=>by cases h
 | .row _ _ _, .rowo _ _ _ _,h,_=>by cases h
 | .rowo t sz es m,y,h,hb=>by
  have h:AB.rowo t sz es m=y:=h
  subst h
  exact hb
 | .box t cs,y,h,hb=>by
  have h:AB.box t cs=y:=h
  subst h
  exact hb
 | .iter a b,y,h,hb=>by
  have h:AB.iter a b=y:=h
  subst h
  exact hb
 | .dead,y,h,hb=>by
  have h:AB.dead=y:=h
  subst h
  exact hb
theorem HS.hsub {w0:Fl} {M0:Ms} {c:Ctx} {H H':List AB} (hs:HS w0 M0 c H) (h:HSub H H'):HS w0 M0 c H':=by
 refine⟨hs.low,hs.base,hs.dom.trans h.len,hs.foreign,hs.lt,fun k y hy=>?_,fun k y g hy hl ho=>?_,fun j k y z g hj hk hy hz ho ho'=>?_⟩
 ·obtain⟨x,h1,h2⟩:=h.get hy
  exact h2.blk (hs.blk k x h1)
 ·obtain⟨x,h1,h2⟩:=h.get hy
  exact hs.own k x g h1 (h2.live.trans hl) ho
 ·obtain⟨x1,h1,h2⟩:=h.get hj
  obtain⟨x2,h3,h4⟩:=h.get hk
  exact hs.dis j k x1 x2 g h1 h3 (h2.live.trans hy) (h4.live.trans hz) ho ho'
theorem ACalls.hsub {P:Program} {q:Bool} {f:FuncId} {args:List AV} {H:List AB} {k:AV->List AB->Prop} (H':List AB) (hs:HSub H H') (h:ACalls P q f args H' k):ACalls P q f args H k:=
 ⟨h.go,fun w0 M0 c us hs0 hr=>h.calls w0 M0 c us (hs0.hsub hs) hr⟩
theorem SubLL.refl:∀ l,SubLL l l
 | []=>trivial
 | _::l=>⟨SubL.refl _,SubLL.refl l⟩
theorem SubLL.set {a b:List AV} (h:SubL a b):∀ {l m:List (List AV)} (k:Nat),SubLL l m->SubLL (l.set k a) (m.set k b)
 | [], [],_,h=>h
 | _::_,_::_,0,h2=>⟨h,h2.2⟩
 | _::_,_::_,k+1,h2=>⟨h2.1,SubLL.set h k h2.2⟩
 | [],_::_,_,h=>h.elim
 | _::_, [],_,h=>h.elim
def WU (g:Geo) (fill:UInt8) (i k:Nat):Img:=
 if (i+k) % 4=3 then ⟨((i+k:Nat):Int).tmod g.z,255,Cp (DQ g)⟩ else ⟨((i+k:Nat):Int).tmod g.z,((i+2*k:Nat):Int).tmod (g.d+1) - 1, [fill,UInt8.ofNat i,UInt8.ofNat k,1,2,3,4,5]⟩
def X5 (g:Geo) (a:An) (fill:UInt8) (i:Nat) (pos:Int) (n:Nat):Tx:=⟨a.seq+i,pos,n+1,(List.range n).map fun k=>WU g fill i k⟩
theorem SubLL.app {e f:List AV} (h:SubL e f):∀ {a b:List (List AV)},SubLL a b->SubLL (a ++ [e]) (b ++ [f])
 | [], [],_=>⟨h,trivial⟩
 | _::_,_::_,h2=>⟨h2.1,SubLL.app h h2.2⟩
 | [],_::_,h=>h.elim
 | _::_, [],h=>h.elim
end Go.Proofs.YtkolckdakddggaaGreatDoor.A
end
section
namespace Go.Proofs.YtkolckdakddggaaGreatDoor

def Ws (b:List UInt8) (k:Nat):List UInt8:=b.modify (k / 8) fun x=>x ^^^ UInt8.ofNat (2 ^ (k % 8))
theorem Nt (b:List UInt8) (k:Nat):(Ws b k).length=b.length:=List.length_modify _ _ _
def OF (p:Nat->Bool) (a:Nat) (b:List UInt8):Nat->List UInt8
 | 0=>b
 | i+1=>if p i&&decide (a+i<8*b.length) then Ws (OF p a b i) (a+i) else OF p a b i
theorem Ns (p:Nat->Bool) (a:Nat) (b:List UInt8) (i:Nat):(OF p a b i).length=b.length:=by
 induction i with
 | zero=>rfl
 | succ i ih=>unfold OF;split;rw [Nt,ih];exact ih
def fX (bs:Int):Nat:=if (bs % 4294967296).toNat % 2=0 then (bs % 4294967296).toNat+1 else (bs % 4294967296).toNat
def Wq (b:List UInt8) (bit bs:Int):List UInt8:=OF (fun i=>decide (fX bs / 2 ^ i % 2=1)) (bit % (8*(b.length:Int))).toNat b 32
theorem Nr (b:List UInt8) (bit bs:Int):(Wq b bit bs).length=b.length:=Ns _ _ _ _
end Go.Proofs.YtkolckdakddggaaGreatDoor
end
section
namespace Go.Proofs.YtkolckdakddggaaGreatDoor.A
open Go.RowKit
theorem W2 (x:UInt8) (z:Nat) (hz:z<256):IntKind.u8.wrap (BitVec.ofInt IntKind.u8.bits (x.toNat:Int) ^^^ BitVec.ofInt IntKind.u8.bits (z:Int)).toNat=((x ^^^ UInt8.ofNat z).toNat:Int):=by
 show IntKind.u8.wrap (BitVec.ofInt 8 (x.toNat:Int) ^^^ BitVec.ofInt 8 (z:Int)).toNat=((x ^^^ UInt8.ofNat z).toNat:Int)
 have hx:=x.toNat_lt
 have h1:(BitVec.ofInt 8 (x.toNat:Int))=BitVec.ofNat 8 x.toNat:=BitVec.ofInt_natCast _ _
 have h2:(BitVec.ofInt 8 (z:Int))=BitVec.ofNat 8 z:=BitVec.ofInt_natCast _ _
 have h3:x.toNat ^^^ z<256:=Nat.xor_lt_two_pow (n:=8) hx hz
 rw [h1,h2,BitVec.toNat_xor,BitVec.toNat_ofNat,BitVec.toNat_ofNat,CS hx,CS hz,UInt8.toNat_xor,Be hz,IntKind.wrap_u8]
 omega

structure TxIn (g:Geo) (a:An) (fill:UInt8) (i0:Nat) (l:List Tx):Prop where
 at_:∀ j,j<l.length->∃ pos n,l.getD j tz=X5 g a fill (i0+j) pos n/\1<=n/\n<=5/\0<=pos/\pos<g.sl
theorem MJ {x n:Int} (h0:0<=x) (h1:x<n):x.tmod n=x:=Int.tmod_eq_of_lt h0 h1
theorem Q8 {x n:Int} (h0:n<=x) (h1:x<2*n) (hn:0<n):x.tmod n=x - n:=by
 rw [AI (by omega),<-Int.sub_emod_right x n]
 exact Int.emod_eq_of_lt (by omega) (by omega)

def Gm (g:Geo):List Tx->Int->Int->Prop
 | [],_,_=>True
 | t::r,seq,pos=>(t.seq=seq/\t.pos=pos/\t.n=t.images.length+1/\2<=t.n)/\Gm g r (seq+1) ((pos+t.n).tmod g.sl)
def usedM:List Tx->Int
 | []=>0
 | t::r=>t.n+usedM r
def RW (g:Geo):List Tx->Int->Int
 | [],pos=>pos
 | t::r,pos=>RW g r ((pos+t.n).tmod g.sl)
theorem M8 (g:Geo):∀ (l:List Tx) (seq pos:Int) (t:Tx),Gm g l seq pos->(t.seq=seq+l.length/\t.pos=RW g l pos/\t.n=t.images.length+1/\2<=t.n)->Gm g (l ++ [t]) seq pos
 | [],seq,pos,t,_,h=>⟨⟨by have:=h.1;simpa using this,h.2.1,h.2.2.1,h.2.2.2⟩,trivial⟩
 | x::r,seq,pos,t,h,ht=>by
  refine⟨h.1,M8 g r (seq+1) _ t h.2 ⟨?_,ht.2⟩⟩
  rw [ht.1]
  simp only [Ag]
  omega
theorem used_app:∀ (l:List Tx) (t:Tx),usedM (l ++ [t])=usedM l+t.n
 | [],t=>by simp [usedM]
 | x::r,t=>by simp only [Bf,usedM,used_app r t];omega
theorem QO (g:Geo):∀ (l:List Tx) (pos:Int) (t:Tx),RW g (l ++ [t]) pos=((RW g l pos)+t.n).tmod g.sl
 | [],pos,t=>rfl
 | x::r,pos,t=>by simp only [Bf,RW];exact QO g r _ t
theorem JD {g:Geo} {a:An} {seq left n:Int} {look:Int->Rc × Int × List Wr} (hlook:∀ i,1<=i->i<n->(look i).2.1=1->Eb g (look i).1=true/\C2 (look i).1 a seq i n left=true):∀ (f:Nat) (k:Int) (r:Rc) (im:List Img) (w:List Wr),1<=k->k+f=n->Eb g r=true->r.at_=k - 1->r.of_=n->r.kind≠0->(im.length:Int)=k - 1->(Bh look f k r im w).1=1->((Bh look f k r im w).2.1.length:Int)+1=n
 | 0,k,r,im,w,hk,hn,hr,ha,ho,h0,hi,_=>by
  have hk1:r.kind≠1:=by
   intro e
   unfold Eb Fy at hr
   simp only [Bool.and_eq_true] at hr
   have h2:=hr.2
   rw [if_neg h0,if_pos e] at h2
   simp only [Bool.and_eq_true,A0] at h2
   omega
  unfold Bh
  simp only [if_neg hk1]
  omega
 | f+1,k,r,im,w,hk,hn,hr,ha,ho,h0,hi,hG=>by
  have hk1:r.kind=1:=by
   unfold Eb Fy at hr
   simp only [Bool.and_eq_true] at hr
   have h2:=hr.2
   rw [if_neg h0] at h2
   split at h2
   ·assumption
   ·split at h2
    ·simp only [Bool.and_eq_true,beq_iff_eq] at h2
     omega
    ·cases h2
  unfold Bh at hG |-
  simp only [if_pos hk1] at hG |-
  by_cases hq:(look k).2.1≠1
  ·rw [if_pos hq] at hG
   exact absurd hG hq
  ·rw [if_neg hq] at hG |-
   have hl:=hlook k hk (by omega) (by omega)
   have h1:=IY hl.1 hl.2
   have h2:=(of_decide_eq_true hl.2).1
   refine JD hlook f (k+1) (look k).1 _ _ (by omega) (by omega) hl.1 (by omega) ?_ h2 ?_ hG
   ·exact h1.2.2.2.2.2 (by omega)
   ·rw [List.length_append]
    simp only [Ag,AJ]
    omega
theorem Rs {g:Geo} {a:An} {x y:List Gt} {pos seq left:Int} (hg:A_ g=true) (hp:0<=pos/\pos<g.sl) (h:(Fp g a x y pos seq left).1=1):((Fp g a x y pos seq left).2.2.1.length:Int)+1=(Fp g a x y pos seq left).2.1:=by
 have r0:=FZ (a:=a) (x:=x) (y:=y) (seq:=seq) (left:=left) (of_:=0) (at_:=0) hg hp (by omega)
 unfold Fp at h |-
 simp only at h |-
 rcases r0 with ⟨e1,⟨e2, -,e3⟩,e4⟩ | ⟨e1, -, -⟩
 ·rw [if_neg (by omega)] at h |-
  have hN:=IY e2 e3
  have h0:=(of_decide_eq_true e3).1
  by_cases hq:(Bh (fun k=>CN g a x y pos seq left k (CN g a x y pos seq left 0 0).1.of_) ((CN g a x y pos seq left 0 0).1.of_ - 1).toNat 1 (CN g a x y pos seq left 0 0).1 [] (CN g a x y pos seq left 0 0).2.2).1≠1
  ·rw [if_pos hq] at h
   exact absurd h hq
  ·rw [if_neg hq]
   refine JD (g:=g) (a:=a) (seq:=seq) (left:=left) (n:=(CN g a x y pos seq left 0 0).1.of_) (look:=fun k=>CN g a x y pos seq left k (CN g a x y pos seq left 0 0).1.of_) (fun i h1 h2 h3=>?_) _ 1 _ [] _ (by omega) (by omega) e2 (by omega) rfl h0 (by simp) (by omega)
   rcases FZ (a:=a) (x:=x) (y:=y) (seq:=seq) (left:=left) (of_:=(CN g a x y pos seq left 0 0).1.of_) (at_:=i) hg hp (by omega) with ⟨_,⟨q1,_,q2⟩,_⟩ | ⟨q,_⟩
   ·exact⟨q1,q2⟩
   ·omega
 ·rw [if_pos (by omega)] at h
  simp only at h
  omega
theorem J2 {g:Geo} {a:An} {x y:List Gt} (hg:A_ g=true):∀ (f:Nat) (pos seq left:Int) (l:List Tx) (w:List Wr) {l':List Tx} {w':List Wr} {seq':Int},Gm g l a.seq a.pos->pos=RW g l a.pos->seq=a.seq+l.length->usedM l+left=g.sl->0<=left->(0<=pos/\pos<g.sl)->DV g a x y f pos seq left l w=some (l',w',seq')->
  Gm g l' a.seq a.pos/\seq'=a.seq+l'.length/\usedM l'<=g.sl
 | 0,pos,seq,left,l,w,l',w',seq',h1,h2,h3,h4,h5,h6,h=>by
  unfold DV at h
  injection h with h
  injection h with e1 h
  injection h with e2 e3
  subst e1
  subst e3
  exact⟨h1,h3,by omega⟩
 | f+1,pos,seq,left,l,w,l',w',seq',h1,h2,h3,h4,h5,h6,h=>by
  unfold DV at h
  have fin:some (l,w,seq)=some (l',w',seq')->Gm g l' a.seq a.pos/\seq'=a.seq+l'.length/\usedM l'<=g.sl:=fun h=>by
   injection h with h
   injection h with e1 h
   injection h with e2 e3
   subst e1
   subst e3
   exact⟨h1,h3,by omega⟩
  by_cases hc:0<left/\seq<=4294967295
  ·rw [if_pos hc] at h
   simp only at h
   have tf:=H4 (a:=a) (x:=x) (y:=y) (seq:=seq) (left:=left) hg h6
   have ti:=fun e=>Rs (a:=a) (x:=x) (y:=y) (seq:=seq) (left:=left) hg h6 e
   generalize Fp g a x y pos seq left=q at tf ti h
   obtain⟨how,n,im,ws⟩:=q
   simp only at tf ti h
   rcases tf with ⟨rfl,t1,t2⟩ | tf
   ·rw [if_neg (by decide),if_neg (by decide)] at h
    have hi:=ti rfl
    obtain⟨g1,g2,g3,g4,g5⟩:=Ak.1 hg
    have hm:=Int.tmod_lt_of_pos (pos+n) (show 0<g.sl by omega)
    have hm0:=Bo g.sl (show 0<=pos+n by omega)
    refine J2 hg f _ _ _ _ _ (M8 g l a.seq a.pos ⟨seq,pos,n,im⟩ h1 ⟨h3,h2,by simp only;omega,t1.1⟩) ?_ ?_ ?_ (by omega) ⟨hm0,hm⟩ h
    ·rw [QO,<-h2]
    ·rw [List.length_append]
     simp only [Ag,AJ]
     omega
    ·rw [used_app]
     simp only
     omega
   ·by_cases h3':how=3
    ·rw [if_pos h3'] at h
     cases h
    ·rw [if_neg h3',if_pos (by omega)] at h
     exact fin h
  ·rw [if_neg hc] at h
   exact fin h






section
variable {g:Geo} {a:An} {fill:UInt8} {sizes:List Int}
end
section
variable {g:Geo} {a:An} {fill:UInt8} {sizes:List Int}
end
theorem Kg {p u v n:Int} (hp:0<=p/\p<n) (hu:0<=u/\u<n) (hv:0<=v/\v<n) (h:(p+u).tmod n=(p+v).tmod n):u=v:=by
 have h1:(p+u).tmod n=if p+u<n then p+u else p+u - n:=by
  split
  ·exact MJ (by omega) (by omega)
  ·exact Q8 (by omega) (by omega) (by omega)
 have h2:(p+v).tmod n=if p+v<n then p+v else p+v - n:=by
  split
  ·exact MJ (by omega) (by omega)
  ·exact Q8 (by omega) (by omega) (by omega)
 rw [h1,h2] at h
 split at h <;> split at h <;> omega
section
variable {g:Geo} {a:An} {fill:UInt8} {sizes:List Int}
end
abbrev PQ:=(Int->Option Rc) × (Int->Option Rc)
def SO (p:Int->Option Rc) (s:Int) (v:Option Rc):Int->Option Rc:=fun t=>if t=s then v else p t
def Hx (g:Geo) (x:Wr) (z:PQ):PQ:=if x.addr - g.an<g.sl then (SO z.1 (x.addr - g.an) (De g ⟨0,x.bytes⟩ 0 (x.addr - g.an)),z.2) else (z.1,SO z.2 (x.addr - g.an - g.sl) (De g ⟨0,x.bytes⟩ 1 (x.addr - g.an - g.sl)))
def DK (g:Geo):List Wr->PQ->PQ
 | [],z=>z
 | x::r,z=>DK g r (Hx g x z)
def ST (g:Geo) (x:Wr):Int:=if x.addr - g.an<g.sl then x.addr - g.an else x.addr - g.an - g.sl
theorem FH (g:Geo):∀ (l m:List Wr) (z:PQ),DK g (l ++ m) z=DK g m (DK g l z)
 | [],_,_=>rfl
 | x::r,m,z=>FH g r m (Hx g x z)
def AtS (z z':PQ) (s:Int):Prop:=z.1 s=z'.1 s/\z.2 s=z'.2 s
theorem Ow {g:Geo} {x:Wr} {z z':PQ} {s:Int} (h:AtS z z' s):AtS (Hx g x z) (Hx g x z') s:=by
 unfold Hx SO
 split
 ·refine⟨?_,h.2⟩
  dsimp only
  split
  ·rfl
  ·exact h.1
 ·refine⟨h.1,?_⟩
  dsimp only
  split
  ·rfl
  ·exact h.2
theorem GJ {g:Geo}:∀ (l:List Wr) {z z':PQ} {s:Int},AtS z z' s->AtS (DK g l z) (DK g l z') s
 | [],_,_,_,h=>h
 | _::r,_,_,_,h=>GJ r (Ow h)
theorem Sd {g:Geo} {x:Wr} {z:PQ} {s:Int} (h:ST g x≠s):AtS (Hx g x z) z s:=by
 unfold ST at h
 unfold Hx SO
 split
 ·rename_i hc
  rw [if_pos hc] at h
  exact⟨if_neg (Ne.symm h),rfl⟩
 ·rename_i hc
  rw [if_neg hc] at h
  exact⟨rfl,if_neg (Ne.symm h)⟩
theorem AtS.trans {a b c:PQ} {s:Int} (h:AtS a b s) (k:AtS b c s):AtS a c s:=⟨h.1.trans k.1,h.2.trans k.2⟩
theorem AtS.symm {a b:PQ} {s:Int} (h:AtS a b s):AtS b a s:=⟨h.1.symm,h.2.symm⟩
theorem FG {g:Geo}:∀ (l:List Wr) {z:PQ} {s:Int},(∀ x∈l,ST g x≠s)->AtS (DK g l z) z s
 | [],_,_,_=>⟨rfl,rfl⟩
 | x::r,z,s,h=>(FG r fun y hy=>h y (AE _ hy)).trans (Sd (h x (by simp)))
theorem KC {g:Geo} {c s:Int} (hc:c=0\/c=1) (hs:0<=s/\s<g.sl):J9 g c s=true:=by
 rw [J9,A0.2 (show 0<=s/\s<=g.sl - 1 by omega)]
 rcases hc with rfl | rfl <;> rfl
theorem Ge {g:Geo} {c s:Int} {r:Rc} {z:PQ} (hg:A_ g=true) (hc:c=0\/c=1) (hs:0<=s/\s<g.sl) (hr:Eb g r=true):Hx g ⟨Bz g c s,Df g r c s⟩ z=if c=0 then (SO z.1 s (some r),z.2) else (z.1,SO z.2 s (some r)):=by
 have h:=LK hg hr (KC hc hs)
 unfold Hx Bz
 rcases hc with rfl | rfl
 ·have e:g.an+0*g.sl+s - g.an=s:=by omega
  dsimp only
  rw [e,if_pos hs.2,if_pos rfl,h]
 ·have e:g.an+1*g.sl+s - g.an=s+g.sl:=by omega
  dsimp only
  rw [e,if_neg (by omega),if_neg (by decide),show s+g.sl - g.sl=s by omega,h]
theorem SS {g:Geo} {c s:Int} {b:List UInt8} (hc:c=0\/c=1) (hs:0<=s/\s<g.sl):ST g ⟨Bz g c s,b⟩=s:=by
 unfold ST Bz
 rcases hc with rfl | rfl
 ·dsimp only
  rw [if_pos (by omega)];omega
 ·dsimp only
  rw [if_neg (by omega)];omega
theorem TM {g:Geo} {a:An} {p q:Int->Option Rc} {z':PQ} {pos seq left at_ of_:Int} (hg:A_ g=true) (hok:∀ s r,p s=some r\/q s=some r->Eb g r=true) (hs:0<=CU g pos at_/\CU g pos at_<g.sl) (h:(BT g a p q pos seq left at_ of_).2.1=1) (hz:AtS z' (DK g (BT g a p q pos seq left at_ of_).2.2 (p,q)) (CU g pos at_)):BT g a z'.1 z'.2 pos seq left at_ of_=((BT g a p q pos seq left at_ of_).1,1, []):=by
 unfold BT O0 at h hz |-
 dsimp only at h hz |-
 generalize CU g pos at_=s at h hz hs |-
 cases hp:p s with
 | none=>
  cases hq:q s with
  | none=>rw [hp,hq] at h;simp [Dr,BR] at h
  | some r=>
   rw [hp,hq] at h hz
   have ho:C2 r a seq at_ of_ left=true:=by
    cases hb:C2 r a seq at_ of_ left with
    | true=>rfl
    | false=>simp [Dr,hb,BR] at h
   simp [Dr,ho,BR,DK] at hz
   rw [Ge hg (.inl rfl) hs (hok s r (.inr hq)),if_pos rfl] at hz
   obtain⟨h1,h2⟩:=hz
   dsimp only [SO] at h1 h2
   rw [if_pos rfl] at h1
   rw [h1,h2,hq]
   simp [Dr,ho,BR]
 | some r1=>
  cases hq:q s with
  | none=>
   rw [hp,hq] at h hz
   have ho:C2 r1 a seq at_ of_ left=true:=by
    cases hb:C2 r1 a seq at_ of_ left with
    | true=>rfl
    | false=>simp [Dr,hb,BR] at h
   simp [Dr,ho,BR,DK] at hz
   rw [Ge hg (.inr rfl) hs (hok s r1 (.inl hp)),if_neg (by decide)] at hz
   obtain⟨h1,h2⟩:=hz
   dsimp only [SO] at h1 h2
   rw [if_pos rfl] at h2
   rw [h1,h2,hp]
   simp [Dr,ho,BR]
  | some r2=>
   rw [hp,hq] at h hz
   cases ho1:C2 r1 a seq at_ of_ left with
   | true=>
    cases ho2:C2 r2 a seq at_ of_ left with
    | true=>
     simp [Dr,ho1,ho2,BR,DK] at hz
     obtain⟨h1,h2⟩:=hz
     dsimp only at h1 h2
     rw [h1,h2,hp,hq]
     simp [Dr,ho1,ho2,BR]
    | false=>
     simp [Dr,ho1,ho2,BR,DK] at hz
     rw [Ge hg (.inr rfl) hs (hok s r1 (.inl hp)),if_neg (by decide)] at hz
     obtain⟨h1,h2⟩:=hz
     dsimp only [SO] at h1 h2
     rw [if_pos rfl] at h2
     rw [h1,h2,hp]
     simp [Dr,ho1,ho2,BR]
   | false=>
    cases ho2:C2 r2 a seq at_ of_ left with
    | true=>
     simp [Dr,ho1,ho2,BR,DK] at hz
     rw [Ge hg (.inl rfl) hs (hok s r2 (.inr hq)),if_pos rfl] at hz
     obtain⟨h1,h2⟩:=hz
     dsimp only [SO] at h1 h2
     rw [if_pos rfl] at h1
     rw [h1,h2,hq]
     simp [Dr,ho1,ho2,BR]
    | false=>simp [Dr,ho1,ho2,BR] at h
theorem H8 {g:Geo} {a:An} {p q:Int->Option Rc} {pos seq left at_ of_:Int} (hok:∀ s r,p s=some r\/q s=some r->Eb g r=true) (h:(BT g a p q pos seq left at_ of_).2.1=1):Eb g (BT g a p q pos seq left at_ of_).1=true/\C2 (BT g a p q pos seq left at_ of_).1 a seq at_ of_ left=true:=by
 unfold BT O0 at h |-
 dsimp only at h |-
 generalize CU g pos at_=s at h |-
 cases hp:p s with
 | none=>
  cases hq:q s with
  | none=>rw [hp,hq] at h;simp [Dr,BR] at h
  | some r=>
   rw [hp,hq] at h
   cases hb:C2 r a seq at_ of_ left with
   | true=>simp [Dr,hb,BR,hok s r (.inr hq)]
   | false=>simp [Dr,hb,BR] at h
 | some r1=>
  cases hq:q s with
  | none=>
   rw [hp,hq] at h
   cases hb:C2 r1 a seq at_ of_ left with
   | true=>simp [Dr,hb,BR,hok s r1 (.inl hp)]
   | false=>simp [Dr,hb,BR] at h
  | some r2=>
   rw [hp,hq] at h
   cases ho1:C2 r1 a seq at_ of_ left with
   | true=>cases ho2:C2 r2 a seq at_ of_ left <;> simp [Dr,ho1,ho2,BR,hok s r1 (.inl hp)]
   | false=>
    cases ho2:C2 r2 a seq at_ of_ left with
    | true=>simp [Dr,ho1,ho2,BR,hok s r2 (.inr hq)]
    | false=>simp [Dr,ho1,ho2,BR] at h
theorem Uf (x y:Option Rc) (b1 b2:Bool):∀ c∈(BR x y b1 b2).2.1,c=0\/c=1:=by
 unfold BR
 cases b1 <;> cases b2
 ·by_cases h:(x.isSome || y.isSome)=true <;> simp [h]
 ·simp
 ·simp
 ·simp
theorem Vz {g:Geo} {a:An} {p q:Int->Option Rc} {pos seq left at_ of_:Int} (hs:0<=CU g pos at_/\CU g pos at_<g.sl):∀ x∈(BT g a p q pos seq left at_ of_).2.2,ST g x=CU g pos at_:=by
 intro x hx
 unfold BT at hx
 obtain⟨c,hc,rfl⟩:=A8.1 hx
 exact SS (Uf _ _ _ _ c hc) hs
theorem PO (x y:Option Rc) (b1 b2:Bool) (h:(BR x y b1 b2).2.2≠1):(BR x y b1 b2).2.1=[]:=by
 unfold BR at h |-
 cases b1 <;> cases b2
 ·by_cases h:(x.isSome || y.isSome)=true <;> simp [h]
 ·simp at h
 ·simp at h
 ·simp at h
theorem Dc {g:Geo} {r:Rc} (h:Eb g r=true) (copy slot:Int):(Df g r copy slot).length<=200:=by
 have:=Ej h
 rw [Df,CM]
 omega
theorem P7 {g:Geo} {a:An} {p q:Int->Option Rc} {pos seq left at_ of_:Int} (hok:∀ s r,p s=some r\/q s=some r->Eb g r=true):∀ x∈(BT g a p q pos seq left at_ of_).2.2,x.bytes.length<=200:=by
 intro x hx
 by_cases h:(BT g a p q pos seq left at_ of_).2.1=1
 ·have hr:=(H8 hok h).1
  unfold BT at hx hr
  obtain⟨c,hc,rfl⟩:=A8.1 hx
  exact Dc hr _ _
 ·unfold BT O0 at hx h
  dsimp only at hx h
  rw [PO _ _ _ _ h] at hx
  simp at hx
theorem LF {g:Geo} {p0 U k:Int} (hg:A_ g=true) (hp:0<=p0/\p0<g.sl) (hU:0<=U) (hk:0<=k/\k<=1000):CU g ((p0+U).tmod g.sl) k=(p0+(U+k)).tmod g.sl:=by
 obtain⟨h1,h2,h3,h4,h5⟩:=Ak.1 hg
 unfold CU
 have q1:=Bo g.sl (show 0<=p0+U by omega)
 have q2:=Int.tmod_lt_of_pos (p0+U) (show 0<g.sl by omega)
 rw [show IntKind.i64.wrap ((p0+U).tmod g.sl+k)=(p0+U).tmod g.sl+k by rw [IntKind.wrap_i64];omega]
 rw [AI (show 0<=p0+U by omega)] at q1 |-
 rw [AI (by omega),AI (by omega),Int.emod_add_emod,Int.add_assoc]
theorem JC {look:Int->Rc × Int × List Wr} {f:Nat} {k:Int} {r:Rc} {im:List Img} {w:List Wr} (h:(look k).2.1=1):Bh look (f+1) k r im w=Bh look f (k+1) (look k).1 (if r.kind=1 then im ++ [r.img] else im) (w ++ (look k).2.2):=by
 conv=>lhs;unfold Bh
 dsimp only
 rw [if_neg (not_not_intro h)]
theorem OB {look:Int->Rc × Int × List Wr} {f:Nat} {k:Int} {r:Rc} {im:List Img} {w:List Wr} (h:(look k).2.1≠1):Bh look (f+1) k r im w=((look k).2.1, [], []):=by
 conv=>lhs;unfold Bh
 dsimp only
 rw [if_pos h]
theorem GY {g:Geo} {a:An} {p q:Int->Option Rc} {pos seq left:Int} (h:(BT g a p q pos seq left 0 0).2.1=1):EY g a p q pos seq left=(let t:=Bh (fun k=>BT g a p q pos seq left k (BT g a p q pos seq left 0 0).1.of_) ((BT g a p q pos seq left 0 0).1.of_ - 1).toNat 1 (BT g a p q pos seq left 0 0).1 [] (BT g a p q pos seq left 0 0).2.2
  if t.1≠1 then (t.1,0, [], []) else (1,(BT g a p q pos seq left 0 0).1.of_,t.2.1,t.2.2)):=by
 conv=>lhs;unfold EY
 dsimp only
 rw [if_neg (not_not_intro h)]
theorem IL {g:Geo} {a:An} {p q:Int->Option Rc} {pos seq left:Int} (h:(BT g a p q pos seq left 0 0).2.1≠1):EY g a p q pos seq left=((BT g a p q pos seq left 0 0).2.1,0, [], []):=by
 conv=>lhs;unfold EY
 dsimp only
 rw [if_pos h]
theorem GQ {look look':Int->Rc × Int × List Wr}:∀ (f:Nat) (k:Int) (r:Rc) (im:List Img) (w w0:List Wr),(∀ i,k<=i->i<k+f->(look i).2.1=1->look' i=((look i).1,1, []))->(Bh look f k r im w).1=1->
  Bh look' f k r im w0=(1,(Bh look f k r im w).2.1,w0)/\(Bh look f k r im w).2.2=w ++ (List.range f).flatMap (fun j=>(look (k+(j:Nat))).2.2)/\∀ i,k<=i->i<k+f->(look i).2.1=1
 | 0,k,r,im,w,w0,_,_=>⟨rfl,by simp [Bh],fun i h1 h2=>by omega⟩
 | f+1,k,r,im,w,w0,hl,h=>by
  by_cases hq:(look k).2.1=1
  ·have e:=hl k (by omega) (by omega) hq
   rw [JC hq] at h |-
   rw [JC (show (look' k).2.1=1 by rw [e]),e]
   dsimp only
   obtain⟨i1,i2,i3⟩:=GQ f (k+1) (look k).1 (if r.kind=1 then im ++ [r.img] else im) (w ++ (look k).2.2) (w0 ++ []) (fun i h1 h2=>hl i (by omega) (by omega)) h
   refine⟨?_,?_,fun i h1 h2=>?_⟩
   ·rw [i1,List.append_nil]
   ·rw [i2,List.range_succ_eq_map,List.flatMap_cons,List.flatMap_map,As]
    congr 1
    congr 1
    ·rw [show k+((0:Nat):Int)=k by omega]
    ·congr 1
     funext j
     rw [show k+1+(j:Int)=k+((j.succ:Nat):Int) by omega]
   ·by_cases ei:i=k
    ·rw [ei];exact hq
    ·exact i3 i (by omega) (by omega)
  ·rw [OB hq] at h
   exact absurd h hq
theorem I7 {look look':Int->Rc × Int × List Wr}:∀ (f:Nat) (k:Int) (r:Rc) (im:List Img) (w:List Wr),(∀ i,k<=i->i<k+f->look' i=look i)->Bh look' f k r im w=Bh look f k r im w
 | 0,_,_,_,_,_=>rfl
 | f+1,k,r,im,w,hl=>by
  unfold Bh
  dsimp only
  rw [hl k (by omega) (by omega),I7 f (k+1) (look k).1 _ _ (fun i h1 h2=>hl i (by omega) (by omega))]
theorem L_ {g:Geo} {W:Nat->List Wr} {z:PQ} {s:Int} {k:Nat}:∀ n,k<n->(∀ j,j<n->j≠k->∀ x∈W j,ST g x≠s)->AtS (DK g ((List.range n).flatMap W) z) (DK g (W k) z) s
 | 0,h,_=>by omega
 | n+1,hk,h=>by
  rw [Bb,List.flatMap_append,FH]
  simp only [List.flatMap_cons,List.flatMap_nil,List.append_nil]
  by_cases e:k=n
  ·subst e
   refine GJ (W k) (FG _ fun x hx=>?_)
   obtain⟨j,hj,hx⟩:=List.mem_flatMap.1 hx
   have hj:=A6.1 hj
   exact h j (by omega) (by omega) x hx
  ·exact(FG (W n) (h n (by omega) (Ne.symm e))).trans (L_ n (by omega) fun j hj hne=>h j (by omega) hne)
def UY (g:Geo) (p0 U:Int) (z z':PQ):Prop:=∀ u,U<=u->u<g.sl->AtS z z' ((p0+u).tmod g.sl)
section
variable {g:Geo} {a:An} {p q:Int->Option Rc} {p0:Int}
theorem RK {z':PQ} {pos seq left at_ of_:Int} (h:AtS z' (p,q) (CU g pos at_)):BT g a z'.1 z'.2 pos seq left at_ of_=BT g a p q pos seq left at_ of_:=by
 unfold BT O0
 dsimp only
 rw [h.1,h.2]
theorem Rr {z':PQ} {U seq left:Int} (hg:A_ g=true) (hok:∀ s r,p s=some r\/q s=some r->Eb g r=true) (hp:0<=p0/\p0<g.sl) (hU:0<=U/\U+left=g.sl/\0<left) (h:UY g p0 U z' (p,q)):EY g a z'.1 z'.2 ((p0+U).tmod g.sl) seq left=EY g a p q ((p0+U).tmod g.sl) seq left:=by
 obtain⟨h1,h2,h3,h4,h5⟩:=Ak.1 hg
 have hr:∀ (k of_:Int),0<=k->U+k<g.sl->BT g a z'.1 z'.2 ((p0+U).tmod g.sl) seq left k of_=BT g a p q ((p0+U).tmod g.sl) seq left k of_:=fun k of_ hk hk2=>RK (by rw [LF hg hp hU.1 (by omega)];exact h _ (by omega) hk2)
 by_cases h0:(BT g a p q ((p0+U).tmod g.sl) seq left 0 0).2.1=1
 ·rw [GY h0,GY (by rw [hr 0 0 (by omega) (by omega)];exact h0),hr 0 0 (by omega) (by omega)]
  obtain⟨f1,f2⟩:=H8 hok h0
  have hN:=IY f1 f2
  have hlft:=hN.2.2.2.2.1 rfl
  rw [I7 (look:=fun k=>BT g a p q ((p0+U).tmod g.sl) seq left k (BT g a p q ((p0+U).tmod g.sl) seq left 0 0).1.of_) _ _ _ _ _ (fun i h1 h2=>hr i _ (by omega) (by omega))]
 ·rw [IL h0,IL (by rw [hr 0 0 (by omega) (by omega)];exact h0),hr 0 0 (by omega) (by omega)]
theorem S_ {U seq left:Int} (hg:A_ g=true) (hok:∀ s r,p s=some r\/q s=some r->Eb g r=true) (hp:0<=p0/\p0<g.sl) (hU:0<=U/\U+left=g.sl) (h:(EY g a p q ((p0+U).tmod g.sl) seq left).1=1) :
  (2<=(EY g a p q ((p0+U).tmod g.sl) seq left).2.1/\(EY g a p q ((p0+U).tmod g.sl) seq left).2.1<=left)/\
  (∀ x∈(EY g a p q ((p0+U).tmod g.sl) seq left).2.2.2,∃ u,(U<=u/\u<U+(EY g a p q ((p0+U).tmod g.sl) seq left).2.1)/\ST g x=(p0+u).tmod g.sl/\x.bytes.length<=200)/\
  ∀ z':PQ,(∀ u,U<=u->u<U+(EY g a p q ((p0+U).tmod g.sl) seq left).2.1->AtS z' (DK g (EY g a p q ((p0+U).tmod g.sl) seq left).2.2.2 (p,q)) ((p0+u).tmod g.sl))->
   EY g a z'.1 z'.2 ((p0+U).tmod g.sl) seq left=(1,(EY g a p q ((p0+U).tmod g.sl) seq left).2.1,(EY g a p q ((p0+U).tmod g.sl) seq left).2.2.1, []):=by
 obtain⟨h1,h2,h3,h4,h5⟩:=Ak.1 hg
 by_cases h0:(BT g a p q ((p0+U).tmod g.sl) seq left 0 0).2.1=1
 ·obtain⟨f1,f2⟩:=H8 hok h0
  have hN:=IY f1 f2
  have hlft:=hN.2.2.2.2.1 rfl
  obtain⟨of_,hof⟩:∃ n:Nat,(BT g a p q ((p0+U).tmod g.sl) seq left 0 0).1.of_=(n:Int)+1:=⟨((BT g a p q ((p0+U).tmod g.sl) seq left 0 0).1.of_ - 1).toNat,by omega⟩
  have et:((of_:Int)+1 - 1).toNat=of_:=by omega
  have hsl:∀ k:Int,0<=k->k<=of_->CU g ((p0+U).tmod g.sl) k=(p0+(U+k)).tmod g.sl/\0<=CU g ((p0+U).tmod g.sl) k/\CU g ((p0+U).tmod g.sl) k<g.sl:=fun k hk hk2=>by
   have e:=LF hg hp hU.1 (k:=k) (by omega)
   rw [e]
   exact⟨rfl,Bo g.sl (by omega),Int.tmod_lt_of_pos _ (by omega)⟩
  rw [GY h0,hof,et] at h |-
  dsimp only at h |-
  by_cases hG:(Bh (fun k=>BT g a p q ((p0+U).tmod g.sl) seq left k ((of_:Int)+1)) of_ 1 (BT g a p q ((p0+U).tmod g.sl) seq left 0 0).1 [] (BT g a p q ((p0+U).tmod g.sl) seq left 0 0).2.2).1=1
  ·rw [if_neg (not_not_intro hG)]
   dsimp only
   obtain⟨-,g2,g3⟩:=GQ (look':=fun i=>((BT g a p q ((p0+U).tmod g.sl) seq left i ((of_:Int)+1)).1,1, [])) of_ 1 (BT g a p q ((p0+U).tmod g.sl) seq left 0 0).1 [] (BT g a p q ((p0+U).tmod g.sl) seq left 0 0).2.2 [] (fun i _ _ _=>rfl) hG
   -- what is to be written,record by record
   have eW:(Bh (fun k=>BT g a p q ((p0+U).tmod g.sl) seq left k ((of_:Int)+1)) of_ 1 (BT g a p q ((p0+U).tmod g.sl) seq left 0 0).1 [] (BT g a p q ((p0+U).tmod g.sl) seq left 0 0).2.2).2.2=(List.range (of_+1)).flatMap fun j=>(BT g a p q ((p0+U).tmod g.sl) seq left (j:Nat) (if j=0 then 0 else (of_:Int)+1)).2.2:=by
    rw [g2,List.range_succ_eq_map,List.flatMap_cons,List.flatMap_map]
    congr 1
    congr 1
    funext j
    rw [if_neg (Nat.succ_ne_zero j),show 1+(j:Int)=((j.succ:Nat):Int) by omega]
   have hwr:∀ j:Nat,j<of_+1->∀ x∈(BT g a p q ((p0+U).tmod g.sl) seq left (j:Nat) (if j=0 then 0 else (of_:Int)+1)).2.2,ST g x=(p0+(U+j)).tmod g.sl:=fun j hj x hx=>by
    obtain⟨e1,e2⟩:=hsl j (by omega) (by omega)
    rw [Vz e2 x hx,e1]
   refine⟨⟨by omega,by omega⟩,fun x hx=>?_,fun z' hz=>?_⟩
   ·rw [eW] at hx
    obtain⟨j,hj,hx⟩:=List.mem_flatMap.1 hx
    have hj:=A6.1 hj
    exact⟨U+j,by omega,hwr j hj x hx,P7 hok x hx⟩
   ·rw [eW] at hz
    have hrec:∀ k:Nat,k<of_+1->(BT g a p q ((p0+U).tmod g.sl) seq left (k:Nat) (if k=0 then 0 else (of_:Int)+1)).2.1=1->BT g a z'.1 z'.2 ((p0+U).tmod g.sl) seq left (k:Nat) (if k=0 then 0 else (of_:Int)+1)=((BT g a p q ((p0+U).tmod g.sl) seq left (k:Nat) (if k=0 then 0 else (of_:Int)+1)).1,1, []):=fun k hk hf=>by
     obtain⟨e1,e2⟩:=hsl k (by omega) (by omega)
     refine TM hg hok e2 hf ?_
     rw [e1]
     refine(hz (U+k) (by omega) (by omega)).trans ?_
     refine L_ (W:=fun j=>(BT g a p q ((p0+U).tmod g.sl) seq left (j:Nat) (if j=0 then 0 else (of_:Int)+1)).2.2) (k:=k) _ hk fun j hj hne x hx e=>?_
     rw [hwr j hj x hx] at e
     have:=Kg hp (by omega) (by omega) e
     omega
    have r0:=hrec 0 (by omega) h0
    rw [if_pos rfl] at r0
    have r0':BT g a z'.1 z'.2 ((p0+U).tmod g.sl) seq left 0 0=((BT g a p q ((p0+U).tmod g.sl) seq left 0 0).1,1, []):=r0
    rw [GY (by rw [r0']),r0']
    dsimp only
    rw [hof,et]
    obtain⟨g4, -, -⟩:=GQ (look:=fun k=>BT g a p q ((p0+U).tmod g.sl) seq left k ((of_:Int)+1)) (look':=fun k=>BT g a z'.1 z'.2 ((p0+U).tmod g.sl) seq left k ((of_:Int)+1)) of_ 1 (BT g a p q ((p0+U).tmod g.sl) seq left 0 0).1 [] (BT g a p q ((p0+U).tmod g.sl) seq left 0 0).2.2 [] (fun i i1 i2 hf=>by
     obtain⟨k,rfl⟩:=Int.eq_ofNat_of_zero_le (show 0<=i by omega)
     have:=hrec k (by omega)
     rw [if_neg (by omega)] at this
     exact this hf) hG
    rw [g4]
    dsimp only
    rw [if_neg (fun h=>h rfl)]
  ·rw [if_pos hG] at h
   exact absurd h hG
 ·rw [IL h0] at h
  exact absurd h h0
theorem LH (hg:A_ g=true) (hok:∀ s r,p s=some r\/q s=some r->Eb g r=true) (hp:0<=p0/\p0<g.sl):∀ (f:Nat) (U seq left:Int) (l:List Tx) (w:List Wr) {l':List Tx} {w':List Wr} {seq':Int},0<=U->U+left=g.sl->Ei g a p q f ((p0+U).tmod g.sl) seq left l w=some (l',w',seq')->
  ∃ wr,w'=w ++ wr/\(∀ x∈wr,∃ u,(U<=u/\u<g.sl)/\ST g x=(p0+u).tmod g.sl/\x.bytes.length<=200)/\∀ z':PQ,UY g p0 U z' (DK g wr (p,q))->∀ w0,Ei g a z'.1 z'.2 f ((p0+U).tmod g.sl) seq left l w0=some (l',w0,seq')
 | 0,U,seq,left,l,w,l',w',seq',_,_,h=>by
  unfold Ei at h
  injection h with h
  injection h with e1 h
  injection h with e2 e3
  subst e1 e2 e3
  exact⟨[],by simp,by simp,fun _ _ _=>rfl⟩
 | f+1,U,seq,left,l,w,l',w',seq',hU,hl,h=>by
  obtain⟨h1,h2,h3,h4,h5⟩:=Ak.1 hg
  unfold Ei at h
  by_cases hc:0<left/\seq<=4294967295
  ·rw [if_pos hc] at h
   dsimp only at h
   by_cases t3:(EY g a p q ((p0+U).tmod g.sl) seq left).1=3
   ·rw [if_pos t3] at h
    cases h
   ·rw [if_neg t3] at h
    by_cases t1:(EY g a p q ((p0+U).tmod g.sl) seq left).1=1
    ·rw [if_neg (fun h=>h t1)] at h
     obtain⟨⟨n1,n2⟩,n3,n4⟩:=S_ hg hok hp ⟨hU,hl⟩ t1
     generalize EY g a p q ((p0+U).tmod g.sl) seq left=T at h n1 n2 n3 n4
     obtain⟨how,n,im,tw⟩:=T
     dsimp only at h n1 n2 n3 n4
     have ep:((p0+U).tmod g.sl+n).tmod g.sl=(p0+(U+n)).tmod g.sl:=by
      rw [AI (show 0<=p0+U by omega)]
      have q1:=Int.emod_nonneg (p0+U) (show g.sl≠0 by omega)
      rw [AI (by omega),AI (by omega),Int.emod_add_emod,Int.add_assoc]
     rw [ep] at h
     obtain⟨wr,i1,i2,i3⟩:=LH hg hok hp f (U+n) (seq+1) (left - n) _ _ (by omega) (by omega) h
     refine⟨tw ++ wr,by rw [i1,As],fun x hx=>?_,fun z' hz w0=>?_⟩
     ·rcases At.1 hx with hx | hx
      ·obtain⟨u,u1,u2⟩:=n3 x hx
       exact⟨u,by omega,u2⟩
      ·obtain⟨u,u1,u2⟩:=i2 x hx
       exact⟨u,by omega,u2⟩
     ·unfold UY at hz
      have ht:=n4 z' fun u u1 u2=>by
       have:=hz u u1 (by omega)
       rw [FH] at this
       refine this.trans (FG wr fun x hx e=>?_)
       obtain⟨v,v1,v2, -⟩:=i2 x hx
       rw [v2] at e
       have:=Kg hp (by omega) (by omega) e
       omega
      unfold Ei
      rw [if_pos hc,ht]
      dsimp only
      rw [if_neg (by decide),if_neg (fun h=>h rfl),ep]
      have:=i3 z' (fun u u1 u2=>by
       have:=hz u (by omega) u2
       rw [FH] at this
       refine this.trans (GJ wr (FG tw fun x hx e=>?_))
       obtain⟨v,v1,v2, -⟩:=n3 x hx
       rw [v2] at e
       have:=Kg hp (by omega) (by omega) e
       omega) (w0 ++ [])
      rw [this,List.append_nil]
    ·rw [if_pos t1] at h
     injection h with h
     injection h with e1 h
     injection h with e2 e3
     subst e1 e2 e3
     refine⟨[],by simp,by simp,fun z' hz w0=>?_⟩
     have ht:=Rr (a:=a) (seq:=seq) hg hok hp ⟨hU,hl,hc.1⟩ hz
     unfold Ei
     rw [if_pos hc,ht]
     dsimp only
     rw [if_neg t3,if_pos t1]
  ·rw [if_neg hc] at h
   injection h with h
   injection h with e1 h
   injection h with e2 e3
   subst e1 e2 e3
   refine⟨[],by simp,by simp,fun z' hz w0=>?_⟩
   unfold Ei
   rw [if_neg hc]
end
theorem Fu (l:List Int) (hl:l.length<=1000000):Fn Tryz.prog 137 [iA l] fun r=>r=iA l:=by
 refine Fn.st Tryz.func137 rfl ?_
 refine⟨by omega,?_⟩
 refine⟨by simp,?_⟩
 exact⟨iA l,fun c v h=>Rd.congr rfl (fun i hi=>DF hi) h,rfl⟩
theorem L0 (a:An) (hh:a.homes.length<=1000) (hp:∀ h∈a.homes,h.places.length<=1000000):Fn Tryz.prog 135 [.ag (Dx a)] fun r=>r = .ag (Dx a):=by
 refine Fn.st Tryz.func135 rfl ?_
 conv=>whnf
 refine aLoop.rule Nat (fun k=>([(1, .bp 0 0),(2, .bp 1 0),(3,Hq a.homes),(4, .v (.int .i64 k))], [.box 28 [.v (.int .i64 a.gen), .v (.int .i64 a.epoch), .v (.int .i64 a.pos), .v (.int .i64 a.seq), .v (.int .i64 a.last), .v (.string a.label), .ow 2 k], .box 28 [.v (.int .i64 0), .v (.int .i64 0), .v (.int .i64 0), .v (.int .i64 0), .v (.int .i64 0), .v (.string ⟨#[]⟩), .v (.slice none 0 0)], .row 53 3 ((a.homes.take k).map CH)])) (fun k=>k<=a.homes.length) (fun k=>a.homes.length - k) 0 (Ad _) ⟨[(1000006,53,3)],⟨rfl,rfl,trivial⟩,⟨rfl,rfl,rfl,rfl,trivial⟩,⟨rfl,rfl,rfl,trivial⟩,rfl,rfl,rfl⟩ ?_
 intro k hk
 conv=>whnf
 refine Aw (fun c1=>?_) (fun c1=>?_) <;> (repeat rw [Ab] at c1) <;> conv=>whnf
 ·have ti:=Fu (a.homes.getD k ⟨[],0,0⟩).places (hp _ (Ay c1))
  refine aDraw.of tys_ok mixed [0,1,2,3,4,5,6,8,9,10,11,12,13,14,15,16,17,7,18,19,20,21,22] (by kernel_rfl) ?_
  conv=>whnf
  repeat' (first | (refine aSeq.go ?_;conv=>whnf) | (refine Aw (fun _=>?_) (fun _=>?_) <;> conv=>whnf) | (refine Fn.cl ti ?_;conv=>whnf) | (refine And.intro (by first | omega | exact of_decide_eq_true rfl) ?_;conv=>whnf) | fail)
  refine And.intro ⟨by rw [Aa,Al];omega,by omega⟩ ?_
  exact⟨k+1,by omega,by omega, [],trivial,⟨rfl,rfl,rfl,A7 (by omega),trivial⟩,⟨rfl,rfl,congrArg (AB.row _ _) (F1 c1),trivial⟩,rfl,rfl,rfl⟩
 ·refine And.intro (by rw [Aa,Al];omega) ?_
  conv=>whnf
  have ek:k=a.homes.length:=by omega
  subst ek
  refine⟨.ag (Dx a),AG ⟨ri,ri,ri,ri,ri,ri,?_,trivial⟩,rfl⟩
  rw [List.take_length]
  exact AH a.homes rfl rfl
theorem Fm {g:Geo} {a:An} (h:AN g a=true):(0<=a.gen/\a.gen<=4294967295)/\(0<=a.epoch/\a.epoch<=4294967295)/\(1<=a.seq/\a.seq<=4294967295)/\(0<=a.last/\a.last<=4294967295/\a.seq - 1<=a.last)/\(0<=a.pos/\a.pos<g.sl)/\(a.homes.length:Int)=g.z/\∀ x∈a.homes,Da g x=true:=by
 simp only [AN,AK,Bq,Bool.and_eq_true,A0,decide_eq_true_eq,Ao] at h
 obtain⟨⟨q1,q2,q3,q4, -⟩,q5,q6,q7,q8,q9,q10⟩:=h
 exact⟨q1,q2,⟨q5,q3.2⟩,⟨q4.1,q4.2,q6⟩,⟨q7.1,by omega⟩,q9,q10⟩
theorem JH {g:Geo} {a:An} (hg:A_ g=true) (h:AN g a=true):∀ x∈a.homes,x.places.length<=1000000:=by
 obtain⟨h1,h2,h3,h4,h5⟩:=Ak.1 hg
 intro x hx
 have:=(Fm h).2.2.2.2.2.2 x hx
 simp only [Da,Bool.and_eq_true,decide_eq_true_eq] at this
 omega
theorem Vl {g:Geo} {b:An} {x y:List Gt} {p q:Int->Option Rc} {r:List Tx × List Wr × Int} (hg:A_ g=true) (hb:AN g b=true) (hx:(x.length:Int)=g.sl) (hy:(y.length:Int)=g.sl) (hp:Dm g x 0=p) (hq:Dm g y 1=q) (h:LI g b p q=r):Im g b x y=r:=by
 unfold Im
 rw [if_pos (by rw [hg,hb];rfl),if_pos ⟨hx,hy⟩,MN,hp,hq,h]
def PL (g:Geo) (x:Wr) (z:List Gt × List Gt):List Gt × List Gt:=if x.addr - g.an<g.sl then (z.1.set (x.addr - g.an).toNat ⟨0,x.bytes⟩,z.2) else (z.1,z.2.set (x.addr - g.an - g.sl).toNat ⟨0,x.bytes⟩)
def Iw (g:Geo) (w:List Wr) (z:List Gt × List Gt):Nat->List Gt × List Gt
 | 0=>z
 | k+1=>PL g (w.getD k ⟨0, []⟩) (Iw g w z k)
theorem Jb {g:Geo} {w:List Wr} {z:List Gt × List Gt}:∀ k,(Iw g w z k).1.length=z.1.length/\(Iw g w z k).2.length=z.2.length
 | 0=>⟨rfl,rfl⟩
 | k+1=>by
  obtain⟨h1,h2⟩:=Jb (g:=g) (w:=w) (z:=z) k
  unfold Iw PL
  split
  ·exact⟨by rw [AO,h1],h2⟩
  ·exact⟨h1,by rw [AO,h2]⟩
theorem NO {g:Geo} {x:List Gt} {copy:Int} {k:Nat} {b:List UInt8} (hk:k<x.length):Dm g (x.set k ⟨0,b⟩) copy=SO (Dm g x copy) (k:Nat) (De g ⟨0,b⟩ copy (k:Nat)):=by
 funext s
 unfold Dm SO
 by_cases e:s=(k:Nat)
 ·subst e
  rw [if_pos rfl,Ab,List.getD_eq_getElem?_getD,List.getElem?_set_self hk]
  rfl
 ·rw [if_neg e]
  by_cases hs:0<=s/\s<g.sl
  ·obtain⟨i,rfl⟩:=Int.eq_ofNat_of_zero_le hs.1
   rw [Ab,List.getD_eq_getElem?_getD,List.getElem?_set_ne (by omega),<-List.getD_eq_getElem?_getD]
   rfl
  ·rw [IS hs]
   exact(IS hs).symm
def Xi (g:Geo) (x:Wr):Prop:=0<=x.addr - g.an/\x.addr - g.an<2*g.sl
theorem LZ {g:Geo} {w:List Wr} {z:List Gt × List Gt} (h1:(z.1.length:Int)=g.sl) (h2:(z.2.length:Int)=g.sl):∀ k,k<=w.length->(∀ x∈w,Xi g x)->(Dm g (Iw g w z k).1 0,Dm g (Iw g w z k).2 1)=DK g (w.take k) (Dm g z.1 0,Dm g z.2 1)
 | 0,_,_=>rfl
 | k+1,hk,hw=>by
  have ih:=LZ h1 h2 k (by omega) hw
  have hx:=hw _ (Ay (d:=⟨0, []⟩) (show k<w.length by omega))
  obtain⟨l1,l2⟩:=Jb (g:=g) (w:=w) (z:=z) k
  rw [A3 (by omega),FH,<-ih]
  rw [show w[k]=w.getD k ⟨0, []⟩ by rw [List.getD_eq_getElem?_getD,List.getElem?_eq_getElem (by omega)];rfl]
  simp only [DK,Hx,Iw,PL]
  generalize w.getD k ⟨0, []⟩=x at hx
  unfold Xi at hx
  by_cases hc:x.addr - g.an<g.sl
  ·rw [if_pos hc,if_pos hc]
   dsimp only
   rw [NO (by omega),BD hx.1]
  ·rw [if_neg hc,if_neg hc]
   dsimp only
   rw [NO (by omega),BD (show 0<=x.addr - g.an - g.sl by omega)]
theorem To {g:Geo} {x y:List Gt}:∀ s r,Dm g x 0 s=some r\/Dm g y 1 s=some r->Eb g r=true:=by
 rintro s r (h | h)
 ·exact(Ku h).1
 ·exact(Ku h).1
theorem Pr {g:Geo} {a:An} {x y:List Gt} {l:List Tx} {w:List Wr} (h:Im g a x y=(l,w,0)):(A_ g=true/\AN g a=true)/\((x.length:Int)=g.sl/\(y.length:Int)=g.sl)/\(∀ z∈w,Xi g z/\z.bytes.length<=200)/\Im g a (Iw g w (x,y) w.length).1 (Iw g w (x,y) w.length).2=(l, [],0):=by
 unfold Im at h
 by_cases hA:(A_ g&&AN g a)=true
 ·rw [if_pos hA] at h
  obtain⟨hg,ha⟩:=Bool.and_eq_true_iff.1 hA
  obtain⟨h1,h2,h3,h4,h5⟩:=Ak.1 hg
  have hq:=IE ha
  by_cases hx:(x.length:Int)=g.sl/\(y.length:Int)=g.sl
  ·rw [if_pos hx,MN] at h
   unfold LI at h
   cases hR:Ei g a (Dm g x 0) (Dm g y 1) g.sl.toNat a.pos a.seq g.sl [] [] with
   | none=>rw [hR] at h;simp [Sz,damaged] at h
   | some R=>
    obtain⟨l',w',seq'⟩:=R
    rw [hR] at h
    by_cases hl:seq' - 1<a.last
    ·rw [GR hl] at h
     simp [damaged] at h
    ·rw [EG hl] at h
     injection h with e1 h
     injection h with e2 _
     subst e1 e2
     have e0:(a.pos+0).tmod g.sl=a.pos:=by rw [Int.add_zero];exact MJ hq.2.1 hq.2.2
     rw [<-e0] at hR
     obtain⟨wr,w1,w2,w3⟩:=LH hg (To (g:=g) (x:=x) (y:=y)) hq.2 g.sl.toNat 0 a.seq g.sl [] [] (B_ 0) (by omega) hR
     rw [Bn] at w1
     subst w1
     have hin:∀ z∈w',Xi g z/\z.bytes.length<=200:=fun z hz=>by
      obtain⟨u,u1,u2,u3⟩:=w2 z hz
      refine⟨?_,u3⟩
      have q1:=Bo g.sl (show 0<=a.pos+u by omega)
      have q2:=Int.tmod_lt_of_pos (a.pos+u) (show 0<g.sl by omega)
      rw [<-u2] at q1 q2
      unfold ST at q1 q2
      unfold Xi
      split at q1 <;> omega
     refine⟨⟨hg,ha⟩,hx,hin,?_⟩
     obtain⟨l1,l2⟩:=Jb (g:=g) (w:=w') (z:=(x,y)) w'.length
     have hm:=LZ (g:=g) (w:=w') (z:=(x,y)) hx.1 hx.2 w'.length (Nat.le_refl _) fun z hz=>(hin z hz).1
     rw [List.take_length] at hm
     have hm1:=congrArg Prod.fst hm
     have hm2:=congrArg Prod.snd hm
     refine Vl hg ha (by rw [l1];exact hx.1) (by rw [l2];exact hx.2) hm1 hm2 ?_
     unfold LI
     have:=w3 (DK g w' (Dm g x 0,Dm g y 1)) (fun u _ _=>⟨rfl,rfl⟩) []
     rw [e0] at this
     rw [this,EG hl]
  ·rw [if_neg hx] at h
   injection h with _ h
   injection h with _ h
   cases h
 ·rw [if_neg hA] at h
  injection h with _ h
  injection h with _ h
  cases h
theorem Kt {g:Geo} {a:An} {x y:List Gt} (hg:A_ g=true):∀ (f:Nat) (pos seq left:Int) (l:List Tx) (w:List Wr) {l':List Tx} {w':List Wr} {seq':Int},(0<=pos/\pos<g.sl)->DV g a x y f pos seq left l w=some (l',w',seq')->w'.length<=w.length+30*f
 | 0,pos,seq,left,l,w,l',w',seq',_,h=>by
  unfold DV at h
  injection h with h
  injection h with e1 h
  injection h with e2 e3
  subst e2
  omega
 | f+1,pos,seq,left,l,w,l',w',seq',hp,h=>by
  unfold DV at h
  have fin:some (l,w,seq)=some (l',w',seq')->w'.length<=w.length+30*(f+1):=fun h=>by
   injection h with h
   injection h with e1 h
   injection h with e2 e3
   subst e2
   omega
  by_cases hc:0<left/\seq<=4294967295
  ·rw [if_pos hc] at h
   dsimp only at h
   have tf:=H4 (a:=a) (x:=x) (y:=y) (seq:=seq) (left:=left) hg hp
   generalize Fp g a x y pos seq left=T at tf h
   obtain⟨how,n,im,ws⟩:=T
   dsimp only at tf h
   rcases tf with ⟨rfl,t1,t2⟩ | tf
   ·rw [if_neg (by decide),if_neg (by decide)] at h
    obtain⟨h1,h2,h3,h4,h5⟩:=Ak.1 hg
    have hm:=Int.tmod_lt_of_pos (pos+n) (show 0<g.sl by omega)
    have hm0:=Bo g.sl (show 0<=pos+n by omega)
    have:=Kt hg f _ _ _ _ _ ⟨hm0,hm⟩ h
    rw [List.length_append] at this
    omega
   ·by_cases e3:how=3
    ·rw [if_pos e3] at h
     cases h
    ·rw [if_neg e3,if_pos (by omega)] at h
     exact fin h
  ·rw [if_neg hc] at h
   exact fin h
theorem Pq {g:Geo} {a:An} {x y:List Gt}:(Im g a x y).2.1.length<=900:=by
 unfold Im
 by_cases hA:(A_ g&&AN g a)=true
 ·rw [if_pos hA]
  obtain⟨hg,ha⟩:=Bool.and_eq_true_iff.1 hA
  obtain⟨h1,h2,h3,h4,h5⟩:=Ak.1 hg
  split
  ·unfold Dl
   cases hR:DV g a x y g.sl.toNat a.pos a.seq g.sl [] [] with
   | none=>exact Ad _
   | some R=>
    obtain⟨l',w',seq'⟩:=R
    have:=Kt hg _ _ _ _ _ _ (IE ha).2 hR
    by_cases hl:seq' - 1<a.last
    ·rw [GR hl];exact Ad _
    ·rw [EG hl]
     simp only [AJ] at this
     dsimp only
     omega
  ·exact Ad _
 ·rw [if_neg hA];exact Ad _
theorem LJ {g:Geo} {a:An} {x y:List Gt}:∀ (f:Nat) (pos seq left:Int) (l:List Tx) (w:List Wr) {l':List Tx} {w':List Wr} {seq':Int},seq<=4294967296->DV g a x y f pos seq left l w=some (l',w',seq')->seq'<=4294967296
 | 0,pos,seq,left,l,w,l',w',seq',h1,h=>by
  unfold DV at h
  injection h with h
  injection h with e1 h
  injection h with e2 e3
  omega
 | f+1,pos,seq,left,l,w,l',w',seq',h1,h=>by
  unfold DV at h
  have fin:some (l,w,seq)=some (l',w',seq')->seq'<=4294967296:=fun h=>by
   injection h with h
   injection h with e1 h
   injection h with e2 e3
   omega
  by_cases hc:0<left/\seq<=4294967295
  ·rw [if_pos hc] at h
   simp only at h
   generalize Fp g a x y pos seq left=q at h
   split at h
   ·cases h
   ·split at h
    ·exact fin h
    ·exact LJ f _ _ _ _ _ (by omega) h
  ·rw [if_neg hc] at h
   exact fin h
theorem Ks {g:Geo} {a:An} {x y:List Gt} (hg:A_ g=true) (ha:AN g a=true) (h:(Dl g a x y).2.2=0):a.last<=a.seq+(Dl g a x y).1.length - 1/\a.seq+(Dl g a x y).1.length - 1<=4294967295:=by
 obtain⟨g1,g2,g3,g4,g5⟩:=Ak.1 hg
 have hq:=IE ha
 have hp:=Fm ha
 unfold Dl at h |-
 cases hR:DV g a x y g.sl.toNat a.pos a.seq g.sl [] [] with
 | none=>rw [hR] at h;simp [Sz,damaged] at h
 | some q=>
  obtain⟨l,w,seq⟩:=q
  rw [hR] at h
  obtain⟨c1,c2,c3⟩:=J2 hg _ _ _ _ _ _ (l':=l) (w':=w) (seq':=seq) (show Gm g [] a.seq a.pos from trivial) rfl (by simp) (by simp [usedM]) (by omega) hq.2 hR
  have hm:=LJ _ _ _ _ _ _ (by omega) hR
  by_cases hl:seq - 1<a.last
  ·rw [GR hl] at h;simp [damaged] at h
  ·rw [EG hl]
   simp only
   omega
def CP (a:An) (n:Nat):An:={ a with gen:=a.gen+1,epoch:=a.epoch+1,last:=a.seq+n - 1 }
theorem KF {g:Geo} {a:An} {n:Nat} (ha:AN g a=true) (h1:a.gen≠4294967295) (h2:a.epoch≠4294967295) (h3:a.seq+n - 1<=4294967295):AN g (CP a n)=true:=by
 have hp:=Fm ha
 simp only [AN,AK,Bq,Bool.and_eq_true,A0,decide_eq_true_eq] at ha
 simp only [AN,AK,Bq,Bool.and_eq_true,A0,decide_eq_true_eq]
 obtain⟨⟨q1,q2,q3,q4,q11⟩,q5,q6,q7,q8,q9,q10⟩:=ha
 refine⟨⟨?_,?_,q3,?_,q11⟩,q5,?_,q7,q8,q9,q10⟩
 ·show 0<=a.gen+1/\a.gen+1<=4294967295;omega
 ·show 0<=a.epoch+1/\a.epoch+1<=4294967295;omega
 ·show 0<=a.seq+n - 1/\a.seq+n - 1<=4294967295;omega
 ·show a.seq - 1<=a.seq+n - 1;omega
def AP (a:An) (t:List Tx):Stt:=⟨a,t,false,0,0,0,0, []⟩
def KG (g:Geo) (a:An) (t:List Tx) (d:Dk):Dk × Int × Stt:=
 if a.gen=4294967295\/a.epoch=4294967295 then (d,14,st0) else
 let q:=d.putAll (Av g (CP a t.length))
 if q.2.2 then (q.1,8,st0) else if q.2.1=0 then (q.1,14,st0) else (q.1,0,AP (CP a t.length) t)
def KH (g:Geo) (a:An) (q:List Tx × List Wr × Int) (d:Dk):Dk × Int × Stt:=
 if q.2.2≠0 then (d,q.2.2,st0) else
 if (d.mend q.2.1).2 then ((d.mend q.2.1).1,8,st0) else KG g a q.1 (d.mend q.2.1).1
def HM (g:Geo) (a:An) (d:Dk):Dk × Int × Stt:=
 if d.live (2*g.sl.toNat) then KH g a (Dl g a (AZ d (Bx g 0)) (AZ d (Bx g 1))) (d.adv (2*g.sl.toNat)) else (d.adv (2*g.sl.toNat),8,st0)
def Cs (g:Geo) (d:Dk):Dk × Int × Stt:=
 if d.live g.an.toNat then
  match FD g (AZ d (C3 g)) with
  | none=>(d.adv g.an.toNat,11,st0)
  | some (a,_)=>HM g a (d.adv g.an.toNat)
 else (d.adv g.an.toNat,8,st0)
theorem Tn {g:Geo} {x:Gt} {i:Int} {a:An} (hg:A_ g=true) (h:DI g x i=some a):AN g a=true:=by
 unfold DI at h
 split at h
 ·cases hR:Ed g (CL x.bytes) with
  | none=>rw [hR] at h;cases h
  | some b=>
   rw [hR] at h
   simp only at h
   split at h
   ·cases h;exact(PA hg hR).1
   ·cases h
 ·cases h
theorem It {g:Geo} {l:List Gt} (hg:A_ g=true):∀ (k:Nat) {a:An} {j:Nat},Ee g l k=some (a,j)->AN g a=true
 | 0,a,j,h=>by cases h
 | k+1,a,j,h=>by
  rw [H9,Og] at h
  cases hS:DI g (l.getD k ⟨0, []⟩) (k:Nat) with
  | none=>rw [hS] at h;exact It hg k h
  | some b=>
   have hb:=Tn hg hS
   rw [hS] at h
   cases hP:Ee g l k with
   | none=>rw [hP] at h;cases h;exact hb
   | some q=>
    obtain⟨c,i⟩:=q
    rw [hP] at h
    simp only at h
    split at h
    ·cases h;exact hb
    ·cases h;exact It hg k hP
theorem GP {d:Dk} (h:DkOk d) (l:List Int):∀ x∈AZ d l,x.bytes.length<=100000:=by
 intro x hx
 simp only [AZ,A8] at hx
 obtain⟨a,_,rfl⟩:=hx
 have:=Sv h a
 show (d.got a).1.length<=_
 omega
theorem Kr {g:Geo} {a:An} {x y:List Gt} {n:Nat} (hg:A_ g=true) (ha:AN g a=true) (hx:(x.length:Int)=g.sl) (hy:(y.length:Int)=g.sl) (hn:(n:Int)=Aq g) (h:(Dl g a x y).2.2=0):(∀ w∈(Dl g a x y).2.1,Pc n w)/\(Dl g a x y).2.1.length<=900:=by
 have e:Im g a x y=Dl g a x y:=by rw [Im,if_pos (by rw [hg,ha];rfl),if_pos ⟨hx,hy⟩]
 have hl:=Pq (g:=g) (a:=a) (x:=x) (y:=y)
 rw [e] at hl
 obtain⟨g1,g2,g3,g4,g5⟩:=Ak.1 hg
 have hc:=Dt hg
 refine⟨fun w hw=>?_,hl⟩
 obtain⟨_,_,h3,_⟩:=Pr (l:=(Dl g a x y).1) (w:=(Dl g a x y).2.1) (e.trans (by rw [<-h]))
 obtain⟨p1,p2⟩:=h3 w hw
 unfold Xi at p1
 exact⟨by omega,p2⟩
theorem WT {m:Nat} {i:Nat} (hi:Nat.blt i m=true) (h:Nat.ble 3 m=true):∀ z∈ [0,1,2,i],z<m:=fun z hz=>by
 have:=Ac h
 have:=Ac hi
 simp at hz
 omega
theorem ACalls.pre {P:Program} {q:Bool} {f:FuncId} {args:List AV} {H H':List AB} {K:AV->List AB->Prop} (h:ConvH H H') (k:ACalls P q f args H' K):ACalls P q f args H K:=by
 refine⟨k.go,fun w0 M0 c us hs hr=>?_⟩
 obtain⟨c1,e1,s1,x1⟩:=h w0 M0 c hs
 have:=k.calls w0 M0 c1 us s1 (RdL.ext _ x1 hr)
 rw [e1] at this
 refine this.mono ?_
 rintro e w' ⟨v,c',r,H2,rfl,rfl,q1,q2,q3,q4,q5⟩
 exact⟨v,c',r,H2,rfl,rfl,q1,q2,x1.trans q3,q4,q5⟩
theorem NJ {es:List (List AV)} {i m:Nat} {e:List AV} (h:∀ x∈es,AV.ltL x 0=true) (he:AV.ltL e m=true):AV.ltL (es.set i e).flatten m=true:=by
 rw [C0]
 intro x hx
 obtain⟨y,hy,hx'⟩:=List.mem_flatten.1 hx
 rcases BC hy with hy | rfl
 ·exact AV.lt_mono x (Ad _) (C0.1 (h y hy) x hx')
 ·exact C0.1 he x hx'
theorem LG {es:List (List AV)} {i:Nat} {e:List AV} {f:Nat->Nat} (h:∀ x∈es,AV.ltL x 0=true) (he:AV.renL f e=e):(es.set i e).map (AV.renL f)=es.set i e:=by
 rw [BX,he]
 congr 1
 conv=>rhs;rw [<-List.map_id es]
 refine BZ fun x hx=>?_
 exact AV.renL_id x (h x hx)
theorem Wj (l:List Tx):∀ x∈l.map CI,AV.ltL x 0=true:=by
 intro x hx
 obtain⟨t,_,rfl⟩:=A8.1 hx
 rfl
def Wl (t:Tx) (k:Nat):List AV:= [.v (.int .i64 t.seq), .v (.int .i64 t.pos), .v (.int .i64 t.n), .ow k t.images.length]
theorem Vi {k n:Nat} {s:AV} (l:List Tx):(l.map CI).map (List.map (AV.slIn k n s))=l.map CI:=by
 rw [List.map_map]
 exact BZ fun t _=>rfl
theorem Tj (l:List Tx) (k:Nat) (t:Tx) (s:AV):((l.map CI).set k (Wl t 1)).map (List.map (AV.slIn 1 (t.images.map DE).length s))=(l.map CI).set k [.v (.int .i64 t.seq), .v (.int .i64 t.pos), .v (.int .i64 t.n),s]:=by
 rw [BX,Vi]
 congr 1
 simp [Wl,AV.slIn]
theorem RY {l:List Tx} {k:Nat} {t:Tx} (hk:k<l.length) (ht:t=l.getD k ⟨0,0,0, []⟩):ConvH [.rowo 45 4 ((l.map CI).set k (Wl t 1)) 2, .row 51 3 (t.images.map DE)] [.row 45 4 (l.map CI), .dead]:=by
 refine(ConvH.sealIn (H:= [.rowo 45 4 ((l.map CI).set k (Wl t 1)) 2, .row 51 3 (t.images.map DE)]) 0 1 rfl rfl (Tj l k t _)).trans ?_
 refine(ConvH.row (k:=0) rfl (NJ (Wj l) rfl)).trans ?_
 refine ConvH.subRow (k:=0) (es':=l.map CI) rfl (by simp) fun i=>?_
 refine F8 (f:=CI) (d:=(⟨0,0,0, []⟩:Tx)) hk ?_ i
 rw [<-ht]
 exact⟨fun _ _ h=>h,fun _ _ h=>h,fun _ _ h=>h,AH (f:=DE) t.images (Aa _) rfl,trivial⟩
theorem QP (l:List Tx) (hl:l.length<=1000000) (hi:∀ t∈l,t.images.length<=1000000/\∀ x∈t.images,x.bytes.length<=1000000000):Fn Tryz.prog 88 [CW l] fun r=>r=CW l:=by
 have hc:=LA l (by omega)
 refine Fn.st Tryz.func88 rfl ?_
 conv=>whnf
 refine ACalls.beside hc rfl ?_
 rintro _ _ ⟨rfl,rfl⟩
 conv=>whnf
 refine aLoop.ruleRR Nat (fun k=>([(0, .ow 0 l.length),(9, .v (.int .i64 l.length)),(10, .v (.int .i64 k))], [.row 45 4 (l.map CI)])) (fun k=>k<=l.length) (fun k=>l.length - k) 0 (Ad _)
  (WkN.r (s:= [0]) ⟨⟨rfl,rfl,rfl,trivial⟩,⟨rfl,trivial⟩,rfl,rfl,rfl,rfl,rfl⟩) ?_
 intro k hk
 conv=>whnf
 refine Aw (fun h6=>?_) (fun h6=>?_) <;> (repeat rw [Ab] at h6) <;> conv=>whnf
 ·have hk':k<l.length:=by omega
  have hm:=hi _ (Ay (d:=(⟨0,0,0, []⟩:Tx)) hk')
  have hE:(l.map CI).getD (k:Int).toNat []=CI (l.getD k ⟨0,0,0, []⟩):=by rw [Ab];exact AR hk'
  have ho:=Sn (l.getD k ⟨0,0,0, []⟩).images (by omega)
  repeat' (first | (refine aSeq.go ?_;conv=>whnf) | fail)
  refine⟨⟨by omega,by omega⟩,?_⟩
  conv=>whnf
  refine And.intro ⟨rfl,(Aa _).symm,by rw [Ab];exact hk'⟩ ?_
  conv=>whnf
  rw [hE]
  conv=>whnf
  refine ACalls.pre (ConvH.rowo (k:=0) rfl) ?_
  refine ACalls.beside ho rfl ?_
  rintro _ _ ⟨rfl,rfl⟩
  refine⟨⟨by omega,by omega⟩,?_⟩
  conv=>whnf
  refine And.intro ⟨rfl,(Aa _).symm,by rw [Ab];exact hk'⟩ ?_
  conv=>whnf
  rw [hE]
  refine⟨⟨by omega,by omega⟩,?_⟩
  conv=>whnf
  refine And.intro ⟨rfl,by rw [AO,Aa],by rw [Ab];exact hk'⟩ ?_
  conv=>whnf
  rw [By (by rw [Ab,Aa];exact hk')]
  conv=>whnf
  obtain⟨t,ht⟩:∃ t,t=l.getD k ⟨0,0,0, []⟩:=⟨_,rfl⟩
  rw [<-ht] at hm hE |-
  have hS:∀ x∈l.map CI,AV.ltL x 0=true:=Wj l
  have hro:AV.ltL ((l.map CI).set k (Wl t 1)).flatten 2=true:=NJ hS rfl
  refine aLoop.ruleRR Nat (fun j=>([(0, .ow 0 l.length),(3, .v (.int .i64 k)),(9, .v (.int .i64 l.length)),(10, .v (.int .i64 k)),(27, .ow 1 t.images.length),(28, .v (.int .i64 t.images.length)),(29, .v (.int .i64 j))], [.rowo 45 4 ((l.map CI).set k (Wl t 1)) 2, .row 51 3 (t.images.map DE)])) (fun j=>j<=t.images.length) (fun j=>t.images.length - j) 0 (Ad _)
   (WkN.r (s:= [0,1]) ⟨⟨rfl,rfl,rfl,rfl,rfl,rfl,rfl,trivial⟩,⟨⟨hro,_,by rw [LG hS rfl];rfl⟩,rfl,trivial⟩,rfl,rfl,rfl,rfl,rfl⟩) ?_
  intro j hj
  conv=>whnf
  refine Aw (fun h7=>?_) (fun h7=>?_) <;> (repeat rw [Ab] at h7) <;> conv=>whnf
  ·have hj':j<t.images.length:=by omega
   have hF:(t.images.map DE).getD (j:Int).toNat []=DE (t.images.getD j ⟨0,0, []⟩):=by rw [Ab];exact AR hj'
   have hG:((l.map CI).set k (Wl t 1)).getD (k:Int).toNat []=Wl t 1:=by rw [Ab];exact By (by rw [Aa];exact hk')
   have b1:=CR (t.images.getD j ⟨0,0, []⟩).bytes (hm.2 _ (Ay hj'))
   refine⟨⟨by omega,by omega⟩,?_⟩
   conv=>whnf
   refine And.intro ⟨rfl,(Aa _).symm,by rw [Ab];exact hj'⟩ ?_
   conv=>whnf
   rw [hF]
   conv=>whnf
   apply aDraw.treeK (0) tys_ok mixed (.one 0 (.one 1 (.one 2 (.one 3 (.one 4 (.one 5 (.one 6 (.one 7 (.one 8 (.one 9 (.one 10 (.one 11 .fin)))))))))))) (by kernel_rfl)
   conv=>whnf
   try (refine And.intro (by first | omega | (simp;done)) ?_;conv=>whnf)
   try (first | (refine And.intro ⟨rfl,by rw [AO,Aa],by rw [Ab];exact hk'⟩ ?_;(conv=>whnf);rw [hG]) | skip;conv=>whnf)
   try (first | (refine And.intro ⟨rfl,by rw [AO,Aa],by rw [Ab];exact hk'⟩ ?_;(conv=>whnf);rw [hG]) | skip;conv=>whnf)
   refine Fn.cl b1 ?_
   conv=>whnf
   try (refine And.intro (by first | omega | (simp;done)) ?_;conv=>whnf)
   try (refine And.intro ⟨rfl,by first | rfl | (simp;done) | (simp;omega),by first | omega | (simp;omega)⟩ ?_;conv=>whnf)
   (first | rw [hF] | skip)
   conv=>whnf
   all_goals refine⟨j+1,hj',by omega,WkN.rc (ConvF.ofH (ConvH.subRow (k:=1) rfl (es':=t.images.map DE) (by simp) ?_)) (s:= [0,1]) ⟨⟨rfl,rfl,rfl,rfl,rfl,rfl,A7 (by omega),trivial⟩,⟨⟨hro,_,by rw [LG hS rfl];rfl⟩,rfl,trivial⟩,rfl,rfl,rfl,rfl,rfl⟩⟩
   all_goals
    intro i
    rw [Ab]
    refine F8 (f:=DE) (d:=(⟨0,0, []⟩:Img)) hj' ?_ i
    exact⟨fun _ _ h=>h,fun _ _ h=>h,fun _ _ h=>h,trivial⟩
  ·exact⟨k+1,hk',by omega,WkN.rc (ConvF.ofH (RY hk' ht)) (s:= [0]) ⟨⟨rfl,rfl,A7 (by omega),trivial⟩,⟨rfl,trivial⟩,rfl,rfl,rfl,rfl,rfl⟩⟩
 ·refine And.intro (Aa _).symm ?_
  exact⟨CW l,AH (f:=CI) l rfl rfl,rfl⟩
structure StSm (s:Stt):Prop where
 h:s.a.homes.length<=4/\∀ h∈s.a.homes,h.places.length<=1000000
 l:s.a.label.size<=24
 t:s.txns.length<=30/\∀ t∈s.txns,t.images.length<=30/\∀ i∈t.images,i.bytes.length<=59
 o:s.lost.length<=1000000
theorem st0_sm:StSm st0:=⟨⟨by simp [st0,an0],by simp [st0,an0]⟩,by show (0:Nat)<=24;omega,⟨by simp [st0],by simp [st0]⟩,by simp [st0]⟩
theorem Lr (s:Stt) (h:StSm s):Fn Tryz.prog 37 [.ag (EB s)] fun r=>r = .ag (EB s):=by
 have c1:=UO s.a (by have:=h.h.1;omega) h.h.2
 have c2:=QP s.txns (by have:=h.t.1;omega) (fun t ht=>⟨by have:=(h.t.2 t ht).1;omega,fun x hx=>by have:=(h.t.2 t ht).2 x hx;omega⟩)
 have c3:=KP s.lost (by have:=h.o;omega)
 refine Fn.st Tryz.func37 rfl ?_
 conv=>whnf
 apply aDraw.treeK (0) tys_ok mixed (.one 0 (.one 1 (.one 3 (.one 4 (.one 6 (.one 7 (.one 8 (.one 2 (.one 10 (.one 5 (.one 9 (.one 11 (.one 12 (.one 13 (.one 14 (.one 15 (.one 16 .fin))))))))))))))))) (by kernel_rfl)
 conv=>whnf
 refine Fn.cl c1 ?_
 conv=>whnf
 refine Fn.cl c2 ?_
 conv=>whnf
 (refine ACalls.beside c3 rfl ?_;rintro _ _ ⟨rfl,rfl⟩)
 conv=>whnf
 try (refine And.intro ⟨rfl,by first | rfl | (simp;done) | (simp;omega),by first | omega | (simp;omega)⟩ ?_;conv=>whnf)
 try (refine And.intro ⟨rfl,by first | rfl | (simp;done) | (simp;omega),by first | omega | (simp;omega)⟩ ?_;conv=>whnf)
 try (refine And.intro ⟨rfl,by first | rfl | (simp;done) | (simp;omega),by first | omega | (simp;omega)⟩ ?_;conv=>whnf)
 refine And.intro (Aa _).symm ?_
 exact⟨.ag (EB s),AG ⟨ri,ri,ri,ri,ri,ri,ri,ri,ri,ri,ri,ri,ri,QW rfl rfl,trivial⟩,rfl⟩
@[reducible] def bwD (g:Geo) (s:Stt) (d:Dk):List AB:= [.box 107 (Xm g (.bp 1 0) s), .box 113 (G3 (.ow 2 d.cells.length) (.ow 4 d.cache.length) d.reqs d.left), .dead, .dead, .dead]
theorem OW (g:Geo) (s:Stt) (d:Dk) (h:DkOk d):ACalls Tryz.prog false 36 [.bp 0 0] (bwG g s d) fun r H=>r = .ag (EH d)/\H=bwD g s d:=by
 have ht:=ON d (by have:=h.n;omega) (by have:=h.m;omega) (fun c hc=>by have:=(h.c c hc).2;omega) (fun w hw=>by have:=(h.w w hw).2;omega)
 refine ACalls.ofR tys_ok Tryz.func36 rfl rfl (Ac rfl) ?_
 conv=>whnf
 refine ACalls.shut ht.go ?_
 refine And.intro (Aa _).symm ?_
 refine And.intro (Aa _).symm ?_
 conv=>whnf
 refine ACalls.sub [.ag (EH d)] ⟨AG ⟨AH (f:=Bi) d.cells rfl rfl,AH (f:=D3) d.cache rfl rfl,ri,ri,trivial⟩,trivial⟩ ?_
 refine Fn.cl ht ?_
 exact⟨_, .ag (EH d),bwD g s d,fun _ _ h=>h,WkN.r (s:= [0,1,2,3,4]) ⟨⟨rfl,trivial⟩,⟨rfl,rfl,trivial,trivial,trivial,trivial⟩,rfl,rfl,rfl,rfl,rfl⟩,rfl,rfl⟩
theorem Tk (g:Geo) (d:Dk) (hg:A_ g=true) (h1:d.cells.length<=1000000) (h2:d.cache.length<=1000000):Fn Tryz.prog 47 [.ag (AF g), .ag (EH d)] fun r=>r = .v (.bool (L2 d&&decide ((d.cells.length:Int)=Aq g))):=by
 have c1:=Sx g hg
 have c2:=M5 d h1 h2
 refine Fn.st Tryz.func47 rfl ?_
 conv=>whnf
 refine Fn.cl c1 ?_
 conv=>whnf
 refine Fn.cl c2 ?_
 conv=>whnf
 cases hk:L2 d with
 | false=>
  exact⟨_,ri,rfl⟩
 | true=>
  exact⟨_,ri,rfl⟩
def dk0:Dk:=⟨[], [],0,0⟩
def ze (n:Int):AV:= .v (.int .i64 n)
def nilV:AV:= .v (.slice none 0 0)
theorem st0_sub:SubL [ze 0,ze 0,ze 0,ze 0,ze 0, .v (.string ⟨#[]⟩),nilV,nilV, .v (.bool false),ze 0,ze 0,ze 0,ze 0,nilV] (EB st0):=
 ⟨fun _ _ h=>h,fun _ _ h=>h,fun _ _ h=>h,fun _ _ h=>h,fun _ _ h=>h,fun _ _ h=>h,AX 3 _,AX 4 _,fun _ _ h=>h,fun _ _ h=>h,fun _ _ h=>h,fun _ _ h=>h,fun _ _ h=>h,AX 1 _,trivial⟩
theorem PK {g:Geo} {d:Dk} (h:(Cs g d).2.1≠0):(Cs g d).2.2=st0:=by
 unfold Cs at h |-
 split
 ·rename_i hl
  rw [if_pos hl] at h
  split
  ·rfl
  ·rename_i a j hp
   rw [hp] at h
   simp only at h
   unfold HM at h |-
   split
   ·rename_i hl2
    rw [if_pos hl2] at h
    unfold KH at h |-
    split
    ·rfl
    ·rename_i h3
     rw [if_neg h3] at h
     split
     ·rfl
     ·rename_i h4
      rw [if_neg h4] at h
      unfold KG at h |-
      split
      ·rfl
      ·rename_i h5
       rw [if_neg h5] at h
       simp only at h |-
       split
       ·rfl
       ·rename_i h6
        rw [if_neg h6] at h
        split
        ·rfl
        ·rename_i h7
         rw [if_neg h7] at h
         exact absurd rfl h
   ·rfl
 ·rfl
theorem Sc {g:Geo} {d:Dk} (hg:A_ g=true) (h:DkOk d) (hn:(d.cells.length:Int)=Aq g):DkOk (Cs g d).1/\(Cs g d).1.cells.length=d.cells.length:=by
 have ha:=h.adv g.an.toNat
 have hs:=(Fo g.an.toNat d).1
 have hpo:=fun {a j}=>It (g:=g) (l:=AZ d (C3 g)) hg (AZ d (C3 g)).length (a:=a) (j:=j)
 have hpo:∀ {a j},FD g (AZ d (C3 g))=some (a,j)->AN g a=true:=hpo
 unfold Cs
 split
 ·cases hP:FD g (AZ d (C3 g)) with
  | none=>exact⟨ha,by rw [hs]⟩
  | some q=>
   obtain⟨a,j⟩:=q
   have hao:=hpo hP
   simp only
   obtain⟨g1,g2,g3,g4,g5⟩:=Ak.1 hg
   generalize d.adv g.an.toNat=d1 at ha hs |-
   have ha2:=ha.adv (2*g.sl.toNat)
   have hs2:=(Fo (2*g.sl.toNat) d1).1
   have hx1:(AZ d1 (Bx g 0)).length=g.sl.toNat:=by rw [Dg,Ep]
   have hx2:(AZ d1 (Bx g 1)).length=g.sl.toNat:=by rw [Dg,Ep]
   have hlast:=Ks (x:=AZ d1 (Bx g 0)) (y:=AZ d1 (Bx g 1)) hg hao
   have hin:=Kr (x:=AZ d1 (Bx g 0)) (y:=AZ d1 (Bx g 1)) (n:=d.cells.length) hg hao (by omega) (by omega) hn
   unfold HM
   split
   ·generalize Dl g a (AZ d1 (Bx g 0)) (AZ d1 (Bx g 1))=S at hlast hin |-
    generalize d1.adv (2*g.sl.toNat)=d2 at ha2 hs2 |-
    have hn2:d2.cells.length=d.cells.length:=by rw [hs2,hs]
    unfold KH
    split
    ·exact⟨ha2,hn2⟩
    ·rename_i he
     have he:S.2.2=0:=by simpa using he
     have hin:=hin he
     have hdm:DkOk (d2.mend S.2.1).1/\(d2.mend S.2.1).1.cells.length=d.cells.length:=by
      unfold Dk.mend
      split
      ·exact⟨ha2,hn2⟩
      ·have:=FC ha2 (l:=S.2.1) (by rw [hn2];exact hin.1)
       exact⟨this.1,this.2.trans hn2⟩
     generalize (d2.mend S.2.1)=M at hdm |-
     split
     ·exact hdm
     ·unfold KG
      split
      ·exact hdm
      ·rename_i hmx
       have hna:=KF (n:=S.1.length) hao (fun e=>hmx (.inl e)) (fun e=>hmx (.inr e)) (hlast he).2
       have hpa:=FC hdm.1 (l:=Av g (CP a S.1.length)) (Ia hg hna (by rw [hdm.2];exact hn))
       rw [hdm.2] at hpa
       simp only
       split
       ·exact hpa
       ·split <;> exact hpa
   ·exact⟨ha2,by rw [hs2,hs]⟩
 ·exact⟨ha,by rw [hs]⟩
theorem ConvF.cap {fr:Fr} {H H':List AB} (i k:Nat) {y:AV} (hx:fget fr i = .bp k 0) (h:capK [.bp k 0] H fun l H2=>l=[y]/\H2=H'):ConvF fr H ((i,y)::fr) H':=fun _ _ c _ a hs hf=>by
 have hr:RdL [.bp k 0] c [a.tmps.getD i undef]:=by
  simp only [RdL]
  exact⟨_,_,rfl,hx ▸ hf.get i,rfl⟩
 obtain⟨l',H1,c1,⟨rfl,rfl⟩,e1,s1,x1,r⟩:=capK_sound hs hr h
 simp only [RdL] at r
 obtain⟨u,us,e,r1,rfl⟩:=r
 injection e with e _
 subst e
 exact⟨c1,e1,s1,(hf.ext x1).cons i _ r1,x1⟩
def BP (g:Geo):List Tx->Int->Int->Int->Bool
 | [],_,_,_=>true
 | t::r,seq,pos,left=>(decide (t.seq=seq)&&(decide (t.seq<=4294967295)&&(decide (t.pos=pos)&&(decide (2<=t.n)&&(decide (t.n<=left)&&(decide (t.n=t.images.length+1)&&t.images.all (Bl g)))))))&&BP g r (seq+1) ((pos+t.n).tmod g.sl) (left - t.n)
theorem TC (g:Geo) (x:Img) (hx:x.bytes.length<=100000):Fn Tryz.prog 103 [.ag (DE x), .rp (AF g)] fun r=>r = .v (.bool (!Bl g x)):=by
 have h:=So g x hx
 refine Fn.st Tryz.func103 rfl ?_
 conv=>whnf
 refine Fn.cl h ?_
 conv=>whnf
 cases Bl g x with
 | true=>exact⟨_,ri,rfl⟩
 | false=>exact⟨_,ri,rfl⟩
theorem WG (l:List Img) (g:Geo) (hb:∀ x∈l,x.bytes.length<=100000) (hl:l.length<=1000000):Fn Tryz.prog 176 [Ef l, .fn 103 [.rp (AF g)]] fun r=>r = .v (.int .i64 (UZ (fun x=>!Bl g x) l)):=by
 refine Fn.st Tryz.func176 rfl ?_
 conv=>whnf
 refine aLoop.rule Nat (fun k=>([(0,Ef l),(1, .fn 103 [.rp (AF g)]),(7, .v (.int .i64 l.length)),(8, .v (.int .i64 k))], [])) (fun k=>k<=l.length/\(l.take k).any (fun x=>!Bl g x)=false) (fun k=>l.length - k) 0 ⟨Ad _,by simp⟩ ⟨[],trivial,⟨rfl,rfl,rfl,rfl,trivial⟩,trivial,rfl,rfl,rfl⟩ ?_
 rintro k ⟨hk,hI⟩
 conv=>whnf
 refine Ah (fun h2=>?_) (fun h2=>?_) <;> simp at h2 <;> conv=>whnf
 ·refine⟨by first | omega | (refine⟨rfl,?_,?_⟩ <;> first | omega | (simp only [Aa];done) | (simp only [Aa];omega)) | (simp only [Aa];omega),?_⟩
  conv=>whnf
  refine Fn.closed (TC g (l.getD k ⟨0,0, []⟩) (hb _ (Ay h2))) rfl ?_
  rintro _ rfl
  conv=>whnf
  refine Ah (fun h3=>?_) (fun h3=>?_) <;> conv=>whnf
  ·exact⟨_,ri,by rw [JX (d:=⟨0,0, []⟩) h2 hI (by first | exact h3 | (rw [Ab] at h3;exact h3) | simpa using h3)]⟩
  ·refine⟨k+1,⟨by omega,E7 (d:=⟨0,0, []⟩) h2 hI (by first | exact h3 | (rw [Ab] at h3;exact h3) | simpa using h3)⟩,by omega, [],trivial,⟨rfl,rfl,rfl,A7 (by omega),trivial⟩,trivial,rfl,rfl,rfl⟩
 ·exact⟨_,ri,by rw [Ar h2] at hI;rw [I1 hI]⟩
theorem WH (l:List Img) (g:Geo) (hb:∀ x∈l,x.bytes.length<=100000) (hl:l.length<=1000000):Fn Tryz.prog 105 [Ef l, .fn 103 [.rp (AF g)]] fun r=>r = .v (.bool (l.any (fun x=>!Bl g x))):=by
 refine Fn.st Tryz.func105 rfl ?_
 conv=>whnf
 refine Fn.cl (WG l g hb hl) ?_
 exact⟨_,ri,by rw [Nn]⟩

theorem MW (g:Geo) (a:An) (l:List Tx) (hl:a.label.size<=1000000) (hh:a.homes.length<=1000000) (hn:l.length<=1000000) (hi:∀ t∈l,t.images.length<=1000000/\∀ x∈t.images,x.bytes.length<=100000):Fn Tryz.prog 48 [.ag (AF g), .ag (Dx a),CW l] fun r=>r = .v (F3 ((A_ g&&AN g a)&&BP g l a.seq a.pos g.sl)):=by
 have hA:=Jq g a hl hh
 cases hga:A_ g&&AN g a with
 | false=>
  rw [hga] at hA
  rw [Cz]
  refine Fn.st Tryz.func48 rfl ?_
  conv=>whnf
  refine Fn.cl hA ?_
  exact⟨_,ri,rfl⟩
 | true=>
  rw [hga] at hA
  rw [Bj]
  obtain⟨hg,ha⟩:=Bool.and_eq_true_iff.1 hga
  obtain⟨g1,g2,g3,g4,g5⟩:=Ak.1 hg
  have hp:=Fm ha
  refine Fn.st Tryz.func48 rfl ?_
  conv=>whnf
  refine Fn.cl hA ?_
  conv=>whnf
  refine aDraw.seq tys_ok mixed (by kernel_rfl) ?_
  conv=>whnf
  refine aLoop.ruleRR (Nat × Int × Int × Int) (fun x=>([(2,CW l),(3, .rp (AF g)),(8, .v (.int .i64 x.2.1)),(9, .v (.int .i64 x.2.2.1)),(10, .v (.int .i64 x.2.2.2)),(26,CW l),(27, .v (.int .i64 l.length)),(28, .v (.int .i64 x.1))], []))
   (fun x=>x.1<=l.length/\(0<=x.2.1/\x.2.1<g.sl)/\(0<=x.2.2.1/\x.2.2.1<=4294967296)/\(0<=x.2.2.2/\x.2.2.2<=30)/\BP g l a.seq a.pos g.sl=BP g (l.drop x.1) x.2.2.1 x.2.1 x.2.2.2) (fun x=>l.length - x.1) (0,a.pos,a.seq,g.sl) ⟨Ad _,by show 0<=a.pos/\a.pos<g.sl;omega,by show 0<=a.seq/\a.seq<=4294967296;omega,by show 0<=g.sl/\g.sl<=30;omega,rfl⟩
   ?_ ?_
  ·exact WkN.rc (ConvF.cap 3 0 (y:= .rp (AF g)) rfl (by (conv=>whnf);exact⟨rfl,rfl⟩)) (s:= []) ⟨⟨rfl,rfl,rfl,rfl,rfl,rfl,rfl,rfl,trivial⟩,trivial,rfl,rfl,rfl,rfl,rfl⟩
  rintro⟨k,pos,seq,left⟩ ⟨hk,b1,b2,b3,hI⟩
  simp only at hk b1 b2 b3 hI |-
  conv=>whnf
  refine Aw (fun h6=>?_) (fun h6=>?_) <;> (repeat rw [Ab] at h6) <;> conv=>whnf
  ·have hk':k<l.length:=by omega
   have hm:=hi _ (Ay (d:=(⟨0,0,0, []⟩:Tx)) hk')
   have hdr:l.drop k=l.getD k ⟨0,0,0, []⟩::l.drop (k+1):=by
    rw [List.getD_eq_getElem?_getD,List.getElem?_eq_getElem hk'];exact AL hk'
   rw [hdr,BP] at hI
   repeat' (first | (refine aSeq.go ?_;conv=>whnf) | fail)
   refine⟨⟨by omega,by omega⟩,?_⟩
   conv=>whnf
   rw [Ab]
   generalize l.getD k ⟨0,0,0, []⟩=t at hm hI |-
   have hcf:=WH t.images g hm.2 hm.1
   rw [show (t.images.any fun x=>!Bl g x) = !t.images.all (Bl g) by rw [B7,Bool.not_not]] at hcf
   have wn:IntKind.i64.wrap ((t.images.length:Int)+1)=t.images.length+1:=wi (by omega)
   generalize hAll:t.images.all (Bl g)=Q at hcf hI
   generalize hC:(decide (t.seq=seq)&&(decide (t.seq<=4294967295)&&(decide (t.pos=pos)&&(decide (2<=t.n)&&(decide (t.n<=left)&&(decide (t.n=t.images.length+1)&&Q))))))=C at hI
   clear hAll hm hi hdr hA
   conv=>whnf
   repeat' (first | (refine aSeq.go ?_;conv=>whnf) | fail)
   repeat' (first | (refine Ah (fun h=>?_) (fun h=>?_) <;> (try simp at h) <;> conv=>whnf) | (refine aSeq.go ?_;conv=>whnf) | (refine Fn.cl hcf ?_;conv=>whnf))
   all_goals try (exact⟨_,ri,by rw [hI,show C=false by (rw [<-hC,<-Bw];clear hI hC hcf;simp [*] <;> omega)];rfl⟩)
   have hC1:C=true:=by rw [<-hC];clear hI hC hcf;simp [*] <;> omega
   rw [hC1,Bj] at hI
   have wn':t.n=t.images.length+1:=by omega
   have w1:IntKind.i64.wrap (pos+t.n)=pos+t.n:=wi (by omega)
   have w2:IntKind.i64.wrap (seq+1)=seq+1:=wi (by omega)
   have w3:IntKind.i64.wrap (left - t.n)=left - t.n:=wi (by omega)
   apply aDraw.treeK (0) tys_ok mixed (.one 0 (.one 1 (.one 2 (.one 3 (.one 4 (.one 5 (.one 6 (.one 7 (.one 8 (.one 9 (.one 10 (.one 11 (.one 12 (.one 13 (.one 14 (.one 15 .fin)))))))))))))))) (by kernel_rfl)
   conv=>whnf
   try (refine And.intro (by first | omega | (simp;done)) ?_;conv=>whnf)
   rw [w1,w2,w3]
   have hq1:=Bo g.sl (show 0<=pos+t.n by omega)
   have hq2:=Int.tmod_lt_of_pos (pos+t.n) (show 0<g.sl by omega)
   exact⟨(k+1,(pos+t.n).tmod g.sl,seq+1,left - t.n),⟨hk',⟨hq1,hq2⟩,(show 0<=seq+1/\seq+1<=4294967296 by omega),(show 0<=left - t.n/\left - t.n<=30 by omega),hI⟩,(show l.length - (k+1)<l.length - k by omega),WkN.r (s:= []) ⟨⟨rfl,rfl,rfl,rfl,rfl,rfl,rfl,A7 (by omega),trivial⟩,trivial,rfl,rfl,rfl,rfl,rfl⟩⟩
  ·have ek:k=l.length:=by omega
   subst ek
   exact⟨_,ri,by rw [hI,List.drop_length];rfl⟩
def FT (g:Geo):Int:=1+g.sl+g.z*(2+g.d)
theorem ND {g:Geo} (hg:A_ g=true):18<=FT g/\FT g<=55/\(3<=g.z*(2+g.d)/\g.z*(2+g.d)<=24):=by
 obtain⟨g1,g2,g3,g4,g5⟩:=Ak.1 hg
 have h1:g.z*(2+g.d)<=4*6:=Int.mul_le_mul (by omega) (by omega) (by omega) (by omega)
 have h2:1*3<=g.z*(2+g.d):=Int.mul_le_mul (by omega) (by omega) (by omega) (by omega)
 unfold FT
 omega
theorem SX (g:Geo) (hg:A_ g=true):Fn Tryz.prog 49 [.ag (AF g)] fun r=>r = .v (.int .i64 (FT g)):=by
 obtain⟨g1,g2,g3,g4,g5⟩:=Ak.1 hg
 have hu:=ND hg
 have w:IntKind.i64.wrap (IntKind.i64.wrap (1+g.sl)+IntKind.i64.wrap (g.z*IntKind.i64.wrap (2+g.d)))=FT g:=by
  rw [wi (n:=2+g.d) (by omega),wi (n:=g.z*(2+g.d)) (by omega),wi (n:=1+g.sl) (by omega)]
  exact wi (by unfold FT at hu;omega)
 refine Fn.st Tryz.func49 rfl ?_
 exact⟨_,ri,by rw [w]⟩
def KJ (n:Int) (l:List Int) (i:Nat):Bool:=decide (0<=l.getD i 0)&&(decide (l.getD i 0<n)&&(decide (i=0) || decide (l.getD (i - 1) 0<l.getD i 0)))
def KL (n:Int) (l:List Int):Bool:=(List.range l.length).all (KJ n l)
theorem Se {n:Int} {l:List Int} {k:Nat} (h:(List.range k).all (KJ n l)=true) (e:KJ n l k=true):(List.range (k+1)).all (KJ n l)=true:=by
 rw [Bb,Co,h,Bj,AK,e];rfl
theorem VJ {n:Int} {l:List Int} {k:Nat} (hk:k<l.length) (e:KJ n l k=false):KL n l=false:=by
 rw [KL,<-Bw,Ao]
 intro h
 rw [h k (A6.2 hk)] at e
 cases e
def DY (g:Geo) (s:Stt):Bool:=KL (g.z*g.d) s.lost&&(decide (0<=s.found)&&(decide (0<=s.fixed)&&decide (0<=s.moved)))
def Yl (s:Stt):List AV:= [.v (.int .i64 s.found), .v (.int .i64 s.fixed), .v (.int .i64 s.moved),iA s.lost]
theorem Qu (g:Geo) (s:Stt) (hg:A_ g=true) (hl:s.lost.length<=1000000):Fn Tryz.prog 50 [.ag (AF g), .ag (Yl s)] fun r=>r = .v (.bool (DY g s)):=by
 obtain⟨g1,g2,g3,g4,g5⟩:=Ak.1 hg
 have hm1:g.z*g.d<=4*4:=Int.mul_le_mul (by omega) (by omega) (by omega) (by omega)
 have hm0:0<=g.z*g.d:=CT (by omega) (by omega)
 have wm:IntKind.i64.wrap (g.z*g.d)=g.z*g.d:=wi (by omega)
 refine Fn.st Tryz.func50 rfl ?_
 conv=>whnf
 refine aLoop.ruleRR Nat (fun k=>([(2, .bp 0 0),(3, .bp 1 0),(8,iA s.lost),(9, .v (.int .i64 s.lost.length)),(10, .v (.int .i64 k))], [.box 23 (AF g), .box 32 (Yl s)])) (fun k=>k<=s.lost.length/\(List.range k).all (KJ (g.z*g.d) s.lost)=true) (fun k=>s.lost.length - k) 0 ⟨Ad _,rfl⟩
  (WkN.r (s:= [0,1]) ⟨⟨rfl,rfl,rfl,rfl,rfl,trivial⟩,⟨rfl,rfl,trivial⟩,rfl,rfl,rfl,rfl,rfl⟩) ?_
 rintro k ⟨hk,hI⟩
 conv=>whnf
 refine Aw (fun h6=>?_) (fun h6=>?_) <;> (repeat rw [Ab] at h6) <;> conv=>whnf
 ·have hk':k<s.lost.length:=by omega
  have hno:=VJ (n:=g.z*g.d) hk'
  have hyes:=Se hI (n:=g.z*g.d) (l:=s.lost)
  unfold KJ at hno hyes
  repeat' (first | (refine aSeq.go ?_;conv=>whnf) | fail)
  refine⟨⟨by omega,by omega⟩,?_⟩
  conv=>whnf
  repeat' (first | (refine aSeq.go ?_;conv=>whnf) | fail)
  rw [Ab]
  refine Aw (fun q1=>?_) (fun q1=>?_)
  ·conv=>whnf
   exact⟨_,ri,by rw [DY,hno (by rw [<-Bw];simp only [Bool.and_eq_true,Ca,decide_eq_true_eq];omega),Cz]⟩
  ·conv=>whnf
   rw [wm]
   refine Aw (fun q2=>?_) (fun q2=>?_)
   ·conv=>whnf
    exact⟨_,ri,by rw [DY,hno (by rw [<-Bw];simp only [Bool.and_eq_true,Ca,decide_eq_true_eq];omega),Cz]⟩
   ·conv=>whnf
    have wk:IntKind.i64.wrap ((k:Int) - 1)=(k:Int) - 1:=wi (by omega)
    refine Aw (fun q3=>?_) (fun q3=>?_)
    ·conv=>whnf
     rw [wk]
     refine⟨⟨by omega,by omega⟩,?_⟩
     conv=>whnf
     rw [show ((k:Int) - 1).toNat=k - 1 by omega]
     refine Aw (fun q4=>?_) (fun q4=>?_)
     ·conv=>whnf
      exact⟨_,ri,by rw [DY,hno (by rw [<-Bw];simp only [Bool.and_eq_true,Ca,decide_eq_true_eq];omega),Cz]⟩
     ·conv=>whnf
      exact⟨k+1,⟨hk',hyes (by simp only [Bool.and_eq_true,Ca,decide_eq_true_eq];omega)⟩,by omega,WkN.r (s:= [0,1]) ⟨⟨rfl,rfl,rfl,rfl,A7 (by omega),trivial⟩,⟨rfl,rfl,trivial⟩,rfl,rfl,rfl,rfl,rfl⟩⟩
    ·conv=>whnf
     exact⟨k+1,⟨hk',hyes (by simp only [Bool.and_eq_true,Ca,decide_eq_true_eq];omega)⟩,by omega,WkN.r (s:= [0,1]) ⟨⟨rfl,rfl,rfl,rfl,A7 (by omega),trivial⟩,⟨rfl,rfl,trivial⟩,rfl,rfl,rfl,rfl,rfl⟩⟩
 ·have ek:k=s.lost.length:=by omega
  have hlo:KL (g.z*g.d) s.lost=true:=by rw [KL,<-ek];exact hI
  refine⟨_,fun _ _ h=>h,?_⟩
  rw [DY,hlo,Bj]
  refine congrArg (fun b=>AV.v (.bool b)) ?_
  rw [C5]
  simp only [Bool.and_eq_true,decide_eq_true_eq]
  repeat' split
  all_goals omega
def Pj (g:Geo) (d:Dk) (s:Stt):Bool:=A_ g&&((L2 d&&decide ((d.cells.length:Int)=Aq g))&&(((A_ g&&AN g s.a)&&BP g s.txns s.a.seq s.a.pos g.sl)&&(decide (0<=s.cursor)&&(decide (s.cursor<FT g)&&DY g s))))
structure StBig (s:Stt):Prop where
 l:s.a.label.size<=1000000
 h:s.a.homes.length<=1000000
 t:s.txns.length<=1000000/\∀ t∈s.txns,t.images.length<=1000000/\∀ x∈t.images,x.bytes.length<=100000
 o:s.lost.length<=1000000
theorem SJ (g:Geo) (d:Dk) (s:Stt) (h1:d.cells.length<=1000000) (h2:d.cache.length<=1000000) (hs:StBig s):Fn Tryz.prog 17 [.ag (AF g), .ag (EH d), .ag (EB s)] fun r=>r = .v (F3 (Pj g d s)):=by
 have hG:Fn Tryz.prog 46 [.ag (AF g)] fun r=>r = .v (F3 (A_ g)):=EV g.z g.d g.sp g.sl g.an
 unfold Pj
 cases hg:A_ g with
 | false=>
  rw [hg] at hG
  refine Fn.st Tryz.func17 rfl ?_
  conv=>whnf
  refine Fn.cl hG ?_
  exact⟨_,ri,rfl⟩
 | true=>
  rw [hg] at hG
  have hz:=Tk g d hg h1 h2
  have hr:=MW g s.a s.txns hs.l hs.h hs.t.1 hs.t.2
  rw [hg] at hr
  have hu:=SX g hg
  have hh:=Qu g s hg hs.o
  generalize (L2 d&&decide ((d.cells.length:Int)=Aq g))=Z at hz |-
  generalize ((true&&AN g s.a)&&BP g s.txns s.a.seq s.a.pos g.sl)=R at hr |-
  generalize DY g s=Q at hh |-
  generalize FT g=U at hu |-
  cases Z with
  | false=>
   refine Fn.st Tryz.func17 rfl ?_
   conv=>whnf
   refine Fn.cl hG ?_
   conv=>whnf
   refine Fn.cl hz ?_
   exact⟨_,ri,rfl⟩
  | true=>
   cases R with
   | false=>
    refine Fn.st Tryz.func17 rfl ?_
    conv=>whnf
    refine Fn.cl hG ?_
    conv=>whnf
    refine Fn.cl hz ?_
    conv=>whnf
    refine Fn.cl hr ?_
    exact⟨_,ri,rfl⟩
   | true=>
    refine Fn.st Tryz.func17 rfl ?_
    conv=>whnf
    refine Fn.cl hG ?_
    conv=>whnf
    refine Fn.cl hz ?_
    conv=>whnf
    refine Fn.cl hr ?_
    conv=>whnf
    refine aDraw.seq tys_ok mixed (by kernel_rfl) ?_
    conv=>whnf
    refine Aw (fun q1=>?_) (fun q1=>?_)
    ·conv=>whnf
     exact⟨_,ri,by rw [decide_eq_false (by omega)];rfl⟩
    ·conv=>whnf
     refine Fn.cl hu ?_
     conv=>whnf
     refine Aw (fun q2=>?_) (fun q2=>?_)
     ·conv=>whnf
      exact⟨_,ri,by rw [decide_eq_true (p:=0<=s.cursor) (by omega),decide_eq_false (p:=s.cursor<U) (by omega)];rfl⟩
     ·conv=>whnf
      refine Fn.cl hh ?_
      conv=>whnf
      rw [decide_eq_true (p:=0<=s.cursor) (by omega),decide_eq_true (p:=s.cursor<U) (by omega)]
      cases Q with
      | false=>exact⟨_,ri,rfl⟩
      | true=>exact⟨_,ri,rfl⟩



def sumT:List Tx->Int
 | []=>0
 | t::r=>t.n+sumT r
theorem sumT_app:∀ l m:List Tx,sumT (l ++ m)=sumT l+sumT m
 | [],m=>by simp [sumT]
 | t::r,m=>by
  show t.n+sumT (r ++ m)=_
  rw [sumT_app r m,sumT]
  omega
theorem L8 {l:List Tx} (h:∀ t∈l,0<=t.n/\t.n<=30):∀ k:Nat,k<=l.length->Gr l k=sumT (l.take k)
 | 0,_=>by simp [Gr,sumT]
 | k+1,hk=>by
  have e:l.take (k+1)=l.take k ++ [l.getD k tz]:=by
   rw [AQ,List.getElem?_eq_getElem (by omega),List.getD_eq_getElem?_getD,List.getElem?_eq_getElem (by omega)]
   rfl
  have hm:=h _ (Ay (d:=tz) (show k<l.length by omega))
  rw [Gr,L8 h k (by omega),e,sumT_app,Hs,if_pos hm]
  simp [sumT]
theorem Ro {l:List Tx} (h:∀ t∈l,0<=t.n/\t.n<=30):D7 l=sumT l:=by
 have:=L8 h l.length (Nat.le_refl _)
 rwa [List.take_length] at this
theorem Ru {p n s q:Int} (hs:0<s) (hp:0<=p) (hn:0<=n) (hq:0<=q):((p+n).tmod s+q).tmod s=(p+(n+q)).tmod s:=by
 have h1:0<=(p+n).tmod s:=Bo _ (by omega)
 rw [AI (a:=p+n) (by omega)] at h1 |-
 rw [AI (by omega),AI (by omega),Int.emod_add_emod,Int.add_assoc]
theorem Vg {l:List Tx} (h:∀ t∈l,0<=t.n/\t.n<=30):0<=sumT l:=by
 induction l with
 | nil=>simp [sumT]
 | cons t r ih=>
  have:=h t (by simp)
  have:=ih fun x hx=>h x (AE _ hx)
  rw [sumT]
  omega
theorem F9 {g:Geo} (hg:A_ g=true):∀ {l:List Tx} {seq pos left:Int},left<=g.sl->BP g l seq pos left=true->(∀ t∈l,0<=t.n/\t.n<=30)/\sumT l<=max left 0
 | [],_,_,left,_,_=>⟨by simp,by simp [sumT];omega⟩
 | t::r,seq,pos,left,hl,h=>by
  obtain⟨g1,g2,g3,g4,g5⟩:=Ak.1 hg
  simp only [BP,Bool.and_eq_true,decide_eq_true_eq] at h
  obtain⟨⟨h1,h2,h3,h4,h5,h6,h7⟩,h8⟩:=h
  have ih:=F9 hg (by omega) h8
  refine⟨fun x hx=>?_,?_⟩
  ·rcases A9.1 hx with rfl | hx
   ·omega
   ·exact ih.1 x hx
  ·rw [sumT]
   have:=ih.2
   omega
theorem J3 {g:Geo} (hg:A_ g=true) {x:Tx}:∀ {l:List Tx} {seq pos left:Int},0<=pos->pos<g.sl->left<=g.sl->BP g l seq pos left=true->x.seq=seq+l.length->x.seq<=4294967295->x.pos=(pos+sumT l).tmod g.sl->2<=x.n->x.n<=left - sumT l->x.n=x.images.length+1->x.images.all (Bl g)=true->BP g (l ++ [x]) seq pos left=true
 | [],seq,pos,left,h0,h1,_,_,e1,e2,e3,e4,e5,e6,e7=>by
  have e3':x.pos=pos:=by
   rw [e3,show sumT []=0 from rfl,Int.add_zero,AI h0,Int.emod_eq_of_lt h0 h1]
  simp only [AJ] at e1
  have e1':x.seq=seq:=by omega
  have e5':x.n<=left:=by have:sumT []=0:=rfl;omega
  show (decide (x.seq=seq)&&(decide (x.seq<=4294967295)&&(decide (x.pos=pos)&&(decide (2<=x.n)&&(decide (x.n<=left)&&(decide (x.n=x.images.length+1)&&x.images.all (Bl g)))))))&&true=true
  rw [decide_eq_true e1',decide_eq_true e2,decide_eq_true e3',decide_eq_true e4,decide_eq_true e5',decide_eq_true e6,e7]
  rfl
 | t::r,seq,pos,left,h0,h1,hl,h,e1,e2,e3,e4,e5,e6,e7=>by
  obtain⟨g1,g2,g3,g4,g5⟩:=Ak.1 hg
  have hh:=h
  simp only [BP,Bool.and_eq_true,decide_eq_true_eq] at hh
  obtain⟨⟨q1,q2,q3,q4,q5,q6,q7⟩,q8⟩:=hh
  have hin:=(F9 hg (by omega) q8).1
  have hnn:=Vg hin
  have hp0:0<=(pos+t.n).tmod g.sl:=Bo _ (by omega)
  have hp1:(pos+t.n).tmod g.sl<g.sl:=Int.tmod_lt_of_pos _ (by omega)
  rw [sumT] at e3 e5
  have ih:=J3 hg (x:=x) hp0 hp1 (by omega) q8 (by rw [e1];simp only [Ag];omega) e2 (by rw [e3,Ru (by omega) h0 (by omega) hnn]) e4 (by omega) e6 e7
  show (_&&BP g (r ++ [x]) (seq+1) ((pos+t.n).tmod g.sl) (left - t.n))=true
  rw [ih,Bk]
  simp only [BP,Bool.and_eq_true] at h
  simpa using h.1
def Gx (ats:List Int) (bs:List (List UInt8)) (i:Nat):Nat->Option (List UInt8)
 | 0=>none
 | k+1=>if ats.getD k 0=(i:Int) then some (bs.getD k []) else Gx ats bs i k
def JK (g:Geo) (t:List Ent) (had:List (List UInt8)) (ats:List Int) (bs:List (List UInt8)) (i:Nat):List UInt8:=match Gx ats bs i ats.length with
 | some b=>b
 | none=>HU g t had i
def Nm (g:Geo) (t:List Ent) (had:List (List UInt8)) (ats:List Int) (bs:List (List UInt8)) (stamp:Int) (i:Nat):Ent:=
 let e:Ent:=match Gx ats bs i ats.length with
  | some b=>⟨stamp,(CG b:Nat),false⟩
  | none=>t.getD i ez
 if (JK g t had ats bs i).length=0 then { e with lost:=true } else e
def Fc (g:Geo) (t:List Ent) (had:List (List UInt8)) (ats:List Int) (bs:List (List UInt8)):Nat->List UInt8
 | 0=>zero8
 | k+1=>if (JK g t had ats bs k).length=0 then Fc g t had ats bs k else Hn (Fc g t had ats bs k) (JK g t had ats bs k)
def BK (g:Geo) (t:List Ent) (had:List (List UInt8)) (ats:List Int) (bs:List (List UInt8)) (stamp:Int):List Ent:=(List.range g.d.toNat).map (Nm g t had ats bs stamp) ++ [⟨stamp,(CG (Fc g t had ats bs g.d.toNat):Nat),false⟩]
def Dz (z:Int) (t:List Ent) (par:List UInt8) (ats:List Int) (bs:List (List UInt8)):List Img:=((List.range ats.length).map fun i=>⟨z,ats.getD i 0,bs.getD i []⟩) ++ [⟨z, -1,par⟩,⟨z,255,Cp t⟩]
theorem GZ (b:List UInt8):CG b<=4294967295:=by unfold CG;omega
theorem Kb (a b:List UInt8):(Hn a b).length=min a.length b.length:=by simp [Hn]
theorem GG {t:List Ent} {had:List (List UInt8)} {at_:Nat} (hh:∀ b∈had,b.length=0\/b.length=8):∀ (k:Nat) (b:List UInt8),Di t had at_ k=some b->b.length=8
 | 0,b,h=>by
  obtain rfl:=Option.some.inj h
  rfl
 | k+1,b,h=>by
  rw [Di] at h
  cases hk:Di t had at_ k with
  | none=>rw [hk] at h;cases h
  | some c=>
   rw [hk] at h
   have ih:=GG hh k c hk
   simp only at h
   split at h
   ·obtain rfl:=Option.some.inj h
    exact ih
   ·split at h
    ·cases h
    ·rename_i h0
     obtain rfl:=Option.some.inj h
     have hm:(had.getD k []).length=8:=by
      by_cases hk':k<had.length
      ·rcases hh _ (Ay (d:= []) hk') with q | q
       ·exact absurd q h0
       ·exact q
      ·rw [List.getD_eq_getElem?_getD,List.getElem?_eq_none (by omega)] at h0
       exact absurd rfl h0
     rw [Kb,ih,hm]
     rfl
theorem PP {g:Geo} {t:List Ent} {had:List (List UInt8)} (hh:∀ b∈had,b.length=0\/b.length=8) (i:Nat):(HU g t had i).length=0\/(HU g t had i).length=8:=by
 unfold HU
 split
 ·exact .inl rfl
 ·split
  ·rename_i h0
   by_cases hk':i<had.length
   ·exact hh _ (Ay (d:= []) hk')
   ·rw [List.getD_eq_getElem?_getD,List.getElem?_eq_none (by omega)] at h0
    exact absurd h0 (by simp)
  ·cases ho:Di t had i (g.d.toNat+1) with
   | none=>exact .inl rfl
   | some b=>
    simp only
    split
    ·exact .inr (GG hh _ _ ho)
    ·exact .inl rfl
section
variable {g:Geo} {t:List Ent} {had:List (List UInt8)} {ats:List Int} {bs:List (List UInt8)}
theorem LU (hb:∀ b∈bs,b.length=8) (hl:ats.length<=bs.length) {i:Nat}:∀ (k:Nat) (b:List UInt8),k<=ats.length->Gx ats bs i k=some b->b.length=8
 | k+1,b,hk,h=>by
  rw [Gx] at h
  split at h
  ·obtain rfl:=Option.some.inj h
   exact hb _ (Ay (d:= []) (by omega))
  ·exact LU hb hl k b (by omega) h
theorem Ot (hh:∀ b∈had,b.length=0\/b.length=8) (hb:∀ b∈bs,b.length=8) (hl:ats.length<=bs.length) (i:Nat):(JK g t had ats bs i).length=0\/(JK g t had ats bs i).length=8:=by
 unfold JK
 cases hp:Gx ats bs i ats.length with
 | none=>exact PP hh i
 | some b=>exact .inr (LU hb hl _ b (Nat.le_refl _) hp)
theorem GF (hh:∀ b∈had,b.length=0\/b.length=8) (hb:∀ b∈bs,b.length=8) (hl:ats.length<=bs.length):∀ k:Nat,(Fc g t had ats bs k).length=8
 | 0=>rfl
 | k+1=>by
  have ih:=GF hh hb hl k
  rw [Fc]
  split
  ·exact ih
  ·rename_i h0
   rcases Ot (g:=g) (t:=t) hh hb hl k with q | q
   ·exact absurd q h0
   ·rw [Kb,ih,q]
    rfl
theorem Js (hg:A_ g=true) (ht:FE g t=true) {stamp:Int} (hs:0<=stamp/\stamp<=4294967295):FE g (BK g t had ats bs stamp)=true:=by
 obtain⟨g1,g2,g3,g4,g5⟩:=Ak.1 hg
 have hsum:∀ b:List UInt8,Gy ((CG b:Nat):Int)=true:=fun b=>A0.2 (by have:=GZ b;omega)
 have hst:Gy stamp=true:=A0.2 hs
 have hl:(BK g t had ats bs stamp).length=g.d.toNat+1:=by simp [BK]
 rw [FE,hg] at ht
 simp only [Bj,Bool.and_eq_true,decide_eq_true_eq,AU] at ht
 obtain⟨⟨t1,t2⟩,t3⟩:=ht
 rw [FE,hg,decide_eq_true (by rw [hl];omega)]
 have hall:(BK g t had ats bs stamp).all CF=true:=by
  rw [Ao]
  intro x hx
  simp only [BK,At,A8,A6,A5] at hx
  rcases hx with ⟨i,hi,rfl⟩ | rfl
  ·have he:∀ e:Ent,CF e=true->CF { e with lost:=true }=true:=fun e h=>h
   have h0:CF (match Gx ats bs i ats.length with | some b=>(⟨stamp,(CG b:Nat),false⟩:Ent) | none=>t.getD i ez)=true:=by
    cases Gx ats bs i ats.length with
    | some b=>simp only [CF,hst,hsum,Bool.and_self]
    | none=>exact Ao.1 t2 _ (Ay (d:=ez) (by omega))
   unfold Nm
   simp only
   split
   ·exact he _ h0
   ·exact h0
  ·simp only [CF,hst,hsum,Bool.and_self]
 rw [hall]
 have hla:Gf (BK g t had ats bs stamp) g.d.toNat=false:=by
  unfold Gf BK
  rw [List.getElem?_append_right (by simp)]
  simp
 rw [hla]
 rfl
end
theorem Qd {x:Ent} (h:CF x=true) (r:List UInt8):Hz (H_ x ++ r)=x:=by
 obtain⟨a,s,l⟩:=x
 simp only [CF,Gy,Bool.and_eq_true,A0] at h
 have hn:nums [4,4,1] (rowB [a,s,Cm l] [4,4,1] ++ r)=[a,s,Cm l]:=nums_rowB [a,s,Cm l] [4,4,1] r rfl (fun k h1 _=>by
  match k,h1 with
  | 0,_=>exact⟨.inr (.inr rfl),h.1.1,by show a<4294967296;omega⟩
  | 1,_=>exact⟨.inr (.inr rfl),h.2.1,by show s<4294967296;omega⟩
  | 2,_=>exact⟨.inl rfl,by show 0<=Cm l;unfold Cm;split <;> decide,by show Cm l<256;unfold Cm;split <;> decide⟩)
 unfold Hz H_
 rw [hn]
 cases l <;> rfl
theorem entsOf_tblB:∀ (t:List Ent),(∀ e∈t,CF e=true)->entsOf t.length (Cp t)=t
 | [],_=>rfl
 | e::t,h=>by
  have e1:Cp (e::t)=H_ e ++ Cp t:=by simp [Cp]
  have e2:(H_ e ++ Cp t).drop 9=Cp t:=by
   rw [List.drop_append_of_le_length (by rw [IA];exact Nat.le_refl _),Au (by rw [IA];exact Nat.le_refl _)]
   rfl
  show Hz (Cp (e::t))::entsOf t.length ((Cp (e::t)).drop 9)=e::t
  rw [e1,e2,Qd (h e (by simp)),entsOf_tblB t fun x hx=>h x (AE _ hx)]
theorem K3 {g:Geo} {t:List Ent} (ht:FE g t=true):Ck g (Cp t)=some t:=by
 have hh:=ht
 simp only [FE,Bool.and_eq_true,decide_eq_true_eq,Ao] at hh
 obtain⟨⟨⟨_,t1⟩,t2⟩,_⟩:=hh
 have e:(g.d+1).toNat=t.length:=by omega
 unfold Ck
 rw [e,entsOf_tblB t t2,if_pos ⟨ht,rfl⟩]
def OneTab (l:List Img):Prop:=l.Pairwise fun x y=>x.what=255->y.what=255->x.zone≠y.zone
theorem GO (z:Int) (t:List Ent) (par:List UInt8) (ats:List Int) (bs:List (List UInt8)):(Dz z t par ats bs).length=ats.length+2:=by simp [Dz]
theorem PV {g:Geo} (hg:A_ g=true) {z:Int} (hz:0<=z/\z<g.z) {t:List Ent} (ht:FE g t=true) {par:List UInt8} (hp:par.length=8) {ats:List Int} (ha:∀ a∈ats,0<=a/\a<g.d) {bs:List (List UInt8)} (hb:∀ b∈bs,b.length=8) (hl:ats.length<=bs.length):∀ x∈Dz z t par ats bs,Bl g x=true/\x.zone=z:=by
 obtain⟨g1,g2,g3,g4,g5⟩:=Ak.1 hg
 have hz':Cb z 0 (g.z - 1)=true:=A0.2 (by omega)
 intro x hx
 simp only [Dz,At,A8,A6,A9,List.not_mem_nil,or_false] at hx
 rcases hx with ⟨i,hi,rfl⟩ | rfl | rfl
 ·have h1:=ha _ (Ay (d:=0) hi)
  have h2:=hb _ (Ay (d:= []) (show i<bs.length by omega))
  refine⟨?_,rfl⟩
  simp only [Bl,hg,hz',Bj]
  rw [if_neg (by omega),A0.2 (show -1<=ats.getD i 0/\ats.getD i 0<=g.d - 1 by omega),decide_eq_true h2]
  rfl
 ·refine⟨?_,rfl⟩
  simp only [Bl,hg,hz',Bj]
  rw [if_neg (by decide),A0.2 (show (-1:Int)<= -1/\(-1:Int)<=g.d - 1 by omega),decide_eq_true hp]
  rfl
 ·refine⟨?_,rfl⟩
  simp only [Bl,hg,hz',Bj]
  rw [if_pos trivial,K3 ht]
  rfl
theorem O8 {g:Geo} (hg:A_ g=true) {l:List Img} {z:Int} (hl:OneTab l) (hz:∀ x∈l,x.zone<z) {t:List Ent} {par:List UInt8} {ats:List Int} (ha:∀ a∈ats,0<=a/\a<g.d) {bs:List (List UInt8)}:OneTab (l ++ Dz z t par ats bs):=by
 obtain⟨g1,g2,g3,g4,g5⟩:=Ak.1 hg
 have hw:∀ x∈(List.range ats.length).map (fun i=>(⟨z,ats.getD i 0,bs.getD i []⟩:Img)),x.what≠255:=by
  intro x hx
  obtain⟨i,hi,rfl⟩:=A8.1 hx
  have:=ha _ (Ay (d:=0) (A6.1 hi))
  show ats.getD i 0≠255
  omega
 refine List.pairwise_append.2 ⟨hl,List.pairwise_append.2 ⟨List.Pairwise.imp_of_mem (R:=fun _ _=>True) (fun hx _ _ h=>absurd h (hw _ hx)) (List.pairwise_of_forall (fun _ _=>trivial)),?_,fun x hx y _ h=>absurd h (hw _ hx)⟩,fun x hx y hy _ _=>?_⟩
 ·refine List.pairwise_cons.2 ⟨fun y _ h=>absurd (show (-1:Int)=255 from h) (by decide),List.pairwise_singleton _ _⟩
 ·have h1:=hz x hx
  have h2:y.zone=z:=by
   simp only [Dz,At,A8,A6,A9,List.not_mem_nil,or_false] at hy
   rcases hy with ⟨i,_,rfl⟩ | rfl | rfl <;> rfl
  omega
@[reducible] def WA (g:Geo) (x:AV) (s:Stt) (e:Int):List AV:= [.v (.int .i64 g.z), .v (.int .i64 g.d), .v (.int .i64 g.sp), .v (.int .i64 g.sl), .v (.int .i64 g.an),x, .v (.int .i64 s.a.gen), .v (.int .i64 s.a.epoch), .v (.int .i64 s.a.pos), .v (.int .i64 s.a.seq), .v (.int .i64 s.a.last), .v (.string s.a.label),Hq s.a.homes,CW s.txns, .v (.bool s.only), .v (.int .i64 s.cursor), .v (.int .i64 s.found), .v (.int .i64 s.fixed), .v (.int .i64 s.moved),iA s.lost, .v (.int .i64 e)]
@[reducible] def In (g:Geo) (s:Stt) (e:Int) (d:Dk):List AB:= [.box 95 (WA g (.bp 1 0) s e), .box 92 (G3 (.ow 2 d.cells.length) (.ow 3 d.cache.length) d.reqs d.left), .row 84 3 (d.cells.map Bi), .row 131 2 (d.cache.map D3)]
@[reducible] def LM (g:Geo) (s:Stt) (e:Int) (d:Dk):List AB:= [.box 95 (WA g (.bp 1 0) s e), .box 92 (G3 (.ow 2 d.cells.length) (.ow 4 d.cache.length) d.reqs d.left), .row 84 3 (d.cells.map Bi), .dead, .row 131 2 (d.cache.map D3)]
@[reducible] def XJ (g:Geo) (s:Stt) (e:Int) (d:Dk) (l:List AB):List AB:= .box 95 (WA g (.bp 1 0) s e):: .box 92 (G3 (.ow 2 d.cells.length) (.ow 3 d.cache.length) d.reqs d.left):: .row 84 3 (d.cells.map Bi):: .row 131 2 (d.cache.map D3)::l
theorem W9 (g:Geo) (s:Stt) (e:Int) (d:Dk):ConvH (In g s e d) (LM g s e d):=ConvH.move (H:=In g s e d) 1 3 (by decide) rfl rfl
theorem VR (e:Int):∀ (c:Ctx) (v:Value),Rd (.ag [.v (.int .i64 e), .v (.slice none 0 0)]) c v->Rd (.ag (Db ⟨e, []⟩)) c v:=AG ⟨ri,AX 1 _,trivial⟩
theorem WC (g:Geo) (s:Stt) (e:Int) (d:Dk) (a:Int) (he:e≠0) :
  ACalls Tryz.prog false 188 [.bp 0 0, .v (.int .i64 a)] (In g s e d) fun r H=>r = .ag (Db ⟨8, []⟩)/\H=In g s e d:=by
 have hb:(e != 0)=true:=bne_iff_ne.2 he
 refine ACalls.ofR tys_ok Tryz.func188 rfl rfl (Ac rfl) ?_
 conv=>whnf
 rw [hb]
 exact⟨_, .ag (Db ⟨8, []⟩),In g s e d,VR 8,WkN.r (s:= [0,1,2,3]) ⟨⟨rfl,trivial⟩,⟨rfl,rfl,rfl,rfl,trivial⟩,rfl,rfl,rfl,rfl,rfl⟩,rfl,rfl⟩
theorem WB (g:Geo) (s:Stt) (d:Dk) (a:Int) (h:DkOk d) (ha:0<=a/\a<d.cells.length) :
  ACalls Tryz.prog false 188 [.bp 0 0, .v (.int .i64 a)] (In g s 0 d) fun r H=>r = .ag (Db ⟨(d.read a).2.2,(d.read a).2.1⟩)/\H=In g s (if d.left=0 then 8 else 0) (d.read a).1:=by
 have hr:=NV d a h.l ha h.m (fun c hc=>by have:=(h.c c hc).2.1;omega) (fun w hw=>by have:=(h.w w hw).2;omega)
 have he:(d.left=0/\(d.read a).2.2=8)\/(¬d.left=0/\(d.read a).2.2≠8):=by
  unfold Dk.read
  by_cases h0:d.left=0
  ·rw [if_pos h0];exact .inl ⟨h0,rfl⟩
  ·rw [if_neg h0];exact .inr ⟨h0,show (d.got a).2≠8 by have:=QZ d a;omega⟩
 generalize d.read a=q at hr he |-
 obtain⟨D,b,e⟩:=q
 simp only at hr he |-
 refine ACalls.ofR tys_ok Tryz.func188 rfl rfl (Ac rfl) ?_
 conv=>whnf
 refine ACalls.frame [1,2,3] hr rfl rfl rfl rfl (by decide) (Iy rfl) ⟨rfl,rfl,rfl,trivial⟩ ?_
 rintro _ _ ⟨rfl,rfl⟩
 rcases he with ⟨h0,rfl⟩ | ⟨h0,he⟩
 ·rw [if_pos h0]
  conv=>whnf
  repeat' (first | (refine aSeq.go ?_;conv=>whnf) | fail)
  exact⟨_, .ag (Db ⟨8,b⟩),In g s 8 D,fun _ _ h=>h,WkN.r (s:= [0,1,2,3]) ⟨⟨rfl,trivial⟩,⟨rfl,rfl,rfl,rfl,trivial⟩,rfl,rfl,rfl,rfl,rfl⟩,rfl,rfl⟩
 ·rw [if_neg h0]
  conv=>whnf
  repeat' (first | (refine aSeq.go ?_;conv=>whnf) | fail)
  refine Ah (fun h8=>absurd (by simpa using h8) he) (fun _=>?_)
  conv=>whnf
  repeat' (first | (refine aSeq.go ?_;conv=>whnf) | fail)
  exact⟨_, .ag (Db ⟨e,b⟩),In g s 0 D,fun _ _ h=>h,WkN.r (s:= [0,1,2,3]) ⟨⟨rfl,trivial⟩,⟨rfl,rfl,rfl,rfl,trivial⟩,rfl,rfl,rfl,rfl,rfl⟩,rfl,rfl⟩
theorem Tq (g:Geo) (s:Stt) (e:Int) (d:Dk) (a:Int) (b:List UInt8) (he:e≠0) :
  ACalls Tryz.prog false 72 [.bp 0 0, .v (.int .i64 a),bA b] (In g s e d) fun r H=>r = .v (.bool false)/\H=In g s e d:=by
 have hb:(e != 0)=true:=bne_iff_ne.2 he
 refine ACalls.ofR tys_ok Tryz.func72 rfl rfl (Ac rfl) ?_
 conv=>whnf
 rw [hb]
 exact⟨_, .v (.bool false),In g s e d,fun _ _ h=>h,WkN.r (s:= [0,1,2,3]) ⟨⟨rfl,trivial⟩,⟨rfl,rfl,rfl,rfl,trivial⟩,rfl,rfl,rfl,rfl,rfl⟩,rfl,rfl⟩
theorem Tp (g:Geo) (s:Stt) (d:Dk) (a:Int) (b:List UInt8) (h:DkOk d) (ha:0<=a/\a<d.cells.length) (hb:b.length<=200) :
  ACalls Tryz.prog false 72 [.bp 0 0, .v (.int .i64 a),bA b] (In g s 0 d) fun r H=>r = .v (.bool (decide ((d.write a b).2=0)))/\H=In g s (if (d.write a b).2=8 then 8 else 0) (d.write a b).1:=by
 have hr:=LL d a b h.l ha h.m (by omega)
 have he:=GX d a b
 generalize d.write a b=q at hr he |-
 obtain⟨D,e⟩:=q
 simp only at hr he |-
 refine ACalls.ofR tys_ok Tryz.func72 rfl rfl (Ac rfl) ?_
 conv=>whnf
 refine ACalls.frame [1,2,3] hr rfl rfl rfl rfl (by decide) (Iy rfl) ⟨rfl,rfl,rfl,trivial⟩ ?_
 rintro _ _ ⟨rfl,rfl⟩
 rcases he with rfl | rfl | rfl
 all_goals
  conv=>whnf
  repeat' (first | (refine aSeq.go ?_;conv=>whnf) | fail)
 ·exact⟨_, .v (.bool false),In g s 8 D,fun _ _ h=>h,WkN.r (s:= [0,1,2,3]) ⟨⟨rfl,trivial⟩,⟨rfl,rfl,rfl,rfl,trivial⟩,rfl,rfl,rfl,rfl,rfl⟩,rfl,rfl⟩
 ·exact⟨_, .v (.bool false),In g s 0 D,fun _ _ h=>h,WkN.r (s:= [0,1,2,3]) ⟨⟨rfl,trivial⟩,⟨rfl,rfl,rfl,rfl,trivial⟩,rfl,rfl,rfl,rfl,rfl⟩,rfl,rfl⟩
 ·exact⟨_, .v (.bool true),In g s 0 D,fun _ _ h=>h,WkN.r (s:= [0,1,2,3]) ⟨⟨rfl,trivial⟩,⟨rfl,rfl,rfl,rfl,trivial⟩,rfl,rfl,rfl,rfl,rfl⟩,rfl,rfl⟩
theorem TI (g:Geo) (s:Stt) (e:Int) (d:Dk) (h:DkOk d) :
  ACalls Tryz.prog false 75 [.bp 0 0] (In g s e d) fun r H=>r = .tp []/\H=LM g s (if e=0 then if d.left=0 then 8 else 0 else e) (if e=0 then if d.left=0 then d else d.flush else d):=by
 have hf:=LQ d h.l h.m (fun w hw=>(h.w w hw).1) (fun w hw=>by have:=(h.w w hw).2;omega)
 by_cases he:e=0
 ·subst he
  rw [if_pos rfl,if_pos rfl]
  refine ACalls.ofR tys_ok Tryz.func75 rfl rfl (Ac rfl) ?_
  conv=>whnf
  refine ACalls.frame [1,2,3] hf rfl rfl rfl rfl (by decide) (Iy rfl) ⟨rfl,rfl,rfl,trivial⟩ ?_
  rintro _ _ ⟨rfl,rfl⟩
  by_cases h0:d.left=0
  all_goals
   simp only [h0,if_true,if_false]
   exact⟨_, .tp [],LM g s _ _,fun _ _ h=>h,WkN.r (s:= [0,1,2,3,4]) ⟨⟨rfl,trivial⟩,⟨rfl,rfl,rfl,trivial,rfl,trivial⟩,rfl,rfl,rfl,rfl,rfl⟩,rfl,rfl⟩
 ·rw [if_neg he,if_neg he]
  have hb:(e == 0)=false:=beq_eq_false_iff_ne.2 he
  refine ACalls.ofR tys_ok Tryz.func75 rfl rfl (Ac rfl) ?_
  conv=>whnf
  rw [hb]
  exact⟨_, .tp [],LM g s e d,fun _ _ h=>h,WkN.rc (ConvF.ofH (W9 g s e d)) (s:= [0,1,2,3,4]) ⟨⟨rfl,trivial⟩,⟨rfl,rfl,rfl,trivial,rfl,trivial⟩,rfl,rfl,rfl,rfl,rfl⟩,rfl,rfl⟩
theorem Jt {d:Dk} {l:List Wr} {k:Nat} (hk:k<l.length) (h:(d.writes (l.take k)).2.2=true):d.writes (l.take (k+1))=d.writes (l.take k):=by
 rw [E8 d hk,G4 _ h]
def S3 (b:Bool):Int:=if b then 8 else 0
theorem J6 (g:Geo) (s:Stt) (d:Dk) (a:An) (hg:A_ g=true) (ha:AN g a=true) (h:DkOk d) (hl:∀ w∈Av g a,Pc d.cells.length w) :
  ACalls Tryz.prog false 80 [.bp 0 0, .ag (Dx a)] (In g s 0 d) fun r H=>r = .v (.int .i64 ((d.writes (Av g a)).2.1:Nat))/\H=LM g s (S3 (d.putAll (Av g a)).2.2) (d.putAll (Av g a)).1:=by
 obtain⟨g1,g2,g3,g4,g5⟩:=Ak.1 hg
 have hlen:=Cj g a
 refine ACalls.ofR tys_ok Tryz.func80 rfl rfl (Ac rfl) ?_
 conv=>whnf
 refine aLoop.ruleRR Nat (fun k=>([(0, .bp 0 0),(3, .bp 4 0),(5, .v (.int .i64 (d.writes ((Av g a).take k)).2.1)),(6, .v (.int .i64 k))],XJ g s (S3 (d.writes ((Av g a).take k)).2.2) (d.writes ((Av g a).take k)).1 [.box 28 (Dx a)])) (fun k=>k<=(Av g a).length/\(d.writes ((Av g a).take k)).2.1<=k) (fun k=>(Av g a).length - k) 0 ⟨Ad _,Nat.le_refl _⟩
  (WkN.r (s:= [0,1,2,3,4]) ⟨⟨rfl,rfl,rfl,rfl,trivial⟩,⟨rfl,rfl,rfl,rfl,rfl,trivial⟩,rfl,rfl,rfl,rfl,rfl⟩) ?_
 rintro k ⟨hk,hnk⟩
 have hd:=F6 h hl k
 conv=>whnf
 refine Aw (fun h6=>?_) (fun h6=>?_) <;> (repeat rw [Ab] at h6) <;> conv=>whnf
 ·have hk':k<(Av g a).length:=by omega
  have hm:=hl _ (Ay (d:=(⟨0, []⟩:Wr)) hk')
  have hrc:=K5 g a k hg ha (by omega)
  have hlive:=fun hlv=>Ie (d:=d) hk' hlv
  have hstay:=fun hlv=>Jt (d:=d) hk' hlv
  rw [GU (by omega)] at hlive hm
  generalize hX:d.writes ((Av g a).take k)=Q at hd hlive hstay hnk |-
  obtain⟨X,N,dead⟩:=Q
  simp only at hd hlive hstay hnk
  repeat' (first | (refine aSeq.go ?_;conv=>whnf) | fail)
  refine Fn.cl hrc ?_
  conv=>whnf
  cases dead with
  | true=>
   have hx:=hstay rfl
   have hc:=Tq g s 8 X k (BQ a k) (by decide)
   refine ACalls.frame [0,1,2,3] hc rfl rfl rfl rfl (by decide) (EL rfl) ⟨rfl,rfl,rfl,rfl,trivial⟩ ?_
   rintro _ _ ⟨rfl,rfl⟩
   conv=>whnf
   repeat' (first | (refine aSeq.go ?_;conv=>whnf) | fail)
   refine⟨k+1,⟨hk',by rw [hx];simp only;omega⟩,by omega,?_⟩
   rw [hx]
   exact WkN.r (s:= [0,1,2,3,4]) ⟨⟨rfl,rfl,rfl,A7 (by omega),trivial⟩,⟨rfl,rfl,rfl,rfl,rfl,trivial⟩,rfl,rfl,rfl,rfl,rfl⟩
  | false=>
   have hx:=hlive rfl
   have hc:=Tp g s X k (BQ a k) hd.1 (by rw [hd.2];exact hm.1) hm.2
   have hE:=GX X k (BQ a k)
   generalize hQ:X.write k (BQ a k)=Q at hc hx hE
   obtain⟨D,e⟩:=Q
   simp only at hx hE hc
   refine ACalls.frame [0,1,2,3] hc rfl rfl rfl rfl (by decide) (EL rfl) ⟨rfl,rfl,rfl,rfl,trivial⟩ ?_
   rintro _ _ ⟨rfl,rfl⟩
   rcases hE with rfl | rfl | rfl
   ·have hx:d.writes ((Av g a).take (k+1))=(D,N,true):=hx
    conv=>whnf
    repeat' (first | (refine aSeq.go ?_;conv=>whnf) | fail)
    refine⟨k+1,⟨hk',by rw [hx];simp only;omega⟩,by omega,?_⟩
    rw [hx]
    exact WkN.r (s:= [0,1,2,3,4]) ⟨⟨rfl,rfl,rfl,A7 (by omega),trivial⟩,⟨rfl,rfl,rfl,rfl,rfl,trivial⟩,rfl,rfl,rfl,rfl,rfl⟩
   ·have hx:d.writes ((Av g a).take (k+1))=(D,N,false):=hx
    conv=>whnf
    repeat' (first | (refine aSeq.go ?_;conv=>whnf) | fail)
    refine⟨k+1,⟨hk',by rw [hx];simp only;omega⟩,by omega,?_⟩
    rw [hx]
    exact WkN.r (s:= [0,1,2,3,4]) ⟨⟨rfl,rfl,rfl,A7 (by omega),trivial⟩,⟨rfl,rfl,rfl,rfl,rfl,trivial⟩,rfl,rfl,rfl,rfl,rfl⟩
   ·have hx:d.writes ((Av g a).take (k+1))=(D,N+1,false):=hx
    conv=>whnf
    repeat' (first | (refine aSeq.go ?_;conv=>whnf) | fail)
    refine⟨k+1,⟨hk',by rw [hx];simp only;omega⟩,by omega,?_⟩
    rw [hx]
    exact WkN.r (s:= [0,1,2,3,4]) ⟨⟨rfl,rfl,(show _=AV.v (Value.int IntKind.i64 ((N+1:Nat):Int)) from A7 (show N<1000000000000 by omega)),A7 (by omega),trivial⟩,⟨rfl,rfl,rfl,rfl,rfl,trivial⟩,rfl,rfl,rfl,rfl,rfl⟩
 ·have ek:k=(Av g a).length:=by omega
  subst ek
  rw [List.take_length] at hd hnk
  rw [List.take_length]
  have hpd:=Dp (d:=d) (l:=Av g a)
  have hpl:=CV (d:=d) (l:=Av g a)
  generalize d.writes (Av g a)=Q at hpd hpl hd |-
  obtain⟨X,N,dead⟩:=Q
  simp only at hpd hpl hd
  have hf:=TI g s (S3 dead) X hd.1
  cases dead with
  | true=>
   rw [hpd rfl]
   refine ACalls.frame [0,1,2,3] hf rfl rfl rfl rfl (by decide) (EL rfl) ⟨rfl,rfl,rfl,rfl,trivial⟩ ?_
   rintro _ _ ⟨rfl,rfl⟩
   exact⟨_, .v (.int .i64 (N:Nat)),LM g s 8 X,fun _ _ h=>h,WkN.r (s:= [0,1,2,3,5]) ⟨⟨rfl,trivial⟩,⟨rfl,rfl,rfl,trivial,rfl,trivial⟩,rfl,rfl,rfl,rfl,rfl⟩,rfl,rfl⟩
  | false=>
   rw [hpl rfl]
   refine ACalls.frame [0,1,2,3] hf rfl rfl rfl rfl (by decide) (EL rfl) ⟨rfl,rfl,rfl,rfl,trivial⟩ ?_
   rintro _ _ ⟨rfl,rfl⟩
   by_cases hX0:X.left=0
   all_goals
    simp only [hX0,S3,B9,if_true,if_false]
    exact⟨_, .v (.int .i64 (N:Nat)),LM g s _ _,fun _ _ h=>h,WkN.r (s:= [0,1,2,3,5]) ⟨⟨rfl,trivial⟩,⟨rfl,rfl,rfl,trivial,rfl,trivial⟩,rfl,rfl,rfl,rfl,rfl⟩,rfl,rfl⟩
theorem ACalls.lendBox {P:Program} {q:Bool} {f:FuncId} {x:AV} {H:List AB} {K:AV->List AB->Prop} (j k:Nat) {t t':TypeId} {sz':Nat} {cs cs2:List AV} {es':List (List AV)} (hj:H[j]? = some (.box t cs)) (hk:H[k]? = some (.row t' sz' es'))
  (he:cs.map (AV.slIn k es'.length (.sl sz' es'.length fun i=>es'.getD i []))=cs2) (hc:ACalls P q f [x, .ag cs2] ((H.set k .dead).set j (.box t cs2)) K):ACalls P q f [x, .ag cs] H K:=by
 refine⟨hc.go,fun w0 M0 c us hs hr=>?_⟩
 subst he
 have hjk:j≠k:=by rintro rfl;rw [hj] at hk;cases hk
 obtain⟨c1,e1,s1,x1,r1⟩:=hs.freeze hk
 have hj1:(H.set k .dead)[j]? = some (.box t cs):=by rw [List.getElem?_set_ne (Ne.symm hjk)];exact hj
 have h8:∀ (l:List AV) (us:List Value),RdL l c us->RdL (l.map (AV.slIn k es'.length (.sl sz' es'.length fun i=>es'.getD i []))) c1 us:=by
  intro l
  induction l with
  | nil=>intro us h;simp only [RdL] at h;subst h;simp [RdL]
  | cons x l ih=>
   intro us h
   simp only [RdL] at h
   obtain⟨u,vs,rfl,a1,a2⟩:=h
   simp only [Ap,RdL]
   refine⟨u,vs,rfl,?_,ih vs a2⟩
   unfold AV.slIn
   split
   ·rename_i i n
    split
    ·rename_i hik
     subst hik
     split
     ·rename_i hn
      subst hn
      exact r1 u a1
     ·simp [Rd]
    ·exact Rd.ext _ x1 a1
   ·exact Rd.ext _ x1 a1
 have s2:HS w0 M0 c1 ((H.set k .dead).set j (.box t (cs.map (AV.slIn k es'.length (.sl sz' es'.length fun i=>es'.getD i []))))):=by
  refine s1.recell hj1 rfl ?_
  rintro⟨g,xs,h1,h2,_,h4⟩
  obtain⟨g0,ys,q1,q2,q3,_⟩:=hs.blk j _ hj
  have hg:=x1.box j _ (hs.klt hj) q1
  rw [h1] at hg
  injection hg with hg
  injection hg with hg
  injection hg with hg
  subst hg
  rw [e1,q2] at h2
  injection h2 with h2
  have hxy:ys.toArray=xs.toArray:=by injection h2
  have hxy:ys=xs:=by simpa using hxy
  subst hxy
  exact⟨g,ys,h1,by rw [e1];exact q2,h8 _ _ q3,h4⟩
 have hr2:RdL [x, .ag (cs.map (AV.slIn k es'.length (.sl sz' es'.length fun i=>es'.getD i [])))] c1 us:=by
  simp only [RdL] at hr
  obtain⟨u1,_,rfl,p1,u2,_,rfl,p2,rfl⟩:=hr
  simp only [Rd] at p2
  obtain⟨zs,rfl,p3⟩:=p2
  simp only [RdL]
  exact⟨u1,_,rfl,Rd.ext _ x1 p1,_,_,rfl,by simp only [Rd];exact⟨zs,rfl,h8 _ _ p3⟩,rfl⟩
 have:=hc.calls w0 M0 c1 us s2 hr2
 rw [e1] at this
 refine this.mono ?_
 rintro e w' ⟨v,c',r,H2,rfl,rfl,q1,q2,q3,q4,q5⟩
 exact⟨v,c',r,H2,rfl,rfl,q1,q2,x1.trans q3,q4,q5⟩
end Go.Proofs.YtkolckdakddggaaGreatDoor.A
end
