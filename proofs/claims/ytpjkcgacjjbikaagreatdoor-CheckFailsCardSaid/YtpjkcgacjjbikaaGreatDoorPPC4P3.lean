/-
Several texts in one.
-/
import Derived.Test.YtpjkcgacjjbikaaGreatDoorPPC4P2
import Derived.RangeFuncNested
import Derived.RangeFuncBound
import Derived.RangeFuncCalls
import Derived.RangeFuncLeaves
import Derived.RangeFuncBox
import Derived.Shelf.Abstract
import Derived.Shelf.RegionOpen
import Derived.OwnWalkIn
import Derived.TacticsInMore
import Derived.LoopNIn
import Derived.LoopIn
import Derived.Test.YtpjkcgacjjbikaaGreatDoorPPC4P1
import Derived.Test.YtpjkcgacjjbikaaGreatDoorPPC4P0
import Derived.Lib.Overlaps
import Derived.Laws.Externs
set_option linter.defProp false
set_option maxRecDepth 100000
set_option maxHeartbeats 8000000
set_option linter.unusedSimpArgs false
set_option linter.unusedVariables false
set_option linter.deprecated false
namespace Go.Proofs.YtpjkcgacjjbikaaGreatDoor.A
section
open Go.RowKit
section
variable {P:Program} {T:Tys} {w0:Fl} {M0:Ms} {n d0:Nat} {ce:Ctx}
def Fl.off (w0:Fl):Fl:=⟨w0.w,w0.old,w0.lt,w0.gl,False⟩
theorem HS.off {c:Ctx} {H:List AB} (h:HS w0 M0 c H):HS w0.off M0 c H:=⟨⟨h.low.os,h.low.tape,h.low.output,h.low.size,h.low.block⟩,h.base,h.dom,h.foreign,h.lt,h.blk,h.own,h.dis⟩
theorem HS.on {c:Ctx} {H:List AB} (h:HS w0.off M0 c H):HS w0 M0 c H:=⟨⟨h.low.os,h.low.tape,h.low.output,h.low.size,h.low.block⟩,h.base,h.dom,h.foreign,h.lt,h.blk,h.own,h.dis⟩
theorem FR.off {c:Ctx} {fr:Fr} {a:Act} (h1:a.tmps.size=n) (h2:∀ i,Rd (fget fr i) c (a.tmps.getD i undef)) (hc:¬w0.chk):FR w0 c n fr a:=⟨h1,DfOk.free hc,h2⟩
def frozen (fr:Fr) (H:List AB):Fr->Prop
 | []=>True
 | (i,x)::r=>((x.lt 0=true/\fget fr i=x)\/∃ kk tt cs,x = .rp cs/\AV.ltL cs 0=true/\fget fr i = .bp kk 0/\hget H kk=some (.box tt cs))/\frozen fr H r
def Ctx.calm (c:Ctx) (w:World):Ctx:=⟨w,0,fun _=>False,c.rho,c.len,0⟩
theorem N9 {c:Ctx} {H:List AB} (hs:HS w0 M0 c H) {fr:Fr} {us:Array Value} (hf:∀ i,Rd (fget fr i) c (us.getD i undef)):∀ {frz:Fr},frozen fr H frz->∀ i,Rd (fget frz i) (c.calm c.w) (us.getD i undef)
 | [],_,i=>by simp [fget,Rd]
 | (j,x)::r,h,i=>by
  have f:Cut c (c.calm c.w):=⟨⟨rfl,rfl,rfl,Ah _,fun _ _ _=>⟨fun h=>h,rfl⟩,Ah _,fun k hk=>absurd hk (Ap k),fun k hk=>absurd hk (Ap k),fun k _ hk=>absurd hk (Ap k)⟩,fun _ _=>tA⟩;unfold fget;cases hb:Nat.beq j i with
  | false=>exact N9 hs hf h.2 i
  | true=>
   have:=Al hb;subst this;simp only [cond_true];rcases h.1 with ⟨h1,h2⟩ | ⟨kk,tt,cs,rfl,h1,h2,h3⟩
   ·refine Rd.cut x f h1 ?_;rw [<-h2];exact hf j
   ·have hr:=hf j;rw [h2] at hr;simp only [Rd] at hr;obtain⟨_,g,hg,hu⟩:=hr;rw [hget_eq] at h3;obtain⟨g',xs,q1,q2,q3,q4⟩:=hs.blk _ _ h3;rw [q1] at hg;cases hg;rw [hu];simp only [Rd];refine⟨g,0,rfl,fun h=>h,(Ay.1 q2).1,?_⟩;exact RdAt.of (c:=(c.calm c.w).closed) (b:=g) (off:=0) (RdL.cut cs f h1 q3) q4 fun j u hu=>by rw [A0];show c.w.cell? _=_;rw [cell_of_row _ g _ _ tt (0,0) q2];simpa using hu
def EX.code:EX->Code
 | .normal=> .skip
 | .exit id=> .exit id
 | .ret=> .ret
theorem Ns {W W':World} {c:Ctx} (hB:c.w.heap.size<=W.heap.size) (ho:Old W W') (h1:W'.os=W.os) (h2:W'.tape=W.tape) (h3:W'.output=W.output) (h4:W.heap.size<=W'.heap.size):Below c.w.heap.size W W':=
 ⟨h1,h2,h3,h4,fun b hb=>ho b (Au hb hB)⟩
theorem RE {len k:Nat} (hk:k<=len) {pre:List Nat} {x:Nat} (h:pre ++ [x]=Dq len k) {p:Nat->Prop} (hp:∀ y∈pre,p y):∀ j,x<j->j<len->p j:=by
 intro j hj hl;have h1:k=pre.length+1:=by have:=congrArg List.length h;simpa [Dq] using this.symm
 subst h1;have hx:x=len - 1 - pre.length:=by
  have:=congrArg (fun l=>l[pre.length]?) h;simp [Dq] at this;exact this
 have hi:len - 1 - j<pre.length:=by omega
 have h2:=congrArg (fun l=>l[len - 1 - j]?) h;simp only [Dq,AH hi,Bb,Bz (show len - 1 - j<pre.length+1 by omega),Option.map_some] at h2;rw [show len - 1 - (len - 1 - j)=j by omega] at h2;exact hp j (DG h2)
theorem DfOk.lt {c:Ctx} (hc:w0.chk):∀ {l:List Deferred},DfOk w0 c l->∀ e∈l,∃ b,e.target = .collected b/\b<c.w.heap.size
 | d::r,h,e,he=>by
  rcases Bd.1 he with rfl | he
  ·obtain⟨b,rfl,_,_,h4,_⟩:=h.1 hc;exact⟨b,rfl,(Ay.1 h4).1⟩
  ·exact DfOk.lt hc h.2 e he
theorem U5 {len:Nat} {i:Nat} (hi:i<len):i∈Dq len len:=by
 rw [Dq,AQ];exact⟨len - 1 - i,by simp;omega,by omega⟩

def Xp (P:Program) (n:Nat) (w0:Fl) (M0:Ms) (c:Ctx) (a:Act) (gf:FuncId) (g:Operand) (p1 p2:Nat) (asg body:Code) (Q:QA) (fr:Fr) (len:Nat) (hit:Nat->Bool):Prop:=
 ∃ (gB:Nat) (X:Nat->List Value) (I:List (Fin len)->World->Prop) (Ix:Code->List (Fin len)->World->Prop) (Ax:Fin len->Act->World->Prop),
  a.eval g = .func (.func gf) #[] #[.pointer (some ⟨gB,0,none⟩)]/\
  (∀ m,1<=m->SeqStopsK Fence.wide m P gf #[.pointer (some ⟨gB,0,none⟩)] (fun x:Fin len=> #[Value.int .i64 x.val, .agg (X x.val).toArray]) (Below c.w.heap.size) (fun ys=>ys.map Fin.val=Dq len len) (fun pre=>∃ k,k<=len/\pre.map Fin.val=Dq len k) len c.w)/\
  OwnFrom c.w.heap.size I/\(∀ cd,OwnFrom c.w.heap.size (Ix cd))/\I [] c.w/\(∀ x a',OwnFrom c.w.heap.size (fun(_:Unit) W=>Ax x a' W))/\
  (∀ (k l:Nat) (pre:List (Fin len)) (y:Fin len) (W:World) (K:Act->World->Prop),I pre W->(∀ a' W',KeepsFrom c.w.heap.size W W'->Below c.w.heap.size W W'->I pre W'->Ax y a' W'->K a' W')->
   asg.wpIn (Fence.wide.inRound l) k P (Exit.then K (fun _ _ _=>False)) { tmps:=((#[p1,p2]:Array Tmp).zip #[Value.int .i64 y.val, .agg (X y.val).toArray]).foldl (fun t (p,v)=>t.setIfInBounds p v) a.tmps,defers:= [] } W)/\
  (∀ (k:Nat),(noRF body=true\/3<=k)->∀ (l:Nat) (pre:List (Fin len)) (y:Fin len) (a':Act) (W:World),c.w.heap.size<=l->(∃ r,W.heap[l]? = some (.loop r))->I pre W->Ax y a' W->pre.length<len->
   body.wpIn (Fence.wide.inRound l) k P (ownPostG c.w.heap.size (Below c.w.heap.size) I Ix (pre ++ [y]) W) a' W)/\
  (∀ (ys:List (Fin len)) (W:World),ys.map Fin.val=Dq len len->I ys W->Below c.w.heap.size c.w W/\∀ i,i<len->hit i=false)/\
  (∀ (cd:Code) (pre:List (Fin len)) (W:World),(∃ k,k<=len/\pre.map Fin.val=Dq len k)->Ix cd pre W->∃ ex c' H',cd=EX.code ex/\ex≠ .normal/\Q ex fr H'/\c'.w=W/\HS w0 M0 c' H'/\Ext c c'/\noIter H'=true/\(∀ b,c.w.heap.size<=b->c'.M b->∃ (j:Nat) (y:AB),H'[j]? = some y/\y.live=true/\oB (c'.rho j)=some b))
theorem UR (hT:TOk P T) {gf:FuncId} {sz:Nat} (kl:IsBack P gf sz) {g:Operand} {p1 p2:Nat} {asg body:Code} {Q:QA} {fr:Fr} {H:List AB} {B len:Nat} {tb:TypeId} {x:AV} {E:Nat->List AV}
  (hg:ev fr g = .fn gf [.bp B 0]) (hB:hget H B=some (.box tb [x])) (hx:Lr H x sz len E) (kc:len<=1000000000) (_hni:noIter H=true) (hp:p1<n/\p2<n) (hq:roundOk body=true)
  (frz:Fr) (kn:frozen fr H frz) (f:Nat->Bool)
  (he:∀ i,i<len->f i=false->GV T n asg ((p2, .ag (E i))::(p1,iv i)::frz) [] fun fr' H'=>noIter H'=true/\C2 P T n 0 body (fun ex _ _=>ex = .normal) fr' H')
  (ka:∀ i,i<len->f i=true->GV T n asg ((p2, .ag (E i))::(p1,iv i)::fr) H fun fr' H'=>noIter H'=true/\C2 P T n H.length body (fun ex _ H'=>ex≠ .normal/\noIter H'=true/\((∀ j,i<j->j<len->f j=false)->Q ex fr H')) fr' H')
  (w0:Fl) (M0:Ms) (c:Ctx) (a:Act) (hs:HS w0 M0 c H) (hf:FR w0 c n fr a):Xp P n w0 M0 c a gf g p1 p2 asg body Q fr len f:=by
 have N:=hf.ev g;rw [hg] at N;simp only [Rd,RdL] at N;obtain⟨_,N,_,_,rfl,⟨ku,gB,km,rfl⟩,rfl⟩:=N;rw [hget_eq] at hB;obtain⟨g',xs,q1,q2,q3,q4⟩:=hs.blk _ _ hB;rw [km] at q1;cases q1;simp only [RdL] at q3;obtain⟨u,_,rfl,hu,rfl⟩:=q3;obtain⟨ad,cap,rfl,ko⟩:=MT hs hx hu;have kq:c.w.cell? ⟨gB,0,none⟩=some (.slice ad len cap):=by rw [cell_of_row _ gB _ _ tb (0,0) q2];try rfl
 obtain⟨X,kr,hr,ks⟩:∃ X:Nat->List Value,(∀ j,(X j).length=sz)/\(∀ i,i<len->RdL (E i) c.closed (X i))/\(0<len->∃ b off,ad=some ⟨b,off,none⟩/\b<c.w.heap.size/\∀ j,j<len->∀ (i:Nat) (u:Value),(X j)[i]? = some u->c.w.cell? ⟨b,off+j*sz+i,none⟩=some u):=by
  rcases Dv len with h0 | h0
  ·exact⟨fun _=>List.replicate sz undef,by simp,fun i hi=>by omega,fun h=>by omega⟩
  ·obtain⟨b,off,h1,h2,h3⟩:=ko h0;refine⟨fun j=>(List.range' (off+j*sz) sz).map fun i=>(c.w.cell? ⟨b,i,none⟩).getD undef,by simp,fun i hi=>?_,fun _=>⟨b,off,h1,h2,fun j hj i u hi=>?_⟩⟩
   ·have:=RdAt.raw _ (h3 i hi).2;rw [(h3 i hi).1] at this;exact this
   ·obtain⟨v,hv⟩:=RdAt.some _ (h3 j hj).2 i (by
     rw [(h3 j hj).1];have:=(At.1 hi).1;simpa using this)
    have hn:c.w.cell? ⟨b,off+j*sz+i,none⟩=some v:=hv;rw [hn];have kj:i<sz:=by
     have:=(At.1 hi).1;simpa using this
    rw [Bb,List.getElem?_range' kj] at hi;simp only [Option.map_some,Nat.one_mul,Option.some.injEq] at hi;rw [hn] at hi;simpa using hi
 have hw:=fun(m:Nat) (hm:1<=m)=>kl.seq m hm gB ad len cap X c.w kc kq kr ks
 have kk:=hs.glob;have L:=hs.low.size
 -- the two memories of a round
 let wS:Fl:=(Fl.all c.w kk).off;have V:∀ W,Below c.w.heap.size c.w W->HS wS (fun _=>False) (c.calm W) []:=fun W hW=>
  ⟨⟨hW.os,hW.tape,hW.output,hW.size,fun b hb=>hW.block b hb⟩,rfl,rfl,fun _ _=>Iff.rfl,fun _ h=>h.elim,by simp,by simp,by simp⟩
 have U:∀ W,Below c.w.heap.size c.w W->Ext (c.calm c.w) (c.calm W):=fun W hW=>
  ⟨hW.os,hW.tape,hW.output,hW.size,fun b hb _=>⟨fun h=>h,hW.block b hb⟩,Ah _,fun k hk=>absurd hk (Ap k),fun k hk=>absurd hk (Ap k),fun k _ hk=>absurd hk (Ap k)⟩
 have Z:Ext c.closed (c.calm c.w):=⟨rfl,rfl,rfl,Ah _,fun _ _ _=>⟨fun h=>h,rfl⟩,Ah _,fun k hk=>absurd hk (Ap k),fun k hk=>absurd hk (Ap k),fun k _ hk=>absurd hk (Ap k)⟩;refine⟨gB,X,(fun pre W=>Below c.w.heap.size c.w W/\∀ y∈pre,f y.val=false),
  (fun cd pre W=>∃ ex pr y c' H',pre=pr ++ [y]/\(∀ z∈pr,f z.val=false)/\cd=ex.code/\ex≠ .normal/\((∀ j,y.val<j->j<len->f j=false)->Q ex fr H')/\c'.w=W/\HS w0 M0 c' H'/\Ext c c'/\noIter H'=true/\(∀ b,c.w.heap.size<=b->c'.M b->∃ (j:Nat) (y:AB),H'[j]? = some y/\y.live=true/\oB (c'.rho j)=some b)),
  (fun y a' W=>(f y.val=false->∃ c' fr' H',c'.w=W/\HS wS (fun _=>False) c' H'/\noIter H'=true/\a'.tmps.size=n/\(∀ i,Rd (fget fr' i) c' (a'.tmps.getD i undef))/\(∀ b,c.w.heap.size<=b->c'.M b->∃ o:Obj,c'.w.heap[b]? = some o/\o.isCells=true)/\C2 P T n 0 body (fun ex _ _=>ex = .normal) fr' H'/\c'.dom=H'.length)/\
   (f y.val=true->∃ c' fr' H',c'.w=W/\HS w0 M0 c' H'/\noIter H'=true/\a'.tmps.size=n/\(∀ i,Rd (fget fr' i) c' (a'.tmps.getD i undef))/\Ext c c'/\(∀ b,c.w.heap.size<=b->c'.M b->∃ o:Obj,c'.w.heap[b]? = some o/\o.isCells=true)/\C2 P T n H.length body (fun ex _ H'=>ex≠ .normal/\noIter H'=true/\((∀ j,y.val<j->j<len->f j=false)->Q ex fr H')) fr' H')),N,hw,?hI,?hIx,⟨Below.refl _ _,by simp⟩,?hAx,?assign,?body,?done,?stop⟩
 case hI=>exact OwnFrom.and (ownFrom_below (Ah _) (Ah _)) (ownFrom_pure _ _)
 case hIx=>
  rintro cd s W W' row ⟨ex,pr,y,c',H',h1,h2,h3,h4,h5,rfl,h6,h7,h8,h9⟩ G C;obtain⟨k1,k2⟩:=h6.turn h8 L G C;exact⟨ex,pr,y,_,H',h1,h2,h3,h4,h5,rfl,k1,h7.turn (Ah _) G C,h8,h9⟩
 case hAx=>
  have keep:∀ (c':Ctx) {W':World} {row:Option Nat},c'.w.grownBy W' row->(∀ r,row=some r->c.w.heap.size<=r/\∃ o:Obj,c'.w.heap[r]? = some o/\o.isCells=false)->(∀ b,c.w.heap.size<=b->c'.M b->∃ o:Obj,c'.w.heap[b]? = some o/\o.isCells=true)->∀ b,c.w.heap.size<=b->c'.M b->∃ o:Obj,W'.heap[b]? = some o/\o.isCells=true:=by
   intro c' W' row G C h b hb hm;obtain⟨o,h1,h2⟩:=h b hb hm;refine⟨o,(G.block b (Ay.1 h1).1 fun e=>?_).trans h1,h2⟩;obtain⟨_,o',h3,h4⟩:=C b e.symm;rw [h1] at h3;cases h3;rw [h2] at h4;cases h4
  rintro y a' s W W' row ⟨hA,hC⟩ G C;refine⟨fun hh=>?_,fun hh=>?_⟩
  ·obtain⟨c',fr',H',rfl,h1,h2,h3,h4,h5,h6,h7⟩:=hA hh;obtain⟨k1,k2⟩:=h1.turn h2 (Ah _) G C;exact⟨_,fr',H',rfl,k1,h2,h3,fun i=>Rd.like _ k2 (h4 i),keep c' G C h5,h6,h7⟩
  ·obtain⟨c',fr',H',rfl,h1,h2,h3,h4,h5,h6,h7⟩:=hC hh;obtain⟨k1,k2⟩:=h1.turn h2 L G C;exact⟨_,fr',H',rfl,k1,h2,h3,fun i=>Rd.like _ k2 (h4 i),h5.turn (Ah _) G C,keep c' G C h6,h7⟩
 case assign=>
  rintro _ l pre y W K ⟨hW,F⟩ hK;have ha:∀ (c1:Ctx) (fr1:Fr) (w1:Fl),¬w1.chk->(∀ i,Rd (fget fr1 i) c1 (a.tmps.getD i undef))->Rd (.ag (E y.val)) c1 (.agg (X y.val).toArray)->
    FR w1 c1 n ((p2, .ag (E y.val))::(p1,iv (y.val:Nat))::fr1) { tmps:=((#[p1,p2]:Array Tmp).zip #[Value.int .i64 y.val, .agg (X y.val).toArray]).foldl (fun t (p,v)=>t.setIfInBounds p v) a.tmps,defers:= [] }:=by
   intro c1 fr1 w1 hc kg kf;have h0:FR w1 c1 n fr1 { tmps:=a.tmps,defers:= [] }:=FR.off hf.size kg hc;have h1:=h0.put (d:=p1) (x:= iv (y.val:Nat)) (v:= .int .i64 (y.val:Nat)) hp.1 (by simp [Rd]);have e:∀ (u v:Value),((#[p1,p2]:Array Tmp).zip #[u,v]).foldl (fun t (p,v)=>t.setIfInBounds p v) a.tmps=(a.tmps.setIfInBounds p1 u).setIfInBounds p2 v:=by intro u v;simp
   rw [e];exact h1.put (d:=p2) (x:= .ag (E y.val)) (v:= .agg (X y.val).toArray) hp.2 kf
  have ht:=hW.size;cases hh:f y.val with
  | false=>
   have hE:Rd (.ag (E y.val)) (c.calm W) (.agg (X y.val).toArray):=by
    simp only [Rd];exact⟨_,rfl,RdL.ext _ (Z.trans (U W hW)) (hr y.val y.isLt)⟩
   have hd:=ha (c.calm W) frz wS (fun h=>h) (fun i=>Rd.ext _ (U W hW) (N9 hs hf.get kn i)) hE;refine Hx (w0:=wS) (M0:=fun _=>False) (ce:=c.calm W) hT (c:=c.calm W) (V W hW) hd (zJ _) (he y.val y.isLt hh) ?_;rintro a' W' ⟨c',fr',H',rfl,⟨k1,k2⟩,k3,k4,k5⟩ J;have hb:=Ns (c:=c) ht J k5.os k5.tape k5.output k5.size;obtain⟨s1,s2⟩:=k3.slim (B0:=c.w.heap.size) (Ah _);refine hK a' c'.w ⟨k5.size,fun k o _ h1 _=>(J k (Ay.1 h1).1).trans h1⟩ hb ⟨hW.trans hb,F⟩ ⟨fun _=>⟨c'.slim c.w.heap.size H',fr',H',rfl,s1,k1,k4.size,(k4.ext s2).get,fun b hb' hm=>LD k3 k1 hb' hm,k2,s1.dom⟩,fun e=>by rw [hh] at e;cases e⟩
  | true=>
   obtain⟨g1,g2⟩:=hs.grow hW;have hE:Rd (.ag (E y.val)) { c with w:=W } (.agg (X y.val).toArray):=by
    simp only [Rd];exact⟨_,rfl,RdL.ext _ ((zz c).trans g2) (hr y.val y.isLt)⟩
   have hd:=ha { c with w:=W } fr w0.off (fun h=>h) (fun i=>Rd.ext _ g2 (hf.get i)) hE;refine Hx (w0:=w0.off) (M0:=M0) (ce:={ c with w:=W }) hT (c:={ c with w:=W }) g1.off hd (zJ _) (ka y.val y.isLt hh) ?_;rintro a' W' ⟨c',fr',H',rfl,⟨k1,k2⟩,k3,k4,k5⟩ J;have hb:=Ns (c:=c) ht J k5.os k5.tape k5.output k5.size;obtain⟨s1,s2⟩:=k3.slim (B0:=c.w.heap.size) L;refine hK a' c'.w ⟨k5.size,fun k o _ h1 _=>(J k (Ay.1 h1).1).trans h1⟩ hb ⟨hW.trans hb,F⟩ ⟨fun e=>(by rw [hh] at e;cases e),fun _=>⟨c'.slim c.w.heap.size H',fr',H',rfl,s1.on,k1,k4.size,(k4.ext s2).get,(g2.trans k5).trans s2,fun b hb' hm=>LD k3 k1 hb' hm,k2⟩⟩
 case body=>
  rintro _ hk l pre y a' W hl ⟨rl,O⟩ ⟨hW,F⟩ ⟨hA,hC⟩ kt;cases hh:f y.val with
  | false=>
   obtain⟨c',fr',H',rfl,h1,h2,h3,h4,h5,h6,h7⟩:=hA hh;refine CA (w0:=wS) (M0:=fun _=>False) (ce:={ c' with dom:=0 }) (d0:=0) hT rfl body _ _ c' fr' H' a' hq (hk.imp_right fun q=>⟨q,rl,O,fun hM=>(by
    obtain⟨o',q1,q2⟩:=h5 l hl hM;rw [O] at q1;cases q1;cases q2)⟩) ?_ h1 (FR.off h3 h4 fun h=>h) (zz c') h6
   intro e a3 W3 I;have go:∀ ex:EX,Em wS (fun _=>False) { c' with dom:=0 } n (fun _ _=>ex = .normal) a3 W3->ex = .normal/\KeepsFrom c.w.heap.size c'.w W3/\Below c.w.heap.size c'.w W3:=by
    rintro ex ⟨c3,fr3,H3,rfl,e1,e2,e3,e4⟩;have kh:=e2.low;refine⟨e1,⟨e4.size,fun k o hk ho hc=>?_⟩,⟨e4.os,e4.tape,e4.output,e4.size,fun b hb=>(kh.block b hb).trans (hW.block b hb).symm⟩⟩;refine(e4.keep k (Ay.1 ho).1 fun hm=>?_).2.trans ho;obtain⟨o',q1,q2⟩:=h5 k hk hm;rw [ho] at q1;cases q1;rw [hc] at q2;cases q2
   cases e with
   | normal=>
    obtain⟨_,k1,k2⟩:=go .normal I;exact⟨k1,k2,hW.trans k2,fun z hz=>by
     rcases A6.1 hz with h | h
     ·exact F z h
     ·simp at h;subst h;exact hh⟩
   | exit id=>exact absurd (go (.exit id) I).1 (by simp)
   | ret=>exact absurd (go .ret I).1 (by simp)
   | _=>exact I.elim
  | true=>
   obtain⟨c',fr',H',rfl,h1,h2,h3,h4,h5,h6,h7⟩:=hC hh;have kp:Ext c { c' with dom:=H.length }:=⟨h5.os,h5.tape,h5.output,h5.size,h5.keep,by show c.dom<=H.length;rw [hs.dom];exact Ah _,h5.len,h5.rho,h5.box⟩;have kb:Ext { c' with dom:=H.length } c':=⟨rfl,rfl,rfl,Ah _,fun _ _ h=>⟨h,rfl⟩,by show H.length<=c'.dom;rw [<-hs.dom];exact h5.dom,fun _ _=>Ah _,fun _ _ _=>rfl,fun _ _ _ h=>h⟩;refine CA (w0:=w0.off) (M0:=M0) (ce:={ c' with dom:=H.length }) (d0:=H.length) hT rfl body _ _ c' fr' H' a' hq (hk.imp_right fun q=>⟨q,rl,O,fun hM=>(by
    obtain⟨o',q1,q2⟩:=h6 l hl hM;rw [O] at q1;cases q1;cases q2)⟩) ?_ h1.off (FR.off h3 h4 fun h=>h) kb h7
   intro e a3 W3 I;have go:∀ ex:EX,Em w0.off M0 { c' with dom:=H.length } n (fun _ H'=>ex≠ .normal/\noIter H'=true/\((∀ j,y.val<j->j<len->f j=false)->Q ex fr H')) a3 W3->ex≠ .normal/\KeepsFrom c.w.heap.size c'.w W3/\∃ c3 H3,c3.w=W3/\HS w0.off M0 c3 H3/\Ext { c' with dom:=H.length } c3/\noIter H3=true/\((∀ j,y.val<j->j<len->f j=false)->Q ex fr H3):=by
    rintro ex ⟨c3,fr3,H3,rfl,⟨e0,e1,e5⟩,e2,e3,e4⟩;refine⟨e0,⟨e4.size,fun k o hk ho hc=>?_⟩,c3,H3,rfl,e2,e4,e1,e5⟩;refine(e4.keep k (Ay.1 ho).1 fun hm=>?_).2.trans ho;obtain⟨o',q1,q2⟩:=h6 k hk hm;rw [ho] at q1;cases q1;rw [hc] at q2;cases q2
   have mk:∀ ex:EX,Em w0.off M0 { c' with dom:=H.length } n (fun _ H'=>ex≠ .normal/\noIter H'=true/\((∀ j,y.val<j->j<len->f j=false)->Q ex fr H')) a3 W3->ex≠ .normal/\KeepsFrom c.w.heap.size c'.w W3/\∃ ex' pr y' c'' H'',pre ++ [y]=pr ++ [y']/\(∀ z∈pr,f z.val=false)/\ex.code=ex'.code/\ex'≠ .normal/\((∀ j,y'.val<j->j<len->f j=false)->Q ex' fr H'')/\c''.w=W3/\HS w0 M0 c'' H''/\Ext c c''/\noIter H''=true/\(∀ b,c.w.heap.size<=b->c''.M b->∃ (j:Nat) (y:AB),H''[j]? = some y/\y.live=true/\oB (c''.rho j)=some b):=by
    intro ex ki;obtain⟨k0,k1,c3,H3,rfl,k2,k3,k4,k5⟩:=go ex ki;obtain⟨s1,s2⟩:=k2.slim (B0:=c.w.heap.size) L;exact⟨k0,k1,ex,pre,y,c3.slim c.w.heap.size H3,H3,rfl,F,rfl,k0,k5,rfl,s1.on,(kp.trans k3).trans s2,k4,fun b hb hm=>hm.2.resolve_left (by omega)⟩
   cases e with
   | normal=>exact absurd rfl (mk .normal I).1
   | exit id=>exact(mk (.exit id) I).2
   | ret=>exact(mk .ret I).2
   | _=>exact I.elim
 case done=>
  rintro ys W ke ⟨hW,F⟩;refine⟨hW,fun i hi=>?_⟩;have:=U5 hi;rw [<-ke,AQ] at this;obtain⟨y,hy,rfl⟩:=this;exact F y hy
 case stop=>
  rintro cd pre W ⟨k,hk,F⟩ ⟨ex,pr,y,c',H',rfl,h2,rfl,h4,h5,rfl,h6,h7,h8,h9⟩;refine⟨ex,c',H',rfl,h4,h5 (RE hk (pre:=pr.map Fin.val) (x:=y.val) (by rw [<-F];simp) (p:=fun j=>f j=false) (by
   intro z hz;obtain⟨z',kd,rfl⟩:=AQ.1 hz;exact h2 z' kd)),rfl,h6,h7,h8,h9⟩
theorem aRF.back (hT:TOk P T) {gf:FuncId} {sz:Nat} (K:IsBack P gf sz) {g:Operand} {p1 p2:Nat} {asg body:Code} {Q:QA} {fr:Fr} {H:List AB} {B len:Nat} {tb:TypeId} {x:AV} {E:Nat->List AV}
  (hg:ev fr g = .fn gf [.bp B 0]) (hB:hget H B=some (.box tb [x])) (hx:Lr H x sz len E) (Z:len<=1000000000) (_hni:noIter H=true) (hp:p1<n/\p2<n) (ha:roundOk body=true)
  (frz:Fr) (hh:frozen fr H frz) (u:Nat->Bool)
  (O:∀ i,i<len->u i=false->GV T n asg ((p2, .ag (E i))::(p1,iv i)::frz) [] fun fr' H'=>noIter H'=true/\C2 P T n 0 body (fun ex _ _=>ex = .normal) fr' H')
  (V:∀ i,i<len->u i=true->GV T n asg ((p2, .ag (E i))::(p1,iv i)::fr) H fun fr' H'=>noIter H'=true/\C2 P T n H.length body (fun ex _ H'=>ex≠ .normal/\noIter H'=true/\((∀ j,i<j->j<len->u j=false)->Q ex fr H')) fr' H')
  (C:(∀ i,i<len->u i=false)->Q .normal fr H):aRF P T n d0 g #[p1,p2] asg body Q fr H:=by
 have core:=fun w0 M0 c a hs hf=>UR hT K (Q:=Q) hg hB hx Z _hni hp ha frz hh u O V (w0:=w0) (M0:=M0) (c:=c) (a:=a) hs hf
 refine⟨fun w0 M0 ce c a hs hf he hd Q' hQ=>?_,fun hb w0 M0 ce c a hs hf he hd l0 r0 m hl0 hm Q' hQ=>?_⟩
 ·have J:=hs.low.size;obtain⟨gB,X,I,Ix,Ax,k1,k2,k3,k4,k5,k6,k7,k8,k9,k10⟩:=core w0 M0 c a hs hf;refine(wpIn_wide (n:=9)).1 ?_;refine wpIn_rangeFunc_ownH (F:=Fence.wide) (n:=9) rfl (by omega) (gf:=gf) (lb:= #[.pointer (some ⟨gB,0,none⟩)]) k1 trivial K.enters (k2 8 (by omega)) (fun h k=>h.trans k)
   (fun W l o o' hl ho _ _=>(Below.refl _ W).grown (grownBy_putObj' W l o') (Bo hl (Nat.le_of_lt (Ay.1 ho).1)) (fun k e=>by cases e;exact hl)) (Below.refl _ _) (fun _=>rfl)
   I Ix k3 k4 k5 Ax k6 (k7 7) (k8 7 (.inr (by omega))) ?_ ?_
  ·rintro D ys W hD G hI f;obtain⟨hW,z⟩:=k9 ys W G hI;obtain⟨g1,g2⟩:=hs.grow hW;refine hQ .normal { c with w:=W } fr H _ (C z) g1 ⟨hf.size,⟨fun _=>⟨D,rfl,Bo J hD,fun hm=>by have:=hs.lt D hm;omega,f,?_⟩,hf.defers.ext g2⟩,(hf.ext g2).get⟩ (he.trans g2);rename_i hck;intro e L;obtain⟨b,hb,hc⟩:=hf.defers.lt hck e L;rw [hb];intro e';injection e' with e'
   omega
  ·rintro D cd pre W hD hk N f;obtain⟨ex,c',H',rfl,h4,hq,rfl,h6,h7,h8,h9⟩:=k10 cd pre W hk N;have hM:¬c'.M D:=by
    intro hm;obtain⟨j,y',q1,q2,q3⟩:=h9 D hD hm;obtain⟨o,q4,q5⟩:=h6.cells h8 q1 q2 q3;rw [f] at q4;cases q4;cases q5
   have U:FR w0 c' n fr { a with defers:={ target:= .collected D,args:= #[] }::a.defers }:=by
    refine⟨hf.size,⟨fun hck=>⟨D,rfl,Bo J hD,hM,f,?_⟩,hf.defers.ext h7⟩,(hf.ext h7).get⟩;intro e L;obtain⟨b,hb,hc⟩:=hf.defers.lt hck e L;rw [hb];intro e';injection e' with e'
    omega
   cases ex with
   | normal=>exact absurd rfl h4
   | exit id=>exact wpIn_exit (hQ (.exit id) c' fr H' _ hq h6 U (he.trans h7))
   | ret=>exact wpIn_ret (hQ .ret c' fr H' _ hq h6 U (he.trans h7))
 ·obtain⟨gB,X,I,Ix,Ax,k1,k2,k3,k4,k5,k6,k7,k8,k9,k10⟩:=core w0 M0 c a hs hf;refine wpIn_rangeFunc_ownN (F:=Fence.wide.inRound l0) (n:=m) (l₀:=l0) (r₀:=r0) rfl hl0 (by omega) (gf:=gf) (lb:= #[.pointer (some ⟨gB,0,none⟩)]) k1 trivial K.enters (k2 (m - 1) (by omega)) (fun h k=>h.trans k)
   (fun W l o o' hl ho _ _=>(Below.refl _ W).grown (grownBy_putObj' W l o') (Bo hl (Nat.le_of_lt (Ay.1 ho).1)) (fun k e=>by cases e;exact hl)) (Below.refl _ _) (fun _=>rfl)
   I Ix k3 k4 k5 Ax k6 (k7 (m - 1 - 1)) (k8 (m - 1 - 1) (.inl hb)) ?_ ?_
  ·rintro ys W G hI;obtain⟨hW,z⟩:=k9 ys W G hI;obtain⟨g1,g2⟩:=hs.grow hW;exact hQ .normal { c with w:=W } fr H _ (C z) g1 (hf.ext g2) (he.trans g2)
  ·rintro cd pre W hk N;obtain⟨ex,c',H',rfl,h4,hq,rfl,h6,h7,h8,h9⟩:=k10 cd pre W hk N;cases ex with
   | normal=>exact absurd rfl h4
   | exit id=>exact wpIn_exit (hQ (.exit id) c' fr H' _ hq h6 (hf.ext h7) (he.trans h7))
   | ret=>exact wpIn_ret (hQ .ret c' fr H' _ hq h6 (hf.ext h7) (he.trans h7))
end
end
section
open Go.RowKit Go.Shelf
attribute [local go_sem] Oper.semAt_some

theorem F5 (n j:Nat):Dq n (j+1)=Dq n j ++ [n - 1 - j]:=by simp [Dq,Bp]
theorem Hw (n j:Nat):(Dq n j).length=j:=by simp [Dq]

theorem Xa (F:Fence) (n:Nat) (h7:F.fn 371) (hro:F.round=none) (hn:1<=n) (l Bs n₀ b off len cap:Nat) (X Y:Nat->Value) (hlen:len<=1000000000) (hb:b<n₀) (hBn:Bs<n₀) (J Jx:List Nat->World->Prop)
  (hY:∀ pre x W,J pre W->pre.length<len->x<len->YieldAt F (n - 1) Tryz.prog l #[.int .i64 (x:Nat), .agg #[X x,Y x]] W fun e W'=>
   (e = .returned (.bool true)/\J (pre ++ [x]) W'/\Below n₀ W W')\/(e = .returned (.bool false)/\Jx (pre ++ [x]) W'))
  (W:World) (hBs:W.cell? ⟨Bs,0,none⟩=some (.slice (some ⟨b,off,none⟩) len cap)) (hc0:∀ j,j<len->W.cell? ⟨b,off+j*2,none⟩=some (X j)) (hc1:∀ j,j<len->W.cell? ⟨b,off+j*2+1,none⟩=some (Y j)) (h0:J [] W) :
  CallsIn F n Tryz.prog 371 #[.func (.yield l) #[] #[], .pointer (some ⟨Bs,0,none⟩)] W fun e W'=>(∃ v,e = .returned v)/\
   ((∃ ys,ys=Dq len len/\J ys W')\/(∃ pre,(∃ k,k<=len/\pre=Dq len k)/\Jx pre W')):=by
 have Hc0:=Lib.hid hc0;have Hc1:=Lib.hid hc1;clear hc0 hc1;refine callsIn_of_wp Tryz.func371 rfl h7 ?_ hro;simp only [Tryz.ntmps371,BP,Ao,Bv,Nat.reduceAdd,Nat.reduceSub,Dd,Dc,DE,Do,B7,B6]
 gi_wp2
 gi_loopw [3] (fun i wr=>∃ k:Nat,k<=len/\i = .int .i64 ((len:Int) - 1 - k)/\J (Dq len k) wr/\Below n₀ W wr)
  (fun i _=>(intOf i+1).toNat)
 case atStart=>exact⟨0,Aj _,by simp,h0,Below.refl _ _⟩
 case round=>
  obtain⟨k,hk,rfl,hJs,hnx⟩:=hrel;by_cases hlt:k<len
  ·obtain⟨m,hmk⟩:∃ m,len=k+1+m:=⟨len - (k+1),by omega⟩;rw [show (len:Int) - 1 - k=(m:Int) by omega];obtain⟨fn,tmps,assign,body,hy,hR⟩:=hY _ m wr hJs (by rw [Hw];exact hlt) (by omega);have e0:=(hnx.cell (p:=⟨b,off+m*2,none⟩) hb).trans (Hc0.out m (by omega));have e1:=(hnx.cell (p:=⟨b,off+m*2+1,none⟩) hb).trans (Hc1.out m (by omega));have eb:=(hnx.cell (p:=⟨Bs,0,none⟩) hBn).trans hBs;have hm:(m:Int)<(len:Int):=by omega
   have Hm:=Lib.hid hmk;clear hmk
   gi_wp2
   refine hR.mono ?_;rintro e W3 (⟨rfl,hJ3,hk3⟩ | ⟨rfl,hJx3⟩)
   ·gi_wp2
    go_roundw
    case rel=>exact⟨k+1,by omega,congrArg (Value.int .i64) (by have:=Hm.out;omega),by rw [F5,show len - 1 - k=m by have:=Hm.out;omega];exact hJ3,hnx.trans hk3⟩
    case measure=>simp [intOf]
   ·gi_wp2
    refine bodyPost_ret (results_none rfl _ _ _) rfl ?_;exact⟨⟨_,rfl⟩, .inr ⟨_,⟨k+1,by omega,by rw [F5,show len - 1 - k=m by have:=Hm.out;omega]⟩,hJx3⟩⟩
  ·obtain rfl:k=len:=by omega
   rw [show ((k:Nat):Int) - 1 - k = -1 by omega]
   gi_wp2
   go_end0
   exact⟨⟨_,rfl⟩, .inl ⟨_,rfl,hJs⟩⟩

theorem Xb (F:Fence) (n:Nat) (h7:F.fn 371) (hro:F.round=none) (l Bs:Nat) (a:Option Addr) (cap:Nat) (J:List Nat->World->Prop) (W:World) (hBs:W.cell? ⟨Bs,0,none⟩=some (.slice a 0 cap)) (h0:J [] W) :
  CallsIn F n Tryz.prog 371 #[.func (.yield l) #[] #[], .pointer (some ⟨Bs,0,none⟩)] W fun e W'=>(∃ v,e = .returned v)/\J [] W':=by
 refine callsIn_of_wp Tryz.func371 rfl h7 ?_ hro;simp only [Tryz.ntmps371,BP,Ao,Bv,Nat.reduceAdd,Nat.reduceSub,Dd,Dc,DE,Do,B7,B6]
 gi_wp2
 gi_loopw [3] (fun i wr=>i = .int .i64 (-1)/\J [] wr) (fun _ _=>0)
 case atStart=>exact⟨rfl,h0⟩
 case round=>
  obtain⟨rfl,hJs⟩:=hrel
  gi_wp2
  go_end0
  exact⟨⟨_,rfl⟩,hJs⟩

theorem RR (F:Fence) (n:Nat) (h7:F.fn 371) (f:F.round=none) (hn:1<=n) (Bs n₀:Nat) (a:Option Addr) (len cap:Nat) (X Y:Nat->Value) (z:len<=1000000000) (w:World) (C:Bs<n₀) (G:n₀<=w.heap.size)
  (hc:w.cell? ⟨Bs,0,none⟩=some (.slice a len cap)) (hI:0<len->∃ b off,a=some ⟨b,off,none⟩/\b<n₀/\∀ j,j<len->w.cell? ⟨b,off+j*2,none⟩=some (X j)/\w.cell? ⟨b,off+j*2+1,none⟩=some (Y j)) :
  SeqStopsK F n Tryz.prog 371 #[.pointer (some ⟨Bs,0,none⟩)] (fun x:Fin len=> #[Value.int .i64 x.val, .agg #[X x,Y x]]) (Below n₀) (fun ys=>ys.map Fin.val=Dq len len) (fun pre=>∃ k,k<=len/\pre.map Fin.val=Dq len k) len w:=fun l J Jx W hW _ _ hY h0=>by
 have u:=(hW.cell (p:=⟨Bs,0,none⟩) (by show Bs<_;omega)).trans hc;rcases Dv len with rfl | hp
 ·exact(Xb F n h7 f l Bs a cap (fun _ W=>J [] W) W u h0).mono fun e W' ⟨he,hj⟩=>⟨he, .inl ⟨[],rfl,hj⟩⟩
 ·obtain⟨b,off,rfl,hb,hj⟩:=hI hp;refine(Xa F n h7 f hn l Bs n₀ b off len cap X Y z hb C (fun pre W=>∃ q:List (Fin len),q.map Fin.val=pre/\J q W) (fun pre W=>∃ q:List (Fin len),q.map Fin.val=pre/\Jx q W) ?_ W u (fun j h=>(hW.cell (p:=⟨b,off+j*2,none⟩) (by show b<_;omega)).trans (hj j h).1) (fun j h=>(hW.cell (p:=⟨b,off+j*2+1,none⟩) (by show b<_;omega)).trans (hj j h).2) ⟨[],rfl,h0⟩).mono ?_
  ·rintro pre x W1 ⟨q,hq,hJ⟩ i hx;obtain⟨fn,tmps,assign,body,hy,hR⟩:=hY q ⟨x,hx⟩ W1 hJ (by rw [<-hq,Ab] at i;exact i);refine⟨fn,tmps,assign,body,hy,hR.mono ?_⟩;rintro e W' (⟨he,h1,h2⟩ | ⟨he,h1⟩)
   ·exact .inl ⟨he,⟨_,by simp [hq],h1⟩,h2⟩
   ·exact .inr ⟨he,⟨_,by simp [hq],h1⟩⟩
  ·rintro e W' ⟨he,⟨ys,rfl,q,hq,hJ⟩ | ⟨pre,⟨k,hk,rfl⟩,q,hq,hJ⟩⟩
   ·exact⟨he, .inl ⟨q,hq,hJ⟩⟩
   ·exact⟨he, .inr ⟨q,⟨k,hk,hq⟩,hJ⟩⟩

theorem back_is:IsBack Tryz.prog 371 2:=by
 refine⟨enters_of Tryz.func371 (by kernel_rfl) rfl,fun m hm B a len cap X w hlen hc hl hI=>?_⟩;have e:(fun x:Fin len=>(#[Value.int .i64 x.val, .agg (X x.val).toArray]:Array Value))=fun x:Fin len=> #[Value.int .i64 x.val, .agg #[(X x.val).getD 0 undef,(X x.val).getD 1 undef]]:=by
  funext x;have:=hl x.val;match h:X x.val with
  | [u,v]=>rfl
  | []=>rw [h] at this;simp at this
  | [_]=>rw [h] at this;simp at this
  | _::_::_::_=>rw [h] at this;simp at this
 rw [e];refine RR Fence.wide m trivial rfl hm B w.heap.size a len cap (fun j=>(X j).getD 0 undef) (fun j=>(X j).getD 1 undef) hlen w (World.block_lt_of_cell? w _ hc) (Ah _) hc fun hp=>?_
 obtain⟨b,off,h1,h2,h3⟩:=hI hp;refine⟨b,off,h1,h2,fun j hj=>?_⟩;have h4:=hl j;match h:X j with
 | [u,v]=>exact⟨h3 j hj 0 u (by rw [h];rfl),h3 j hj 1 v (by rw [h];rfl)⟩
 | []=>rw [h] at h4;simp at h4
 | [_]=>rw [h] at h4;simp at h4
 | _::_::_::_=>rw [h] at h4;simp at h4
end
section
open Go.RowKit
structure Cel where
 state:Int
 bytes:List UInt8
 old:List UInt8
 deriving DecidableEq
def B4 (x:Cel):List AV:= [iv x.state,bA x.bytes,bA x.old]
structure Dk where
 cells:List Cel
 cache:List Wr
 reqs:Int
 left:Int
 deriving DecidableEq
@[reducible] def Gp (x y:AV) (reqs left:Int):List AV:= [x,y,iv reqs,iv left]
@[reducible] def dkH (d:Dk):List AB:= [.box 119 (Gp (.ow 1 d.cells.length) (.ow 2 d.cache.length) d.reqs d.left), .row 68 3 (d.cells.map B4), .row 152 2 (d.cache.map Ei)]
def Dk.req (d:Dk):Dk:={ d with reqs:=if 1048576<IntKind.i64.wrap (d.reqs+1) then 1048576 else IntKind.i64.wrap (d.reqs+1),left:=if d.left > 0 then d.left - 1 else d.left }

theorem Hd (d:Dk) (hl : -1<=d.left/\d.left<=1048576):ACalls Tryz.prog false 150 [.bp 0 0] (dkH d) fun r H=>r = .v (.bool (decide (d.left≠0)))/\H=dkH (if d.left=0 then d else d.req):=by
 refine zg tys_ok Tryz.func150 rfl rfl (by decide) ?_;conv=>whnf
 refine A5 (fun h=>?_) (fun h=>?_) <;> (repeat rw [Aa] at h) <;> conv=>whnf
 ·exact⟨_,dkH d,fun _ _ h=>h,tA,rfl,tA,by simp [h],by rw [if_pos h]⟩
 ·have hw:IntKind.i64.wrap (d.left - 1)=d.left - 1:=by rw [IntKind.wrap_i64];omega
  refine zZ ?_;conv=>whnf
  refine A5 (fun h2=>?_) (fun h2=>?_) <;> (repeat rw [Aa] at h2) <;> conv=>whnf
  ·exact⟨_,dkH d.req,fun _ _ h=>h,⟨by simp [Dk.req,h2,hw],rfl,rfl,tv⟩,rfl,tA,by simp [h],by rw [if_neg h]⟩
  ·exact⟨_,dkH d.req,fun _ _ h=>h,⟨by simp [Dk.req];omega,rfl,rfl,tv⟩,rfl,tA,by simp [h],by rw [if_neg h]⟩

theorem W_ (a:Option Addr) (len cap:Nat) (w:World) :
  Calls Tryz.prog 312 #[.slice a len cap] w fun e w'=>e = .returned (.func (.func 371) #[] #[.pointer (some ⟨w.heap.size,0,none⟩)])/\w.alloc (.cells #[.slice a len cap] 36)=w':=by
 go_enter Tryz.func312,Tryz.ntmps312
 go_wp2
 go_ret
 exact tA

theorem Q3 (x:AV) (Hin:List AB) (hx:∀ c u,Rd x c u->∃ a len cap,u = .slice a len cap):ACalls Tryz.prog false 312 [x] Hin fun r H=>r = .fn 371 [.bp Hin.length 0]/\H=Hin ++ [.box 36 [x]]:=by
 refine⟨⟨_,Tryz.func312,rfl,by decide⟩,fun w0 M0 c us hs hr=>?_⟩;have f:=hr;simp only [RdL] at hr;obtain⟨u,_,rfl,hu,rfl⟩:=hr;obtain⟨a,len,cap,rfl⟩:=hx _ _ hu;obtain⟨c',e1,e2,e3,e4⟩:=hs.box 36 f (by simp [Value.oneCell']);refine(W_ a len cap c.w).mono ?_;rintro e w' ⟨rfl,rfl⟩;refine⟨_,c',_,_,rfl,by rw [e1],tA,e2,e3,?_,fun e=>by cases e⟩;simp only [Rd,RdL];exact⟨_,rfl,_,_,rfl,by simpa only [Rd] using e4,rfl⟩
def NP (l:List Cel):AV:= .sl 3 l.length fun i=>B4 (l.getD i ⟨0, [], []⟩)
theorem JF (l:List Int) (hl:l.length<=1000000000):ACalls Tryz.prog false 83 [iA l] [] fun r H=>r = .ow 0 l.length/\H=[.row 3 1 (l.map OX)]:=by
 refine zx tys_ok Tryz.func83 rfl rfl (by show 1<=_;decide) ?_;refine Ad (fun h=>?_) ?_
 ·conv=>whnf
  have h0:=AT.1 h;subst h0;exact⟨_, .ow 0 0, [.row 3 1 []],fun _ _ h=>h,zE ⟨[(0,3,1)],tA,tA,tA,rfl,rfl,rfl⟩,rfl,rfl⟩
 ·refine⟨⟨rfl,by omega⟩,?_⟩;exact⟨.ow 0 l.length, .ow 0 l.length, [.row 3 1 (l.map OX)],fun _ _ h=>by rwa [A0] at h,zE ⟨[],tv,tA,⟨(congrArg (AB.row _ _) (Hh (d:=0) OX l)).symm,tv⟩,rfl,rfl,rfl⟩,rfl,rfl⟩
theorem N7 (l:List Hm) (hl:l.length<=1000000000):ACalls Tryz.prog false 154 [HE l] [] fun r H=>r = .ow 0 l.length/\H=[.row 108 3 (l.map DL)]:=by
 refine zx tys_ok Tryz.func154 rfl rfl (by show 1<=_;decide) ?_;refine Ad (fun h=>?_) ?_
 ·conv=>whnf
  have h0:=AT.1 h;subst h0;exact⟨_, .ow 0 0, [.row 108 3 []],fun _ _ h=>h,zE ⟨[(0,108,3)],tA,tA,tA,rfl,rfl,rfl⟩,rfl,rfl⟩
 ·refine⟨⟨rfl,by omega⟩,?_⟩;exact⟨.ow 0 l.length, .ow 0 l.length, [.row 108 3 (l.map DL)],fun _ _ h=>by rwa [A0] at h,zE ⟨[],tv,tA,⟨(congrArg (AB.row _ _) (Hh (d:=⟨[],0,0⟩) DL l)).symm,tv⟩,rfl,rfl,rfl⟩,rfl,rfl⟩
theorem JZ (l:List Tx) (hl:l.length<=1000000000):ACalls Tryz.prog false 155 [CS l] [] fun r H=>r = .ow 0 l.length/\H=[.row 170 4 (l.map CG)]:=by
 refine zx tys_ok Tryz.func155 rfl rfl (by show 1<=_;decide) ?_;refine Ad (fun h=>?_) ?_
 ·conv=>whnf
  have h0:=AT.1 h;subst h0;exact⟨_, .ow 0 0, [.row 170 4 []],fun _ _ h=>h,zE ⟨[(0,170,4)],tA,tA,tA,rfl,rfl,rfl⟩,rfl,rfl⟩
 ·refine⟨⟨rfl,by omega⟩,?_⟩;exact⟨.ow 0 l.length, .ow 0 l.length, [.row 170 4 (l.map CG)],fun _ _ h=>by rwa [A0] at h,zE ⟨[],tv,tA,⟨(congrArg (AB.row _ _) (Hh (d:=⟨0,0,0, []⟩) CG l)).symm,tv⟩,rfl,rfl,rfl⟩,rfl,rfl⟩
theorem N4 (l:List Img) (hl:l.length<=1000000000):ACalls Tryz.prog false 156 [D2 l] [] fun r H=>r = .ow 0 l.length/\H=[.row 139 3 (l.map Dz)]:=by
 refine zx tys_ok Tryz.func156 rfl rfl (by show 1<=_;decide) ?_;refine Ad (fun h=>?_) ?_
 ·conv=>whnf
  have h0:=AT.1 h;subst h0;exact⟨_, .ow 0 0, [.row 139 3 []],fun _ _ h=>h,zE ⟨[(0,139,3)],tA,tA,tA,rfl,rfl,rfl⟩,rfl,rfl⟩
 ·refine⟨⟨rfl,by omega⟩,?_⟩;exact⟨.ow 0 l.length, .ow 0 l.length, [.row 139 3 (l.map Dz)],fun _ _ h=>by rwa [A0] at h,zE ⟨[],tv,tA,⟨(congrArg (AB.row _ _) (Hh (d:=⟨0,0, []⟩) Dz l)).symm,tv⟩,rfl,rfl,rfl⟩,rfl,rfl⟩
theorem Jd (l:List Cel) (hl:l.length<=1000000000):ACalls Tryz.prog false 69 [NP l] [] fun r H=>r = .ow 0 l.length/\H=[.row 68 3 (l.map B4)]:=by
 refine zx tys_ok Tryz.func69 rfl rfl (by show 1<=_;decide) ?_;refine Ad (fun h=>?_) ?_
 ·conv=>whnf
  have h0:=AT.1 h;subst h0;exact⟨_, .ow 0 0, [.row 68 3 []],fun _ _ h=>h,zE ⟨[(0,68,3)],tA,tA,tA,rfl,rfl,rfl⟩,rfl,rfl⟩
 ·refine⟨⟨rfl,by omega⟩,?_⟩;exact⟨.ow 0 l.length, .ow 0 l.length, [.row 68 3 (l.map B4)],fun _ _ h=>by rwa [A0] at h,zE ⟨[],tv,tA,⟨(congrArg (AB.row _ _) (Hh (d:=⟨0, [], []⟩) B4 l)).symm,tv⟩,rfl,rfl,rfl⟩,rfl,rfl⟩
theorem JX (l:List Wr) (hl:l.length<=1000000000):ACalls Tryz.prog false 70 [Ly l] [] fun r H=>r = .ow 0 l.length/\H=[.row 152 2 (l.map Ei)]:=by
 refine zx tys_ok Tryz.func70 rfl rfl (by show 1<=_;decide) ?_;refine Ad (fun h=>?_) ?_
 ·conv=>whnf
  have h0:=AT.1 h;subst h0;exact⟨_, .ow 0 0, [.row 152 2 []],fun _ _ h=>h,zE ⟨[(0,152,2)],tA,tA,tA,rfl,rfl,rfl⟩,rfl,rfl⟩
 ·refine⟨⟨rfl,by omega⟩,?_⟩;exact⟨.ow 0 l.length, .ow 0 l.length, [.row 152 2 (l.map Ei)],fun _ _ h=>by rwa [A0] at h,zE ⟨[],tv,tA,⟨(congrArg (AB.row _ _) (Hh (d:=⟨0, []⟩) Ei l)).symm,tv⟩,rfl,rfl,rfl⟩,rfl,rfl⟩
theorem SubL.app:∀ {a b x y:List AV},SubL a b->SubL x y->SubL (a ++ x) (b ++ y)
 | [], [],_,_,_,k=>k
 | _::_,_::_,_,_,h,k=>⟨h.1,SubL.app h.2 k⟩
 | [],_::_,_,_,h,_=>h.elim
 | _::_, [],_,_,h,_=>h.elim
theorem SubL.flat:∀ {a b:List (List AV)},a.length=b.length->(∀ i,SubL (a.getD i []) (b.getD i []))->SubL a.flatten b.flatten
 | [], [],_,_=>trivial
 | x::a,y::b,hl,h=>by
  rw [AI,AI];exact SubL.app (h 0) (SubL.flat (by simpa using hl) fun i=>h (i+1))
 | [],_::_,hl,_=>by simp at hl
 | _::_, [],hl,_=>by simp at hl
theorem ConvH.subRow {H:List AB} {k:Nat} {t:TypeId} {sz:Nat} {es es':List (List AV)} (hk:H[k]? = some (.row t sz es)) (hl:es.length=es'.length) (h:∀ i,SubL (es.getD i []) (es'.getD i [])):ConvH H (H.set k (.row t sz es')):=fun _ _ c hs=>
 ⟨c,rfl,hs.recell hk rfl fun⟨h1,h2,h3,xs,h4,h5,h6⟩=>⟨h1.trans hl,h2,fun e he=>by
  obtain⟨i,hi,rfl⟩:=List.mem_iff_getElem.1 he;have:=(h i).len;rw [Ac,Ac,Ag hi,Ag (by omega)] at this;simp only [BH] at this;rw [<-this];exact h3 _ (CD _),xs,by rw [<-hl];exact h4,(SubL.flat hl h).rdl h5,h6⟩,zJ c⟩
def zD:=@ConvH.subRow
theorem ConvH.subRowo {H:List AB} {k:Nat} {t:TypeId} {sz m m':Nat} {es es':List (List AV)} (hk:H[k]? = some (.rowo t sz es m)) (hl:es.length=es'.length) (h:∀ i,SubL (es.getD i []) (es'.getD i [])) (hm:AV.ltL es'.flatten m'=true):ConvH H (H.set k (.rowo t sz es' m')):=fun _ _ c hs=>
 ⟨c,rfl,hs.recell hk rfl fun⟨h1,h2,h3,h7,xs,h4,h5,h6⟩=>⟨h1.trans hl,h2,fun e he=>by
  obtain⟨i,hi,rfl⟩:=List.mem_iff_getElem.1 he;have:=(h i).len;rw [Ac,Ac,Ag hi,Ag (by omega)] at this;simp only [BH] at this;rw [<-this];exact h3 _ (CD _),hm,xs,by rw [<-hl];exact h4,(SubL.flat hl h).rdl h5,h6⟩,zJ c⟩
theorem KD {α:Type} {d x:α} {l:List α} {i k:Nat} (h:i≠k):(l.set i x).getD k d=l.getD k d:=by
 rw [Ac,A9 h,<-Ac]
theorem Bu {α:Type} {d x:α} {l:List α} {i:Nat} (h:i<l.length):(l.set i x).getD i d=x:=by
 rw [Ac,AA h];try rfl
theorem ConvH.last {H:List AB} (k:Nat) {t:TypeId} {sz:Nat} {es:List (List AV)} {e e':List AV} (hk:H[k]? = some (.row t sz (es ++ [e]))) (h:SubL e e'):ConvH H (H.set k (.row t sz (es ++ [e']))):=
 zD hk (by simp) fun i=>by
  by_cases hi:i<es.length
  ·rw [JH hi,JH hi];exact SubL.refl _
  ·rw [I3 (by omega),I3 (by omega)];cases h2:i - es.length with
   | zero=>exact h
   | succ j=>exact SubL.refl _
def AV.mv (k d:Nat):AV->AV
 | .ow j n=> .ow (bif Nat.beq j k then d else j) n
 | x=>x
theorem Rd.mv {c c':Ctx} {k:Nat} (e:Ext c c') (hd:c.dom<c'.dom) (hr:c'.rho c.dom=c.rho k) (hl:c'.len c.dom=c.len k):∀ (x:AV) {u:Value},Rd x c u->Rd (x.mv k c.dom) c' u
 | .ow j n,u,h=>by
  show Rd (.ow (bif Nat.beq j k then c.dom else j) n) c' u;cases hb:Nat.beq j k with
  | true=>
   have:=Al hb;subst this;simp only [Rd] at h;simp only [cond_true,Rd];exact⟨hd,by rw [hl];exact h.2.1,h.2.2.1,fun e=>by rw [hr];exact h.2.2.2 (by rw [<-hl];exact e)⟩
  | false=>exact Rd.ext _ e h
 | .top,_,h=>Rd.ext _ e h
 | .v _,_,h=>Rd.ext _ e h
 | .sl _ _ _,_,h=>Rd.ext _ e h
 | .rp _,_,h=>Rd.ext _ e h
 | .bp _ _,_,h=>Rd.ext _ e h
 | .ep _ _ _ _ _,_,h=>Rd.ext _ e h
 | .ag _,_,h=>Rd.ext _ e h
 | .tp _,_,h=>Rd.ext _ e h
 | .fn _ _,_,h=>Rd.ext _ e h
 | .ic _ _,_,h=>Rd.ext _ e h
theorem RdL.mv {c c':Ctx} {k:Nat} (e:Ext c c') (hd:c.dom<c'.dom) (hr:c'.rho c.dom=c.rho k) (hl:c'.len c.dom=c.len k):∀ (l:List AV) {us:List Value},RdL l c us->RdL (l.map (AV.mv k c.dom)) c' us
 | [],_,h=>h
 | x::l,_,h=>by
  simp only [RdL] at h;obtain⟨y,ys,rfl,h1,h2⟩:=h;simp only [Az,RdL];exact⟨y,ys,rfl,Rd.mv e hd hr hl x h1,RdL.mv e hd hr hl l h2⟩
theorem ConvH.move {H:List AB} (i k:Nat) {t ti:TypeId} {sz:Nat} {es:List (List AV)} {cs:List AV} (u:i≠k) (hi:H[i]? = some (.box ti cs)) (hk:H[k]? = some (.row t sz es)) :
  ConvH H (((H.set k .dead).set i (.box ti (cs.map (AV.mv k H.length)))) ++ [.row t sz es]):=fun w0 M0 c hs=>by
 have C:=(At.1 hi).1;have z:=(At.1 hk).1;have f:=hs.dom;let c':Ctx:={ c with rho:=fun j=>if j=c.dom then c.rho k else c.rho j,len:=fun j=>if j=c.dom then c.len k else c.len j,dom:=c.dom+1 };have hn:∀ j,j<c.dom->c'.rho j=c.rho j/\c'.len j=c.len j:=fun j hj=>⟨if_neg (by omega),if_neg (by omega)⟩
 have e:Ext c c':=⟨rfl,rfl,rfl,Ah _,fun _ _ h=>⟨h,rfl⟩,Nat.le_succ _,fun j hj=>by rw [(hn j hj).2];exact Ah _,fun j hj _=>(hn j hj).1,fun j g hj h=>by rw [(hn j hj).1];exact h⟩;have hr:c'.rho c.dom=c.rho k:=if_pos rfl;have hl:c'.len c.dom=c.len k:=if_pos rfl;have get:∀ j x,(((H.set k .dead).set i (.box ti (cs.map (AV.mv k H.length)))) ++ [.row t sz es])[j]? = some x->x.live=true->(j=c.dom/\x = .row t sz es)\/(j<c.dom/\j=i/\x = .box ti (cs.map (AV.mv k c.dom)))\/(j<c.dom/\j≠i/\j≠k/\H[j]? = some x):=fun j x hj hx=>by
  rw [f];by_cases h1:j<H.length
  ·rw [AH (by simpa using h1)] at hj;by_cases h2:j=i
   ·subst h2;rw [AA (by simpa using h1)] at hj;exact .inr (.inl ⟨h1,rfl,(Option.some.inj hj).symm⟩)
   ·rw [A9 (Ne.symm h2)] at hj;by_cases h3:j=k
    ·subst h3;rw [AA h1] at hj;rw [<-Option.some.inj hj] at hx;cases hx
    ·rw [A9 (Ne.symm h3)] at hj;exact .inr (.inr ⟨h1,h2,h3,hj⟩)
  ·rw [AN (by simpa using h1)] at hj;simp only [AX] at hj;cases h2:j - H.length with
   | zero=>rw [h2] at hj;exact .inl ⟨by omega,(Option.some.inj hj).symm⟩
   | succ m=>rw [h2] at hj;simp at hj
 have org:∀ j x,(((H.set k .dead).set i (.box ti (cs.map (AV.mv k H.length)))) ++ [.row t sz es])[j]? = some x->x.live=true->∃ j' y,H[j']? = some y/\y.live=true/\c'.rho j=c.rho j'/\((j=c.dom/\j'=k)\/(j<c.dom/\j'=j/\j≠k)):=fun j x hj hx=>by
  rcases get j x hj hx with ⟨rfl,rfl⟩ | ⟨h1,rfl,rfl⟩ | ⟨h1,h2,h3,h4⟩
  ·exact⟨k,_,hk,rfl,hr, .inl tA⟩
  ·exact⟨j,_,hi,rfl,(hn j h1).1, .inr ⟨h1,rfl,u⟩⟩
  ·exact⟨j,_,h4,hx,(hn j h1).1, .inr ⟨h1,rfl,h3⟩⟩
 refine⟨c',rfl,⟨hs.low,hs.base,by simp [c',f],hs.foreign,hs.lt,fun j x hj=>?_,fun j x g hj hx ho=>?_,fun j1 j2 x y g h1 h2 hx hy o1 o2=>?_⟩,e⟩
 ·cases hx:x.live with
  | false=>cases x <;> first | trivial | cases hx
  | true=>
   rcases get j x hj hx with ⟨rfl,rfl⟩ | ⟨h1,rfl,rfl⟩ | ⟨h1,h2,h3,h4⟩
   ·obtain⟨q1,q2,q3,xs,q4,q5,q6⟩:=hs.blk k _ hk;exact⟨by rw [hl];exact q1,q2,q3,xs,by rw [hr];exact q4,RdL.ext _ e.closed q5,q6⟩
   ·obtain⟨g,xs,q1,q2,q3,q4⟩:=hs.blk j _ hi;exact⟨g,xs,by rw [(hn j h1).1];exact q1,q2,RdL.mv e (Nat.lt_succ_self _) hr hl _ q3,q4⟩
   ·exact zp e rfl h1 (hn j h1).2 (fun _ _ _=>rfl) (hs.blk j x h4)
 ·obtain⟨j',y,h1,h2,h3,_⟩:=org j x hj hx;exact hs.own j' y g h1 h2 (by rw [<-h3];exact ho)
 ·obtain⟨a,y1,p1,p2,p3,p4⟩:=org j1 x h1 hx;obtain⟨b,y2,r1,r2,r3,r4⟩:=org j2 y h2 hy;have:=hs.dis a b y1 y2 g p1 r1 p2 r2 (by rw [<-p3];exact o1) (by rw [<-r3];exact o2);omega

def z6:=@ConvH.move
def ax (T:Tys) (m:Nat) (rs:List ResultVar) (K:AV->List AB->Prop):QA:=fun ex fr H=>match ex with
 | .exit _=>False
 | _=>I9 T rs fr H fun x=>∃ y r H2,(∀ c v,Rd x c v->Rd y c v)/\WkR m [(0,y)] H [(0,r)] H2/\K r H2
theorem ACalls.ofR {P : Program} {T : Tys} (hT : TOk P T) {f : FuncId} {fn : Func} {body : Code} {args : List AV} {Hin : List AB} {K : AV → List AB → Prop} (hf : P.funcs[f]? = some fn) (hb : fn.body = some body) (j : (fn.name == "runtime.NumGoroutine") = false) (hn : args.length ≤ fn.ntmps)
  (h:C2 P T fn.ntmps Hin.length body (ax T Hin.length fn.results.toList K) (frOf 0 args) Hin):ACalls P false f args Hin K:=by
 refine⟨⟨fn,hf,by rw [hb];try rfl,j⟩,fun w0 M0 c0 us hs0 hr=>?_⟩;have F:=hr.length;have C:FR (w0.at c0.w hs0.low) c0 fn.ntmps (frOf 0 args) { tmps:=us.toArray ++ Array.replicate (fn.ntmps - us.toArray.size) undef,defers:= [] }:=by
  refine⟨by simp;omega,tv,fun i=>?_⟩;have:=Hp (c:=c0) (m:=fn.ntmps - us.length) (l:=args) (i:=0) (pre:= []) rfl hr i;rw [AJ];have e:(us.toArray ++ Array.replicate (fn.ntmps - us.toArray.size) undef)[i]? = ([] ++ us ++ List.replicate (fn.ntmps - us.length) undef)[i]? :=by
   have:(us.toArray ++ Array.replicate (fn.ntmps - us.toArray.size) undef)=([] ++ us ++ List.replicate (fn.ntmps - us.length) undef).toArray:=Array.ext' (by simp);rw [this];simp only [Cy]
  rw [e];exact this
 have fin:∀ a w,Em (w0.at c0.w hs0.low) M0 c0 fn.ntmps (fun fr H=>I9 T fn.results.toList fr H fun x=>∃ y r H2,(∀ c v,Rd x c v->Rd y c v)/\WkR Hin.length [(0,y)] H [(0,r)] H2/\K r H2) a w->∃ v,(results fn a.tmps).run P w = .ok v w/\∃ v' c' r H',Ending.returned v = .returned v'/\c'.w=w/\K r H'/\HS w0 M0 c' H'/\Ext c0 c'/\Rd r c' v'/\(false=true->Old c0.w w):=by
  rintro a w ⟨c,fr,H,rfl,h1,h2,h3,h4⟩;obtain⟨x,v,⟨y,r,H2,o1,o2,o3⟩,q2,q3⟩:=EH hT h2 h3 h1;have z:FR (w0.at c0.w hs0.low) c 1 [(0,y)] { tmps:= #[v],defers:= [] }:=by
   refine⟨rfl,tv,fun i=>?_⟩;unfold fget;cases i with
   | zero=>exact o1 _ _ q2
   | succ i=>show Rd .top c _;simp [Rd]
  obtain⟨c',e1,e2,e3,e4⟩:=o2.sound hs0.dom h2 z h4;have u:=e3.get 0;refine⟨v,q3,v,c',r,H2,rfl,e1,o3,⟨zh e2.low,e2.base,e2.dom,e2.foreign,e2.lt,e2.blk,e2.own,e2.dis⟩,e4,?_,fun e=>by cases e⟩;simpa [fget] using u
 refine Ev hf hb trivial (Ah _) fin ?_;refine BE (w0:=w0.at c0.w hs0.low) (M0:=M0) (ce:=c0) hT hs0.dom body _ _ c0 _ Hin _ (Fy rfl rfl fun _ _ _ h=>h) hs0.toAt C (zJ _) h
def zT:=@ACalls.ofR
def JD (l:List Wr) (a:Int):Option Wr:=l.foldl (fun r w=>if w.addr=a then some w else r) none
theorem Nx (a:Int):JD [] a=none:=rfl
theorem IU (l:List Wr) (w:Wr) (a:Int):JD (l ++ [w]) a=if w.addr=a then some w else JD l a:=by simp [JD]
theorem Kn {a:Int}:∀ (n:Nat) (l:List Wr),l.length=n->∀ i,i<l.length->(l.getD i ⟨0, []⟩).addr=a->(∀ j,i<j->j<l.length->(l.getD j ⟨0, []⟩).addr≠a)->JD l a=some (l.getD i ⟨0, []⟩)
 | 0,l,hn,i,hi,_,_=>by omega
 | n+1,l,hn,i,hi,h1,h2=>by
  rcases CO l with rfl | ⟨m,w,rfl⟩
  ·simp at hn
  ·simp only [CP] at *
   simp at hn hi;rw [IU];by_cases he:i=m.length
   ·subst he;simp only [Ac,AN (Ah _),CH,Di,BH] at h1 |-
    rw [if_pos h1]
   ·have hm:∀ j,j<m.length->(m ++ [w]).getD j ⟨0, []⟩=m.getD j ⟨0, []⟩:=fun j hj=>by simp only [Ac,AH hj]
    have hw:=h2 m.length (by omega) (by simp);simp only [Ac,AN (Ah _),CH,Di,BH] at hw;rw [if_neg hw,hm i (by omega)];rw [hm i (by omega)] at h1;exact Kn n m hn i (by omega) h1 fun j q1 q2=>by rw [<-hm j q2];exact h2 j q1 (by simp;omega)
theorem IV {a:Int}:∀ (n:Nat) (l:List Wr),l.length=n->(∀ j,j<l.length->(l.getD j ⟨0, []⟩).addr≠a)->JD l a=none
 | 0,l,hn,_=>by rw [AT.1 hn];rfl
 | n+1,l,hn,h=>by
  rcases CO l with rfl | ⟨m,w,rfl⟩
  ·rfl
  ·simp only [CP] at *
   simp at hn;rw [IU];have hw:=h m.length (by simp);simp only [Ac,AN (Ah _),CH,Di,BH] at hw;rw [if_neg hw];exact IV n m hn fun j q=>by
    have:=h j (by simp;omega);simpa only [Ac,AH q] using this
def Dk.got (d:Dk) (a:Int):List UInt8 × Int:=
 match JD d.cache a with
 | some w=>(w.bytes,0)
 | none=>if (d.cells.getD a.toNat ⟨0, [], []⟩).state=0 then ((d.cells.getD a.toNat ⟨0, [], []⟩).bytes,0) else ([],6)
def Dk.read (d:Dk) (a:Int):Dk × List UInt8 × Int:=if d.left=0 then (d, [],8) else (d.req,d.got a)

theorem VX (e:Int) (c:Ctx) (v:Value) (h:Rd (.tp [.v (.slice none 0 0),iv e]) c v):Rd (.tp [bA [],iv e]) c v:=by
 simp only [Rd,RdL] at h |-
 obtain⟨xs,rfl,y,ys,rfl,rfl,h⟩:=h;exact⟨_,rfl,_,_,rfl,Bg 1 (fun i=> [.v (.int .u8 (([]:List UInt8).getD i 0).toNat)]) c (.slice none 0 0) (by simp [Rd]),h⟩
theorem Nu {m:Nat} (h:Nat.ble 3 m=true):∀ z∈ [0,1,2],z<m:=fun z hz=>by
 have:=Ae h;simp at hz;omega
theorem WC (C:∀ b:List UInt8,b.length<=1000000000->Fn Tryz.prog 33 [bA b] fun r=>r=bA b) (d:Dk) (a:Int) (hl : -1<=d.left/\d.left<=1048576) (ha:0<=a/\a<d.cells.length) (hc:d.cache.length<=2000) (hb:∀ c∈d.cells,c.bytes.length<=100000) (hw:∀ w∈d.cache,w.bytes.length<=100000) :
  ACalls Tryz.prog false 237 [.bp 0 0,iv a] (dkH d) fun r H=>r = .tp [bA (d.read a).2.1, .v (.int .i64 (d.read a).2.2)]/\H=dkH (d.read a).1:=by
 refine zg tys_ok Tryz.func237 rfl rfl (by show 2<=_;decide) ?_;have hq:=Hd d hl;conv=>whnf
 by_cases h0:d.left=0
 ·rw [if_pos h0] at hq;refine ze9 [0,1,2] hq ?_;rintro _ _ ⟨rfl,rfl⟩;rw [show decide (d.left≠0)=false by simp [h0]];exact⟨.tp [bA [],iv 8],dkH d,VX 8,tA,rfl,tA,by simp [Dk.read,h0],by simp [Dk.read,h0]⟩
 ·rw [if_neg h0] at hq;refine ze9 [0,1,2] hq ?_;rintro _ _ ⟨rfl,rfl⟩;rw [show decide (d.left≠0)=true by simp [h0]];conv=>whnf
  refine(Q3 (.ow 2 d.req.cache.length) _ (fun c u hu=>by simp only [Rd] at hu;obtain⟨_,_,⟨a,p,h,_⟩,_⟩:=hu;exact⟨_,_,_,h⟩)).mono ?_;rintro _ _ ⟨rfl,rfl⟩;conv=>whnf
  have hE:∀ i,i<d.cache.length->(d.cache.map Ei).getD i []=Ei (d.cache.getD i ⟨0, []⟩):=fun i hi=>AY hi
  refine aRF.back tys_ok back_is (B:=6) (len:=d.cache.length) (E:=fun i=>(d.cache.map Ei).getD i []) rfl rfl ⟨rfl,_,_,rfl,by simp [Dk.req],rfl⟩ (by omega) rfl (by decide) rfl [(3, .rp [iv a])] ⟨.inr ⟨3,_,_,rfl,rfl,rfl,rfl⟩,tv⟩ (fun i=>decide ((d.cache.getD i ⟨0, []⟩).addr=a)) ?_ ?_ ?_
  ·intro i hi hh;rw [hE i hi];refine⟨rfl,?_⟩;have f:(d.cache.getD i ⟨0, []⟩).addr≠a:=by simpa using hh
   conv=>whnf
   refine A5 (fun h1=>?_) (fun h1=>?_) <;> (repeat rw [Aa] at h1) <;> conv=>whnf
   ·exact absurd h1 f
  ·intro i hi hh;rw [hE i hi];refine⟨rfl,?_⟩;have f:(d.cache.getD i ⟨0, []⟩).addr=a:=by simpa using hh
   have G:=C (d.cache.getD i ⟨0, []⟩).bytes (by have:=hw _ (A3 (d:=⟨0, []⟩) hi);omega);conv=>whnf
   refine A5 (fun h1=>?_) (fun h1=>?_) <;> (repeat rw [Aa] at h1) <;> conv=>whnf
   ·refine zY G ?_;conv=>whnf
    refine⟨by simp,rfl,fun hord=>?_⟩;conv=>whnf
    have hg:d.got a=((d.cache.getD i ⟨0, []⟩).bytes,0):=by
     unfold Dk.got;rw [Kn _ _ rfl i hi f fun j q1 q2=>by simpa using hord j q1 q2]
    exact⟨_,dkH d.req,fun _ _ h=>h,tA,rfl,tA,by simp [Dk.read,h0,hg,bA],by simp [Dk.read,h0]⟩
   ·exact absurd f h1
  ·intro hh;have hg:d.got a=if (d.cells.getD a.toNat ⟨0, [], []⟩).state=0 then ((d.cells.getD a.toNat ⟨0, [], []⟩).bytes,0) else ([],6):=by
    unfold Dk.got;rw [IV _ _ rfl fun j q=>by simpa using hh j q]
   have z:(d.cells.map B4).getD a.toNat []=B4 (d.cells.getD a.toNat ⟨0, [], []⟩):=AY (by omega);have F:(d.req.cells.map B4).getD a.toNat []=B4 (d.cells.getD a.toNat ⟨0, [], []⟩):=z;have I:=C (d.cells.getD a.toNat ⟨0, [], []⟩).bytes (by have:=hb _ (A3 (d:=⟨0, [], []⟩) (show a.toNat<d.cells.length by omega));omega);conv=>whnf
   refine zA tys_ok mixed [0,1,2,3,4,5,6,7,8,9] (by kernel_rfl) ?_;refine⟨ha,?_⟩;refine⟨⟨rfl,(Ab _).symm,show a.toNat<d.cells.length by omega⟩,?_⟩;conv=>whnf
   first | rw [z] | rw [F]
   conv=>whnf
   refine A5 (fun h1=>?_) (fun h1=>?_) <;> (repeat rw [Aa] at h1) <;> conv=>whnf
   ·rw [if_neg h1] at hg;exact⟨.tp [bA [],iv 6],dkH d.req,VX 6,tA,rfl,tA,by simp only [Dk.read,if_neg h0,hg],by simp only [Dk.read,if_neg h0]⟩
   ·refine zY I ?_;conv=>whnf
    conv=>whnf
    rw [if_pos h1] at hg;exact⟨_,dkH d.req,fun _ _ h=>h,tA,rfl,tA,by simp only [Dk.read,if_neg h0,hg,bA],by simp only [Dk.read,if_neg h0]⟩
def Dk.write (d:Dk) (a:Int) (b:List UInt8):Dk × Int:=
 if d.left=0 then (d,8) else if (d.cells.getD a.toNat ⟨0, [], []⟩).state=2\/(2000:Int)<=d.cache.length then (d.req,7) else ({ d.req with cache:=d.cache ++ [⟨a,b⟩] },0)

theorem NL (j:∀ b:List UInt8,b.length<=1000000000->Fn Tryz.prog 33 [bA b] fun r=>r=bA b) (d:Dk) (a:Int) (b:List UInt8) (hl : -1<=d.left/\d.left<=1048576) (ha:0<=a/\a<d.cells.length) (hc:d.cache.length<=2000) (hb:b.length<=100000) :
  ACalls Tryz.prog false 232 [.bp 0 0,iv a,bA b] (dkH d) fun r H=>r = .v (.int .i64 (d.write a b).2)/\H=dkH (d.write a b).1:=by
 refine zg tys_ok Tryz.func232 rfl rfl (by show 3<=_;decide) ?_;have hq:=Hd d hl;have u:=j b (by omega);conv=>whnf
 by_cases h0:d.left=0
 ·rw [if_pos h0] at hq;refine hq.mono ?_;rintro _ _ ⟨rfl,rfl⟩;rw [show decide (d.left≠0)=false by simp [h0]];exact⟨_,dkH d,fun _ _ h=>h,tA,rfl,tA,by simp only [Dk.write,if_pos h0],by simp only [Dk.write,if_pos h0]⟩
 ·rw [if_neg h0] at hq;refine hq.mono ?_;rintro _ _ ⟨rfl,rfl⟩;rw [show decide (d.left≠0)=true by simp [h0]];have f:(d.cells.map B4).getD a.toNat []=B4 (d.cells.getD a.toNat ⟨0, [], []⟩):=AY (by omega);have i:(d.req.cells.map B4).getD a.toNat []=B4 (d.cells.getD a.toNat ⟨0, [], []⟩):=f;refine⟨ha,?_⟩;refine⟨⟨rfl,(Ab _).symm,show a.toNat<d.cells.length by omega⟩,?_⟩;conv=>whnf
  first | rw [f] | rw [i]
  conv=>whnf
  refine A5 (fun h1=>?_) (fun h1=>?_) <;> (repeat rw [Aa] at h1) <;> conv=>whnf
  ·exact⟨_,dkH d.req,fun _ _ h=>h,tA,rfl,tA,by simp only [Dk.write,if_neg h0,if_pos (Or.inl h1)],by simp only [Dk.write,if_neg h0,if_pos (Or.inl h1)]⟩
  ·by_cases h2:(2000:Int)<=d.cache.length
   ·rw [show decide ((d.req.cache.length:Int)>=2000)=true from decide_eq_true h2];exact⟨_,dkH d.req,fun _ _ h=>h,tA,rfl,tA,by simp only [Dk.write,if_neg h0,if_pos (Or.inr h2)],by simp only [Dk.write,if_neg h0,if_pos (Or.inr h2)]⟩
   ·rw [show decide ((d.req.cache.length:Int)>=2000)=false from decide_eq_false h2];have z:d.req.cache.length<=2000:=hc;have h3:¬((d.cells.getD a.toNat ⟨0, [], []⟩).state=2\/(2000:Int)<=d.cache.length):=fun h=>h.elim h1 h2
    conv=>whnf
    apply zP tys_ok mixed (.o [0,1,2,3,4,5,6,7,8,9,10,11,12,13,14,15] .fin) [31,32,33,34,35,36,37,38,39,40,41,42,43,44,45] (by kernel_rfl)
    ·conv=>whnf
     refine zY u ?_;conv=>whnf
     try (refine tJ ?_;conv=>whnf)
     try (refine tK ?_;conv=>whnf)
     try (refine tS ?_;conv=>whnf)
     exact tA
    conv=>whnf
    have e:dkH { d.req with cache:=d.cache ++ [⟨a,b⟩] }=[.box 119 (Gp (.ow 1 d.cells.length) (.ow 2 (d.cache.length+1)) d.req.reqs d.req.left), .row 68 3 (d.cells.map B4), .row 152 2 (d.cache.map Ei ++ [Ei ⟨a,b⟩])]:=by
     unfold dkH;simp only [Ai,List.length_singleton,A8,Az,Bx];rfl
    refine⟨_,dkH { d.req with cache:=d.cache ++ [⟨a,b⟩] },fun _ _ h=>h,?_,rfl,tA,by simp only [Dk.write,if_neg h0,if_neg h3],by simp only [Dk.write,if_neg h0,if_neg h3]⟩;rw [e];exact tA
def cz:Cel:=⟨0, [], []⟩
def Dk.fin (d:Dk) (w:Wr):Dk:=
 if (d.cells.getD w.addr.toNat cz).state=2 then d else { d with cells:=d.cells.set w.addr.toNat ⟨0,w.bytes,(d.cells.getD w.addr.toNat cz).bytes⟩ }

theorem WH (d:Dk) (w:Wr) (ha:0<=w.addr/\w.addr<d.cells.length) :
  ACalls Tryz.prog false 151 [.bp 0 0, .ag (Ei w)] (dkH d) fun r H=>r = .tp []/\H=dkH (d.fin w):=by
 refine zg tys_ok Tryz.func151 rfl rfl (by show 2<=_;decide) ?_;have f:(d.cells.map B4).getD w.addr.toNat []=B4 (d.cells.getD w.addr.toNat cz):=AY (by omega);conv=>whnf
 refine zA tys_ok mixed [0,1,2,3,4,5,6,7,8] (by kernel_rfl) ?_;refine⟨(show 0<=w.addr/\w.addr<d.cells.length from ha),?_⟩;refine⟨⟨rfl,(Ab _).symm,show w.addr.toNat<d.cells.length by omega⟩,?_⟩;conv=>whnf
 rw [f];conv=>whnf
 refine A5 (fun h1=>?_) (fun h1=>?_) <;> (repeat rw [Aa] at h1) <;> conv=>whnf
 ·refine zA tys_ok mixed [0,1,2,3,4,5,6,7,8,9] (by kernel_rfl) ?_;refine⟨⟨rfl,(Ab _).symm,show w.addr.toNat<d.cells.length by omega⟩,?_⟩;conv=>whnf
  rw [f];refine⟨⟨rfl,(Ab _).symm,show w.addr.toNat<d.cells.length by omega⟩,?_⟩;conv=>whnf
  rw [f];conv=>whnf
  have i:w.addr.toNat<d.cells.length:=by omega
  refine⟨_,dkH { d with cells:=d.cells.set w.addr.toNat ⟨0,w.bytes,(d.cells.getD w.addr.toNat cz).bytes⟩ },fun _ _ h=>h,?_,rfl,tA,rfl,by simp only [Dk.fin,if_neg h1]⟩;have e:dkH { d with cells:=d.cells.set w.addr.toNat ⟨0,w.bytes,(d.cells.getD w.addr.toNat cz).bytes⟩ }=[.box 119 (Gp (.ow 1 d.cells.length) (.ow 2 d.cache.length) d.reqs d.left), .row 68 3 ((d.cells.map B4).set w.addr.toNat (B4 ⟨0,w.bytes,(d.cells.getD w.addr.toNat cz).bytes⟩)), .row 152 2 (d.cache.map Ei)]:=by
   unfold dkH;simp only [AX,BI]
  rw [e];exact tA
 ·refine⟨_,dkH d,fun _ _ h=>h,tA,rfl,tA,rfl,by simp only [Dk.fin,if_pos h1]⟩
@[reducible] def dkF (d:Dk):List AB:= [.box 119 (Gp (.ow 1 d.cells.length) (.ow 3 0) d.reqs d.left), .row 68 3 (d.cells.map B4), .dead, .row 152 2 []]
def Dk.allFin (d:Dk) (l:List Wr):Dk:=l.foldl Dk.fin d
theorem Yl (d:Dk) (w:Wr):(d.fin w).cells.length=d.cells.length:=by unfold Dk.fin;split <;> simp
theorem Uw (d:Dk) (w:Wr):(d.fin w).cache=d.cache/\(d.fin w).reqs=d.reqs/\(d.fin w).left=d.left:=by unfold Dk.fin;split <;> simp
theorem Jf (l:List Wr):∀ (d:Dk),(d.allFin l).cells.length=d.cells.length/\(d.allFin l).cache=d.cache/\(d.allFin l).reqs=d.reqs/\(d.allFin l).left=d.left:=by
 induction l with
 | nil=>intro d;exact⟨rfl,rfl,rfl,rfl⟩
 | cons w r ih=>
  intro d;obtain⟨h1,h2,h3,h4⟩:=ih (d.fin w);have:=Uw d w;exact⟨h1.trans (Yl d w),h2.trans this.1,h3.trans this.2.1,h4.trans this.2.2⟩
theorem KW (d:Dk) {l:List Wr} {k:Nat} (h:k<l.length):d.allFin (l.take (k+1))=(d.allFin (l.take k)).fin (l.getD k ⟨0, []⟩):=by
 unfold Dk.allFin;rw [Ba,BR,Ag h];simp [Ac,Ag h]
def Dk.flush (d:Dk):Dk:={ d.req.allFin d.cache with cache:= [] }

theorem RF (d:Dk) (hl : -1<=d.left/\d.left<=1048576) (h0:d.left=0) :
  ACalls Tryz.prog false 77 [.bp 0 0] (dkH d) fun r H=>r = iv 8/\H=dkH d:=by
 refine ACalls.ofW tys_ok Tryz.func77 rfl rfl (by show 1<=_;decide) ?_;have hq:=Hd d hl;rw [if_pos h0,show decide (d.left≠0)=false by simp [h0]] at hq;conv=>whnf
 refine hq.mono ?_;rintro _ _ ⟨rfl,rfl⟩;exact⟨_,_,dkH d,fun _ _ h=>h,⟨[],tv,tA,tA,rfl,rfl,rfl⟩,rfl,rfl⟩
theorem U6 (d:Dk) (hl : -1<=d.left/\d.left<=1048576) (h0:d.left≠0) (hc:d.cache.length<=2000) (ha:∀ w∈d.cache,0<=w.addr/\w.addr<d.cells.length) :
  ACalls Tryz.prog false 77 [.bp 0 0] (dkH d) fun r H=>r = iv 0/\H=dkF d.flush:=by
 refine ACalls.ofW tys_ok Tryz.func77 rfl rfl (by show 1<=_;decide) ?_;have hq:=Hd d hl;rw [if_neg h0,show decide (d.left≠0)=true by simp [h0]] at hq;conv=>whnf
 refine hq.mono ?_;rintro _ _ ⟨rfl,rfl⟩;conv=>whnf
 have hE:∀ i,i<d.cache.length->(d.cache.map Ei).getD i []=Ei (d.cache.getD i ⟨0, []⟩):=fun i hi=>AY hi
 refine zM Nat (fun k=>([(0, .bp 0 0),(12, .ow 2 d.cache.length),(13,iv d.cache.length),(14,iv k),(2,iv 0)],dkH (d.req.allFin (d.cache.take k)))) (fun k=>k<=d.cache.length) (fun k=>d.cache.length - k) 0 (Aj _) ⟨[],tv,tA,tA,rfl,rfl,rfl⟩ ?_;rintro k hk;have f:=Jf (d.cache.take k) d.req;have j:k<d.cache.length->d.req.allFin (d.cache.take (k+1))=(d.req.allFin (d.cache.take k)).fin (d.cache.getD k ⟨0, []⟩):=fun h=>KW d.req h
 have u:k=d.cache.length->d.flush={ d.req.allFin (d.cache.take k) with cache:= [] }:=fun h=>by rw [h,Aw];try rfl
 generalize d.req.allFin (d.cache.take k)=X at f j u |-
 obtain⟨xc,xw,xr,xl⟩:=X;simp only at f;obtain⟨q1,q2,q3,q4⟩:=f;have q2:xw=d.cache:=q2;subst q2;have q1':xc.length=d.cells.length:=q1;conv=>whnf
 refine A5 (fun h=>?_) (fun h=>?_) <;> (repeat rw [Aa] at h) <;> conv=>whnf
 ·have hd:=WH ⟨xc,d.cache,xr,xl⟩ (d.cache.getD k ⟨0, []⟩) (by have:=ha _ (A3 (d:=⟨0, []⟩) (show k<d.cache.length by omega));show _/\_<((xc.length:Nat):Int);rw [q1'];exact this);refine⟨⟨by omega,by omega⟩,?_⟩;refine⟨⟨rfl,(Ab _).symm,by simpa using h⟩,?_⟩;conv=>whnf
  rw [show ((k:Int)).toNat=k from Aa k,hE k (by omega)];conv=>whnf
  refine ze9 [0,1,2] hd ?_;rintro _ _ ⟨rfl,rfl⟩;refine⟨k+1,by omega,by omega, [],tv,⟨rfl,rfl,rfl,AG (by omega),rfl,tv⟩,?_,rfl,rfl,rfl⟩;rw [j (by omega)];exact tA
 ·conv=>whnf
  have ek:k=d.cache.length:=by omega
  rw [u ek];exact⟨iv 0,iv 0,dkF { cells:=xc,cache:= [],reqs:=xr,left:=xl },fun _ _ h=>h,⟨[(1000001,152,2)],tA,tA,tA,rfl,rfl,rfl⟩,rfl,rfl⟩
theorem Xh (a:An):rowB (K1 a) szA=leB 4 a.gen.toNat ++ (leB 4 a.epoch.toNat ++ (leB 4 a.seq.toNat ++ (leB 4 a.last.toNat ++ leB 1 a.pos.toNat))):=by
 simp [rowB,K1,szA]
theorem XK (g:Geo) (a:An) (hg:Bq g=true) (ha:Bj g a=true):Fn Tryz.prog 132 [.ag (Ek a)] fun r=>r=bA (KV a):=by
 obtain⟨g1,g2,g3,g4,g5⟩:=Aq.1 hg;obtain⟨q1,q2,q3,q4,q5⟩:=EG hg ha 0 (Aj _);have L:=ha;simp only [Bj,Af,decide_eq_true_eq,A_,BB,B3,AE,Av] at ha;obtain⟨⟨w1,w2,w3,w4⟩,_,_,w5,_,_,_⟩:=ha;have p1:=EA [] a.gen 4 (by simp) w1 (by decide);have p2:=EA (leB 4 a.gen.toNat) a.epoch 4 (by rw [leB_len];decide) w2 (by decide);have p3:=EA (leB 4 a.gen.toNat ++ leB 4 a.epoch.toNat) a.seq 4 (by simp [leB_len]) w3 (by decide);have p4:=EA (leB 4 a.gen.toNat ++ leB 4 a.epoch.toNat ++ leB 4 a.seq.toNat) a.last 4 (by simp [leB_len]) w4 (by decide);have p5:=HU (leB 4 a.gen.toNat ++ leB 4 a.epoch.toNat ++ leB 4 a.seq.toNat ++ leB 4 a.last.toNat) a.pos 1 (by simp [leB_len]) (by omega) (by decide);have V:=VA a.label (by omega);refine zR Tryz.func132 rfl ?_;conv=>whnf
 refine zV [bA [],iv a.gen,iv 4] ⟨Bg 1 _,ri,ri,tv⟩ ?_;refine zY p1 ?_;conv=>whnf
 refine zY p2 ?_;conv=>whnf
 refine zY p3 ?_;conv=>whnf
 refine zY p4 ?_;conv=>whnf
 apply zX (0) tys_ok mixed (.o [0,1,2,4,5,3,6,7,8] .fin) (by kernel_rfl);conv=>whnf
 (refine zW p5 rfl ?_;rintro _ _ ⟨rfl,rfl⟩)
 conv=>whnf
 refine zY V ?_;conv=>whnf
 try (refine tJ ?_;conv=>whnf)
 try (refine tK ?_;conv=>whnf)
 have eR:leB 4 a.gen.toNat ++ leB 4 a.epoch.toNat ++ leB 4 a.seq.toNat ++ leB 4 a.last.toNat ++ leB 1 a.pos.toNat=rowB (K1 a) szA:=by rw [Xh];simp
 rw [eR];have N:(rowB (K1 a) szA).length=17:=tot_rowB _ _ rfl;refine Ad ⟨by simp,by rw [N,Gf];omega⟩ ?_;conv=>whnf
 have e0:(rowB (K1 a) szA).map Ef ++ ((List.range (GL a.label).length).map fun i=> [AV.v (Value.int IntKind.u8 (((GL a.label).getD i 0).toNat:Int))])=(Gq a 0).map Ef:=by
  rw [Qx,<-A8];simp [Gq]
 have e1:(rowB (K1 a) szA).length+(GL a.label).length=(Gq a 0).length:=by simp [Gq]
 refine zj Nat (fun k=>([(1, .bp 0 0),(3, .ow 1 (Gq a k).length),(4,iv k)], [.box 28 (Ek a), .row 5 1 ((Gq a k).map Ef)])) (fun k=>k<=a.homes.length) (fun k=>a.homes.length - k) 0 (Aj _)
  (zE ⟨[],tv,⟨rfl,congrArg (AV.ow 1) e1,rfl,tv⟩,⟨rfl,congrArg (AB.row _ _) e0.symm,tv⟩,rfl,rfl,rfl⟩) ?_
 intro k hk;conv=>whnf
 refine A5 (fun h6=>?_) (fun h6=>?_) <;> (repeat rw [Aa] at h6) <;> conv=>whnf
 ·have C:k<a.homes.length:=by omega
  have K:=q5 _ (A3 (d:=(⟨[],0,0⟩:Hm)) C);obtain⟨f1,f2,f3,f4,f5⟩:=O9 hg K;have f:=NW a k C;have hB:=(EG hg L k hk).1;have W:=(EG hg L (k+1) C).1;obtain⟨h,hh⟩:∃ h,h=a.homes.getD k ⟨[],0,0⟩:=⟨_,rfl⟩;rw [<-hh] at K f1 f2 f3 f4 f5 f;generalize hX:Gq a k=X at f hB |-
  have U:(MM h).length=h.places.length+5:=by rw [JG,tot_rowB _ _ (by rw [Ai,Jn];try rfl),Jk]
  rw [f,Ai,U] at W;refine zj Nat (fun j=>([(1, .bp 0 0),(3, .ow 1 (X ++ Ov (h.places.take j)).length),(4,iv k),(5,iv j)], [.box 28 (Ek a), .row 5 1 ((X ++ Ov (h.places.take j)).map Ef)])) (fun j=>j<=h.places.length) (fun j=>h.places.length - j) 0 (Aj _)
   (zE ⟨[],tv,⟨rfl,congrArg (fun l=>AV.ow 1 (List.length l)) (AR X).symm,rfl,rfl,tv⟩,⟨rfl,congrArg (fun l=>AB.row _ _ (List.map Ef l)) (AR X),tv⟩,rfl,rfl,rfl⟩) ?_
  intro j hj;conv=>whnf
  have F:a.homes.getD (k:Int).toNat ⟨[],0,0⟩=h:=by rw [Aa,hh]
  refine⟨by first | omega | (refine⟨rfl,?_,?_⟩ <;> first | omega | (simp only [Ab];done) | (simp only [Ab];omega)) | (simp only [Ab];omega),?_⟩;conv=>whnf
  rw [F];refine A5 (fun h7=>?_) (fun h7=>?_) <;> (repeat rw [Aa] at h7) <;> conv=>whnf
  ·refine⟨by first | omega | (refine⟨rfl,?_,?_⟩ <;> first | omega | (simp only [Ab];done) | (simp only [Ab];omega)) | (simp only [Ab];omega),?_⟩;conv=>whnf
   rw [F];refine⟨by first | omega | (refine⟨rfl,?_,?_⟩ <;> first | omega | (simp only [Ab];done) | (simp only [Ab];omega)) | (simp only [Ab];omega),?_⟩;conv=>whnf
   rw [Aa];have J:j<h.places.length:=by omega
   have hp:=f2 _ (A3 (d:=(0:Int)) J);have u:=Ll (h.places.take j);have O:=P8 h.places j J;have z:=HU (X ++ Ov (h.places.take j)) (h.places.getD j 0) 1 (by rw [Ai,u,As];omega) (by omega) (by decide);rw [A7,<-O] at z;refine zO (z).go ?_;conv=>whnf
   repeat' (refine Ad (by first | rfl | omega | (simp;done) | (simp only [Ab];omega) | (simp;omega)) ?_;conv=>whnf)
   refine zV [bA (X ++ Ov (h.places.take j)),iv (h.places.getD j 0),iv 1] ⟨MH rfl rfl,ri,ri,tv⟩ ?_;refine zW (z) rfl ?_;rintro _ _ ⟨rfl,rfl⟩;refine⟨j+1,by omega,by omega,zS (s:= [0,2]) ⟨⟨rfl,rfl,rfl,AG (by omega),tv⟩,tA,rfl,rfl,rfl,rfl,rfl⟩⟩
  ·have ej:j=h.places.length:=by omega
   subst ej;have u:=Ll (h.places.take h.places.length);rw [Aw] at u |-
   have I:=EA (X ++ Ov h.places) h.next 1 (by rw [Ai,u];omega) (by omega) (by decide);have G:=HU (X ++ Ov h.places ++ leB 1 h.next.toNat) h.root 4 (by rw [Ai,Ai,u,leB_len];omega) (by omega) (by decide);have eY:X ++ Ov h.places ++ leB 1 h.next.toNat ++ leB 4 h.root.toNat=X ++ MM h:=by simp [MM,rowB]
   rw [eY] at G;apply zX (0) tys_ok mixed (.o [0,1,2,3,4,5,6,8,9,10,11,12,13,7,14,15] .fin) (by kernel_rfl);conv=>whnf
   try (refine tI ?_;conv=>whnf)
   try (refine tI ?_;conv=>whnf)
   (rw [F];refine zO I.go ?_;(conv=>whnf);refine Ad (by simp) ?_;(conv=>whnf);refine zV [bA (X ++ Ov h.places),iv h.next,iv 1] ⟨MH rfl rfl,ri,ri,tv⟩ ?_;refine zY I ?_)
   conv=>whnf
   (refine zW G rfl ?_;rintro _ _ ⟨rfl,rfl⟩)
   refine⟨k+1,C,by omega,zS (s:= [0,2]) ⟨⟨rfl,congrArg (AV.ow 2) (by rw [f]),AG (by omega),tv⟩,⟨rfl,congrArg (fun l=>some (AB.row _ _ l)) (by rw [f]),tv⟩,rfl,rfl,rfl,rfl,rfl⟩⟩
 ·have ek:k=a.homes.length:=by omega
  subst ek;rw [Q7];refine⟨by simp,?_⟩;exact⟨bA (KV a),MH rfl rfl,rfl⟩
def CZ (a:An) (i:Int):List UInt8:=Bk i a.gen (KV a)
theorem K3 {g:Geo} {a:An} (hg:Bq g=true) (ha:Bj g a=true):(KV a).length<=82:=by
 obtain⟨g1,g2,g3,g4,g5⟩:=Aq.1 hg;have hz:=ha;simp only [Bj,Af,decide_eq_true_eq,A_,BB,B3,AE,Av] at hz;obtain⟨_,_,_,_,q6,q7,q8⟩:=hz;have h:=Ie q6;have hs:a.label.size=a.label.data.toList.length:=rfl;have hr:(rowB (K1 a) szA).length=17:=tot_rowB _ _ rfl;have hm:=(Lo hg a.homes q8).2;have f:a.homes.length*(g.d.toNat+6)<=4*10:=Du (by omega) (by omega);rw [KV,Ai,Ai,hr,Gf,hm];omega
theorem Q6 {g:Geo} {a:An} (ha:Bj g a=true):0<=a.gen/\a.gen<=4294967295:=by
 simp only [Bj,Af,decide_eq_true_eq,A_,BB,B3,AE,Av] at ha;exact ha.1.1
theorem K2 {g:Geo} {a:An} (hg:Bq g=true) (ha:Bj g a=true) {i:Int} (hi:0<=i/\i<=65535):UW i a.gen (KV a):=
 ⟨hi.1,hi.2,(Q6 ha).1,(Q6 ha).2,by have:=K3 hg ha;omega⟩
theorem LQ (g:Geo) (a:An) (i:Int) (hg:Bq g=true) (ha:Bj g a=true) (hi:0<=i/\i<=65535):Fn Tryz.prog 57 [.ag (Ek a),iv i] fun r=>r=bA (CZ a i):=by
 have h1:=XK g a hg ha;have h2:=Fs i a.gen (KV a) (K2 hg ha hi);refine zR Tryz.func57 rfl ?_;conv=>whnf
 apply zP tys_ok mixed (.o [0,1,2,3,4,5,6] .fin) [4,5,6,7,8,9,10] (by kernel_rfl)
 ·conv=>whnf
  refine zY h1 ?_;conv=>whnf
  refine zY h2 ?_;exact tA
 exact⟨_,ri,rfl⟩
theorem VZ (g:Geo) (a:An) (i:Int) (hg:Bq g=true) (ha:Bj g a=true) (hi:0<=i/\i<g.an):Fn Tryz.prog 101 [.ag (AK g), .ag (Ek a),iv i] fun r=>r = .tp [bA (CZ a i),iv 0]:=by
 obtain⟨g1,g2,g3,g4,g5⟩:=Aq.1 hg;obtain⟨q1,q2,q3,q4,q5⟩:=EG hg ha 0 (Aj _);have h1:=UU g a (by omega) (by omega);rw [hg,ha] at h1;have h2:=Mt g i hg hi;have h3:=Jt i a.gen (KV a) (K2 hg ha (by omega));refine zR Tryz.func101 rfl ?_;conv=>whnf
 refine zY h1 ?_;conv=>whnf
 refine zY h2 ?_;conv=>whnf
 refine zY h3 ?_;exact⟨_,ri,rfl⟩
end
end Go.Proofs.YtpjkcgacjjbikaaGreatDoor.A
namespace Go.Proofs.YtpjkcgacjjbikaaGreatDoor
section
open Go.RowKit



end
end Go.Proofs.YtpjkcgacjjbikaaGreatDoor
namespace Go.Proofs.YtpjkcgacjjbikaaGreatDoor.A
section
open Go.RowKit

theorem R5 (n k:Nat) (c:List UInt8):ED n (k+1) c=ED n k c ++ [Kr n (c.drop ((n+5)*k))]:=by
 rw [ED,ED,Bp,A8];try rfl
theorem N6 (n k:Nat) (c:List UInt8):(ED n k c).length=k:=by simp [ED]
theorem S6 {L:List Int} {n:Nat} {es:List (List AV)} (hn:n=L.length) (he:es=L.map OX) (c:Ctx) (v:Value) (h:Rd (.sl 1 n fun i=>es.getD i []) c v):Rd (iA L) c v:=by
 subst he;exact zB hn (fun i hi=>AY (f:=OX) (l:=L) (d:=0) (hn ▸ hi)) h
theorem EZ {α:Type} {f:α->List AV} {d:α} {l:List α} {k:Nat} {e:List AV} (hk:k<l.length) (h:SubL e (f (l.getD k d))) (i:Nat):SubL (((l.map f).set k e).getD i []) ((l.map f).getD i []):=by
 by_cases hi:k=i
 ·subst hi;rw [Bu (by simpa using hk),AY (d:=d) hk];exact h
 ·rw [KD hi];exact SubL.refl _
theorem Wl (h:Hm):SubL [.sl 1 h.places.length fun i=>(h.places.map OX).getD i [],iv h.next,iv h.root] (DL h):=
 ⟨S6 rfl rfl,fun _ _ h=>h,fun _ _ h=>h,tv⟩
theorem Q5 (a:An) (hh:a.homes.length<=1000) (hp:∀ h∈a.homes,h.places.length<=1000000):Fn Tryz.prog 81 [.ag (Ek a)] fun r=>r = .ag (Ek a):=by
 have hc:=N7 a.homes (by omega);refine zR Tryz.func81 rfl ?_;conv=>whnf
 refine zW hc rfl ?_;rintro _ _ ⟨rfl,rfl⟩;conv=>whnf
 refine zU Nat (fun k=>([(1, .bp 0 0),(2, .bp 1 0),(10,iv a.homes.length),(11,iv k)], [.box 28 [iv a.gen,iv a.epoch,iv a.pos,iv a.seq,iv a.last, .v (.string a.label), .ow 2 a.homes.length], .box 28 [iv 0,iv 0,iv 0,iv 0,iv 0, .v (.string ⟨#[]⟩), .v (.slice none 0 0)], .row 108 3 (a.homes.map DL)])) (fun k=>k<=a.homes.length) (fun k=>a.homes.length - k) 0 (Aj _)
  (zS (s:= [0,1,2]) tA) ?_
 intro k hk;conv=>whnf
 refine A5 (fun h6=>?_) (fun h6=>?_) <;> (repeat rw [Aa] at h6) <;> conv=>whnf
 ·have i:k<a.homes.length:=by omega
  have hi:=JF (a.homes.getD k ⟨[],0,0⟩).places (by have:=hp _ (A3 (d:=(⟨[],0,0⟩:Hm)) i);omega);have hE:(a.homes.map DL).getD (k:Int).toNat []=DL (a.homes.getD k ⟨[],0,0⟩):=by rw [Aa];exact AY i
  apply zX (0) tys_ok mixed (.o [0,1,2,3,4,5,6,7,8,9,10,11,12] .fin) (by kernel_rfl);conv=>whnf
  try (first | (refine Ad ⟨rfl,(Ab _).symm,by omega⟩ ?_;(conv=>whnf);rw [hE]) | skip;conv=>whnf)
  try (first | (refine Ad ⟨rfl,(Ab _).symm,by omega⟩ ?_;(conv=>whnf);rw [hE]) | skip;conv=>whnf)
  try (refine tI ?_;conv=>whnf)
  try (first | (refine Ad ⟨rfl,(Ab _).symm,by omega⟩ ?_;(conv=>whnf);rw [hE]) | skip;conv=>whnf)
  (refine zW hi rfl ?_;rintro _ _ ⟨rfl,rfl⟩)
  conv=>whnf
  try (refine tI ?_;conv=>whnf)
  try (refine tS ?_;conv=>whnf)
  (refine Ad (Ab _).symm ?_;(conv=>whnf);refine Ad ⟨rfl,(Ab _).symm,by omega⟩ ?_;(conv=>whnf);rw [hE])
  refine⟨k+1,i,by omega,zI (zL (zD (k:=2) rfl (es':=a.homes.map DL) (by simp) ?_)) (s:= [0,1,2]) ⟨⟨rfl,rfl,rfl,AG (by omega),tv⟩,tA,rfl,rfl,rfl,rfl,rfl⟩⟩;rw [Aa];exact EZ (d:=(⟨[],0,0⟩:Hm)) i (Wl _)
 ·have ek:k=a.homes.length:=by omega
  refine Ad (Ab _).symm ?_;exact⟨.ag (Ek a),Bf ⟨ri,ri,ri,ri,ri,ri,AU (f:=DL) a.homes rfl rfl,tv⟩,rfl⟩
def DV (d:Dk):List AV:= [NP d.cells,Ly d.cache,iv d.reqs,iv d.left]
theorem SK (d:Dk) (h1:d.cells.length<=1000000000) (h2:d.cache.length<=1000000000):ACalls Tryz.prog false 44 [.ag (DV d)] [] fun r H=>r = .bp 0 0/\H=dkH d:=by
 have c1:=Jd d.cells h1;have c2:=JX d.cache h2;refine zT tys_ok Tryz.func44 rfl rfl (Ae rfl) ?_;conv=>whnf
 apply zX (0) tys_ok mixed (.o [0,1,3,4,2,6,5,7,8,9] .fin) (by kernel_rfl);conv=>whnf
 (refine zW c1 rfl ?_;rintro _ _ ⟨rfl,rfl⟩)
 conv=>whnf
 (refine zW c2 rfl ?_;rintro _ _ ⟨rfl,rfl⟩)
 conv=>whnf
 try (refine tS ?_;conv=>whnf)
 try (refine tS ?_;conv=>whnf)
 exact⟨_, .bp 0 0,dkH d,fun _ _ h=>h,zS (s:= [3,1,2]) tA,rfl,rfl⟩
theorem Qk (d:Dk) (h1:d.cells.length<=1000000000) (h2:d.cache.length<=1000000000) (hb:∀ c∈d.cells,c.bytes.length<=1000000000/\c.old.length<=1000000000) (hw:∀ w∈d.cache,w.bytes.length<=1000000000):Fn Tryz.prog 31 [.ag (DV d)] fun r=>r = .ag (DV d):=by
 have c1:=Jd d.cells h1;have c2:=JX d.cache h2;refine zR Tryz.func31 rfl ?_;conv=>whnf
 apply zX (0) tys_ok mixed (.o [0,1,3,4,2,6,5,7,8,9] .fin) (by kernel_rfl);conv=>whnf
 (refine zW c1 rfl ?_;rintro _ _ ⟨rfl,rfl⟩)
 conv=>whnf
 (refine zW c2 rfl ?_;rintro _ _ ⟨rfl,rfl⟩)
 conv=>whnf
 try (refine tS ?_;conv=>whnf)
 try (refine tS ?_;conv=>whnf)
 refine zU Nat (fun k=>([(1, .bp 0 0),(2, .bp 1 0),(16, .ow 2 d.cells.length),(17,iv d.cells.length),(18,iv k)], [.box 38 (Gp (.ow 2 d.cells.length) (.ow 3 d.cache.length) d.reqs d.left), .box 38 [.v (.slice none 0 0), .v (.slice none 0 0),iv 0,iv 0], .row 68 3 (d.cells.map B4), .row 152 2 (d.cache.map Ei)])) (fun k=>k<=d.cells.length) (fun k=>d.cells.length - k) 0 (Aj _)
  (zS (s:= [0,1,2,3]) tA) ?_
 intro k hk;conv=>whnf
 refine A5 (fun h6=>?_) (fun h6=>?_) <;> (repeat rw [Aa] at h6) <;> conv=>whnf
 ·have j:k<d.cells.length:=by omega
  have hm:=hb _ (A3 (d:=(⟨0, [], []⟩:Cel)) j);have b1:=BL (d.cells.getD k ⟨0, [], []⟩).bytes hm.1;have b2:=BL (d.cells.getD k ⟨0, [], []⟩).old hm.2;have hE:(d.cells.map B4).getD (k:Int).toNat []=B4 (d.cells.getD k ⟨0, [], []⟩):=by rw [Aa];exact AY j
  refine⟨⟨by omega,by omega⟩,?_⟩;conv=>whnf
  refine Ad ⟨rfl,(Ab _).symm,by rw [Aa];exact j⟩ ?_;conv=>whnf
  rw [hE];conv=>whnf
  apply zX (16) tys_ok mixed (.o [0,1,2,3,5,6,7,9,10] (.two 4 (.o [8,11,12,13,14,15,16,17] .fin) 8 (.two 4 (.o [11,12,13,14,15,16,17] .fin) 11 (.o [12,13] (.two 4 (.o [14,15,16,17] .fin) 14 (.o [4,15,16,17] .fin)))))) (by kernel_rfl);refine Ad ?_ ?_;conv=>whnf
  refine zY b1 ?_;conv=>whnf
  refine zY b2 ?_;conv=>whnf
  try (refine tI ?_;conv=>whnf)
  try (refine tS ?_;conv=>whnf)
  (first | rw [hE] | rw [Bu (by rw [Aa,Ab];exact j)] | skip)
  conv=>whnf
  try (refine tI ?_;conv=>whnf)
  try (refine tS ?_;conv=>whnf)
  (first | rw [hE] | rw [Bu (by rw [Aa,Ab];exact j)] | skip)
  conv=>whnf
  rotate_left 1;conv=>whnf
  refine zY b1 ?_;refine Ad ?_ ?_;conv=>whnf
  refine zY b2 ?_;conv=>whnf
  try (refine tI ?_;conv=>whnf)
  try (refine tS ?_;conv=>whnf)
  (first | rw [hE] | rw [Bu (by rw [Aa,Ab];exact j)] | skip)
  conv=>whnf
  try (refine tI ?_;conv=>whnf)
  try (refine tS ?_;conv=>whnf)
  (first | rw [hE] | rw [Bu (by rw [Aa,Ab];exact j)] | skip)
  conv=>whnf
  rotate_left 1;conv=>whnf
  refine zY b2 ?_;conv=>whnf
  try (refine tI ?_;conv=>whnf)
  refine Ad ?_ ?_;conv=>whnf
  try (refine tS ?_;conv=>whnf)
  (first | rw [hE] | rw [Bu (by rw [Aa,Ab];exact j)] | skip)
  conv=>whnf
  try (refine tI ?_;conv=>whnf)
  try (refine tS ?_;conv=>whnf)
  (first | rw [hE] | rw [Bu (by rw [Aa,Ab];exact j)] | skip)
  conv=>whnf
  rotate_left 1;conv=>whnf
  try (refine tS ?_;conv=>whnf)
  (first | rw [hE] | rw [Bu (by rw [Aa,Ab];exact j)] | skip)
  conv=>whnf
  try (refine tI ?_;conv=>whnf)
  try (refine tS ?_;conv=>whnf)
  (first | rw [hE] | rw [Bu (by rw [Aa,Ab];exact j)] | skip)
  conv=>whnf
  rotate_left 1;all_goals refine⟨k+1,j,by omega,zI (zL (zD (k:=2) rfl (es':=d.cells.map B4) (by simp) ?_)) (s:= [0,1,2,3]) ⟨⟨rfl,rfl,rfl,rfl,AG (by omega),tv⟩,tA,rfl,rfl,rfl,rfl,rfl⟩⟩
  all_goals
   intro i;rw [List.set_set,Aa];refine EZ (f:=B4) (d:=(⟨0, [], []⟩:Cel)) j ?_ i;exact⟨fun _ _ h=>h,fun _ _ h=>h,fun _ _ h=>h,tv⟩
 ·refine zU Nat (fun k=>([(1, .bp 0 0),(2, .bp 1 0),(41, .ow 3 d.cache.length),(42,iv d.cache.length),(43,iv k)], [.box 38 (Gp (.ow 2 d.cells.length) (.ow 3 d.cache.length) d.reqs d.left), .box 38 [.v (.slice none 0 0), .v (.slice none 0 0),iv 0,iv 0], .row 68 3 (d.cells.map B4), .row 152 2 (d.cache.map Ei)])) (fun k=>k<=d.cache.length) (fun k=>d.cache.length - k) 0 (Aj _)
   (zS (s:= [0,1,2,3]) tA) ?_
  intro k hk;conv=>whnf
  refine A5 (fun h7=>?_) (fun h7=>?_) <;> (repeat rw [Aa] at h7) <;> conv=>whnf
  ·have j:k<d.cache.length:=by omega
   have hm:=hw _ (A3 (d:=(⟨0, []⟩:Wr)) j);have b1:=BL (d.cache.getD k ⟨0, []⟩).bytes hm;have hE:(d.cache.map Ei).getD (k:Int).toNat []=Ei (d.cache.getD k ⟨0, []⟩):=by rw [Aa];exact AY j
   refine⟨⟨by omega,by omega⟩,?_⟩;conv=>whnf
   refine Ad ⟨rfl,(Ab _).symm,by rw [Aa];exact j⟩ ?_;conv=>whnf
   rw [hE];conv=>whnf
   apply zX (0) tys_ok mixed (.o [0,1,2,3,4,5,6,7,8] .fin) (by kernel_rfl);conv=>whnf
   refine zY b1 ?_;conv=>whnf
   try (refine tI ?_;conv=>whnf)
   try (refine tS ?_;conv=>whnf)
   (first | rw [hE] | skip)
   conv=>whnf
   all_goals refine⟨k+1,j,by omega,zI (zL (zD (k:=3) rfl (es':=d.cache.map Ei) (by simp) ?_)) (s:= [0,1,2,3]) ⟨⟨rfl,rfl,rfl,rfl,AG (by omega),tv⟩,tA,rfl,rfl,rfl,rfl,rfl⟩⟩
   all_goals
    intro i;rw [Aa];refine EZ (f:=Ei) (d:=(⟨0, []⟩:Wr)) j ?_ i;exact⟨fun _ _ h=>h,fun _ _ h=>h,tv⟩
  ·refine Ad (Ab _).symm ?_;refine Ad (Ab _).symm ?_;exact⟨.ag (DV d),Bf ⟨AU (f:=B4) d.cells rfl rfl,AU (f:=Ei) d.cache rfl rfl,ri,ri,tv⟩,rfl⟩
def H8 (c:Cel):Bool:=CQ c.state 0 2&&(decide (c.bytes.length<=200)&&decide (c.old.length<=200))
def L0 (n:Nat) (w:Wr):Bool:=CQ w.addr 0 ((n:Int) - 1)&&decide (w.bytes.length<=200)
def MQ (d:Dk):Bool:=(CQ d.cells.length 1 300&&(decide (d.cache.length<=2000)&&(CQ d.reqs 0 1048576&&CQ d.left (-1) 1048576)))&&(d.cells.all H8&&d.cache.all (L0 d.cells.length))
theorem Kx (n lo hi:Int):Fn Tryz.prog 30 [iv n,iv lo,iv hi] fun r=>r = .v (.bool (CQ n lo hi)):=by
 refine zR Tryz.func30 rfl ?_;conv=>whnf
 repeat' (first | (refine Am (fun h=>?_) (fun h=>?_) <;> (try simp at h) <;> conv=>whnf) | (refine zF tys_ok mixed (by kernel_rfl) ?_;conv=>whnf) | (refine zZ ?_;conv=>whnf) | (refine Ad (by omega) ?_;conv=>whnf))
 all_goals exact⟨_,ri,by simp [CQ, *] <;> omega⟩
theorem WI (c:Cel):Fn Tryz.prog 66 [.ag (B4 c)] fun r=>r = .v (.bool (H8 c)):=by
 refine zR Tryz.func66 rfl ?_;conv=>whnf
 repeat' (first | (refine Am (fun h=>?_) (fun h=>?_) <;> (try simp at h) <;> conv=>whnf) | (refine zF tys_ok mixed (by kernel_rfl) ?_;conv=>whnf) | (refine zZ ?_;conv=>whnf) | (refine zY (Kx _ _ _) ?_;conv=>whnf) | (refine Ad (by omega) ?_;conv=>whnf))
 all_goals exact⟨_,ri,by congr 2;rw [Bool.eq_iff_iff];simp [H8, *] <;> omega⟩
theorem UB (c:Cel):Fn Tryz.prog 65 [.ag (B4 c)] fun r=>r = .v (.bool (!H8 c)):=by
 refine zR Tryz.func65 rfl ?_;conv=>whnf
 refine zY (WI c) ?_;exact⟨_,ri,rfl⟩
theorem Z9 (l:List Cel)  (hl:l.length<=1000000):Fn Tryz.prog 137 [NP l, .v (.func (.func 65) #[] #[])] fun r=>r = iv (UX (fun c=>!H8 c) l):=by
 refine zR Tryz.func137 rfl ?_;conv=>whnf
 refine zM Nat (fun k=>([(0,NP l),(1, .v (.func (.func 65) #[] #[])),(7,iv l.length),(8,iv k)], [])) (fun k=>k<=l.length/\(l.take k).any (fun c=>!H8 c)=false) (fun k=>l.length - k) 0 ⟨Aj _,by simp⟩ ⟨[],tv,tA,tv,rfl,rfl,rfl⟩ ?_;rintro k ⟨hk,hI⟩;conv=>whnf
 refine Am (fun h2=>?_) (fun h2=>?_) <;> simp at h2 <;> conv=>whnf
 ·refine⟨by first | omega | (refine⟨rfl,?_,?_⟩ <;> first | omega | (simp only [Ab];done) | (simp only [Ab];omega)) | (simp only [Ab];omega),?_⟩;conv=>whnf
  refine zY (UB (l.getD k ⟨0, [], []⟩)) ?_;conv=>whnf
  refine Am (fun h3=>?_) (fun h3=>?_) <;> conv=>whnf
  ·exact⟨_,ri,by rw [I1 (d:=⟨0, [], []⟩) h2 hI (by first | exact h3 | (rw [Aa] at h3;exact h3) | simpa using h3)]⟩
  ·refine⟨k+1,⟨by omega,Ej (d:=⟨0, [], []⟩) h2 hI (by first | exact h3 | (rw [Aa] at h3;exact h3) | simpa using h3)⟩,by omega, [],tv,⟨rfl,rfl,rfl,AG (by omega),tv⟩,tv,rfl,rfl,rfl⟩
 ·exact⟨_,ri,by rw [A4 h2] at hI;rw [GM hI]⟩
theorem ZA (l:List Cel)  (hl:l.length<=1000000):Fn Tryz.prog 64 [NP l, .v (.func (.func 65) #[] #[])] fun r=>r = .v (.bool (l.any (fun c=>!H8 c))):=by
 refine zR Tryz.func64 rfl ?_;conv=>whnf
 refine zY (Z9 l  hl) ?_;exact⟨_,ri,by rw [Kp]⟩

theorem UA (d:Dk) (w:Wr) (hn:d.cells.length<=1000000):Fn Tryz.prog 68 [.ag (Ei w), .rp (DV d)] fun r=>r = .v (.bool (!L0 d.cells.length w)):=by
 have w1:IntKind.i64.wrap ((d.cells.length:Int) - 1)=d.cells.length - 1:=wi (by omega);refine zR Tryz.func68 rfl ?_;conv=>whnf
 rw [w1];repeat' (first | (refine Am (fun h=>?_) (fun h=>?_) <;> (try simp at h) <;> conv=>whnf) | (refine zF tys_ok mixed (by kernel_rfl) ?_;conv=>whnf) | (refine zZ ?_;conv=>whnf) | (refine zY (Kx _ _ _) ?_;conv=>whnf) | (refine Ad (by omega) ?_;conv=>whnf))
 all_goals exact⟨_,ri,by congr 2;rw [Bool.eq_iff_iff];simp [L0, *] <;> omega⟩
theorem Z6 (l:List Wr) (d:Dk) (hn:d.cells.length<=1000000) (hl:l.length<=1000000):Fn Tryz.prog 138 [Ly l, .fn 68 [.rp (DV d)]] fun r=>r = iv (UX (fun w=>!L0 d.cells.length w) l):=by
 refine zR Tryz.func138 rfl ?_;conv=>whnf
 refine zM Nat (fun k=>([(0,Ly l),(1, .fn 68 [.rp (DV d)]),(7,iv l.length),(8,iv k)], [])) (fun k=>k<=l.length/\(l.take k).any (fun w=>!L0 d.cells.length w)=false) (fun k=>l.length - k) 0 ⟨Aj _,by simp⟩ ⟨[],tv,tA,tv,rfl,rfl,rfl⟩ ?_;rintro k ⟨hk,hI⟩;conv=>whnf
 refine Am (fun h2=>?_) (fun h2=>?_) <;> simp at h2 <;> conv=>whnf
 ·refine⟨by first | omega | (refine⟨rfl,?_,?_⟩ <;> first | omega | (simp only [Ab];done) | (simp only [Ab];omega)) | (simp only [Ab];omega),?_⟩;conv=>whnf
  refine zY (UA d (l.getD k ⟨0, []⟩) hn) ?_;conv=>whnf
  refine Am (fun h3=>?_) (fun h3=>?_) <;> conv=>whnf
  ·exact⟨_,ri,by rw [I1 (d:=⟨0, []⟩) h2 hI (by first | exact h3 | (rw [Aa] at h3;exact h3) | simpa using h3)]⟩
  ·refine⟨k+1,⟨by omega,Ej (d:=⟨0, []⟩) h2 hI (by first | exact h3 | (rw [Aa] at h3;exact h3) | simpa using h3)⟩,by omega, [],tv,⟨rfl,rfl,rfl,AG (by omega),tv⟩,tv,rfl,rfl,rfl⟩
 ·exact⟨_,ri,by rw [A4 h2] at hI;rw [GM hI]⟩
theorem Z7 (l:List Wr) (d:Dk) (hn:d.cells.length<=1000000) (hl:l.length<=1000000):Fn Tryz.prog 67 [Ly l, .fn 68 [.rp (DV d)]] fun r=>r = .v (.bool (l.any (fun w=>!L0 d.cells.length w))):=by
 refine zR Tryz.func67 rfl ?_;conv=>whnf
 refine zY (Z6 l d hn hl) ?_;exact⟨_,ri,by rw [Kp]⟩

theorem NN (d:Dk) (h1:d.cells.length<=1000000) (h2:d.cache.length<=1000000):Fn Tryz.prog 29 [.ag (DV d)] fun r=>r = .v (F1 (MQ d)):=by
 have c1:=ZA d.cells h1;have c2:=Z7 d.cache d h1 h2;rw [show (d.cells.any fun c=>!H8 c) = !d.cells.all H8 by rw [Ck,Bool.not_not]] at c1;rw [show (d.cache.any fun w=>!L0 d.cells.length w) = !d.cache.all (L0 d.cells.length) by rw [Ck,Bool.not_not]] at c2;obtain⟨A,hA⟩:∃ A,A=d.cells.all H8:=⟨_,rfl⟩;obtain⟨B,hB⟩:∃ B,B=d.cache.all (L0 d.cells.length):=⟨_,rfl⟩;have f:MQ d=((CQ d.cells.length 1 300&&(decide (d.cache.length<=2000)&&(CQ d.reqs 0 1048576&&CQ d.left (-1) 1048576)))&&(A&&B)):=by rw [MQ,hA,hB]
 rw [<-hA] at c1;rw [<-hB] at c2;rw [f];clear f hA hB;refine zR Tryz.func29 rfl ?_;conv=>whnf
 repeat' (first | (refine Am (fun h=>?_) (fun h=>?_) <;> (try simp at h) <;> conv=>whnf) | (refine zF tys_ok mixed (by kernel_rfl) ?_;conv=>whnf) | (refine zZ ?_;conv=>whnf) | (refine zY (Kx _ _ _) ?_;conv=>whnf) | (refine zY c1 ?_;conv=>whnf) | (refine zY c2 ?_;conv=>whnf) | (refine Ad (by omega) ?_;conv=>whnf))
 all_goals exact⟨_,ri,by
  first
   | (rw [show ((CQ d.cells.length 1 300&&(decide (d.cache.length<=2000)&&(CQ d.reqs 0 1048576&&CQ d.left (-1) 1048576)))&&(A&&B))=false by rw [<-BM];simp [*] <;> omega];rfl)
   | (rw [show ((CQ d.cells.length 1 300&&(decide (d.cache.length<=2000)&&(CQ d.reqs 0 1048576&&CQ d.left (-1) 1048576)))&&(A&&B))=true by simp [*] <;> omega];rfl)⟩

def cel0:List AV:= [iv 0, .v (.slice none 0 0), .v (.slice none 0 0)]
theorem a7 (n:Nat) (hn:1<=n/\n<=300):ACalls Tryz.prog false 99 [iv n] [] fun r H=>r = .tp [.ag [.ow 0 n, .v (.slice none 0 0),iv 0,iv (-1)],iv 0]/\H=[.row 68 3 (List.replicate n cel0)]:=by
 have hi:=Kx n 1 300;rw [show CQ (n:Int) 1 300=true by simp [CQ];omega] at hi;refine zT tys_ok Tryz.func99 rfl rfl (Ae rfl) ?_;conv=>whnf
 refine zY hi ?_;refine⟨⟨rfl,by omega,by omega⟩,?_⟩;conv=>whnf
 exact⟨_, .tp [.ag [.ow 0 n, .v (.slice none 0 0),iv 0,iv (-1)],iv 0], [.row 68 3 (List.replicate n cel0)],fun _ _ h=>h,zS (s:= [1]) ⟨⟨by rw [Aa];try rfl,tv⟩,⟨by rw [Aa];try rfl,tv⟩,rfl,rfl,rfl,rfl,rfl⟩,rfl,rfl⟩
theorem V8 (n:Nat) (hn:1<=n/\n<=300):ACalls Tryz.prog false 55 [iv n] [] fun r H=>r = .ag [.ow 0 n, .v (.slice none 0 0),iv 0,iv (-1)]/\H=[.row 68 3 (List.replicate n cel0)]:=by
 refine zT tys_ok Tryz.func55 rfl rfl (Ae rfl) ?_;refine⟨⟨rfl,by omega,by omega⟩,?_⟩;conv=>whnf
 exact⟨_, .ag [.ow 0 n, .v (.slice none 0 0),iv 0,iv (-1)], [.row 68 3 (List.replicate n cel0)],fun _ _ h=>h,zS (s:= [1]) ⟨⟨by rw [Aa];try rfl,tv⟩,⟨by rw [Aa];try rfl,tv⟩,rfl,rfl,rfl,rfl,rfl⟩,rfl,rfl⟩
@[reducible] def dkG (d:Dk):List AB:= [.box 119 (Gp (.ow 1 d.cells.length) (.ow 3 d.cache.length) d.reqs d.left), .row 68 3 (d.cells.map B4), .dead, .row 152 2 (d.cache.map Ei)]
theorem Z8 (d:Dk):ConvH (dkH d) (dkG d):=z6 (H:=dkH d) 0 2 (by decide) rfl rfl
theorem Jc (d:Dk) (hl : -1<=d.left/\d.left<=1048576) (hc:d.cache.length<=2000) (ha:∀ w∈d.cache,0<=w.addr/\w.addr<d.cells.length) :
  ACalls Tryz.prog false 77 [.bp 0 0] (dkH d) fun r H=>r = iv (if d.left=0 then 8 else 0)/\H=dkG (if d.left=0 then d else d.flush):=by
 by_cases h0:d.left=0
 ·rw [if_pos h0,if_pos h0];exact(RF d hl h0).conv fun r H ⟨h1,h2⟩=>⟨_,h2 ▸ Z8 d,h1,rfl⟩
 ·rw [if_neg h0,if_neg h0];exact(U6 d hl h0 hc ha).conv fun r H ⟨h1,h2⟩=>⟨_,h2 ▸ zy _,h1,rfl⟩
theorem F7 {α β:Type} {f:α->β} {d:α} {l:List α} {k:Nat} (h:k<l.length):(l.take (k+1)).map f=(l.take k).map f ++ [f (l.getD k d)]:=by
 rw [AW h,A8,Ac,Ag h];try rfl
theorem TP (d:Dk) (h1:d.cells.length<=1000000) (h2:d.cache.length<=1000000) (hb:∀ c∈d.cells,c.bytes.length<=1000000000/\c.old.length<=1000000000) (hw:∀ w∈d.cache,w.bytes.length<=1000000000) :
  ACalls Tryz.prog false 210 [.ag (DV d)] [] fun r H=>r = .ag (Gp (.ow 0 d.cells.length) (.ow 1 d.cache.length) d.reqs d.left)/\H=[.row 68 3 (d.cells.map B4), .row 152 2 (d.cache.map Ei)]:=by
 refine zT tys_ok Tryz.func210 rfl rfl (Ae rfl) ?_;conv=>whnf
 refine zU Nat (fun k=>([(1, .bp 0 0),(2, .bp 1 0),(3, .bp 2 0),(4,iv k)], [.box 38 (DV d), .box 38 [.v (.slice none 0 0), .v (.slice none 0 0),iv 0,iv 0], .box 38 [.ow 3 k, .v (.slice none 0 0),iv d.reqs,iv d.left], .row 68 3 ((d.cells.take k).map B4)])) (fun k=>k<=d.cells.length) (fun k=>d.cells.length - k) 0 (Aj _)
  ⟨_,_,zC _ _, [(1002000,68,3)],tA, [0,1,2,3],tA⟩ ?_
 intro k hk;conv=>whnf
 refine A5 (fun h6=>?_) (fun h6=>?_) <;> (repeat rw [Aa] at h6) <;> conv=>whnf
 ·have f:k<d.cells.length:=by omega
  obtain⟨c,hc⟩:∃ c,c=d.cells.getD k ⟨0, [], []⟩:=⟨_,rfl⟩;have hm:=hb _ (A3 (d:=(⟨0, [], []⟩:Cel)) f);rw [<-hc] at hm;have b1:=Ew c.bytes hm.1;have b2:=Ew c.old hm.2;rw [hc] at b1 b2;have hl:k=((d.cells.take k).map B4).length:=by simp;omega
  apply zX (0) tys_ok mixed (.o [0,1,2,3,4,5,6,7,8,9,10,11,12,13,15,16,17,18,19,20,14,21,22,23,24,25,26] .fin) (by kernel_rfl);conv=>whnf
  try (refine tI ?_;conv=>whnf)
  try (refine tI ?_;conv=>whnf)
  try (refine tI ?_;conv=>whnf)
  refine zY b1 ?_;conv=>whnf
  refine zY b2 ?_;conv=>whnf
  try (refine tJ ?_;conv=>whnf)
  try (refine tK ?_;conv=>whnf)
  try (refine tS ?_;conv=>whnf)
  exact⟨k+1,f,by omega,zS (s:= [0,1,2,3]) ⟨⟨rfl,rfl,rfl,AG (by omega),tv⟩,⟨rfl,rfl,rfl,congrArg (fun l=>some (AB.row _ _ l)) (F7 f).symm,tv⟩,rfl,rfl,rfl,rfl,rfl⟩⟩
 ·have ek:k=d.cells.length:=by omega
  subst ek;refine zU Nat (fun k=>([(1, .bp 0 0),(2, .bp 1 0),(3, .bp 2 0),(5,iv k)], [.box 38 (DV d), .box 38 [.v (.slice none 0 0), .v (.slice none 0 0),iv 0,iv 0], .box 38 [.ow 3 d.cells.length, .ow 4 k,iv d.reqs,iv d.left], .row 68 3 (d.cells.map B4), .row 152 2 ((d.cache.take k).map Ei)])) (fun k=>k<=d.cache.length) (fun k=>d.cache.length - k) 0 (Aj _)
   ⟨_,_,zC _ _, [(1002001,152,2)],tA, [0,1,2,3,4],⟨tA,⟨rfl,rfl,rfl,by rw [Aw];try rfl,rfl,tv⟩,rfl,rfl,rfl,rfl,rfl⟩⟩ ?_
  intro k hk;conv=>whnf
  refine A5 (fun h7=>?_) (fun h7=>?_) <;> (repeat rw [Aa] at h7) <;> conv=>whnf
  ·have f:k<d.cache.length:=by omega
   have hm:=hw _ (A3 (d:=(⟨0, []⟩:Wr)) f);have b1:=Ew (d.cache.getD k ⟨0, []⟩).bytes hm;have hl:k=((d.cache.take k).map Ei).length:=by simp;omega
   apply zX (0) tys_ok mixed (.o [0,1,2,3,4,5,6,7,8,9,10,11,12,13,14,15,16,17,18,19] .fin) (by kernel_rfl);conv=>whnf
   try (refine tI ?_;conv=>whnf)
   try (refine tI ?_;conv=>whnf)
   refine zY b1 ?_;conv=>whnf
   try (refine tJ ?_;conv=>whnf)
   try (refine tK ?_;conv=>whnf)
   try (refine tS ?_;conv=>whnf)
   exact⟨k+1,f,by omega,zS (s:= [0,1,2,3,4]) ⟨⟨rfl,rfl,rfl,AG (by omega),tv⟩,⟨rfl,rfl,rfl,rfl,congrArg (fun l=>some (AB.row _ _ l)) (F7 f).symm,tv⟩,rfl,rfl,rfl,rfl,rfl⟩⟩
  ·have ek:k=d.cache.length:=by omega
   subst ek;exact⟨_, .ag (Gp (.ow 0 d.cells.length) (.ow 1 d.cache.length) d.reqs d.left), [.row 68 3 (d.cells.map B4), .row 152 2 (d.cache.map Ei)],fun _ _ h=>h,zS (s:= [3,4]) ⟨tA,⟨rfl,by rw [Aw];try rfl,tv⟩,rfl,rfl,rfl,rfl,rfl⟩,rfl,rfl⟩
@[reducible] def rkH (d:Dk):List AB:= [.box 133 (Gp (.ow 1 d.cells.length) (.ow 2 d.cache.length) d.reqs d.left), .row 68 3 (d.cells.map B4), .row 152 2 (d.cache.map Ei)]
theorem Om (d:Dk) (h1:d.cells.length<=1000000) (h2:d.cache.length<=1000000) (hb:∀ c∈d.cells,c.bytes.length<=1000000000/\c.old.length<=1000000000) (hw:∀ w∈d.cache,w.bytes.length<=1000000000) :
  ACalls Tryz.prog false 124 [.ag (DV d)] [] fun r H=>r = .bp 0 0/\H=rkH d:=by
 have c1:=TP d h1 h2 hb hw;refine zT tys_ok Tryz.func124 rfl rfl (Ae rfl) ?_;conv=>whnf
 refine zW c1 rfl ?_;rintro _ _ ⟨rfl,rfl⟩;exact⟨_, .bp 0 0,rkH d,fun _ _ h=>h,zS (s:= [3,1,2]) tA,rfl,rfl⟩
theorem Oi (d:Dk) (hl : -1<=d.left/\d.left<=1048576):ACalls Tryz.prog false 293 [.bp 0 0] (rkH d) fun r H=>r = .v (.bool (decide (d.left≠0)))/\H=rkH (if d.left=0 then d else d.req):=by
 refine zT tys_ok Tryz.func293 rfl rfl (Ae rfl) ?_;conv=>whnf
 refine A5 (fun h=>?_) (fun h=>?_) <;> (repeat rw [Aa] at h) <;> conv=>whnf
 ·exact⟨_, .v (.bool false),rkH d,fun _ _ h=>h,zS (s:= [0,1,2]) tA,by simp [h],by rw [if_pos h]⟩
 ·have hw:IntKind.i64.wrap (d.left - 1)=d.left - 1:=by rw [IntKind.wrap_i64];omega
  try
   refine zZ ?_;conv=>whnf
  refine A5 (fun h2=>?_) (fun h2=>?_) <;> (repeat rw [Aa] at h2) <;> conv=>whnf
  ·exact⟨_, .v (.bool true),rkH d.req,fun _ _ h=>h,zS (s:= [0,1,2]) ⟨tA,⟨congrArg (fun x=>some (AB.box 133 (Gp (.ow 1 d.cells.length) (.ow 2 d.cache.length) d.req.reqs x))) (show IntKind.i64.wrap (d.left - 1)=d.req.left by simp [Dk.req,h2,hw]),rfl,rfl,tv⟩,rfl,rfl,rfl,rfl,rfl⟩,by simp [h],by rw [if_neg h]⟩
  ·exact⟨_, .v (.bool true),rkH d.req,fun _ _ h=>h,zS (s:= [0,1,2]) ⟨tA,⟨congrArg (fun x=>some (AB.box 133 (Gp (.ow 1 d.cells.length) (.ow 2 d.cache.length) d.req.reqs x))) (show d.left=d.req.left by simp [Dk.req];omega),rfl,rfl,tv⟩,rfl,rfl,rfl,rfl,rfl⟩,by simp [h],by rw [if_neg h]⟩
theorem Pu (d:Dk) (a:Int) (hl : -1<=d.left/\d.left<=1048576) (ha:0<=a/\a<d.cells.length) (hc:d.cache.length<=2000) (hb:∀ c∈d.cells,c.bytes.length<=100000) (hw:∀ w∈d.cache,w.bytes.length<=100000) :
  ACalls Tryz.prog false 214 [.bp 0 0,iv a] (rkH d) fun r H=>r = .ag (Dt ⟨(d.read a).2.2,(d.read a).2.1⟩)/\H=rkH (d.read a).1:=by
 have hq:=Oi d hl;have no:∀ (e:Int) (c:Ctx) (v:Value),Rd (.ag [iv e, .v (.slice none 0 0)]) c v->Rd (.ag (Dt ⟨e, []⟩)) c v:=fun e=>Bf ⟨ri,Bg 1 _,tv⟩
 by_cases h0:d.left=0
 ·rw [if_pos h0,show decide (d.left≠0)=false by simp [h0]] at hq;refine zT tys_ok Tryz.func214 rfl rfl (Ae rfl) ?_;conv=>whnf
  refine ze9 [0,1,2] hq ?_;rintro _ _ ⟨rfl,rfl⟩;exact⟨.ag (Dt ⟨8, []⟩), .ag (Dt ⟨8, []⟩),rkH d,no 8,zS (s:= [0,1,2]) tA,by simp [Dk.read,h0],by simp [Dk.read,h0]⟩
 ·rw [if_neg h0,show decide (d.left≠0)=true by simp [h0]] at hq;have hE:∀ i,i<d.cache.length->(d.cache.map Ei).getD i []=Ei (d.cache.getD i ⟨0, []⟩):=fun i hi=>AY hi
  have w1:IntKind.i64.wrap ((d.req.cache.length:Int) - 1)=(d.cache.length:Int) - 1:=by show IntKind.i64.wrap ((d.cache.length:Int) - 1)=_;exact wi (by omega)
  refine zT tys_ok Tryz.func214 rfl rfl (Ae rfl) ?_;conv=>whnf
  refine ze9 [0,1,2] hq ?_;rintro _ _ ⟨rfl,rfl⟩;conv=>whnf
  refine zU Nat (fun k=>([(0, .bp 0 0),(1,iv a),(4, .bp 3 0),(5,iv ((k:Int) - 1))], [.box 133 (Gp (.ow 1 d.cells.length) (.ow 2 d.cache.length) d.req.reqs d.req.left), .row 68 3 (d.cells.map B4), .row 152 2 (d.cache.map Ei), .box 222 [iv 0, .v (.slice none 0 0)]])) (fun k=>k<=d.cache.length/\∀ j,k<=j->j<d.cache.length->(d.cache.getD j ⟨0, []⟩).addr≠a) (fun k=>k) d.cache.length ⟨Ah _,fun j h1 h2=>absurd h2 (by omega)⟩
   (zS (s:= [0,1,2,3]) ⟨⟨rfl,rfl,rfl,congrArg (fun x=>AV.v (.int .i64 x)) w1,tv⟩,tA,rfl,rfl,rfl,rfl,rfl⟩) ?_
  rintro k ⟨hk,hI⟩;conv=>whnf
  refine A5 (fun h6=>?_) (fun h6=>?_) <;> (repeat rw [Aa] at h6) <;> conv=>whnf
  ·have f:k - 1<d.cache.length:=by omega
   have ek:((k:Int) - 1).toNat=k - 1:=by omega
   have z:(d.cache.map Ei).getD ((k:Int) - 1).toNat []=Ei (d.cache.getD (k - 1) ⟨0, []⟩):=by rw [ek];exact AY f
   have C:=Ew (d.cache.getD (k - 1) ⟨0, []⟩).bytes (by have:=hw _ (A3 (d:=⟨0, []⟩) f);omega);refine⟨⟨by omega,by omega⟩,?_⟩;refine⟨⟨rfl,(Ab _).symm,by omega⟩,?_⟩;conv=>whnf
   rw [z];conv=>whnf
   refine A5 (fun h7=>?_) (fun h7=>?_) <;> (repeat rw [Aa] at h7) <;> conv=>whnf
   ·refine⟨⟨by omega,by omega⟩,?_⟩;refine⟨⟨rfl,(Ab _).symm,by omega⟩,?_⟩;conv=>whnf
    rw [z];conv=>whnf
    refine zY C ?_;conv=>whnf
    have hg:d.got a=((d.cache.getD (k - 1) ⟨0, []⟩).bytes,0):=by
     unfold Dk.got;rw [Kn _ _ rfl (k - 1) f h7 fun j q1 q2=>hI j (by omega) q2]
    exact⟨_, .ag (Dt ⟨0,(d.cache.getD (k - 1) ⟨0, []⟩).bytes⟩),rkH d.req,fun _ _ h=>h,zS (s:= [0,1,2]) tA,by simp [Dk.read,h0,hg],by simp [Dk.read,h0]⟩
   ·refine⟨k - 1,⟨by omega,fun j q1 q2=>?_⟩,by omega,zS (s:= [0,1,2,3]) ⟨⟨rfl,rfl,rfl,congrArg (fun x=>AV.v (.int .i64 x)) (show IntKind.i64.wrap ((k:Int) - 1 - 1)=((k - 1:Nat):Int) - 1 by rw [wi (by omega)];omega),tv⟩,tA,rfl,rfl,rfl,rfl,rfl⟩⟩;by_cases hj:j=k - 1
    ·rw [hj];exact h7
    ·exact hI j (by omega) q2
  ·have hg:d.got a=if (d.cells.getD a.toNat ⟨0, [], []⟩).state=0 then ((d.cells.getD a.toNat ⟨0, [], []⟩).bytes,0) else ([],6):=by
    unfold Dk.got;rw [IV _ _ rfl fun j q=>hI j (by omega) q]
   have u:(d.cells.map B4).getD a.toNat []=B4 (d.cells.getD a.toNat ⟨0, [], []⟩):=AY (by omega);have F:=Ew (d.cells.getD a.toNat ⟨0, [], []⟩).bytes (by have:=hb _ (A3 (d:=⟨0, [], []⟩) (show a.toNat<d.cells.length by omega));omega);refine⟨ha,?_⟩;refine⟨⟨rfl,(Ab _).symm,show a.toNat<d.cells.length by omega⟩,?_⟩;conv=>whnf
   rw [u];conv=>whnf
   refine A5 (fun h1=>?_) (fun h1=>?_) <;> (repeat rw [Aa] at h1) <;> conv=>whnf
   ·rw [if_neg h1] at hg;exact⟨.ag (Dt ⟨6, []⟩), .ag (Dt ⟨6, []⟩),rkH d.req,no 6,zS (s:= [0,1,2]) tA,by simp only [Dk.read,if_neg h0,hg],by simp only [Dk.read,if_neg h0]⟩
   ·rw [if_pos h1] at hg;refine⟨ha,?_⟩;refine⟨⟨rfl,(Ab _).symm,show a.toNat<d.cells.length by omega⟩,?_⟩;conv=>whnf
    rw [u];conv=>whnf
    refine zY F ?_;exact⟨_, .ag (Dt ⟨0,(d.cells.getD a.toNat ⟨0, [], []⟩).bytes⟩),rkH d.req,fun _ _ h=>h,zS (s:= [0,1,2]) tA,by simp only [Dk.read,if_neg h0,hg],by simp only [Dk.read,if_neg h0]⟩
theorem Nd (d:Dk) (a:Int) (b:List UInt8) (hl : -1<=d.left/\d.left<=1048576) (ha:0<=a/\a<d.cells.length) (hc:d.cache.length<=2000) (hb:b.length<=100000) :
  ACalls Tryz.prog false 217 [.bp 0 0,iv a,bA b] (rkH d) fun r H=>r = .v (.int .i64 (d.write a b).2)/\H=rkH (d.write a b).1:=by
 have hq:=Oi d hl;have j:=Ew b (by omega);by_cases h0:d.left=0
 ·rw [if_pos h0,show decide (d.left≠0)=false by simp [h0]] at hq;refine zT tys_ok Tryz.func217 rfl rfl (Ae rfl) ?_;conv=>whnf
  refine hq.mono ?_;rintro _ _ ⟨rfl,rfl⟩;exact⟨_,iv 8,rkH d,fun _ _ h=>h,zS (s:= [0,1,2]) tA,by simp only [Dk.write,if_pos h0],by simp only [Dk.write,if_pos h0]⟩
 ·rw [if_neg h0,show decide (d.left≠0)=true by simp [h0]] at hq;have f:(d.cells.map B4).getD a.toNat []=B4 (d.cells.getD a.toNat ⟨0, [], []⟩):=AY (by omega);have i:(d.req.cells.map B4).getD a.toNat []=B4 (d.cells.getD a.toNat ⟨0, [], []⟩):=f;refine zT tys_ok Tryz.func217 rfl rfl (Ae rfl) ?_;conv=>whnf
  refine hq.mono ?_;rintro _ _ ⟨rfl,rfl⟩;refine⟨ha,?_⟩;refine⟨⟨rfl,(Ab _).symm,show a.toNat<d.cells.length by omega⟩,?_⟩;conv=>whnf
  first | rw [f] | rw [i]
  conv=>whnf
  refine A5 (fun h1=>?_) (fun h1=>?_) <;> (repeat rw [Aa] at h1) <;> conv=>whnf
  ·exact⟨_,iv 7,rkH d.req,fun _ _ h=>h,zS (s:= [0,1,2]) tA,by simp only [Dk.write,if_neg h0,if_pos (Or.inl h1)],by simp only [Dk.write,if_neg h0,if_pos (Or.inl h1)]⟩
  ·by_cases h2:(2000:Int)<=d.cache.length
   ·rw [show decide ((d.req.cache.length:Int)>=2000)=true from decide_eq_true h2];exact⟨_,iv 7,rkH d.req,fun _ _ h=>h,zS (s:= [0,1,2]) tA,by simp only [Dk.write,if_neg h0,if_pos (Or.inr h2)],by simp only [Dk.write,if_neg h0,if_pos (Or.inr h2)]⟩
   ·rw [show decide ((d.req.cache.length:Int)>=2000)=false from decide_eq_false h2];have u:d.req.cache.length<=2000:=hc;have h3:¬((d.cells.getD a.toNat ⟨0, [], []⟩).state=2\/(2000:Int)<=d.cache.length):=fun h=>h.elim h1 h2
    conv=>whnf
    apply zX (0) tys_ok mixed (.o [0,1,2,3,4,5,6,7,8,9,10,11,12,13,14,15] .fin) (by kernel_rfl);conv=>whnf
    refine zY j ?_;conv=>whnf
    try (refine tJ ?_;conv=>whnf)
    try (refine tK ?_;conv=>whnf)
    try (refine tS ?_;conv=>whnf)
    have e:rkH { d.req with cache:=d.cache ++ [⟨a,b⟩] }=[.box 133 (Gp (.ow 1 d.cells.length) (.ow 2 (d.cache.length+1)) d.req.reqs d.req.left), .row 68 3 (d.cells.map B4), .row 152 2 (d.cache.map Ei ++ [Ei ⟨a,b⟩])]:=by
     unfold rkH;simp only [Ai,List.length_singleton,A8,Az,Bx];rfl
    refine⟨_,iv 0,rkH { d.req with cache:=d.cache ++ [⟨a,b⟩] },fun _ _ h=>h,zS (s:= [0,1,2]) ?_,by simp only [Dk.write,if_neg h0,if_neg h3],by simp only [Dk.write,if_neg h0,if_neg h3]⟩;rw [e];exact tA
theorem VJ (d:Dk) (w:Wr) (ha:0<=w.addr/\w.addr<d.cells.length) (hb:w.bytes.length<=100000) :
  ACalls Tryz.prog false 298 [.bp 0 0, .ag (Ei w)] (rkH d) fun r H=>r = .tp []/\H=rkH (d.fin w):=by
 have i:(d.cells.map B4).getD w.addr.toNat []=B4 (d.cells.getD w.addr.toNat cz):=AY (by omega);have j:=Ew w.bytes (by omega);refine zT tys_ok Tryz.func298 rfl rfl (Ae rfl) ?_;conv=>whnf
 apply zX (0) tys_ok mixed (.o [0,1,2,3,4,5,6,7,8] .fin) (by kernel_rfl);conv=>whnf
 try (refine tI ?_;conv=>whnf)
 refine⟨⟨rfl,(Ab _).symm,show w.addr.toNat<d.cells.length by omega⟩,?_⟩;conv=>whnf
 rw [i];conv=>whnf
 refine A5 (fun h1=>?_) (fun h1=>?_) <;> (repeat rw [Aa] at h1) <;> conv=>whnf
 ·exact⟨_, .tp [],rkH d,fun _ _ h=>h,zS (s:= [0,1,2]) tA,rfl,by simp only [Dk.fin,if_pos h1]⟩
 ·have f:w.addr.toNat<d.cells.length:=by omega
  apply zX (0) tys_ok mixed (.o [0,1,2,3,4,5,6,7,8,9,10,11,12,13,14,15,16,17,18] .fin) (by kernel_rfl);conv=>whnf
  try (first | (refine Ad ⟨rfl,(Ab _).symm,f⟩ ?_;(conv=>whnf);rw [i]) | (refine Ad ⟨rfl,by simp,f⟩ ?_;(conv=>whnf);rw [Bu (by simpa using f)]) | skip;conv=>whnf)
  try (first | (refine Ad ⟨rfl,(Ab _).symm,f⟩ ?_;(conv=>whnf);rw [i]) | (refine Ad ⟨rfl,by simp,f⟩ ?_;(conv=>whnf);rw [Bu (by simpa using f)]) | skip;conv=>whnf)
  refine zY j ?_;conv=>whnf
  try (refine tS ?_;conv=>whnf)
  (first | rw [i] | rw [Bu (by simpa using f)] | skip)
  conv=>whnf
  try (refine tS ?_;conv=>whnf)
  (first | rw [i] | rw [Bu (by simpa using f)] | skip)
  conv=>whnf
  try (refine tS ?_;conv=>whnf)
  (first | rw [i] | rw [Bu (by simpa using f)] | skip)
  conv=>whnf
  have e:rkH (d.fin w)=[.box 133 (Gp (.ow 1 d.cells.length) (.ow 2 d.cache.length) d.reqs d.left), .row 68 3 ((d.cells.map B4).set w.addr.toNat (B4 ⟨0,w.bytes,(d.cells.getD w.addr.toNat cz).bytes⟩)), .row 152 2 (d.cache.map Ei)]:=by
   rw [Dk.fin,if_neg h1];unfold rkH;simp only [AX,BI]
  refine⟨_, .tp [],rkH (d.fin w),fun _ _ h=>h,zS (s:= [0,1,2]) ?_,rfl,rfl⟩;rw [e];exact⟨tA,⟨rfl,congrArg (fun l=>some (AB.row _ _ l)) (by rw [List.set_set,List.set_set];try rfl),rfl,tv⟩,rfl,rfl,rfl,rfl,rfl⟩
@[reducible] def rkG (d:Dk):List AB:= [.box 133 (Gp (.ow 1 d.cells.length) (.ow 3 d.cache.length) d.reqs d.left), .row 68 3 (d.cells.map B4), .dead, .row 152 2 (d.cache.map Ei)]
theorem Zj (d:Dk):ConvH (rkH d) (rkG d):=z6 (H:=rkH d) 0 2 (by decide) rfl rfl
theorem Nl (d:Dk) (hl : -1<=d.left/\d.left<=1048576) (hc:d.cache.length<=2000) (ha:∀ w∈d.cache,0<=w.addr/\w.addr<d.cells.length) (hb:∀ w∈d.cache,w.bytes.length<=100000) :
  ACalls Tryz.prog false 218 [.bp 0 0] (rkH d) fun r H=>r = iv (if d.left=0 then 8 else 0)/\H=rkG (if d.left=0 then d else d.flush):=by
 have hq:=Oi d hl;by_cases h0:d.left=0
 ·rw [if_pos h0,show decide (d.left≠0)=false by simp [h0]] at hq;rw [if_pos h0,if_pos h0];refine zT tys_ok Tryz.func218 rfl rfl (Ae rfl) ?_;conv=>whnf
  refine hq.mono ?_;rintro _ _ ⟨rfl,rfl⟩;exact⟨_,iv 8,rkG d,fun _ _ h=>h,zI (zL (Zj d)) (s:= [0,1,2,3]) tA,rfl,rfl⟩
 ·rw [if_neg h0,show decide (d.left≠0)=true by simp [h0]] at hq;rw [if_neg h0,if_neg h0];have hE:∀ i,i<d.cache.length->(d.cache.map Ei).getD i []=Ei (d.cache.getD i ⟨0, []⟩):=fun i hi=>AY hi
  refine zT tys_ok Tryz.func218 rfl rfl (Ae rfl) ?_;conv=>whnf
  refine hq.mono ?_;rintro _ _ ⟨rfl,rfl⟩;conv=>whnf
  refine zU Nat (fun k=>([(0, .bp 0 0),(2,iv 0),(3,iv k)],rkH (d.req.allFin (d.cache.take k)))) (fun k=>k<=d.cache.length) (fun k=>d.cache.length - k) 0 (Aj _)
   (zS (s:= [0,1,2]) tA) ?_
  intro k hk;have j:=Jf (d.cache.take k) d.req;have u:k<d.cache.length->d.req.allFin (d.cache.take (k+1))=(d.req.allFin (d.cache.take k)).fin (d.cache.getD k ⟨0, []⟩):=fun h=>KW d.req h
  have z:k=d.cache.length->d.flush={ d.req.allFin (d.cache.take k) with cache:= [] }:=fun h=>by rw [h,Aw];try rfl
  generalize d.req.allFin (d.cache.take k)=X at j u z |-
  obtain⟨xc,xw,xr,xl⟩:=X;simp only at j;obtain⟨q1,q2,q3,q4⟩:=j;have q2:xw=d.cache:=q2;subst q2;have q1':xc.length=d.cells.length:=q1;conv=>whnf
  refine A5 (fun h=>?_) (fun h=>?_) <;> (repeat rw [Aa] at h) <;> conv=>whnf
  ·have f:k<d.cache.length:=h;have hd:=VJ ⟨xc,d.cache,xr,xl⟩ (d.cache.getD k ⟨0, []⟩) (by have:=ha _ (A3 (d:=⟨0, []⟩) f);show _/\_<((xc.length:Nat):Int);rw [q1'];exact this) (hb _ (A3 (d:=⟨0, []⟩) f));refine⟨⟨by omega,by omega⟩,?_⟩;refine⟨⟨rfl,(Ab _).symm,by simpa using f⟩,?_⟩;conv=>whnf
   rw [show ((k:Int)).toNat=k from Aa k,hE k f];conv=>whnf
   refine ze9 [0,1,2] hd ?_;rintro _ _ ⟨rfl,rfl⟩;refine⟨k+1,f,by omega,zS (s:= [0,1,2]) ?_⟩;rw [u f];exact⟨⟨rfl,rfl,AG (by omega),tv⟩,tA,rfl,rfl,rfl,rfl,rfl⟩
  ·have ek:k=d.cache.length:=Nat.le_antisymm hk h;rw [z ek];exact⟨_,iv 0,rkG { cells:=xc,cache:= [],reqs:=xr,left:=xl },fun _ _ h=>h,⟨_,_,zC _ _, [(1000001,152,2)],tA, [0,1,2,3],tA⟩,rfl,rfl⟩
structure DkOk (d:Dk):Prop where
 n:1<=d.cells.length/\d.cells.length<=300
 m:d.cache.length<=2000
 r:0<=d.reqs/\d.reqs<=1048576
 l : -1<=d.left/\d.left<=1048576
 c:∀ c∈d.cells,(0<=c.state/\c.state<=2)/\c.bytes.length<=200/\c.old.length<=200
 w:∀ w∈d.cache,(0<=w.addr/\w.addr<d.cells.length)/\w.bytes.length<=200
theorem LX {d:Dk}:MQ d=true↔DkOk d:=by
 constructor
 ·intro h;simp only [MQ,Af,AE,decide_eq_true_eq,Av,H8,L0] at h;obtain⟨⟨h1,h2,h3,h4⟩,h5,h6⟩:=h;exact⟨by omega,h2,h3,h4,fun c hc=>h5 c hc,fun w hw=>⟨by have:=(h6 w hw).1;omega,(h6 w hw).2⟩⟩
 ·intro h;simp only [MQ,Af,AE,decide_eq_true_eq,Av,H8,L0];exact⟨⟨by have:=h.n;omega,h.m,h.r,h.l⟩,fun c hc=>h.c c hc,fun w hw=>⟨by have:=(h.w w hw).1;omega,(h.w w hw).2⟩⟩
theorem DkOk.req {d:Dk} (h:DkOk d):DkOk d.req:=by
 have hr:=h.r;have hl:=h.l;refine⟨h.n,h.m,?_,?_,h.c,h.w⟩
 ·show 0<=(if 1048576<IntKind.i64.wrap (d.reqs+1) then 1048576 else IntKind.i64.wrap (d.reqs+1))/\(if 1048576<IntKind.i64.wrap (d.reqs+1) then 1048576 else IntKind.i64.wrap (d.reqs+1))<=1048576;rw [wi (by omega)];omega
 ·show -1<=(if d.left > 0 then d.left - 1 else d.left)/\(if d.left > 0 then d.left - 1 else d.left)<=1048576;omega
theorem Um {d:Dk} (h:DkOk d) (a:Int):(d.got a).1.length<=200:=by
 unfold Dk.got;cases hl:JD d.cache a with
 | some w=>
  have:∀ (l:List Wr) (r:Option Wr),(∀ x∈l,x.bytes.length<=200)->(∀ x,r=some x->x.bytes.length<=200)->∀ x,l.foldl (fun r w=>if w.addr=a then some w else r) r=some x->x.bytes.length<=200:=by
   intro l;induction l with
   | nil=>intro r _ h2 x hx;exact h2 x hx
   | cons y l ih=>
    grind
  exact this d.cache none (fun x hx=>(h.w x hx).2) (fun x hx=>by cases hx) w hl
 | none=>
  simp only;split
  ·by_cases ha:a.toNat<d.cells.length
   ·exact(h.c _ (A3 (d:=⟨0, [], []⟩) ha)).2.1
   ·grind
  ·simp
theorem DkOk.read {d:Dk} (h:DkOk d) (a:Int):DkOk (d.read a).1:=by
 unfold Dk.read;split
 ·exact h
 ·exact h.req
theorem DkOk.write {d:Dk} (h:DkOk d) {a:Int} {b:List UInt8} (ha:0<=a/\a<d.cells.length) (hb:b.length<=200):DkOk (d.write a b).1:=by
 unfold Dk.write;split
 ·exact h
 ·split
  ·exact h.req
  ·rename_i h1;have h2:=h.req;refine⟨h2.n,?_,h2.r,h2.l,h2.c,fun w hw=>?_⟩
   ·grind
   ·rcases A6.1 hw with hw | hw
    ·exact h.w w hw
    ·simp at hw;subst hw;exact⟨ha,hb⟩
theorem DkOk.fin {d:Dk} (h:DkOk d) {w:Wr} (hb:w.bytes.length<=200):DkOk (d.fin w):=by
 unfold Dk.fin;split
 ·exact h
 ·refine⟨by simpa using h.n,h.m,h.r,h.l,fun c hc=>?_,fun x hx=>by simpa using h.w x hx⟩;rcases Cu hc with hc | rfl
  ·exact h.c c hc
  ·refine⟨⟨DH _,show (0:Int)<=2 by decide⟩,hb,?_⟩;show (d.cells.getD w.addr.toNat cz).bytes.length<=200;by_cases ha:w.addr.toNat<d.cells.length
   ·exact(h.c _ (A3 (d:=cz) ha)).2.1
   ·rw [Ac,AL (by omega)];simp [cz]
theorem DkOk.allFin (l:List Wr):∀ {d:Dk},DkOk d->(∀ w∈l,w.bytes.length<=200)->DkOk (d.allFin l):=by
 induction l with
 | nil=>intro d h _;exact h
 | cons w l ih=>intro d h hw;exact ih (h.fin (hw w (by simp))) fun x hx=>hw x (Bh _ hx)
theorem DkOk.flush {d:Dk} (h:DkOk d):DkOk d.flush:=by
 have h1:=h.req.allFin d.cache (fun w hw=>(h.w w hw).2);exact⟨h1.n,by simp [Dk.flush],h1.r,h1.l,h1.c,fun w hw=>by simp [Dk.flush] at hw⟩
theorem Le (d:Dk) (a:Int) (b:List UInt8):(d.write a b).1.cells.length=d.cells.length:=by
 unfold Dk.write;split
 ·rfl
 ·split <;> rfl
theorem SE (d:Dk):d.flush.cells.length=d.cells.length:=(Jf d.cache d.req).1
def Dk.adv:Nat->Dk->Dk
 | 0,d=>d
 | k+1,d=>let e:=Dk.adv k d;if e.left=0 then e else e.req
def Dk.live (k:Nat) (d:Dk):Prop:=d.left<0\/(k:Int)<=d.left
instance (k:Nat) (d:Dk):Decidable (d.live k):=by unfold Dk.live;infer_instance
theorem GW (k:Nat) (d:Dk):(d.adv k).cells=d.cells/\(d.adv k).cache=d.cache:=by
 induction k with
 | zero=>exact tA
 | succ k ih=>show (if _ then _ else _:Dk).cells=_/\(if _ then _ else _:Dk).cache=_;split <;> exact ih
theorem Q9 (k:Nat) (d:Dk) (h:d.live k):(d.adv k).left=if d.left<0 then d.left else d.left - k:=by
 induction k with
 | zero=>show d.left=_;simp
 | succ k ih=>
  have h':d.live k:=by unfold Dk.live at *;omega
  have ih:=ih h';have h0:¬(d.adv k).left=0:=by rw [ih];unfold Dk.live at h;split <;> omega
  show (if (d.adv k).left=0 then d.adv k else (d.adv k).req).left=_;rw [if_neg h0];show (if (d.adv k).left > 0 then (d.adv k).left - 1 else (d.adv k).left)=_;rw [ih];unfold Dk.live at h;omega
theorem Xl (k:Nat) (d:Dk) (h:¬d.live (k+1)) (h':d.live k):(d.adv k).left=0:=by
 rw [Q9 k d h'];unfold Dk.live at *
 omega
theorem JT (k n:Nat) (d:Dk) (h:(d.adv k).left=0) (hn:k<=n):d.adv n=d.adv k:=by
 induction n with
 | zero=>rw [show k=0 by omega]
 | succ n ih=>
  by_cases e:k=n+1
  ·rw [e]
  ·have:=ih (by omega);show (if (d.adv n).left=0 then d.adv n else (d.adv n).req)=_
   grind
theorem Xj (k:Nat) (d:Dk) (h:¬(d.adv k).left=0):d.adv (k+1)=(d.adv k).req:=if_neg h
theorem Q8 (k:Nat) (d:Dk) (hl : -1<=d.left) (h:d.live k):(d.adv k).left=0↔¬d.live (k+1):=by
 rw [Q9 k d h];unfold Dk.live at *
 omega
theorem DkOk.adv {d:Dk} (h:DkOk d) (k:Nat):DkOk (d.adv k):=by
 induction k with
 | zero=>exact h
 | succ k ih=>show DkOk (if _ then _ else _);split;exact ih;exact ih.req
theorem Y6 (k:Nat) (d:Dk) (a:Int):(d.adv k).got a=d.got a:=by
 unfold Dk.got;rw [(GW k d).1,(GW k d).2]
def Up (d:Dk) (a:Int):Gt:=⟨(d.got a).2,(d.got a).1⟩
theorem S9 (d:Dk) (a:Int):(d.got a).2=0\/(d.got a).2=6:=by
 unfold Dk.got
 grind
def CR (s:Dk × Nat × Bool) (w:Wr):Dk × Nat × Bool:=
 if s.2.2 then s else
 match s.1.write w.addr w.bytes with
 | (d,e)=>if e=8 then (d,s.2.1,true) else (d,s.2.1+(if e=0 then 1 else 0),false)
def Dk.writes (d:Dk) (l:List Wr):Dk × Nat × Bool:=l.foldl CR (d,0,false)
def Dk.putAll (d:Dk) (l:List Wr):Dk × Nat × Bool:=
 match d.writes l with
 | (d1,n,dead)=>if dead then (d1,n,true) else if d1.left=0 then (d1,n,true) else (d1.flush,n,false)
theorem FC (d:Dk) {l:List Wr} {k:Nat} (h:k<l.length):d.writes (l.take (k+1))=CR (d.writes (l.take k)) (l.getD k ⟨0, []⟩):=by
 unfold Dk.writes;rw [Ba,BR,Ag h]
 grind
theorem HH {s:Dk × Nat × Bool} (w:Wr) (h:s.2.2=true):CR s w=s:=by unfold CR;rw [if_pos h]
theorem K8 (d:Dk) {l:List Wr} {k:Nat} (hk:k<=l.length) (h:(d.writes (l.take k)).2.2=true):d.writes l=d.writes (l.take k):=by
 have:∀ n,k<=n->n<=l.length->d.writes (l.take n)=d.writes (l.take k):=by
  intro n;induction n with
  | zero=>intro h1 _;rw [show k=0 by omega]
  | succ n ih=>
   intro h1 h2;by_cases e:k=n+1
   ·rw [e]
   ·rw [FC d (by omega),ih (by omega) (by omega),HH _ h]
 grind
theorem QD {P:Dk->Prop} (l:List Wr) (hw:∀ d,P d->∀ w∈l,P (d.write w.addr w.bytes).1) {d:Dk} (h:P d) (k:Nat):P (d.writes (l.take k)).1:=by
 induction k with
 | zero=>simpa [Dk.writes] using h
 | succ k ih=>
  by_cases hk:k<l.length
  ·rw [FC d hk];unfold CR
   grind
  ·rw [A4 (by omega)];rwa [A4 (by omega)] at ih
def an0:An:=⟨0,0,0,0,0,⟨#[]⟩, []⟩
theorem an0_sub:SubL [iv 0,iv 0,iv 0,iv 0,iv 0, .v (.string ⟨#[]⟩), .v (.slice none 0 0)] (Ek an0):=
 ⟨fun _ _ h=>h,fun _ _ h=>h,fun _ _ h=>h,fun _ _ h=>h,fun _ _ h=>h,fun _ _ h=>h,Bg 3 _,tv⟩
structure Stt where
 a:An
 txns:List Tx
 only:Bool
 cursor:Int
 found:Int
 fixed:Int
 moved:Int
 lost:List Int
 deriving DecidableEq
def Eo (s:Stt):List AV:= [iv s.a.gen,iv s.a.epoch,iv s.a.pos,iv s.a.seq,iv s.a.last, .v (.string s.a.label),HE s.a.homes,CS s.txns, .v (.bool s.only),iv s.cursor,iv s.found,iv s.fixed,iv s.moved,iA s.lost]
def st0:Stt:=⟨an0, [],false,0,0,0,0, []⟩
@[reducible] def Yz (g:Geo) (x:AV) (s:Stt):List AV:= [iv g.z,iv g.d,iv g.sp,iv g.sl,iv g.an,x,iv s.a.gen,iv s.a.epoch,iv s.a.pos,iv s.a.seq,iv s.a.last, .v (.string s.a.label),HE s.a.homes,CS s.txns, .v (.bool s.only),iv s.cursor,iv s.found,iv s.fixed,iv s.moved,iA s.lost]
@[reducible] def JU (g:Geo) (s:Stt) (d:Dk):List AB:= [.box 99 (Yz g (.bp 1 0) s), .box 119 (Gp (.ow 2 d.cells.length) (.ow 3 d.cache.length) d.reqs d.left), .row 68 3 (d.cells.map B4), .row 152 2 (d.cache.map Ei)]
@[reducible] def bwG (g:Geo) (s:Stt) (d:Dk):List AB:= [.box 99 (Yz g (.bp 1 0) s), .box 119 (Gp (.ow 2 d.cells.length) (.ow 4 d.cache.length) d.reqs d.left), .row 68 3 (d.cells.map B4), .dead, .row 152 2 (d.cache.map Ei)]
theorem Id {m:Nat} (h:Nat.ble 4 m=true):∀ z∈ [1,2,3],z<m:=fun z hz=>by
 have:=Ae h;simp at hz;omega
theorem Fc {m:Nat} (h:Nat.ble 4 m=true):∀ z∈ [0,1,2,3],z<m:=fun z hz=>by
 have:=Ae h;simp at hz;omega
theorem OL (g:Geo) (s:Stt) (d:Dk) (a:Int) (b:List UInt8) (h:DkOk d) (ha:0<=a/\a<d.cells.length) (hb:b.length<=200) :
  ACalls Tryz.prog false 149 [.bp 0 0,iv a,bA b] (JU g s d) fun r H=>r = .tp [.v (.bool (decide ((d.write a b).2=0))),iv (if (d.write a b).2=8 then 8 else 0)]/\H=JU g s (d.write a b).1:=by
 have hr:=NL BL d a b h.l ha h.m (by omega);have he:(d.write a b).2=8\/(d.write a b).2=7\/(d.write a b).2=0:=by
  unfold Dk.write;split
  ·exact .inl rfl
  ·split
   ·exact .inr (.inl rfl)
   ·exact .inr (.inr rfl)
 generalize d.write a b=q at hr he |-
 obtain⟨d',e⟩:=q;simp only at hr he |-
 refine zT tys_ok Tryz.func149 rfl rfl (Ae rfl) ?_;conv=>whnf
 refine ze9 [1,2,3] hr ?_;rintro _ _ ⟨rfl,rfl⟩;rcases he with rfl | rfl | rfl
 all_goals
  exact⟨_,_,JU g s d',fun _ _ h=>h,zS (s:= [0,1,2,3]) tA,rfl,rfl⟩
@[reducible] def bx (g:Geo) (s:Stt) (d:Dk) (l:List AB):List AB:= .box 99 (Yz g (.bp 1 0) s):: .box 119 (Gp (.ow 2 d.cells.length) (.ow 3 d.cache.length) d.reqs d.left):: .row 68 3 (d.cells.map B4):: .row 152 2 (d.cache.map Ei)::l
def BA (d:Dk) (ats:List Int):List Gt:=ats.map (Up d)
def DT (g:Geo):List Int:=(List.range g.an.toNat).map Int.ofNat
theorem Tv {d:Dk} {k:Nat} (a:Int) (h:¬(d.adv k).left=0):(d.adv k).read a=(d.adv (k+1),d.got a):=by
 rw [Dk.read,if_neg h,Xj k d h,Y6]
theorem Tw {d:Dk} {k:Nat} (a:Int) (h:(d.adv k).left=0):(d.adv k).read a=(d.adv k, [],8):=by rw [Dk.read,if_pos h]
theorem F6 (g:Geo):(DT g).length=g.an.toNat:=by simp [DT]
theorem NX {g:Geo} {k:Nat} (h:k<g.an.toNat):(DT g).getD k 0=k:=by
 rw [DT,AY (d:=0) (by simpa using h),Ac,Bz h];try rfl
theorem Fz (d:Dk) (ats:List Int):(BA d ats).length=ats.length:=by simp [BA]
def BU (g:Geo) (copy:Int):List Int:=(List.range g.sl.toNat).map fun i=>Bi g copy (i:Nat)
theorem IS (g:Geo) (c:Int):(BU g c).length=g.sl.toNat:=by simp [BU]
theorem EE {g:Geo} (hg:Bq g=true):g.an+2*g.sl+2*g.z<=Ar g:=by
 obtain⟨g1,g2,g3,g4,g5⟩:=Aq.1 hg;have hp:=Hi hg;have:0<=g.z*Cv g:=Da (by omega) (by omega);unfold Ar;omega
theorem EC {g:Geo} {n:Nat} (hg:Bq g=true) (hn:(n:Int)=Ar g) {c s:Int} (hc:c=0\/c=1) (hs:0<=s/\s<g.sl):0<=Bi g c s/\Bi g c s<n:=by
 obtain⟨g1,g2,g3,g4,g5⟩:=Aq.1 hg;have:=EE hg;unfold Bi;rcases hc with rfl | rfl <;> omega
def OW (n:Nat) (w:Wr):Prop:=(0<=w.addr/\w.addr<n)/\w.bytes.length<=200
theorem GB {d:Dk} (h:DkOk d) {l:List Wr} (hl:∀ w∈l,OW d.cells.length w) (k:Nat):DkOk (d.writes (l.take k)).1/\(d.writes (l.take k)).1.cells.length=d.cells.length:=
 QD (P:=fun x=>DkOk x/\x.cells.length=d.cells.length) l (fun x hx w hw=>⟨hx.1.write (by rw [hx.2];exact(hl w hw).1) (hl w hw).2,by rw [Le,hx.2]⟩) ⟨h,rfl⟩ k
theorem Ip (d:Dk) (a:Int) (b:List UInt8):(d.write a b).2=8\/(d.write a b).2=7\/(d.write a b).2=0:=by
 unfold Dk.write;split
 ·exact .inl rfl
 ·split
  ·exact .inr (.inl rfl)
  ·exact .inr (.inr rfl)
theorem Ji {d:Dk} {l:List Wr} {k:Nat} (hk:k<l.length) (h:(d.writes (l.take k)).2.2=false) :
  d.writes (l.take (k+1))=(((d.writes (l.take k)).1.write (l.getD k ⟨0, []⟩).addr (l.getD k ⟨0, []⟩).bytes).1,(d.writes (l.take k)).2.1+(if ((d.writes (l.take k)).1.write (l.getD k ⟨0, []⟩).addr (l.getD k ⟨0, []⟩).bytes).2=0 then 1 else 0),decide (((d.writes (l.take k)).1.write (l.getD k ⟨0, []⟩).addr (l.getD k ⟨0, []⟩).bytes).2=8)):=by
 rw [FC d hk];unfold CR;rw [if_neg (by rw [h];decide)];simp only;by_cases h8:((d.writes (l.take k)).1.write (l.getD k ⟨0, []⟩).addr (l.getD k ⟨0, []⟩).bytes).2=8
 ·rw [if_pos h8,h8];simp
 ·rw [if_neg h8,decide_eq_false h8]
theorem Es {d:Dk} {l:List Wr} (h:(d.writes l).2.2=true):d.putAll l=((d.writes l).1,(d.writes l).2.1,true):=by
 unfold Dk.putAll;generalize d.writes l=q at h |-
 obtain⟨a,b,c⟩:=q;simp only at h |-
 rw [if_pos h]
theorem DX {d:Dk} {l:List Wr} (h:(d.writes l).2.2=false):d.putAll l=if (d.writes l).1.left=0 then ((d.writes l).1,(d.writes l).2.1,true) else ((d.writes l).1.flush,(d.writes l).2.1,false):=by
 unfold Dk.putAll;generalize d.writes l=q at h |-
 obtain⟨a,b,c⟩:=q;simp only at h |-
 rw [if_neg (by rw [h];decide)]
theorem Kg {d:Dk} (h:DkOk d) {l:List Wr} (hl:∀ w∈l,OW d.cells.length w):DkOk (d.putAll l).1/\(d.putAll l).1.cells.length=d.cells.length:=by
 have hw:=GB h hl l.length;rw [Aw] at hw;cases hd:(d.writes l).2.2 with
 | true=>rw [Es hd];exact hw
 | false=>
  rw [DX hd];split
  ·exact hw
  ·exact⟨hw.1.flush,by rw [SE,hw.2]⟩
def Dk.mend (d:Dk) (l:List Wr):Dk × Bool:=if l=[] then (d,false) else ((d.putAll l).1,(d.putAll l).2.2)
def AD (g:Geo) (a:An):List Wr:=(List.range g.an.toNat).map fun i=>⟨(i:Nat),CZ a (i:Nat)⟩
theorem CY (g:Geo) (a:An):(AD g a).length=g.an.toNat:=by simp [AD]
theorem Im {g:Geo} {a:An} {k:Nat} (h:k<g.an.toNat):(AD g a).getD k ⟨0, []⟩=⟨(k:Nat),CZ a (k:Nat)⟩:=by
 rw [AD,AY (d:=0) (by simpa using h),Ac,Bz h];try rfl
theorem Q1 (g:Geo) (s:Stt) (d:Dk) (a:An) (hg:Bq g=true) (ha:Bj g a=true) (h:DkOk d) (hl:∀ w∈AD g a,OW d.cells.length w) :
  ACalls Tryz.prog false 87 [.bp 0 0, .ag (Ek a)] (JU g s d) fun r H=>r = .tp [iv (if (d.putAll (AD g a)).2.2 then 0 else ((d.putAll (AD g a)).2.1:Nat)),iv (if (d.putAll (AD g a)).2.2 then 8 else 0)]/\H=bwG g s (d.putAll (AD g a)).1:=by
 obtain⟨g1,g2,g3,g4,g5⟩:=Aq.1 hg;have G:=CY g a;refine zT tys_ok Tryz.func87 rfl rfl (Ae rfl) ?_;conv=>whnf
 refine zU Nat (fun k=>([(0, .bp 0 0),(3, .bp 4 0),(6, .v (.int .i64 (d.writes ((AD g a).take k)).2.1)),(19,iv g.an),(20,iv k)],bx g s (d.writes ((AD g a).take k)).1 [.box 28 (Ek a)])) (fun k=>k<=(AD g a).length/\(d.writes ((AD g a).take k)).2.2=false/\(d.writes ((AD g a).take k)).2.1<=k) (fun k=>(AD g a).length - k) 0 ⟨Aj _,rfl,Ah _⟩
  (zS (s:= [0,1,2,3,4]) tA) ?_
 rintro k ⟨hk,i,j⟩;have hd:=GB h hl k;conv=>whnf
 refine A5 (fun h6=>?_) (fun h6=>?_) <;> (repeat rw [Aa] at h6) <;> conv=>whnf
 ·have f:k<(AD g a).length:=by omega
  have hm:=hl _ (A3 (d:=(⟨0, []⟩:Wr)) f);have hx:=Ji f i;rw [Im (by omega)] at hx hm;generalize hX:(d.writes ((AD g a).take k)).1=X at hd hx |-
  generalize hN:(d.writes ((AD g a).take k)).2.1=N at hx j |-
  have F:=Mt g k hg (by omega);have C:=VZ g a k hg ha (by omega);have hc:=OL g s X k (CZ a k) hd.1 (by rw [hd.2];exact hm.1) hm.2;repeat' (refine zZ ?_;conv=>whnf)
  refine zY F ?_;conv=>whnf
  apply zX (0) tys_ok mixed (.o [0,1,2,3,4,5,6,7,8,9,10,11] .fin) (by kernel_rfl);conv=>whnf
  refine zY C ?_;conv=>whnf
  have hE:=Ip X k (CZ a k);generalize hQ:X.write k (CZ a k)=Q at hc hx hE;obtain⟨D,e⟩:=Q;simp only at hx hE hc;refine ze9 [0,1,2,3] hc ?_;rintro _ _ ⟨rfl,rfl⟩;rcases hE with rfl | hE
  ·rw [if_pos rfl];conv=>whnf
   have z:(d.writes ((AD g a).take (k+1))).2.2=true:=by rw [hx];try rfl
   have u:d.writes (AD g a)=d.writes ((AD g a).take (k+1)):=K8 d f z;have hp:(d.putAll (AD g a)).1=D/\(d.putAll (AD g a)).2.2=true:=by
    rw [Es (by rw [u];exact z),u,hx];exact tA
   rw [hp.1,hp.2];exact⟨_, .tp [iv 0,iv 8],bwG g s D,fun _ _ h=>h,zI (zL (z6 1 3 (by decide) rfl rfl)) (s:= [0,1,2,3,5]) tA,rfl,rfl⟩
  ·rw [if_neg (by omega)];have h1:(d.writes ((AD g a).take (k+1))).1=D:=by rw [hx]
   have h2:(d.writes ((AD g a).take (k+1))).2.2=false:=by rw [hx];exact decide_eq_false (by omega)
   have h3:(d.writes ((AD g a).take (k+1))).2.1=N+if e=0 then 1 else 0:=by rw [hx]
   rcases hE with rfl | rfl
   all_goals
    conv=>whnf
    repeat' (refine zZ ?_;conv=>whnf)
    refine⟨k+1,⟨f,h2,by rw [h3];simp;omega⟩,by omega,?_⟩;rw [h1,h3]
   ·exact zS (s:= [0,1,2,3,4]) ⟨⟨rfl,rfl,rfl,rfl,AG (by omega),tv⟩,tA,rfl,rfl,rfl,rfl,rfl⟩
   ·exact zS (s:= [0,1,2,3,4]) ⟨⟨rfl,rfl,AG (by omega),rfl,AG (by omega),tv⟩,tA,rfl,rfl,rfl,rfl,rfl⟩
 ·have ek:k=(AD g a).length:=by omega
  subst ek;rw [Aw] at i hd j;rw [Aw];have hp:=DX i;generalize (d.writes (AD g a)).1=X at hp hd |-
  generalize (d.writes (AD g a)).2.1=N at hp |-
  have hf:=Jc X hd.1.l hd.1.m (fun w hw=>(hd.1.w w hw).1);rw [hp];refine ze9 [1,2,3] hf ?_;rintro _ _ ⟨rfl,rfl⟩;by_cases hX:X.left=0
  ·simp only [hX,if_true];exact⟨_, .tp [iv 0,iv 8],bwG g s _,fun _ _ h=>h,zS (s:= [0,1,2,3,5]) tA,rfl,rfl⟩
  ·simp only [hX,if_false];exact⟨_, .tp [iv (N:Nat),iv 0],bwG g s _,fun _ _ h=>h,zS (s:= [0,1,2,3,5]) tA,rfl,rfl⟩
theorem Je {g:Geo} {a:An} {n:Nat} (hg:Bq g=true) (ha:Bj g a=true) (hn:(n:Int)=Ar g):∀ w∈AD g a,OW n w:=by
 obtain⟨g1,g2,g3,g4,g5⟩:=Aq.1 hg;have hc:=EE hg;intro w hw;simp only [AD,AQ,AS] at hw;obtain⟨i,hi,rfl⟩:=hw;refine⟨⟨by show (0:Int)<=(i:Nat);omega,by show ((i:Nat):Int)<n;omega⟩,?_⟩;show (Bk (i:Nat) a.gen (KV a)).length<=200;rw [DR];have:=K3 hg ha;omega
def EL (g:Geo) (x:Gt) (addr:Int):Option An:=
 if x.err=0/\Df x.bytes=0/\Cx x.bytes=addr then
  match Fp g (CE x.bytes) with
  | some a=>if a.gen=Cr x.bytes then some a else none
  | none=>none
 else none
theorem G4 (e:Value):∀ (c:Ctx) (v:Value),Rd (.tp [.ag [iv 0,iv 0,iv 0,iv 0,iv 0, .v (.string ⟨#[]⟩), .v (.slice none 0 0)], .v e]) c v->Rd (.tp [.ag (Ek an0), .v e]) c v:=
 BN (m:= [.ag (Ek an0), .v e]) ⟨Bf an0_sub,ri,tv⟩
theorem QS (b:List UInt8):(CE b).length<=b.length:=by simp [CE];omega
theorem ConvH.subBox {H:List AB} (k:Nat) {t:TypeId} {cs cs':List AV} (hk:H[k]? = some (.box t cs)) (h:SubL cs cs'):ConvH H (H.set k (.box t cs')):=fun _ _ c hs=>
 ⟨c,rfl,hs.recell hk rfl fun⟨g,xs,h1,h2,h3,h4⟩=>⟨g,xs,h1,h2,h.rdl h3,h4⟩,zJ c⟩
def zu:=@ConvH.subBox
def P9 (g:Geo) (l:List Gt) (st:Option (An × Nat)) (i:Nat):Option (An × Nat):=
 match EL g (l.getD i ⟨0, []⟩) (i:Nat) with
 | none=>st
 | some b=>match st with
  | none=>some (b,i)
  | some (a,j)=>if a.gen<b.gen then some (b,i) else some (a,j)
def FG (g:Geo) (l:List Gt) (k:Nat):Option (An × Nat):=(List.range k).foldl (P9 g l) none
def H5 (g:Geo) (l:List Gt):Option (An × Nat):=FG g l l.length
theorem IM (g:Geo) (l:List Gt) (k:Nat):FG g l (k+1)=P9 g l (FG g l k) k:=by rw [FG,Bp,BR];try rfl
def be (p:Option (An × Nat)):An:=match p with | some (a,_)=>a | none=>an0
def bo (p:Option (An × Nat)):Nat:=match p with | some (_,i)=>i | none=>0
def SubLL:List (List AV)->List (List AV)->Prop
 | [], []=>True
 | a::r,b::s=>SubL a b/\SubLL r s
 | _,_=>False
theorem SubLL.get:∀ {es fs:List (List AV)} {i:Nat},SubLL es fs->i<es.length->SubL (es.getD i []) (fs.getD i [])
 | [],_,_,_,h=>by simp at h
 | a::r,b::s,0,h,_=>by simpa using h.1
 | a::r,b::s,i+1,h,hi=>by
  have:=SubLL.get (i:=i) h.2 (by simpa using hi);simpa using this
 | _::_, [],_,h,_=>h.elim
theorem NZ {g:Geo} {l:List Tx} {epoch:Int} (hg:Bq g=true) (h:LogOk g l epoch) {copy:Int} (hc:copy=0\/copy=1) {s:Nat} (hs:(s:Int)<g.sl):GF g ((GA g l epoch copy g.sl.toNat).getD s gz) copy (s:Nat)=some (VI g l epoch (s:Nat)):=by
 have f:(0:Int)<=(s:Nat)/\((s:Nat):Int)<g.sl:=by omega
 have e:(GA g l epoch copy g.sl.toNat).getD s gz=⟨0,BF g (VI g l epoch (s:Nat)) copy (s:Nat)⟩:=by
  unfold GA;rw [AY (d:=0) (by rw [BQ];omega)];rw [Ac,Bz (by omega)];try rfl
 rw [e];refine Te hg (h.ok s f) ?_;rw [KN,AE.2 (show 0<=((s:Nat):Int)/\((s:Nat):Int)<=g.sl - 1 by omega)];rcases hc with rfl | rfl <;> rfl
theorem Tf {g:Geo} {x:Gt} {copy s:Int} (h:¬(0<=s/\s<g.sl)):GF g x copy s=none:=by
 refine QT ?_;have:CQ s 0 (g.sl - 1)=false:=by
  rw [<-BM];intro e;have:=AE.1 e;omega
 rw [KN,this];simp
def ao (a:An) (p q:Int->Option Rc) (slot seq at_ of_ left:Int):Rc × List Int × Int:=
 S4 (p slot) (q slot) (TF (p slot) a seq at_ of_ left) (TF (q slot) a seq at_ of_ left)
def Zm (g:Geo) (a:An) (p q:Int->Option Rc) (pos seq left at_ of_:Int):Rc × Int × List Wr:=
 let s:=CX g pos at_;let z:=ao a p q s seq at_ of_ left
 (z.1,z.2.2,z.2.1.map fun c=>⟨Bi g c s,BF g z.1 c s⟩)
def Xs (g:Geo) (a:An) (p q:Int->Option Rc) (pos seq left:Int):Int × Int × List Img × List Wr:=
 let z:=Zm g a p q pos seq left 0 0
 if z.2.1≠1 then (z.2.1,0, [], []) else
  let t:=OC (fun k=>Zm g a p q pos seq left k z.1.of_) (z.1.of_ - 1).toNat 1 z.1 [] z.2.2
  if t.1≠1 then (t.1,0, [], []) else (1,z.1.of_,t.2.1,t.2.2)
def LH (g:Geo) (a:An) (p q:Int->Option Rc):Nat->Int->Int->Int->List Tx->List Wr->Option (List Tx × List Wr × Int)
 | 0,_,seq,_,l,w=>some (l,w,seq)
 | f+1,pos,seq,left,l,w=>
  if 0<left/\seq<=4294967295 then
   let t:=Xs g a p q pos seq left
   if t.1=3 then none else if t.1≠1 then some (l,w,seq)
   else LH g a p q f ((pos+t.2.1).tmod g.sl) (seq+1) (left - t.2.1) (l ++ [⟨seq,pos,t.2.1,t.2.2.1⟩]) (w ++ t.2.2.2)
  else some (l,w,seq)
def Vr (g:Geo) (a:An) (p q:Int->Option Rc):List Tx × List Wr × Int:=Z4 a (LH g a p q g.sl.toNat a.pos a.seq g.sl [] [])
def KF (g:Geo) (x:List Gt) (copy:Int):Int->Option Rc:=fun s=>GF g (x.getD s.toNat gz) copy s
theorem Sj (g:Geo) (a:An) (x y:List Gt):∀ (f:Nat) (pos seq left:Int) (l:List Tx) (w:List Wr),Sl g a x y f pos seq left l w=LH g a (KF g x 0) (KF g y 1) f pos seq left l w
 | 0,_,_,_,_,_=>rfl
 | f+1,pos,seq,left,l,w=>by
  unfold Sl LH;have e:ZY g a x y pos seq left=Xs g a (KF g x 0) (KF g y 1) pos seq left:=rfl;rw [e];simp only [Sj g a x y f]
theorem X7 (g:Geo) (a:An) (x y:List Gt):GE g a x y=Vr g a (KF g x 0) (KF g y 1):=by
 unfold GE Vr;rw [Sj]
def H4 (g:Geo) (l:List Tx) (epoch:Int) (bad:Int->Bool):Int->Option Rc:=fun s=>if 0<=s/\s<g.sl then (if bad s then none else some (VI g l epoch s)) else none
theorem Sm {g:Geo} {l:List Tx} {epoch:Int} (hg:Bq g=true) (h:LogOk g l epoch) {copy:Int} (hc:copy=0\/copy=1):KF g (GA g l epoch copy g.sl.toNat) copy=H4 g l epoch fun _=>false:=by
 funext s;unfold KF H4;by_cases hs:0<=s/\s<g.sl
 ·rw [if_pos hs,if_neg (Bool.false_ne_true)];obtain⟨k,rfl⟩:=Int.eq_ofNat_of_zero_le hs.1;rw [Aa];exact NZ hg h hc hs.2
 ·rw [if_neg hs];exact Tf hs
theorem RdL.split {c:Ctx}:∀ {l m:List AV} {xs:List Value},RdL (l ++ m) c xs->∃ a b,xs=a ++ b/\RdL l c a/\RdL m c b
 | [],m,xs,h=>⟨[],xs,rfl,by simp only [RdL],h⟩
 | x::l,m,xs,h=>by
  simp only [B6,RdL] at h;obtain⟨y,ys,rfl,h1,h2⟩:=h;obtain⟨a,b,rfl,h3,h4⟩:=RdL.split h2;exact⟨y::a,b,rfl,by simp only [RdL];exact⟨y,a,rfl,h1,h3⟩,h4⟩
theorem SubLL.len:∀ {es fs:List (List AV)},SubLL es fs->es.length=fs.length
 | [], [],_=>rfl
 | _::_,_::_,h=>by simp [SubLL.len h.2]
 | [],_::_,h=>h.elim
 | _::_, [],h=>h.elim
theorem SubLL.flat:∀ {es fs:List (List AV)} {c:Ctx} {xs:List Value},SubLL es fs->RdL es.flatten c xs->RdL fs.flatten c xs
 | [], [],_,_,_,h=>h
 | a::r,b::s,c,xs,h,hr=>by
  rw [AI] at hr |-
  obtain⟨x1,x2,rfl,h1,h2⟩:=RdL.split hr;exact RdL.append (h.1.rdl h1) (SubLL.flat h.2 h2)
 | [],_::_,_,_,h,_=>h.elim
 | _::_, [],_,_,h,_=>h.elim
theorem SubLL.sz:∀ {es fs:List (List AV)} {sz:Nat},SubLL es fs->(∀ e∈es,e.length=sz)->∀ e∈fs,e.length=sz
 | [], [],_,_,_=>by simp
 | a::r,b::s,sz,h,hs=>by
  intro e he;rcases Bd.1 he with rfl | he
  ·rw [<-h.1.len];exact hs a (by simp)
  ·exact SubLL.sz h.2 (fun e he=>hs e (Bh _ he)) e he
 | [],_::_,_,h,_=>h.elim
 | _::_, [],_,h,_=>h.elim
def ABSub:AB->AB->Prop
 | .row t sz es, .row t' sz' es'=>t=t'/\sz=sz'/\SubLL es es'
 | x,y=>x=y
def HSub:List AB->List AB->Prop
 | [], []=>True
 | x::r,y::s=>ABSub x y/\HSub r s
 | _,_=>False
theorem HSub.len:∀ {H H':List AB},HSub H H'->H.length=H'.length
 | [], [],_=>rfl
 | _::_,_::_,h=>by simp [HSub.len h.2]
 | [],_::_,h=>h.elim
 | _::_, [],h=>h.elim
theorem HSub.get:∀ {H H':List AB} {k:Nat} {y:AB},HSub H H'->H'[k]? = some y->∃ x,H[k]? = some x/\ABSub x y
 | [], [],k,y,_,h=>by simp at h
 | x::r,y::s,0,z,h,hz=>by
  simp at hz;subst hz;exact⟨x,by simp,h.1⟩
 | x::r,y::s,k+1,z,h,hz=>by
  obtain⟨w,h1,h2⟩:=HSub.get (k:=k) h.2 (by simpa using hz);exact⟨w,by simpa using h1,h2⟩
 | [],_::_,_,_,h,_=>h.elim
 | _::_, [],_,_,_,hz=>by simp at hz
theorem ABSub.live:∀ {x y:AB},ABSub x y->x.live=y.live:=by
 intro x y h;cases x <;> cases y <;> simp only [ABSub] at h <;> first | rfl | cases h
theorem ABSub.blk {c:Ctx} {k:Nat}:∀ {x y:AB},ABSub x y->BlkOk c k x->BlkOk c k y
 | .row t sz es, .row t' sz' es',h,hb=>by
  obtain⟨rfl,rfl,h⟩:=h;obtain⟨h1,h2,h3,xs,h4,h5,h6⟩:=hb;refine⟨h1.trans h.len,h2,h.sz h3,xs,?_,h.flat h5,h6⟩;rw [<-h.len];exact h4
 | .row _ _ _, .box _ _,h,_=>by cases h
 | .row _ _ _, .iter _ _,h,_=>by cases h
 | .row _ _ _, .dead,h,_=>by cases h
 | .row _ _ _, .rowo _ _ _ _,h,_=>by cases h
 | .rowo t sz es m,y,h,hb=>by
  have h:AB.rowo t sz es m=y:=h;subst h;exact hb
 | .box t cs,y,h,hb=>by
  have h:AB.box t cs=y:=h;subst h;exact hb
 | .iter a b,y,h,hb=>by
  have h:AB.iter a b=y:=h;subst h;exact hb
 | .dead,y,h,hb=>by
  have h:AB.dead=y:=h;subst h;exact hb
theorem HS.hsub {w0:Fl} {M0:Ms} {c:Ctx} {H H':List AB} (hs:HS w0 M0 c H) (h:HSub H H'):HS w0 M0 c H':=by
 refine⟨hs.low,hs.base,hs.dom.trans h.len,hs.foreign,hs.lt,fun k y hy=>?_,fun k y g hy hl ho=>?_,fun j k y z g hj hk hy hz ho ho'=>?_⟩
 ·obtain⟨x,h1,h2⟩:=h.get hy;exact h2.blk (hs.blk k x h1)
 ·obtain⟨x,h1,h2⟩:=h.get hy;exact hs.own k x g h1 (h2.live.trans hl) ho
 ·obtain⟨x1,h1,h2⟩:=h.get hj;obtain⟨x2,h3,h4⟩:=h.get hk;exact hs.dis j k x1 x2 g h1 h3 (h2.live.trans hy) (h4.live.trans hz) ho ho'
theorem ACalls.hsub {P:Program} {q:Bool} {f:FuncId} {args:List AV} {H:List AB} {k:AV->List AB->Prop} (H':List AB) (hs:HSub H H') (h:ACalls P q f args H' k):ACalls P q f args H k:=
 ⟨h.go,fun w0 M0 c us hs0 hr=>h.calls w0 M0 c us (hs0.hsub hs) hr⟩
theorem SubLL.refl:∀ l,SubLL l l
 | []=>trivial
 | _::l=>⟨SubL.refl _,SubLL.refl l⟩
theorem SubLL.set {a b:List AV} (h:SubL a b):∀ {l m:List (List AV)} (k:Nat),SubLL l m->SubLL (l.set k a) (m.set k b)
 | [], [],_,h=>h
 | _::_,_::_,0,h2=>⟨h,h2.2⟩
 | _::_,_::_,k+1,h2=>⟨h2.1,SubLL.set h k h2.2⟩
 | [],_::_,_,h=>h.elim
 | _::_, [],_,h=>h.elim
def Zz (g:Geo) (fill:UInt8) (i k:Nat):Img:=
 if (i+k) % 4=3 then ⟨((i+k:Nat):Int).tmod g.z,255,CM (ES g)⟩ else ⟨((i+k:Nat):Int).tmod g.z,((i+2*k:Nat):Int).tmod (g.d+1) - 1, [fill,UInt8.ofNat i,UInt8.ofNat k,1,2,3,4,5]⟩
def ap (g:Geo) (a:An) (fill:UInt8) (i:Nat) (pos:Int) (n:Nat):Tx:=⟨a.seq+i,pos,n+1,(List.range n).map fun k=>Zz g fill i k⟩
theorem SubLL.app {e f:List AV} (h:SubL e f):∀ {a b:List (List AV)},SubLL a b->SubLL (a ++ [e]) (b ++ [f])
 | [], [],_=>⟨h,tv⟩
 | _::_,_::_,h2=>⟨h2.1,SubLL.app h h2.2⟩
 | [],_::_,h=>h.elim
 | _::_, [],h=>h.elim
end
end Go.Proofs.YtpjkcgacjjbikaaGreatDoor.A
namespace Go.Proofs.YtpjkcgacjjbikaaGreatDoor
section

def Qb (b:List UInt8) (k:Nat):List UInt8:=b.modify (k / 8) fun x=>x ^^^ UInt8.ofNat (2 ^ (k % 8))
theorem OF (b:List UInt8) (k:Nat):(Qb b k).length=b.length:=List.length_modify _ _ _
def G2 (p:Nat->Bool) (a:Nat) (b:List UInt8):Nat->List UInt8
 | 0=>b
 | i+1=>if p i&&decide (a+i<8*b.length) then Qb (G2 p a b i) (a+i) else G2 p a b i
theorem JL (p:Nat->Bool) (a:Nat) (b:List UInt8) (i:Nat):(G2 p a b i).length=b.length:=by
 induction i with
 | zero=>rfl
 | succ i ih=>unfold G2;split;rw [OF,ih];exact ih
def fX (bs:Int):Nat:=if (bs % 4294967296).toNat % 2=0 then (bs % 4294967296).toNat+1 else (bs % 4294967296).toNat
theorem YD (bs:Int):fX bs<4294967296:=by unfold fX;split <;> omega
def ND (b:List UInt8) (bit bs:Int):List UInt8:=G2 (fun i=>decide (fX bs / 2 ^ i % 2=1)) (bit % (8*(b.length:Int))).toNat b 32
theorem Hr (b:List UInt8) (bit bs:Int):(ND b bit bs).length=b.length:=JL _ _ _ _
theorem Us (bit bs:Int):ND [] bit bs=[]:=Be (Hr _ _ _)

end
end Go.Proofs.YtpjkcgacjjbikaaGreatDoor
namespace Go.Proofs.YtpjkcgacjjbikaaGreatDoor.A
section
open Go.RowKit
theorem SZ {a n:Int} (hn:0<n):(if a.tmod n<0 then a.tmod n+n else a.tmod n)=a % n:=by
 have b1:=AZ a hn;have b2:=Int.lt_tmod_of_pos a hn;split
 ·have e1:(a.tmod n+n) % n=a % n:=by
   rw [Int.add_emod_right,Int.tmod_eq_emod];split
   ·rw [show ((0:Nat):Int)=0 from rfl,Int.sub_zero,Int.emod_emod_of_dvd _ (Int.dvd_refl n)]
   ·rw [Int.sub_emod,Int.emod_emod_of_dvd _ (Int.dvd_refl n),show (n.natAbs:Int)=n by omega,Int.emod_self,Int.sub_zero,Int.emod_emod_of_dvd _ (Int.dvd_refl n)]
  rw [<-e1,Int.emod_eq_of_lt (by omega) (by omega)]
 ·rename_i hr;have e1:=Int.tmod_eq_emod (a:=a) (b:=n);rw [Int.tmod_eq_emod];split
  ·omega
  ·rename_i hc;rw [if_neg hc] at e1;have:=Int.emod_lt_of_pos a hn;omega
def bR (b:List UInt8):List (List AV):=b.map fun x=> [.v (.int .u8 x.toNat)]
theorem Xe {b:List UInt8} {i:Nat} (h:i<b.length):(bR b).getD i []=[.v (.int .u8 (b.getD i 0).toNat)]:=AY (d:=0) h
theorem ZJ (b:List UInt8) (i:Nat) (y:UInt8):(bR b).set i [.v (.int .u8 y.toNat)]=bR (b.set i y):=by simp [bR,BI]
theorem Xc (b:List UInt8) (c:Ctx) (u:Value) (h:Rd (.sl 1 b.length fun i=>(bR b).getD i []) c u):Rd (bA b) c u:=
 zB rfl (fun _ hi=>AY (d:=0) hi) h
theorem Y0 {b:List UInt8} {n:Nat} (hn:n=b.length) (c:Ctx) (u:Value) (h:Rd (.sl 1 n fun i=>(bR b).getD i []) c u):Rd (bA b) c u:=by
 subst hn;exact Xc b c u h
theorem Xd (b:List UInt8):(List.range b.length).map (fun i=> [AV.v (.int .u8 (b.getD i 0).toNat)])=bR b:=by
 apply List.ext_getElem
 ·simp [bR]
 ·intro i h1 h2;simp only [Ab,BQ] at h1;simp [bR,Ac,Ag h1]
theorem QH (x:UInt8) (z:Nat) (hz:z<256):IntKind.u8.wrap (BitVec.ofInt IntKind.u8.bits (x.toNat:Int) ^^^ BitVec.ofInt IntKind.u8.bits (z:Int)).toNat=((x ^^^ UInt8.ofNat z).toNat:Int):=by
 show IntKind.u8.wrap (BitVec.ofInt 8 (x.toNat:Int) ^^^ BitVec.ofInt 8 (z:Int)).toNat=((x ^^^ UInt8.ofNat z).toNat:Int);have hx:=x.toNat_lt;have h1:(BitVec.ofInt 8 (x.toNat:Int))=BitVec.ofNat 8 x.toNat:=BitVec.ofInt_natCast _ _;have h2:(BitVec.ofInt 8 (z:Int))=BitVec.ofNat 8 z:=BitVec.ofInt_natCast _ _;have h3:x.toNat ^^^ z<256:=Nat.xor_lt_two_pow (n:=8) hx hz;rw [h1,h2,BitVec.toNat_xor,BitVec.toNat_ofNat,BitVec.toNat_ofNat,DU hx,DU hz,UInt8.toNat_xor,B8 hz,IntKind.wrap_u8];omega
theorem Ut (b:List UInt8) (k:Nat) (h:k / 8<b.length):Qb b k=b.set (k / 8) (b.getD (k / 8) 0 ^^^ UInt8.ofNat (2 ^ (k % 8))):=by
 rw [Ac,Ag h];unfold Qb;apply List.ext_getElem?;intro i;rw [List.getElem?_modify,List.getElem?_set];split
 ·subst_vars;simp [h]
 ·simp

structure TxIn (g:Geo) (a:An) (fill:UInt8) (i0:Nat) (l:List Tx):Prop where
 at_:∀ j,j<l.length->∃ pos n,l.getD j tz=ap g a fill (i0+j) pos n/\1<=n/\n<=5/\0<=pos/\pos<g.sl









section
variable {g:Geo} {a:An} {fill:UInt8} {sizes:List Int}
end
section
variable {g:Geo} {a:An} {fill:UInt8} {sizes:List Int}
end
section
variable {g:Geo} {a:An} {fill:UInt8} {sizes:List Int}
end
theorem HZ {g:Geo} {c s:Int} (hc:c=0\/c=1) (hs:0<=s/\s<g.sl):KN g c s=true:=by
 rw [KN,AE.2 (show 0<=s/\s<=g.sl - 1 by omega)];rcases hc with rfl | rfl <;> rfl
theorem C4 {g:Geo} {r:Rc} (h:Gm g r=true) (copy slot:Int):(BF g r copy slot).length<=200:=by
 have:=Er h;rw [BF,DR];omega
section
variable {g:Geo} {a:An} {p q:Int->Option Rc} {p0:Int}
end
theorem Gv (l:List Int) (hl:l.length<=1000000):Fn Tryz.prog 213 [iA l] fun r=>r=iA l:=by
 refine zR Tryz.func213 rfl ?_;refine⟨by omega,?_⟩;refine⟨by simp,?_⟩;exact⟨iA l,fun c v h=>zB rfl (fun i hi=>EI hi) h,rfl⟩
theorem MO (a:An) (hh:a.homes.length<=1000) (hp:∀ h∈a.homes,h.places.length<=1000000):Fn Tryz.prog 211 [.ag (Ek a)] fun r=>r = .ag (Ek a):=by
 refine zR Tryz.func211 rfl ?_;conv=>whnf
 refine zM Nat (fun k=>([(1, .bp 0 0),(2, .bp 1 0),(3,HE a.homes),(4,iv k)], [.box 28 [iv a.gen,iv a.epoch,iv a.pos,iv a.seq,iv a.last, .v (.string a.label), .ow 2 k], .box 28 [iv 0,iv 0,iv 0,iv 0,iv 0, .v (.string ⟨#[]⟩), .v (.slice none 0 0)], .row 108 3 ((a.homes.take k).map DL)])) (fun k=>k<=a.homes.length) (fun k=>a.homes.length - k) 0 (Aj _) ⟨[(1000006,108,3)],tA,tA,tA,rfl,rfl,rfl⟩ ?_;intro k hk;conv=>whnf
 refine A5 (fun c1=>?_) (fun c1=>?_) <;> (repeat rw [Aa] at c1) <;> conv=>whnf
 ·have ti:=Gv (a.homes.getD k ⟨[],0,0⟩).places (hp _ (A3 c1));refine zA tys_ok mixed [0,1,2,3,4,5,6,8,9,10,11,12,13,14,15,16,17,7,18,19,20,21,22] (by kernel_rfl) ?_;conv=>whnf
  repeat' (first | (refine zZ ?_;conv=>whnf) | (refine A5 (fun _=>?_) (fun _=>?_) <;> conv=>whnf) | (refine zY ti ?_;conv=>whnf) | (refine Ad (by first | omega | exact of_decide_eq_true rfl) ?_;conv=>whnf) | fail)
  refine Ad ⟨by rw [Ab,As];omega,by omega⟩ ?_;exact⟨k+1,by omega,by omega, [],tv,⟨rfl,rfl,rfl,AG (by omega),tv⟩,⟨rfl,rfl,congrArg (AB.row _ _) (G6 c1),tv⟩,rfl,rfl,rfl⟩
 ·refine Ad (by rw [Ab,As];omega) ?_;conv=>whnf
  have ek:k=a.homes.length:=by omega
  subst ek;refine⟨.ag (Ek a),Bf ⟨ri,ri,ri,ri,ri,ri,?_,tv⟩,rfl⟩;rw [Aw];exact AU a.homes rfl rfl
theorem Hy {g:Geo} {a:An} (h:Bj g a=true):(0<=a.gen/\a.gen<=4294967295)/\(0<=a.epoch/\a.epoch<=4294967295)/\(1<=a.seq/\a.seq<=4294967295)/\(0<=a.last/\a.last<=4294967295/\a.seq - 1<=a.last)/\(0<=a.pos/\a.pos<g.sl)/\(a.homes.length:Int)=g.z/\∀ x∈a.homes,Ed g x=true:=by
 simp only [Bj,A_,BB,Af,AE,decide_eq_true_eq,Av] at h;obtain⟨⟨q1,q2,q3,q4, -⟩,q5,q6,q7,q8,q9,q10⟩:=h;exact⟨q1,q2,⟨q5,q3.2⟩,⟨q4.1,q4.2,q6⟩,⟨q7.1,by omega⟩,q9,q10⟩
theorem KU {g:Geo} {a:An} (hg:Bq g=true) (h:Bj g a=true):∀ x∈a.homes,x.places.length<=1000000:=by
 obtain⟨h1,h2,h3,h4,h5⟩:=Aq.1 hg;intro x hx;have:=(Hy h).2.2.2.2.2.2 x hx;simp only [Ed,Af,decide_eq_true_eq] at this;omega

def DN (a:An) (n:Nat):An:={ a with gen:=a.gen+1,epoch:=a.epoch+1,last:=a.seq+n - 1 }
theorem PI {g:Geo} {a:An} {n:Nat} (ha:Bj g a=true) (h1:a.gen≠4294967295) (h2:a.epoch≠4294967295) (h3:a.seq+n - 1<=4294967295):Bj g (DN a n)=true:=by
 have hp:=Hy ha;simp only [Bj,A_,BB,Af,AE,decide_eq_true_eq] at ha;simp only [Bj,A_,BB,Af,AE,decide_eq_true_eq];obtain⟨⟨q1,q2,q3,q4,q11⟩,q5,q6,q7,q8,q9,q10⟩:=ha;refine⟨⟨?_,?_,q3,?_,q11⟩,q5,?_,q7,q8,q9,q10⟩
 ·show 0<=a.gen+1/\a.gen+1<=4294967295;omega
 ·show 0<=a.epoch+1/\a.epoch+1<=4294967295;omega
 ·show 0<=a.seq+n - 1/\a.seq+n - 1<=4294967295;omega
 ·show a.seq - 1<=a.seq+n - 1;omega
def AF (a:An) (t:List Tx):Stt:=⟨a,t,false,0,0,0,0, []⟩
def O6 (g:Geo) (a:An) (t:List Tx) (d:Dk):Dk × Int × Stt:=
 if a.gen=4294967295\/a.epoch=4294967295 then (d,14,st0) else
 let q:=d.putAll (AD g (DN a t.length))
 if q.2.2 then (q.1,8,st0) else if q.2.1=0 then (q.1,14,st0) else (q.1,0,AF (DN a t.length) t)
def O7 (g:Geo) (a:An) (q:List Tx × List Wr × Int) (d:Dk):Dk × Int × Stt:=
 if q.2.2≠0 then (d,q.2.2,st0) else
 if (d.mend q.2.1).2 then ((d.mend q.2.1).1,8,st0) else O6 g a q.1 (d.mend q.2.1).1
def Kj (g:Geo) (a:An) (d:Dk):Dk × Int × Stt:=
 if d.live (2*g.sl.toNat) then O7 g a (GE g a (BA d (BU g 0)) (BA d (BU g 1))) (d.adv (2*g.sl.toNat)) else (d.adv (2*g.sl.toNat),8,st0)
def DK (g:Geo) (d:Dk):Dk × Int × Stt:=
 if d.live g.an.toNat then
  match H5 g (BA d (DT g)) with
  | none=>(d.adv g.an.toNat,11,st0)
  | some (a,_)=>Kj g a (d.adv g.an.toNat)
 else (d.adv g.an.toNat,8,st0)
theorem Vs {g:Geo} {x:Gt} {i:Int} {a:An} (hg:Bq g=true) (h:EL g x i=some a):Bj g a=true:=by
 unfold EL at h;split at h
 ·cases hR:Fp g (CE x.bytes) with
  | none=>rw [hR] at h;cases h
  | some b=>
   rw [hR] at h;simp only at h;split at h
   ·cases h;exact(Rj hg hR).1
   ·cases h
 ·cases h
theorem Lm {g:Geo} {l:List Gt} (hg:Bq g=true):∀ (k:Nat) {a:An} {j:Nat},FG g l k=some (a,j)->Bj g a=true
 | 0,a,j,h=>by cases h
 | k+1,a,j,h=>by
  rw [IM,P9] at h;cases hS:EL g (l.getD k ⟨0, []⟩) (k:Nat) with
  | none=>rw [hS] at h;exact Lm hg k h
  | some b=>
   have hb:=Vs hg hS;rw [hS] at h;cases hP:FG g l k with
   | none=>rw [hP] at h;cases h;exact hb
   | some q=>
    obtain⟨c,i⟩:=q;rw [hP] at h;simp only at h;split at h
    ·grind
    ·cases h;exact Lm hg k hP
theorem PX {d:Dk} (h:DkOk d) (l:List Int):∀ x∈BA d l,x.bytes.length<=100000:=by
 intro x hx;simp only [BA,AQ] at hx;obtain⟨a,_,rfl⟩:=hx;have:=Um h a;show (d.got a).1.length<=_;omega
theorem Zy {m:Nat} {i:Nat} (hi:Nat.blt i m=true) (h:Nat.ble 3 m=true):∀ z∈ [0,1,2,i],z<m:=fun z hz=>by
 have:=Ae h;have:=Ae hi;simp at hz;omega
theorem ACalls.pre {P:Program} {q:Bool} {f:FuncId} {args:List AV} {H H':List AB} {K:AV->List AB->Prop} (h:ConvH H H') (k:ACalls P q f args H' K):ACalls P q f args H K:=by
 refine⟨k.go,fun w0 M0 c us hs hr=>?_⟩;obtain⟨c1,e1,s1,x1⟩:=h w0 M0 c hs;have:=k.calls w0 M0 c1 us s1 (RdL.ext _ x1 hr);rw [e1] at this;refine this.mono ?_;rintro e w' ⟨v,c',r,H2,rfl,rfl,q1,q2,q3,q4,q5⟩;exact⟨v,c',r,H2,rfl,rfl,q1,q2,x1.trans q3,q4,q5⟩
def zf:=@ACalls.pre
theorem LE {es:List (List AV)} {i m:Nat} {e:List AV} (h:∀ x∈es,AV.ltL x 0=true) (he:AV.ltL e m=true):AV.ltL (es.set i e).flatten m=true:=by
 rw [Dx];intro x hx;obtain⟨y,hy,f⟩:=List.mem_flatten.1 hx;rcases Cu hy with hy | rfl
 ·exact AV.lt_mono x (Aj _) (Dx.1 (h y hy) x f)
 ·exact Dx.1 he x f
theorem It {es:List (List AV)} {i:Nat} {e:List AV} {f:Nat->Nat} (h:∀ x∈es,AV.ltL x 0=true) (he:AV.renL f e=e):(es.set i e).map (AV.renL f)=es.set i e:=by
 rw [BI,he];congr 1;conv=>rhs;rw [<-List.map_id es]
 refine CJ fun x hx=>?_
 exact AV.renL_id x (h x hx)
theorem Vh (l:List Tx):∀ x∈l.map CG,AV.ltL x 0=true:=by
 intro x hx;obtain⟨t,_,rfl⟩:=AQ.1 hx;rfl
def UV (t:Tx) (k:Nat):List AV:= [iv t.seq,iv t.pos,iv t.n, .ow k t.images.length]
theorem Xz {k n:Nat} {s:AV} (l:List Tx):(l.map CG).map (List.map (AV.slIn k n s))=l.map CG:=by
 rw [List.map_map];exact CJ fun t _=>rfl
theorem Vp (l:List Tx) (k:Nat) (t:Tx) (s:AV):((l.map CG).set k (UV t 1)).map (List.map (AV.slIn 1 (t.images.map Dz).length s))=(l.map CG).set k [iv t.seq,iv t.pos,iv t.n,s]:=by
 rw [BI,Xz];congr 1;simp [UV,AV.slIn]
theorem Np {l:List Tx} {k:Nat} {t:Tx} (hk:k<l.length) (ht:t=l.getD k ⟨0,0,0, []⟩):ConvH [.rowo 170 4 ((l.map CG).set k (UV t 1)) 2, .row 139 3 (t.images.map Dz)] [.row 170 4 (l.map CG), .dead]:=by
 refine(ConvH.sealIn (H:= [.rowo 170 4 ((l.map CG).set k (UV t 1)) 2, .row 139 3 (t.images.map Dz)]) 0 1 rfl rfl (Vp l k t _)).trans ?_;refine(ConvH.row (k:=0) rfl (LE (Vh l) rfl)).trans ?_;refine zD (k:=0) (es':=l.map CG) rfl (by simp) fun i=>?_
 refine EZ (f:=CG) (d:=(⟨0,0,0, []⟩:Tx)) hk ?_ i;rw [<-ht];exact⟨fun _ _ h=>h,fun _ _ h=>h,fun _ _ h=>h,AU (f:=Dz) t.images (Ab _) rfl,tv⟩
theorem Sx (l:List Tx) (hl:l.length<=1000000) (hi:∀ t∈l,t.images.length<=1000000/\∀ x∈t.images,x.bytes.length<=1000000000):Fn Tryz.prog 82 [CS l] fun r=>r=CS l:=by
 have hc:=JZ l (by omega);refine zR Tryz.func82 rfl ?_;conv=>whnf
 refine zW hc rfl ?_;rintro _ _ ⟨rfl,rfl⟩;conv=>whnf
 refine zU Nat (fun k=>([(0, .ow 0 l.length),(9,iv l.length),(10,iv k)], [.row 170 4 (l.map CG)])) (fun k=>k<=l.length) (fun k=>l.length - k) 0 (Aj _)
  (zS (s:= [0]) tA) ?_
 intro k hk;conv=>whnf
 refine A5 (fun h6=>?_) (fun h6=>?_) <;> (repeat rw [Aa] at h6) <;> conv=>whnf
 ·have u:k<l.length:=by omega
  have hm:=hi _ (A3 (d:=(⟨0,0,0, []⟩:Tx)) u);have hE:(l.map CG).getD (k:Int).toNat []=CG (l.getD k ⟨0,0,0, []⟩):=by rw [Aa];exact AY u
  have ho:=N4 (l.getD k ⟨0,0,0, []⟩).images (by omega);repeat' (refine zZ ?_;conv=>whnf)
  refine⟨⟨by omega,by omega⟩,?_⟩;conv=>whnf
  refine Ad ⟨rfl,(Ab _).symm,by rw [Aa];exact u⟩ ?_;conv=>whnf
  rw [hE];conv=>whnf
  refine zf (ConvH.rowo (k:=0) rfl) ?_;refine zW ho rfl ?_;rintro _ _ ⟨rfl,rfl⟩;refine⟨⟨by omega,by omega⟩,?_⟩;conv=>whnf
  refine Ad ⟨rfl,(Ab _).symm,by rw [Aa];exact u⟩ ?_;conv=>whnf
  rw [hE];refine⟨⟨by omega,by omega⟩,?_⟩;conv=>whnf
  refine Ad ⟨rfl,by rw [AX,Ab],by rw [Aa];exact u⟩ ?_;conv=>whnf
  rw [Bu (by rw [Aa,Ab];exact u)];conv=>whnf
  obtain⟨t,ht⟩:∃ t,t=l.getD k ⟨0,0,0, []⟩:=⟨_,rfl⟩;rw [<-ht] at hm hE |-
  have hS:∀ x∈l.map CG,AV.ltL x 0=true:=Vh l;have C:AV.ltL ((l.map CG).set k (UV t 1)).flatten 2=true:=LE hS rfl;refine zU Nat (fun j=>([(0, .ow 0 l.length),(3,iv k),(9,iv l.length),(10,iv k),(27, .ow 1 t.images.length),(28,iv t.images.length),(29,iv j)], [.rowo 170 4 ((l.map CG).set k (UV t 1)) 2, .row 139 3 (t.images.map Dz)])) (fun j=>j<=t.images.length) (fun j=>t.images.length - j) 0 (Aj _)
   (zS (s:= [0,1]) ⟨tA,⟨⟨C,_,by rw [It hS rfl];try rfl⟩,rfl,tv⟩,rfl,rfl,rfl,rfl,rfl⟩) ?_
  intro j hj;conv=>whnf
  refine A5 (fun h7=>?_) (fun h7=>?_) <;> (repeat rw [Aa] at h7) <;> conv=>whnf
  ·have z:j<t.images.length:=by omega
   have hF:(t.images.map Dz).getD (j:Int).toNat []=Dz (t.images.getD j ⟨0,0, []⟩):=by rw [Aa];exact AY z
   have hG:((l.map CG).set k (UV t 1)).getD (k:Int).toNat []=UV t 1:=by rw [Aa];exact Bu (by rw [Ab];exact u)
   have b1:=BL (t.images.getD j ⟨0,0, []⟩).bytes (hm.2 _ (A3 z));refine⟨⟨by omega,by omega⟩,?_⟩;conv=>whnf
   refine Ad ⟨rfl,(Ab _).symm,by rw [Aa];exact z⟩ ?_;conv=>whnf
   rw [hF];conv=>whnf
   apply zX (0) tys_ok mixed (.o [0,1,2,3,4,5,6,7,8,9,10,11] .fin) (by kernel_rfl);conv=>whnf
   try (refine tI ?_;conv=>whnf)
   try (first | (refine Ad ⟨rfl,by rw [AX,Ab],by rw [Aa];exact u⟩ ?_;(conv=>whnf);rw [hG]) | skip;conv=>whnf)
   try (first | (refine Ad ⟨rfl,by rw [AX,Ab],by rw [Aa];exact u⟩ ?_;(conv=>whnf);rw [hG]) | skip;conv=>whnf)
   refine zY b1 ?_;conv=>whnf
   try (refine tI ?_;conv=>whnf)
   try (refine tS ?_;conv=>whnf)
   (first | rw [hF] | skip)
   conv=>whnf
   all_goals refine⟨j+1,z,by omega,zI (zL (zD (k:=1) rfl (es':=t.images.map Dz) (by simp) ?_)) (s:= [0,1]) ⟨⟨rfl,rfl,rfl,rfl,rfl,rfl,AG (by omega),tv⟩,⟨⟨C,_,by rw [It hS rfl];try rfl⟩,rfl,tv⟩,rfl,rfl,rfl,rfl,rfl⟩⟩
   all_goals
    intro i;rw [Aa];refine EZ (f:=Dz) (d:=(⟨0,0, []⟩:Img)) z ?_ i;exact⟨fun _ _ h=>h,fun _ _ h=>h,fun _ _ h=>h,tv⟩
  ·exact⟨k+1,u,by omega,zI (zL (Np u ht)) (s:= [0]) ⟨⟨rfl,rfl,AG (by omega),tv⟩,tA,rfl,rfl,rfl,rfl,rfl⟩⟩
 ·refine Ad (Ab _).symm ?_;exact⟨CS l,AU (f:=CG) l rfl rfl,rfl⟩
structure StSm (s:Stt):Prop where
 h:s.a.homes.length<=4/\∀ h∈s.a.homes,h.places.length<=1000000
 l:s.a.label.size<=24
 t:s.txns.length<=30/\∀ t∈s.txns,t.images.length<=30/\∀ i∈t.images,i.bytes.length<=59
 o:s.lost.length<=1000000
theorem st0_sm:StSm st0:=⟨⟨by simp [st0,an0],by simp [st0,an0]⟩,by show (0:Nat)<=24;omega,⟨by simp [st0],by simp [st0]⟩,by simp [st0]⟩
theorem GS (s:Stt) (h:StSm s):Fn Tryz.prog 37 [.ag (Eo s)] fun r=>r = .ag (Eo s):=by
 have c1:=Q5 s.a (by have:=h.h.1;omega) h.h.2;have c2:=Sx s.txns (by have:=h.t.1;omega) (fun t ht=>⟨by have:=(h.t.2 t ht).1;omega,fun x hx=>by have:=(h.t.2 t ht).2 x hx;omega⟩);have c3:=JF s.lost (by have:=h.o;omega);refine zR Tryz.func37 rfl ?_;conv=>whnf
 apply zX (0) tys_ok mixed (.o [0,1,3,4,6,7,8,2,10,5,9,11,12,13,14,15,16] .fin) (by kernel_rfl);conv=>whnf
 refine zY c1 ?_;conv=>whnf
 refine zY c2 ?_;conv=>whnf
 (refine zW c3 rfl ?_;rintro _ _ ⟨rfl,rfl⟩)
 conv=>whnf
 try (refine tS ?_;conv=>whnf)
 try (refine tS ?_;conv=>whnf)
 try (refine tS ?_;conv=>whnf)
 refine Ad (Ab _).symm ?_;exact⟨.ag (Eo s),Bf ⟨ri,ri,ri,ri,ri,ri,ri,ri,ri,ri,ri,ri,ri,S6 rfl rfl,tv⟩,rfl⟩
@[reducible] def bwD (g:Geo) (s:Stt) (d:Dk):List AB:= [.box 99 (Yz g (.bp 1 0) s), .box 119 (Gp (.ow 2 d.cells.length) (.ow 4 d.cache.length) d.reqs d.left), .dead, .dead, .dead]
theorem GU (g:Geo) (s:Stt) (d:Dk) (h:DkOk d):ACalls Tryz.prog false 38 [.bp 0 0] (bwG g s d) fun r H=>r = .ag (DV d)/\H=bwD g s d:=by
 have ht:=Qk d (by have:=h.n;omega) (by have:=h.m;omega) (fun c hc=>by have:=(h.c c hc).2;omega) (fun w hw=>by have:=(h.w w hw).2;omega);refine zT tys_ok Tryz.func38 rfl rfl (Ae rfl) ?_;conv=>whnf
 refine zO ht.go ?_;refine Ad (Ab _).symm ?_;refine Ad (Ab _).symm ?_;conv=>whnf
 refine zV [.ag (DV d)] ⟨Bf ⟨AU (f:=B4) d.cells rfl rfl,AU (f:=Ei) d.cache rfl rfl,ri,ri,tv⟩,tv⟩ ?_;refine zY ht ?_;exact⟨_, .ag (DV d),bwD g s d,fun _ _ h=>h,zS (s:= [0,1,2,3,4]) tA,rfl,rfl⟩
theorem Vq (g:Geo) (d:Dk) (hg:Bq g=true) (h1:d.cells.length<=1000000) (h2:d.cache.length<=1000000):Fn Tryz.prog 139 [.ag (AK g), .ag (DV d)] fun r=>r = .v (.bool (MQ d&&decide ((d.cells.length:Int)=Ar g))):=by
 have c1:=Uq g hg;have c2:=NN d h1 h2;refine zR Tryz.func139 rfl ?_;conv=>whnf
 refine zY c1 ?_;conv=>whnf
 refine zY c2 ?_;conv=>whnf
 cases hk:MQ d with
 | false=>
  exact⟨_,ri,rfl⟩
 | true=>
  exact⟨_,ri,rfl⟩
def dk0:Dk:=⟨[], [],0,0⟩
def ze (n:Int):AV:= iv n
def nilV:AV:= .v (.slice none 0 0)
theorem st0_sub:SubL [ze 0,ze 0,ze 0,ze 0,ze 0, .v (.string ⟨#[]⟩),nilV,nilV, .v (.bool false),ze 0,ze 0,ze 0,ze 0,nilV] (Eo st0):=
 ⟨fun _ _ h=>h,fun _ _ h=>h,fun _ _ h=>h,fun _ _ h=>h,fun _ _ h=>h,fun _ _ h=>h,Bg 3 _,Bg 4 _,fun _ _ h=>h,fun _ _ h=>h,fun _ _ h=>h,fun _ _ h=>h,fun _ _ h=>h,Bg 1 _,tv⟩
theorem dk0_sub:SubL [nilV,nilV,ze 0,ze 0] (DV dk0):=⟨Bg 3 _,Bg 2 _,ri,ri,tv⟩
theorem Ry {g:Geo} {d:Dk} (h:(DK g d).2.1≠0):(DK g d).2.2=st0:=by
 unfold DK at h |-
 split
 ·rename_i hl;rw [if_pos hl] at h;split
  ·rfl
  ·rename_i a j hp;rw [hp] at h;simp only at h;unfold Kj at h |-
   split
   ·rename_i hl2;rw [if_pos hl2] at h;unfold O7 at h |-
    split
    ·rfl
    ·rename_i h3;rw [if_neg h3] at h;split
     ·rfl
     ·rename_i h4;rw [if_neg h4] at h;unfold O6 at h |-
      split
      ·rfl
      ·rename_i h5;rw [if_neg h5] at h;simp only at h |-
       split
       ·rfl
       ·rename_i h6;rw [if_neg h6] at h;split
        ·rfl
        ·rename_i h7;rw [if_neg h7] at h;exact absurd rfl h
   ·rfl
 ·rfl
theorem ConvF.cap {fr:Fr} {H H':List AB} (i k:Nat) {y:AV} (hx:fget fr i = .bp k 0) (h:capK [.bp k 0] H fun l H2=>l=[y]/\H2=H'):ConvF fr H ((i,y)::fr) H':=fun _ _ c _ a hs hf=>by
 have hr:RdL [.bp k 0] c [a.tmps.getD i undef]:=by
  simp only [RdL];exact⟨_,_,rfl,hx ▸ hf.get i,rfl⟩
 obtain⟨l',H1,c1,⟨rfl,rfl⟩,e1,s1,x1,r⟩:=capK_sound hs hr h;simp only [RdL] at r;obtain⟨u,us,e,r1,rfl⟩:=r;injection e with e _
 subst e;exact⟨c1,e1,s1,(hf.ext x1).cons i _ r1,x1⟩
def C0 (g:Geo):List Tx->Int->Int->Int->Bool
 | [],_,_,_=>true
 | t::r,seq,pos,left=>(decide (t.seq=seq)&&(decide (t.seq<=4294967295)&&(decide (t.pos=pos)&&(decide (2<=t.n)&&(decide (t.n<=left)&&(decide (t.n=t.images.length+1)&&t.images.all (Bn g)))))))&&C0 g r (seq+1) ((pos+t.n).tmod g.sl) (left - t.n)
theorem VD (g:Geo) (x:Img) (hx:x.bytes.length<=100000):Fn Tryz.prog 224 [.ag (Dz x), .rp (AK g)] fun r=>r = .v (.bool (!Bn g x)):=by
 have h:=Kq g x hx;refine zR Tryz.func224 rfl ?_;conv=>whnf
 refine zY h ?_;conv=>whnf
 cases Bn g x with
 | true=>exact⟨_,ri,rfl⟩
 | false=>exact⟨_,ri,rfl⟩
theorem Zk (l:List Img) (g:Geo) (hb:∀ x∈l,x.bytes.length<=100000) (hl:l.length<=1000000):Fn Tryz.prog 305 [D2 l, .fn 224 [.rp (AK g)]] fun r=>r = iv (UX (fun x=>!Bn g x) l):=by
 refine zR Tryz.func305 rfl ?_;conv=>whnf
 refine zM Nat (fun k=>([(0,D2 l),(1, .fn 224 [.rp (AK g)]),(7,iv l.length),(8,iv k)], [])) (fun k=>k<=l.length/\(l.take k).any (fun x=>!Bn g x)=false) (fun k=>l.length - k) 0 ⟨Aj _,by simp⟩ ⟨[],tv,tA,tv,rfl,rfl,rfl⟩ ?_;rintro k ⟨hk,hI⟩;conv=>whnf
 refine Am (fun h2=>?_) (fun h2=>?_) <;> simp at h2 <;> conv=>whnf
 ·refine⟨by first | omega | (refine⟨rfl,?_,?_⟩ <;> first | omega | (simp only [Ab];done) | (simp only [Ab];omega)) | (simp only [Ab];omega),?_⟩;conv=>whnf
  refine zH (VD g (l.getD k ⟨0,0, []⟩) (hb _ (A3 h2))) rfl ?_;rintro _ rfl;conv=>whnf
  refine Am (fun h3=>?_) (fun h3=>?_) <;> conv=>whnf
  ·exact⟨_,ri,by rw [I1 (d:=⟨0,0, []⟩) h2 hI (by first | exact h3 | (rw [Aa] at h3;exact h3) | simpa using h3)]⟩
  ·refine⟨k+1,⟨by omega,Ej (d:=⟨0,0, []⟩) h2 hI (by first | exact h3 | (rw [Aa] at h3;exact h3) | simpa using h3)⟩,by omega, [],tv,⟨rfl,rfl,rfl,AG (by omega),tv⟩,tv,rfl,rfl,rfl⟩
 ·exact⟨_,ri,by rw [A4 h2] at hI;rw [GM hI]⟩
theorem Zl (l:List Img) (g:Geo) (hb:∀ x∈l,x.bytes.length<=100000) (hl:l.length<=1000000):Fn Tryz.prog 225 [D2 l, .fn 224 [.rp (AK g)]] fun r=>r = .v (.bool (l.any (fun x=>!Bn g x))):=by
 refine zR Tryz.func225 rfl ?_;conv=>whnf
 refine zY (Zk l g hb hl) ?_;exact⟨_,ri,by rw [Kp]⟩

theorem J2 (g:Geo) (a:An) (l:List Tx) (hl:a.label.size<=1000000) (hh:a.homes.length<=1000000) (hn:l.length<=1000000) (hi:∀ t∈l,t.images.length<=1000000/\∀ x∈t.images,x.bytes.length<=100000):Fn Tryz.prog 140 [.ag (AK g), .ag (Ek a),CS l] fun r=>r = .v (F1 ((Bq g&&Bj g a)&&C0 g l a.seq a.pos g.sl)):=by
 have hA:=K4 g a hl hh;cases j:Bq g&&Bj g a with
 | false=>
  rw [j] at hA;rw [Db];refine zR Tryz.func140 rfl ?_;conv=>whnf
  refine zY hA ?_;exact⟨_,ri,rfl⟩
 | true=>
  rw [j] at hA;rw [BW];obtain⟨hg,ha⟩:=Bool.and_eq_true_iff.1 j;obtain⟨g1,g2,g3,g4,g5⟩:=Aq.1 hg;have hp:=Hy ha;refine zR Tryz.func140 rfl ?_;conv=>whnf
  refine zY hA ?_;conv=>whnf
  refine zF tys_ok mixed (by kernel_rfl) ?_;conv=>whnf
  refine zU (Nat × Int × Int × Int) (fun x=>([(2,CS l),(3, .rp (AK g)),(8,iv x.2.1),(9,iv x.2.2.1),(10,iv x.2.2.2),(26,CS l),(27,iv l.length),(28,iv x.1)], []))
   (fun x=>x.1<=l.length/\(0<=x.2.1/\x.2.1<g.sl)/\(0<=x.2.2.1/\x.2.2.1<=4294967296)/\(0<=x.2.2.2/\x.2.2.2<=30)/\C0 g l a.seq a.pos g.sl=C0 g (l.drop x.1) x.2.2.1 x.2.1 x.2.2.2) (fun x=>l.length - x.1) (0,a.pos,a.seq,g.sl) ⟨Aj _,by show 0<=a.pos/\a.pos<g.sl;omega,by show 0<=a.seq/\a.seq<=4294967296;omega,by show 0<=g.sl/\g.sl<=30;omega,rfl⟩
   ?_ ?_
  ·exact zI (ConvF.cap 3 0 (y:= .rp (AK g)) rfl (by (conv=>whnf);exact tA)) (s:= []) tA
  rintro⟨k,pos,seq,left⟩ ⟨hk,b1,b2,b3,hI⟩;simp only at hk b1 b2 b3 hI |-
  conv=>whnf
  refine A5 (fun h6=>?_) (fun h6=>?_) <;> (repeat rw [Aa] at h6) <;> conv=>whnf
  ·have i:k<l.length:=by omega
   have hm:=hi _ (A3 (d:=(⟨0,0,0, []⟩:Tx)) i);have u:l.drop k=l.getD k ⟨0,0,0, []⟩::l.drop (k+1):=by
    rw [Ac,Ag i];exact Bt i
   rw [u,C0] at hI;repeat' (refine zZ ?_;conv=>whnf)
   refine⟨⟨by omega,by omega⟩,?_⟩;conv=>whnf
   rw [Aa];generalize l.getD k ⟨0,0,0, []⟩=t at hm hI |-
   have f:=Zl t.images g hm.2 hm.1;rw [show (t.images.any fun x=>!Bn g x) = !t.images.all (Bn g) by rw [Ck,Bool.not_not]] at f;have wn:IntKind.i64.wrap ((t.images.length:Int)+1)=t.images.length+1:=wi (by omega);generalize z:t.images.all (Bn g)=Q at f hI;generalize hC:(decide (t.seq=seq)&&(decide (t.seq<=4294967295)&&(decide (t.pos=pos)&&(decide (2<=t.n)&&(decide (t.n<=left)&&(decide (t.n=t.images.length+1)&&Q))))))=C at hI;clear z hm hi u hA;conv=>whnf
   repeat' (refine zZ ?_;conv=>whnf)
   repeat' (first | (refine Am (fun h=>?_) (fun h=>?_) <;> (try simp at h) <;> conv=>whnf) | (refine zZ ?_;conv=>whnf) | (refine zY f ?_;conv=>whnf))
   all_goals try (exact⟨_,ri,by rw [hI,show C=false by (rw [<-hC,<-BM];clear hI hC f;simp [*] <;> omega)];try rfl⟩)
   have I:C=true:=by rw [<-hC];clear hI hC f;simp [*] <;> omega
   rw [I,BW] at hI;have wn':t.n=t.images.length+1:=by omega
   have w1:IntKind.i64.wrap (pos+t.n)=pos+t.n:=wi (by omega);have w2:IntKind.i64.wrap (seq+1)=seq+1:=wi (by omega);have w3:IntKind.i64.wrap (left - t.n)=left - t.n:=wi (by omega);apply zX (0) tys_ok mixed (.o [0,1,2,3,4,5,6,7,8,9,10,11,12,13,14,15] .fin) (by kernel_rfl);conv=>whnf
   try (refine tI ?_;conv=>whnf)
   rw [w1,w2,w3];have G:=Bw g.sl (show 0<=pos+t.n by omega);have F:=AZ (pos+t.n) (show 0<g.sl by omega);exact⟨(k+1,(pos+t.n).tmod g.sl,seq+1,left - t.n),⟨i,⟨G,F⟩,(show 0<=seq+1/\seq+1<=4294967296 by omega),(show 0<=left - t.n/\left - t.n<=30 by omega),hI⟩,(show l.length - (k+1)<l.length - k by omega),zS (s:= []) ⟨⟨rfl,rfl,rfl,rfl,rfl,rfl,rfl,AG (by omega),tv⟩,tv,rfl,rfl,rfl,rfl,rfl⟩⟩
  ·have ek:k=l.length:=by omega
   subst ek;exact⟨_,ri,by rw [hI,List.drop_length];try rfl⟩
def G5 (g:Geo):Int:=1+g.sl+g.z*(2+g.d)
theorem L4 {g:Geo} (hg:Bq g=true):18<=G5 g/\G5 g<=55/\(3<=g.z*(2+g.d)/\g.z*(2+g.d)<=24):=by
 obtain⟨g1,g2,g3,g4,g5⟩:=Aq.1 hg;have h1:g.z*(2+g.d)<=4*6:=Int.mul_le_mul (by omega) (by omega) (by omega) (by omega);have h2:1*3<=g.z*(2+g.d):=Int.mul_le_mul (by omega) (by omega) (by omega) (by omega);unfold G5;omega
theorem Ve (g:Geo) (hg:Bq g=true):Fn Tryz.prog 141 [.ag (AK g)] fun r=>r = iv (G5 g):=by
 obtain⟨g1,g2,g3,g4,g5⟩:=Aq.1 hg;have hu:=L4 hg;have w:IntKind.i64.wrap (IntKind.i64.wrap (1+g.sl)+IntKind.i64.wrap (g.z*IntKind.i64.wrap (2+g.d)))=G5 g:=by
  rw [wi (n:=2+g.d) (by omega),wi (n:=g.z*(2+g.d)) (by omega),wi (n:=1+g.sl) (by omega)];exact wi (by unfold G5 at hu;omega)
 refine zR Tryz.func141 rfl ?_;exact⟨_,ri,by rw [w]⟩
def Mg (n:Int) (l:List Int) (i:Nat):Bool:=decide (0<=l.getD i 0)&&(decide (l.getD i 0<n)&&(decide (i=0) || decide (l.getD (i - 1) 0<l.getD i 0)))
def Mh (n:Int) (l:List Int):Bool:=(List.range l.length).all (Mg n l)
theorem TJ {n:Int} {l:List Int} {k:Nat} (h:(List.range k).all (Mg n l)=true) (e:Mg n l k=true):(List.range (k+1)).all (Mg n l)=true:=by
 rw [Bp,Dl,h,BW,A_,e];try rfl
theorem XZ {n:Int} {l:List Int} {k:Nat} (hk:k<l.length) (e:Mg n l k=false):Mh n l=false:=by
 rw [Mh,<-BM,Av];intro h;rw [h k (AS.2 hk)] at e;cases e
def Eu (g:Geo) (s:Stt):Bool:=Mh (g.z*g.d) s.lost&&(decide (0<=s.found)&&(decide (0<=s.fixed)&&decide (0<=s.moved)))
def bj (s:Stt):List AV:= [iv s.found,iv s.fixed,iv s.moved,iA s.lost]
theorem RP (g:Geo) (s:Stt) (hg:Bq g=true) (hl:s.lost.length<=1000000):Fn Tryz.prog 142 [.ag (AK g), .ag (bj s)] fun r=>r = .v (.bool (Eu g s)):=by
 obtain⟨g1,g2,g3,g4,g5⟩:=Aq.1 hg;have C:g.z*g.d<=4*4:=Int.mul_le_mul (by omega) (by omega) (by omega) (by omega);have F:0<=g.z*g.d:=Da (by omega) (by omega);have wm:IntKind.i64.wrap (g.z*g.d)=g.z*g.d:=wi (by omega);refine zR Tryz.func142 rfl ?_;conv=>whnf
 refine zU Nat (fun k=>([(2, .bp 0 0),(3, .bp 1 0),(8,iA s.lost),(9,iv s.lost.length),(10,iv k)], [.box 24 (AK g), .box 32 (bj s)])) (fun k=>k<=s.lost.length/\(List.range k).all (Mg (g.z*g.d) s.lost)=true) (fun k=>s.lost.length - k) 0 ⟨Aj _,rfl⟩
  (zS (s:= [0,1]) tA) ?_
 rintro k ⟨hk,hI⟩;conv=>whnf
 refine A5 (fun h6=>?_) (fun h6=>?_) <;> (repeat rw [Aa] at h6) <;> conv=>whnf
 ·have j:k<s.lost.length:=by omega
  have i:=XZ (n:=g.z*g.d) j;have f:=TJ hI (n:=g.z*g.d) (l:=s.lost);unfold Mg at i f;repeat' (refine zZ ?_;conv=>whnf)
  refine⟨⟨by omega,by omega⟩,?_⟩;conv=>whnf
  repeat' (refine zZ ?_;conv=>whnf)
  rw [Aa];refine A5 (fun q1=>?_) (fun q1=>?_)
  ·conv=>whnf
   exact⟨_,ri,by rw [Eu,i (by rw [<-BM];simp only [Af,CK,decide_eq_true_eq];omega),Db]⟩
  ·conv=>whnf
   rw [wm];refine A5 (fun q2=>?_) (fun q2=>?_)
   ·conv=>whnf
    exact⟨_,ri,by rw [Eu,i (by rw [<-BM];simp only [Af,CK,decide_eq_true_eq];omega),Db]⟩
   ·conv=>whnf
    have wk:IntKind.i64.wrap ((k:Int) - 1)=(k:Int) - 1:=wi (by omega);refine A5 (fun q3=>?_) (fun q3=>?_)
    ·conv=>whnf
     rw [wk];refine⟨⟨by omega,by omega⟩,?_⟩;conv=>whnf
     rw [show ((k:Int) - 1).toNat=k - 1 by omega];refine A5 (fun q4=>?_) (fun q4=>?_)
     ·conv=>whnf
      exact⟨_,ri,by rw [Eu,i (by rw [<-BM];simp only [Af,CK,decide_eq_true_eq];omega),Db]⟩
     ·conv=>whnf
      exact⟨k+1,⟨j,f (by simp only [Af,CK,decide_eq_true_eq];omega)⟩,by omega,zS (s:= [0,1]) ⟨⟨rfl,rfl,rfl,rfl,AG (by omega),tv⟩,tA,rfl,rfl,rfl,rfl,rfl⟩⟩
    ·conv=>whnf
     exact⟨k+1,⟨j,f (by simp only [Af,CK,decide_eq_true_eq];omega)⟩,by omega,zS (s:= [0,1]) ⟨⟨rfl,rfl,rfl,rfl,AG (by omega),tv⟩,tA,rfl,rfl,rfl,rfl,rfl⟩⟩
 ·have ek:k=s.lost.length:=by omega
  have u:Mh (g.z*g.d) s.lost=true:=by rw [Mh,<-ek];exact hI
  refine⟨_,fun _ _ h=>h,?_⟩;rw [Eu,u,BW];refine congrArg (fun b=>AV.v (.bool b)) ?_;rw [Bool.eq_iff_iff];simp only [Af,decide_eq_true_eq];repeat' split
  all_goals omega
def Jr (g:Geo) (d:Dk) (s:Stt):Bool:=Bq g&&((MQ d&&decide ((d.cells.length:Int)=Ar g))&&(((Bq g&&Bj g s.a)&&C0 g s.txns s.a.seq s.a.pos g.sl)&&(decide (0<=s.cursor)&&(decide (s.cursor<G5 g)&&Eu g s))))
structure StBig (s:Stt):Prop where
 l:s.a.label.size<=1000000
 h:s.a.homes.length<=1000000
 t:s.txns.length<=1000000/\∀ t∈s.txns,t.images.length<=1000000/\∀ x∈t.images,x.bytes.length<=100000
 o:s.lost.length<=1000000
theorem NT (g:Geo) (d:Dk) (s:Stt) (h1:d.cells.length<=1000000) (h2:d.cache.length<=1000000) (hs:StBig s):Fn Tryz.prog 71 [.ag (AK g), .ag (DV d), .ag (Eo s)] fun r=>r = .v (F1 (Jr g d s)):=by
 have hG:Fn Tryz.prog 118 [.ag (AK g)] fun r=>r = .v (F1 (Bq g)):=DS g.z g.d g.sp g.sl g.an
 unfold Jr;cases hg:Bq g with
 | false=>
  rw [hg] at hG;refine zR Tryz.func71 rfl ?_;conv=>whnf
  refine zY hG ?_;exact⟨_,ri,rfl⟩
 | true=>
  rw [hg] at hG;have hz:=Vq g d hg h1 h2;have hr:=J2 g s.a s.txns hs.l hs.h hs.t.1 hs.t.2;rw [hg] at hr;have hu:=Ve g hg;have hh:=RP g s hg hs.o;generalize (MQ d&&decide ((d.cells.length:Int)=Ar g))=Z at hz |-
  generalize ((true&&Bj g s.a)&&C0 g s.txns s.a.seq s.a.pos g.sl)=R at hr |-
  generalize Eu g s=Q at hh |-
  generalize G5 g=U at hu |-
  cases Z with
  | false=>
   refine zR Tryz.func71 rfl ?_;conv=>whnf
   refine zY hG ?_;conv=>whnf
   refine zY hz ?_;exact⟨_,ri,rfl⟩
  | true=>
   cases R with
   | false=>
    refine zR Tryz.func71 rfl ?_;conv=>whnf
    refine zY hG ?_;conv=>whnf
    refine zY hz ?_;conv=>whnf
    refine zY hr ?_;exact⟨_,ri,rfl⟩
   | true=>
    refine zR Tryz.func71 rfl ?_;conv=>whnf
    refine zY hG ?_;conv=>whnf
    refine zY hz ?_;conv=>whnf
    refine zY hr ?_;conv=>whnf
    refine zF tys_ok mixed (by kernel_rfl) ?_;conv=>whnf
    refine A5 (fun q1=>?_) (fun q1=>?_)
    ·conv=>whnf
     exact⟨_,ri,by rw [decide_eq_false (by omega)];try rfl⟩
    ·conv=>whnf
     refine zY hu ?_;conv=>whnf
     refine A5 (fun q2=>?_) (fun q2=>?_)
     ·conv=>whnf
      exact⟨_,ri,by rw [decide_eq_true (p:=0<=s.cursor) (by omega),decide_eq_false (p:=s.cursor<U) (by omega)];try rfl⟩
     ·conv=>whnf
      refine zY hh ?_;conv=>whnf
      rw [decide_eq_true (p:=0<=s.cursor) (by omega),decide_eq_true (p:=s.cursor<U) (by omega)];cases Q with
      | false=>exact⟨_,ri,rfl⟩
      | true=>exact⟨_,ri,rfl⟩



def sumT:List Tx->Int
 | []=>0
 | t::r=>t.n+sumT r
theorem sumT_app:∀ l m:List Tx,sumT (l ++ m)=sumT l+sumT m
 | [],m=>by simp [sumT]
 | t::r,m=>by
  show t.n+sumT (r ++ m)=_;rw [sumT_app r m,sumT];omega
theorem MX {l:List Tx} (h:∀ t∈l,0<=t.n/\t.n<=30):∀ k:Nat,k<=l.length->FX l k=sumT (l.take k)
 | 0,_=>by simp [FX,sumT]
 | k+1,hk=>by
  have e:l.take (k+1)=l.take k ++ [l.getD k tz]:=by
   rw [Ba,Ag (by omega),Ac,Ag (by omega)];try rfl
  have hm:=h _ (A3 (d:=tz) (show k<l.length by omega));rw [FX,MX h k (by omega),e,sumT_app,Gu,if_pos hm];simp [sumT]
theorem SS {l:List Tx} (h:∀ t∈l,0<=t.n/\t.n<=30):Cw l=sumT l:=by
 have:=MX h l.length (Ah _);rwa [Aw] at this
theorem SY {p n s q:Int} (hs:0<s) (hp:0<=p) (hn:0<=n) (hq:0<=q):((p+n).tmod s+q).tmod s=(p+(n+q)).tmod s:=by
 have h1:0<=(p+n).tmod s:=Bw _ (by omega);rw [B9 (a:=p+n) (by omega)] at h1 |-
 rw [B9 (by omega),B9 (by omega),Int.emod_add_emod,Int.add_assoc]
theorem Xx {l:List Tx} (h:∀ t∈l,0<=t.n/\t.n<=30):0<=sumT l:=by
 induction l with
 | nil=>simp [sumT]
 | cons t r ih=>
  have:=h t (by simp);have:=ih fun x hx=>h x (Bh _ hx)
  rw [sumT];omega
theorem GG {g:Geo} (hg:Bq g=true):∀ {l:List Tx} {seq pos left:Int},left<=g.sl->C0 g l seq pos left=true->(∀ t∈l,0<=t.n/\t.n<=30)/\sumT l<=max left 0
 | [],_,_,left,_,_=>⟨by simp,by simp [sumT];omega⟩
 | t::r,seq,pos,left,hl,h=>by
  obtain⟨g1,g2,g3,g4,g5⟩:=Aq.1 hg;simp only [C0,Af,decide_eq_true_eq] at h;obtain⟨⟨h1,h2,h3,h4,h5,h6,h7⟩,h8⟩:=h;have ih:=GG hg (by omega) h8;refine⟨fun x hx=>?_,?_⟩
  ·rcases Bd.1 hx with rfl | hx
   ·omega
   ·exact ih.1 x hx
  ·rw [sumT];have:=ih.2;omega
theorem KG {g:Geo} (hg:Bq g=true) {x:Tx}:∀ {l:List Tx} {seq pos left:Int},0<=pos->pos<g.sl->left<=g.sl->C0 g l seq pos left=true->x.seq=seq+l.length->x.seq<=4294967295->x.pos=(pos+sumT l).tmod g.sl->2<=x.n->x.n<=left - sumT l->x.n=x.images.length+1->x.images.all (Bn g)=true->C0 g (l ++ [x]) seq pos left=true
 | [],seq,pos,left,h0,h1,_,_,e1,e2,e3,e4,e5,e6,e7=>by
  have e3':x.pos=pos:=by
   rw [e3,show sumT []=0 from rfl,Int.add_zero,B9 h0,Int.emod_eq_of_lt h0 h1]
  simp only [Bv] at e1;have e1':x.seq=seq:=by omega
  have e5':x.n<=left:=by have:sumT []=0:=rfl;omega
  show (decide (x.seq=seq)&&(decide (x.seq<=4294967295)&&(decide (x.pos=pos)&&(decide (2<=x.n)&&(decide (x.n<=left)&&(decide (x.n=x.images.length+1)&&x.images.all (Bn g)))))))&&true=true;rw [decide_eq_true e1',decide_eq_true e2,decide_eq_true e3',decide_eq_true e4,decide_eq_true e5',decide_eq_true e6,e7];try rfl
 | t::r,seq,pos,left,h0,h1,hl,h,e1,e2,e3,e4,e5,e6,e7=>by
  obtain⟨g1,g2,g3,g4,g5⟩:=Aq.1 hg;have hh:=h;simp only [C0,Af,decide_eq_true_eq] at hh;obtain⟨⟨q1,q2,q3,q4,q5,q6,q7⟩,q8⟩:=hh;have u:=(GG hg (by omega) q8).1;have j:=Xx u;have i:0<=(pos+t.n).tmod g.sl:=Bw _ (by omega);have f:(pos+t.n).tmod g.sl<g.sl:=AZ _ (by omega);rw [sumT] at e3 e5;have ih:=KG hg (x:=x) i f (by omega) q8 (by rw [e1];simp only [Ao];omega) e2 (by rw [e3,SY (by omega) h0 (by omega) j]) e4 (by omega) e6 e7;show (_&&C0 g (r ++ [x]) (seq+1) ((pos+t.n).tmod g.sl) (left - t.n))=true;rw [ih,B3];simp only [C0,Af] at h;simpa using h.1
def Eh (ats:List Int) (bs:List (List UInt8)) (i:Nat):Nat->Option (List UInt8)
 | 0=>none
 | k+1=>if ats.getD k 0=(i:Int) then some (bs.getD k []) else Eh ats bs i k
def Fk (g:Geo) (t:List Ent) (had:List (List UInt8)) (ats:List Int) (bs:List (List UInt8)) (i:Nat):List UInt8:=match Eh ats bs i ats.length with
 | some b=>b
 | none=>BO g t had i
def Ia (g:Geo) (t:List Ent) (had:List (List UInt8)) (ats:List Int) (bs:List (List UInt8)) (stamp:Int) (i:Nat):Ent:=
 let e:Ent:=match Eh ats bs i ats.length with
  | some b=>⟨stamp,(C3 b:Nat),false⟩
  | none=>t.getD i ez
 if (Fk g t had ats bs i).length=0 then { e with lost:=true } else e
def D3 (g:Geo) (t:List Ent) (had:List (List UInt8)) (ats:List Int) (bs:List (List UInt8)):Nat->List UInt8
 | 0=>zero8
 | k+1=>if (Fk g t had ats bs k).length=0 then D3 g t had ats bs k else EP (D3 g t had ats bs k) (Fk g t had ats bs k)
def Bl (g:Geo) (t:List Ent) (had:List (List UInt8)) (ats:List Int) (bs:List (List UInt8)) (stamp:Int):List Ent:=(List.range g.d.toNat).map (Ia g t had ats bs stamp) ++ [⟨stamp,(C3 (D3 g t had ats bs g.d.toNat):Nat),false⟩]
def B_ (z:Int) (t:List Ent) (par:List UInt8) (ats:List Int) (bs:List (List UInt8)):List Img:=((List.range ats.length).map fun i=>⟨z,ats.getD i 0,bs.getD i []⟩) ++ [⟨z, -1,par⟩,⟨z,255,CM t⟩]
theorem Is (b:List UInt8):C3 b<=4294967295:=by unfold C3;omega
theorem FU (a b:List UInt8):(EP a b).length=min a.length b.length:=by simp [EP]
theorem HY {t:List Ent} {had:List (List UInt8)} {at_:Nat} (hh:∀ b∈had,b.length=0\/b.length=8):∀ (k:Nat) (b:List UInt8),DA t had at_ k=some b->b.length=8
 | 0,b,h=>by
  obtain rfl:=Option.some.inj h;rfl
 | k+1,b,h=>by
  rw [DA] at h;cases hk:DA t had at_ k with
  | none=>rw [hk] at h;cases h
  | some c=>
   rw [hk] at h;have ih:=HY hh k c hk;simp only at h;split at h
   ·grind
   ·split at h
    ·cases h
    ·rename_i h0;obtain rfl:=Option.some.inj h;have hm:(had.getD k []).length=8:=by
      grind
     rw [FU,ih,hm];try rfl
theorem R0 {g:Geo} {t:List Ent} {had:List (List UInt8)} (hh:∀ b∈had,b.length=0\/b.length=8) (i:Nat):(BO g t had i).length=0\/(BO g t had i).length=8:=by
 unfold BO;split
 ·grind
 ·split
  ·grind
  ·cases ho:DA t had i (g.d.toNat+1) with
   | none=>exact .inl rfl
   | some b=>
    simp only;split
    ·exact .inr (HY hh _ _ ho)
    ·grind
section
variable {g:Geo} {t:List Ent} {had:List (List UInt8)} {ats:List Int} {bs:List (List UInt8)}
theorem Kh (hb:∀ b∈bs,b.length=8) (hl:ats.length<=bs.length) {i:Nat}:∀ (k:Nat) (b:List UInt8),k<=ats.length->Eh ats bs i k=some b->b.length=8
 | k+1,b,hk,h=>by
  rw [Eh] at h;split at h
  ·grind
  ·exact Kh hb hl k b (by omega) h
theorem L_ (hh:∀ b∈had,b.length=0\/b.length=8) (hb:∀ b∈bs,b.length=8) (hl:ats.length<=bs.length) (i:Nat):(Fk g t had ats bs i).length=0\/(Fk g t had ats bs i).length=8:=by
 unfold Fk;cases hp:Eh ats bs i ats.length with
 | none=>exact R0 hh i
 | some b=>exact .inr (Kh hb hl _ b (Ah _) hp)
theorem EB (hh:∀ b∈had,b.length=0\/b.length=8) (hb:∀ b∈bs,b.length=8) (hl:ats.length<=bs.length):∀ k:Nat,(D3 g t had ats bs k).length=8
 | 0=>rfl
 | k+1=>by
  have ih:=EB hh hb hl k;rw [D3];split
  ·exact ih
  ·rename_i h0;rcases L_ (g:=g) (t:=t) hh hb hl k with q | q
   ·exact absurd q h0
   ·rw [FU,ih,q];try rfl
theorem En (hg:Bq g=true) (ht:FK g t=true) {stamp:Int} (hs:0<=stamp/\stamp<=4294967295):FK g (Bl g t had ats bs stamp)=true:=by
 obtain⟨g1,g2,g3,g4,g5⟩:=Aq.1 hg;have f:∀ b:List UInt8,H6 ((C3 b:Nat):Int)=true:=fun b=>AE.2 (by have:=Is b;omega)
 have j:H6 stamp=true:=AE.2 hs;have hl:(Bl g t had ats bs stamp).length=g.d.toNat+1:=by simp [Bl]
 rw [FK,hg] at ht;simp only [BW,Af,decide_eq_true_eq,By] at ht;obtain⟨⟨t1,t2⟩,t3⟩:=ht;rw [FK,hg,decide_eq_true (by rw [hl];omega)];have u:(Bl g t had ats bs stamp).all DO=true:=by
  rw [Av];intro x hx;simp only [Bl,A6,AQ,AS,A2] at hx;rcases hx with ⟨i,hi,rfl⟩ | rfl
  ·have he:∀ e:Ent,DO e=true->DO { e with lost:=true }=true:=fun e h=>h
   have h0:DO (match Eh ats bs i ats.length with | some b=>(⟨stamp,(C3 b:Nat),false⟩:Ent) | none=>t.getD i ez)=true:=by
    cases Eh ats bs i ats.length with
    | some b=>simp only [DO,j,f,Bool.and_self]
    | none=>exact Av.1 t2 _ (A3 (d:=ez) (by omega))
   unfold Ia
   grind
  ·simp only [DO,j,f,Bool.and_self]
 rw [u];have z:G8 (Bl g t had ats bs stamp) g.d.toNat=false:=by
  unfold G8 Bl
  grind
 grind
end
theorem RD {x:Ent} (h:DO x=true) (r:List UInt8):IH (Jb x ++ r)=x:=by
 obtain⟨a,s,l⟩:=x;simp only [DO,H6,Af,AE] at h;have hn:nums [4,4,1] (rowB [a,s,Dg l] [4,4,1] ++ r)=[a,s,Dg l]:=nums_rowB [a,s,Dg l] [4,4,1] r rfl (fun k h1 _=>by
  match k,h1 with
  | 0,_=>exact⟨.inr (.inr rfl),h.1.1,by show a<4294967296;omega⟩
  | 1,_=>exact⟨.inr (.inr rfl),h.2.1,by show s<4294967296;omega⟩
  | 2,_=>exact⟨.inl rfl,by show 0<=Dg l;unfold Dg;split <;> decide,by show Dg l<256;unfold Dg;split <;> decide⟩)
 unfold IH Jb;rw [hn];cases l <;> rfl
theorem entsOf_tblB:∀ (t:List Ent),(∀ e∈t,DO e=true)->entsOf t.length (CM t)=t
 | [],_=>rfl
 | e::t,h=>by
  have e1:CM (e::t)=Jb e ++ CM t:=by simp [CM]
  have e2:(Jb e ++ CM t).drop 9=CM t:=by
   rw [List.drop_append_of_le_length (by rw [JM];exact Ah _),AC (by rw [JM];exact Ah _)];try rfl
  show IH (CM (e::t))::entsOf t.length ((CM (e::t)).drop 9)=e::t;rw [e1,e2,RD (h e (by simp)),entsOf_tblB t fun x hx=>h x (Bh _ hx)]
theorem Hf {g:Geo} {t:List Ent} (ht:FK g t=true):Ce g (CM t)=some t:=by
 have hh:=ht;simp only [FK,Af,decide_eq_true_eq,Av] at hh;obtain⟨⟨⟨_,t1⟩,t2⟩,_⟩:=hh;have e:(g.d+1).toNat=t.length:=by omega
 unfold Ce;rw [e,entsOf_tblB t t2,if_pos ⟨ht,rfl⟩]
def OneTab (l:List Img):Prop:=l.Pairwise fun x y=>x.what=255->y.what=255->x.zone≠y.zone
theorem DY (z:Int) (t:List Ent) (par:List UInt8) (ats:List Int) (bs:List (List UInt8)):(B_ z t par ats bs).length=ats.length+2:=by simp [B_]
theorem IY {g:Geo} (hg:Bq g=true) {z:Int} (hz:0<=z/\z<g.z) {t:List Ent} (ht:FK g t=true) {par:List UInt8} (hp:par.length=8) {ats:List Int} (ha:∀ a∈ats,0<=a/\a<g.d) {bs:List (List UInt8)} (hb:∀ b∈bs,b.length=8) (hl:ats.length<=bs.length):∀ x∈B_ z t par ats bs,Bn g x=true/\x.zone=z:=by
 obtain⟨g1,g2,g3,g4,g5⟩:=Aq.1 hg;have f:CQ z 0 (g.z - 1)=true:=AE.2 (by omega);intro x hx;simp only [B_,A6,AQ,AS,Bd,List.not_mem_nil,or_false] at hx;rcases hx with ⟨i,hi,rfl⟩ | rfl | rfl
 ·have h1:=ha _ (A3 (d:=0) hi);have h2:=hb _ (A3 (d:= []) (show i<bs.length by omega));refine⟨?_,rfl⟩;simp only [Bn,hg,f,BW];rw [if_neg (by omega),AE.2 (show -1<=ats.getD i 0/\ats.getD i 0<=g.d - 1 by omega),decide_eq_true h2];try rfl
 ·refine⟨?_,rfl⟩;simp only [Bn,hg,f,BW];rw [if_neg (by decide),AE.2 (show (-1:Int)<= -1/\(-1:Int)<=g.d - 1 by omega),decide_eq_true hp];try rfl
 ·refine⟨?_,rfl⟩;simp only [Bn,hg,f,BW];rw [if_pos trivial,Hf ht];try rfl
theorem Ii {g:Geo} (hg:Bq g=true) {l:List Img} {z:Int} (hl:OneTab l) (hz:∀ x∈l,x.zone<z) {t:List Ent} {par:List UInt8} {ats:List Int} (ha:∀ a∈ats,0<=a/\a<g.d) {bs:List (List UInt8)}:OneTab (l ++ B_ z t par ats bs):=by
 obtain⟨g1,g2,g3,g4,g5⟩:=Aq.1 hg;have hw:∀ x∈(List.range ats.length).map (fun i=>(⟨z,ats.getD i 0,bs.getD i []⟩:Img)),x.what≠255:=by
  intro x hx;obtain⟨i,hi,rfl⟩:=AQ.1 hx;have:=ha _ (A3 (d:=0) (AS.1 hi))
  grind
 refine List.pairwise_append.2 ⟨hl,List.pairwise_append.2 ⟨List.Pairwise.imp_of_mem (R:=fun _ _=>True) (fun hx _ _ h=>absurd h (hw _ hx)) (List.pairwise_of_forall (fun _ _=>trivial)),?_,fun x hx y _ h=>absurd h (hw _ hx)⟩,fun x hx y hy _ _=>?_⟩
 ·grind
 ·have h1:=hz x hx;have h2:y.zone=z:=by
   simp only [B_,A6,AQ,AS,Bd,List.not_mem_nil,or_false] at hy
   grind
  omega
@[reducible] def Ze (g:Geo) (x:AV) (s:Stt) (e:Int):List AV:= [iv g.z,iv g.d,iv g.sp,iv g.sl,iv g.an,x,iv s.a.gen,iv s.a.epoch,iv s.a.pos,iv s.a.seq,iv s.a.last, .v (.string s.a.label),HE s.a.homes,CS s.txns, .v (.bool s.only),iv s.cursor,iv s.found,iv s.fixed,iv s.moved,iA s.lost,iv e]
@[reducible] def Jw (g:Geo) (s:Stt) (e:Int) (d:Dk):List AB:= [.box 132 (Ze g (.bp 1 0) s e), .box 133 (Gp (.ow 2 d.cells.length) (.ow 3 d.cache.length) d.reqs d.left), .row 68 3 (d.cells.map B4), .row 152 2 (d.cache.map Ei)]
@[reducible] def Nf (g:Geo) (s:Stt) (e:Int) (d:Dk):List AB:= [.box 132 (Ze g (.bp 1 0) s e), .box 133 (Gp (.ow 2 d.cells.length) (.ow 4 d.cache.length) d.reqs d.left), .row 68 3 (d.cells.map B4), .dead, .row 152 2 (d.cache.map Ei)]
@[reducible] def aG (g:Geo) (s:Stt) (e:Int) (d:Dk) (l:List AB):List AB:= .box 132 (Ze g (.bp 1 0) s e):: .box 133 (Gp (.ow 2 d.cells.length) (.ow 3 d.cache.length) d.reqs d.left):: .row 68 3 (d.cells.map B4):: .row 152 2 (d.cache.map Ei)::l
theorem Zd (g:Geo) (s:Stt) (e:Int) (d:Dk):ConvH (Jw g s e d) (Nf g s e d):=z6 (H:=Jw g s e d) 1 3 (by decide) rfl rfl
theorem Yh (e:Int):∀ (c:Ctx) (v:Value),Rd (.ag [iv e, .v (.slice none 0 0)]) c v->Rd (.ag (Dt ⟨e, []⟩)) c v:=Bf ⟨ri,Bg 1 _,tv⟩
theorem Zg (g:Geo) (s:Stt) (e:Int) (d:Dk) (a:Int) (he:e≠0) :
  ACalls Tryz.prog false 126 [.bp 0 0,iv a] (Jw g s e d) fun r H=>r = .ag (Dt ⟨8, []⟩)/\H=Jw g s e d:=by
 have hb:(e != 0)=true:=bne_iff_ne.2 he;refine zT tys_ok Tryz.func126 rfl rfl (Ae rfl) ?_;conv=>whnf
 rw [hb];exact⟨_, .ag (Dt ⟨8, []⟩),Jw g s e d,Yh 8,zS (s:= [0,1,2,3]) tA,rfl,rfl⟩
theorem Zf (g:Geo) (s:Stt) (d:Dk) (a:Int) (h:DkOk d) (ha:0<=a/\a<d.cells.length) :
  ACalls Tryz.prog false 126 [.bp 0 0,iv a] (Jw g s 0 d) fun r H=>r = .ag (Dt ⟨(d.read a).2.2,(d.read a).2.1⟩)/\H=Jw g s (if d.left=0 then 8 else 0) (d.read a).1:=by
 have hr:=Pu d a h.l ha h.m (fun c hc=>by have:=(h.c c hc).2.1;omega) (fun w hw=>by have:=(h.w w hw).2;omega);have he:(d.left=0/\(d.read a).2.2=8)\/(¬d.left=0/\(d.read a).2.2≠8):=by
  unfold Dk.read;by_cases h0:d.left=0
  ·rw [if_pos h0];exact .inl ⟨h0,rfl⟩
  ·rw [if_neg h0];exact .inr ⟨h0,show (d.got a).2≠8 by have:=S9 d a;omega⟩
 generalize d.read a=q at hr he |-
 obtain⟨D,b,e⟩:=q;simp only at hr he |-
 refine zT tys_ok Tryz.func126 rfl rfl (Ae rfl) ?_;conv=>whnf
 refine ze9 [1,2,3] hr ?_;rintro _ _ ⟨rfl,rfl⟩;rcases he with ⟨h0,rfl⟩ | ⟨h0,he⟩
 ·rw [if_pos h0];conv=>whnf
  repeat' (refine zZ ?_;conv=>whnf)
  exact⟨_, .ag (Dt ⟨8,b⟩),Jw g s 8 D,fun _ _ h=>h,zS (s:= [0,1,2,3]) tA,rfl,rfl⟩
 ·rw [if_neg h0];conv=>whnf
  repeat' (refine zZ ?_;conv=>whnf)
  refine Am (fun h8=>absurd (by simpa using h8) he) (fun _=>?_);conv=>whnf
  repeat' (refine zZ ?_;conv=>whnf)
  exact⟨_, .ag (Dt ⟨e,b⟩),Jw g s 0 D,fun _ _ h=>h,zS (s:= [0,1,2,3]) tA,rfl,rfl⟩
theorem Vu (g:Geo) (s:Stt) (e:Int) (d:Dk) (a:Int) (b:List UInt8) (he:e≠0) :
  ACalls Tryz.prog false 129 [.bp 0 0,iv a,bA b] (Jw g s e d) fun r H=>r = .v (.bool false)/\H=Jw g s e d:=by
 have hb:(e != 0)=true:=bne_iff_ne.2 he;refine zT tys_ok Tryz.func129 rfl rfl (Ae rfl) ?_;conv=>whnf
 rw [hb];exact⟨_, .v (.bool false),Jw g s e d,fun _ _ h=>h,zS (s:= [0,1,2,3]) tA,rfl,rfl⟩
theorem Vt (g:Geo) (s:Stt) (d:Dk) (a:Int) (b:List UInt8) (h:DkOk d) (ha:0<=a/\a<d.cells.length) (hb:b.length<=200) :
  ACalls Tryz.prog false 129 [.bp 0 0,iv a,bA b] (Jw g s 0 d) fun r H=>r = .v (.bool (decide ((d.write a b).2=0)))/\H=Jw g s (if (d.write a b).2=8 then 8 else 0) (d.write a b).1:=by
 have hr:=Nd d a b h.l ha h.m (by omega);have he:=Ip d a b;generalize d.write a b=q at hr he |-
 obtain⟨D,e⟩:=q;simp only at hr he |-
 refine zT tys_ok Tryz.func129 rfl rfl (Ae rfl) ?_;conv=>whnf
 refine ze9 [1,2,3] hr ?_;rintro _ _ ⟨rfl,rfl⟩;rcases he with rfl | rfl | rfl
 all_goals
  conv=>whnf
  repeat' (refine zZ ?_;conv=>whnf)
 ·exact⟨_, .v (.bool false),Jw g s 8 D,fun _ _ h=>h,zS (s:= [0,1,2,3]) tA,rfl,rfl⟩
 ·exact⟨_, .v (.bool false),Jw g s 0 D,fun _ _ h=>h,zS (s:= [0,1,2,3]) tA,rfl,rfl⟩
 ·exact⟨_, .v (.bool true),Jw g s 0 D,fun _ _ h=>h,zS (s:= [0,1,2,3]) tA,rfl,rfl⟩
theorem VH (g:Geo) (s:Stt) (e:Int) (d:Dk) (h:DkOk d) :
  ACalls Tryz.prog false 130 [.bp 0 0] (Jw g s e d) fun r H=>r = .tp []/\H=Nf g s (if e=0 then if d.left=0 then 8 else 0 else e) (if e=0 then if d.left=0 then d else d.flush else d):=by
 have hf:=Nl d h.l h.m (fun w hw=>(h.w w hw).1) (fun w hw=>by have:=(h.w w hw).2;omega);by_cases he:e=0
 ·subst he;rw [if_pos rfl,if_pos rfl];refine zT tys_ok Tryz.func130 rfl rfl (Ae rfl) ?_;conv=>whnf
  refine ze9 [1,2,3] hf ?_;rintro _ _ ⟨rfl,rfl⟩;by_cases h0:d.left=0;all_goals
   simp only [h0,if_true,if_false];exact⟨_, .tp [],Nf g s _ _,fun _ _ h=>h,zS (s:= [0,1,2,3,4]) tA,rfl,rfl⟩
 ·rw [if_neg he,if_neg he];have hb:(e == 0)=false:=beq_eq_false_iff_ne.2 he;refine zT tys_ok Tryz.func130 rfl rfl (Ae rfl) ?_;conv=>whnf
  rw [hb];exact⟨_, .tp [],Nf g s e d,fun _ _ h=>h,zI (zL (Zd g s e d)) (s:= [0,1,2,3,4]) tA,rfl,rfl⟩
theorem K6 {d:Dk} {l:List Wr} {k:Nat} (hk:k<l.length) (h:(d.writes (l.take k)).2.2=true):d.writes (l.take (k+1))=d.writes (l.take k):=by
 rw [FC d hk,HH _ h]
def U2 (b:Bool):Int:=if b then 8 else 0
theorem KJ (g:Geo) (s:Stt) (d:Dk) (a:An) (hg:Bq g=true) (ha:Bj g a=true) (h:DkOk d) (hl:∀ w∈AD g a,OW d.cells.length w) :
  ACalls Tryz.prog false 131 [.bp 0 0, .ag (Ek a)] (Jw g s 0 d) fun r H=>r = iv ((d.writes (AD g a)).2.1:Nat)/\H=Nf g s (U2 (d.putAll (AD g a)).2.2) (d.putAll (AD g a)).1:=by
 obtain⟨g1,g2,g3,g4,g5⟩:=Aq.1 hg;have I:=CY g a;refine zT tys_ok Tryz.func131 rfl rfl (Ae rfl) ?_;conv=>whnf
 refine zU Nat (fun k=>([(0, .bp 0 0),(3, .bp 4 0),(5, .v (.int .i64 (d.writes ((AD g a).take k)).2.1)),(6,iv k)],aG g s (U2 (d.writes ((AD g a).take k)).2.2) (d.writes ((AD g a).take k)).1 [.box 28 (Ek a)])) (fun k=>k<=(AD g a).length/\(d.writes ((AD g a).take k)).2.1<=k) (fun k=>(AD g a).length - k) 0 ⟨Aj _,Ah _⟩
  (zS (s:= [0,1,2,3,4]) tA) ?_
 rintro k ⟨hk,C⟩;have hd:=GB h hl k;conv=>whnf
 refine A5 (fun h6=>?_) (fun h6=>?_) <;> (repeat rw [Aa] at h6) <;> conv=>whnf
 ·have i:k<(AD g a).length:=by omega
  have hm:=hl _ (A3 (d:=(⟨0, []⟩:Wr)) i);have F:=LQ g a k hg ha (by omega);have f:=fun hlv=>Ji (d:=d) i hlv
  have j:=fun hlv=>K6 (d:=d) i hlv
  rw [Im (by omega)] at f hm;generalize hX:d.writes ((AD g a).take k)=Q at hd f j C |-
  obtain⟨X,N,dead⟩:=Q;simp only at hd f j C;repeat' (refine zZ ?_;conv=>whnf)
  refine zY F ?_;conv=>whnf
  cases dead with
  | true=>
   have hx:=j rfl;have hc:=Vu g s 8 X k (CZ a k) (by decide);refine ze9 [0,1,2,3] hc ?_;rintro _ _ ⟨rfl,rfl⟩;conv=>whnf
   repeat' (refine zZ ?_;conv=>whnf)
   refine⟨k+1,⟨i,by rw [hx];simp only;omega⟩,by omega,?_⟩;rw [hx];exact zS (s:= [0,1,2,3,4]) ⟨⟨rfl,rfl,rfl,AG (by omega),tv⟩,tA,rfl,rfl,rfl,rfl,rfl⟩
  | false=>
   have hx:=f rfl;have hc:=Vt g s X k (CZ a k) hd.1 (by rw [hd.2];exact hm.1) hm.2;have hE:=Ip X k (CZ a k);generalize hQ:X.write k (CZ a k)=Q at hc hx hE;obtain⟨D,e⟩:=Q;simp only at hx hE hc;refine ze9 [0,1,2,3] hc ?_;rintro _ _ ⟨rfl,rfl⟩;rcases hE with rfl | rfl | rfl
   ·have hx:d.writes ((AD g a).take (k+1))=(D,N,true):=hx;conv=>whnf
    repeat' (refine zZ ?_;conv=>whnf)
    refine⟨k+1,⟨i,by rw [hx];simp only;omega⟩,by omega,?_⟩;rw [hx];exact zS (s:= [0,1,2,3,4]) ⟨⟨rfl,rfl,rfl,AG (by omega),tv⟩,tA,rfl,rfl,rfl,rfl,rfl⟩
   ·have hx:d.writes ((AD g a).take (k+1))=(D,N,false):=hx;conv=>whnf
    repeat' (refine zZ ?_;conv=>whnf)
    refine⟨k+1,⟨i,by rw [hx];simp only;omega⟩,by omega,?_⟩;rw [hx];exact zS (s:= [0,1,2,3,4]) ⟨⟨rfl,rfl,rfl,AG (by omega),tv⟩,tA,rfl,rfl,rfl,rfl,rfl⟩
   ·have hx:d.writes ((AD g a).take (k+1))=(D,N+1,false):=hx;conv=>whnf
    repeat' (refine zZ ?_;conv=>whnf)
    refine⟨k+1,⟨i,by rw [hx];simp only;omega⟩,by omega,?_⟩;rw [hx];exact zS (s:= [0,1,2,3,4]) ⟨⟨rfl,rfl,(show _=AV.v (Value.int IntKind.i64 ((N+1:Nat):Int)) from AG (show N<1000000000000 by omega)),AG (by omega),tv⟩,tA,rfl,rfl,rfl,rfl,rfl⟩
 ·have ek:k=(AD g a).length:=by omega
  subst ek;rw [Aw] at hd C;rw [Aw];have z:=Es (d:=d) (l:=AD g a);have u:=DX (d:=d) (l:=AD g a);generalize d.writes (AD g a)=Q at z u hd |-
  obtain⟨X,N,dead⟩:=Q;simp only at z u hd;have hf:=VH g s (U2 dead) X hd.1;cases dead with
  | true=>
   rw [z rfl];refine ze9 [0,1,2,3] hf ?_;rintro _ _ ⟨rfl,rfl⟩;exact⟨_,iv (N:Nat),Nf g s 8 X,fun _ _ h=>h,zS (s:= [0,1,2,3,5]) tA,rfl,rfl⟩
  | false=>
   rw [u rfl];refine ze9 [0,1,2,3] hf ?_;rintro _ _ ⟨rfl,rfl⟩;by_cases G:X.left=0;all_goals
    simp only [G,U2,Co,if_true,if_false];exact⟨_,iv (N:Nat),Nf g s _ _,fun _ _ h=>h,zS (s:= [0,1,2,3,5]) tA,rfl,rfl⟩
theorem ACalls.lendBox {P:Program} {q:Bool} {f:FuncId} {x:AV} {H:List AB} {K:AV->List AB->Prop} (j k:Nat) {t t':TypeId} {sz':Nat} {cs cs2:List AV} {es':List (List AV)} (hj:H[j]? = some (.box t cs)) (hk:H[k]? = some (.row t' sz' es'))
  (he:cs.map (AV.slIn k es'.length (.sl sz' es'.length fun i=>es'.getD i []))=cs2) (hc:ACalls P q f [x, .ag cs2] ((H.set k .dead).set j (.box t cs2)) K):ACalls P q f [x, .ag cs] H K:=by
 refine⟨hc.go,fun w0 M0 c us hs hr=>?_⟩;subst he;have F:j≠k:=by rintro rfl;rw [hj] at hk;cases hk
 obtain⟨c1,e1,s1,x1,r1⟩:=hs.freeze hk;have G:(H.set k .dead)[j]? = some (.box t cs):=by rw [A9 (Ne.symm F)];exact hj
 have h8:∀ (l:List AV) (us:List Value),RdL l c us->RdL (l.map (AV.slIn k es'.length (.sl sz' es'.length fun i=>es'.getD i []))) c1 us:=by
  intro l;induction l with
  | nil=>intro us h;simp only [RdL] at h;subst h;simp [RdL]
  | cons x l ih=>
   intro us h;simp only [RdL] at h;obtain⟨u,vs,rfl,a1,a2⟩:=h;simp only [Az,RdL];refine⟨u,vs,rfl,?_,ih vs a2⟩;unfold AV.slIn;split
   ·rename_i i n;split
    ·rename_i hik;subst hik;split
     ·rename_i hn;subst hn;exact r1 u a1
     ·simp [Rd]
    ·exact Rd.ext _ x1 a1
   ·exact Rd.ext _ x1 a1
 have s2:HS w0 M0 c1 ((H.set k .dead).set j (.box t (cs.map (AV.slIn k es'.length (.sl sz' es'.length fun i=>es'.getD i []))))):=by
  refine s1.recell G rfl ?_;rintro⟨g,xs,h1,h2,_,h4⟩;obtain⟨g0,ys,q1,q2,q3,_⟩:=hs.blk j _ hj;have hg:=x1.box j _ (hs.klt hj) q1;rw [h1] at hg;injection hg with hg
  injection hg with hg
  injection hg with hg
  subst hg;rw [e1,q2] at h2;injection h2 with h2
  have z:ys.toArray=xs.toArray:=by injection h2
  have z:ys=xs:=by simpa using z
  subst z;exact⟨g,ys,h1,by rw [e1];exact q2,h8 _ _ q3,h4⟩
 have C:RdL [x, .ag (cs.map (AV.slIn k es'.length (.sl sz' es'.length fun i=>es'.getD i [])))] c1 us:=by
  simp only [RdL] at hr;obtain⟨u1,_,rfl,p1,u2,_,rfl,p2,rfl⟩:=hr;simp only [Rd] at p2;obtain⟨zs,rfl,p3⟩:=p2;simp only [RdL];exact⟨u1,_,rfl,Rd.ext _ x1 p1,_,_,rfl,by simp only [Rd];exact⟨zs,rfl,h8 _ _ p3⟩,rfl⟩
 have:=hc.calls w0 M0 c1 us s2 C;rw [e1] at this;refine this.mono ?_;rintro e w' ⟨v,c',r,H2,rfl,rfl,q1,q2,q3,q4,q5⟩;exact⟨v,c',r,H2,rfl,rfl,q1,q2,x1.trans q3,q4,q5⟩
theorem nums_ones:∀ (n:Nat) (r:List Int) (c:List UInt8),n<=c.length->nums (FL n ++ r) c=((List.range n).map fun i=>((c.getD i 0).toNat:Int)) ++ nums r (c.drop n)
 | 0,r,c,_=>rfl
 | n+1,r, [],h=>by simp at h
 | n+1,r,x::c,h=>by
  have ih:=nums_ones n r c (by simpa using h);rw [show FL (n+1) ++ r=1::(FL n ++ r) from rfl,List.range_succ_eq_map,Az,List.map_map];show (leN ((x::c).take 1):Int)::nums (FL n ++ r) ((x::c).drop 1)=_;rw [show (x::c).drop 1=c from rfl,ih];simp [leN]
theorem Ye (n:Nat) (c:List UInt8) (h:n+5<=c.length):Kr n c=⟨(List.range n).map fun i=>((c.getD i 0).toNat:Int),((c.getD n 0).toNat:Int),(leN ((c.drop (n+1)).take 4):Nat)⟩:=by
 have e:=nums_ones (n+1) [4] c (by omega);rw [show FL (n+1) ++ [4]=QL n from rfl] at e;unfold Kr;rw [e];have h1:List.take n ((List.range (n+1)).map (fun i=>((c.getD i 0).toNat:Int)) ++ nums [4] (c.drop (n+1)))=(List.range n).map fun i=>((c.getD i 0).toNat:Int):=by
  rw [Bp,A8,A7,List.take_left' (by simp)]
 have h2:((List.range (n+1)).map (fun i=>((c.getD i 0).toNat:Int)) ++ nums [4] (c.drop (n+1))).getD n 0=((c.getD n 0).toNat:Int):=by
  rw [Ac,AH (by simp),Bb,Bz (by omega)];try rfl
 have h3:((List.range (n+1)).map (fun i=>((c.getD i 0).toNat:Int)) ++ nums [4] (c.drop (n+1))).getD (n+1) 0=(leN ((c.drop (n+1)).take 4):Nat):=by
  rw [Ac,AN (by simp)];simp [nums]
 rw [h1,h2,h3]
theorem Zs (b:List UInt8) (h:17<=b.length):(nums szA b).getD 0 0=(leN (b.take 4):Nat)/\(nums szA b).getD 1 0=(leN ((b.drop 4).take 4):Nat)/\(nums szA b).getD 2 0=(leN ((b.drop 8).take 4):Nat)/\(nums szA b).getD 3 0=(leN ((b.drop 12).take 4):Nat)/\(nums szA b).getD 4 0=((b.getD 16 0).toNat:Int):=by
 refine⟨rfl,rfl,?_,?_,?_⟩
 ·show ((leN ((((b.drop 4).drop 4)).take 4):Nat):Int)=_;rw [Bc]
 ·show ((leN (((((b.drop 4).drop 4).drop 4)).take 4):Nat):Int)=_;rw [Bc,Bc]
 ·show ((leN ((((((b.drop 4).drop 4).drop 4)).drop 4).take 1):Nat):Int)=_;rw [Bc,Bc,Bc];have e:b.drop 16=b.getD 16 0::b.drop 17:=by
   rw [Ac,Ag (by omega)];exact Bt (by omega)
  show ((leN ((b.drop 16).take 1):Nat):Int)=_;rw [e];exact congrArg (fun n:Nat=>(n:Int)) (show (b.getD 16 0).toNat+256*0=(b.getD 16 0).toNat by omega)
def Yy (n:Nat) (c:List UInt8):List (List AV):=(List.range n).map fun i=> [iv ((c.getD i 0).toNat:Int)]
theorem WT (n:Nat) (c:List UInt8):Yy (n+1) c=Yy n c ++ [[iv ((c.getD n 0).toNat:Int)]]:=by simp [Yy,Bp]
theorem SL (n:Nat) (c:List UInt8):(Yy n c).length=n:=by simp [Yy]
theorem wb (x:UInt8):IntKind.i64.wrap (x.toNat:Int)=(x.toNat:Int):=wi (by have:=x.toNat_lt;omega)
theorem Tm (g:Geo) (b:List UInt8) (hg:Bq g=true) (hb:b.length<=100000):Fn Tryz.prog 295 [.ag (AK g),bA b] fun r=>r = .tp [.ag (Ek ((Fp g b).getD an0)), .v (.bool (Fp g b).isSome)]:=by
 obtain⟨g1,g2,g3,g4,g5⟩:=Aq.1 hg;have G4:∀ (e:Value) (c:Ctx) (v:Value),Rd (.tp [.ag [iv 0,iv 0,iv 0,iv 0,iv 0, .v (.string ⟨#[]⟩), .v (.slice none 0 0)], .v e]) c v->Rd (.tp [.ag (Ek an0), .v e]) c v:=fun e=>BN (m:= [.ag (Ek an0), .v e]) ⟨Bf an0_sub,ri,tv⟩
 by_cases hd:b.length<18
 ·have hN:Fp g b=none:=by
   rw [Fp];split
   ·rfl
   ·rw [show H9 (b.drop 17)=none by rw [H9,if_pos (by rw [Ak];omega)]]
  rw [hN];refine zR Tryz.func295 rfl ?_;conv=>whnf
  refine A5 (fun _=>?_) (fun hq=>absurd hd (by omega));exact⟨_,G4 _,rfl⟩
 ·obtain⟨n0,n1,n2,n3,n4⟩:=Zs b (by omega);have q0:=FB b 4 (by omega) (by decide);have q1:=FB (b.drop 4) 4 (by rw [Ak];omega) (by decide);have q2:=FB (b.drop 8) 4 (by rw [Ak];omega) (by decide);have q3:=FB (b.drop 12) 4 (by rw [Ak];omega) (by decide);rw [<-n0] at q0;rw [<-n1] at q1;rw [<-n2] at q2;rw [<-n3] at q3;have hr:=Tl (b.drop 17) (by rw [Ak];omega);have ho:(b.drop 17).length=b.length - 17:=Ak ..
  cases hL:H9 (b.drop 17) with
  | none=>
   have hN:Fp g b=none:=by rw [Fp,if_neg (by omega),hL]
   rw [hL] at hr;rw [hN];refine zR Tryz.func295 rfl ?_;conv=>whnf
   refine A5 (fun hq=>absurd hq (by omega)) (fun hq=>?_);conv=>whnf
   apply z8 (0) tys_ok mixed (.o [0,2,3,5,6,8,9,11,12,13,14] (.two 1 (.two 4 (.two 7 (.two 10 (.o [15,16,17] .fin) 16 (.o [10,15,17] .fin)) 16 (.o [7,10,15,17] .fin)) 16 (.o [4,7,10,15,17] .fin)) 16 (.o [1,4,7,10,15,17] .fin))) [6,17,18,19,20,21,22,23,24,25,26,27,28,29,30,31,32] (by kernel_rfl)
   ·conv=>whnf
    try (refine tI ?_;conv=>whnf)
    try (refine tI ?_;conv=>whnf)
    try (refine tI ?_;conv=>whnf)
    try (refine tI ?_;conv=>whnf)
    refine Ad ?_ ?_
    ·conv=>whnf
     refine zY q0 ?_;refine Ad ?_ ?_
     ·conv=>whnf
      (refine zV [bA (b.drop 4),iv 4] ⟨AP (by omega),ri,tv⟩ ?_;refine zY q1 ?_)
      refine Ad ?_ ?_
      ·conv=>whnf
       (refine zV [bA (b.drop 8),iv 4] ⟨AP (by omega),ri,tv⟩ ?_;refine zY q2 ?_)
       refine Ad ?_ ?_
       ·conv=>whnf
        (refine zV [bA (b.drop 12),iv 4] ⟨AP (by omega),ri,tv⟩ ?_;refine zY q3 ?_)
        conv=>whnf
        try (refine tS ?_;conv=>whnf)
        exact tA
       ·conv=>whnf
        (refine zV [bA (b.drop 12),iv 4] ⟨AP (by omega),ri,tv⟩ ?_;refine zY q3 ?_)
        conv=>whnf
        try (refine tS ?_;conv=>whnf)
        exact tA
      ·conv=>whnf
       (refine zV [bA (b.drop 8),iv 4] ⟨AP (by omega),ri,tv⟩ ?_;refine zY q2 ?_)
       conv=>whnf
       (refine zV [bA (b.drop 12),iv 4] ⟨AP (by omega),ri,tv⟩ ?_;refine zY q3 ?_)
       conv=>whnf
       try (refine tS ?_;conv=>whnf)
       exact tA
     ·conv=>whnf
      (refine zV [bA (b.drop 4),iv 4] ⟨AP (by omega),ri,tv⟩ ?_;refine zY q1 ?_)
      conv=>whnf
      (refine zV [bA (b.drop 8),iv 4] ⟨AP (by omega),ri,tv⟩ ?_;refine zY q2 ?_)
      conv=>whnf
      (refine zV [bA (b.drop 12),iv 4] ⟨AP (by omega),ri,tv⟩ ?_;refine zY q3 ?_)
      conv=>whnf
      try (refine tS ?_;conv=>whnf)
      exact tA
    ·conv=>whnf
     refine zY q0 ?_;conv=>whnf
     (refine zV [bA (b.drop 4),iv 4] ⟨AP (by omega),ri,tv⟩ ?_;refine zY q1 ?_)
     conv=>whnf
     (refine zV [bA (b.drop 8),iv 4] ⟨AP (by omega),ri,tv⟩ ?_;refine zY q2 ?_)
     conv=>whnf
     (refine zV [bA (b.drop 12),iv 4] ⟨AP (by omega),ri,tv⟩ ?_;refine zY q3 ?_)
     conv=>whnf
     try (refine tS ?_;conv=>whnf)
     exact tA
   conv=>whnf
   rw [wb,show b.getD (Int.toNat 16) 0=b.getD 16 0 from rfl,<-n4];refine⟨⟨by omega,by omega,by omega,by omega⟩,?_⟩;conv=>whnf
   refine zV [bA (b.drop 17)] ⟨AP (by omega),tv⟩ ?_;refine zY hr ?_;conv=>whnf
   rw [show IntKind.i64.wrap (17+0)=17 from rfl];refine⟨⟨by omega,by omega,by omega,by omega⟩,?_⟩;exact⟨_,G4 _,rfl⟩
  | some q=>
   obtain⟨s,u⟩:=q;obtain⟨u1,u2,u3,u4⟩:=N0 hL;rw [hL] at hr;simp only at hr;have hh:s.size=s.data.toList.length:=rfl;have he:=Ie u4;have wu:IntKind.i64.wrap (17+(u:Int))=17+u:=wi (by omega);have hm:g.z*(g.d+6)<=4*10:=Int.mul_le_mul (by omega) (by omega) (by omega) (by omega);have hn:0<=g.z*(g.d+6):=Da (by omega) (by omega);have wm:IntKind.i64.wrap (g.z*IntKind.i64.wrap (g.d+6))=g.z*(g.d+6):=by rw [wi (n:=g.d+6) (by omega)];exact wi (by omega)
   have hj:g.z*(g.d+6)=((g.z.toNat*(g.d.toNat+6):Nat):Int):=by rw [Int.natCast_mul,Int.natCast_add];congr 1 <;> omega
   have F:((u:Int) == 0)=false:=beq_eq_false_iff_ne.2 (by omega);have hf:(b.drop (17+u)).length=b.length - (17+u):=Ak ..
   obtain⟨A,hA⟩:∃ A,A=MK (g.d.toNat+1) g.z.toNat b s u:=⟨_,rfl⟩;have j:Fp g b=if b.length≠17+u+g.z.toNat*(g.d.toNat+6) then none else if Bj g A then some A else none:=by rw [Fp,if_neg (by omega),hL,hA]
   by_cases O:b.length=17+u+g.z.toNat*(g.d.toNat+6)
   ·rw [if_neg (by omega)] at j;refine zR Tryz.func295 rfl ?_;conv=>whnf
    refine A5 (fun hq=>absurd hq (by omega)) (fun hq=>?_);conv=>whnf
    apply z8 (0) tys_ok mixed (.o [0,2,3,5,6,8,9,11,12,13,14] (.two 1 (.two 4 (.two 7 (.two 10 (.o [15,16,17] .fin) 16 (.o [10,15,17] .fin)) 16 (.o [7,10,15,17] .fin)) 16 (.o [4,7,10,15,17] .fin)) 16 (.o [1,4,7,10,15,17] .fin))) [6,17,18,19,20,21,22,23,24,25,26,27,28,29,30,31,32] (by kernel_rfl)
    ·conv=>whnf
     try (refine tI ?_;conv=>whnf)
     try (refine tI ?_;conv=>whnf)
     try (refine tI ?_;conv=>whnf)
     try (refine tI ?_;conv=>whnf)
     refine Ad ?_ ?_
     ·conv=>whnf
      refine zY q0 ?_;refine Ad ?_ ?_
      ·conv=>whnf
       (refine zV [bA (b.drop 4),iv 4] ⟨AP (by omega),ri,tv⟩ ?_;refine zY q1 ?_)
       refine Ad ?_ ?_
       ·conv=>whnf
        (refine zV [bA (b.drop 8),iv 4] ⟨AP (by omega),ri,tv⟩ ?_;refine zY q2 ?_)
        refine Ad ?_ ?_
        ·conv=>whnf
         (refine zV [bA (b.drop 12),iv 4] ⟨AP (by omega),ri,tv⟩ ?_;refine zY q3 ?_)
         conv=>whnf
         try (refine tS ?_;conv=>whnf)
         exact tA
        ·conv=>whnf
         (refine zV [bA (b.drop 12),iv 4] ⟨AP (by omega),ri,tv⟩ ?_;refine zY q3 ?_)
         conv=>whnf
         try (refine tS ?_;conv=>whnf)
         exact tA
       ·conv=>whnf
        (refine zV [bA (b.drop 8),iv 4] ⟨AP (by omega),ri,tv⟩ ?_;refine zY q2 ?_)
        conv=>whnf
        (refine zV [bA (b.drop 12),iv 4] ⟨AP (by omega),ri,tv⟩ ?_;refine zY q3 ?_)
        conv=>whnf
        try (refine tS ?_;conv=>whnf)
        exact tA
      ·conv=>whnf
       (refine zV [bA (b.drop 4),iv 4] ⟨AP (by omega),ri,tv⟩ ?_;refine zY q1 ?_)
       conv=>whnf
       (refine zV [bA (b.drop 8),iv 4] ⟨AP (by omega),ri,tv⟩ ?_;refine zY q2 ?_)
       conv=>whnf
       (refine zV [bA (b.drop 12),iv 4] ⟨AP (by omega),ri,tv⟩ ?_;refine zY q3 ?_)
       conv=>whnf
       try (refine tS ?_;conv=>whnf)
       exact tA
     ·conv=>whnf
      refine zY q0 ?_;conv=>whnf
      (refine zV [bA (b.drop 4),iv 4] ⟨AP (by omega),ri,tv⟩ ?_;refine zY q1 ?_)
      conv=>whnf
      (refine zV [bA (b.drop 8),iv 4] ⟨AP (by omega),ri,tv⟩ ?_;refine zY q2 ?_)
      conv=>whnf
      (refine zV [bA (b.drop 12),iv 4] ⟨AP (by omega),ri,tv⟩ ?_;refine zY q3 ?_)
      conv=>whnf
      try (refine tS ?_;conv=>whnf)
      exact tA
    conv=>whnf
    rw [wb,show b.getD (Int.toNat 16) 0=b.getD 16 0 from rfl,<-n4];refine⟨⟨by omega,by omega,by omega,by omega⟩,?_⟩;conv=>whnf
    refine zV [bA (b.drop 17)] ⟨AP (by omega),tv⟩ ?_;refine zY hr ?_;conv=>whnf
    rw [wu];refine⟨⟨by omega,by omega,by omega,by omega⟩,?_⟩;conv=>whnf
    rw [F];conv=>whnf
    rw [wm];refine A5 (fun hq=>absurd hq (by simp only [bne_iff_ne,ne_eq] at *;omega)) (fun hq=>?_);conv=>whnf
    have hsub:∀ (c:Ctx) (v:Value),Rd (.sl 1 ((b.length:Int).toNat - ((17:Int)+u).toNat) fun i=> [AV.v (Value.int IntKind.u8 (b.getD (i+((17:Int)+u).toNat) 0).toNat)]) c v->Rd (bA (b.drop (17+u))) c v:=by
     rw [show ((17:Int)+u).toNat=17+u by omega];exact AP (by omega)
    have ha:∀ k,k<g.z.toNat->(g.d.toNat+1)+5<=(b.drop (17+u+(g.d.toNat+6)*k)).length:=fun k hk=>by
     have h1:(g.d.toNat+6)*(k+1)<=(g.d.toNat+6)*g.z.toNat:=Nat.mul_le_mul_left _ (by omega);rw [Nat.mul_succ,Nat.mul_comm (g.d.toNat+6) g.z.toNat] at h1;rw [Ak];omega
    refine zU Nat (fun k=>([(1,bA b),(2, .bp 0 0),(4, .bp 1 0),(6, .bp 2 0),(9,bA (b.drop (17+u+(g.d.toNat+6)*k))),(10,iv k)], [.box 24 (AK g), .box 28 [iv 0,iv 0,iv 0,iv 0,iv 0, .v (.string ⟨#[]⟩), .v (.slice none 0 0)], .box 28 [iv ((nums szA b).getD 0 0),iv ((nums szA b).getD 1 0),iv ((nums szA b).getD 4 0),iv ((nums szA b).getD 2 0),iv ((nums szA b).getD 3 0), .v (.string s), .ow 3 k], .row 108 3 ((ED (g.d.toNat+1) k (b.drop (17+u))).map DL)])) (fun k=>k<=g.z.toNat) (fun k=>g.z.toNat - k) 0 (Aj _)
     ?_ ?_
    ·refine⟨_,_,zK 9 (y:=bA (b.drop (17+u))) rfl hsub, [(1002006,108,3)],tA, [0,1,2,3],tA⟩
    ·intro k hk;conv=>whnf
     refine A5 (fun h6=>?_) (fun h6=>?_) <;> (repeat rw [Aa] at h6) <;> conv=>whnf
     ·have W:k<g.z.toNat:=by omega
      have N:=ha k W;have hE:=Ye (g.d.toNat+1) (b.drop (17+u+(g.d.toNat+6)*k)) N;have K:(b.drop (17+u+(g.d.toNat+6)*k)).drop (g.d.toNat+6)=b.drop (17+u+(g.d.toNat+6)*(k+1)):=by rw [Bc,Nat.mul_succ,CV]
      have V:(b.drop (17+u)).drop ((g.d.toNat+6)*k)=b.drop (17+u+(g.d.toNat+6)*k):=by rw [Bc]
      have C:=R5 (g.d.toNat+1) k (b.drop (17+u));rw [show (g.d.toNat+1+5)=g.d.toNat+6 from rfl,V] at C;generalize b.drop (17+u+(g.d.toNat+6)*k)=c at N hE K C |-
      refine zU Nat (fun i=>([(1,bA b),(2, .bp 0 0),(4, .bp 1 0),(6, .bp 2 0),(9,bA c),(10,iv k),(11, .bp 4 0),(12,iv i)], [.box 24 (AK g), .box 28 [iv 0,iv 0,iv 0,iv 0,iv 0, .v (.string ⟨#[]⟩), .v (.slice none 0 0)], .box 28 [iv ((nums szA b).getD 0 0),iv ((nums szA b).getD 1 0),iv ((nums szA b).getD 4 0),iv ((nums szA b).getD 2 0),iv ((nums szA b).getD 3 0), .v (.string s), .ow 3 k], .row 108 3 ((ED (g.d.toNat+1) k (b.drop (17+u))).map DL), .box 108 [.ow 5 i,iv 0,iv 0], .row 3 1 (Yy i c)])) (fun i=>i<=g.d.toNat+1) (fun i=>g.d.toNat+1 - i) 0 (Aj _)
       ⟨_,_,zC _ _, [(1004000,3,1)],tA, [0,1,2,3,4,5],tA⟩ ?_
      intro i hi;conv=>whnf
      refine A5 (fun h7=>?_) (fun h7=>?_) <;> (repeat rw [Aa] at h7) <;> conv=>whnf
      ·have hl:i=(Yy i c).length:=(SL i c).symm;apply zX (0) tys_ok mixed (.o [0,1,2,3,4,5,6,7,8,9,10] .fin) (by kernel_rfl);conv=>whnf
       try (refine tI ?_;conv=>whnf)
       try (refine tJ ?_;conv=>whnf)
       try (refine tK ?_;conv=>whnf)
       try (refine tS ?_;conv=>whnf)
       rw [wb];exact⟨i+1,by omega,by omega,zS (s:= [0,1,2,3,4,5]) ⟨⟨rfl,rfl,rfl,rfl,rfl,rfl,rfl,AG (by omega),tv⟩,⟨rfl,rfl,rfl,rfl,rfl,congrArg (fun l=>some (AB.row _ _ l)) (WT i c).symm,tv⟩,rfl,rfl,rfl,rfl,rfl⟩⟩
      ·have ei:i=g.d.toNat+1:=by omega
       subst ei;have w1:IntKind.i64.wrap (g.d+1)=g.d+1:=wi (by omega);have w2:IntKind.i64.wrap (g.d+2)=g.d+2:=wi (by omega);have w6:IntKind.i64.wrap (g.d+6)=g.d+6:=wi (by omega);have Z:=FB (c.drop (g.d.toNat+1+1)) 4 (by rw [Ak];omega) (by decide);apply zX (0) tys_ok mixed (.o [0,1,2,3,4,5,6,7,8,9,10,11,13,12,14,15,16] .fin) (by kernel_rfl);conv=>whnf
       try (refine tI ?_;conv=>whnf)
       try (refine tI ?_;conv=>whnf)
       (refine zV [bA (c.drop (g.d.toNat+1+1)),iv 4] ⟨(by rw [w2,show (g.d+2).toNat=g.d.toNat+1+1 by omega];exact AP (by omega)),ri,tv⟩ ?_;refine zY Z ?_)
       conv=>whnf
       try (refine tS ?_;conv=>whnf)
       try (refine tS ?_;conv=>whnf)
       rw [w1,wb,show (g.d+1).toNat=g.d.toNat+1 by omega];refine Ad (SL _ _).symm ?_;refine⟨rfl,?_⟩;refine⟨⟨by rw [Ab,N6],by omega⟩,?_⟩;conv=>whnf
       rw [w6];refine⟨⟨by omega,by omega,by omega,by omega⟩,?_⟩;conv=>whnf
       have e':SubL [.sl 1 (g.d.toNat+1) fun i=>(Yy (g.d.toNat+1) c).getD i [],iv ((c.getD (g.d.toNat+1) 0).toNat:Int),iv ((leN ((c.drop (g.d.toNat+1+1)).take 4):Nat):Int)] (DL (Kr (g.d.toNat+1) c)):=by
        rw [hE];refine⟨fun _ _ h=>zB (by simp) (fun i hi=>?_) h,fun _ _ h=>h,fun _ _ h=>h,tv⟩;have J:i<g.d.toNat+1:=by simpa using hi
        rw [Yy,EI J,EI J]
       have U:∀ (c':Ctx) (v:Value),Rd (.sl 1 ((c.length:Int).toNat - (g.d+6).toNat) fun i=> [AV.v (Value.int IntKind.u8 (c.getD (i+(g.d+6).toNat) 0).toNat)]) c' v->Rd (bA (b.drop (17+u+(g.d.toNat+6)*(k+1)))) c' v:=by
        rw [<-K,show (g.d+6).toNat=g.d.toNat+6 by omega];exact AP (by omega)
       refine⟨k+1,by omega,by omega,zI (zQ (zL (ConvH.last 3 rfl e')) (zK 9 (y:=bA (b.drop (17+u+(g.d.toNat+6)*(k+1)))) rfl U)) (s:= [0,1,2,3]) ⟨⟨rfl,rfl,rfl,rfl,rfl,AG (by omega),tv⟩,⟨rfl,rfl,rfl,congrArg (fun l=>some (AB.row _ _ l)) (by rw [C,A8];try rfl),tv⟩,rfl,rfl,rfl,rfl,rfl⟩⟩
     ·have ek:k=g.z.toNat:=by omega
      subst ek;have hc:A.label.size<=1000000:=by rw [hA];show s.size<=_;omega
      have L:=Rq g A hg hc;rw [hA] at L;have X:(ED (g.d.toNat+1) g.z.toNat (b.drop (17+u))).length=g.z.toNat:=N6 _ _ _;refine ACalls.lendBox (cs2:= [iv ((nums szA b).getD 0 0),iv ((nums szA b).getD 1 0),iv ((nums szA b).getD 4 0),iv ((nums szA b).getD 2 0),iv ((nums szA b).getD 3 0), .v (.string s), .sl 3 ((ED (g.d.toNat+1) g.z.toNat (b.drop (17+u))).map DL).length fun i=>((ED (g.d.toNat+1) g.z.toNat (b.drop (17+u))).map DL).getD i []]) 2 3 rfl rfl ?_ ?_
      ·show [_,_,_,_,_,_,AV.slIn 3 _ _ (.ow 3 g.z.toNat)]=_;rw [AV.slIn,if_pos rfl,if_pos (by rw [Ab,X])];try rfl
      have G:SubL [iv ((nums szA b).getD 0 0),iv ((nums szA b).getD 1 0),iv ((nums szA b).getD 4 0),iv ((nums szA b).getD 2 0),iv ((nums szA b).getD 3 0), .v (.string s), .sl 3 ((ED (g.d.toNat+1) g.z.toNat (b.drop (17+u))).map DL).length fun i=>((ED (g.d.toNat+1) g.z.toNat (b.drop (17+u))).map DL).getD i []] (Ek (MK (g.d.toNat+1) g.z.toNat b s u)):=⟨ri,ri,ri,ri,ri,ri,AU (f:=DL) (ED (g.d.toNat+1) g.z.toNat (b.drop (17+u))) (by rw [Ab]) rfl,tv⟩;refine zV [.ag (AK g), .ag (Ek (MK (g.d.toNat+1) g.z.toNat b s u))] ⟨ri,Bf G,tv⟩ ?_;refine zY L ?_;conv=>whnf
      rw [<-hA];cases I:Bj g A with
      | false=>
       rw [j,I];exact⟨_,G4 _,rfl⟩
      | true=>
       rw [j,I];conv=>whnf
       exact⟨.tp [.ag (Ek A), .v (.bool true)],BN ⟨Bf (by rw [hA];exact G),ri,tv⟩,rfl⟩
   ·have hN:Fp g b=none:=by rw [j,if_pos O]
    rw [hN];refine zR Tryz.func295 rfl ?_;conv=>whnf
    refine A5 (fun hq=>absurd hq (by omega)) (fun hq=>?_);conv=>whnf
    apply z8 (0) tys_ok mixed (.o [0,2,3,5,6,8,9,11,12,13,14] (.two 1 (.two 4 (.two 7 (.two 10 (.o [15,16,17] .fin) 16 (.o [10,15,17] .fin)) 16 (.o [7,10,15,17] .fin)) 16 (.o [4,7,10,15,17] .fin)) 16 (.o [1,4,7,10,15,17] .fin))) [6,17,18,19,20,21,22,23,24,25,26,27,28,29,30,31,32] (by kernel_rfl)
    ·conv=>whnf
     try (refine tI ?_;conv=>whnf)
     try (refine tI ?_;conv=>whnf)
     try (refine tI ?_;conv=>whnf)
     try (refine tI ?_;conv=>whnf)
     refine Ad ?_ ?_
     ·conv=>whnf
      refine zY q0 ?_;refine Ad ?_ ?_
      ·conv=>whnf
       (refine zV [bA (b.drop 4),iv 4] ⟨AP (by omega),ri,tv⟩ ?_;refine zY q1 ?_)
       refine Ad ?_ ?_
       ·conv=>whnf
        (refine zV [bA (b.drop 8),iv 4] ⟨AP (by omega),ri,tv⟩ ?_;refine zY q2 ?_)
        refine Ad ?_ ?_
        ·conv=>whnf
         (refine zV [bA (b.drop 12),iv 4] ⟨AP (by omega),ri,tv⟩ ?_;refine zY q3 ?_)
         conv=>whnf
         try (refine tS ?_;conv=>whnf)
         exact tA
        ·conv=>whnf
         (refine zV [bA (b.drop 12),iv 4] ⟨AP (by omega),ri,tv⟩ ?_;refine zY q3 ?_)
         conv=>whnf
         try (refine tS ?_;conv=>whnf)
         exact tA
       ·conv=>whnf
        (refine zV [bA (b.drop 8),iv 4] ⟨AP (by omega),ri,tv⟩ ?_;refine zY q2 ?_)
        conv=>whnf
        (refine zV [bA (b.drop 12),iv 4] ⟨AP (by omega),ri,tv⟩ ?_;refine zY q3 ?_)
        conv=>whnf
        try (refine tS ?_;conv=>whnf)
        exact tA
      ·conv=>whnf
       (refine zV [bA (b.drop 4),iv 4] ⟨AP (by omega),ri,tv⟩ ?_;refine zY q1 ?_)
       conv=>whnf
       (refine zV [bA (b.drop 8),iv 4] ⟨AP (by omega),ri,tv⟩ ?_;refine zY q2 ?_)
       conv=>whnf
       (refine zV [bA (b.drop 12),iv 4] ⟨AP (by omega),ri,tv⟩ ?_;refine zY q3 ?_)
       conv=>whnf
       try (refine tS ?_;conv=>whnf)
       exact tA
     ·conv=>whnf
      refine zY q0 ?_;conv=>whnf
      (refine zV [bA (b.drop 4),iv 4] ⟨AP (by omega),ri,tv⟩ ?_;refine zY q1 ?_)
      conv=>whnf
      (refine zV [bA (b.drop 8),iv 4] ⟨AP (by omega),ri,tv⟩ ?_;refine zY q2 ?_)
      conv=>whnf
      (refine zV [bA (b.drop 12),iv 4] ⟨AP (by omega),ri,tv⟩ ?_;refine zY q3 ?_)
      conv=>whnf
      try (refine tS ?_;conv=>whnf)
      exact tA
    conv=>whnf
    rw [wb,show b.getD (Int.toNat 16) 0=b.getD 16 0 from rfl,<-n4];refine⟨⟨by omega,by omega,by omega,by omega⟩,?_⟩;conv=>whnf
    refine zV [bA (b.drop 17)] ⟨AP (by omega),tv⟩ ?_;refine zY hr ?_;conv=>whnf
    rw [wu];refine⟨⟨by omega,by omega,by omega,by omega⟩,?_⟩;conv=>whnf
    rw [F];conv=>whnf
    rw [wm];refine A5 (fun hq=>?_) (fun hq=>absurd hq (by omega));exact⟨_,G4 _,rfl⟩
theorem Vz (g:Geo) (x:Gt) (addr:Int) (hg:Bq g=true) (hx:x.bytes.length<=100000):Fn Tryz.prog 215 [.ag (AK g), .ag (Dt x),iv addr] fun r=>r = .tp [.ag (Ek ((EL g x addr).getD an0)), .v (.bool (EL g x addr).isSome)]:=by
 have hs:=Iu x addr hx;by_cases h1:x.err=0/\Df x.bytes=0/\Cx x.bytes=addr
 ·have hr:=Tm g (CE x.bytes) hg (by have:=QS x.bytes;omega);have hS:EL g x addr=match Fp g (CE x.bytes) with | some a=>if a.gen=Cr x.bytes then some a else none | none=>none:=by rw [EL,if_pos h1];try rfl
  have hO:BY x addr=some ⟨Cx x.bytes,Cr x.bytes,CE x.bytes⟩:=by
   unfold BY;simp [h1.1,h1.2.1,h1.2.2]
  rw [hO] at hs;cases hR:Fp g (CE x.bytes) with
  | none=>
   rw [hR] at hr hS;rw [hS];refine zR Tryz.func215 rfl ?_;conv=>whnf
   refine zY hs ?_;conv=>whnf
   refine zY hr ?_;exact⟨_,G4 _,rfl⟩
  | some a=>
   rw [hR] at hr hS;by_cases h4:a.gen=Cr x.bytes
   ·have hS:EL g x addr=some a:=hS.trans (if_pos h4);rw [hS];refine zR Tryz.func215 rfl ?_;conv=>whnf
    refine zY hs ?_;conv=>whnf
    refine zY hr ?_;conv=>whnf
    refine A5 (fun hq=>absurd h4 hq) (fun _=>?_);exact⟨_,ri,rfl⟩
   ·have hS:EL g x addr=none:=hS.trans (if_neg h4);rw [hS];refine zR Tryz.func215 rfl ?_;conv=>whnf
    refine zY hs ?_;conv=>whnf
    refine zY hr ?_;conv=>whnf
    refine A5 (fun _=>?_) (fun hq=>absurd hq h4);exact⟨_,G4 _,rfl⟩
 ·have hS:EL g x addr=none:=by rw [EL,if_neg h1]
  have hO:BY x addr=none:=by
   unfold BY;rw [if_neg h1]
  rw [hO] at hs;rw [hS];refine zR Tryz.func215 rfl ?_;conv=>whnf
  refine zY hs ?_;exact⟨_,G4 _,rfl⟩
def bd (p:Option (An × Nat)):Int:=match p with | some (_,i)=>i | none=> -1
theorem QY (g:Geo) (l:List Gt) (hg:Bq g=true) (hl:l.length<=1000000) (hb:∀ x∈l,x.bytes.length<=100000):Fn Tryz.prog 127 [.ag (AK g),Ij l] fun r=>r = .tp [.ag (Ek (be (H5 g l))),iv (bd (H5 g l))]:=by
 refine zR Tryz.func127 rfl ?_;conv=>whnf
 refine zU Nat (fun k=>([(1,Ij l),(2, .bp 0 0),(4, .bp 1 0),(6, .bp 2 0),(7,iv (bd (FG g l k))),(8,iv k)], [.box 24 (AK g), .box 28 [iv 0,iv 0,iv 0,iv 0,iv 0, .v (.string ⟨#[]⟩), .v (.slice none 0 0)], .box 28 (Ek (be (FG g l k)))])) (fun k=>k<=l.length) (fun k=>l.length - k) 0 (Aj _)
  (zI (zL (zu 2 rfl an0_sub)) (s:= [0,1,2]) tA) ?_
 intro k hk;have f:=IM g l k;conv=>whnf
 refine A5 (fun h6=>?_) (fun h6=>?_) <;> (repeat rw [Aa] at h6) <;> conv=>whnf
 ·have h:k<l.length:=by omega
  have hx:=hb _ (A3 (d:=(⟨0, []⟩:Gt)) h);have h2:=Vz g (l.getD k ⟨0, []⟩) k hg hx;rw [P9] at f;repeat' (refine zZ ?_;conv=>whnf)
  apply z8 (0) tys_ok mixed (.o [0,1,2,3,4,5] (.two 6 (.o [7,8,9,10,11,12] .fin) 10 (.o [6,7,8,9,11,12] .fin))) [9,10,17,18,19,20,21,22,23,24,25,26] (by kernel_rfl)
  ·conv=>whnf
   try (refine tI ?_;conv=>whnf)
   refine Ad ?_ ?_
   ·conv=>whnf
    (rw [Aa];refine zY h2 ?_)
    conv=>whnf
    try (refine tS ?_;conv=>whnf)
    exact tA
   ·conv=>whnf
    (rw [Aa];refine zY h2 ?_)
    conv=>whnf
    try (refine tS ?_;conv=>whnf)
    exact tA
  conv=>whnf
  generalize EL g (l.getD k ⟨0, []⟩) (k:Nat)=S at f |-
  generalize FG g l k=P at f |-
  cases S with
  | none=>
   conv=>whnf
   repeat' (refine zZ ?_;conv=>whnf)
   refine⟨k+1,h,by omega,?_⟩;rw [show FG g l (k+1)=P from f];exact zS (s:= [0,1,2]) ⟨⟨rfl,rfl,rfl,rfl,rfl,AG (by omega),tv⟩,tA,rfl,rfl,rfl,rfl,rfl⟩
  | some b=>
   cases P with
   | none=>
    conv=>whnf
    repeat' (refine zZ ?_;conv=>whnf)
    refine⟨k+1,h,by omega,?_⟩;rw [show FG g l (k+1)=some (b,k) from f];exact zS (s:= [0,1,2]) ⟨⟨rfl,rfl,rfl,rfl,rfl,AG (by omega),tv⟩,tA,rfl,rfl,rfl,rfl,rfl⟩
   | some q=>
    obtain⟨a,j⟩:=q;conv=>whnf
    by_cases h5:a.gen<b.gen
    ·have e:FG g l (k+1)=some (b,k):=f.trans (if_pos h5);refine A5 (fun h7=>?_) (fun h7=>absurd h5 (Int.not_lt.2 (show b.gen<=a.gen from h7)));conv=>whnf
     repeat' (refine zZ ?_;conv=>whnf)
     refine⟨k+1,h,by omega,?_⟩;rw [e];exact zS (s:= [0,1,2]) ⟨⟨rfl,rfl,rfl,rfl,rfl,AG (by omega),tv⟩,tA,rfl,rfl,rfl,rfl,rfl⟩
    ·have e:FG g l (k+1)=some (a,j):=f.trans (if_neg h5);refine A5 (fun h7=>absurd (show a.gen<b.gen from h7) h5) (fun h7=>?_);conv=>whnf
     repeat' (refine zZ ?_;conv=>whnf)
     refine⟨k+1,h,by omega,?_⟩;rw [e];exact zS (s:= [0,1,2]) ⟨⟨rfl,rfl,rfl,rfl,rfl,AG (by omega),tv⟩,tA,rfl,rfl,rfl,rfl,rfl⟩
 ·have ek:k=l.length:=by omega
  subst ek;exact⟨_,ri,rfl⟩
section
variable {g:Geo} {a:An} {x y:List Gt} {pos seq left:Int}
end

def eK (d:Dk) (k:Nat):Int:=if d.live k then 0 else 8
def gK (d:Dk) (k:Nat) (a:Int):Gt:=if d.live k then Up d a else ⟨8, []⟩
theorem Kl {d:Dk} {j k:Nat} (h:d.live k) (hj:j<=k):d.live j:=by unfold Dk.live at *;omega
theorem Xk {d:Dk} (hl : -1<=d.left):∀ k,¬d.live k->(d.adv k).left=0
 | 0,h=>by exfalso;apply h;unfold Dk.live;omega
 | k+1,h=>by
  by_cases hk:d.live k
  ·have:=Xl k d h hk;rw [JT k (k+1) d this (by omega)];exact this
  ·have:=Xk hl k hk;rw [JT k (k+1) d this (by omega)];exact this
theorem Oq (g:Geo) (s:Stt) (d:Dk) (k:Nat) (a:Int) (h:DkOk d) (ha:0<=a/\a<d.cells.length) :
  ACalls Tryz.prog false 126 [.bp 0 0,iv a] (Jw g s (eK d k) (d.adv k)) fun r H=>r = .ag (Dt (gK d (k+1) a))/\H=Jw g s (eK d (k+1)) (d.adv (k+1)):=by
 have hd:=h.adv k;have hn:=(GW k d).1;have hl:=h.l;unfold eK gK;by_cases hk:d.live k
 ·have hr:=Zf g s (d.adv k) a hd (by rw [hn];exact ha);rw [if_pos hk];by_cases h0:(d.adv k).left=0
  ·have f:=(Q8 k d hl.1 hk).1 h0;rw [if_pos h0,Tw a h0] at hr;rw [if_neg f,if_neg f,JT k (k+1) d h0 (by omega)];exact hr
  ·have f:d.live (k+1):=by
    by_cases e:d.live (k+1)
    ·exact e
    ·exact absurd ((Q8 k d hl.1 hk).2 e) h0
   rw [if_neg h0,Tv a h0] at hr;rw [if_pos f,if_pos f];exact hr
 ·have f:¬d.live (k+1):=fun h=>hk (Kl h (by omega))
  have h0:=Xk hl.1 k hk;rw [if_neg hk,if_neg f,if_neg f,JT k (k+1) d h0 (by omega)];exact Zg g s 8 (d.adv k) a (by decide)
theorem Xr (g:Geo) (s:Stt) (d:Dk) (l:List Wr) (k:Nat) (h:DkOk d) (hl:∀ w∈l,OW d.cells.length w) (hk:k<l.length) :
  ACalls Tryz.prog false 129 [.bp 0 0, .v (.int .i64 (l.getD k ⟨0, []⟩).addr),bA (l.getD k ⟨0, []⟩).bytes] (Jw g s (U2 (d.writes (l.take k)).2.2) (d.writes (l.take k)).1) fun r H=>(∃ b,r = .v (.bool b))/\H=Jw g s (U2 (d.writes (l.take (k+1))).2.2) (d.writes (l.take (k+1))).1:=by
 have hd:=GB h hl k;have hm:=hl _ (A3 (d:=(⟨0, []⟩:Wr)) hk);have i:=fun hlv=>Ji (d:=d) hk hlv
 have f:=fun hlv=>K6 (d:=d) hk hlv
 generalize d.writes (l.take (k+1))=Q' at i f |-
 generalize d.writes (l.take k)=Q at hd i f |-
 obtain⟨X,N,dead⟩:=Q;simp only at hd i f |-
 cases dead with
 | true=>
  rw [f rfl];exact(Vu g s 8 X _ _ (by decide)).mono fun r H h=>⟨⟨false,h.1⟩,h.2⟩
 | false=>
  rw [i rfl];have hc:=Vt g s X (l.getD k ⟨0, []⟩).addr (l.getD k ⟨0, []⟩).bytes hd.1 (by rw [hd.2];exact hm.1) hm.2;refine hc.mono fun r H h=>⟨⟨_,h.1⟩,?_⟩
  rw [h.2];show Jw g s _ _=Jw g s (if decide _=true then 8 else 0) _;congr 1;by_cases h8:(X.write (l.getD k ⟨0, []⟩).addr (l.getD k ⟨0, []⟩).bytes).2=8
  ·rw [if_pos h8,if_pos (decide_eq_true h8)]
  ·rw [if_neg h8,if_neg (by rw [decide_eq_false h8];decide)]
def VC (d:Dk) (ats:List Int) (k:Nat):List Gt:=(List.range k).map fun j=>gK d (j+1) (ats.getD j 0)
theorem VB (d:Dk) (ats:List Int) (k:Nat):(VC d ats (k+1)).map Dt=(VC d ats k).map Dt ++ [Dt (gK d (k+1) (ats.getD k 0))]:=by simp [VC,Bp]
theorem XD (d:Dk) (ats:List Int) (k:Nat):(VC d ats k).length=k:=by simp [VC]
theorem XE {d:Dk} {ats:List Int} (h:d.live ats.length):VC d ats ats.length=BA d ats:=by
 apply List.ext_getElem
 ·simp [VC,BA]
 ·intro i h1 h2;have hi:i<ats.length:=by simpa [VC] using h1
  simp only [VC,BA,List.getElem_map,List.getElem_range];rw [gK,if_pos (Kl h (by omega)),Ac,Ag hi];try rfl
def XF (d:Dk) (g:Geo) (c:Nat) (k:Nat):List Gt:=(List.range k).map fun j=>gK d (2*j+1+c) (Bi g (c:Nat) (j:Nat))
theorem Pw (d:Dk) (g:Geo) (c:Nat) (k:Nat):(XF d g c (k+1)).map Dt=(XF d g c k).map Dt ++ [Dt (gK d (2*k+1+c) (Bi g (c:Nat) (k:Nat)))]:=by simp [XF,Bp]
theorem Sr (d:Dk) (g:Geo) (c:Nat) (k:Nat):(XF d g c k).length=k:=by simp [XF]
theorem Ss {d:Dk} {g:Geo} {c:Nat} (hc:c<=1) (h:d.live (2*g.sl.toNat)):XF d g c g.sl.toNat=BA d (BU g (c:Nat)):=by
 unfold XF BA BU;rw [List.map_map];refine CJ fun j hj=>?_
 have hj:=AS.1 hj;rw [gK,if_pos (Kl h (by omega))];try rfl
end
end Go.Proofs.YtpjkcgacjjbikaaGreatDoor.A
