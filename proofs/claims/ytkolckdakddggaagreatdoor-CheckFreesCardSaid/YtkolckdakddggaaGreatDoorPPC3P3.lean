/-
Several texts in one.
-/
import Derived.Test.YtkolckdakddggaaGreatDoorPPC3P1
import Derived.RangeFuncNested
import Derived.RangeFuncBound
import Derived.RangeFuncCalls
import Derived.RangeFuncLeaves
import Derived.RangeFuncBox
import Derived.TacticsIn
import Derived.Shelf.Abstract
import Derived.Shelf.RegionOpen
import Derived.OwnWalkIn
import Derived.TacticsInMore
import Derived.LoopNIn
import Derived.LoopIn
import Derived.Test.YtkolckdakddggaaGreatDoorPPC3P2
import Derived.Test.YtkolckdakddggaaGreatDoorPPC3P0
import Derived.Lib.Overlaps
import Derived.Laws.Externs
set_option linter.defProp false
set_option maxRecDepth 100000
set_option maxHeartbeats 8000000
set_option linter.unusedSimpArgs false
set_option linter.unusedVariables false
set_option linter.deprecated false
namespace Go.Proofs.YtkolckdakddggaaGreatDoor.A
section
open Go.RowKit
section
variable {P:Program} {T:Tys} {w0:Fl} {M0:Ms} {n d0:Nat} {ce:Ctx} {l m:Nat}
theorem ON {row:String} {args:Array Value} {w:World} {R:Value->World->Prop} (h:Rows P row args w R):RowsIn (Fence.wide.inRound l) m P row args w R:=
 fun c cs _=>let ⟨v,w',r,s⟩:=h c cs;⟨v,w',r,stepsIn_wide.2 s⟩
theorem H8 {o:Oper} {a:Act} {w:World} {next:Act->World->Prop} {Q:Exit->Act->World->Prop} (hd:∀ c,o.op≠ .defer c) (h:o.wp P a w next Q):o.wpIn (Fence.wide.inRound l) m P a w next Q:=by
 refine⟨fun _ _=>trivial,?_⟩;rw [show (Fence.wide.inRound l).round=some l from rfl,Oper.semAt_some l a.eval o hd];unfold Oper.wp at h;revert h;generalize (execOp a.eval o).run P w=r;intro h;cases r with
 | ok x w'=>
  cases x with
  | value v=>exact h
  | skip=>exact h
  | defer d=>exact h
  | enter f args=>exact⟨fun e=>(by cases e),CallsIn.inRound l (callsIn_wide.2 h)⟩
  | row r args=>exact⟨fun e=>(by cases e),ON h⟩
  | _=>exact h.elim
 | halt x w'=>
  cases x with
  | panic v=>exact h
  | _=>exact h.elim
def roundOk:Code->Bool
 | .skip=>true
 | .exit _=>true
 | .ret=>true
 | .region _ ops draw=>!draw&&ops.toList.all ao
 | .seq a b=>roundOk a&&roundOk b
 | .cond _ a b=>roundOk a&&roundOk b
 | .block _ c=>roundOk c
 | .rangeFunc _ _ _ body=>noRF body
 | _=>false
theorem Z7 {o:Oper} (h:ao o=true):∀ c,o.op≠ .defer c:=by
 intro c e;unfold ao at h;rw [e] at h;cases h
theorem Jq (hT:TOk P T) {ops:Array Oper} {K:Fr->List AB->Prop} {Q:Exit->Act->World->Prop} (hq:∀ a w,E6 w0 M0 ce n K a w->Q .normal a w) :
  ∀ (r:List Oper) (c:Ctx) (fr:Fr) (H:List AB) (a:Act),r.all ao=true->HS w0 M0 c H->FR w0 c n fr a->Ext ce c->OX P T n ops.toList r fr H K->wpListIn (Fence.wide.inRound l) m P ops Q r a c.w
 | [],c,fr,H,a,_,hs,hf,he,h=>hq _ _ ⟨c,fr,H,rfl,h,hs,hf,he⟩
 | o::r,c,fr,H,a,hr,hs,hf,he,h=>by
  simp only [Bc,Ae] at hr;simp only [OX] at h;unfold wpListIn;rcases DI (ops:=ops) hf h with ⟨hw,fr',hf',h⟩ | ⟨hw,fr',hf',h⟩
  ·rw [if_pos hw];refine H8 (Z7 hr.1) (Gb hT hs hf' he h ?_);rintro a' w' ⟨c',fr2,H',rfl,h1,h2,h3,h4⟩ -
   exact Jq hT hq r c' fr2 H' a' hr.2 h2 h3 h4 h1
  ·rw [if_neg (by rw [hw];simp)];obtain⟨fr2,h1,h2⟩:=CA (v:=undef) hf' (by simp [Rd]) h;exact⟨fun _ _=>trivial,Jq hT hq r c fr2 H _ hr.2 hs h2 he h1⟩
theorem CC (hT:TOk P T) (hd:ce.dom=d0):∀ (cd:Code) (Q:QA) (Q':Exit->Act->World->Prop) (c:Ctx) (fr:Fr) (H:List AB) (a:Act),roundOk cd=true->(noRF cd=true\/(3<=m/\∃ r,ce.w.heap[l]? = some (.loop r)/\¬ce.M l))->(∀ e a w,LiftQ w0 M0 ce n Q e a w->Q' e a w)->HS w0 M0 c H->FR w0 c n fr a->Ext ce c->
  C5 P T n d0 cd Q fr H->cd.wpIn (Fence.wide.inRound l) m P Q' a c.w
 | .skip,Q,Q',c,fr,H,a,_,_,hq,hs,hf,he,h=>wpIn_skip (hq .normal _ _ ⟨c,fr,H,rfl,h,hs,hf,he⟩)
 | .region id ops draw,Q,Q',c,fr,H,a,hr,hm,hq,hs,hf,he,h=>by
  simp only [roundOk,Ae,Br] at hr;obtain⟨rfl,hr⟩:=hr;simp only [C5] at h;exact wpIn_region_list (Jq hT (fun a w hl=>hq .normal a w hl) ops.toList c fr H a hr hs hf he h)
 | .seq x y,Q,Q',c,fr,H,a,hr,hm,hq,hs,hf,he,h=>by
  simp only [roundOk,Ae] at hr;have hm1:=hm.imp_left fun h=>(by simp only [noRF,Ae] at h;exact h.1)
  have hm2:=hm.imp_left fun h=>(by simp only [noRF,Ae] at h;exact h.2)
  simp only [C5] at h;have plain:C5 P T n d0 x (EX.then (fun fr H=>C5 P T n d0 y Q fr H) Q) fr H->(Code.seq x y).wpIn (Fence.wide.inRound l) m P Q' a c.w:=by
   intro h;refine wpIn_seq_k fun K hK=>CC hT hd x _ _ c fr H a hr.1 hm1 (z8 ?_ hq) hs hf he h
   rintro a' w' ⟨c',fr',H',rfl,h1,h2,h3,h4⟩;exact hK _ _ (CC hT hd y Q Q' c' fr' H' a' hr.2 hm2 hq h2 h3 h4 h1)
  split at h
  ·rcases h.ex with h | ⟨ι,st,I,h,hk⟩ | ⟨ι,st,I,h,hk⟩ | ⟨ι,st,I,h,hk⟩
   ·exact plain h
   ·refine wpIn_seq_k fun K hK=>CC hT hd x _ _ c fr H a hr.1 hm1 (z8 ?_ hq) hs hf he h
    rintro a' w' ⟨c',fr',H',rfl,⟨z,hI,hw⟩,h2,h3,h4⟩;obtain⟨c4,e4,hs4,hf4,he4⟩:=hw.sound hd h2 h3 h4;rw [<-e4];exact hK _ _ (CC hT hd y Q Q' c4 _ _ a' hr.2 hm2 hq hs4 hf4 he4 (hk z hI))
   ·refine wpIn_seq_k fun K hK=>CC hT hd x _ _ c fr H a hr.1 hm1 (z8 ?_ hq) hs hf he h
    rintro a' w' ⟨c',fr',H',rfl,⟨z,hI,hw⟩,h2,h3,h4⟩;obtain⟨c4,e4,hs4,hf4,he4⟩:=hw.sound hd h2 h3 h4;rw [<-e4];exact hK _ _ (CC hT hd y Q Q' c4 _ _ a' hr.2 hm2 hq hs4 hf4 he4 (hk z hI))
   ·refine wpIn_seq_k fun K hK=>CC hT hd x _ _ c fr H a hr.1 hm1 (z8 ?_ hq) hs hf he h
    rintro a' w' ⟨c',fr',H',rfl,⟨z,hI,hw⟩,h2,h3,h4⟩;obtain⟨c4,e4,hs4,hf4,he4⟩:=hw.sound hd h2 h3 h4;rw [<-e4];exact hK _ _ (CC hT hd y Q Q' c4 _ _ a' hr.2 hm2 hq hs4 hf4 he4 (hk z hI))
  ·exact plain h
 | .cond x y z,Q,Q',c,fr,H,a,hr,hm,hq,hs,hf,he,h=>by
  simp only [roundOk,Ae] at hr;have hm1:=hm.imp_left fun h=>(by simp only [noRF,Ae] at h;exact h.1)
  have hm2:=hm.imp_left fun h=>(by simp only [noRF,Ae] at h;exact h.2)
  simp only [C5] at h;split at h
  ·rename_i t ht;have hrd:=hf.ev x;rw [ht] at hrd;simp only [Rd] at hrd;obtain⟨h1,h2⟩:=Fg h;refine wpIn_cond_split hrd (fun e=>?_) fun e=>?_
   ·exact CC hT hd y Q Q' c fr H a hr.1 hm1 hq hs hf he (h1 e)
   ·exact CC hT hd z Q Q' c fr H a hr.2 hm2 hq hs hf he (h2 e)
  ·exact h.elim
 | .block id x,Q,Q',c,fr,H,a,hr,hm,hq,hs,hf,he,h=>by
  simp only [roundOk] at hr;simp only [noRF] at hm;simp only [C5] at h;refine wpIn_block (CC hT hd x _ _ c fr H a hr hm ?_ hs hf he h);intro e a' w' hl;cases e with
  | normal=>exact hq .normal _ _ hl
  | exit i=>
   simp only [Exit.inBlock];have hl:E6 w0 M0 ce n (match Nat.beq i id with | true=>Q .normal | false=>Q (.exit i)) a' w':=by
    have e:(EX.inBlock id Q (EX.exit i))=(match Nat.beq i id with | true=>Q .normal | false=>Q (.exit i)):=by
     funext fr H;simp only [EX.inBlock];cases Nat.beq i id <;> rfl
    rw [<-e];exact hl
   by_cases hi:i=id
   ·subst hi;rw [if_pos rfl];rw [Nat.beq_refl] at hl;exact hq .normal _ _ hl
   ·rw [if_neg hi];have hb:Nat.beq i id=false:=by
     cases hq:Nat.beq i id with
     | true=>exact absurd (Am hq) hi
     | false=>rfl
    rw [hb] at hl;exact hq (.exit i) _ _ hl
  | ret=>exact hq .ret _ _ hl
  | _=>exact hl.elim
 | .exit id,Q,Q',c,fr,H,a,_,_,hq,hs,hf,he,h=>wpIn_exit (hq (.exit id) _ _ ⟨c,fr,H,rfl,h,hs,hf,he⟩)
 | .ret,Q,Q',c,fr,H,a,_,_,hq,hs,hf,he,h=>wpIn_ret (hq .ret _ _ ⟨c,fr,H,rfl,h,hs,hf,he⟩)
 | .loop _,_,_,_,_,_,_,hr,_,_,_,_,_,_=>by simp [roundOk] at hr
 | .rangeFunc g ps asg body,Q,Q',c,fr,H,a,hr,hm,hq,hs,hf,he,h=>by
  simp only [roundOk] at hr;rcases hm with hm | ⟨hm,r,h1,h2⟩
  ·simp [noRF] at hm
  ·simp only [C5] at h;have hk:=he.keep l (Ay.1 h1).1 h2;exact h.wpR hr w0 M0 ce c a hs hf he hd l r m (hk.2.trans h1) hm Q' fun ex c' fr' H' a' q1 q2 q3 q4=>by
    cases ex <;> exact hq _ _ _ ⟨c',fr',H',rfl,q1,q2,q3,q4⟩
 | .label _,_,_,_,_,_,_,hr,_,_,_,_,_,_=>by simp [roundOk] at hr
 | .goto _,_,_,_,_,_,_,hr,_,_,_,_,_,_=>by simp [roundOk] at hr
 | .scope _,_,_,_,_,_,_,hr,_,_,_,_,_,_=>by simp [roundOk] at hr
 | .refuse _,_,_,_,_,_,_,hr,_,_,_,_,_,_=>by simp [roundOk] at hr
end
def Dt (n j:Nat):List Nat:=(List.range j).map fun i=>n - 1 - i
structure IsBack (P:Program) (gf:FuncId) (sz:Nat):Prop where
 enters:∀ args w,(callFunc gf args).run P w = .ok (.enter gf args) w
 seq:∀ (m:Nat),1<=m->∀ (B:Nat) (a:Option Addr) (len cap:Nat) (X:Nat->List Value) (w:World),len<=1000000000->w.cell? ⟨B,0,none⟩=some (.slice a len cap)->(∀ j,(X j).length=sz)->
  (0<len->∃ b off,a=some ⟨b,off,none⟩/\b<w.heap.size/\∀ j,j<len->∀ (i:Nat) (u:Value),(X j)[i]? = some u->w.cell? ⟨b,off+j*sz+i,none⟩=some u)->
  SeqStopsK Fence.wide m P gf #[.pointer (some ⟨B,0,none⟩)] (fun x:Fin len=> #[Value.int .i64 x.val, .agg (X x.val).toArray]) (Below w.heap.size) (fun ys=>ys.map Fin.val=Dt len len) (fun pre=>∃ k,k<=len/\pre.map Fin.val=Dt len k) len w

section
variable {P:Program} {T:Tys} {w0:Fl} {M0:Ms} {n d0:Nat} {ce:Ctx}
theorem RdAt.raw:∀ (l:List AV) {c:Ctx} {b off:Nat},RdAt l c b off->RdL l c ((List.range' off l.length).map fun i=>(c.w.cell? ⟨b,i,none⟩).getD undef)
 | [],_,_,_,_=>by simp [RdL]
 | x::l,c,b,off,h=>by
  simp only [RdAt] at h;obtain⟨⟨u,h1,_,h3⟩,h4⟩:=h;simp only [Al,List.range'_succ,A0,RdL];exact⟨_,_,rfl,by rw [h1];exact h3,RdAt.raw l h4⟩
theorem RdAt.some:∀ (l:List AV) {c:Ctx} {b off:Nat},RdAt l c b off->∀ i,i<l.length->∃ u,c.w.cell? ⟨b,off+i,none⟩=some u
 | [],_,_,_,_,i,hi=>by simp at hi
 | x::l,c,b,off,h,i,hi=>by
  simp only [RdAt] at h;obtain⟨⟨u,h1,_,h3⟩,h4⟩:=h;cases i with
  | zero=>exact⟨u,h1⟩
  | succ i=>
   obtain⟨v,hv⟩:=RdAt.some l h4 i (by simpa using hi);exact⟨v,by rw [show off+(i+1)=off+1+i by omega];exact hv⟩
def noIter:List AB->Bool
 | []=>true
 | .iter _ _::_=>false
 | _::r=>noIter r
theorem noIter_get:∀ {H:List AB},noIter H=true->∀ (k:Nat) (s:ByteArray) (p:Nat),H[k]? ≠some (.iter s p)
 | [],_,_,_,_,h=>by simp at h
 | x::r,h,k,s,p,hk=>by
  cases k with
  | zero=>simp at hk;subst hk;simp [noIter] at h
  | succ k=>
   simp at hk;refine noIter_get (H:=r) ?_ k s p hk;cases x <;> first | exact h | (simp [noIter] at h)
theorem HS.cells {c:Ctx} {H:List AB} (h:HS w0 M0 c H) (hni:noIter H=true) {k:Nat} {x:AB} {g:Nat} (hk:H[k]? = some x) (hl:x.live=true) (hg:oB (c.rho k)=some g):∃ o:Obj,c.w.heap[g]? = some o/\o.isCells=true:=by
 have hx:=h.blk k x hk;cases x with
 | dead=>cases hl
 | iter s p=>exact absurd hk (noIter_get hni k s p)
 | box t cs=>
  obtain⟨g',xs,h1,h2,_⟩:=hx;rw [h1] at hg;simp only [oB,Option.some.injEq] at hg;subst hg;exact⟨_,h2,rfl⟩
 | row t sz es=>
  obtain⟨_,_,_,xs,⟨_,h4⟩,_⟩:=hx;rcases h4 with ⟨e,_⟩ | ⟨g',cap,cur,e,_,hh,_⟩
  ·rw [e] at hg;cases hg
  ·rw [e] at hg;simp only [oB,Option.some.injEq] at hg;subst hg;exact⟨_,hh,rfl⟩
 | rowo t sz es m=>
  obtain⟨_,_,_,_,xs,⟨_,h4⟩,_⟩:=hx;rcases h4 with ⟨e,_⟩ | ⟨g',cap,cur,e,_,hh,_⟩
  ·rw [e] at hg;cases hg
  ·rw [e] at hg;simp only [oB,Option.some.injEq] at hg;subst hg;exact⟨_,hh,rfl⟩
theorem HS.turn {c:Ctx} {H:List AB} (h:HS w0 M0 c H) (hni:noIter H=true) {B0:Nat} (hB:w0.w.heap.size<=B0) {W':World} {row:Option Nat} (hg:c.w.grownBy W' row) (hr:∀ r,row=some r->B0<=r/\∃ o:Obj,c.w.heap[r]? = some o/\o.isCells=false) :
  HS w0 M0 { c with w:=W' } H/\Like c { c with w:=W' }:=by
 have hoth:∀ (g:Nat) (o:Obj),c.w.heap[g]? = some o->o.isCells=true->W'.heap[g]? = c.w.heap[g]? :=by
  intro g o ho hc;refine hg.block g (Ay.1 ho).1 fun e=>?_
  obtain⟨_,o',ho',hc'⟩:=hr g e.symm;rw [ho] at ho';cases ho';rw [hc] at hc';cases hc'
 have hl:Like c { c with w:=W' }:=by
  refine⟨rfl,hg.size,fun a u hu=>?_,rfl,rfl,rfl⟩;obtain⟨o,ho,hc⟩:=cells_of_cell hu;exact(World.cell?_of_block (hoth _ _ ho hc)).trans hu
 refine⟨⟨⟨hg.os.trans h.low.os,hg.tape.trans h.low.tape,hg.output.trans h.low.output,Bl h.low.size hg.size,fun b hb=>?_⟩,h.base,h.dom,h.foreign,fun b hm=>At (h.lt b hm) hg.size,fun k x hk=>?_,h.own,h.dis⟩,hl⟩
 ·rw [<-h.low.block b hb];have hb':=w0.lt b hb;refine hg.block b (At hb' h.low.size) fun e=>?_
  have:=(hr b e.symm).1;omega
 ·have hx:=h.blk k x hk;cases x with
  | dead=>trivial
  | iter s p=>exact absurd hk (noIter_get hni k s p)
  | box t cs=>
   obtain⟨g,xs,h1,h2,h3,h4⟩:=hx;exact⟨g,xs,h1,(hoth g _ h2 rfl).trans h2,RdL.like cs hl h3,h4⟩
  | row t sz es=>
   obtain⟨h1,h2,h3,xs,h4,h5,h6⟩:=hx;refine⟨h1,h2,h3,xs,?_,RdL.like _ hl.closed h5,h6⟩;refine⟨h4.1,h4.2.imp id ?_⟩;rintro⟨g,cap,cur,q1,q2,q3,q4⟩;exact⟨g,cap,cur,q1,q2,(hoth g _ q3 rfl).trans q3,q4⟩
  | rowo t sz es m=>
   obtain⟨h1,h2,h3,h3',xs,h4,h5,h6⟩:=hx;refine⟨h1,h2,h3,h3',xs,?_,RdL.like _ hl h5,h6⟩;refine⟨h4.1,h4.2.imp id ?_⟩;rintro⟨g,cap,cur,q1,q2,q3,q4⟩;exact⟨g,cap,cur,q1,q2,(hoth g _ q3 rfl).trans q3,q4⟩
theorem Ext.turn {c0 c:Ctx} (h:Ext c0 c) {B0:Nat} (hB:c0.w.heap.size<=B0) {W':World} {row:Option Nat} (hg:c.w.grownBy W' row) (hr:∀ r,row=some r->B0<=r/\∃ o:Obj,c.w.heap[r]? = some o/\o.isCells=false):Ext c0 { c with w:=W' }:=
 ⟨hg.os.trans h.os,hg.tape.trans h.tape,hg.output.trans h.output,Bl h.size hg.size,fun b hb hm=>⟨(h.keep b hb hm).1,(hg.block b (At hb h.size) fun e=>by have:=(hr b e.symm).1;omega).trans (h.keep b hb hm).2⟩,h.dom,h.len,h.rho,h.box⟩
def Ctx.slim (c:Ctx) (B0:Nat) (H:List AB):Ctx:={ c with M:=fun b=>c.M b/\(b<B0\/∃ (j:Nat) (y:AB),H[j]? = some y/\y.live=true/\oB (c.rho j)=some b) }
theorem HS.slim {c:Ctx} {H:List AB} (h:HS w0 M0 c H) {B0:Nat} (hB:w0.w.heap.size<=B0):HS w0 M0 (c.slim B0 H) H/\Ext c (c.slim B0 H):=by
 have he:Ext c (c.slim B0 H):=⟨rfl,rfl,rfl,Ah _,fun b _ hm=>⟨fun h=>hm h.1,rfl⟩,Ah _,fun _ _=>Ah _,fun _ _ _=>rfl,fun _ _ _ h=>h⟩;refine⟨⟨h.low,h.base,h.dom,fun b hb=>⟨fun hm=>(h.foreign b hb).1 hm.1,fun hm=>⟨(h.foreign b hb).2 hm, .inl (At (w0.lt b hb) hB)⟩⟩,fun b hm=>h.lt b hm.1,fun k x hk=>?_,fun k x g hk hl ho=>⟨⟨(h.own k x g hk hl ho).1, .inr ⟨k,x,hk,hl,ho⟩⟩,(h.own k x g hk hl ho).2⟩,h.dis⟩,he⟩;have hx:=h.blk k x hk;cases x with
 | dead=>trivial
 | iter s p=>exact hx
 | box t cs=>
  obtain⟨g,xs,h1,h2,h3,h4⟩:=hx;exact⟨g,xs,h1,h2,RdL.ext cs he h3,h4⟩
 | row t sz es=>
  obtain⟨h1,h2,h3,xs,h4,h5,h6⟩:=hx;exact⟨h1,h2,h3,xs,h4,RdL.ext _ he.closed h5,h6⟩
 | rowo t sz es m=>
  obtain⟨h1,h2,h3,h3',xs,h4,h5,h6⟩:=hx;exact⟨h1,h2,h3,h3',xs,h4,RdL.ext _ he h5,h6⟩
theorem L_ {c:Ctx} {H:List AB} (h:HS w0 M0 c H) (hni:noIter H=true) {B0 b:Nat} (hb:B0<=b) (hm:(c.slim B0 H).M b):∃ o:Obj,c.w.heap[b]? = some o/\o.isCells=true:=by
 obtain⟨_,h1 | ⟨j,y,h1,h2,h3⟩⟩:=hm
 ·omega
 ·exact h.cells hni h1 h2 h3
def Hq (T:Tys) (n:Nat):Code->Fr->List AB->(Fr->List AB->Prop)->Prop
 | .skip,fr,H,K=>K fr H
 | .region _ ops false,fr,H,K=>match ops.toList with
  | [o1]=>match o1.op,o1.dst,o1.guard with
   | .assign (.tmp s),some d,none=>match Nat.blt d n with
    | true=>DC (fget fr s) fun x=>K ((d,x)::fr) H
    | false=>False
   | _,_,_=>False
  | [o1,o2]=>match o1.op,o1.dst,o1.guard,o2.op,o2.dst,o2.guard with
   | .alloc t,some d,none, .store t' (.tmp d') (.tmp s),none,none=>match Nat.beq t t'&&Nat.beq d d'&&!Nat.beq s d&&Nat.blt d n with
    | true=>match tget T t with
     | some ty=>match ty.zero.all (·.oneCell')&&Nat.beq ty.zero.length ty.sz with
      | true=>DC (fget fr s) fun x=>match cellsOk x&&Nat.beq (cells1 x).length ty.sz with
       | true=>snocK H (.box t (cells1 x)) 0 fun k H=>K ((d, .bp k 0)::fr) H
       | false=>False
      | false=>False
     | none=>False
    | false=>False
   | _,_,_,_,_,_=>False
  | _=>False
 | .seq x y,fr,H,K=>Hq T n x fr H fun fr H=>Hq T n y fr H K
 | _,_,_,_=>False
theorem Pd (hT:TOk P T) {l m:Nat} {ops:Array Oper} {o1 o2:Oper} {t:TypeId} {d s:Nat} {ty:Ty} (h1:o1.op = .alloc t) (h1d:o1.dst=some d) (h1g:o1.guard=none) (h2:o2.op = .store t (.tmp d) (.tmp s)) (h2d:o2.dst=none) (h2g:o2.guard=none) (hne:s≠d) (hd:d<n)
  (ht:tget T t=some ty) (hz:ty.zero.all (·.oneCell')=true) (hzl:ty.zero.length=ty.sz) {K:Fr->List AB->Prop} {Q:Exit->Act->World->Prop} {c:Ctx} {fr:Fr} {H:List AB} {a:Act} (hs:HS w0 M0 c H) (hf:FR w0 c n fr a) (he:Ext ce c)
  (hok:(cellsOk (fget fr s)&&Nat.beq (cells1 (fget fr s)).length ty.sz)=true) (h:K ((d, .bp H.length 0)::fr) (H ++ [.box t (cells1 (fget fr s))])) (hq:∀ a w,E6 w0 M0 ce n K a w->Old c.w w->Q .normal a w):wpListIn (Fence.wide.inRound l) m P ops Q [o1,o2] a c.w:=by
 simp only [Ae] at hok;have hsz:=Am hok.2;obtain⟨i,dd,z,hp⟩:=(hT.get ht).parts;have hxl0:ty.zero.length=ty.sz:=hzl;obtain⟨c1,e1,e2,e3,e4⟩:=hs.box t (cs:=ty.zero.map .v) (xs:=ty.zero) (JA _) (fun u hu=>Av.1 hz u hu);have hrun:(execOp a.eval o1).run P c.w = .ok (.value (.pointer (some ⟨c.w.heap.size,0,none⟩))) c1.w:=by
  have hzc:z.cells=ty.zero.toArray:=Array.ext' (by simpa using hp.zc);simp [execOp,h1,Instr.alloc,zeroValue,typeInfo,hp.info,hp.zero,Jj,e1,hzc]
 unfold wpListIn;rw [if_pos (by simp [Region.wanted,h1g])];refine H8 (by intro c e;rw [h1] at e;cases e) ?_;unfold Oper.wp;rw [hrun,Oper.upon_value,h1d];unfold wpListIn;rw [if_pos (by simp [Region.wanted,h2g])];refine H8 (by intro c e;rw [h2] at e;cases e) ?_;have hf1:FR w0 c1 n ((d, .bp H.length 0)::fr) (a.put (some d) (.pointer (some ⟨c.w.heap.size,0,none⟩))):=(hf.ext e3).put hd e4;have hfs:fget ((d, .bp H.length 0)::fr) s=fget fr s:=by
  show (bif Nat.beq d s then AV.bp H.length 0 else fget fr s)=fget fr s;cases hb:Nat.beq d s with
  | true=>exact absurd (Am hb).symm hne
  | false=>rfl
 have hev:Rd (fget fr s) c1 ((a.put (some d) (.pointer (some ⟨c.w.heap.size,0,none⟩))).eval (.tmp s)):=by
  rw [<-hfs];exact hf1.get s
 have hevd:(a.put (some d) (.pointer (some ⟨c.w.heap.size,0,none⟩))).eval (.tmp d) = .pointer (some ⟨c.w.heap.size,0,none⟩):=by
  have hsz':=hf.size;simp only [Act.eval,Act.put];rw [AQ,CX (by omega)];rfl
 generalize hav:a.put (some d) (.pointer (some ⟨c.w.heap.size,0,none⟩))=a1 at hf1 hev hevd |-
 obtain⟨hc1,hc2⟩:=IX hev hok.1;have hcl:=hc1.length;have hcs:(a1.eval (.tmp s)).cells.size=ty.sz:=by rw [<-hsz,<-hcl];simp
 have hj:(H ++ [AB.box t (ty.zero.map .v)])[H.length]? = some (.box t (ty.zero.map .v)):=by simp
 obtain⟨g,xs,q1,q2,q3,q4⟩:=e2.blk _ _ hj;have hg:g=c.w.heap.size:=by
  simp only [Rd] at e4;obtain⟨_,g',hg',hu⟩:=e4;rw [q1] at hg';cases hg';simpa using hu.symm
 subst hg;have hxl:xs.length=ty.sz:=by rw [<-hxl0];have:=q3.length;simpa using this
 obtain⟨w',r1,r2,r3,r4,r5,r6,r7⟩:=EB (P:=P) (a1.eval (.tmp s)).cells.toList (i:=0) (off:=0) q2 hc2 (by simp;omega);have hrun2:(execOp a1.eval o2).run P c1.w = .ok .skip w':=by
  have:=Gp (a:=⟨c.w.heap.size,0,none⟩) (hT.get ht) hcs r1;simp [execOp,h2,Instr.storeAt,hevd,Instr.sureAddr,this]
 unfold Oper.wp;rw [hrun2,Oper.upon_skip,h2d];have hE:Ext c1 { c1 with w:=w' }:=⟨r5,r6,r7,by simp [r4],fun b _ hm=>⟨hm,r3 b fun e=>hm (e ▸ (e2.own _ _ c.w.heap.size hj rfl (by rw [q1];rfl)).1)⟩,Ah _,fun _ _=>Ah _,fun _ _ _=>rfl,fun _ _ _ h=>h⟩;have hset:=e2.set_ (y:= .box t (cells1 (fget fr s))) hj rfl rfl (g:=c.w.heap.size) (by rw [q1];rfl) r3 r4 r5 r6 r7 (by
  refine⟨c.w.heap.size,(a1.eval (.tmp s)).cells.toList,q1,?_,RdL.ext _ hE hc1,hc2⟩;have hlen:(a1.eval (.tmp s)).cells.toList.length=xs.length:=by simp;omega
  rw [Da,List.take_zero,B3,A4,AD (by omega),AK] at r2;exact r2)
 unfold wpListIn;refine hq _ _ ⟨{ c1 with w:=w' },_,_,rfl,h,?_,hf1.ext hE,(he.trans e3).trans hE⟩ ?_
 ·have:=hset.1;rwa [D7 _ _ (Ah _),C_,List.set_cons_zero] at this
 ·intro b hb;rw [r3 b (by omega),e1];exact((Below.refl c.w.heap.size c.w).alloc (Ah _) _).block b hb
theorem Pt {l m:Nat} {ops:Array Oper} {o1:Oper} {d s:Nat} (h1:o1.op = .assign (.tmp s)) (h1d:o1.dst=some d) (h1g:o1.guard=none) (hd:d<n) {K:Fr->List AB->Prop} {Q:Exit->Act->World->Prop} {c:Ctx} {fr:Fr} {H:List AB} {a:Act} (hs:HS w0 M0 c H) (hf:FR w0 c n fr a) (he:Ext ce c)
  (h:K ((d,fget fr s)::fr) H) (hq:∀ a w,E6 w0 M0 ce n K a w->Old c.w w->Q .normal a w):wpListIn (Fence.wide.inRound l) m P ops Q [o1] a c.w:=by
 unfold wpListIn;rw [if_pos (by simp [Region.wanted,h1g])];refine H8 (by intro c e;rw [h1] at e;cases e) ?_;unfold Oper.wp;rw [show (execOp a.eval o1).run P c.w = .ok (.value (a.eval (.tmp s))) c.w by simp [execOp,h1],Oper.upon_value,h1d];unfold wpListIn;exact hq _ _ ⟨c,_,H,rfl,h,hs,hf.put hd (hf.get s),he⟩ (zv _)
theorem HW (hT:TOk P T) {l m:Nat}:∀ {asg:Code} {K:Fr->List AB->Prop} {Q:Exit->Act->World->Prop} {c:Ctx} {fr:Fr} {H:List AB} {a:Act},HS w0 M0 c H->FR w0 c n fr a->Ext ce c->Hq T n asg fr H K->
  (∀ a w,E6 w0 M0 ce n K a w->Old c.w w->Q .normal a w)->asg.wpIn (Fence.wide.inRound l) m P Q a c.w
 | .skip,K,Q,c,fr,H,a,hs,hf,he,h,hq=>wpIn_skip (hq _ _ ⟨c,fr,H,rfl,h,hs,hf,he⟩ (zv _))
 | .seq x y,K,Q,c,fr,H,a,hs,hf,he,h,hq=>by
  simp only [Hq] at h;refine wpIn_seq_k fun KK hK=>HW hT (asg:=x) hs hf he h ?_
  rintro a' w' ⟨c',fr',H',rfl,h1,h2,h3,h4⟩ hold;exact hK _ _ (HW hT (asg:=y) h2 h3 h4 h1 fun a2 w2 hl ho=>hq a2 w2 hl (hold.trans ho))
 | .region id ops draw,K,Q,c,fr,H,a,hs,hf,he,h,hq=>by
  cases draw with
  | true=>simp [Hq] at h
  | false=>
  simp only [Hq] at h;split at h
  ·rename_i o1 hops;split at h
   ·rename_i s d h1 h1d h1g;split at h
    ·rename_i hb;have h:=BW h;refine wpIn_region_list ?_;rw [hops];exact Pt h1 h1d h1g (by simpa using hb) hs hf he h hq
    ·exact h.elim
   ·exact h.elim
  ·rename_i o1 o2 hops;split at h
   ·rename_i t d t' d' s h1 h1d h1g h2 h2d h2g;split at h
    ·rename_i hb;simp only [Ae,Br] at hb;obtain⟨⟨⟨hb1,hb2⟩,hb3⟩,hb4⟩:=hb;have:=Am hb1;subst this;have:=Am hb2;subst this;have hne:s≠d:=fun e=>by subst e;rw [Nat.beq_refl] at hb3;cases hb3
     split at h
     ·rename_i ty ht;split at h
      ·rename_i hz;simp only [Ae] at hz;have h:=BW h;split at h
       ·rename_i hok;have h:=snocK_iff h;rw [A4] at h;refine wpIn_region_list ?_;rw [hops];exact Pd hT h1 h1d h1g h2 h2d h2g hne (by simpa using hb4) ht hz.1 (Am hz.2) hs hf he hok h hq
       ·exact h.elim
      ·exact h.elim
     ·exact h.elim
    ·exact h.elim
   ·exact h.elim
  ·exact h.elim
 | .cond _ _ _,_,_,_,_,_,_,_,_,_,h,_=>by simp [Hq] at h
 | .block _ _,_,_,_,_,_,_,_,_,_,h,_=>by simp [Hq] at h
 | .exit _,_,_,_,_,_,_,_,_,_,h,_=>by simp [Hq] at h
 | .ret,_,_,_,_,_,_,_,_,_,h,_=>by simp [Hq] at h
 | .loop _,_,_,_,_,_,_,_,_,_,h,_=>by simp [Hq] at h
 | .rangeFunc _ _ _ _,_,_,_,_,_,_,_,_,_,h,_=>by simp [Hq] at h
 | .label _,_,_,_,_,_,_,_,_,_,h,_=>by simp [Hq] at h
 | .goto _,_,_,_,_,_,_,_,_,_,h,_=>by simp [Hq] at h
 | .scope _,_,_,_,_,_,_,_,_,_,h,_=>by simp [Hq] at h
 | .refuse _,_,_,_,_,_,_,_,_,_,h,_=>by simp [Hq] at h
def LI (H:List AB) (x:AV) (sz len:Nat) (E:Nat->List AV):Prop:=
 match x with
 | .ow k n'=>n'=len/\∃ t es,hget H k=some (.row t sz es)/\es.length=len/\E=fun i=>es.getD i []
 | .sl sz' n' get=>sz'=sz/\n'=len/\E=get
 | .v (.slice none 0 0)=>len=0
 | _=>False
theorem Nr {c:Ctx} {H:List AB} (hs:HS w0 M0 c H) {x:AV} {sz len:Nat} {E:Nat->List AV} (h:LI H x sz len E) {u:Value} (hr:Rd x c u) :
  ∃ a cap,u = .slice a len cap/\(0<len->∃ b off,a=some ⟨b,off,none⟩/\b<c.w.heap.size/\∀ i,i<len->(E i).length=sz/\RdAt (E i) c.closed b (off+i*sz)):=by
 unfold LI at h;split at h
 ·obtain⟨rfl,t,es,hk,hl,rfl⟩:=h;rename_i k n';rw [hget_eq] at hk;obtain⟨h1,h2,h3,xs,h4,h5,h6⟩:=hs.blk _ _ hk;simp only [Rd] at hr;obtain⟨_,_,⟨a,p,rfl,ha⟩,he⟩:=hr;refine⟨a,p,rfl,fun hp=>?_⟩;have hrho:=he (by rw [h1,hl]);obtain⟨g,rfl⟩:=ha (by omega);have hgl:g<c.w.heap.size:=by
   rcases h4.2 with ⟨e,_⟩ | ⟨g',cap,cur,e,_,hh,_⟩
   ·rw [<-hrho] at e;cases e
   ·rw [<-hrho] at e;cases e;exact(Ay.1 hh).1
  have hat:=RdAt.of (b:=g) (off:=0) h5 h6 fun j u hu=>by rw [A4];exact Hy (hl ▸ h4) hrho.symm hu
  exact⟨g,0,rfl,hgl,fun i hi=>⟨h3 _ (by simp only [Ab];rw [Af (by omega)];exact CF _),by rw [A4];exact Jf h3 hat (by omega)⟩⟩
 ·obtain⟨rfl,rfl,rfl⟩:=h;simp only [Rd] at hr;obtain⟨a,k,rfl,h1,h2,h3⟩:=hr;refine⟨a,k,rfl,fun hp=>?_⟩;rcases h3 with h3 | ⟨b,off,rfl,_,hb,hc⟩
  ·omega
  ·exact⟨b,off,rfl,hb,hc⟩
 ·subst h;simp only [Rd] at hr;subst hr;exact⟨none,0,rfl,fun hp=>absurd hp (Nat.lt_irrefl _)⟩
 ·exact h.elim
end
section
variable {P:Program} {T:Tys} {w0:Fl} {M0:Ms} {n d0:Nat} {ce:Ctx}
def Fl.off (w0:Fl):Fl:=⟨w0.w,w0.old,w0.lt,w0.gl,False⟩
theorem HS.off {c:Ctx} {H:List AB} (h:HS w0 M0 c H):HS w0.off M0 c H:=⟨⟨h.low.os,h.low.tape,h.low.output,h.low.size,h.low.block⟩,h.base,h.dom,h.foreign,h.lt,h.blk,h.own,h.dis⟩
theorem HS.on {c:Ctx} {H:List AB} (h:HS w0.off M0 c H):HS w0 M0 c H:=⟨⟨h.low.os,h.low.tape,h.low.output,h.low.size,h.low.block⟩,h.base,h.dom,h.foreign,h.lt,h.blk,h.own,h.dis⟩
theorem FR.off {c:Ctx} {fr:Fr} {a:Act} (h1:a.tmps.size=n) (h2:∀ i,Rd (fget fr i) c (a.tmps.getD i undef)) (hc:¬w0.chk):FR w0 c n fr a:=⟨h1,DfOk.free hc,h2⟩
def frozen (fr:Fr) (H:List AB):Fr->Prop
 | []=>True
 | (i,x)::r=>((x.lt 0=true/\fget fr i=x)\/∃ kk tt cs,x = .rp cs/\AV.ltL cs 0=true/\fget fr i = .bp kk 0/\hget H kk=some (.box tt cs))/\frozen fr H r
def Ctx.calm (c:Ctx) (w:World):Ctx:=⟨w,0,fun _=>False,c.rho,c.len,0⟩
theorem Oc {c:Ctx} {H:List AB} (hs:HS w0 M0 c H) {fr:Fr} {us:Array Value} (hf:∀ i,Rd (fget fr i) c (us.getD i undef)):∀ {frz:Fr},frozen fr H frz->∀ i,Rd (fget frz i) (c.calm c.w) (us.getD i undef)
 | [],_,i=>by simp [fget,Rd]
 | (j,x)::r,h,i=>by
  have hcut:Cut c (c.calm c.w):=⟨⟨rfl,rfl,rfl,Ah _,fun _ _ _=>⟨fun h=>h,rfl⟩,Ah _,fun k hk=>absurd hk (Ap k),fun k hk=>absurd hk (Ap k),fun k _ hk=>absurd hk (Ap k)⟩,fun _ _=>tA⟩;unfold fget;cases hb:Nat.beq j i with
  | false=>exact Oc hs hf h.2 i
  | true=>
   have:=Am hb;subst this;simp only [cond_true];rcases h.1 with ⟨h1,h2⟩ | ⟨kk,tt,cs,rfl,h1,h2,h3⟩
   ·refine Rd.cut x hcut h1 ?_;rw [<-h2];exact hf j
   ·have hr:=hf j;rw [h2] at hr;simp only [Rd] at hr;obtain⟨_,g,hg,hu⟩:=hr;rw [hget_eq] at h3;obtain⟨g',xs,q1,q2,q3,q4⟩:=hs.blk _ _ h3;rw [q1] at hg;cases hg;rw [hu];simp only [Rd];refine⟨g,0,rfl,fun h=>h,(Ay.1 q2).1,?_⟩;exact RdAt.of (c:=(c.calm c.w).closed) (b:=g) (off:=0) (RdL.cut cs hcut h1 q3) q4 fun j u hu=>by rw [A4];show c.w.cell? _=_;rw [cell_of_row _ g _ _ tt (0,0) q2];simpa using hu
def EX.code:EX->Code
 | .normal=> .skip
 | .exit id=> .exit id
 | .ret=> .ret
theorem NO {W W':World} {c:Ctx} (hB:c.w.heap.size<=W.heap.size) (ho:Old W W') (h1:W'.os=W.os) (h2:W'.tape=W.tape) (h3:W'.output=W.output) (h4:W.heap.size<=W'.heap.size):Below c.w.heap.size W W':=
 ⟨h1,h2,h3,h4,fun b hb=>ho b (At hb hB)⟩
theorem Sf {len k:Nat} (hk:k<=len) {pre:List Nat} {x:Nat} (h:pre ++ [x]=Dt len k) {p:Nat->Prop} (hp:∀ y∈pre,p y):∀ j,x<j->j<len->p j:=by
 intro j hj hl;have h1:k=pre.length+1:=by have:=congrArg List.length h;simpa [Dt] using this.symm
 subst h1;have hx:x=len - 1 - pre.length:=by
  have:=congrArg (fun l=>l[pre.length]?) h;simp [Dt] at this;exact this
 have hi:len - 1 - j<pre.length:=by omega
 have h2:=congrArg (fun l=>l[len - 1 - j]?) h;simp only [Dt,AF hi,Bo,BM (show len - 1 - j<pre.length+1 by omega),Option.map_some] at h2;rw [show len - 1 - (len - 1 - j)=j by omega] at h2;exact hp j (DM h2)
theorem DfOk.lt {c:Ctx} (hc:w0.chk):∀ {l:List Deferred},DfOk w0 c l->∀ e∈l,∃ b,e.target = .collected b/\b<c.w.heap.size
 | d::r,h,e,he=>by
  rcases AU.1 he with rfl | he
  ·obtain⟨b,rfl,_,_,h4,_⟩:=h.1 hc;exact⟨b,rfl,(Ay.1 h4).1⟩
  ·exact DfOk.lt hc h.2 e he
theorem UC {len:Nat} {i:Nat} (hi:i<len):i∈Dt len len:=by
 rw [Dt,AP];exact⟨len - 1 - i,by simp;omega,by omega⟩

def XJ (P:Program) (n:Nat) (w0:Fl) (M0:Ms) (c:Ctx) (a:Act) (gf:FuncId) (g:Operand) (p1 p2:Nat) (asg body:Code) (Q:QA) (fr:Fr) (len:Nat) (hit:Nat->Bool):Prop:=
 ∃ (gB:Nat) (X:Nat->List Value) (I:List (Fin len)->World->Prop) (Ix:Code->List (Fin len)->World->Prop) (Ax:Fin len->Act->World->Prop),
  a.eval g = .func (.func gf) #[] #[.pointer (some ⟨gB,0,none⟩)]/\
  (∀ m,1<=m->SeqStopsK Fence.wide m P gf #[.pointer (some ⟨gB,0,none⟩)] (fun x:Fin len=> #[Value.int .i64 x.val, .agg (X x.val).toArray]) (Below c.w.heap.size) (fun ys=>ys.map Fin.val=Dt len len) (fun pre=>∃ k,k<=len/\pre.map Fin.val=Dt len k) len c.w)/\
  OwnFrom c.w.heap.size I/\(∀ cd,OwnFrom c.w.heap.size (Ix cd))/\I [] c.w/\(∀ x a',OwnFrom c.w.heap.size (fun(_:Unit) W=>Ax x a' W))/\
  (∀ (k l:Nat) (pre:List (Fin len)) (y:Fin len) (W:World) (K:Act->World->Prop),I pre W->(∀ a' W',KeepsFrom c.w.heap.size W W'->Below c.w.heap.size W W'->I pre W'->Ax y a' W'->K a' W')->
   asg.wpIn (Fence.wide.inRound l) k P (Exit.then K (fun _ _ _=>False)) { tmps:=((#[p1,p2]:Array Tmp).zip #[Value.int .i64 y.val, .agg (X y.val).toArray]).foldl (fun t (p,v)=>t.setIfInBounds p v) a.tmps,defers:= [] } W)/\
  (∀ (k:Nat),(noRF body=true\/3<=k)->∀ (l:Nat) (pre:List (Fin len)) (y:Fin len) (a':Act) (W:World),c.w.heap.size<=l->(∃ r,W.heap[l]? = some (.loop r))->I pre W->Ax y a' W->pre.length<len->
   body.wpIn (Fence.wide.inRound l) k P (ownPostG c.w.heap.size (Below c.w.heap.size) I Ix (pre ++ [y]) W) a' W)/\
  (∀ (ys:List (Fin len)) (W:World),ys.map Fin.val=Dt len len->I ys W->Below c.w.heap.size c.w W/\∀ i,i<len->hit i=false)/\
  (∀ (cd:Code) (pre:List (Fin len)) (W:World),(∃ k,k<=len/\pre.map Fin.val=Dt len k)->Ix cd pre W->∃ ex c' H',cd=EX.code ex/\ex≠ .normal/\Q ex fr H'/\c'.w=W/\HS w0 M0 c' H'/\Ext c c'/\noIter H'=true/\(∀ b,c.w.heap.size<=b->c'.M b->∃ (j:Nat) (y:AB),H'[j]? = some y/\y.live=true/\oB (c'.rho j)=some b))
theorem Vb (hT:TOk P T) {gf:FuncId} {sz:Nat} (hgf:IsBack P gf sz) {g:Operand} {p1 p2:Nat} {asg body:Code} {Q:QA} {fr:Fr} {H:List AB} {B len:Nat} {tb:TypeId} {x:AV} {E:Nat->List AV}
  (hg:ev fr g = .fn gf [.bp B 0]) (hB:hget H B=some (.box tb [x])) (hx:LI H x sz len E) (hbig:len<=1000000000) (_hni:noIter H=true) (hp:p1<n/\p2<n) (hrb:roundOk body=true)
  (frz:Fr) (hfz:frozen fr H frz) (hit:Nat->Bool)
  (hskip:∀ i,i<len->hit i=false->Hq T n asg ((p2, .ag (E i))::(p1,iv i)::frz) [] fun fr' H'=>noIter H'=true/\C5 P T n 0 body (fun ex _ _=>ex = .normal) fr' H')
  (hhit:∀ i,i<len->hit i=true->Hq T n asg ((p2, .ag (E i))::(p1,iv i)::fr) H fun fr' H'=>noIter H'=true/\C5 P T n H.length body (fun ex _ H'=>ex≠ .normal/\noIter H'=true/\((∀ j,i<j->j<len->hit j=false)->Q ex fr H')) fr' H')
  (w0:Fl) (M0:Ms) (c:Ctx) (a:Act) (hs:HS w0 M0 c H) (hf:FR w0 c n fr a):XJ P n w0 M0 c a gf g p1 p2 asg body Q fr len hit:=by
 have hgv:=hf.ev g;rw [hg] at hgv;simp only [Rd,RdL] at hgv;obtain⟨_,hgv,_,_,rfl,⟨hBd,gB,hgB,rfl⟩,rfl⟩:=hgv;rw [hget_eq] at hB;obtain⟨g',xs,q1,q2,q3,q4⟩:=hs.blk _ _ hB;rw [hgB] at q1;cases q1;simp only [RdL] at q3;obtain⟨u,_,rfl,hu,rfl⟩:=q3;obtain⟨ad,cap,rfl,hel⟩:=Nr hs hx hu;have hcB:c.w.cell? ⟨gB,0,none⟩=some (.slice ad len cap):=by rw [cell_of_row _ gB _ _ tb (0,0) q2];rfl
 obtain⟨X,hXl,hXr,hXc⟩:∃ X:Nat->List Value,(∀ j,(X j).length=sz)/\(∀ i,i<len->RdL (E i) c.closed (X i))/\(0<len->∃ b off,ad=some ⟨b,off,none⟩/\b<c.w.heap.size/\∀ j,j<len->∀ (i:Nat) (u:Value),(X j)[i]? = some u->c.w.cell? ⟨b,off+j*sz+i,none⟩=some u):=by
  rcases D3 len with h0 | h0
  ·exact⟨fun _=>List.replicate sz undef,by simp,fun i hi=>by omega,fun h=>by omega⟩
  ·obtain⟨b,off,h1,h2,h3⟩:=hel h0;refine⟨fun j=>(List.range' (off+j*sz) sz).map fun i=>(c.w.cell? ⟨b,i,none⟩).getD undef,by simp,fun i hi=>?_,fun _=>⟨b,off,h1,h2,fun j hj i u hi=>?_⟩⟩
   ·have:=RdAt.raw _ (h3 i hi).2;rw [(h3 i hi).1] at this;exact this
   ·obtain⟨v,hv⟩:=RdAt.some _ (h3 j hj).2 i (by
     rw [(h3 j hj).1];have:=(Au.1 hi).1;simpa using this)
    have hv':c.w.cell? ⟨b,off+j*sz+i,none⟩=some v:=hv;rw [hv'];have hil:i<sz:=by
     have:=(Au.1 hi).1;simpa using this
    rw [Bo,List.getElem?_range' hil] at hi;simp only [Option.map_some,Nat.one_mul,Option.some.injEq] at hi;rw [hv'] at hi;simpa using hi
 have hseq:=fun(m:Nat) (hm:1<=m)=>hgf.seq m hm gB ad len cap X c.w hbig hcB hXl hXc
 have hgl:=hs.glob;have hlow:=hs.low.size
 -- the two memories of a round
 let wS:Fl:=(Fl.all c.w hgl).off;have hskipHS:∀ W,Below c.w.heap.size c.w W->HS wS (fun _=>False) (c.calm W) []:=fun W hW=>
  ⟨⟨hW.os,hW.tape,hW.output,hW.size,fun b hb=>hW.block b hb⟩,rfl,rfl,fun _ _=>Iff.rfl,fun _ h=>h.elim,by simp,by simp,by simp⟩
 have hcalm:∀ W,Below c.w.heap.size c.w W->Ext (c.calm c.w) (c.calm W):=fun W hW=>
  ⟨hW.os,hW.tape,hW.output,hW.size,fun b hb _=>⟨fun h=>h,hW.block b hb⟩,Ah _,fun k hk=>absurd hk (Ap k),fun k hk=>absurd hk (Ap k),fun k _ hk=>absurd hk (Ap k)⟩
 have hclcalm:Ext c.closed (c.calm c.w):=⟨rfl,rfl,rfl,Ah _,fun _ _ _=>⟨fun h=>h,rfl⟩,Ah _,fun k hk=>absurd hk (Ap k),fun k hk=>absurd hk (Ap k),fun k _ hk=>absurd hk (Ap k)⟩;refine⟨gB,X,(fun pre W=>Below c.w.heap.size c.w W/\∀ y∈pre,hit y.val=false),
  (fun cd pre W=>∃ ex pr y c' H',pre=pr ++ [y]/\(∀ z∈pr,hit z.val=false)/\cd=ex.code/\ex≠ .normal/\((∀ j,y.val<j->j<len->hit j=false)->Q ex fr H')/\c'.w=W/\HS w0 M0 c' H'/\Ext c c'/\noIter H'=true/\(∀ b,c.w.heap.size<=b->c'.M b->∃ (j:Nat) (y:AB),H'[j]? = some y/\y.live=true/\oB (c'.rho j)=some b)),
  (fun y a' W=>(hit y.val=false->∃ c' fr' H',c'.w=W/\HS wS (fun _=>False) c' H'/\noIter H'=true/\a'.tmps.size=n/\(∀ i,Rd (fget fr' i) c' (a'.tmps.getD i undef))/\(∀ b,c.w.heap.size<=b->c'.M b->∃ o:Obj,c'.w.heap[b]? = some o/\o.isCells=true)/\C5 P T n 0 body (fun ex _ _=>ex = .normal) fr' H'/\c'.dom=H'.length)/\
   (hit y.val=true->∃ c' fr' H',c'.w=W/\HS w0 M0 c' H'/\noIter H'=true/\a'.tmps.size=n/\(∀ i,Rd (fget fr' i) c' (a'.tmps.getD i undef))/\Ext c c'/\(∀ b,c.w.heap.size<=b->c'.M b->∃ o:Obj,c'.w.heap[b]? = some o/\o.isCells=true)/\C5 P T n H.length body (fun ex _ H'=>ex≠ .normal/\noIter H'=true/\((∀ j,y.val<j->j<len->hit j=false)->Q ex fr H')) fr' H')),hgv,hseq,?hI,?hIx,⟨Below.refl _ _,by simp⟩,?hAx,?assign,?body,?done,?stop⟩
 case hI=>exact OwnFrom.and (ownFrom_below (Ah _) (Ah _)) (ownFrom_pure _ _)
 case hIx=>
  rintro cd s W W' row ⟨ex,pr,y,c',H',h1,h2,h3,h4,h5,rfl,h6,h7,h8,h9⟩ hgr hrow;obtain⟨k1,k2⟩:=h6.turn h8 hlow hgr hrow;exact⟨ex,pr,y,_,H',h1,h2,h3,h4,h5,rfl,k1,h7.turn (Ah _) hgr hrow,h8,h9⟩
 case hAx=>
  have keep:∀ (c':Ctx) {W':World} {row:Option Nat},c'.w.grownBy W' row->(∀ r,row=some r->c.w.heap.size<=r/\∃ o:Obj,c'.w.heap[r]? = some o/\o.isCells=false)->(∀ b,c.w.heap.size<=b->c'.M b->∃ o:Obj,c'.w.heap[b]? = some o/\o.isCells=true)->∀ b,c.w.heap.size<=b->c'.M b->∃ o:Obj,W'.heap[b]? = some o/\o.isCells=true:=by
   intro c' W' row hgr hrow h b hb hm;obtain⟨o,h1,h2⟩:=h b hb hm;refine⟨o,(hgr.block b (Ay.1 h1).1 fun e=>?_).trans h1,h2⟩;obtain⟨_,o',h3,h4⟩:=hrow b e.symm;rw [h1] at h3;cases h3;rw [h2] at h4;cases h4
  rintro y a' s W W' row ⟨hA,hC⟩ hgr hrow;refine⟨fun hh=>?_,fun hh=>?_⟩
  ·obtain⟨c',fr',H',rfl,h1,h2,h3,h4,h5,h6,h7⟩:=hA hh;obtain⟨k1,k2⟩:=h1.turn h2 (Ah _) hgr hrow;exact⟨_,fr',H',rfl,k1,h2,h3,fun i=>Rd.like _ k2 (h4 i),keep c' hgr hrow h5,h6,h7⟩
  ·obtain⟨c',fr',H',rfl,h1,h2,h3,h4,h5,h6,h7⟩:=hC hh;obtain⟨k1,k2⟩:=h1.turn h2 hlow hgr hrow;exact⟨_,fr',H',rfl,k1,h2,h3,fun i=>Rd.like _ k2 (h4 i),h5.turn (Ah _) hgr hrow,keep c' hgr hrow h6,h7⟩
 case assign=>
  rintro _ l pre y W K ⟨hW,hpre⟩ hK;have hput:∀ (c1:Ctx) (fr1:Fr) (w1:Fl),¬w1.chk->(∀ i,Rd (fget fr1 i) c1 (a.tmps.getD i undef))->Rd (.ag (E y.val)) c1 (.agg (X y.val).toArray)->
    FR w1 c1 n ((p2, .ag (E y.val))::(p1,iv (y.val:Nat))::fr1) { tmps:=((#[p1,p2]:Array Tmp).zip #[Value.int .i64 y.val, .agg (X y.val).toArray]).foldl (fun t (p,v)=>t.setIfInBounds p v) a.tmps,defers:= [] }:=by
   intro c1 fr1 w1 hc hr1 hr2;have h0:FR w1 c1 n fr1 { tmps:=a.tmps,defers:= [] }:=FR.off hf.size hr1 hc;have h1:=h0.put (d:=p1) (x:= iv (y.val:Nat)) (v:= .int .i64 (y.val:Nat)) hp.1 (by simp [Rd]);have e:∀ (u v:Value),((#[p1,p2]:Array Tmp).zip #[u,v]).foldl (fun t (p,v)=>t.setIfInBounds p v) a.tmps=(a.tmps.setIfInBounds p1 u).setIfInBounds p2 v:=by intro u v;simp
   rw [e];exact h1.put (d:=p2) (x:= .ag (E y.val)) (v:= .agg (X y.val).toArray) hp.2 hr2
  have hWs:=hW.size;cases hh:hit y.val with
  | false=>
   have hE:Rd (.ag (E y.val)) (c.calm W) (.agg (X y.val).toArray):=by
    simp only [Rd];exact⟨_,rfl,RdL.ext _ (hclcalm.trans (hcalm W hW)) (hXr y.val y.isLt)⟩
   have hfr:=hput (c.calm W) frz wS (fun h=>h) (fun i=>Rd.ext _ (hcalm W hW) (Oc hs hf.get hfz i)) hE;refine HW (w0:=wS) (M0:=fun _=>False) (ce:=c.calm W) hT (c:=c.calm W) (hskipHS W hW) hfr (zJ _) (hskip y.val y.isLt hh) ?_;rintro a' W' ⟨c',fr',H',rfl,⟨k1,k2⟩,k3,k4,k5⟩ hold;have hb:=NO (c:=c) hWs hold k5.os k5.tape k5.output k5.size;obtain⟨s1,s2⟩:=k3.slim (B0:=c.w.heap.size) (Ah _);refine hK a' c'.w ⟨k5.size,fun k o _ h1 _=>(hold k (Ay.1 h1).1).trans h1⟩ hb ⟨hW.trans hb,hpre⟩ ⟨fun _=>⟨c'.slim c.w.heap.size H',fr',H',rfl,s1,k1,k4.size,(k4.ext s2).get,fun b hb' hm=>L_ k3 k1 hb' hm,k2,s1.dom⟩,fun e=>by rw [hh] at e;cases e⟩
  | true=>
   obtain⟨g1,g2⟩:=hs.grow hW;have hE:Rd (.ag (E y.val)) { c with w:=W } (.agg (X y.val).toArray):=by
    simp only [Rd];exact⟨_,rfl,RdL.ext _ ((z6 c).trans g2) (hXr y.val y.isLt)⟩
   have hfr:=hput { c with w:=W } fr w0.off (fun h=>h) (fun i=>Rd.ext _ g2 (hf.get i)) hE;refine HW (w0:=w0.off) (M0:=M0) (ce:={ c with w:=W }) hT (c:={ c with w:=W }) g1.off hfr (zJ _) (hhit y.val y.isLt hh) ?_;rintro a' W' ⟨c',fr',H',rfl,⟨k1,k2⟩,k3,k4,k5⟩ hold;have hb:=NO (c:=c) hWs hold k5.os k5.tape k5.output k5.size;obtain⟨s1,s2⟩:=k3.slim (B0:=c.w.heap.size) hlow;refine hK a' c'.w ⟨k5.size,fun k o _ h1 _=>(hold k (Ay.1 h1).1).trans h1⟩ hb ⟨hW.trans hb,hpre⟩ ⟨fun e=>(by rw [hh] at e;cases e),fun _=>⟨c'.slim c.w.heap.size H',fr',H',rfl,s1.on,k1,k4.size,(k4.ext s2).get,(g2.trans k5).trans s2,fun b hb' hm=>L_ k3 k1 hb' hm,k2⟩⟩
 case body=>
  rintro _ hk l pre y a' W hl ⟨rl,hrl⟩ ⟨hW,hpre⟩ ⟨hA,hC⟩ hlt;cases hh:hit y.val with
  | false=>
   obtain⟨c',fr',H',rfl,h1,h2,h3,h4,h5,h6,h7⟩:=hA hh;refine CC (w0:=wS) (M0:=fun _=>False) (ce:={ c' with dom:=0 }) (d0:=0) hT rfl body _ _ c' fr' H' a' hrb (hk.imp_right fun q=>⟨q,rl,hrl,fun hM=>(by
    obtain⟨o',q1,q2⟩:=h5 l hl hM;rw [hrl] at q1;cases q1;cases q2)⟩) ?_ h1 (FR.off h3 h4 fun h=>h) (z6 c') h6
   intro e a3 W3 hl3;have go:∀ ex:EX,E6 wS (fun _=>False) { c' with dom:=0 } n (fun _ _=>ex = .normal) a3 W3->ex = .normal/\KeepsFrom c.w.heap.size c'.w W3/\Below c.w.heap.size c'.w W3:=by
    rintro ex ⟨c3,fr3,H3,rfl,e1,e2,e3,e4⟩;have hlw:=e2.low;refine⟨e1,⟨e4.size,fun k o hk ho hc=>?_⟩,⟨e4.os,e4.tape,e4.output,e4.size,fun b hb=>(hlw.block b hb).trans (hW.block b hb).symm⟩⟩;refine(e4.keep k (Ay.1 ho).1 fun hm=>?_).2.trans ho;obtain⟨o',q1,q2⟩:=h5 k hk hm;rw [ho] at q1;cases q1;rw [hc] at q2;cases q2
   cases e with
   | normal=>
    obtain⟨_,k1,k2⟩:=go .normal hl3;exact⟨k1,k2,hW.trans k2,fun z hz=>by
     rcases A5.1 hz with h | h
     ·exact hpre z h
     ·simp at h;subst h;exact hh⟩
   | exit id=>exact absurd (go (.exit id) hl3).1 (by simp)
   | ret=>exact absurd (go .ret hl3).1 (by simp)
   | _=>exact hl3.elim
  | true=>
   obtain⟨c',fr',H',rfl,h1,h2,h3,h4,h5,h6,h7⟩:=hC hh;have hce:Ext c { c' with dom:=H.length }:=⟨h5.os,h5.tape,h5.output,h5.size,h5.keep,by show c.dom<=H.length;rw [hs.dom];exact Ah _,h5.len,h5.rho,h5.box⟩;have hce2:Ext { c' with dom:=H.length } c':=⟨rfl,rfl,rfl,Ah _,fun _ _ h=>⟨h,rfl⟩,by show H.length<=c'.dom;rw [<-hs.dom];exact h5.dom,fun _ _=>Ah _,fun _ _ _=>rfl,fun _ _ _ h=>h⟩;refine CC (w0:=w0.off) (M0:=M0) (ce:={ c' with dom:=H.length }) (d0:=H.length) hT rfl body _ _ c' fr' H' a' hrb (hk.imp_right fun q=>⟨q,rl,hrl,fun hM=>(by
    obtain⟨o',q1,q2⟩:=h6 l hl hM;rw [hrl] at q1;cases q1;cases q2)⟩) ?_ h1.off (FR.off h3 h4 fun h=>h) hce2 h7
   intro e a3 W3 hl3;have go:∀ ex:EX,E6 w0.off M0 { c' with dom:=H.length } n (fun _ H'=>ex≠ .normal/\noIter H'=true/\((∀ j,y.val<j->j<len->hit j=false)->Q ex fr H')) a3 W3->ex≠ .normal/\KeepsFrom c.w.heap.size c'.w W3/\∃ c3 H3,c3.w=W3/\HS w0.off M0 c3 H3/\Ext { c' with dom:=H.length } c3/\noIter H3=true/\((∀ j,y.val<j->j<len->hit j=false)->Q ex fr H3):=by
    rintro ex ⟨c3,fr3,H3,rfl,⟨e0,e1,e5⟩,e2,e3,e4⟩;refine⟨e0,⟨e4.size,fun k o hk ho hc=>?_⟩,c3,H3,rfl,e2,e4,e1,e5⟩;refine(e4.keep k (Ay.1 ho).1 fun hm=>?_).2.trans ho;obtain⟨o',q1,q2⟩:=h6 k hk hm;rw [ho] at q1;cases q1;rw [hc] at q2;cases q2
   have mk:∀ ex:EX,E6 w0.off M0 { c' with dom:=H.length } n (fun _ H'=>ex≠ .normal/\noIter H'=true/\((∀ j,y.val<j->j<len->hit j=false)->Q ex fr H')) a3 W3->ex≠ .normal/\KeepsFrom c.w.heap.size c'.w W3/\∃ ex' pr y' c'' H'',pre ++ [y]=pr ++ [y']/\(∀ z∈pr,hit z.val=false)/\ex.code=ex'.code/\ex'≠ .normal/\((∀ j,y'.val<j->j<len->hit j=false)->Q ex' fr H'')/\c''.w=W3/\HS w0 M0 c'' H''/\Ext c c''/\noIter H''=true/\(∀ b,c.w.heap.size<=b->c''.M b->∃ (j:Nat) (y:AB),H''[j]? = some y/\y.live=true/\oB (c''.rho j)=some b):=by
    intro ex hl4;obtain⟨k0,k1,c3,H3,rfl,k2,k3,k4,k5⟩:=go ex hl4;obtain⟨s1,s2⟩:=k2.slim (B0:=c.w.heap.size) hlow;exact⟨k0,k1,ex,pre,y,c3.slim c.w.heap.size H3,H3,rfl,hpre,rfl,k0,k5,rfl,s1.on,(hce.trans k3).trans s2,k4,fun b hb hm=>hm.2.resolve_left (by omega)⟩
   cases e with
   | normal=>exact absurd rfl (mk .normal hl3).1
   | exit id=>exact(mk (.exit id) hl3).2
   | ret=>exact(mk .ret hl3).2
   | _=>exact hl3.elim
 case done=>
  rintro ys W hys ⟨hW,hpre⟩;refine⟨hW,fun i hi=>?_⟩;have:=UC hi;rw [<-hys,AP] at this;obtain⟨y,hy,rfl⟩:=this;exact hpre y hy
 case stop=>
  rintro cd pre W ⟨k,hk,hpre⟩ ⟨ex,pr,y,c',H',rfl,h2,rfl,h4,h5,rfl,h6,h7,h8,h9⟩;refine⟨ex,c',H',rfl,h4,h5 (Sf hk (pre:=pr.map Fin.val) (x:=y.val) (by rw [<-hpre];simp) (p:=fun j=>hit j=false) (by
   intro z hz;obtain⟨z',hz',rfl⟩:=AP.1 hz;exact h2 z' hz')),rfl,h6,h7,h8,h9⟩
theorem aRF.back (hT:TOk P T) {gf:FuncId} {sz:Nat} (hgf:IsBack P gf sz) {g:Operand} {p1 p2:Nat} {asg body:Code} {Q:QA} {fr:Fr} {H:List AB} {B len:Nat} {tb:TypeId} {x:AV} {E:Nat->List AV}
  (hg:ev fr g = .fn gf [.bp B 0]) (hB:hget H B=some (.box tb [x])) (hx:LI H x sz len E) (hbig:len<=1000000000) (_hni:noIter H=true) (hp:p1<n/\p2<n) (hrb:roundOk body=true)
  (frz:Fr) (hfz:frozen fr H frz) (hit:Nat->Bool)
  (hskip:∀ i,i<len->hit i=false->Hq T n asg ((p2, .ag (E i))::(p1,iv i)::frz) [] fun fr' H'=>noIter H'=true/\C5 P T n 0 body (fun ex _ _=>ex = .normal) fr' H')
  (hhit:∀ i,i<len->hit i=true->Hq T n asg ((p2, .ag (E i))::(p1,iv i)::fr) H fun fr' H'=>noIter H'=true/\C5 P T n H.length body (fun ex _ H'=>ex≠ .normal/\noIter H'=true/\((∀ j,i<j->j<len->hit j=false)->Q ex fr H')) fr' H')
  (hdone:(∀ i,i<len->hit i=false)->Q .normal fr H):aRF P T n d0 g #[p1,p2] asg body Q fr H:=by
 have core:=fun w0 M0 c a hs hf=>Vb hT hgf (Q:=Q) hg hB hx hbig _hni hp hrb frz hfz hit hskip hhit (w0:=w0) (M0:=M0) (c:=c) (a:=a) hs hf
 refine⟨fun w0 M0 ce c a hs hf he hd Q' hQ=>?_,fun hb w0 M0 ce c a hs hf he hd l0 r0 m hl0 hm Q' hQ=>?_⟩
 ·have hlow:=hs.low.size;obtain⟨gB,X,I,Ix,Ax,k1,k2,k3,k4,k5,k6,k7,k8,k9,k10⟩:=core w0 M0 c a hs hf;refine(wpIn_wide (n:=9)).1 ?_;refine wpIn_rangeFunc_ownH (F:=Fence.wide) (n:=9) rfl (by omega) (gf:=gf) (lb:= #[.pointer (some ⟨gB,0,none⟩)]) k1 trivial hgf.enters (k2 8 (by omega)) (fun h k=>h.trans k)
   (fun W l o o' hl ho _ _=>(Below.refl _ W).grown (grownBy_putObj' W l o') (Bl hl (Nat.le_of_lt (Ay.1 ho).1)) (fun k e=>by cases e;exact hl)) (Below.refl _ _) (fun _=>rfl)
   I Ix k3 k4 k5 Ax k6 (k7 7) (k8 7 (.inr (by omega))) ?_ ?_
  ·rintro D ys W hD hys hI hdef;obtain⟨hW,hall⟩:=k9 ys W hys hI;obtain⟨g1,g2⟩:=hs.grow hW;refine hQ .normal { c with w:=W } fr H _ (hdone hall) g1 ⟨hf.size,⟨fun _=>⟨D,rfl,Bl hlow hD,fun hm=>by have:=hs.lt D hm;omega,hdef,?_⟩,hf.defers.ext g2⟩,(hf.ext g2).get⟩ (he.trans g2);rename_i hck;intro e he';obtain⟨b,hb,hlt⟩:=hf.defers.lt hck e he';rw [hb];intro e';injection e' with e'
   omega
  ·rintro D cd pre W hD hk hIx hdef;obtain⟨ex,c',H',rfl,h4,hq,rfl,h6,h7,h8,h9⟩:=k10 cd pre W hk hIx;have hM:¬c'.M D:=by
    intro hm;obtain⟨j,y',q1,q2,q3⟩:=h9 D hD hm;obtain⟨o,q4,q5⟩:=h6.cells h8 q1 q2 q3;rw [hdef] at q4;cases q4;cases q5
   have hfr:FR w0 c' n fr { a with defers:={ target:= .collected D,args:= #[] }::a.defers }:=by
    refine⟨hf.size,⟨fun hck=>⟨D,rfl,Bl hlow hD,hM,hdef,?_⟩,hf.defers.ext h7⟩,(hf.ext h7).get⟩;intro e he';obtain⟨b,hb,hlt⟩:=hf.defers.lt hck e he';rw [hb];intro e';injection e' with e'
    omega
   cases ex with
   | normal=>exact absurd rfl h4
   | exit id=>exact wpIn_exit (hQ (.exit id) c' fr H' _ hq h6 hfr (he.trans h7))
   | ret=>exact wpIn_ret (hQ .ret c' fr H' _ hq h6 hfr (he.trans h7))
 ·obtain⟨gB,X,I,Ix,Ax,k1,k2,k3,k4,k5,k6,k7,k8,k9,k10⟩:=core w0 M0 c a hs hf;refine wpIn_rangeFunc_ownN (F:=Fence.wide.inRound l0) (n:=m) (l₀:=l0) (r₀:=r0) rfl hl0 (by omega) (gf:=gf) (lb:= #[.pointer (some ⟨gB,0,none⟩)]) k1 trivial hgf.enters (k2 (m - 1) (by omega)) (fun h k=>h.trans k)
   (fun W l o o' hl ho _ _=>(Below.refl _ W).grown (grownBy_putObj' W l o') (Bl hl (Nat.le_of_lt (Ay.1 ho).1)) (fun k e=>by cases e;exact hl)) (Below.refl _ _) (fun _=>rfl)
   I Ix k3 k4 k5 Ax k6 (k7 (m - 1 - 1)) (k8 (m - 1 - 1) (.inl hb)) ?_ ?_
  ·rintro ys W hys hI;obtain⟨hW,hall⟩:=k9 ys W hys hI;obtain⟨g1,g2⟩:=hs.grow hW;exact hQ .normal { c with w:=W } fr H _ (hdone hall) g1 (hf.ext g2) (he.trans g2)
  ·rintro cd pre W hk hIx;obtain⟨ex,c',H',rfl,h4,hq,rfl,h6,h7,h8,h9⟩:=k10 cd pre W hk hIx;cases ex with
   | normal=>exact absurd rfl h4
   | exit id=>exact wpIn_exit (hQ (.exit id) c' fr H' _ hq h6 (hf.ext h7) (he.trans h7))
   | ret=>exact wpIn_ret (hQ .ret c' fr H' _ hq h6 (hf.ext h7) (he.trans h7))
end
end
section
open Go.RowKit Go.Shelf
attribute [local go_sem] Oper.semAt_some

theorem FP (n j:Nat):Dt n (j+1)=Dt n j ++ [n - 1 - j]:=by simp [Dt,Bm]
theorem HT (n j:Nat):(Dt n j).length=j:=by simp [Dt]

theorem X7 (F:Fence) (n:Nat) (h7:F.fn 164) (hro:F.round=none) (hn:1<=n) (l Bs n₀ b off len cap:Nat) (X Y:Nat->Value) (hlen:len<=1000000000) (hb:b<n₀) (hBn:Bs<n₀) (J Jx:List Nat->World->Prop)
  (hY:∀ pre x W,J pre W->pre.length<len->x<len->YieldAt F (n - 1) Tryz.prog l #[.int .i64 (x:Nat), .agg #[X x,Y x]] W fun e W'=>
   (e = .returned (.bool true)/\J (pre ++ [x]) W'/\Below n₀ W W')\/(e = .returned (.bool false)/\Jx (pre ++ [x]) W'))
  (W:World) (hBs:W.cell? ⟨Bs,0,none⟩=some (.slice (some ⟨b,off,none⟩) len cap)) (hc0:∀ j,j<len->W.cell? ⟨b,off+j*2,none⟩=some (X j)) (hc1:∀ j,j<len->W.cell? ⟨b,off+j*2+1,none⟩=some (Y j)) (h0:J [] W) :
  CallsIn F n Tryz.prog 164 #[.func (.yield l) #[] #[], .pointer (some ⟨Bs,0,none⟩)] W fun e W'=>(∃ v,e = .returned v)/\
   ((∃ ys,ys=Dt len len/\J ys W')\/(∃ pre,(∃ k,k<=len/\pre=Dt len k)/\Jx pre W')):=by
 have Hc0:=Lib.hid hc0;have Hc1:=Lib.hid hc1;clear hc0 hc1;refine callsIn_of_wp Tryz.func164 rfl h7 ?_ hro;simp only [Tryz.ntmps164,BT,Al,AY,Nat.reduceAdd,Nat.reduceSub,Dg,Df,DK,Dq,B3,Bu]
 gi_wp2
 gi_loopw [3] (fun i wr=>∃ k:Nat,k<=len/\i = .int .i64 ((len:Int) - 1 - k)/\J (Dt len k) wr/\Below n₀ W wr)
  (fun i _=>(intOf i+1).toNat)
 case atStart=>exact⟨0,Aj _,by simp,h0,Below.refl _ _⟩
 case round=>
  obtain⟨k,hk,rfl,hJs,hnx⟩:=hrel;by_cases hlt:k<len
  ·obtain⟨m,hmk⟩:∃ m,len=k+1+m:=⟨len - (k+1),by omega⟩;rw [show (len:Int) - 1 - k=(m:Int) by omega];obtain⟨fn,tmps,assign,body,hy,hR⟩:=hY _ m wr hJs (by rw [HT];exact hlt) (by omega);have e0:=(hnx.cell (p:=⟨b,off+m*2,none⟩) hb).trans (Hc0.out m (by omega));have e1:=(hnx.cell (p:=⟨b,off+m*2+1,none⟩) hb).trans (Hc1.out m (by omega));have eb:=(hnx.cell (p:=⟨Bs,0,none⟩) hBn).trans hBs;have hm:(m:Int)<(len:Int):=by omega
   have Hm:=Lib.hid hmk;clear hmk
   gi_wp2
   refine hR.mono ?_;rintro e W3 (⟨rfl,hJ3,hk3⟩ | ⟨rfl,hJx3⟩)
   ·gi_wp2
    go_roundw
    case rel=>exact⟨k+1,by omega,congrArg (Value.int .i64) (by have:=Hm.out;omega),by rw [FP,show len - 1 - k=m by have:=Hm.out;omega];exact hJ3,hnx.trans hk3⟩
    case measure=>simp [intOf]
   ·gi_wp2
    refine bodyPost_ret (results_none rfl _ _ _) rfl ?_;exact⟨⟨_,rfl⟩, .inr ⟨_,⟨k+1,by omega,by rw [FP,show len - 1 - k=m by have:=Hm.out;omega]⟩,hJx3⟩⟩
  ·obtain rfl:k=len:=by omega
   rw [show ((k:Nat):Int) - 1 - k = -1 by omega]
   gi_wp2
   go_end0
   exact⟨⟨_,rfl⟩, .inl ⟨_,rfl,hJs⟩⟩

theorem X8 (F:Fence) (n:Nat) (h7:F.fn 164) (hro:F.round=none) (l Bs:Nat) (a:Option Addr) (cap:Nat) (J:List Nat->World->Prop) (W:World) (hBs:W.cell? ⟨Bs,0,none⟩=some (.slice a 0 cap)) (h0:J [] W) :
  CallsIn F n Tryz.prog 164 #[.func (.yield l) #[] #[], .pointer (some ⟨Bs,0,none⟩)] W fun e W'=>(∃ v,e = .returned v)/\J [] W':=by
 refine callsIn_of_wp Tryz.func164 rfl h7 ?_ hro;simp only [Tryz.ntmps164,BT,Al,AY,Nat.reduceAdd,Nat.reduceSub,Dg,Df,DK,Dq,B3,Bu]
 gi_wp2
 gi_loopw [3] (fun i wr=>i = .int .i64 (-1)/\J [] wr) (fun _ _=>0)
 case atStart=>exact⟨rfl,h0⟩
 case round=>
  obtain⟨rfl,hJs⟩:=hrel
  gi_wp2
  go_end0
  exact⟨⟨_,rfl⟩,hJs⟩

theorem Sr (F:Fence) (n:Nat) (h7:F.fn 164) (hro:F.round=none) (hn:1<=n) (Bs n₀:Nat) (a:Option Addr) (len cap:Nat) (X Y:Nat->Value) (hlen:len<=1000000000) (w:World) (hBs:Bs<n₀) (hn₀:n₀<=w.heap.size)
  (hc:w.cell? ⟨Bs,0,none⟩=some (.slice a len cap)) (hI:0<len->∃ b off,a=some ⟨b,off,none⟩/\b<n₀/\∀ j,j<len->w.cell? ⟨b,off+j*2,none⟩=some (X j)/\w.cell? ⟨b,off+j*2+1,none⟩=some (Y j)) :
  SeqStopsK F n Tryz.prog 164 #[.pointer (some ⟨Bs,0,none⟩)] (fun x:Fin len=> #[Value.int .i64 x.val, .agg #[X x,Y x]]) (Below n₀) (fun ys=>ys.map Fin.val=Dt len len) (fun pre=>∃ k,k<=len/\pre.map Fin.val=Dt len k) len w:=fun l J Jx W hW _ _ hY h0=>by
 have hc':=(hW.cell (p:=⟨Bs,0,none⟩) (by show Bs<_;omega)).trans hc;rcases D3 len with rfl | hp
 ·exact(X8 F n h7 hro l Bs a cap (fun _ W=>J [] W) W hc' h0).mono fun e W' ⟨he,hj⟩=>⟨he, .inl ⟨[],rfl,hj⟩⟩
 ·obtain⟨b,off,rfl,hb,hj⟩:=hI hp;refine(X7 F n h7 hro hn l Bs n₀ b off len cap X Y hlen hb hBs (fun pre W=>∃ q:List (Fin len),q.map Fin.val=pre/\J q W) (fun pre W=>∃ q:List (Fin len),q.map Fin.val=pre/\Jx q W) ?_ W hc' (fun j h=>(hW.cell (p:=⟨b,off+j*2,none⟩) (by show b<_;omega)).trans (hj j h).1) (fun j h=>(hW.cell (p:=⟨b,off+j*2+1,none⟩) (by show b<_;omega)).trans (hj j h).2) ⟨[],rfl,h0⟩).mono ?_
  ·rintro pre x W1 ⟨q,hq,hJ⟩ hlt hx;obtain⟨fn,tmps,assign,body,hy,hR⟩:=hY q ⟨x,hx⟩ W1 hJ (by rw [<-hq,Aa] at hlt;exact hlt);refine⟨fn,tmps,assign,body,hy,hR.mono ?_⟩;rintro e W' (⟨he,h1,h2⟩ | ⟨he,h1⟩)
   ·exact .inl ⟨he,⟨_,by simp [hq],h1⟩,h2⟩
   ·exact .inr ⟨he,⟨_,by simp [hq],h1⟩⟩
  ·rintro e W' ⟨he,⟨ys,rfl,q,hq,hJ⟩ | ⟨pre,⟨k,hk,rfl⟩,q,hq,hJ⟩⟩
   ·exact⟨he, .inl ⟨q,hq,hJ⟩⟩
   ·exact⟨he, .inr ⟨q,⟨k,hk,hq⟩,hJ⟩⟩

theorem back_is:IsBack Tryz.prog 164 2:=by
 refine⟨enters_of Tryz.func164 (by kernel_rfl) rfl,fun m hm B a len cap X w hlen hc hl hI=>?_⟩;have e:(fun x:Fin len=>(#[Value.int .i64 x.val, .agg (X x.val).toArray]:Array Value))=fun x:Fin len=> #[Value.int .i64 x.val, .agg #[(X x.val).getD 0 undef,(X x.val).getD 1 undef]]:=by
  funext x;have:=hl x.val;match h:X x.val with
  | [u,v]=>rfl
  | []=>rw [h] at this;simp at this
  | [_]=>rw [h] at this;simp at this
  | _::_::_::_=>rw [h] at this;simp at this
 rw [e];refine Sr Fence.wide m trivial rfl hm B w.heap.size a len cap (fun j=>(X j).getD 0 undef) (fun j=>(X j).getD 1 undef) hlen w (World.block_lt_of_cell? w _ hc) (Ah _) hc fun hp=>?_
 obtain⟨b,off,h1,h2,h3⟩:=hI hp;refine⟨b,off,h1,h2,fun j hj=>?_⟩;have h4:=hl j;match h:X j with
 | [u,v]=>exact⟨h3 j hj 0 u (by rw [h];rfl),h3 j hj 1 v (by rw [h];rfl)⟩
 | []=>rw [h] at h4;simp at h4
 | [_]=>rw [h] at h4;simp at h4
 | _::_::_::_=>rw [h] at h4;simp at h4
end
section
open Go.RowKit
structure Cel where
 state:Int
 bytes:List UInt8
 old:List UInt8
 deriving DecidableEq
def BG (x:Cel):List AV:= [iv x.state,bA x.bytes,bA x.old]
structure Dk where
 cells:List Cel
 cache:List Wr
 reqs:Int
 left:Int
 deriving DecidableEq
@[reducible] def Hr (x y:AV) (reqs left:Int):List AV:= [x,y,iv reqs,iv left]
@[reducible] def dkH (d:Dk):List AB:= [.box 113 (Hr (.ow 1 d.cells.length) (.ow 2 d.cache.length) d.reqs d.left), .row 84 3 (d.cells.map BG), .row 131 2 (d.cache.map EK)]
def Dk.req (d:Dk):Dk:={ d with reqs:=if 1048576<IntKind.i64.wrap (d.reqs+1) then 1048576 else IntKind.i64.wrap (d.reqs+1),left:=if d.left > 0 then d.left - 1 else d.left }

theorem Hz (d:Dk) (hl : -1<=d.left/\d.left<=1048576):ACalls Tryz.prog false 97 [.bp 0 0] (dkH d) fun r H=>r = .v (.bool (decide (d.left≠0)))/\H=dkH (if d.left=0 then d else d.req):=by
 refine zd tys_ok Tryz.func97 rfl rfl (by decide) ?_;conv=>whnf
 refine A8 (fun h=>?_) (fun h=>?_) <;> (repeat rw [Ac] at h) <;> conv=>whnf
 ·exact⟨_,dkH d,fun _ _ h=>h,tA,rfl,tA,by simp [h],by rw [if_pos h]⟩
 ·have hw:IntKind.i64.wrap (d.left - 1)=d.left - 1:=by rw [IntKind.wrap_i64];omega
  refine zY ?_;conv=>whnf
  refine A8 (fun h2=>?_) (fun h2=>?_) <;> (repeat rw [Ac] at h2) <;> conv=>whnf
  ·exact⟨_,dkH d.req,fun _ _ h=>h,⟨by simp [Dk.req,h2,hw],rfl,rfl,tv⟩,rfl,tA,by simp [h],by rw [if_neg h]⟩
  ·exact⟨_,dkH d.req,fun _ _ h=>h,⟨by simp [Dk.req];omega,rfl,rfl,tv⟩,rfl,tA,by simp [h],by rw [if_neg h]⟩

theorem X6 (a:Option Addr) (len cap:Nat) (w:World) :
  Calls Tryz.prog 98 #[.slice a len cap] w fun e w'=>e = .returned (.func (.func 164) #[] #[.pointer (some ⟨w.heap.size,0,none⟩)])/\w.alloc (.cells #[.slice a len cap] 36)=w':=by
 go_enter Tryz.func98,Tryz.ntmps98
 go_wp2
 go_ret
 exact tA

theorem QV (x:AV) (Hin:List AB) (hx:∀ c u,Rd x c u->∃ a len cap,u = .slice a len cap):ACalls Tryz.prog false 98 [x] Hin fun r H=>r = .fn 164 [.bp Hin.length 0]/\H=Hin ++ [.box 36 [x]]:=by
 refine⟨⟨_,Tryz.func98,rfl,by decide⟩,fun w0 M0 c us hs hr=>?_⟩;have hr0:=hr;simp only [RdL] at hr;obtain⟨u,_,rfl,hu,rfl⟩:=hr;obtain⟨a,len,cap,rfl⟩:=hx _ _ hu;obtain⟨c',e1,e2,e3,e4⟩:=hs.box 36 hr0 (by simp [Value.oneCell']);refine(X6 a len cap c.w).mono ?_;rintro e w' ⟨rfl,rfl⟩;refine⟨_,c',_,_,rfl,by rw [e1],tA,e2,e3,?_,fun e=>by cases e⟩;simp only [Rd,RdL];exact⟨_,rfl,_,_,rfl,by simpa only [Rd] using e4,rfl⟩
def Ox (l:List Cel):AV:= .sl 3 l.length fun i=>BG (l.getD i ⟨0, [], []⟩)
theorem Ke (l:List Int) (hl:l.length<=1000000000):ACalls Tryz.prog false 89 [iA l] [] fun r H=>r = .ow 0 l.length/\H=[.row 3 1 (l.map Pw)]:=by
 refine zx tys_ok Tryz.func89 rfl rfl (by show 1<=_;decide) ?_;refine Ad (fun h=>?_) ?_
 ·conv=>whnf
  have h0:=AZ.1 h;subst h0;exact⟨_, .ow 0 0, [.row 3 1 []],fun _ _ h=>h,zE ⟨[(0,3,1)],tA,tA,tA,rfl,rfl,rfl⟩,rfl,rfl⟩
 ·refine⟨⟨rfl,by omega⟩,?_⟩;exact⟨.ow 0 l.length, .ow 0 l.length, [.row 3 1 (l.map Pw)],fun _ _ h=>by rwa [A4] at h,zE ⟨[],tv,tA,⟨(congrArg (AB.row _ _) (H6 (d:=0) Pw l)).symm,tv⟩,rfl,rfl,rfl⟩,rfl,rfl⟩
theorem Ob (l:List Hm) (hl:l.length<=1000000000):ACalls Tryz.prog false 155 [Ig l] [] fun r H=>r = .ow 0 l.length/\H=[.row 53 3 (l.map DU)]:=by
 refine zx tys_ok Tryz.func155 rfl rfl (by show 1<=_;decide) ?_;refine Ad (fun h=>?_) ?_
 ·conv=>whnf
  have h0:=AZ.1 h;subst h0;exact⟨_, .ow 0 0, [.row 53 3 []],fun _ _ h=>h,zE ⟨[(0,53,3)],tA,tA,tA,rfl,rfl,rfl⟩,rfl,rfl⟩
 ·refine⟨⟨rfl,by omega⟩,?_⟩;exact⟨.ow 0 l.length, .ow 0 l.length, [.row 53 3 (l.map DU)],fun _ _ h=>by rwa [A4] at h,zE ⟨[],tv,tA,⟨(congrArg (AB.row _ _) (H6 (d:=⟨[],0,0⟩) DU l)).symm,tv⟩,rfl,rfl,rfl⟩,rfl,rfl⟩
theorem K2 (l:List Tx) (hl:l.length<=1000000000):ACalls Tryz.prog false 154 [Dh l] [] fun r H=>r = .ow 0 l.length/\H=[.row 45 4 (l.map CI)]:=by
 refine zx tys_ok Tryz.func154 rfl rfl (by show 1<=_;decide) ?_;refine Ad (fun h=>?_) ?_
 ·conv=>whnf
  have h0:=AZ.1 h;subst h0;exact⟨_, .ow 0 0, [.row 45 4 []],fun _ _ h=>h,zE ⟨[(0,45,4)],tA,tA,tA,rfl,rfl,rfl⟩,rfl,rfl⟩
 ·refine⟨⟨rfl,by omega⟩,?_⟩;exact⟨.ow 0 l.length, .ow 0 l.length, [.row 45 4 (l.map CI)],fun _ _ h=>by rwa [A4] at h,zE ⟨[],tv,tA,⟨(congrArg (AB.row _ _) (H6 (d:=⟨0,0,0, []⟩) CI l)).symm,tv⟩,rfl,rfl,rfl⟩,rfl,rfl⟩
theorem NZ (l:List Img) (hl:l.length<=1000000000):ACalls Tryz.prog false 161 [DH l] [] fun r H=>r = .ow 0 l.length/\H=[.row 51 3 (l.map D9)]:=by
 refine zx tys_ok Tryz.func161 rfl rfl (by show 1<=_;decide) ?_;refine Ad (fun h=>?_) ?_
 ·conv=>whnf
  have h0:=AZ.1 h;subst h0;exact⟨_, .ow 0 0, [.row 51 3 []],fun _ _ h=>h,zE ⟨[(0,51,3)],tA,tA,tA,rfl,rfl,rfl⟩,rfl,rfl⟩
 ·refine⟨⟨rfl,by omega⟩,?_⟩;exact⟨.ow 0 l.length, .ow 0 l.length, [.row 51 3 (l.map D9)],fun _ _ h=>by rwa [A4] at h,zE ⟨[],tv,tA,⟨(congrArg (AB.row _ _) (H6 (d:=⟨0,0, []⟩) D9 l)).symm,tv⟩,rfl,rfl,rfl⟩,rfl,rfl⟩
theorem Nc (l:List Cel) (hl:l.length<=1000000000):ACalls Tryz.prog false 95 [Ox l] [] fun r H=>r = .ow 0 l.length/\H=[.row 84 3 (l.map BG)]:=by
 refine zx tys_ok Tryz.func95 rfl rfl (by show 1<=_;decide) ?_;refine Ad (fun h=>?_) ?_
 ·conv=>whnf
  have h0:=AZ.1 h;subst h0;exact⟨_, .ow 0 0, [.row 84 3 []],fun _ _ h=>h,zE ⟨[(0,84,3)],tA,tA,tA,rfl,rfl,rfl⟩,rfl,rfl⟩
 ·refine⟨⟨rfl,by omega⟩,?_⟩;exact⟨.ow 0 l.length, .ow 0 l.length, [.row 84 3 (l.map BG)],fun _ _ h=>by rwa [A4] at h,zE ⟨[],tv,tA,⟨(congrArg (AB.row _ _) (H6 (d:=⟨0, [], []⟩) BG l)).symm,tv⟩,rfl,rfl,rfl⟩,rfl,rfl⟩
theorem Nw (l:List Wr) (hl:l.length<=1000000000):ACalls Tryz.prog false 96 [LL l] [] fun r H=>r = .ow 0 l.length/\H=[.row 131 2 (l.map EK)]:=by
 refine zx tys_ok Tryz.func96 rfl rfl (by show 1<=_;decide) ?_;refine Ad (fun h=>?_) ?_
 ·conv=>whnf
  have h0:=AZ.1 h;subst h0;exact⟨_, .ow 0 0, [.row 131 2 []],fun _ _ h=>h,zE ⟨[(0,131,2)],tA,tA,tA,rfl,rfl,rfl⟩,rfl,rfl⟩
 ·refine⟨⟨rfl,by omega⟩,?_⟩;exact⟨.ow 0 l.length, .ow 0 l.length, [.row 131 2 (l.map EK)],fun _ _ h=>by rwa [A4] at h,zE ⟨[],tv,tA,⟨(congrArg (AB.row _ _) (H6 (d:=⟨0, []⟩) EK l)).symm,tv⟩,rfl,rfl,rfl⟩,rfl,rfl⟩
theorem SubL.app:∀ {a b x y:List AV},SubL a b->SubL x y->SubL (a ++ x) (b ++ y)
 | [], [],_,_,_,k=>k
 | _::_,_::_,_,_,h,k=>⟨h.1,SubL.app h.2 k⟩
 | [],_::_,_,_,h,_=>h.elim
 | _::_, [],_,_,h,_=>h.elim
theorem SubL.flat:∀ {a b:List (List AV)},a.length=b.length->(∀ i,SubL (a.getD i []) (b.getD i []))->SubL a.flatten b.flatten
 | [], [],_,_=>trivial
 | x::a,y::b,hl,h=>by
  rw [AM,AM];exact SubL.app (h 0) (SubL.flat (by simpa using hl) fun i=>h (i+1))
 | [],_::_,hl,_=>by simp at hl
 | _::_, [],hl,_=>by simp at hl
theorem ConvH.subRow {H:List AB} {k:Nat} {t:TypeId} {sz:Nat} {es es':List (List AV)} (hk:H[k]? = some (.row t sz es)) (hl:es.length=es'.length) (h:∀ i,SubL (es.getD i []) (es'.getD i [])):ConvH H (H.set k (.row t sz es')):=fun _ _ c hs=>
 ⟨c,rfl,hs.recell hk rfl fun⟨h1,h2,h3,xs,h4,h5,h6⟩=>⟨h1.trans hl,h2,fun e he=>by
  obtain⟨i,hi,rfl⟩:=List.mem_iff_getElem.1 he;have:=(h i).len;rw [Ab,Ab,Af hi,Af (by omega)] at this;simp only [B9] at this;rw [<-this];exact h3 _ (CF _),xs,by rw [<-hl];exact h4,(SubL.flat hl h).rdl h5,h6⟩,zJ c⟩
def zB:=@ConvH.subRow
theorem ConvH.subRowo {H:List AB} {k:Nat} {t:TypeId} {sz m m':Nat} {es es':List (List AV)} (hk:H[k]? = some (.rowo t sz es m)) (hl:es.length=es'.length) (h:∀ i,SubL (es.getD i []) (es'.getD i [])) (hm:AV.ltL es'.flatten m'=true):ConvH H (H.set k (.rowo t sz es' m')):=fun _ _ c hs=>
 ⟨c,rfl,hs.recell hk rfl fun⟨h1,h2,h3,h7,xs,h4,h5,h6⟩=>⟨h1.trans hl,h2,fun e he=>by
  obtain⟨i,hi,rfl⟩:=List.mem_iff_getElem.1 he;have:=(h i).len;rw [Ab,Ab,Af hi,Af (by omega)] at this;simp only [B9] at this;rw [<-this];exact h3 _ (CF _),hm,xs,by rw [<-hl];exact h4,(SubL.flat hl h).rdl h5,h6⟩,zJ c⟩
theorem Lj {α:Type} {d x:α} {l:List α} {i k:Nat} (h:i≠k):(l.set i x).getD k d=l.getD k d:=by
 rw [Ab,AA h,<-Ab]
theorem BQ {α:Type} {d x:α} {l:List α} {i:Nat} (h:i<l.length):(l.set i x).getD i d=x:=by
 rw [Ab,AC h];rfl
theorem ConvH.last {H:List AB} (k:Nat) {t:TypeId} {sz:Nat} {es:List (List AV)} {e e':List AV} (hk:H[k]? = some (.row t sz (es ++ [e]))) (h:SubL e e'):ConvH H (H.set k (.row t sz (es ++ [e']))):=
 zB hk (by simp) fun i=>by
  by_cases hi:i<es.length
  ·rw [Ki hi,Ki hi];exact SubL.refl _
  ·rw [IT (by omega),IT (by omega)];cases h2:i - es.length with
   | zero=>exact h
   | succ j=>exact SubL.refl _
def AV.mv (k d:Nat):AV->AV
 | .ow j n=> .ow (bif Nat.beq j k then d else j) n
 | x=>x
theorem Rd.mv {c c':Ctx} {k:Nat} (e:Ext c c') (hd:c.dom<c'.dom) (hr:c'.rho c.dom=c.rho k) (hl:c'.len c.dom=c.len k):∀ (x:AV) {u:Value},Rd x c u->Rd (x.mv k c.dom) c' u
 | .ow j n,u,h=>by
  show Rd (.ow (bif Nat.beq j k then c.dom else j) n) c' u;cases hb:Nat.beq j k with
  | true=>
   have:=Am hb;subst this;simp only [Rd] at h;simp only [cond_true,Rd];exact⟨hd,by rw [hl];exact h.2.1,h.2.2.1,fun e=>by rw [hr];exact h.2.2.2 (by rw [<-hl];exact e)⟩
  | false=>exact Rd.ext _ e h
 | .top,_,h=>Rd.ext _ e h
 | .v _,_,h=>Rd.ext _ e h
 | .sl _ _ _,_,h=>Rd.ext _ e h
 | .rp _,_,h=>Rd.ext _ e h
 | .bp _ _,_,h=>Rd.ext _ e h
 | .ep _ _ _ _ _,_,h=>Rd.ext _ e h
 | .ag _,_,h=>Rd.ext _ e h
 | .tp _,_,h=>Rd.ext _ e h
 | .fn _ _,_,h=>Rd.ext _ e h
 | .ic _ _,_,h=>Rd.ext _ e h
theorem RdL.mv {c c':Ctx} {k:Nat} (e:Ext c c') (hd:c.dom<c'.dom) (hr:c'.rho c.dom=c.rho k) (hl:c'.len c.dom=c.len k):∀ (l:List AV) {us:List Value},RdL l c us->RdL (l.map (AV.mv k c.dom)) c' us
 | [],_,h=>h
 | x::l,_,h=>by
  simp only [RdL] at h;obtain⟨y,ys,rfl,h1,h2⟩:=h;simp only [A0,RdL];exact⟨y,ys,rfl,Rd.mv e hd hr hl x h1,RdL.mv e hd hr hl l h2⟩
theorem ConvH.move {H:List AB} (i k:Nat) {t ti:TypeId} {sz:Nat} {es:List (List AV)} {cs:List AV} (hik:i≠k) (hi:H[i]? = some (.box ti cs)) (hk:H[k]? = some (.row t sz es)) :
  ConvH H (((H.set k .dead).set i (.box ti (cs.map (AV.mv k H.length)))) ++ [.row t sz es]):=fun w0 M0 c hs=>by
 have hil:=(Au.1 hi).1;have hkl:=(Au.1 hk).1;have hdom:=hs.dom;let c':Ctx:={ c with rho:=fun j=>if j=c.dom then c.rho k else c.rho j,len:=fun j=>if j=c.dom then c.len k else c.len j,dom:=c.dom+1 };have hn:∀ j,j<c.dom->c'.rho j=c.rho j/\c'.len j=c.len j:=fun j hj=>⟨if_neg (by omega),if_neg (by omega)⟩
 have e:Ext c c':=⟨rfl,rfl,rfl,Ah _,fun _ _ h=>⟨h,rfl⟩,Nat.le_succ _,fun j hj=>by rw [(hn j hj).2];exact Ah _,fun j hj _=>(hn j hj).1,fun j g hj h=>by rw [(hn j hj).1];exact h⟩;have hr:c'.rho c.dom=c.rho k:=if_pos rfl;have hl:c'.len c.dom=c.len k:=if_pos rfl;have get:∀ j x,(((H.set k .dead).set i (.box ti (cs.map (AV.mv k H.length)))) ++ [.row t sz es])[j]? = some x->x.live=true->(j=c.dom/\x = .row t sz es)\/(j<c.dom/\j=i/\x = .box ti (cs.map (AV.mv k c.dom)))\/(j<c.dom/\j≠i/\j≠k/\H[j]? = some x):=fun j x hj hx=>by
  rw [hdom];by_cases h1:j<H.length
  ·rw [AF (by simpa using h1)] at hj;by_cases h2:j=i
   ·subst h2;rw [AC (by simpa using h1)] at hj;exact .inr (.inl ⟨h1,rfl,(Option.some.inj hj).symm⟩)
   ·rw [AA (Ne.symm h2)] at hj;by_cases h3:j=k
    ·subst h3;rw [AC h1] at hj;rw [<-Option.some.inj hj] at hx;cases hx
    ·rw [AA (Ne.symm h3)] at hj;exact .inr (.inr ⟨h1,h2,h3,hj⟩)
  ·rw [AH (by simpa using h1)] at hj;simp only [AW] at hj;cases h2:j - H.length with
   | zero=>rw [h2] at hj;exact .inl ⟨by omega,(Option.some.inj hj).symm⟩
   | succ m=>rw [h2] at hj;simp at hj
 have org:∀ j x,(((H.set k .dead).set i (.box ti (cs.map (AV.mv k H.length)))) ++ [.row t sz es])[j]? = some x->x.live=true->∃ j' y,H[j']? = some y/\y.live=true/\c'.rho j=c.rho j'/\((j=c.dom/\j'=k)\/(j<c.dom/\j'=j/\j≠k)):=fun j x hj hx=>by
  rcases get j x hj hx with ⟨rfl,rfl⟩ | ⟨h1,rfl,rfl⟩ | ⟨h1,h2,h3,h4⟩
  ·exact⟨k,_,hk,rfl,hr, .inl tA⟩
  ·exact⟨j,_,hi,rfl,(hn j h1).1, .inr ⟨h1,rfl,hik⟩⟩
  ·exact⟨j,_,h4,hx,(hn j h1).1, .inr ⟨h1,rfl,h3⟩⟩
 refine⟨c',rfl,⟨hs.low,hs.base,by simp [c',hdom],hs.foreign,hs.lt,fun j x hj=>?_,fun j x g hj hx ho=>?_,fun j1 j2 x y g h1 h2 hx hy o1 o2=>?_⟩,e⟩
 ·cases hx:x.live with
  | false=>cases x <;> first | trivial | cases hx
  | true=>
   rcases get j x hj hx with ⟨rfl,rfl⟩ | ⟨h1,rfl,rfl⟩ | ⟨h1,h2,h3,h4⟩
   ·obtain⟨q1,q2,q3,xs,q4,q5,q6⟩:=hs.blk k _ hk;exact⟨by rw [hl];exact q1,q2,q3,xs,by rw [hr];exact q4,RdL.ext _ e.closed q5,q6⟩
   ·obtain⟨g,xs,q1,q2,q3,q4⟩:=hs.blk j _ hi;exact⟨g,xs,by rw [(hn j h1).1];exact q1,q2,RdL.mv e (Nat.lt_succ_self _) hr hl _ q3,q4⟩
   ·exact zq e rfl h1 (hn j h1).2 (fun _ _ _=>rfl) (hs.blk j x h4)
 ·obtain⟨j',y,h1,h2,h3,_⟩:=org j x hj hx;exact hs.own j' y g h1 h2 (by rw [<-h3];exact ho)
 ·obtain⟨a,y1,p1,p2,p3,p4⟩:=org j1 x h1 hx;obtain⟨b,y2,r1,r2,r3,r4⟩:=org j2 y h2 hy;have:=hs.dis a b y1 y2 g p1 r1 p2 r2 (by rw [<-p3];exact o1) (by rw [<-r3];exact o2);omega

def zy:=@ConvH.move
def aA (T:Tys) (m:Nat) (rs:List ResultVar) (K:AV->List AB->Prop):QA:=fun ex fr H=>match ex with
 | .exit _=>False
 | _=>IZ T rs fr H fun x=>∃ y r H2,(∀ c v,Rd x c v->Rd y c v)/\WkR m [(0,y)] H [(0,r)] H2/\K r H2
theorem ACalls.ofR {P : Program} {T : Tys} (hT : TOk P T) {f : FuncId} {fn : Func} {body : Code} {args : List AV} {Hin : List AB} {K : AV → List AB → Prop} (hf : P.funcs[f]? = some fn) (hb : fn.body = some body) (hname : (fn.name == "runtime.NumGoroutine") = false) (hn : args.length ≤ fn.ntmps)
  (h:C5 P T fn.ntmps Hin.length body (aA T Hin.length fn.results.toList K) (frOf 0 args) Hin):ACalls P false f args Hin K:=by
 refine⟨⟨fn,hf,by rw [hb];rfl,hname⟩,fun w0 M0 c0 us hs0 hr=>?_⟩;have hlen:=hr.length;have hFR:FR (w0.at c0.w hs0.low) c0 fn.ntmps (frOf 0 args) { tmps:=us.toArray ++ Array.replicate (fn.ntmps - us.toArray.size) undef,defers:= [] }:=by
  refine⟨by simp;omega,tv,fun i=>?_⟩;have:=HK (c:=c0) (m:=fn.ntmps - us.length) (l:=args) (i:=0) (pre:= []) rfl hr i;rw [AQ];have e:(us.toArray ++ Array.replicate (fn.ntmps - us.toArray.size) undef)[i]? = ([] ++ us ++ List.replicate (fn.ntmps - us.length) undef)[i]? :=by
   have:(us.toArray ++ Array.replicate (fn.ntmps - us.toArray.size) undef)=([] ++ us ++ List.replicate (fn.ntmps - us.length) undef).toArray:=Array.ext' (by simp);rw [this];simp only [C2]
  rw [e];exact this
 have fin:∀ a w,E6 (w0.at c0.w hs0.low) M0 c0 fn.ntmps (fun fr H=>IZ T fn.results.toList fr H fun x=>∃ y r H2,(∀ c v,Rd x c v->Rd y c v)/\WkR Hin.length [(0,y)] H [(0,r)] H2/\K r H2) a w->∃ v,(results fn a.tmps).run P w = .ok v w/\∃ v' c' r H',Ending.returned v = .returned v'/\c'.w=w/\K r H'/\HS w0 M0 c' H'/\Ext c0 c'/\Rd r c' v'/\(false=true->Old c0.w w):=by
  rintro a w ⟨c,fr,H,rfl,h1,h2,h3,h4⟩;obtain⟨x,v,⟨y,r,H2,o1,o2,o3⟩,q2,q3⟩:=EW hT h2 h3 h1;have hfr:FR (w0.at c0.w hs0.low) c 1 [(0,y)] { tmps:= #[v],defers:= [] }:=by
   refine⟨rfl,tv,fun i=>?_⟩;unfold fget;cases i with
   | zero=>exact o1 _ _ q2
   | succ i=>show Rd .top c _;simp [Rd]
  obtain⟨c',e1,e2,e3,e4⟩:=o2.sound hs0.dom h2 hfr h4;have hr':=e3.get 0;refine⟨v,q3,v,c',r,H2,rfl,e1,o3,⟨zh e2.low,e2.base,e2.dom,e2.foreign,e2.lt,e2.blk,e2.own,e2.dis⟩,e4,?_,fun e=>by cases e⟩;simpa [fget] using hr'
 refine EJ hf hb trivial (Ah _) fin ?_;refine BC (w0:=w0.at c0.w hs0.low) (M0:=M0) (ce:=c0) hT hs0.dom body _ _ c0 _ Hin _ (FK rfl rfl fun _ _ _ h=>h) hs0.toAt hFR (zJ _) h
def zT:=@ACalls.ofR
def Ic (l:List Wr) (a:Int):Option Wr:=l.foldl (fun r w=>if w.addr=a then some w else r) none
theorem NU (a:Int):Ic [] a=none:=rfl
theorem EG (l:List Wr) (w:Wr) (a:Int):Ic (l ++ [w]) a=if w.addr=a then some w else Ic l a:=by simp [Ic]
theorem KN {a:Int}:∀ (n:Nat) (l:List Wr),l.length=n->∀ i,i<l.length->(l.getD i ⟨0, []⟩).addr=a->(∀ j,i<j->j<l.length->(l.getD j ⟨0, []⟩).addr≠a)->Ic l a=some (l.getD i ⟨0, []⟩)
 | 0,l,hn,i,hi,_,_=>by omega
 | n+1,l,hn,i,hi,h1,h2=>by
  rcases CS l with rfl | ⟨m,w,rfl⟩
  ·simp at hn
  ·simp only [CT] at *
   simp at hn hi;rw [EG];by_cases he:i=m.length
   ·subst he;simp only [Ab,AH (Ah _),C_,Dm,B9] at h1 |-
    rw [if_pos h1]
   ·have hm:∀ j,j<m.length->(m ++ [w]).getD j ⟨0, []⟩=m.getD j ⟨0, []⟩:=fun j hj=>by simp only [Ab,AF hj]
    have hw:=h2 m.length (by omega) (by simp);simp only [Ab,AH (Ah _),C_,Dm,B9] at hw;rw [if_neg hw,hm i (by omega)];rw [hm i (by omega)] at h1;exact KN n m hn i (by omega) h1 fun j q1 q2=>by rw [<-hm j q2];exact h2 j q1 (by simp;omega)
theorem Jy {a:Int}:∀ (n:Nat) (l:List Wr),l.length=n->(∀ j,j<l.length->(l.getD j ⟨0, []⟩).addr≠a)->Ic l a=none
 | 0,l,hn,_=>by rw [AZ.1 hn];rfl
 | n+1,l,hn,h=>by
  rcases CS l with rfl | ⟨m,w,rfl⟩
  ·rfl
  ·simp only [CT] at *
   simp at hn;rw [EG];have hw:=h m.length (by simp);simp only [Ab,AH (Ah _),C_,Dm,B9] at hw;rw [if_neg hw];exact Jy n m hn fun j q=>by
    have:=h j (by simp;omega);simpa only [Ab,AF q] using this
def Dk.got (d:Dk) (a:Int):List UInt8 × Int:=
 match Ic d.cache a with
 | some w=>(w.bytes,0)
 | none=>if (d.cells.getD a.toNat ⟨0, [], []⟩).state=0 then ((d.cells.getD a.toNat ⟨0, [], []⟩).bytes,0) else ([],6)
def Dk.read (d:Dk) (a:Int):Dk × List UInt8 × Int:=if d.left=0 then (d, [],8) else (d.req,d.got a)

theorem W0 (e:Int) (c:Ctx) (v:Value) (h:Rd (.tp [.v (.slice none 0 0),iv e]) c v):Rd (.tp [bA [],iv e]) c v:=by
 simp only [Rd,RdL] at h |-
 obtain⟨xs,rfl,y,ys,rfl,rfl,h⟩:=h;exact⟨_,rfl,_,_,rfl,Bt 1 (fun i=> [.v (.int .u8 (([]:List UInt8).getD i 0).toNat)]) c (.slice none 0 0) (by simp [Rd]),h⟩
theorem NS {m:Nat} (h:Nat.ble 3 m=true):∀ z∈ [0,1,2],z<m:=fun z hz=>by
 have:=Ag h;simp at hz;omega
theorem Xi (hcl:∀ b:List UInt8,b.length<=1000000000->Fn Tryz.prog 60 [bA b] fun r=>r=bA b) (d:Dk) (a:Int) (hl : -1<=d.left/\d.left<=1048576) (ha:0<=a/\a<d.cells.length) (hc:d.cache.length<=2000) (hb:∀ c∈d.cells,c.bytes.length<=100000) (hw:∀ w∈d.cache,w.bytes.length<=100000) :
  ACalls Tryz.prog false 41 [.bp 0 0,iv a] (dkH d) fun r H=>r = .tp [bA (d.read a).2.1, .v (.int .i64 (d.read a).2.2)]/\H=dkH (d.read a).1:=by
 refine zd tys_ok Tryz.func41 rfl rfl (by show 2<=_;decide) ?_;have hq:=Hz d hl;conv=>whnf
 by_cases h0:d.left=0
 ·rw [if_pos h0] at hq;refine ze9 [0,1,2] hq ?_;rintro _ _ ⟨rfl,rfl⟩;rw [show decide (d.left≠0)=false by simp [h0]];exact⟨.tp [bA [],iv 8],dkH d,W0 8,tA,rfl,tA,by simp [Dk.read,h0],by simp [Dk.read,h0]⟩
 ·rw [if_neg h0] at hq;refine ze9 [0,1,2] hq ?_;rintro _ _ ⟨rfl,rfl⟩;rw [show decide (d.left≠0)=true by simp [h0]];conv=>whnf
  refine(QV (.ow 2 d.req.cache.length) _ (fun c u hu=>by simp only [Rd] at hu;obtain⟨_,_,⟨a,p,h,_⟩,_⟩:=hu;exact⟨_,_,_,h⟩)).mono ?_;rintro _ _ ⟨rfl,rfl⟩;conv=>whnf
  have hE:∀ i,i<d.cache.length->(d.cache.map EK).getD i []=EK (d.cache.getD i ⟨0, []⟩):=fun i hi=>Bg hi
  refine aRF.back tys_ok back_is (B:=6) (len:=d.cache.length) (E:=fun i=>(d.cache.map EK).getD i []) rfl rfl ⟨rfl,_,_,rfl,by simp [Dk.req],rfl⟩ (by omega) rfl (by decide) rfl [(3, .rp [iv a])] ⟨.inr ⟨3,_,_,rfl,rfl,rfl,rfl⟩,tv⟩ (fun i=>decide ((d.cache.getD i ⟨0, []⟩).addr=a)) ?_ ?_ ?_
  ·intro i hi hh;rw [hE i hi];refine⟨rfl,?_⟩;have hh':(d.cache.getD i ⟨0, []⟩).addr≠a:=by simpa using hh
   conv=>whnf
   refine A8 (fun h1=>?_) (fun h1=>?_) <;> (repeat rw [Ac] at h1) <;> conv=>whnf
   ·exact absurd h1 hh'
  ·intro i hi hh;rw [hE i hi];refine⟨rfl,?_⟩;have hh':(d.cache.getD i ⟨0, []⟩).addr=a:=by simpa using hh
   have hcw:=hcl (d.cache.getD i ⟨0, []⟩).bytes (by have:=hw _ (A7 (d:=⟨0, []⟩) hi);omega);conv=>whnf
   refine A8 (fun h1=>?_) (fun h1=>?_) <;> (repeat rw [Ac] at h1) <;> conv=>whnf
   ·refine z_ hcw ?_;conv=>whnf
    refine⟨by simp,rfl,fun hord=>?_⟩;conv=>whnf
    have hg:d.got a=((d.cache.getD i ⟨0, []⟩).bytes,0):=by
     unfold Dk.got;rw [KN _ _ rfl i hi hh' fun j q1 q2=>by simpa using hord j q1 q2]
    exact⟨_,dkH d.req,fun _ _ h=>h,tA,rfl,tA,by simp [Dk.read,h0,hg,bA],by simp [Dk.read,h0]⟩
   ·exact absurd hh' h1
  ·intro hh;have hg:d.got a=if (d.cells.getD a.toNat ⟨0, [], []⟩).state=0 then ((d.cells.getD a.toNat ⟨0, [], []⟩).bytes,0) else ([],6):=by
    unfold Dk.got;rw [Jy _ _ rfl fun j q=>by simpa using hh j q]
   have hgc:(d.cells.map BG).getD a.toNat []=BG (d.cells.getD a.toNat ⟨0, [], []⟩):=Bg (by omega);have hgc':(d.req.cells.map BG).getD a.toNat []=BG (d.cells.getD a.toNat ⟨0, [], []⟩):=hgc;have hcb:=hcl (d.cells.getD a.toNat ⟨0, [], []⟩).bytes (by have:=hb _ (A7 (d:=⟨0, [], []⟩) (show a.toNat<d.cells.length by omega));omega);conv=>whnf
   refine z7 tys_ok mixed [0,1,2,3,4,5,6,7,8,9] (by kernel_rfl) ?_;refine⟨ha,?_⟩;refine⟨⟨rfl,(Aa _).symm,show a.toNat<d.cells.length by omega⟩,?_⟩;conv=>whnf
   first | rw [hgc] | rw [hgc']
   conv=>whnf
   refine A8 (fun h1=>?_) (fun h1=>?_) <;> (repeat rw [Ac] at h1) <;> conv=>whnf
   ·rw [if_neg h1] at hg;exact⟨.tp [bA [],iv 6],dkH d.req,W0 6,tA,rfl,tA,by simp only [Dk.read,if_neg h0,hg],by simp only [Dk.read,if_neg h0]⟩
   ·refine z_ hcb ?_;conv=>whnf
    conv=>whnf
    rw [if_pos h1] at hg;exact⟨_,dkH d.req,fun _ _ h=>h,tA,rfl,tA,by simp only [Dk.read,if_neg h0,hg,bA],by simp only [Dk.read,if_neg h0]⟩
def Dk.write (d:Dk) (a:Int) (b:List UInt8):Dk × Int:=
 if d.left=0 then (d,8) else if (d.cells.getD a.toNat ⟨0, [], []⟩).state=2\/(2000:Int)<=d.cache.length then (d.req,7) else ({ d.req with cache:=d.cache ++ [⟨a,b⟩] },0)

theorem Oq (hcl:∀ b:List UInt8,b.length<=1000000000->Fn Tryz.prog 60 [bA b] fun r=>r=bA b) (d:Dk) (a:Int) (b:List UInt8) (hl : -1<=d.left/\d.left<=1048576) (ha:0<=a/\a<d.cells.length) (hc:d.cache.length<=2000) (hb:b.length<=100000) :
  ACalls Tryz.prog false 217 [.bp 0 0,iv a,bA b] (dkH d) fun r H=>r = .v (.int .i64 (d.write a b).2)/\H=dkH (d.write a b).1:=by
 refine zd tys_ok Tryz.func217 rfl rfl (by show 3<=_;decide) ?_;have hq:=Hz d hl;have hcb:=hcl b (by omega);conv=>whnf
 by_cases h0:d.left=0
 ·rw [if_pos h0] at hq;refine hq.mono ?_;rintro _ _ ⟨rfl,rfl⟩;rw [show decide (d.left≠0)=false by simp [h0]];exact⟨_,dkH d,fun _ _ h=>h,tA,rfl,tA,by simp only [Dk.write,if_pos h0],by simp only [Dk.write,if_pos h0]⟩
 ·rw [if_neg h0] at hq;refine hq.mono ?_;rintro _ _ ⟨rfl,rfl⟩;rw [show decide (d.left≠0)=true by simp [h0]];have hgc:(d.cells.map BG).getD a.toNat []=BG (d.cells.getD a.toNat ⟨0, [], []⟩):=Bg (by omega);have hgc':(d.req.cells.map BG).getD a.toNat []=BG (d.cells.getD a.toNat ⟨0, [], []⟩):=hgc;refine⟨ha,?_⟩;refine⟨⟨rfl,(Aa _).symm,show a.toNat<d.cells.length by omega⟩,?_⟩;conv=>whnf
  first | rw [hgc] | rw [hgc']
  conv=>whnf
  refine A8 (fun h1=>?_) (fun h1=>?_) <;> (repeat rw [Ac] at h1) <;> conv=>whnf
  ·exact⟨_,dkH d.req,fun _ _ h=>h,tA,rfl,tA,by simp only [Dk.write,if_neg h0,if_pos (Or.inl h1)],by simp only [Dk.write,if_neg h0,if_pos (Or.inl h1)]⟩
  ·by_cases h2:(2000:Int)<=d.cache.length
   ·rw [show decide ((d.req.cache.length:Int)>=2000)=true from decide_eq_true h2];exact⟨_,dkH d.req,fun _ _ h=>h,tA,rfl,tA,by simp only [Dk.write,if_neg h0,if_pos (Or.inr h2)],by simp only [Dk.write,if_neg h0,if_pos (Or.inr h2)]⟩
   ·rw [show decide ((d.req.cache.length:Int)>=2000)=false from decide_eq_false h2];have hc':d.req.cache.length<=2000:=hc;have h3:¬((d.cells.getD a.toNat ⟨0, [], []⟩).state=2\/(2000:Int)<=d.cache.length):=fun h=>h.elim h1 h2
    conv=>whnf
    apply zP tys_ok mixed (.o [0,1,2,3,4,5,6,7,8,9,10,11,12,13,14,15] .fin) [31,32,33,34,35,36,37,38,39,40,41,42,43,44,45] (by kernel_rfl)
    ·conv=>whnf
     refine z_ hcb ?_;conv=>whnf
     try (refine tJ ?_;conv=>whnf)
     try (refine tK ?_;conv=>whnf)
     try (refine tS ?_;conv=>whnf)
     exact tA
    conv=>whnf
    have e:dkH { d.req with cache:=d.cache ++ [⟨a,b⟩] }=[.box 113 (Hr (.ow 1 d.cells.length) (.ow 2 (d.cache.length+1)) d.req.reqs d.req.left), .row 84 3 (d.cells.map BG), .row 131 2 (d.cache.map EK ++ [EK ⟨a,b⟩])]:=by
     unfold dkH;simp only [Ai,D8,A9,A0,Bn];rfl
    refine⟨_,dkH { d.req with cache:=d.cache ++ [⟨a,b⟩] },fun _ _ h=>h,?_,rfl,tA,by simp only [Dk.write,if_neg h0,if_neg h3],by simp only [Dk.write,if_neg h0,if_neg h3]⟩;rw [e];exact tA
def cz:Cel:=⟨0, [], []⟩
def Dk.fin (d:Dk) (w:Wr):Dk:=
 if (d.cells.getD w.addr.toNat cz).state=2 then d else { d with cells:=d.cells.set w.addr.toNat ⟨0,w.bytes,(d.cells.getD w.addr.toNat cz).bytes⟩ }

theorem Xl (d:Dk) (w:Wr) (ha:0<=w.addr/\w.addr<d.cells.length) :
  ACalls Tryz.prog false 61 [.bp 0 0, .ag (EK w)] (dkH d) fun r H=>r = .tp []/\H=dkH (d.fin w):=by
 refine zd tys_ok Tryz.func61 rfl rfl (by show 2<=_;decide) ?_;have hgc:(d.cells.map BG).getD w.addr.toNat []=BG (d.cells.getD w.addr.toNat cz):=Bg (by omega);conv=>whnf
 refine z7 tys_ok mixed [0,1,2,3,4,5,6,7,8] (by kernel_rfl) ?_;refine⟨(show 0<=w.addr/\w.addr<d.cells.length from ha),?_⟩;refine⟨⟨rfl,(Aa _).symm,show w.addr.toNat<d.cells.length by omega⟩,?_⟩;conv=>whnf
 rw [hgc];conv=>whnf
 refine A8 (fun h1=>?_) (fun h1=>?_) <;> (repeat rw [Ac] at h1) <;> conv=>whnf
 ·refine z7 tys_ok mixed [0,1,2,3,4,5,6,7,8,9] (by kernel_rfl) ?_;refine⟨⟨rfl,(Aa _).symm,show w.addr.toNat<d.cells.length by omega⟩,?_⟩;conv=>whnf
  rw [hgc];refine⟨⟨rfl,(Aa _).symm,show w.addr.toNat<d.cells.length by omega⟩,?_⟩;conv=>whnf
  rw [hgc];conv=>whnf
  have hmem:w.addr.toNat<d.cells.length:=by omega
  refine⟨_,dkH { d with cells:=d.cells.set w.addr.toNat ⟨0,w.bytes,(d.cells.getD w.addr.toNat cz).bytes⟩ },fun _ _ h=>h,?_,rfl,tA,rfl,by simp only [Dk.fin,if_neg h1]⟩;have e:dkH { d with cells:=d.cells.set w.addr.toNat ⟨0,w.bytes,(d.cells.getD w.addr.toNat cz).bytes⟩ }=[.box 113 (Hr (.ow 1 d.cells.length) (.ow 2 d.cache.length) d.reqs d.left), .row 84 3 ((d.cells.map BG).set w.addr.toNat (BG ⟨0,w.bytes,(d.cells.getD w.addr.toNat cz).bytes⟩)), .row 131 2 (d.cache.map EK)]:=by
   unfold dkH;simp only [AW,Ch]
  rw [e];exact tA
 ·refine⟨_,dkH d,fun _ _ h=>h,tA,rfl,tA,rfl,by simp only [Dk.fin,if_pos h1]⟩
@[reducible] def dkF (d:Dk):List AB:= [.box 113 (Hr (.ow 1 d.cells.length) (.ow 3 0) d.reqs d.left), .row 84 3 (d.cells.map BG), .dead, .row 131 2 []]
def Dk.allFin (d:Dk) (l:List Wr):Dk:=l.foldl Dk.fin d
theorem YD (d:Dk) (w:Wr):(d.fin w).cells.length=d.cells.length:=by unfold Dk.fin;split <;> simp
theorem U3 (d:Dk) (w:Wr):(d.fin w).cache=d.cache/\(d.fin w).reqs=d.reqs/\(d.fin w).left=d.left:=by unfold Dk.fin;split <;> simp
theorem J8 (l:List Wr):∀ (d:Dk),(d.allFin l).cells.length=d.cells.length/\(d.allFin l).cache=d.cache/\(d.allFin l).reqs=d.reqs/\(d.allFin l).left=d.left:=by
 induction l with
 | nil=>intro d;exact⟨rfl,rfl,rfl,rfl⟩
 | cons w r ih=>
  intro d;obtain⟨h1,h2,h3,h4⟩:=ih (d.fin w);have:=U3 d w;exact⟨h1.trans (YD d w),h2.trans this.1,h3.trans this.2.1,h4.trans this.2.2⟩
theorem L2 (d:Dk) {l:List Wr} {k:Nat} (h:k<l.length):d.allFin (l.take (k+1))=(d.allFin (l.take k)).fin (l.getD k ⟨0, []⟩):=by
 unfold Dk.allFin;rw [A_,Ci,Af h];simp [Ab,Af h]
def Dk.flush (d:Dk):Dk:={ d.req.allFin d.cache with cache:= [] }

theorem Sh (d:Dk) (hl : -1<=d.left/\d.left<=1048576) (h0:d.left=0) :
  ACalls Tryz.prog false 86 [.bp 0 0] (dkH d) fun r H=>r = iv 8/\H=dkH d:=by
 refine ACalls.ofW tys_ok Tryz.func86 rfl rfl (by show 1<=_;decide) ?_;have hq:=Hz d hl;rw [if_pos h0,show decide (d.left≠0)=false by simp [h0]] at hq;conv=>whnf
 refine hq.mono ?_;rintro _ _ ⟨rfl,rfl⟩;exact⟨_,_,dkH d,fun _ _ h=>h,⟨[],tv,tA,tA,rfl,rfl,rfl⟩,rfl,rfl⟩
theorem UD (d:Dk) (hl : -1<=d.left/\d.left<=1048576) (h0:d.left≠0) (hc:d.cache.length<=2000) (ha:∀ w∈d.cache,0<=w.addr/\w.addr<d.cells.length) :
  ACalls Tryz.prog false 86 [.bp 0 0] (dkH d) fun r H=>r = iv 0/\H=dkF d.flush:=by
 refine ACalls.ofW tys_ok Tryz.func86 rfl rfl (by show 1<=_;decide) ?_;have hq:=Hz d hl;rw [if_neg h0,show decide (d.left≠0)=true by simp [h0]] at hq;conv=>whnf
 refine hq.mono ?_;rintro _ _ ⟨rfl,rfl⟩;conv=>whnf
 have hE:∀ i,i<d.cache.length->(d.cache.map EK).getD i []=EK (d.cache.getD i ⟨0, []⟩):=fun i hi=>Bg hi
 refine zM Nat (fun k=>([(0, .bp 0 0),(12, .ow 2 d.cache.length),(13,iv d.cache.length),(14,iv k),(2,iv 0)],dkH (d.req.allFin (d.cache.take k)))) (fun k=>k<=d.cache.length) (fun k=>d.cache.length - k) 0 (Aj _) ⟨[],tv,tA,tA,rfl,rfl,rfl⟩ ?_;rintro k hk;have hall:=J8 (d.cache.take k) d.req;have hnext:k<d.cache.length->d.req.allFin (d.cache.take (k+1))=(d.req.allFin (d.cache.take k)).fin (d.cache.getD k ⟨0, []⟩):=fun h=>L2 d.req h
 have hlast:k=d.cache.length->d.flush={ d.req.allFin (d.cache.take k) with cache:= [] }:=fun h=>by rw [h,As];rfl
 generalize d.req.allFin (d.cache.take k)=X at hall hnext hlast |-
 obtain⟨xc,xw,xr,xl⟩:=X;simp only at hall;obtain⟨q1,q2,q3,q4⟩:=hall;have q2:xw=d.cache:=q2;subst q2;have q1':xc.length=d.cells.length:=q1;conv=>whnf
 refine A8 (fun h=>?_) (fun h=>?_) <;> (repeat rw [Ac] at h) <;> conv=>whnf
 ·have hd:=Xl ⟨xc,d.cache,xr,xl⟩ (d.cache.getD k ⟨0, []⟩) (by have:=ha _ (A7 (d:=⟨0, []⟩) (show k<d.cache.length by omega));show _/\_<((xc.length:Nat):Int);rw [q1'];exact this);refine⟨⟨by omega,by omega⟩,?_⟩;refine⟨⟨rfl,(Aa _).symm,by simpa using h⟩,?_⟩;conv=>whnf
  rw [show ((k:Int)).toNat=k from Ac k,hE k (by omega)];conv=>whnf
  refine ze9 [0,1,2] hd ?_;rintro _ _ ⟨rfl,rfl⟩;refine⟨k+1,by omega,by omega, [],tv,⟨rfl,rfl,rfl,AL (by omega),rfl,tv⟩,?_,rfl,rfl,rfl⟩;rw [hnext (by omega)];exact tA
 ·conv=>whnf
  have ek:k=d.cache.length:=by omega
  rw [hlast ek];exact⟨iv 0,iv 0,dkF { cells:=xc,cache:= [],reqs:=xr,left:=xl },fun _ _ h=>h,⟨[(1000001,131,2)],tA,tA,tA,rfl,rfl,rfl⟩,rfl,rfl⟩
theorem XB (a:An):rowB (KY a) szA=leB 4 a.gen.toNat ++ (leB 4 a.epoch.toNat ++ (leB 4 a.seq.toNat ++ (leB 4 a.last.toNat ++ leB 1 a.pos.toNat))):=by
 simp [rowB,KY,szA]
theorem Yl (g:Geo) (a:An) (hg:Bq g=true) (ha:Bj g a=true):Fn Tryz.prog 191 [.ag (Ew a)] fun r=>r=bA (L1 a):=by
 obtain⟨g1,g2,g3,g4,g5⟩:=Aq.1 hg;obtain⟨q1,q2,q3,q4,q5⟩:=EV hg ha 0 (Aj _);have ha0:=ha;simp only [Bj,Ae,decide_eq_true_eq,Bc,BL,BA,AI,Av] at ha;obtain⟨⟨w1,w2,w3,w4⟩,_,_,w5,_,_,_⟩:=ha;have p1:=ER [] a.gen 4 (by simp) w1 (by decide);have p2:=ER (leB 4 a.gen.toNat) a.epoch 4 (by rw [leB_len];decide) w2 (by decide);have p3:=ER (leB 4 a.gen.toNat ++ leB 4 a.epoch.toNat) a.seq 4 (by simp [leB_len]) w3 (by decide);have p4:=ER (leB 4 a.gen.toNat ++ leB 4 a.epoch.toNat ++ leB 4 a.seq.toNat) a.last 4 (by simp [leB_len]) w4 (by decide);have p5:=Is (leB 4 a.gen.toNat ++ leB 4 a.epoch.toNat ++ leB 4 a.seq.toNat ++ leB 4 a.last.toNat) a.pos 1 (by simp [leB_len]) (by omega) (by decide);have hlb:=VY a.label (by omega);refine zS Tryz.func191 rfl ?_;conv=>whnf
 refine zX [bA [],iv a.gen,iv 4] ⟨Bt 1 _,ri,ri,tv⟩ ?_;refine z_ p1 ?_;conv=>whnf
 refine z_ p2 ?_;conv=>whnf
 refine z_ p3 ?_;conv=>whnf
 refine z_ p4 ?_;conv=>whnf
 apply zV (0) tys_ok mixed (.o [0,1,2,4,5,3,6,7,8] .fin) (by kernel_rfl);conv=>whnf
 (refine zW p5 rfl ?_;rintro _ _ ⟨rfl,rfl⟩)
 conv=>whnf
 refine z_ hlb ?_;conv=>whnf
 try (refine tJ ?_;conv=>whnf)
 try (refine tK ?_;conv=>whnf)
 have eR:leB 4 a.gen.toNat ++ leB 4 a.epoch.toNat ++ leB 4 a.seq.toNat ++ leB 4 a.last.toNat ++ leB 1 a.pos.toNat=rowB (KY a) szA:=by rw [XB];simp
 rw [eR];have hr17:(rowB (KY a) szA).length=17:=tot_rowB _ _ rfl;refine Ad ⟨by simp,by rw [hr17,GA];omega⟩ ?_;conv=>whnf
 have e0:(rowB (KY a) szA).map Eo ++ ((List.range (Hf a.label).length).map fun i=> [AV.v (Value.int IntKind.u8 (((Hf a.label).getD i 0).toNat:Int))])=(GH a 0).map Eo:=by
  rw [QS,<-A9];simp [GH]
 have e1:(rowB (KY a) szA).length+(Hf a.label).length=(GH a 0).length:=by simp [GH]
 refine zj Nat (fun k=>([(1, .bp 0 0),(3, .ow 1 (GH a k).length),(4,iv k)], [.box 28 (Ew a), .row 5 1 ((GH a k).map Eo)])) (fun k=>k<=a.homes.length) (fun k=>a.homes.length - k) 0 (Aj _)
  (zE ⟨[],tv,⟨rfl,congrArg (AV.ow 1) e1,rfl,tv⟩,⟨rfl,congrArg (AB.row _ _) e0.symm,tv⟩,rfl,rfl,rfl⟩) ?_
 intro k hk;conv=>whnf
 refine A8 (fun h6=>?_) (fun h6=>?_) <;> (repeat rw [Ac] at h6) <;> conv=>whnf
 ·have hk':k<a.homes.length:=by omega
  have hh4:=q5 _ (A7 (d:=(⟨[],0,0⟩:Hm)) hk');obtain⟨f1,f2,f3,f4,f5⟩:=Pf hg hh4;have hst:=O4 a k hk';have hB:=(EV hg ha0 k hk).1;have hB2:=(EV hg ha0 (k+1) hk').1;obtain⟨h,hh⟩:∃ h,h=a.homes.getD k ⟨[],0,0⟩:=⟨_,rfl⟩;rw [<-hh] at hh4 f1 f2 f3 f4 f5 hst;generalize hX:GH a k=X at hst hB |-
  have hlm:(Nk h).length=h.places.length+5:=by rw [Kg,tot_rowB _ _ (by rw [Ai,JG];rfl),JE]
  rw [hst,Ai,hlm] at hB2;refine zj Nat (fun j=>([(1, .bp 0 0),(3, .ow 1 (X ++ OV (h.places.take j)).length),(4,iv k),(5,iv j)], [.box 28 (Ew a), .row 5 1 ((X ++ OV (h.places.take j)).map Eo)])) (fun j=>j<=h.places.length) (fun j=>h.places.length - j) 0 (Aj _)
   (zE ⟨[],tv,⟨rfl,congrArg (fun l=>AV.ow 1 (List.length l)) (AK X).symm,rfl,rfl,tv⟩,⟨rfl,congrArg (fun l=>AB.row _ _ (List.map Eo l)) (AK X),tv⟩,rfl,rfl,rfl⟩) ?_
  intro j hj;conv=>whnf
  have hgk:a.homes.getD (k:Int).toNat ⟨[],0,0⟩=h:=by rw [Ac,hh]
  refine⟨by first | omega | (refine⟨rfl,?_,?_⟩ <;> first | omega | (simp only [Aa];done) | (simp only [Aa];omega)) | (simp only [Aa];omega),?_⟩;conv=>whnf
  rw [hgk];refine A8 (fun h7=>?_) (fun h7=>?_) <;> (repeat rw [Ac] at h7) <;> conv=>whnf
  ·refine⟨by first | omega | (refine⟨rfl,?_,?_⟩ <;> first | omega | (simp only [Aa];done) | (simp only [Aa];omega)) | (simp only [Aa];omega),?_⟩;conv=>whnf
   rw [hgk];refine⟨by first | omega | (refine⟨rfl,?_,?_⟩ <;> first | omega | (simp only [Aa];done) | (simp only [Aa];omega)) | (simp only [Aa];omega),?_⟩;conv=>whnf
   rw [Ac];have hj':j<h.places.length:=by omega
   have hp:=f2 _ (A7 (d:=(0:Int)) hj');have hpl:=LD (h.places.take j);have hps:=Qa h.places j hj';have hput:=Is (X ++ OV (h.places.take j)) (h.places.getD j 0) 1 (by rw [Ai,hpl,Ar];omega) (by omega) (by decide);rw [A6,<-hps] at hput;refine zO (hput).go ?_;conv=>whnf
   repeat' (refine Ad (by first | rfl | omega | (simp;done) | (simp only [Aa];omega) | (simp;omega)) ?_;conv=>whnf)
   refine zX [bA (X ++ OV (h.places.take j)),iv (h.places.getD j 0),iv 1] ⟨Nf rfl rfl,ri,ri,tv⟩ ?_;refine zW (hput) rfl ?_;rintro _ _ ⟨rfl,rfl⟩;refine⟨j+1,by omega,by omega,zR (s:= [0,2]) ⟨⟨rfl,rfl,rfl,AL (by omega),tv⟩,tA,rfl,rfl,rfl,rfl,rfl⟩⟩
  ·have ej:j=h.places.length:=by omega
   subst ej;have hpl:=LD (h.places.take h.places.length);rw [As] at hpl |-
   have hp1:=ER (X ++ OV h.places) h.next 1 (by rw [Ai,hpl];omega) (by omega) (by decide);have hp2:=Is (X ++ OV h.places ++ leB 1 h.next.toNat) h.root 4 (by rw [Ai,Ai,hpl,leB_len];omega) (by omega) (by decide);have eY:X ++ OV h.places ++ leB 1 h.next.toNat ++ leB 4 h.root.toNat=X ++ Nk h:=by simp [Nk,rowB]
   rw [eY] at hp2;apply zV (0) tys_ok mixed (.o [0,1,2,3,4,5,6,8,9,10,11,12,13,7,14,15] .fin) (by kernel_rfl);conv=>whnf
   try (refine tI ?_;conv=>whnf)
   try (refine tI ?_;conv=>whnf)
   (rw [hgk];refine zO hp1.go ?_;(conv=>whnf);refine Ad (by simp) ?_;(conv=>whnf);refine zX [bA (X ++ OV h.places),iv h.next,iv 1] ⟨Nf rfl rfl,ri,ri,tv⟩ ?_;refine z_ hp1 ?_)
   conv=>whnf
   (refine zW hp2 rfl ?_;rintro _ _ ⟨rfl,rfl⟩)
   refine⟨k+1,hk',by omega,zR (s:= [0,2]) ⟨⟨rfl,congrArg (AV.ow 2) (by rw [hst]),AL (by omega),tv⟩,⟨rfl,congrArg (fun l=>some (AB.row _ _ l)) (by rw [hst]),tv⟩,rfl,rfl,rfl,rfl,rfl⟩⟩
 ·have ek:k=a.homes.length:=by omega
  subst ek;rw [QY];refine⟨by simp,?_⟩;exact⟨bA (L1 a),Nf rfl rfl,rfl⟩
def CV (a:An) (i:Int):List UInt8:=Bp i a.gen (L1 a)
theorem K_ {g:Geo} {a:An} (hg:Bq g=true) (ha:Bj g a=true):(L1 a).length<=82:=by
 obtain⟨g1,g2,g3,g4,g5⟩:=Aq.1 hg;have hz:=ha;simp only [Bj,Ae,decide_eq_true_eq,Bc,BL,BA,AI,Av] at hz;obtain⟨_,_,_,_,q6,q7,q8⟩:=hz;have h24:=I1 q6;have hs:a.label.size=a.label.data.toList.length:=rfl;have hr:(rowB (KY a) szA).length=17:=tot_rowB _ _ rfl;have hm:=(LF hg a.homes q8).2;have hmul:a.homes.length*(g.d.toNat+6)<=4*10:=D0 (by omega) (by omega);rw [L1,Ai,Ai,hr,GA,hm];omega
theorem QX {g:Geo} {a:An} (ha:Bj g a=true):0<=a.gen/\a.gen<=4294967295:=by
 simp only [Bj,Ae,decide_eq_true_eq,Bc,BL,BA,AI,Av] at ha;exact ha.1.1
theorem KZ {g:Geo} {a:An} (hg:Bq g=true) (ha:Bj g a=true) {i:Int} (hi:0<=i/\i<=65535):Vj i a.gen (L1 a):=
 ⟨hi.1,hi.2,(QX ha).1,(QX ha).2,by have:=K_ hg ha;omega⟩
theorem Mr (g:Geo) (a:An) (i:Int) (hg:Bq g=true) (ha:Bj g a=true) (hi:0<=i/\i<=65535):Fn Tryz.prog 118 [.ag (Ew a),iv i] fun r=>r=bA (CV a i):=by
 have h1:=Yl g a hg ha;have h2:=FF i a.gen (L1 a) (KZ hg ha hi);refine zS Tryz.func118 rfl ?_;conv=>whnf
 apply zP tys_ok mixed (.o [0,1,2,3,4,5,6] .fin) [4,5,6,7,8,9,10] (by kernel_rfl)
 ·conv=>whnf
  refine z_ h1 ?_;conv=>whnf
  refine z_ h2 ?_;exact tA
 exact⟨_,ri,rfl⟩
theorem W4 (g:Geo) (a:An) (i:Int) (hg:Bq g=true) (ha:Bj g a=true) (hi:0<=i/\i<g.an):Fn Tryz.prog 159 [.ag (AT g), .ag (Ew a),iv i] fun r=>r = .tp [bA (CV a i),iv 0]:=by
 obtain⟨g1,g2,g3,g4,g5⟩:=Aq.1 hg;obtain⟨q1,q2,q3,q4,q5⟩:=EV hg ha 0 (Aj _);have h1:=Vg g a (by omega) (by omega);rw [hg,ha] at h1;have h2:=MH g i hg hi;have h3:=LZ i a.gen (L1 a) (KZ hg ha (by omega));refine zS Tryz.func159 rfl ?_;conv=>whnf
 refine z_ h1 ?_;conv=>whnf
 refine z_ h2 ?_;conv=>whnf
 refine z_ h3 ?_;exact⟨_,ri,rfl⟩
end
end Go.Proofs.YtkolckdakddggaaGreatDoor.A
namespace Go.Proofs.YtkolckdakddggaaGreatDoor
section
open Go.RowKit



end
end Go.Proofs.YtkolckdakddggaaGreatDoor
namespace Go.Proofs.YtkolckdakddggaaGreatDoor.A
section
open Go.RowKit

theorem RZ (n k:Nat) (c:List UInt8):ET n (k+1) c=ET n k c ++ [KR n (c.drop ((n+5)*k))]:=by
 rw [ET,ET,Bm,A9];rfl
theorem Oa (n k:Nat) (c:List UInt8):(ET n k c).length=k:=by simp [ET]
theorem ST {L:List Int} {n:Nat} {es:List (List AV)} (hn:n=L.length) (he:es=L.map Pw) (c:Ctx) (v:Value) (h:Rd (.sl 1 n fun i=>es.getD i []) c v):Rd (iA L) c v:=by
 subst he;exact zC hn (fun i hi=>Bg (f:=Pw) (l:=L) (d:=0) (hn ▸ hi)) h
theorem G2 {α:Type} {f:α->List AV} {d:α} {l:List α} {k:Nat} {e:List AV} (hk:k<l.length) (h:SubL e (f (l.getD k d))) (i:Nat):SubL (((l.map f).set k e).getD i []) ((l.map f).getD i []):=by
 by_cases hi:k=i
 ·subst hi;rw [BQ (by simpa using hk),Bg (d:=d) hk];exact h
 ·rw [Lj hi];exact SubL.refl _
theorem WI (h:Hm):SubL [.sl 1 h.places.length fun i=>(h.places.map Pw).getD i [],iv h.next,iv h.root] (DU h):=
 ⟨ST rfl rfl,fun _ _ h=>h,fun _ _ h=>h,tv⟩
theorem QW (a:An) (hh:a.homes.length<=1000) (hp:∀ h∈a.homes,h.places.length<=1000000):Fn Tryz.prog 83 [.ag (Ew a)] fun r=>r = .ag (Ew a):=by
 have hc:=Ob a.homes (by omega);refine zS Tryz.func83 rfl ?_;conv=>whnf
 refine zW hc rfl ?_;rintro _ _ ⟨rfl,rfl⟩;conv=>whnf
 refine zU Nat (fun k=>([(1, .bp 0 0),(2, .bp 1 0),(10,iv a.homes.length),(11,iv k)], [.box 28 [iv a.gen,iv a.epoch,iv a.pos,iv a.seq,iv a.last, .v (.string a.label), .ow 2 a.homes.length], .box 28 [iv 0,iv 0,iv 0,iv 0,iv 0, .v (.string ⟨#[]⟩), .v (.slice none 0 0)], .row 53 3 (a.homes.map DU)])) (fun k=>k<=a.homes.length) (fun k=>a.homes.length - k) 0 (Aj _)
  (zR (s:= [0,1,2]) tA) ?_
 intro k hk;conv=>whnf
 refine A8 (fun h6=>?_) (fun h6=>?_) <;> (repeat rw [Ac] at h6) <;> conv=>whnf
 ·have hk':k<a.homes.length:=by omega
  have hi:=Ke (a.homes.getD k ⟨[],0,0⟩).places (by have:=hp _ (A7 (d:=(⟨[],0,0⟩:Hm)) hk');omega);have hE:(a.homes.map DU).getD (k:Int).toNat []=DU (a.homes.getD k ⟨[],0,0⟩):=by rw [Ac];exact Bg hk'
  apply zV (0) tys_ok mixed (.o [0,1,2,3,4,5,6,7,8,9,10,11,12] .fin) (by kernel_rfl);conv=>whnf
  try (first | (refine Ad ⟨rfl,(Aa _).symm,by omega⟩ ?_;(conv=>whnf);rw [hE]) | skip;conv=>whnf)
  try (first | (refine Ad ⟨rfl,(Aa _).symm,by omega⟩ ?_;(conv=>whnf);rw [hE]) | skip;conv=>whnf)
  try (refine tI ?_;conv=>whnf)
  try (first | (refine Ad ⟨rfl,(Aa _).symm,by omega⟩ ?_;(conv=>whnf);rw [hE]) | skip;conv=>whnf)
  (refine zW hi rfl ?_;rintro _ _ ⟨rfl,rfl⟩)
  conv=>whnf
  try (refine tI ?_;conv=>whnf)
  try (refine tS ?_;conv=>whnf)
  (refine Ad (Aa _).symm ?_;(conv=>whnf);refine Ad ⟨rfl,(Aa _).symm,by omega⟩ ?_;(conv=>whnf);rw [hE])
  refine⟨k+1,hk',by omega,zI (zK (zB (k:=2) rfl (es':=a.homes.map DU) (by simp) ?_)) (s:= [0,1,2]) ⟨⟨rfl,rfl,rfl,AL (by omega),tv⟩,tA,rfl,rfl,rfl,rfl,rfl⟩⟩;rw [Ac];exact G2 (d:=(⟨[],0,0⟩:Hm)) hk' (WI _)
 ·have ek:k=a.homes.length:=by omega
  refine Ad (Aa _).symm ?_;exact⟨.ag (Ew a),Be ⟨ri,ri,ri,ri,ri,ri,Ba (f:=DU) a.homes rfl rfl,tv⟩,rfl⟩
def FX (d:Dk):List AV:= [Ox d.cells,LL d.cache,iv d.reqs,iv d.left]
theorem Td (d:Dk) (h1:d.cells.length<=1000000000) (h2:d.cache.length<=1000000000):ACalls Tryz.prog false 40 [.ag (FX d)] [] fun r H=>r = .bp 0 0/\H=dkH d:=by
 have c1:=Nc d.cells h1;have c2:=Nw d.cache h2;refine zT tys_ok Tryz.func40 rfl rfl (Ag rfl) ?_;conv=>whnf
 apply zV (0) tys_ok mixed (.o [0,1,3,4,2,6,5,7,8,9] .fin) (by kernel_rfl);conv=>whnf
 (refine zW c1 rfl ?_;rintro _ _ ⟨rfl,rfl⟩)
 conv=>whnf
 (refine zW c2 rfl ?_;rintro _ _ ⟨rfl,rfl⟩)
 conv=>whnf
 try (refine tS ?_;conv=>whnf)
 try (refine tS ?_;conv=>whnf)
 exact⟨_, .bp 0 0,dkH d,fun _ _ h=>h,zR (s:= [3,1,2]) tA,rfl,rfl⟩
theorem Xh (d:Dk) (h1:d.cells.length<=1000000000) (h2:d.cache.length<=1000000000) (hb:∀ c∈d.cells,c.bytes.length<=1000000000/\c.old.length<=1000000000) (hw:∀ w∈d.cache,w.bytes.length<=1000000000):Fn Tryz.prog 42 [.ag (FX d)] fun r=>r = .ag (FX d):=by
 have c1:=Nc d.cells h1;have c2:=Nw d.cache h2;refine zS Tryz.func42 rfl ?_;conv=>whnf
 apply zV (0) tys_ok mixed (.o [0,1,3,4,2,6,5,7,8,9] .fin) (by kernel_rfl);conv=>whnf
 (refine zW c1 rfl ?_;rintro _ _ ⟨rfl,rfl⟩)
 conv=>whnf
 (refine zW c2 rfl ?_;rintro _ _ ⟨rfl,rfl⟩)
 conv=>whnf
 try (refine tS ?_;conv=>whnf)
 try (refine tS ?_;conv=>whnf)
 refine zU Nat (fun k=>([(1, .bp 0 0),(2, .bp 1 0),(16, .ow 2 d.cells.length),(17,iv d.cells.length),(18,iv k)], [.box 38 (Hr (.ow 2 d.cells.length) (.ow 3 d.cache.length) d.reqs d.left), .box 38 [.v (.slice none 0 0), .v (.slice none 0 0),iv 0,iv 0], .row 84 3 (d.cells.map BG), .row 131 2 (d.cache.map EK)])) (fun k=>k<=d.cells.length) (fun k=>d.cells.length - k) 0 (Aj _)
  (zR (s:= [0,1,2,3]) tA) ?_
 intro k hk;conv=>whnf
 refine A8 (fun h6=>?_) (fun h6=>?_) <;> (repeat rw [Ac] at h6) <;> conv=>whnf
 ·have hk':k<d.cells.length:=by omega
  have hm:=hb _ (A7 (d:=(⟨0, [], []⟩:Cel)) hk');have b1:=Ck (d.cells.getD k ⟨0, [], []⟩).bytes hm.1;have b2:=Ck (d.cells.getD k ⟨0, [], []⟩).old hm.2;have hE:(d.cells.map BG).getD (k:Int).toNat []=BG (d.cells.getD k ⟨0, [], []⟩):=by rw [Ac];exact Bg hk'
  refine⟨⟨by omega,by omega⟩,?_⟩;conv=>whnf
  refine Ad ⟨rfl,(Aa _).symm,by rw [Ac];exact hk'⟩ ?_;conv=>whnf
  rw [hE];conv=>whnf
  apply zV (16) tys_ok mixed (.o [0,1,2,3,5,6,7,9,10] (.two 4 (.o [8,11,12,13,14,15,16,17] .fin) 8 (.two 4 (.o [11,12,13,14,15,16,17] .fin) 11 (.o [12,13] (.two 4 (.o [14,15,16,17] .fin) 14 (.o [4,15,16,17] .fin)))))) (by kernel_rfl);refine Ad ?_ ?_;conv=>whnf
  refine z_ b1 ?_;conv=>whnf
  refine z_ b2 ?_;conv=>whnf
  try (refine tI ?_;conv=>whnf)
  try (refine tS ?_;conv=>whnf)
  (first | rw [hE] | rw [BQ (by rw [Ac,Aa];exact hk')] | skip)
  conv=>whnf
  try (refine tI ?_;conv=>whnf)
  try (refine tS ?_;conv=>whnf)
  (first | rw [hE] | rw [BQ (by rw [Ac,Aa];exact hk')] | skip)
  conv=>whnf
  rotate_left 1;conv=>whnf
  refine z_ b1 ?_;refine Ad ?_ ?_;conv=>whnf
  refine z_ b2 ?_;conv=>whnf
  try (refine tI ?_;conv=>whnf)
  try (refine tS ?_;conv=>whnf)
  (first | rw [hE] | rw [BQ (by rw [Ac,Aa];exact hk')] | skip)
  conv=>whnf
  try (refine tI ?_;conv=>whnf)
  try (refine tS ?_;conv=>whnf)
  (first | rw [hE] | rw [BQ (by rw [Ac,Aa];exact hk')] | skip)
  conv=>whnf
  rotate_left 1;conv=>whnf
  refine z_ b2 ?_;conv=>whnf
  try (refine tI ?_;conv=>whnf)
  refine Ad ?_ ?_;conv=>whnf
  try (refine tS ?_;conv=>whnf)
  (first | rw [hE] | rw [BQ (by rw [Ac,Aa];exact hk')] | skip)
  conv=>whnf
  try (refine tI ?_;conv=>whnf)
  try (refine tS ?_;conv=>whnf)
  (first | rw [hE] | rw [BQ (by rw [Ac,Aa];exact hk')] | skip)
  conv=>whnf
  rotate_left 1;conv=>whnf
  try (refine tS ?_;conv=>whnf)
  (first | rw [hE] | rw [BQ (by rw [Ac,Aa];exact hk')] | skip)
  conv=>whnf
  try (refine tI ?_;conv=>whnf)
  try (refine tS ?_;conv=>whnf)
  (first | rw [hE] | rw [BQ (by rw [Ac,Aa];exact hk')] | skip)
  conv=>whnf
  rotate_left 1;all_goals refine⟨k+1,hk',by omega,zI (zK (zB (k:=2) rfl (es':=d.cells.map BG) (by simp) ?_)) (s:= [0,1,2,3]) ⟨⟨rfl,rfl,rfl,rfl,AL (by omega),tv⟩,tA,rfl,rfl,rfl,rfl,rfl⟩⟩
  all_goals
   intro i;rw [List.set_set,Ac];refine G2 (f:=BG) (d:=(⟨0, [], []⟩:Cel)) hk' ?_ i;exact⟨fun _ _ h=>h,fun _ _ h=>h,fun _ _ h=>h,tv⟩
 ·refine zU Nat (fun k=>([(1, .bp 0 0),(2, .bp 1 0),(41, .ow 3 d.cache.length),(42,iv d.cache.length),(43,iv k)], [.box 38 (Hr (.ow 2 d.cells.length) (.ow 3 d.cache.length) d.reqs d.left), .box 38 [.v (.slice none 0 0), .v (.slice none 0 0),iv 0,iv 0], .row 84 3 (d.cells.map BG), .row 131 2 (d.cache.map EK)])) (fun k=>k<=d.cache.length) (fun k=>d.cache.length - k) 0 (Aj _)
   (zR (s:= [0,1,2,3]) tA) ?_
  intro k hk;conv=>whnf
  refine A8 (fun h7=>?_) (fun h7=>?_) <;> (repeat rw [Ac] at h7) <;> conv=>whnf
  ·have hk':k<d.cache.length:=by omega
   have hm:=hw _ (A7 (d:=(⟨0, []⟩:Wr)) hk');have b1:=Ck (d.cache.getD k ⟨0, []⟩).bytes hm;have hE:(d.cache.map EK).getD (k:Int).toNat []=EK (d.cache.getD k ⟨0, []⟩):=by rw [Ac];exact Bg hk'
   refine⟨⟨by omega,by omega⟩,?_⟩;conv=>whnf
   refine Ad ⟨rfl,(Aa _).symm,by rw [Ac];exact hk'⟩ ?_;conv=>whnf
   rw [hE];conv=>whnf
   apply zV (0) tys_ok mixed (.o [0,1,2,3,4,5,6,7,8] .fin) (by kernel_rfl);conv=>whnf
   refine z_ b1 ?_;conv=>whnf
   try (refine tI ?_;conv=>whnf)
   try (refine tS ?_;conv=>whnf)
   (first | rw [hE] | skip)
   conv=>whnf
   all_goals refine⟨k+1,hk',by omega,zI (zK (zB (k:=3) rfl (es':=d.cache.map EK) (by simp) ?_)) (s:= [0,1,2,3]) ⟨⟨rfl,rfl,rfl,rfl,AL (by omega),tv⟩,tA,rfl,rfl,rfl,rfl,rfl⟩⟩
   all_goals
    intro i;rw [Ac];refine G2 (f:=EK) (d:=(⟨0, []⟩:Wr)) hk' ?_ i;exact⟨fun _ _ h=>h,fun _ _ h=>h,tv⟩
  ·refine Ad (Aa _).symm ?_;refine Ad (Aa _).symm ?_;exact⟨.ag (FX d),Be ⟨Ba (f:=BG) d.cells rfl rfl,Ba (f:=EK) d.cache rfl rfl,ri,ri,tv⟩,rfl⟩
def Ie (c:Cel):Bool:=CK c.state 0 2&&(decide (c.bytes.length<=200)&&decide (c.old.length<=200))
def LN (n:Nat) (w:Wr):Bool:=CK w.addr 0 ((n:Int) - 1)&&decide (w.bytes.length<=200)
def Nq (d:Dk):Bool:=(CK d.cells.length 1 300&&(decide (d.cache.length<=2000)&&(CK d.reqs 0 1048576&&CK d.left (-1) 1048576)))&&(d.cells.all Ie&&d.cache.all (LN d.cells.length))
theorem Sg (n lo hi:Int):Fn Tryz.prog 39 [iv n,iv lo,iv hi] fun r=>r = .v (.bool (CK n lo hi)):=by
 refine zS Tryz.func39 rfl ?_;conv=>whnf
 repeat' (first | (refine Ao (fun h=>?_) (fun h=>?_) <;> (try simp at h) <;> conv=>whnf) | (refine zF tys_ok mixed (by kernel_rfl) ?_;conv=>whnf) | (refine zY ?_;conv=>whnf) | (refine Ad (by omega) ?_;conv=>whnf))
 all_goals exact⟨_,ri,by simp [CK, *] <;> omega⟩
theorem Xm (c:Cel):Fn Tryz.prog 92 [.ag (BG c)] fun r=>r = .v (.bool (Ie c)):=by
 refine zS Tryz.func92 rfl ?_;conv=>whnf
 repeat' (first | (refine Ao (fun h=>?_) (fun h=>?_) <;> (try simp at h) <;> conv=>whnf) | (refine zF tys_ok mixed (by kernel_rfl) ?_;conv=>whnf) | (refine zY ?_;conv=>whnf) | (refine z_ (Sg _ _ _) ?_;conv=>whnf) | (refine Ad (by omega) ?_;conv=>whnf))
 all_goals exact⟨_,ri,by congr 2;rw [DF];simp [Ie, *] <;> omega⟩
theorem UG (c:Cel):Fn Tryz.prog 91 [.ag (BG c)] fun r=>r = .v (.bool (!Ie c)):=by
 refine zS Tryz.func91 rfl ?_;conv=>whnf
 refine z_ (Xm c) ?_;exact⟨_,ri,rfl⟩
theorem ZP (l:List Cel)  (hl:l.length<=1000000):Fn Tryz.prog 162 [Ox l, .v (.func (.func 91) #[] #[])] fun r=>r = iv (Vk (fun c=>!Ie c) l):=by
 refine zS Tryz.func162 rfl ?_;conv=>whnf
 refine zM Nat (fun k=>([(0,Ox l),(1, .v (.func (.func 91) #[] #[])),(7,iv l.length),(8,iv k)], [])) (fun k=>k<=l.length/\(l.take k).any (fun c=>!Ie c)=false) (fun k=>l.length - k) 0 ⟨Aj _,by simp⟩ ⟨[],tv,tA,tv,rfl,rfl,rfl⟩ ?_;rintro k ⟨hk,hI⟩;conv=>whnf
 refine Ao (fun h2=>?_) (fun h2=>?_) <;> simp at h2 <;> conv=>whnf
 ·refine⟨by first | omega | (refine⟨rfl,?_,?_⟩ <;> first | omega | (simp only [Aa];done) | (simp only [Aa];omega)) | (simp only [Aa];omega),?_⟩;conv=>whnf
  refine z_ (UG (l.getD k ⟨0, [], []⟩)) ?_;conv=>whnf
  refine Ao (fun h3=>?_) (fun h3=>?_) <;> conv=>whnf
  ·exact⟨_,ri,by rw [IR (d:=⟨0, [], []⟩) h2 hI (by first | exact h3 | (rw [Ac] at h3;exact h3) | simpa using h3)]⟩
  ·refine⟨k+1,⟨by omega,Ev (d:=⟨0, [], []⟩) h2 hI (by first | exact h3 | (rw [Ac] at h3;exact h3) | simpa using h3)⟩,by omega, [],tv,⟨rfl,rfl,rfl,AL (by omega),tv⟩,tv,rfl,rfl,rfl⟩
 ·exact⟨_,ri,by rw [A3 h2] at hI;rw [Hg hI]⟩
theorem ZQ (l:List Cel)  (hl:l.length<=1000000):Fn Tryz.prog 90 [Ox l, .v (.func (.func 91) #[] #[])] fun r=>r = .v (.bool (l.any (fun c=>!Ie c))):=by
 refine zS Tryz.func90 rfl ?_;conv=>whnf
 refine z_ (ZP l  hl) ?_;exact⟨_,ri,by rw [KP]⟩

theorem UF (d:Dk) (w:Wr) (hn:d.cells.length<=1000000):Fn Tryz.prog 94 [.ag (EK w), .rp (FX d)] fun r=>r = .v (.bool (!LN d.cells.length w)):=by
 have w1:IntKind.i64.wrap ((d.cells.length:Int) - 1)=d.cells.length - 1:=wi (by omega);refine zS Tryz.func94 rfl ?_;conv=>whnf
 rw [w1];repeat' (first | (refine Ao (fun h=>?_) (fun h=>?_) <;> (try simp at h) <;> conv=>whnf) | (refine zF tys_ok mixed (by kernel_rfl) ?_;conv=>whnf) | (refine zY ?_;conv=>whnf) | (refine z_ (Sg _ _ _) ?_;conv=>whnf) | (refine Ad (by omega) ?_;conv=>whnf))
 all_goals exact⟨_,ri,by congr 2;rw [DF];simp [LN, *] <;> omega⟩
theorem ZM (l:List Wr) (d:Dk) (hn:d.cells.length<=1000000) (hl:l.length<=1000000):Fn Tryz.prog 163 [LL l, .fn 94 [.rp (FX d)]] fun r=>r = iv (Vk (fun w=>!LN d.cells.length w) l):=by
 refine zS Tryz.func163 rfl ?_;conv=>whnf
 refine zM Nat (fun k=>([(0,LL l),(1, .fn 94 [.rp (FX d)]),(7,iv l.length),(8,iv k)], [])) (fun k=>k<=l.length/\(l.take k).any (fun w=>!LN d.cells.length w)=false) (fun k=>l.length - k) 0 ⟨Aj _,by simp⟩ ⟨[],tv,tA,tv,rfl,rfl,rfl⟩ ?_;rintro k ⟨hk,hI⟩;conv=>whnf
 refine Ao (fun h2=>?_) (fun h2=>?_) <;> simp at h2 <;> conv=>whnf
 ·refine⟨by first | omega | (refine⟨rfl,?_,?_⟩ <;> first | omega | (simp only [Aa];done) | (simp only [Aa];omega)) | (simp only [Aa];omega),?_⟩;conv=>whnf
  refine z_ (UF d (l.getD k ⟨0, []⟩) hn) ?_;conv=>whnf
  refine Ao (fun h3=>?_) (fun h3=>?_) <;> conv=>whnf
  ·exact⟨_,ri,by rw [IR (d:=⟨0, []⟩) h2 hI (by first | exact h3 | (rw [Ac] at h3;exact h3) | simpa using h3)]⟩
  ·refine⟨k+1,⟨by omega,Ev (d:=⟨0, []⟩) h2 hI (by first | exact h3 | (rw [Ac] at h3;exact h3) | simpa using h3)⟩,by omega, [],tv,⟨rfl,rfl,rfl,AL (by omega),tv⟩,tv,rfl,rfl,rfl⟩
 ·exact⟨_,ri,by rw [A3 h2] at hI;rw [Hg hI]⟩
theorem ZN (l:List Wr) (d:Dk) (hn:d.cells.length<=1000000) (hl:l.length<=1000000):Fn Tryz.prog 93 [LL l, .fn 94 [.rp (FX d)]] fun r=>r = .v (.bool (l.any (fun w=>!LN d.cells.length w))):=by
 refine zS Tryz.func93 rfl ?_;conv=>whnf
 refine z_ (ZM l d hn hl) ?_;exact⟨_,ri,by rw [KP]⟩

theorem UE (d:Dk) (h1:d.cells.length<=1000000) (h2:d.cache.length<=1000000):Fn Tryz.prog 38 [.ag (FX d)] fun r=>r = .v (FM (Nq d)):=by
 have c1:=ZQ d.cells h1;have c2:=ZN d.cache d h1 h2;rw [show (d.cells.any fun c=>!Ie c) = !d.cells.all Ie by rw [Cn,Bool.not_not]] at c1;rw [show (d.cache.any fun w=>!LN d.cells.length w) = !d.cache.all (LN d.cells.length) by rw [Cn,Bool.not_not]] at c2;obtain⟨A,hA⟩:∃ A,A=d.cells.all Ie:=⟨_,rfl⟩;obtain⟨B,hB⟩:∃ B,B=d.cache.all (LN d.cells.length):=⟨_,rfl⟩;have hok:Nq d=((CK d.cells.length 1 300&&(decide (d.cache.length<=2000)&&(CK d.reqs 0 1048576&&CK d.left (-1) 1048576)))&&(A&&B)):=by rw [Nq,hA,hB]
 rw [<-hA] at c1;rw [<-hB] at c2;rw [hok];clear hok hA hB;refine zS Tryz.func38 rfl ?_;conv=>whnf
 repeat' (first | (refine Ao (fun h=>?_) (fun h=>?_) <;> (try simp at h) <;> conv=>whnf) | (refine zF tys_ok mixed (by kernel_rfl) ?_;conv=>whnf) | (refine zY ?_;conv=>whnf) | (refine z_ (Sg _ _ _) ?_;conv=>whnf) | (refine z_ c1 ?_;conv=>whnf) | (refine z_ c2 ?_;conv=>whnf) | (refine Ad (by omega) ?_;conv=>whnf))
 all_goals exact⟨_,ri,by
  first
   | (rw [show ((CK d.cells.length 1 300&&(decide (d.cache.length<=2000)&&(CK d.reqs 0 1048576&&CK d.left (-1) 1048576)))&&(A&&B))=false by rw [<-BP];simp [*] <;> omega];rfl)
   | (rw [show ((CK d.cells.length 1 300&&(decide (d.cache.length<=2000)&&(CK d.reqs 0 1048576&&CK d.left (-1) 1048576)))&&(A&&B))=true by simp [*] <;> omega];rfl)⟩

def cel0:List AV:= [iv 0, .v (.slice none 0 0), .v (.slice none 0 0)]
theorem VU (n:Nat) (hn:1<=n/\n<=300):ACalls Tryz.prog false 115 [iv n] [] fun r H=>r = .ag [.ow 0 n, .v (.slice none 0 0),iv 0,iv (-1)]/\H=[.row 84 3 (List.replicate n cel0)]:=by
 refine zT tys_ok Tryz.func115 rfl rfl (Ag rfl) ?_;refine⟨⟨rfl,by omega,by omega⟩,?_⟩;conv=>whnf
 exact⟨_, .ag [.ow 0 n, .v (.slice none 0 0),iv 0,iv (-1)], [.row 84 3 (List.replicate n cel0)],fun _ _ h=>h,zR (s:= [1]) ⟨⟨by rw [Ac];rfl,tv⟩,⟨by rw [Ac];rfl,tv⟩,rfl,rfl,rfl,rfl,rfl⟩,rfl,rfl⟩
@[reducible] def dkG (d:Dk):List AB:= [.box 113 (Hr (.ow 1 d.cells.length) (.ow 3 d.cache.length) d.reqs d.left), .row 84 3 (d.cells.map BG), .dead, .row 131 2 (d.cache.map EK)]
theorem ZO (d:Dk):ConvH (dkH d) (dkG d):=zy (H:=dkH d) 0 2 (by decide) rfl rfl
theorem J6 (d:Dk) (hl : -1<=d.left/\d.left<=1048576) (hc:d.cache.length<=2000) (ha:∀ w∈d.cache,0<=w.addr/\w.addr<d.cells.length) :
  ACalls Tryz.prog false 86 [.bp 0 0] (dkH d) fun r H=>r = iv (if d.left=0 then 8 else 0)/\H=dkG (if d.left=0 then d else d.flush):=by
 by_cases h0:d.left=0
 ·rw [if_pos h0,if_pos h0];exact(Sh d hl h0).conv fun r H ⟨h1,h2⟩=>⟨_,h2 ▸ ZO d,h1,rfl⟩
 ·rw [if_neg h0,if_neg h0];exact(UD d hl h0 hc ha).conv fun r H ⟨h1,h2⟩=>⟨_,h2 ▸ zz _,h1,rfl⟩
theorem FT {α β:Type} {f:α->β} {d:α} {l:List α} {k:Nat} (h:k<l.length):(l.take (k+1)).map f=(l.take k).map f ++ [f (l.getD k d)]:=by
 rw [AR h,A9,Ab,Af h];rfl
theorem Uk (d:Dk) (h1:d.cells.length<=1000000) (h2:d.cache.length<=1000000) (hb:∀ c∈d.cells,c.bytes.length<=1000000000/\c.old.length<=1000000000) (hw:∀ w∈d.cache,w.bytes.length<=1000000000) :
  ACalls Tryz.prog false 134 [.ag (FX d)] [] fun r H=>r = .ag (Hr (.ow 0 d.cells.length) (.ow 1 d.cache.length) d.reqs d.left)/\H=[.row 84 3 (d.cells.map BG), .row 131 2 (d.cache.map EK)]:=by
 refine zT tys_ok Tryz.func134 rfl rfl (Ag rfl) ?_;conv=>whnf
 refine zU Nat (fun k=>([(1, .bp 0 0),(2, .bp 1 0),(3, .bp 2 0),(4,iv k)], [.box 38 (FX d), .box 38 [.v (.slice none 0 0), .v (.slice none 0 0),iv 0,iv 0], .box 38 [.ow 3 k, .v (.slice none 0 0),iv d.reqs,iv d.left], .row 84 3 ((d.cells.take k).map BG)])) (fun k=>k<=d.cells.length) (fun k=>d.cells.length - k) 0 (Aj _)
  ⟨_,_,zA _ _, [(1002000,84,3)],tA, [0,1,2,3],tA⟩ ?_
 intro k hk;conv=>whnf
 refine A8 (fun h6=>?_) (fun h6=>?_) <;> (repeat rw [Ac] at h6) <;> conv=>whnf
 ·have hk':k<d.cells.length:=by omega
  obtain⟨c,hc⟩:∃ c,c=d.cells.getD k ⟨0, [], []⟩:=⟨_,rfl⟩;have hm:=hb _ (A7 (d:=(⟨0, [], []⟩:Cel)) hk');rw [<-hc] at hm;have b1:=Ez c.bytes hm.1;have b2:=Ez c.old hm.2;rw [hc] at b1 b2;have hl:k=((d.cells.take k).map BG).length:=by simp;omega
  apply zV (0) tys_ok mixed (.o [0,1,2,3,4,5,6,7,8,9,10,11,12,13,15,16,17,18,19,20,14,21,22,23,24,25,26] .fin) (by kernel_rfl);conv=>whnf
  try (refine tI ?_;conv=>whnf)
  try (refine tI ?_;conv=>whnf)
  try (refine tI ?_;conv=>whnf)
  refine z_ b1 ?_;conv=>whnf
  refine z_ b2 ?_;conv=>whnf
  try (refine tJ ?_;conv=>whnf)
  try (refine tK ?_;conv=>whnf)
  try (refine tS ?_;conv=>whnf)
  exact⟨k+1,hk',by omega,zR (s:= [0,1,2,3]) ⟨⟨rfl,rfl,rfl,AL (by omega),tv⟩,⟨rfl,rfl,rfl,congrArg (fun l=>some (AB.row _ _ l)) (FT hk').symm,tv⟩,rfl,rfl,rfl,rfl,rfl⟩⟩
 ·have ek:k=d.cells.length:=by omega
  subst ek;refine zU Nat (fun k=>([(1, .bp 0 0),(2, .bp 1 0),(3, .bp 2 0),(5,iv k)], [.box 38 (FX d), .box 38 [.v (.slice none 0 0), .v (.slice none 0 0),iv 0,iv 0], .box 38 [.ow 3 d.cells.length, .ow 4 k,iv d.reqs,iv d.left], .row 84 3 (d.cells.map BG), .row 131 2 ((d.cache.take k).map EK)])) (fun k=>k<=d.cache.length) (fun k=>d.cache.length - k) 0 (Aj _)
   ⟨_,_,zA _ _, [(1002001,131,2)],tA, [0,1,2,3,4],⟨tA,⟨rfl,rfl,rfl,by rw [As];rfl,rfl,tv⟩,rfl,rfl,rfl,rfl,rfl⟩⟩ ?_
  intro k hk;conv=>whnf
  refine A8 (fun h7=>?_) (fun h7=>?_) <;> (repeat rw [Ac] at h7) <;> conv=>whnf
  ·have hk':k<d.cache.length:=by omega
   have hm:=hw _ (A7 (d:=(⟨0, []⟩:Wr)) hk');have b1:=Ez (d.cache.getD k ⟨0, []⟩).bytes hm;have hl:k=((d.cache.take k).map EK).length:=by simp;omega
   apply zV (0) tys_ok mixed (.o [0,1,2,3,4,5,6,7,8,9,10,11,12,13,14,15,16,17,18,19] .fin) (by kernel_rfl);conv=>whnf
   try (refine tI ?_;conv=>whnf)
   try (refine tI ?_;conv=>whnf)
   refine z_ b1 ?_;conv=>whnf
   try (refine tJ ?_;conv=>whnf)
   try (refine tK ?_;conv=>whnf)
   try (refine tS ?_;conv=>whnf)
   exact⟨k+1,hk',by omega,zR (s:= [0,1,2,3,4]) ⟨⟨rfl,rfl,rfl,AL (by omega),tv⟩,⟨rfl,rfl,rfl,rfl,congrArg (fun l=>some (AB.row _ _ l)) (FT hk').symm,tv⟩,rfl,rfl,rfl,rfl,rfl⟩⟩
  ·have ek:k=d.cache.length:=by omega
   subst ek;exact⟨_, .ag (Hr (.ow 0 d.cells.length) (.ow 1 d.cache.length) d.reqs d.left), [.row 84 3 (d.cells.map BG), .row 131 2 (d.cache.map EK)],fun _ _ h=>h,zR (s:= [3,4]) ⟨tA,⟨rfl,by rw [As];rfl,tv⟩,rfl,rfl,rfl,rfl,rfl⟩,rfl,rfl⟩
@[reducible] def rkH (d:Dk):List AB:= [.box 92 (Hr (.ow 1 d.cells.length) (.ow 2 d.cache.length) d.reqs d.left), .row 84 3 (d.cells.map BG), .row 131 2 (d.cache.map EK)]
theorem OO (d:Dk) (h1:d.cells.length<=1000000) (h2:d.cache.length<=1000000) (hb:∀ c∈d.cells,c.bytes.length<=1000000000/\c.old.length<=1000000000) (hw:∀ w∈d.cache,w.bytes.length<=1000000000) :
  ACalls Tryz.prog false 63 [.ag (FX d)] [] fun r H=>r = .bp 0 0/\H=rkH d:=by
 have c1:=Uk d h1 h2 hb hw;refine zT tys_ok Tryz.func63 rfl rfl (Ag rfl) ?_;conv=>whnf
 refine zW c1 rfl ?_;rintro _ _ ⟨rfl,rfl⟩;exact⟨_, .bp 0 0,rkH d,fun _ _ h=>h,zR (s:= [3,1,2]) tA,rfl,rfl⟩
theorem OJ (d:Dk) (hl : -1<=d.left/\d.left<=1048576):ACalls Tryz.prog false 209 [.bp 0 0] (rkH d) fun r H=>r = .v (.bool (decide (d.left≠0)))/\H=rkH (if d.left=0 then d else d.req):=by
 refine zT tys_ok Tryz.func209 rfl rfl (Ag rfl) ?_;conv=>whnf
 refine A8 (fun h=>?_) (fun h=>?_) <;> (repeat rw [Ac] at h) <;> conv=>whnf
 ·exact⟨_, .v (.bool false),rkH d,fun _ _ h=>h,zR (s:= [0,1,2]) tA,by simp [h],by rw [if_pos h]⟩
 ·have hw:IntKind.i64.wrap (d.left - 1)=d.left - 1:=by rw [IntKind.wrap_i64];omega
  try
   refine zY ?_;conv=>whnf
  refine A8 (fun h2=>?_) (fun h2=>?_) <;> (repeat rw [Ac] at h2) <;> conv=>whnf
  ·exact⟨_, .v (.bool true),rkH d.req,fun _ _ h=>h,zR (s:= [0,1,2]) ⟨tA,⟨congrArg (fun x=>some (AB.box 92 (Hr (.ow 1 d.cells.length) (.ow 2 d.cache.length) d.req.reqs x))) (show IntKind.i64.wrap (d.left - 1)=d.req.left by simp [Dk.req,h2,hw]),rfl,rfl,tv⟩,rfl,rfl,rfl,rfl,rfl⟩,by simp [h],by rw [if_neg h]⟩
  ·exact⟨_, .v (.bool true),rkH d.req,fun _ _ h=>h,zR (s:= [0,1,2]) ⟨tA,⟨congrArg (fun x=>some (AB.box 92 (Hr (.ow 1 d.cells.length) (.ow 2 d.cache.length) d.req.reqs x))) (show d.left=d.req.left by simp [Dk.req];omega),rfl,rfl,tv⟩,rfl,rfl,rfl,rfl,rfl⟩,by simp [h],by rw [if_neg h]⟩
theorem PO (d:Dk) (a:Int) (hl : -1<=d.left/\d.left<=1048576) (ha:0<=a/\a<d.cells.length) (hc:d.cache.length<=2000) (hb:∀ c∈d.cells,c.bytes.length<=100000) (hw:∀ w∈d.cache,w.bytes.length<=100000) :
  ACalls Tryz.prog false 243 [.bp 0 0,iv a] (rkH d) fun r H=>r = .ag (Dz ⟨(d.read a).2.2,(d.read a).2.1⟩)/\H=rkH (d.read a).1:=by
 have hq:=OJ d hl;have no:∀ (e:Int) (c:Ctx) (v:Value),Rd (.ag [iv e, .v (.slice none 0 0)]) c v->Rd (.ag (Dz ⟨e, []⟩)) c v:=fun e=>Be ⟨ri,Bt 1 _,tv⟩
 by_cases h0:d.left=0
 ·rw [if_pos h0,show decide (d.left≠0)=false by simp [h0]] at hq;refine zT tys_ok Tryz.func243 rfl rfl (Ag rfl) ?_;conv=>whnf
  refine ze9 [0,1,2] hq ?_;rintro _ _ ⟨rfl,rfl⟩;exact⟨.ag (Dz ⟨8, []⟩), .ag (Dz ⟨8, []⟩),rkH d,no 8,zR (s:= [0,1,2]) tA,by simp [Dk.read,h0],by simp [Dk.read,h0]⟩
 ·rw [if_neg h0,show decide (d.left≠0)=true by simp [h0]] at hq;have hE:∀ i,i<d.cache.length->(d.cache.map EK).getD i []=EK (d.cache.getD i ⟨0, []⟩):=fun i hi=>Bg hi
  have w1:IntKind.i64.wrap ((d.req.cache.length:Int) - 1)=(d.cache.length:Int) - 1:=by show IntKind.i64.wrap ((d.cache.length:Int) - 1)=_;exact wi (by omega)
  refine zT tys_ok Tryz.func243 rfl rfl (Ag rfl) ?_;conv=>whnf
  refine ze9 [0,1,2] hq ?_;rintro _ _ ⟨rfl,rfl⟩;conv=>whnf
  refine zU Nat (fun k=>([(0, .bp 0 0),(1,iv a),(4, .bp 3 0),(5,iv ((k:Int) - 1))], [.box 92 (Hr (.ow 1 d.cells.length) (.ow 2 d.cache.length) d.req.reqs d.req.left), .row 84 3 (d.cells.map BG), .row 131 2 (d.cache.map EK), .box 263 [iv 0, .v (.slice none 0 0)]])) (fun k=>k<=d.cache.length/\∀ j,k<=j->j<d.cache.length->(d.cache.getD j ⟨0, []⟩).addr≠a) (fun k=>k) d.cache.length ⟨Ah _,fun j h1 h2=>absurd h2 (by omega)⟩
   (zR (s:= [0,1,2,3]) ⟨⟨rfl,rfl,rfl,congrArg (fun x=>AV.v (.int .i64 x)) w1,tv⟩,tA,rfl,rfl,rfl,rfl,rfl⟩) ?_
  rintro k ⟨hk,hI⟩;conv=>whnf
  refine A8 (fun h6=>?_) (fun h6=>?_) <;> (repeat rw [Ac] at h6) <;> conv=>whnf
  ·have hk':k - 1<d.cache.length:=by omega
   have ek:((k:Int) - 1).toNat=k - 1:=by omega
   have hE':(d.cache.map EK).getD ((k:Int) - 1).toNat []=EK (d.cache.getD (k - 1) ⟨0, []⟩):=by rw [ek];exact Bg hk'
   have hcw:=Ez (d.cache.getD (k - 1) ⟨0, []⟩).bytes (by have:=hw _ (A7 (d:=⟨0, []⟩) hk');omega);refine⟨⟨by omega,by omega⟩,?_⟩;refine⟨⟨rfl,(Aa _).symm,by omega⟩,?_⟩;conv=>whnf
   rw [hE'];conv=>whnf
   refine A8 (fun h7=>?_) (fun h7=>?_) <;> (repeat rw [Ac] at h7) <;> conv=>whnf
   ·refine⟨⟨by omega,by omega⟩,?_⟩;refine⟨⟨rfl,(Aa _).symm,by omega⟩,?_⟩;conv=>whnf
    rw [hE'];conv=>whnf
    refine z_ hcw ?_;conv=>whnf
    have hg:d.got a=((d.cache.getD (k - 1) ⟨0, []⟩).bytes,0):=by
     unfold Dk.got;rw [KN _ _ rfl (k - 1) hk' h7 fun j q1 q2=>hI j (by omega) q2]
    exact⟨_, .ag (Dz ⟨0,(d.cache.getD (k - 1) ⟨0, []⟩).bytes⟩),rkH d.req,fun _ _ h=>h,zR (s:= [0,1,2]) tA,by simp [Dk.read,h0,hg],by simp [Dk.read,h0]⟩
   ·refine⟨k - 1,⟨by omega,fun j q1 q2=>?_⟩,by omega,zR (s:= [0,1,2,3]) ⟨⟨rfl,rfl,rfl,congrArg (fun x=>AV.v (.int .i64 x)) (show IntKind.i64.wrap ((k:Int) - 1 - 1)=((k - 1:Nat):Int) - 1 by rw [wi (by omega)];omega),tv⟩,tA,rfl,rfl,rfl,rfl,rfl⟩⟩;by_cases hj:j=k - 1
    ·rw [hj];exact h7
    ·exact hI j (by omega) q2
  ·have hg:d.got a=if (d.cells.getD a.toNat ⟨0, [], []⟩).state=0 then ((d.cells.getD a.toNat ⟨0, [], []⟩).bytes,0) else ([],6):=by
    unfold Dk.got;rw [Jy _ _ rfl fun j q=>hI j (by omega) q]
   have hgc:(d.cells.map BG).getD a.toNat []=BG (d.cells.getD a.toNat ⟨0, [], []⟩):=Bg (by omega);have hcb:=Ez (d.cells.getD a.toNat ⟨0, [], []⟩).bytes (by have:=hb _ (A7 (d:=⟨0, [], []⟩) (show a.toNat<d.cells.length by omega));omega);refine⟨ha,?_⟩;refine⟨⟨rfl,(Aa _).symm,show a.toNat<d.cells.length by omega⟩,?_⟩;conv=>whnf
   rw [hgc];conv=>whnf
   refine A8 (fun h1=>?_) (fun h1=>?_) <;> (repeat rw [Ac] at h1) <;> conv=>whnf
   ·rw [if_neg h1] at hg;exact⟨.ag (Dz ⟨6, []⟩), .ag (Dz ⟨6, []⟩),rkH d.req,no 6,zR (s:= [0,1,2]) tA,by simp only [Dk.read,if_neg h0,hg],by simp only [Dk.read,if_neg h0]⟩
   ·rw [if_pos h1] at hg;refine⟨ha,?_⟩;refine⟨⟨rfl,(Aa _).symm,show a.toNat<d.cells.length by omega⟩,?_⟩;conv=>whnf
    rw [hgc];conv=>whnf
    refine z_ hcb ?_;exact⟨_, .ag (Dz ⟨0,(d.cells.getD a.toNat ⟨0, [], []⟩).bytes⟩),rkH d.req,fun _ _ h=>h,zR (s:= [0,1,2]) tA,by simp only [Dk.read,if_neg h0,hg],by simp only [Dk.read,if_neg h0]⟩
theorem NB (d:Dk) (a:Int) (b:List UInt8) (hl : -1<=d.left/\d.left<=1048576) (ha:0<=a/\a<d.cells.length) (hc:d.cache.length<=2000) (hb:b.length<=100000) :
  ACalls Tryz.prog false 145 [.bp 0 0,iv a,bA b] (rkH d) fun r H=>r = .v (.int .i64 (d.write a b).2)/\H=rkH (d.write a b).1:=by
 have hq:=OJ d hl;have hcb:=Ez b (by omega);by_cases h0:d.left=0
 ·rw [if_pos h0,show decide (d.left≠0)=false by simp [h0]] at hq;refine zT tys_ok Tryz.func145 rfl rfl (Ag rfl) ?_;conv=>whnf
  refine hq.mono ?_;rintro _ _ ⟨rfl,rfl⟩;exact⟨_,iv 8,rkH d,fun _ _ h=>h,zR (s:= [0,1,2]) tA,by simp only [Dk.write,if_pos h0],by simp only [Dk.write,if_pos h0]⟩
 ·rw [if_neg h0,show decide (d.left≠0)=true by simp [h0]] at hq;have hgc:(d.cells.map BG).getD a.toNat []=BG (d.cells.getD a.toNat ⟨0, [], []⟩):=Bg (by omega);have hgc':(d.req.cells.map BG).getD a.toNat []=BG (d.cells.getD a.toNat ⟨0, [], []⟩):=hgc;refine zT tys_ok Tryz.func145 rfl rfl (Ag rfl) ?_;conv=>whnf
  refine hq.mono ?_;rintro _ _ ⟨rfl,rfl⟩;refine⟨ha,?_⟩;refine⟨⟨rfl,(Aa _).symm,show a.toNat<d.cells.length by omega⟩,?_⟩;conv=>whnf
  first | rw [hgc] | rw [hgc']
  conv=>whnf
  refine A8 (fun h1=>?_) (fun h1=>?_) <;> (repeat rw [Ac] at h1) <;> conv=>whnf
  ·exact⟨_,iv 7,rkH d.req,fun _ _ h=>h,zR (s:= [0,1,2]) tA,by simp only [Dk.write,if_neg h0,if_pos (Or.inl h1)],by simp only [Dk.write,if_neg h0,if_pos (Or.inl h1)]⟩
  ·by_cases h2:(2000:Int)<=d.cache.length
   ·rw [show decide ((d.req.cache.length:Int)>=2000)=true from decide_eq_true h2];exact⟨_,iv 7,rkH d.req,fun _ _ h=>h,zR (s:= [0,1,2]) tA,by simp only [Dk.write,if_neg h0,if_pos (Or.inr h2)],by simp only [Dk.write,if_neg h0,if_pos (Or.inr h2)]⟩
   ·rw [show decide ((d.req.cache.length:Int)>=2000)=false from decide_eq_false h2];have hc':d.req.cache.length<=2000:=hc;have h3:¬((d.cells.getD a.toNat ⟨0, [], []⟩).state=2\/(2000:Int)<=d.cache.length):=fun h=>h.elim h1 h2
    conv=>whnf
    apply zV (0) tys_ok mixed (.o [0,1,2,3,4,5,6,7,8,9,10,11,12,13,14,15] .fin) (by kernel_rfl);conv=>whnf
    refine z_ hcb ?_;conv=>whnf
    try (refine tJ ?_;conv=>whnf)
    try (refine tK ?_;conv=>whnf)
    try (refine tS ?_;conv=>whnf)
    have e:rkH { d.req with cache:=d.cache ++ [⟨a,b⟩] }=[.box 92 (Hr (.ow 1 d.cells.length) (.ow 2 (d.cache.length+1)) d.req.reqs d.req.left), .row 84 3 (d.cells.map BG), .row 131 2 (d.cache.map EK ++ [EK ⟨a,b⟩])]:=by
     unfold rkH;simp only [Ai,D8,A9,A0,Bn];rfl
    refine⟨_,iv 0,rkH { d.req with cache:=d.cache ++ [⟨a,b⟩] },fun _ _ h=>h,zR (s:= [0,1,2]) ?_,by simp only [Dk.write,if_neg h0,if_neg h3],by simp only [Dk.write,if_neg h0,if_neg h3]⟩;rw [e];exact tA
theorem Wh (d:Dk) (w:Wr) (ha:0<=w.addr/\w.addr<d.cells.length) (hb:w.bytes.length<=100000) :
  ACalls Tryz.prog false 211 [.bp 0 0, .ag (EK w)] (rkH d) fun r H=>r = .tp []/\H=rkH (d.fin w):=by
 have hgc:(d.cells.map BG).getD w.addr.toNat []=BG (d.cells.getD w.addr.toNat cz):=Bg (by omega);have hcb:=Ez w.bytes (by omega);refine zT tys_ok Tryz.func211 rfl rfl (Ag rfl) ?_;conv=>whnf
 apply zV (0) tys_ok mixed (.o [0,1,2,3,4,5,6,7,8] .fin) (by kernel_rfl);conv=>whnf
 try (refine tI ?_;conv=>whnf)
 refine⟨⟨rfl,(Aa _).symm,show w.addr.toNat<d.cells.length by omega⟩,?_⟩;conv=>whnf
 rw [hgc];conv=>whnf
 refine A8 (fun h1=>?_) (fun h1=>?_) <;> (repeat rw [Ac] at h1) <;> conv=>whnf
 ·exact⟨_, .tp [],rkH d,fun _ _ h=>h,zR (s:= [0,1,2]) tA,rfl,by simp only [Dk.fin,if_pos h1]⟩
 ·have hmem:w.addr.toNat<d.cells.length:=by omega
  apply zV (0) tys_ok mixed (.o [0,1,2,3,4,5,6,7,8,9,10,11,12,13,14,15,16,17,18] .fin) (by kernel_rfl);conv=>whnf
  try (first | (refine Ad ⟨rfl,(Aa _).symm,hmem⟩ ?_;(conv=>whnf);rw [hgc]) | (refine Ad ⟨rfl,by simp,hmem⟩ ?_;(conv=>whnf);rw [BQ (by simpa using hmem)]) | skip;conv=>whnf)
  try (first | (refine Ad ⟨rfl,(Aa _).symm,hmem⟩ ?_;(conv=>whnf);rw [hgc]) | (refine Ad ⟨rfl,by simp,hmem⟩ ?_;(conv=>whnf);rw [BQ (by simpa using hmem)]) | skip;conv=>whnf)
  refine z_ hcb ?_;conv=>whnf
  try (refine tS ?_;conv=>whnf)
  (first | rw [hgc] | rw [BQ (by simpa using hmem)] | skip)
  conv=>whnf
  try (refine tS ?_;conv=>whnf)
  (first | rw [hgc] | rw [BQ (by simpa using hmem)] | skip)
  conv=>whnf
  try (refine tS ?_;conv=>whnf)
  (first | rw [hgc] | rw [BQ (by simpa using hmem)] | skip)
  conv=>whnf
  have e:rkH (d.fin w)=[.box 92 (Hr (.ow 1 d.cells.length) (.ow 2 d.cache.length) d.reqs d.left), .row 84 3 ((d.cells.map BG).set w.addr.toNat (BG ⟨0,w.bytes,(d.cells.getD w.addr.toNat cz).bytes⟩)), .row 131 2 (d.cache.map EK)]:=by
   rw [Dk.fin,if_neg h1];unfold rkH;simp only [AW,Ch]
  refine⟨_, .tp [],rkH (d.fin w),fun _ _ h=>h,zR (s:= [0,1,2]) ?_,rfl,rfl⟩;rw [e];exact⟨tA,⟨rfl,congrArg (fun l=>some (AB.row _ _ l)) (by rw [List.set_set,List.set_set];rfl),rfl,tv⟩,rfl,rfl,rfl,rfl,rfl⟩
@[reducible] def rkG (d:Dk):List AB:= [.box 92 (Hr (.ow 1 d.cells.length) (.ow 3 d.cache.length) d.reqs d.left), .row 84 3 (d.cells.map BG), .dead, .row 131 2 (d.cache.map EK)]
theorem Z4 (d:Dk):ConvH (rkH d) (rkG d):=zy (H:=rkH d) 0 2 (by decide) rfl rfl
theorem NH (d:Dk) (hl : -1<=d.left/\d.left<=1048576) (hc:d.cache.length<=2000) (ha:∀ w∈d.cache,0<=w.addr/\w.addr<d.cells.length) (hb:∀ w∈d.cache,w.bytes.length<=100000) :
  ACalls Tryz.prog false 147 [.bp 0 0] (rkH d) fun r H=>r = iv (if d.left=0 then 8 else 0)/\H=rkG (if d.left=0 then d else d.flush):=by
 have hq:=OJ d hl;by_cases h0:d.left=0
 ·rw [if_pos h0,show decide (d.left≠0)=false by simp [h0]] at hq;rw [if_pos h0,if_pos h0];refine zT tys_ok Tryz.func147 rfl rfl (Ag rfl) ?_;conv=>whnf
  refine hq.mono ?_;rintro _ _ ⟨rfl,rfl⟩;exact⟨_,iv 8,rkG d,fun _ _ h=>h,zI (zK (Z4 d)) (s:= [0,1,2,3]) tA,rfl,rfl⟩
 ·rw [if_neg h0,show decide (d.left≠0)=true by simp [h0]] at hq;rw [if_neg h0,if_neg h0];have hE:∀ i,i<d.cache.length->(d.cache.map EK).getD i []=EK (d.cache.getD i ⟨0, []⟩):=fun i hi=>Bg hi
  refine zT tys_ok Tryz.func147 rfl rfl (Ag rfl) ?_;conv=>whnf
  refine hq.mono ?_;rintro _ _ ⟨rfl,rfl⟩;conv=>whnf
  refine zU Nat (fun k=>([(0, .bp 0 0),(2,iv 0),(3,iv k)],rkH (d.req.allFin (d.cache.take k)))) (fun k=>k<=d.cache.length) (fun k=>d.cache.length - k) 0 (Aj _)
   (zR (s:= [0,1,2]) tA) ?_
  intro k hk;have hall:=J8 (d.cache.take k) d.req;have hnext:k<d.cache.length->d.req.allFin (d.cache.take (k+1))=(d.req.allFin (d.cache.take k)).fin (d.cache.getD k ⟨0, []⟩):=fun h=>L2 d.req h
  have hlast:k=d.cache.length->d.flush={ d.req.allFin (d.cache.take k) with cache:= [] }:=fun h=>by rw [h,As];rfl
  generalize d.req.allFin (d.cache.take k)=X at hall hnext hlast |-
  obtain⟨xc,xw,xr,xl⟩:=X;simp only at hall;obtain⟨q1,q2,q3,q4⟩:=hall;have q2:xw=d.cache:=q2;subst q2;have q1':xc.length=d.cells.length:=q1;conv=>whnf
  refine A8 (fun h=>?_) (fun h=>?_) <;> (repeat rw [Ac] at h) <;> conv=>whnf
  ·have hk':k<d.cache.length:=h;have hd:=Wh ⟨xc,d.cache,xr,xl⟩ (d.cache.getD k ⟨0, []⟩) (by have:=ha _ (A7 (d:=⟨0, []⟩) hk');show _/\_<((xc.length:Nat):Int);rw [q1'];exact this) (hb _ (A7 (d:=⟨0, []⟩) hk'));refine⟨⟨by omega,by omega⟩,?_⟩;refine⟨⟨rfl,(Aa _).symm,by simpa using hk'⟩,?_⟩;conv=>whnf
   rw [show ((k:Int)).toNat=k from Ac k,hE k hk'];conv=>whnf
   refine ze9 [0,1,2] hd ?_;rintro _ _ ⟨rfl,rfl⟩;refine⟨k+1,hk',by omega,zR (s:= [0,1,2]) ?_⟩;rw [hnext hk'];exact⟨⟨rfl,rfl,AL (by omega),tv⟩,tA,rfl,rfl,rfl,rfl,rfl⟩
  ·have ek:k=d.cache.length:=Nat.le_antisymm hk h;rw [hlast ek];exact⟨_,iv 0,rkG { cells:=xc,cache:= [],reqs:=xr,left:=xl },fun _ _ h=>h,⟨_,_,zA _ _, [(1000001,131,2)],tA, [0,1,2,3],tA⟩,rfl,rfl⟩
structure DkOk (d:Dk):Prop where
 n:1<=d.cells.length/\d.cells.length<=300
 m:d.cache.length<=2000
 r:0<=d.reqs/\d.reqs<=1048576
 l : -1<=d.left/\d.left<=1048576
 c:∀ c∈d.cells,(0<=c.state/\c.state<=2)/\c.bytes.length<=200/\c.old.length<=200
 w:∀ w∈d.cache,(0<=w.addr/\w.addr<d.cells.length)/\w.bytes.length<=200
theorem Wv {d:Dk}:Nq d=true↔DkOk d:=by
 constructor
 ·intro h;simp only [Nq,Ae,AI,decide_eq_true_eq,Av,Ie,LN] at h;obtain⟨⟨h1,h2,h3,h4⟩,h5,h6⟩:=h;exact⟨by omega,h2,h3,h4,fun c hc=>h5 c hc,fun w hw=>⟨by have:=(h6 w hw).1;omega,(h6 w hw).2⟩⟩
 ·intro h;simp only [Nq,Ae,AI,decide_eq_true_eq,Av,Ie,LN];exact⟨⟨by have:=h.n;omega,h.m,h.r,h.l⟩,fun c hc=>h.c c hc,fun w hw=>⟨by have:=(h.w w hw).1;omega,(h.w w hw).2⟩⟩
theorem DkOk.req {d:Dk} (h:DkOk d):DkOk d.req:=by
 have hr:=h.r;have hl:=h.l;refine⟨h.n,h.m,?_,?_,h.c,h.w⟩
 ·show 0<=(if 1048576<IntKind.i64.wrap (d.reqs+1) then 1048576 else IntKind.i64.wrap (d.reqs+1))/\(if 1048576<IntKind.i64.wrap (d.reqs+1) then 1048576 else IntKind.i64.wrap (d.reqs+1))<=1048576;rw [wi (by omega)];split <;> omega
 ·show -1<=(if d.left > 0 then d.left - 1 else d.left)/\(if d.left > 0 then d.left - 1 else d.left)<=1048576;split <;> omega
theorem Ux {d:Dk} (h:DkOk d) (a:Int):(d.got a).1.length<=200:=by
 unfold Dk.got;cases hl:Ic d.cache a with
 | some w=>
  have:∀ (l:List Wr) (r:Option Wr),(∀ x∈l,x.bytes.length<=200)->(∀ x,r=some x->x.bytes.length<=200)->∀ x,l.foldl (fun r w=>if w.addr=a then some w else r) r=some x->x.bytes.length<=200:=by
   intro l;induction l with
   | nil=>intro r _ h2 x hx;exact h2 x hx
   | cons y l ih=>
    intro r h1 h2 x hx;refine ih _ (fun x hx=>h1 x (Bd _ hx)) (fun x hx=>?_) x hx;simp only at hx;split at hx
    ·cases hx;exact h1 y (by simp)
    ·exact h2 x hx
  exact this d.cache none (fun x hx=>(h.w x hx).2) (fun x hx=>by cases hx) w hl
 | none=>
  simp only;split
  ·by_cases ha:a.toNat<d.cells.length
   ·exact(h.c _ (A7 (d:=⟨0, [], []⟩) ha)).2.1
   ·rw [Ab,AJ (by omega)];simp
  ·simp
theorem DkOk.read {d:Dk} (h:DkOk d) (a:Int):DkOk (d.read a).1:=by
 unfold Dk.read;split
 ·exact h
 ·exact h.req
theorem DkOk.write {d:Dk} (h:DkOk d) {a:Int} {b:List UInt8} (ha:0<=a/\a<d.cells.length) (hb:b.length<=200):DkOk (d.write a b).1:=by
 unfold Dk.write;split
 ·exact h
 ·split
  ·exact h.req
  ·rename_i h1;have h2:=h.req;refine⟨h2.n,?_,h2.r,h2.l,h2.c,fun w hw=>?_⟩
   ·simp only [Ai,D8];omega
   ·rcases A5.1 hw with hw | hw
    ·exact h.w w hw
    ·simp at hw;subst hw;exact⟨ha,hb⟩
theorem DkOk.fin {d:Dk} (h:DkOk d) {w:Wr} (hb:w.bytes.length<=200):DkOk (d.fin w):=by
 unfold Dk.fin;split
 ·exact h
 ·refine⟨by simpa using h.n,h.m,h.r,h.l,fun c hc=>?_,fun x hx=>by simpa using h.w x hx⟩;rcases Cz hc with hc | rfl
  ·exact h.c c hc
  ·refine⟨⟨CG _,show (0:Int)<=2 by decide⟩,hb,?_⟩;show (d.cells.getD w.addr.toNat cz).bytes.length<=200;by_cases ha:w.addr.toNat<d.cells.length
   ·exact(h.c _ (A7 (d:=cz) ha)).2.1
   ·rw [Ab,AJ (by omega)];simp [cz]
theorem DkOk.allFin (l:List Wr):∀ {d:Dk},DkOk d->(∀ w∈l,w.bytes.length<=200)->DkOk (d.allFin l):=by
 induction l with
 | nil=>intro d h _;exact h
 | cons w l ih=>intro d h hw;exact ih (h.fin (hw w (by simp))) fun x hx=>hw x (Bd _ hx)
theorem DkOk.flush {d:Dk} (h:DkOk d):DkOk d.flush:=by
 have h1:=h.req.allFin d.cache (fun w hw=>(h.w w hw).2);exact⟨h1.n,by simp [Dk.flush],h1.r,h1.l,h1.c,fun w hw=>by simp [Dk.flush] at hw⟩
theorem Sw (d:Dk) (a:Int) (b:List UInt8):(d.write a b).1.cells.length=d.cells.length:=by
 unfold Dk.write;split
 ·rfl
 ·split <;> rfl
theorem S_ (d:Dk):d.flush.cells.length=d.cells.length:=(J8 d.cache d.req).1
def Dk.adv:Nat->Dk->Dk
 | 0,d=>d
 | k+1,d=>let e:=Dk.adv k d;if e.left=0 then e else e.req
def Dk.live (k:Nat) (d:Dk):Prop:=d.left<0\/(k:Int)<=d.left
instance (k:Nat) (d:Dk):Decidable (d.live k):=by unfold Dk.live;infer_instance
theorem GE (k:Nat) (d:Dk):(d.adv k).cells=d.cells/\(d.adv k).cache=d.cache:=by
 induction k with
 | zero=>exact tA
 | succ k ih=>show (if _ then _ else _:Dk).cells=_/\(if _ then _ else _:Dk).cache=_;split <;> exact ih
theorem Q_ (k:Nat) (d:Dk) (h:d.live k):(d.adv k).left=if d.left<0 then d.left else d.left - k:=by
 induction k with
 | zero=>show d.left=_;simp
 | succ k ih=>
  have h':d.live k:=by unfold Dk.live at *;omega
  have ih:=ih h';have h0:¬(d.adv k).left=0:=by rw [ih];unfold Dk.live at h;split <;> omega
  show (if (d.adv k).left=0 then d.adv k else (d.adv k).req).left=_;rw [if_neg h0];show (if (d.adv k).left > 0 then (d.adv k).left - 1 else (d.adv k).left)=_;rw [ih];unfold Dk.live at h;split <;> split <;> omega
theorem XF (k:Nat) (d:Dk) (h:¬d.live (k+1)) (h':d.live k):(d.adv k).left=0:=by
 rw [Q_ k d h'];unfold Dk.live at *
 split <;> omega
theorem Kx (k n:Nat) (d:Dk) (h:(d.adv k).left=0) (hn:k<=n):d.adv n=d.adv k:=by
 induction n with
 | zero=>rw [show k=0 by omega]
 | succ n ih=>
  by_cases e:k=n+1
  ·rw [e]
  ·have:=ih (by omega);show (if (d.adv n).left=0 then d.adv n else (d.adv n).req)=_;rw [this,if_pos h]
theorem XD (k:Nat) (d:Dk) (h:¬(d.adv k).left=0):d.adv (k+1)=(d.adv k).req:=if_neg h
theorem QZ (k:Nat) (d:Dk) (hl : -1<=d.left) (h:d.live k):(d.adv k).left=0↔¬d.live (k+1):=by
 rw [Q_ k d h];unfold Dk.live at *
 split <;> omega
theorem DkOk.adv {d:Dk} (h:DkOk d) (k:Nat):DkOk (d.adv k):=by
 induction k with
 | zero=>exact h
 | succ k ih=>show DkOk (if _ then _ else _);split;exact ih;exact ih.req
theorem YS (k:Nat) (d:Dk) (a:Int):(d.adv k).got a=d.got a:=by
 unfold Dk.got;rw [(GE k d).1,(GE k d).2]
def Uy (d:Dk) (a:Int):Gt:=⟨(d.got a).2,(d.got a).1⟩
theorem SW (d:Dk) (a:Int):(d.got a).2=0\/(d.got a).2=6:=by
 unfold Dk.got;cases Ic d.cache a with
 | some w=>exact .inl rfl
 | none=>simp only;split;exact .inl rfl;exact .inr rfl
def CU (s:Dk × Nat × Bool) (w:Wr):Dk × Nat × Bool:=
 if s.2.2 then s else
 match s.1.write w.addr w.bytes with
 | (d,e)=>if e=8 then (d,s.2.1,true) else (d,s.2.1+(if e=0 then 1 else 0),false)
def Dk.writes (d:Dk) (l:List Wr):Dk × Nat × Bool:=l.foldl CU (d,0,false)
def Dk.putAll (d:Dk) (l:List Wr):Dk × Nat × Bool:=
 match d.writes l with
 | (d1,n,dead)=>if dead then (d1,n,true) else if d1.left=0 then (d1,n,true) else (d1.flush,n,false)
theorem FZ (d:Dk) {l:List Wr} {k:Nat} (h:k<l.length):d.writes (l.take (k+1))=CU (d.writes (l.take k)) (l.getD k ⟨0, []⟩):=by
 unfold Dk.writes;rw [A_,Ci,Af h];simp [Ab,Af h]
theorem Ij {s:Dk × Nat × Bool} (w:Wr) (h:s.2.2=true):CU s w=s:=by unfold CU;rw [if_pos h]
theorem Le (d:Dk) {l:List Wr} {k:Nat} (hk:k<=l.length) (h:(d.writes (l.take k)).2.2=true):d.writes l=d.writes (l.take k):=by
 have:∀ n,k<=n->n<=l.length->d.writes (l.take n)=d.writes (l.take k):=by
  intro n;induction n with
  | zero=>intro h1 _;rw [show k=0 by omega]
  | succ n ih=>
   intro h1 h2;by_cases e:k=n+1
   ·rw [e]
   ·rw [FZ d (by omega),ih (by omega) (by omega),Ij _ h]
 have:=this l.length hk (Ah _);rwa [As] at this
theorem Rb {P:Dk->Prop} (l:List Wr) (hw:∀ d,P d->∀ w∈l,P (d.write w.addr w.bytes).1) {d:Dk} (h:P d) (k:Nat):P (d.writes (l.take k)).1:=by
 induction k with
 | zero=>simpa [Dk.writes] using h
 | succ k ih=>
  by_cases hk:k<l.length
  ·rw [FZ d hk];unfold CU;split
   ·exact ih
   ·have:=hw _ ih _ (A7 (d:=(⟨0, []⟩:Wr)) hk);simp only;split <;> exact this
  ·rw [A3 (by omega)];rwa [A3 (by omega)] at ih
def an0:An:=⟨0,0,0,0,0,⟨#[]⟩, []⟩
theorem an0_sub:SubL [iv 0,iv 0,iv 0,iv 0,iv 0, .v (.string ⟨#[]⟩), .v (.slice none 0 0)] (Ew an0):=
 ⟨fun _ _ h=>h,fun _ _ h=>h,fun _ _ h=>h,fun _ _ h=>h,fun _ _ h=>h,fun _ _ h=>h,Bt 3 _,tv⟩
structure Stt where
 a:An
 txns:List Tx
 only:Bool
 cursor:Int
 found:Int
 fixed:Int
 moved:Int
 lost:List Int
 deriving DecidableEq
def Fh (s:Stt):List AV:= [iv s.a.gen,iv s.a.epoch,iv s.a.pos,iv s.a.seq,iv s.a.last, .v (.string s.a.label),Ig s.a.homes,Dh s.txns, .v (.bool s.only),iv s.cursor,iv s.found,iv s.fixed,iv s.moved,iA s.lost]
def st0:Stt:=⟨an0, [],false,0,0,0,0, []⟩
@[reducible] def YN (g:Geo) (x:AV) (s:Stt):List AV:= [iv g.z,iv g.d,iv g.sp,iv g.sl,iv g.an,x,iv s.a.gen,iv s.a.epoch,iv s.a.pos,iv s.a.seq,iv s.a.last, .v (.string s.a.label),Ig s.a.homes,Dh s.txns, .v (.bool s.only),iv s.cursor,iv s.found,iv s.fixed,iv s.moved,iA s.lost]
@[reducible] def Oz (g:Geo) (s:Stt) (d:Dk):List AB:= [.box 107 (YN g (.bp 1 0) s), .box 113 (Hr (.ow 2 d.cells.length) (.ow 3 d.cache.length) d.reqs d.left), .row 84 3 (d.cells.map BG), .row 131 2 (d.cache.map EK)]
@[reducible] def bwG (g:Geo) (s:Stt) (d:Dk):List AB:= [.box 107 (YN g (.bp 1 0) s), .box 113 (Hr (.ow 2 d.cells.length) (.ow 4 d.cache.length) d.reqs d.left), .row 84 3 (d.cells.map BG), .dead, .row 131 2 (d.cache.map EK)]
theorem Iz {m:Nat} (h:Nat.ble 4 m=true):∀ z∈ [1,2,3],z<m:=fun z hz=>by
 have:=Ag h;simp at hz;omega
theorem Gm {m:Nat} (h:Nat.ble 4 m=true):∀ z∈ [0,1,2,3],z<m:=fun z hz=>by
 have:=Ag h;simp at hz;omega
theorem Tf (g:Geo) (s:Stt) (d:Dk) (a:Int) (b:List UInt8) (h:DkOk d) (ha:0<=a/\a<d.cells.length) (hb:b.length<=200) :
  ACalls Tryz.prog false 160 [.bp 0 0,iv a,bA b] (Oz g s d) fun r H=>r = .tp [.v (.bool (decide ((d.write a b).2=0))),iv (if (d.write a b).2=8 then 8 else 0)]/\H=Oz g s (d.write a b).1:=by
 have hr:=Oq Ck d a b h.l ha h.m (by omega);have he:(d.write a b).2=8\/(d.write a b).2=7\/(d.write a b).2=0:=by
  unfold Dk.write;split
  ·exact .inl rfl
  ·split
   ·exact .inr (.inl rfl)
   ·exact .inr (.inr rfl)
 generalize d.write a b=q at hr he |-
 obtain⟨d',e⟩:=q;simp only at hr he |-
 refine zT tys_ok Tryz.func160 rfl rfl (Ag rfl) ?_;conv=>whnf
 refine ze9 [1,2,3] hr ?_;rintro _ _ ⟨rfl,rfl⟩;rcases he with rfl | rfl | rfl
 all_goals
  exact⟨_,_,Oz g s d',fun _ _ h=>h,zR (s:= [0,1,2,3]) tA,rfl,rfl⟩
@[reducible] def b9 (g:Geo) (s:Stt) (d:Dk) (l:List AB):List AB:= .box 107 (YN g (.bp 1 0) s):: .box 113 (Hr (.ow 2 d.cells.length) (.ow 3 d.cache.length) d.reqs d.left):: .row 84 3 (d.cells.map BG):: .row 131 2 (d.cache.map EK)::l
def B8 (d:Dk) (ats:List Int):List Gt:=ats.map (Uy d)
def DB (g:Geo):List Int:=(List.range g.an.toNat).map Int.ofNat
theorem TK {d:Dk} {k:Nat} (a:Int) (h:¬(d.adv k).left=0):(d.adv k).read a=(d.adv (k+1),d.got a):=by
 rw [Dk.read,if_neg h,XD k d h,YS]
theorem TL {d:Dk} {k:Nat} (a:Int) (h:(d.adv k).left=0):(d.adv k).read a=(d.adv k, [],8):=by rw [Dk.read,if_pos h]
theorem FQ (g:Geo):(DB g).length=g.an.toNat:=by simp [DB]
theorem O5 {g:Geo} {k:Nat} (h:k<g.an.toNat):(DB g).getD k 0=k:=by
 rw [DB,Bg (d:=0) (by simpa using h),Ab,BM h];rfl
theorem Eu (d:Dk) (ats:List Int):(B8 d ats).length=ats.length:=by simp [B8]
def BZ (g:Geo) (copy:Int):List Int:=(List.range g.sl.toNat).map fun i=>By g copy (i:Nat)
theorem FJ (g:Geo) (c:Int):(BZ g c).length=g.sl.toNat:=by simp [BZ]
theorem EH {g:Geo} (hg:Bq g=true):g.an+2*g.sl+2*g.z<=Aw g:=by
 obtain⟨g1,g2,g3,g4,g5⟩:=Aq.1 hg;have hp:=GU hg;have:0<=g.z*CD g:=De (by omega) (by omega);unfold Aw;omega
theorem F0 {g:Geo} {n:Nat} (hg:Bq g=true) (hn:(n:Int)=Aw g) {c s:Int} (hc:c=0\/c=1) (hs:0<=s/\s<g.sl):0<=By g c s/\By g c s<n:=by
 obtain⟨g1,g2,g3,g4,g5⟩:=Aq.1 hg;have:=EH hg;unfold By;rcases hc with rfl | rfl <;> omega
def Ra (n:Nat) (w:Wr):Prop:=(0<=w.addr/\w.addr<n)/\w.bytes.length<=200
theorem GW {d:Dk} (h:DkOk d) {l:List Wr} (hl:∀ w∈l,Ra d.cells.length w) (k:Nat):DkOk (d.writes (l.take k)).1/\(d.writes (l.take k)).1.cells.length=d.cells.length:=
 Rb (P:=fun x=>DkOk x/\x.cells.length=d.cells.length) l (fun x hx w hw=>⟨hx.1.write (by rw [hx.2];exact(hl w hw).1) (hl w hw).2,by rw [Sw,hx.2]⟩) ⟨h,rfl⟩ k
theorem IC (d:Dk) (a:Int) (b:List UInt8):(d.write a b).2=8\/(d.write a b).2=7\/(d.write a b).2=0:=by
 unfold Dk.write;split
 ·exact .inl rfl
 ·split
  ·exact .inr (.inl rfl)
  ·exact .inr (.inr rfl)
theorem JB {d:Dk} {l:List Wr} {k:Nat} (hk:k<l.length) (h:(d.writes (l.take k)).2.2=false) :
  d.writes (l.take (k+1))=(((d.writes (l.take k)).1.write (l.getD k ⟨0, []⟩).addr (l.getD k ⟨0, []⟩).bytes).1,(d.writes (l.take k)).2.1+(if ((d.writes (l.take k)).1.write (l.getD k ⟨0, []⟩).addr (l.getD k ⟨0, []⟩).bytes).2=0 then 1 else 0),decide (((d.writes (l.take k)).1.write (l.getD k ⟨0, []⟩).addr (l.getD k ⟨0, []⟩).bytes).2=8)):=by
 rw [FZ d hk];unfold CU;rw [if_neg (by rw [h];decide)];simp only;by_cases h8:((d.writes (l.take k)).1.write (l.getD k ⟨0, []⟩).addr (l.getD k ⟨0, []⟩).bytes).2=8
 ·rw [if_pos h8,h8];simp
 ·rw [if_neg h8,decide_eq_false h8]
theorem EC {d:Dk} {l:List Wr} (h:(d.writes l).2.2=true):d.putAll l=((d.writes l).1,(d.writes l).2.1,true):=by
 unfold Dk.putAll;generalize d.writes l=q at h |-
 obtain⟨a,b,c⟩:=q;simp only at h |-
 rw [if_pos h]
theorem Ef {d:Dk} {l:List Wr} (h:(d.writes l).2.2=false):d.putAll l=if (d.writes l).1.left=0 then ((d.writes l).1,(d.writes l).2.1,true) else ((d.writes l).1.flush,(d.writes l).2.1,false):=by
 unfold Dk.putAll;generalize d.writes l=q at h |-
 obtain⟨a,b,c⟩:=q;simp only at h |-
 rw [if_neg (by rw [h];decide)]
theorem GZ {d:Dk} (h:DkOk d) {l:List Wr} (hl:∀ w∈l,Ra d.cells.length w):DkOk (d.putAll l).1/\(d.putAll l).1.cells.length=d.cells.length:=by
 have hw:=GW h hl l.length;rw [As] at hw;cases hd:(d.writes l).2.2 with
 | true=>rw [EC hd];exact hw
 | false=>
  rw [Ef hd];split
  ·exact hw
  ·exact⟨hw.1.flush,by rw [S_,hw.2]⟩
def Dk.mend (d:Dk) (l:List Wr):Dk × Bool:=if l=[] then (d,false) else ((d.putAll l).1,(d.putAll l).2.2)
def AE (g:Geo) (a:An):List Wr:=(List.range g.an.toNat).map fun i=>⟨(i:Nat),CV a (i:Nat)⟩
theorem Dc (g:Geo) (a:An):(AE g a).length=g.an.toNat:=by simp [AE]
theorem IA {g:Geo} {a:An} {k:Nat} (h:k<g.an.toNat):(AE g a).getD k ⟨0, []⟩=⟨(k:Nat),CV a (k:Nat)⟩:=by
 rw [AE,Bg (d:=0) (by simpa using h),Ab,BM h];rfl
theorem QU (g:Geo) (s:Stt) (d:Dk) (a:An) (hg:Bq g=true) (ha:Bj g a=true) (h:DkOk d) (hl:∀ w∈AE g a,Ra d.cells.length w) :
  ACalls Tryz.prog false 87 [.bp 0 0, .ag (Ew a)] (Oz g s d) fun r H=>r = .tp [iv (if (d.putAll (AE g a)).2.2 then 0 else ((d.putAll (AE g a)).2.1:Nat)),iv (if (d.putAll (AE g a)).2.2 then 8 else 0)]/\H=bwG g s (d.putAll (AE g a)).1:=by
 obtain⟨g1,g2,g3,g4,g5⟩:=Aq.1 hg;have hlen:=Dc g a;refine zT tys_ok Tryz.func87 rfl rfl (Ag rfl) ?_;conv=>whnf
 refine zU Nat (fun k=>([(0, .bp 0 0),(3, .bp 4 0),(6, .v (.int .i64 (d.writes ((AE g a).take k)).2.1)),(19,iv g.an),(20,iv k)],b9 g s (d.writes ((AE g a).take k)).1 [.box 28 (Ew a)])) (fun k=>k<=(AE g a).length/\(d.writes ((AE g a).take k)).2.2=false/\(d.writes ((AE g a).take k)).2.1<=k) (fun k=>(AE g a).length - k) 0 ⟨Aj _,rfl,Ah _⟩
  (zR (s:= [0,1,2,3,4]) tA) ?_
 rintro k ⟨hk,hlv,hnk⟩;have hd:=GW h hl k;conv=>whnf
 refine A8 (fun h6=>?_) (fun h6=>?_) <;> (repeat rw [Ac] at h6) <;> conv=>whnf
 ·have hk':k<(AE g a).length:=by omega
  have hm:=hl _ (A7 (d:=(⟨0, []⟩:Wr)) hk');have hx:=JB hk' hlv;rw [IA (by omega)] at hx hm;generalize hX:(d.writes ((AE g a).take k)).1=X at hd hx |-
  generalize hN:(d.writes ((AE g a).take k)).2.1=N at hx hnk |-
  have hga:=MH g k hg (by omega);have hnc:=W4 g a k hg ha (by omega);have hc:=Tf g s X k (CV a k) hd.1 (by rw [hd.2];exact hm.1) hm.2;repeat' (refine zY ?_;conv=>whnf)
  refine z_ hga ?_;conv=>whnf
  apply zV (0) tys_ok mixed (.o [0,1,2,3,4,5,6,7,8,9,10,11] .fin) (by kernel_rfl);conv=>whnf
  refine z_ hnc ?_;conv=>whnf
  have hE:=IC X k (CV a k);generalize hQ:X.write k (CV a k)=Q at hc hx hE;obtain⟨D,e⟩:=Q;simp only at hx hE hc;refine ze9 [0,1,2,3] hc ?_;rintro _ _ ⟨rfl,rfl⟩;rcases hE with rfl | hE
  ·rw [if_pos rfl];conv=>whnf
   have hdd:(d.writes ((AE g a).take (k+1))).2.2=true:=by rw [hx];rfl
   have hdl:d.writes (AE g a)=d.writes ((AE g a).take (k+1)):=Le d hk' hdd;have hp:(d.putAll (AE g a)).1=D/\(d.putAll (AE g a)).2.2=true:=by
    rw [EC (by rw [hdl];exact hdd),hdl,hx];exact tA
   rw [hp.1,hp.2];exact⟨_, .tp [iv 0,iv 8],bwG g s D,fun _ _ h=>h,zI (zK (zy 1 3 (by decide) rfl rfl)) (s:= [0,1,2,3,5]) tA,rfl,rfl⟩
  ·rw [if_neg (by omega)];have h1:(d.writes ((AE g a).take (k+1))).1=D:=by rw [hx]
   have h2:(d.writes ((AE g a).take (k+1))).2.2=false:=by rw [hx];exact decide_eq_false (by omega)
   have h3:(d.writes ((AE g a).take (k+1))).2.1=N+if e=0 then 1 else 0:=by rw [hx]
   rcases hE with rfl | rfl
   all_goals
    conv=>whnf
    repeat' (refine zY ?_;conv=>whnf)
    refine⟨k+1,⟨hk',h2,by rw [h3];simp;omega⟩,by omega,?_⟩;rw [h1,h3]
   ·exact zR (s:= [0,1,2,3,4]) ⟨⟨rfl,rfl,rfl,rfl,AL (by omega),tv⟩,tA,rfl,rfl,rfl,rfl,rfl⟩
   ·exact zR (s:= [0,1,2,3,4]) ⟨⟨rfl,rfl,AL (by omega),rfl,AL (by omega),tv⟩,tA,rfl,rfl,rfl,rfl,rfl⟩
 ·have ek:k=(AE g a).length:=by omega
  subst ek;rw [As] at hlv hd hnk;rw [As];have hp:=Ef hlv;generalize (d.writes (AE g a)).1=X at hp hd |-
  generalize (d.writes (AE g a)).2.1=N at hp |-
  have hf:=J6 X hd.1.l hd.1.m (fun w hw=>(hd.1.w w hw).1);rw [hp];refine ze9 [1,2,3] hf ?_;rintro _ _ ⟨rfl,rfl⟩;by_cases hX:X.left=0
  ·simp only [hX,if_true];exact⟨_, .tp [iv 0,iv 8],bwG g s _,fun _ _ h=>h,zR (s:= [0,1,2,3,5]) tA,rfl,rfl⟩
  ·simp only [hX,if_false];exact⟨_, .tp [iv (N:Nat),iv 0],bwG g s _,fun _ _ h=>h,zR (s:= [0,1,2,3,5]) tA,rfl,rfl⟩
theorem J7 {g:Geo} {a:An} {n:Nat} (hg:Bq g=true) (ha:Bj g a=true) (hn:(n:Int)=Aw g):∀ w∈AE g a,Ra n w:=by
 obtain⟨g1,g2,g3,g4,g5⟩:=Aq.1 hg;have hc:=EH hg;intro w hw;simp only [AE,AP,AO] at hw;obtain⟨i,hi,rfl⟩:=hw;refine⟨⟨by show (0:Int)<=(i:Nat);omega,by show ((i:Nat):Int)<n;omega⟩,?_⟩;show (Bp (i:Nat) a.gen (L1 a)).length<=200;rw [Et];have:=K_ hg ha;omega
def Fc (g:Geo) (x:Gt) (addr:Int):Option An:=
 if x.err=0/\Di x.bytes=0/\CZ x.bytes=addr then
  match F8 g (C9 x.bytes) with
  | some a=>if a.gen=Cv x.bytes then some a else none
  | none=>none
 else none
theorem GP (e:Value):∀ (c:Ctx) (v:Value),Rd (.tp [.ag [iv 0,iv 0,iv 0,iv 0,iv 0, .v (.string ⟨#[]⟩), .v (.slice none 0 0)], .v e]) c v->Rd (.tp [.ag (Ew an0), .v e]) c v:=
 BX (m:= [.ag (Ew an0), .v e]) ⟨Be an0_sub,ri,tv⟩
theorem Rs (b:List UInt8):(C9 b).length<=b.length:=by simp [C9];omega
theorem ConvH.subBox {H:List AB} (k:Nat) {t:TypeId} {cs cs':List AV} (hk:H[k]? = some (.box t cs)) (h:SubL cs cs'):ConvH H (H.set k (.box t cs')):=fun _ _ c hs=>
 ⟨c,rfl,hs.recell hk rfl fun⟨g,xs,h1,h2,h3,h4⟩=>⟨g,xs,h1,h2,h.rdl h3,h4⟩,zJ c⟩
def zu:=@ConvH.subBox
def Qb (g:Geo) (l:List Gt) (st:Option (An × Nat)) (i:Nat):Option (An × Nat):=
 match Fc g (l.getD i ⟨0, []⟩) (i:Nat) with
 | none=>st
 | some b=>match st with
  | none=>some (b,i)
  | some (a,j)=>if a.gen<b.gen then some (b,i) else some (a,j)
def F9 (g:Geo) (l:List Gt) (k:Nat):Option (An × Nat):=(List.range k).foldl (Qb g l) none
def G_ (g:Geo) (l:List Gt):Option (An × Nat):=F9 g l l.length
theorem Jp (g:Geo) (l:List Gt) (k:Nat):F9 g l (k+1)=Qb g l (F9 g l k) k:=by rw [F9,Bm,Ci];rfl
def bk (p:Option (An × Nat)):An:=match p with | some (a,_)=>a | none=>an0
def bz (p:Option (An × Nat)):Nat:=match p with | some (_,i)=>i | none=>0
def SubLL:List (List AV)->List (List AV)->Prop
 | [], []=>True
 | a::r,b::s=>SubL a b/\SubLL r s
 | _,_=>False
theorem SubLL.get:∀ {es fs:List (List AV)} {i:Nat},SubLL es fs->i<es.length->SubL (es.getD i []) (fs.getD i [])
 | [],_,_,_,h=>by simp at h
 | a::r,b::s,0,h,_=>by simpa using h.1
 | a::r,b::s,i+1,h,hi=>by
  have:=SubLL.get (i:=i) h.2 (by simpa using hi);simpa using this
 | _::_, [],_,h,_=>h.elim
theorem PP {α:Type} {f:α->List AV} {d:α} {sz n:Nat} {es:List (List AV)} (l:List α) (hn:n=l.length) (he:n=es.length) (h:SubLL es (l.map f)) (c:Ctx) (u:Value) (hr:Rd (.sl sz n fun i=>es.getD i []) c u):Rd (.sl sz l.length fun i=>f (l.getD i d)) c u:=
 Rd.sub hn (fun i hi=>by
  have:=h.get (i:=i) (by omega);rwa [Bg (d:=d) (by omega)] at this) hr
theorem O6 {g:Geo} {l:List Tx} {epoch:Int} (hg:Bq g=true) (h:LogOk g l epoch) {copy:Int} (hc:copy=0\/copy=1) {s:Nat} (hs:(s:Int)<g.sl):Ep g ((GV g l epoch copy g.sl.toNat).getD s gz) copy (s:Nat)=some (Wg g l epoch (s:Nat)):=by
 have hin:(0:Int)<=(s:Nat)/\((s:Nat):Int)<g.sl:=by omega
 have e:(GV g l epoch copy g.sl.toNat).getD s gz=⟨0,Ca g (Wg g l epoch (s:Nat)) copy (s:Nat)⟩:=by
  unfold GV;rw [Bg (d:=0) (by rw [CM];omega)];rw [Ab,BM (by omega)];rfl
 rw [e];refine NA hg (h.ok s hin) ?_;rw [Iu,AI.2 (show 0<=((s:Nat):Int)/\((s:Nat):Int)<=g.sl - 1 by omega)];rcases hc with rfl | rfl <;> rfl
theorem K8 {g:Geo} {x:Gt} {copy s:Int} (h:¬(0<=s/\s<g.sl)):Ep g x copy s=none:=by
 refine Rw ?_;have:CK s 0 (g.sl - 1)=false:=by
  rw [<-BP];intro e;have:=AI.1 e;omega
 rw [Iu,this];simp
def Qt (a:An) (p q:Int->Option Rc) (slot seq at_ of_ left:Int):Rc × List Int × Int:=
 CH (p slot) (q slot) (ED (p slot) a seq at_ of_ left) (ED (q slot) a seq at_ of_ left)
def CJ (g:Geo) (a:An) (p q:Int->Option Rc) (pos seq left at_ of_:Int):Rc × Int × List Wr:=
 let s:=DZ g pos at_;let z:=Qt a p q s seq at_ of_ left
 (z.1,z.2.2,z.2.1.map fun c=>⟨By g c s,Ca g z.1 c s⟩)
def Gz (g:Geo) (a:An) (p q:Int->Option Rc) (pos seq left:Int):Int × Int × List Img × List Wr:=
 let z:=CJ g a p q pos seq left 0 0
 if z.2.1≠1 then (z.2.1,0, [], []) else
  let t:=BI (fun k=>CJ g a p q pos seq left k z.1.of_) (z.1.of_ - 1).toNat 1 z.1 [] z.2.2
  if t.1≠1 then (t.1,0, [], []) else (1,z.1.of_,t.2.1,t.2.2)
def FE (g:Geo) (a:An) (p q:Int->Option Rc):Nat->Int->Int->Int->List Tx->List Wr->Option (List Tx × List Wr × Int)
 | 0,_,seq,_,l,w=>some (l,w,seq)
 | f+1,pos,seq,left,l,w=>
  if 0<left/\seq<=4294967295 then
   let t:=Gz g a p q pos seq left
   if t.1=3 then none else if t.1≠1 then some (l,w,seq)
   else FE g a p q f ((pos+t.2.1).tmod g.sl) (seq+1) (left - t.2.1) (l ++ [⟨seq,pos,t.2.1,t.2.2.1⟩]) (w ++ t.2.2.2)
  else some (l,w,seq)
def N8 (g:Geo) (a:An) (p q:Int->Option Rc):List Tx × List Wr × Int:=U4 a (FE g a p q g.sl.toNat a.pos a.seq g.sl [] [])
def EA (g:Geo) (x:List Gt) (copy:Int):Int->Option Rc:=fun s=>Ep g (x.getD s.toNat gz) copy s
theorem S9 (g:Geo) (a:An) (x y:List Gt):∀ (f:Nat) (pos seq left:Int) (l:List Tx) (w:List Wr),Fv g a x y f pos seq left l w=FE g a (EA g x 0) (EA g y 1) f pos seq left l w
 | 0,_,_,_,_,_=>rfl
 | f+1,pos,seq,left,l,w=>by
  unfold Fv FE;have e:GF g a x y pos seq left=Gz g a (EA g x 0) (EA g y 1) pos seq left:=rfl;rw [e];simp only [S9 g a x y f]
theorem OG (g:Geo) (a:An) (x y:List Gt):E9 g a x y=N8 g a (EA g x 0) (EA g y 1):=by
 unfold E9 N8;rw [S9]
def Ia (g:Geo) (l:List Tx) (epoch:Int) (bad:Int->Bool):Int->Option Rc:=fun s=>if 0<=s/\s<g.sl then (if bad s then none else some (Wg g l epoch s)) else none
theorem SA {g:Geo} {l:List Tx} {epoch:Int} (hg:Bq g=true) (h:LogOk g l epoch) {copy:Int} (hc:copy=0\/copy=1):EA g (GV g l epoch copy g.sl.toNat) copy=Ia g l epoch fun _=>false:=by
 funext s;unfold EA Ia;by_cases hs:0<=s/\s<g.sl
 ·rw [if_pos hs,if_neg (Bool.false_ne_true)];obtain⟨k,rfl⟩:=Int.eq_ofNat_of_zero_le hs.1;rw [Ac];exact O6 hg h hc hs.2
 ·rw [if_neg hs];exact K8 hs
theorem RdL.split {c:Ctx}:∀ {l m:List AV} {xs:List Value},RdL (l ++ m) c xs->∃ a b,xs=a ++ b/\RdL l c a/\RdL m c b
 | [],m,xs,h=>⟨[],xs,rfl,by simp only [RdL],h⟩
 | x::l,m,xs,h=>by
  simp only [Bu,RdL] at h;obtain⟨y,ys,rfl,h1,h2⟩:=h;obtain⟨a,b,rfl,h3,h4⟩:=RdL.split h2;exact⟨y::a,b,rfl,by simp only [RdL];exact⟨y,a,rfl,h1,h3⟩,h4⟩
theorem SubLL.len:∀ {es fs:List (List AV)},SubLL es fs->es.length=fs.length
 | [], [],_=>rfl
 | _::_,_::_,h=>by simp [SubLL.len h.2]
 | [],_::_,h=>h.elim
 | _::_, [],h=>h.elim
theorem SubLL.flat:∀ {es fs:List (List AV)} {c:Ctx} {xs:List Value},SubLL es fs->RdL es.flatten c xs->RdL fs.flatten c xs
 | [], [],_,_,_,h=>h
 | a::r,b::s,c,xs,h,hr=>by
  rw [AM] at hr |-
  obtain⟨x1,x2,rfl,h1,h2⟩:=RdL.split hr;exact RdL.append (h.1.rdl h1) (SubLL.flat h.2 h2)
 | [],_::_,_,_,h,_=>h.elim
 | _::_, [],_,_,h,_=>h.elim
theorem SubLL.sz:∀ {es fs:List (List AV)} {sz:Nat},SubLL es fs->(∀ e∈es,e.length=sz)->∀ e∈fs,e.length=sz
 | [], [],_,_,_=>by simp
 | a::r,b::s,sz,h,hs=>by
  intro e he;rcases AU.1 he with rfl | he
  ·rw [<-h.1.len];exact hs a (by simp)
  ·exact SubLL.sz h.2 (fun e he=>hs e (Bd _ he)) e he
 | [],_::_,_,h,_=>h.elim
 | _::_, [],_,h,_=>h.elim
def ABSub:AB->AB->Prop
 | .row t sz es, .row t' sz' es'=>t=t'/\sz=sz'/\SubLL es es'
 | x,y=>x=y
def HSub:List AB->List AB->Prop
 | [], []=>True
 | x::r,y::s=>ABSub x y/\HSub r s
 | _,_=>False
theorem HSub.len:∀ {H H':List AB},HSub H H'->H.length=H'.length
 | [], [],_=>rfl
 | _::_,_::_,h=>by simp [HSub.len h.2]
 | [],_::_,h=>h.elim
 | _::_, [],h=>h.elim
theorem HSub.get:∀ {H H':List AB} {k:Nat} {y:AB},HSub H H'->H'[k]? = some y->∃ x,H[k]? = some x/\ABSub x y
 | [], [],k,y,_,h=>by simp at h
 | x::r,y::s,0,z,h,hz=>by
  simp at hz;subst hz;exact⟨x,by simp,h.1⟩
 | x::r,y::s,k+1,z,h,hz=>by
  obtain⟨w,h1,h2⟩:=HSub.get (k:=k) h.2 (by simpa using hz);exact⟨w,by simpa using h1,h2⟩
 | [],_::_,_,_,h,_=>h.elim
 | _::_, [],_,_,_,hz=>by simp at hz
theorem ABSub.live:∀ {x y:AB},ABSub x y->x.live=y.live:=by
 intro x y h;cases x <;> cases y <;> simp only [ABSub] at h <;> first | rfl | cases h
theorem ABSub.blk {c:Ctx} {k:Nat}:∀ {x y:AB},ABSub x y->BlkOk c k x->BlkOk c k y
 | .row t sz es, .row t' sz' es',h,hb=>by
  obtain⟨rfl,rfl,h⟩:=h;obtain⟨h1,h2,h3,xs,h4,h5,h6⟩:=hb;refine⟨h1.trans h.len,h2,h.sz h3,xs,?_,h.flat h5,h6⟩;rw [<-h.len];exact h4
 | .row _ _ _, .box _ _,h,_=>by cases h
 | .row _ _ _, .iter _ _,h,_=>by cases h
 | .row _ _ _, .dead,h,_=>by cases h
 | .row _ _ _, .rowo _ _ _ _,h,_=>by cases h
 | .rowo t sz es m,y,h,hb=>by
  have h:AB.rowo t sz es m=y:=h;subst h;exact hb
 | .box t cs,y,h,hb=>by
  have h:AB.box t cs=y:=h;subst h;exact hb
 | .iter a b,y,h,hb=>by
  have h:AB.iter a b=y:=h;subst h;exact hb
 | .dead,y,h,hb=>by
  have h:AB.dead=y:=h;subst h;exact hb
theorem HS.hsub {w0:Fl} {M0:Ms} {c:Ctx} {H H':List AB} (hs:HS w0 M0 c H) (h:HSub H H'):HS w0 M0 c H':=by
 refine⟨hs.low,hs.base,hs.dom.trans h.len,hs.foreign,hs.lt,fun k y hy=>?_,fun k y g hy hl ho=>?_,fun j k y z g hj hk hy hz ho ho'=>?_⟩
 ·obtain⟨x,h1,h2⟩:=h.get hy;exact h2.blk (hs.blk k x h1)
 ·obtain⟨x,h1,h2⟩:=h.get hy;exact hs.own k x g h1 (h2.live.trans hl) ho
 ·obtain⟨x1,h1,h2⟩:=h.get hj;obtain⟨x2,h3,h4⟩:=h.get hk;exact hs.dis j k x1 x2 g h1 h3 (h2.live.trans hy) (h4.live.trans hz) ho ho'
theorem ACalls.hsub {P:Program} {q:Bool} {f:FuncId} {args:List AV} {H:List AB} {k:AV->List AB->Prop} (H':List AB) (hs:HSub H H') (h:ACalls P q f args H' k):ACalls P q f args H k:=
 ⟨h.go,fun w0 M0 c us hs0 hr=>h.calls w0 M0 c us (hs0.hsub hs) hr⟩
theorem SubLL.refl:∀ l,SubLL l l
 | []=>trivial
 | _::l=>⟨SubL.refl _,SubLL.refl l⟩
theorem SubLL.set {a b:List AV} (h:SubL a b):∀ {l m:List (List AV)} (k:Nat),SubLL l m->SubLL (l.set k a) (m.set k b)
 | [], [],_,h=>h
 | _::_,_::_,0,h2=>⟨h,h2.2⟩
 | _::_,_::_,k+1,h2=>⟨h2.1,SubLL.set h k h2.2⟩
 | [],_::_,_,h=>h.elim
 | _::_, [],_,h=>h.elim
def ZH (g:Geo) (fill:UInt8) (i k:Nat):Img:=
 if (i+k) % 4=3 then ⟨((i+k:Nat):Int).tmod g.z,255,CY (Fm g)⟩ else ⟨((i+k:Nat):Int).tmod g.z,((i+2*k:Nat):Int).tmod (g.d+1) - 1, [fill,UInt8.ofNat i,UInt8.ofNat k,1,2,3,4,5]⟩
def ax (g:Geo) (a:An) (fill:UInt8) (i:Nat) (pos:Int) (n:Nat):Tx:=⟨a.seq+i,pos,n+1,(List.range n).map fun k=>ZH g fill i k⟩
theorem SubLL.app {e f:List AV} (h:SubL e f):∀ {a b:List (List AV)},SubLL a b->SubLL (a ++ [e]) (b ++ [f])
 | [], [],_=>⟨h,tv⟩
 | _::_,_::_,h2=>⟨h2.1,SubLL.app h h2.2⟩
 | [],_::_,h=>h.elim
 | _::_, [],h=>h.elim
end
end Go.Proofs.YtkolckdakddggaaGreatDoor.A
namespace Go.Proofs.YtkolckdakddggaaGreatDoor
section

def Zf (b:List UInt8) (k:Nat):List UInt8:=b.modify (k / 8) fun x=>x ^^^ UInt8.ofNat (2 ^ (k % 8))
theorem Pl (b:List UInt8) (k:Nat):(Zf b k).length=b.length:=List.length_modify _ _ _
def QB (p:Nat->Bool) (a:Nat) (b:List UInt8):Nat->List UInt8
 | 0=>b
 | i+1=>if p i&&decide (a+i<8*b.length) then Zf (QB p a b i) (a+i) else QB p a b i
theorem Pk (p:Nat->Bool) (a:Nat) (b:List UInt8) (i:Nat):(QB p a b i).length=b.length:=by
 induction i with
 | zero=>rfl
 | succ i ih=>unfold QB;split;rw [Pl,ih];exact ih
def fX (bs:Int):Nat:=if (bs % 4294967296).toNat % 2=0 then (bs % 4294967296).toNat+1 else (bs % 4294967296).toNat
def Ze (b:List UInt8) (bit bs:Int):List UInt8:=QB (fun i=>decide (fX bs / 2 ^ i % 2=1)) (bit % (8*(b.length:Int))).toNat b 32
theorem Pj (b:List UInt8) (bit bs:Int):(Ze b bit bs).length=b.length:=Pk _ _ _ _
end
end Go.Proofs.YtkolckdakddggaaGreatDoor
namespace Go.Proofs.YtkolckdakddggaaGreatDoor.A
section
open Go.RowKit
theorem Vx (x:UInt8) (z:Nat) (hz:z<256):IntKind.u8.wrap (BitVec.ofInt IntKind.u8.bits (x.toNat:Int) ^^^ BitVec.ofInt IntKind.u8.bits (z:Int)).toNat=((x ^^^ UInt8.ofNat z).toNat:Int):=by
 show IntKind.u8.wrap (BitVec.ofInt 8 (x.toNat:Int) ^^^ BitVec.ofInt 8 (z:Int)).toNat=((x ^^^ UInt8.ofNat z).toNat:Int);have hx:=x.toNat_lt;have h1:(BitVec.ofInt 8 (x.toNat:Int))=BitVec.ofNat 8 x.toNat:=BitVec.ofInt_natCast _ _;have h2:(BitVec.ofInt 8 (z:Int))=BitVec.ofNat 8 z:=BitVec.ofInt_natCast _ _;have h3:x.toNat ^^^ z<256:=Nat.xor_lt_two_pow (n:=8) hx hz;rw [h1,h2,BitVec.toNat_xor,BitVec.toNat_ofNat,BitVec.toNat_ofNat,Ed hx,Ed hz,UInt8.toNat_xor,BD hz,IntKind.wrap_u8];omega

structure TxIn (g:Geo) (a:An) (fill:UInt8) (i0:Nat) (l:List Tx):Prop where
 at_:∀ j,j<l.length->∃ pos n,l.getD j tz=ax g a fill (i0+j) pos n/\1<=n/\n<=5/\0<=pos/\pos<g.sl
theorem OB {x n:Int} (h0:0<=x) (h1:x<n):x.tmod n=x:=Int.tmod_eq_of_lt h0 h1
theorem S2 {x n:Int} (h0:n<=x) (h1:x<2*n) (hn:0<n):x.tmod n=x - n:=by
 rw [Bi (by omega),<-Int.sub_emod_right x n];exact Int.emod_eq_of_lt (by omega) (by omega)

def HU (g:Geo):List Tx->Int->Int->Prop
 | [],_,_=>True
 | t::r,seq,pos=>(t.seq=seq/\t.pos=pos/\t.n=t.images.length+1/\2<=t.n)/\HU g r (seq+1) ((pos+t.n).tmod g.sl)
def usedM:List Tx->Int
 | []=>0
 | t::r=>t.n+usedM r
def TW (g:Geo):List Tx->Int->Int
 | [],pos=>pos
 | t::r,pos=>TW g r ((pos+t.n).tmod g.sl)
theorem Ow (g:Geo):∀ (l:List Tx) (seq pos:Int) (t:Tx),HU g l seq pos->(t.seq=seq+l.length/\t.pos=TW g l pos/\t.n=t.images.length+1/\2<=t.n)->HU g (l ++ [t]) seq pos
 | [],seq,pos,t,_,h=>⟨⟨by have:=h.1;simpa using this,h.2.1,h.2.2.1,h.2.2.2⟩,tv⟩
 | x::r,seq,pos,t,h,ht=>by
  refine⟨h.1,Ow g r (seq+1) _ t h.2 ⟨?_,ht.2⟩⟩;rw [ht.1];simp only [Al];omega
theorem used_app:∀ (l:List Tx) (t:Tx),usedM (l ++ [t])=usedM l+t.n
 | [],t=>by simp [usedM]
 | x::r,t=>by simp only [Bu,usedM,used_app r t];omega
theorem SM (g:Geo):∀ (l:List Tx) (pos:Int) (t:Tx),TW g (l ++ [t]) pos=((TW g l pos)+t.n).tmod g.sl
 | [],pos,t=>rfl
 | x::r,pos,t=>by simp only [Bu,TW];exact SM g r _ t
theorem Lw {g:Geo} {a:An} {seq left n:Int} {look:Int->Rc × Int × List Wr} (hlook:∀ i,1<=i->i<n->(look i).2.1=1->EE g (look i).1=true/\DA (look i).1 a seq i n left=true):∀ (f:Nat) (k:Int) (r:Rc) (im:List Img) (w:List Wr),1<=k->k+f=n->EE g r=true->r.at_=k - 1->r.of_=n->r.kind≠0->(im.length:Int)=k - 1->(BI look f k r im w).1=1->((BI look f k r im w).2.1.length:Int)+1=n
 | 0,k,r,im,w,hk,hn,hr,ha,ho,h0,hi,_=>by
  have hk1:r.kind≠1:=by
   intro e;unfold EE EP at hr;simp only [Ae] at hr;have h2:=hr.2;rw [if_neg h0,if_pos e] at h2;simp only [Ae,AI] at h2;omega
  unfold BI;simp only [if_neg hk1];omega
 | f+1,k,r,im,w,hk,hn,hr,ha,ho,h0,hi,hG=>by
  have hk1:r.kind=1:=by
   unfold EE EP at hr;simp only [Ae] at hr;have h2:=hr.2;rw [if_neg h0] at h2;split at h2
   ·assumption
   ·split at h2
    ·simp only [Ae,beq_iff_eq] at h2;omega
    ·cases h2
  unfold BI at hG |-
  simp only [if_pos hk1] at hG |-
  by_cases hq:(look k).2.1≠1
  ·rw [if_pos hq] at hG;exact absurd hG hq
  ·rw [if_neg hq] at hG |-
   have hl:=hlook k hk (by omega) (by omega);have h1:=KF hl.1 hl.2;have h2:=(of_decide_eq_true hl.2).1;refine Lw hlook f (k+1) (look k).1 _ _ (by omega) (by omega) hl.1 (by omega) ?_ h2 ?_ hG
   ·exact h1.2.2.2.2.2 (by omega)
   ·rw [Ai];simp only [Al,AY];omega
theorem Tv {g:Geo} {a:An} {x y:List Gt} {pos seq left:Int} (hg:Bq g=true) (hp:0<=pos/\pos<g.sl) (h:(GF g a x y pos seq left).1=1):((GF g a x y pos seq left).2.2.1.length:Int)+1=(GF g a x y pos seq left).2.1:=by
 have r0:=H4 (a:=a) (x:=x) (y:=y) (seq:=seq) (left:=left) (of_:=0) (at_:=0) hg hp (by omega);unfold GF at h |-
 simp only at h |-
 rcases r0 with ⟨e1,⟨e2, -,e3⟩,e4⟩ | ⟨e1, -, -⟩
 ·rw [if_neg (by omega)] at h |-
  have hN:=KF e2 e3;have h0:=(of_decide_eq_true e3).1;by_cases hq:(BI (fun k=>D_ g a x y pos seq left k (D_ g a x y pos seq left 0 0).1.of_) ((D_ g a x y pos seq left 0 0).1.of_ - 1).toNat 1 (D_ g a x y pos seq left 0 0).1 [] (D_ g a x y pos seq left 0 0).2.2).1≠1
  ·rw [if_pos hq] at h;exact absurd h hq
  ·rw [if_neg hq];refine Lw (g:=g) (a:=a) (seq:=seq) (left:=left) (n:=(D_ g a x y pos seq left 0 0).1.of_) (look:=fun k=>D_ g a x y pos seq left k (D_ g a x y pos seq left 0 0).1.of_) (fun i h1 h2 h3=>?_) _ 1 _ [] _ (by omega) (by omega) e2 (by omega) rfl h0 (by simp) (by omega);rcases H4 (a:=a) (x:=x) (y:=y) (seq:=seq) (left:=left) (of_:=(D_ g a x y pos seq left 0 0).1.of_) (at_:=i) hg hp (by omega) with ⟨_,⟨q1,_,q2⟩,_⟩ | ⟨q,_⟩
   ·exact⟨q1,q2⟩
   ·omega
 ·rw [if_pos (by omega)] at h;simp only at h;omega
theorem Ll {g:Geo} {a:An} {x y:List Gt} (hg:Bq g=true):∀ (f:Nat) (pos seq left:Int) (l:List Tx) (w:List Wr) {l':List Tx} {w':List Wr} {seq':Int},HU g l a.seq a.pos->pos=TW g l a.pos->seq=a.seq+l.length->usedM l+left=g.sl->0<=left->(0<=pos/\pos<g.sl)->Fv g a x y f pos seq left l w=some (l',w',seq')->
  HU g l' a.seq a.pos/\seq'=a.seq+l'.length/\usedM l'<=g.sl
 | 0,pos,seq,left,l,w,l',w',seq',h1,h2,h3,h4,h5,h6,h=>by
  unfold Fv at h;injection h with h
  injection h with e1 h
  injection h with e2 e3
  subst e1;subst e3;exact⟨h1,h3,by omega⟩
 | f+1,pos,seq,left,l,w,l',w',seq',h1,h2,h3,h4,h5,h6,h=>by
  unfold Fv at h;have fin:some (l,w,seq)=some (l',w',seq')->HU g l' a.seq a.pos/\seq'=a.seq+l'.length/\usedM l'<=g.sl:=fun h=>by
   injection h with h
   injection h with e1 h
   injection h with e2 e3
   subst e1;subst e3;exact⟨h1,h3,by omega⟩
  by_cases hc:0<left/\seq<=4294967295
  ·rw [if_pos hc] at h;simp only at h;have tf:=Ji (a:=a) (x:=x) (y:=y) (seq:=seq) (left:=left) hg h6;have ti:=fun e=>Tv (a:=a) (x:=x) (y:=y) (seq:=seq) (left:=left) hg h6 e
   generalize GF g a x y pos seq left=q at tf ti h;obtain⟨how,n,im,ws⟩:=q;simp only at tf ti h;rcases tf with ⟨rfl,t1,t2⟩ | tf
   ·rw [if_neg (by decide),if_neg (by decide)] at h;have hi:=ti rfl;obtain⟨g1,g2,g3,g4,g5⟩:=Aq.1 hg;have hm:=Bh (pos+n) (show 0<g.sl by omega);have hm0:=Bw g.sl (show 0<=pos+n by omega);refine Ll hg f _ _ _ _ _ (Ow g l a.seq a.pos ⟨seq,pos,n,im⟩ h1 ⟨h3,h2,by simp only;omega,t1.1⟩) ?_ ?_ ?_ (by omega) ⟨hm0,hm⟩ h
    ·rw [SM,<-h2]
    ·rw [Ai];simp only [Al,AY];omega
    ·rw [used_app];simp only;omega
   ·by_cases h3':how=3
    ·rw [if_pos h3'] at h;cases h
    ·rw [if_neg h3',if_pos (by omega)] at h;exact fin h
  ·rw [if_neg hc] at h;exact fin h






section
variable {g:Geo} {a:An} {fill:UInt8} {sizes:List Int}
end
section
variable {g:Geo} {a:An} {fill:UInt8} {sizes:List Int}
end
theorem LS {p u v n:Int} (hp:0<=p/\p<n) (hu:0<=u/\u<n) (hv:0<=v/\v<n) (h:(p+u).tmod n=(p+v).tmod n):u=v:=by
 have h1:(p+u).tmod n=if p+u<n then p+u else p+u - n:=by
  split
  ·exact OB (by omega) (by omega)
  ·exact S2 (by omega) (by omega) (by omega)
 have h2:(p+v).tmod n=if p+v<n then p+v else p+v - n:=by
  split
  ·exact OB (by omega) (by omega)
  ·exact S2 (by omega) (by omega) (by omega)
 rw [h1,h2] at h;split at h <;> split at h <;> omega
section
variable {g:Geo} {a:An} {fill:UInt8} {sizes:List Int}
end
abbrev PQ:=(Int->Option Rc) × (Int->Option Rc)
def Vh (p:Int->Option Rc) (s:Int) (v:Option Rc):Int->Option Rc:=fun t=>if t=s then v else p t
def Je (g:Geo) (x:Wr) (z:PQ):PQ:=if x.addr - g.an<g.sl then (Vh z.1 (x.addr - g.an) (Ep g ⟨0,x.bytes⟩ 0 (x.addr - g.an)),z.2) else (z.1,Vh z.2 (x.addr - g.an - g.sl) (Ep g ⟨0,x.bytes⟩ 1 (x.addr - g.an - g.sl)))
def Fd (g:Geo):List Wr->PQ->PQ
 | [],z=>z
 | x::r,z=>Fd g r (Je g x z)
def Vq (g:Geo) (x:Wr):Int:=if x.addr - g.an<g.sl then x.addr - g.an else x.addr - g.an - g.sl
theorem He (g:Geo):∀ (l m:List Wr) (z:PQ),Fd g (l ++ m) z=Fd g m (Fd g l z)
 | [],_,_=>rfl
 | x::r,m,z=>He g r m (Je g x z)
def AtS (z z':PQ) (s:Int):Prop:=z.1 s=z'.1 s/\z.2 s=z'.2 s
theorem Qo {g:Geo} {x:Wr} {z z':PQ} {s:Int} (h:AtS z z' s):AtS (Je g x z) (Je g x z') s:=by
 unfold Je Vh;split
 ·refine⟨?_,h.2⟩;dsimp only;split
  ·rfl
  ·exact h.1
 ·refine⟨h.1,?_⟩;dsimp only;split
  ·rfl
  ·exact h.2
theorem Iy {g:Geo}:∀ (l:List Wr) {z z':PQ} {s:Int},AtS z z' s->AtS (Fd g l z) (Fd g l z') s
 | [],_,_,_,h=>h
 | _::r,_,_,_,h=>Iy r (Qo h)
theorem Uc {g:Geo} {x:Wr} {z:PQ} {s:Int} (h:Vq g x≠s):AtS (Je g x z) z s:=by
 unfold Vq at h;unfold Je Vh;split
 ·rename_i hc;rw [if_pos hc] at h;exact⟨if_neg (Ne.symm h),rfl⟩
 ·rename_i hc;rw [if_neg hc] at h;exact⟨rfl,if_neg (Ne.symm h)⟩
theorem AtS.trans {a b c:PQ} {s:Int} (h:AtS a b s) (k:AtS b c s):AtS a c s:=⟨h.1.trans k.1,h.2.trans k.2⟩
theorem AtS.symm {a b:PQ} {s:Int} (h:AtS a b s):AtS b a s:=⟨h.1.symm,h.2.symm⟩
theorem Hd {g:Geo}:∀ (l:List Wr) {z:PQ} {s:Int},(∀ x∈l,Vq g x≠s)->AtS (Fd g l z) z s
 | [],_,_,_=>tA
 | x::r,z,s,h=>(Hd r fun y hy=>h y (Bd _ hy)).trans (Uc (h x (by simp)))
theorem Jt {g:Geo} {c s:Int} (hc:c=0\/c=1) (hs:0<=s/\s<g.sl):Iu g c s=true:=by
 rw [Iu,AI.2 (show 0<=s/\s<=g.sl - 1 by omega)];rcases hc with rfl | rfl <;> rfl
theorem H9 {g:Geo} {c s:Int} {r:Rc} {z:PQ} (hg:Bq g=true) (hc:c=0\/c=1) (hs:0<=s/\s<g.sl) (hr:EE g r=true):Je g ⟨By g c s,Ca g r c s⟩ z=if c=0 then (Vh z.1 s (some r),z.2) else (z.1,Vh z.2 s (some r)):=by
 have h:=NA hg hr (Jt hc hs);unfold Je By;rcases hc with rfl | rfl
 ·have e:g.an+0*g.sl+s - g.an=s:=by omega
  dsimp only;rw [e,if_pos hs.2,if_pos rfl,h]
 ·have e:g.an+1*g.sl+s - g.an=s+g.sl:=by omega
  dsimp only;rw [e,if_neg (by omega),if_neg (by decide),show s+g.sl - g.sl=s by omega,h]
theorem Vp {g:Geo} {c s:Int} {b:List UInt8} (hc:c=0\/c=1) (hs:0<=s/\s<g.sl):Vq g ⟨By g c s,b⟩=s:=by
 unfold Vq By;rcases hc with rfl | rfl
 ·dsimp only;rw [if_pos (by omega)];omega
 ·dsimp only;rw [if_neg (by omega)];omega
theorem Wf {g:Geo} {a:An} {p q:Int->Option Rc} {z':PQ} {pos seq left at_ of_:Int} (hg:Bq g=true) (hok:∀ s r,p s=some r\/q s=some r->EE g r=true) (hs:0<=DZ g pos at_/\DZ g pos at_<g.sl) (h:(CJ g a p q pos seq left at_ of_).2.1=1) (hz:AtS z' (Fd g (CJ g a p q pos seq left at_ of_).2.2 (p,q)) (DZ g pos at_)):CJ g a z'.1 z'.2 pos seq left at_ of_=((CJ g a p q pos seq left at_ of_).1,1, []):=by
 unfold CJ Qt at h hz |-
 dsimp only at h hz |-
 generalize DZ g pos at_=s at h hz hs |-
 cases hp:p s with
 | none=>
  cases hq:q s with
  | none=>rw [hp,hq] at h;simp [ED,CH] at h
  | some r=>
   rw [hp,hq] at h hz;have ho:DA r a seq at_ of_ left=true:=by
    cases hb:DA r a seq at_ of_ left with
    | true=>rfl
    | false=>simp [ED,hb,CH] at h
   simp [ED,ho,CH,Fd] at hz;rw [H9 hg (.inl rfl) hs (hok s r (.inr hq)),if_pos rfl] at hz;obtain⟨h1,h2⟩:=hz;dsimp only [Vh] at h1 h2;rw [if_pos rfl] at h1;rw [h1,h2,hq];simp [ED,ho,CH]
 | some r1=>
  cases hq:q s with
  | none=>
   rw [hp,hq] at h hz;have ho:DA r1 a seq at_ of_ left=true:=by
    cases hb:DA r1 a seq at_ of_ left with
    | true=>rfl
    | false=>simp [ED,hb,CH] at h
   simp [ED,ho,CH,Fd] at hz;rw [H9 hg (.inr rfl) hs (hok s r1 (.inl hp)),if_neg (by decide)] at hz;obtain⟨h1,h2⟩:=hz;dsimp only [Vh] at h1 h2;rw [if_pos rfl] at h2;rw [h1,h2,hp];simp [ED,ho,CH]
  | some r2=>
   rw [hp,hq] at h hz;cases ho1:DA r1 a seq at_ of_ left with
   | true=>
    cases ho2:DA r2 a seq at_ of_ left with
    | true=>
     simp [ED,ho1,ho2,CH,Fd] at hz;obtain⟨h1,h2⟩:=hz;dsimp only at h1 h2;rw [h1,h2,hp,hq];simp [ED,ho1,ho2,CH]
    | false=>
     simp [ED,ho1,ho2,CH,Fd] at hz;rw [H9 hg (.inr rfl) hs (hok s r1 (.inl hp)),if_neg (by decide)] at hz;obtain⟨h1,h2⟩:=hz;dsimp only [Vh] at h1 h2;rw [if_pos rfl] at h2;rw [h1,h2,hp];simp [ED,ho1,ho2,CH]
   | false=>
    cases ho2:DA r2 a seq at_ of_ left with
    | true=>
     simp [ED,ho1,ho2,CH,Fd] at hz;rw [H9 hg (.inl rfl) hs (hok s r2 (.inr hq)),if_pos rfl] at hz;obtain⟨h1,h2⟩:=hz;dsimp only [Vh] at h1 h2;rw [if_pos rfl] at h1;rw [h1,h2,hq];simp [ED,ho1,ho2,CH]
    | false=>simp [ED,ho1,ho2,CH] at h
theorem Jn {g:Geo} {a:An} {p q:Int->Option Rc} {pos seq left at_ of_:Int} (hok:∀ s r,p s=some r\/q s=some r->EE g r=true) (h:(CJ g a p q pos seq left at_ of_).2.1=1):EE g (CJ g a p q pos seq left at_ of_).1=true/\DA (CJ g a p q pos seq left at_ of_).1 a seq at_ of_ left=true:=by
 unfold CJ Qt at h |-
 dsimp only at h |-
 generalize DZ g pos at_=s at h |-
 cases hp:p s with
 | none=>
  cases hq:q s with
  | none=>rw [hp,hq] at h;simp [ED,CH] at h
  | some r=>
   rw [hp,hq] at h;cases hb:DA r a seq at_ of_ left with
   | true=>simp [ED,hb,CH,hok s r (.inr hq)]
   | false=>simp [ED,hb,CH] at h
 | some r1=>
  cases hq:q s with
  | none=>
   rw [hp,hq] at h;cases hb:DA r1 a seq at_ of_ left with
   | true=>simp [ED,hb,CH,hok s r1 (.inl hp)]
   | false=>simp [ED,hb,CH] at h
  | some r2=>
   rw [hp,hq] at h;cases ho1:DA r1 a seq at_ of_ left with
   | true=>cases ho2:DA r2 a seq at_ of_ left <;> simp [ED,ho1,ho2,CH,hok s r1 (.inl hp)]
   | false=>
    cases ho2:DA r2 a seq at_ of_ left with
    | true=>simp [ED,ho1,ho2,CH,hok s r2 (.inr hq)]
    | false=>simp [ED,ho1,ho2,CH] at h
theorem W8 (x y:Option Rc) (b1 b2:Bool):∀ c∈(CH x y b1 b2).2.1,c=0\/c=1:=by
 unfold CH;cases b1 <;> cases b2
 ·by_cases h:(x.isSome || y.isSome)=true <;> simp [h]
 ·simp
 ·simp
 ·simp
theorem Yk {g:Geo} {a:An} {p q:Int->Option Rc} {pos seq left at_ of_:Int} (hs:0<=DZ g pos at_/\DZ g pos at_<g.sl):∀ x∈(CJ g a p q pos seq left at_ of_).2.2,Vq g x=DZ g pos at_:=by
 intro x hx;unfold CJ at hx;obtain⟨c,hc,rfl⟩:=AP.1 hx;exact Vp (W8 _ _ _ _ c hc) hs
theorem RT (x y:Option Rc) (b1 b2:Bool) (h:(CH x y b1 b2).2.2≠1):(CH x y b1 b2).2.1=[]:=by
 unfold CH at h |-
 cases b1 <;> cases b2
 ·by_cases h:(x.isSome || y.isSome)=true <;> simp [h]
 ·simp at h
 ·simp at h
 ·simp at h
theorem Cg {g:Geo} {r:Rc} (h:EE g r=true) (copy slot:Int):(Ca g r copy slot).length<=200:=by
 have:=EZ h;rw [Ca,Et];omega
theorem RD {g:Geo} {a:An} {p q:Int->Option Rc} {pos seq left at_ of_:Int} (hok:∀ s r,p s=some r\/q s=some r->EE g r=true):∀ x∈(CJ g a p q pos seq left at_ of_).2.2,x.bytes.length<=200:=by
 intro x hx;by_cases h:(CJ g a p q pos seq left at_ of_).2.1=1
 ·have hr:=(Jn hok h).1;unfold CJ at hx hr;obtain⟨c,hc,rfl⟩:=AP.1 hx;exact Cg hr _ _
 ·unfold CJ Qt at hx h;dsimp only at hx h;rw [RT _ _ _ _ h] at hx;simp at hx
theorem N6 {g:Geo} {p0 U k:Int} (hg:Bq g=true) (hp:0<=p0/\p0<g.sl) (hU:0<=U) (hk:0<=k/\k<=1000):DZ g ((p0+U).tmod g.sl) k=(p0+(U+k)).tmod g.sl:=by
 obtain⟨h1,h2,h3,h4,h5⟩:=Aq.1 hg;unfold DZ;have q1:=Bw g.sl (show 0<=p0+U by omega);have q2:=Bh (p0+U) (show 0<g.sl by omega);rw [show IntKind.i64.wrap ((p0+U).tmod g.sl+k)=(p0+U).tmod g.sl+k by rw [IntKind.wrap_i64];omega];rw [Bi (show 0<=p0+U by omega)] at q1 |-
 rw [Bi (by omega),Bi (by omega),Int.emod_add_emod,Int.add_assoc]
theorem Lu {look:Int->Rc × Int × List Wr} {f:Nat} {k:Int} {r:Rc} {im:List Img} {w:List Wr} (h:(look k).2.1=1):BI look (f+1) k r im w=BI look f (k+1) (look k).1 (if r.kind=1 then im ++ [r.img] else im) (w ++ (look k).2.2):=by
 conv=>lhs;unfold BI
 dsimp only;rw [if_neg (not_not_intro h)]
theorem Q6 {look:Int->Rc × Int × List Wr} {f:Nat} {k:Int} {r:Rc} {im:List Img} {w:List Wr} (h:(look k).2.1≠1):BI look (f+1) k r im w=((look k).2.1, [], []):=by
 conv=>lhs;unfold BI
 dsimp only;rw [if_pos h]
theorem ID {g:Geo} {a:An} {p q:Int->Option Rc} {pos seq left:Int} (h:(CJ g a p q pos seq left 0 0).2.1=1):Gz g a p q pos seq left=(let t:=BI (fun k=>CJ g a p q pos seq left k (CJ g a p q pos seq left 0 0).1.of_) ((CJ g a p q pos seq left 0 0).1.of_ - 1).toNat 1 (CJ g a p q pos seq left 0 0).1 [] (CJ g a p q pos seq left 0 0).2.2
  if t.1≠1 then (t.1,0, [], []) else (1,(CJ g a p q pos seq left 0 0).1.of_,t.2.1,t.2.2)):=by
 conv=>lhs;unfold Gz
 dsimp only;rw [if_neg (not_not_intro h)]
theorem K1 {g:Geo} {a:An} {p q:Int->Option Rc} {pos seq left:Int} (h:(CJ g a p q pos seq left 0 0).2.1≠1):Gz g a p q pos seq left=((CJ g a p q pos seq left 0 0).2.1,0, [], []):=by
 conv=>lhs;unfold Gz
 dsimp only;rw [if_pos h]
theorem I7 {look look':Int->Rc × Int × List Wr}:∀ (f:Nat) (k:Int) (r:Rc) (im:List Img) (w w0:List Wr),(∀ i,k<=i->i<k+f->(look i).2.1=1->look' i=((look i).1,1, []))->(BI look f k r im w).1=1->
  BI look' f k r im w0=(1,(BI look f k r im w).2.1,w0)/\(BI look f k r im w).2.2=w ++ (List.range f).flatMap (fun j=>(look (k+(j:Nat))).2.2)/\∀ i,k<=i->i<k+f->(look i).2.1=1
 | 0,k,r,im,w,w0,_,_=>⟨rfl,by simp [BI],fun i h1 h2=>by omega⟩
 | f+1,k,r,im,w,w0,hl,h=>by
  by_cases hq:(look k).2.1=1
  ·have e:=hl k (by omega) (by omega) hq;rw [Lu hq] at h |-
   rw [Lu (show (look' k).2.1=1 by rw [e]),e];dsimp only;obtain⟨i1,i2,i3⟩:=I7 f (k+1) (look k).1 (if r.kind=1 then im ++ [r.img] else im) (w ++ (look k).2.2) (w0 ++ []) (fun i h1 h2=>hl i (by omega) (by omega)) h;refine⟨?_,?_,fun i h1 h2=>?_⟩
   ·rw [i1,AK]
   ·rw [i2,List.range_succ_eq_map,List.flatMap_cons,List.flatMap_map,A6];congr 1;congr 1
    ·rw [show k+((0:Nat):Int)=k by omega]
    ·congr 1;funext j;rw [show k+1+(j:Int)=k+((j.succ:Nat):Int) by omega]
   ·by_cases ei:i=k
    ·rw [ei];exact hq
    ·exact i3 i (by omega) (by omega)
  ·rw [Q6 hq] at h;exact absurd h hq
theorem Kj {look look':Int->Rc × Int × List Wr}:∀ (f:Nat) (k:Int) (r:Rc) (im:List Img) (w:List Wr),(∀ i,k<=i->i<k+f->look' i=look i)->BI look' f k r im w=BI look f k r im w
 | 0,_,_,_,_,_=>rfl
 | f+1,k,r,im,w,hl=>by
  unfold BI;dsimp only;rw [hl k (by omega) (by omega),Kj f (k+1) (look k).1 _ _ (fun i h1 h2=>hl i (by omega) (by omega))]
theorem NR {g:Geo} {W:Nat->List Wr} {z:PQ} {s:Int} {k:Nat}:∀ n,k<n->(∀ j,j<n->j≠k->∀ x∈W j,Vq g x≠s)->AtS (Fd g ((List.range n).flatMap W) z) (Fd g (W k) z) s
 | 0,h,_=>by omega
 | n+1,hk,h=>by
  rw [Bm,List.flatMap_append,He];simp only [List.flatMap_cons,List.flatMap_nil,AK];by_cases e:k=n
  ·subst e;refine Iy (W k) (Hd _ fun x hx=>?_);obtain⟨j,hj,hx⟩:=List.mem_flatMap.1 hx;have hj:=AO.1 hj;exact h j (by omega) (by omega) x hx
  ·exact(Hd (W n) (h n (by omega) (Ne.symm e))).trans (NR n (by omega) fun j hj hne=>h j (by omega) hne)
def XL (g:Geo) (p0 U:Int) (z z':PQ):Prop:=∀ u,U<=u->u<g.sl->AtS z z' ((p0+u).tmod g.sl)
section
variable {g:Geo} {a:An} {p q:Int->Option Rc} {p0:Int}
theorem TJ {z':PQ} {pos seq left at_ of_:Int} (h:AtS z' (p,q) (DZ g pos at_)):CJ g a z'.1 z'.2 pos seq left at_ of_=CJ g a p q pos seq left at_ of_:=by
 unfold CJ Qt;dsimp only;rw [h.1,h.2]
theorem Tu {z':PQ} {U seq left:Int} (hg:Bq g=true) (hok:∀ s r,p s=some r\/q s=some r->EE g r=true) (hp:0<=p0/\p0<g.sl) (hU:0<=U/\U+left=g.sl/\0<left) (h:XL g p0 U z' (p,q)):Gz g a z'.1 z'.2 ((p0+U).tmod g.sl) seq left=Gz g a p q ((p0+U).tmod g.sl) seq left:=by
 obtain⟨h1,h2,h3,h4,h5⟩:=Aq.1 hg;have hr:∀ (k of_:Int),0<=k->U+k<g.sl->CJ g a z'.1 z'.2 ((p0+U).tmod g.sl) seq left k of_=CJ g a p q ((p0+U).tmod g.sl) seq left k of_:=fun k of_ hk hk2=>TJ (by rw [N6 hg hp hU.1 (by omega)];exact h _ (by omega) hk2)
 by_cases h0:(CJ g a p q ((p0+U).tmod g.sl) seq left 0 0).2.1=1
 ·rw [ID h0,ID (by rw [hr 0 0 (by omega) (by omega)];exact h0),hr 0 0 (by omega) (by omega)];obtain⟨f1,f2⟩:=Jn hok h0;have hN:=KF f1 f2;have hlft:=hN.2.2.2.2.1 rfl;rw [Kj (look:=fun k=>CJ g a p q ((p0+U).tmod g.sl) seq left k (CJ g a p q ((p0+U).tmod g.sl) seq left 0 0).1.of_) _ _ _ _ _ (fun i h1 h2=>hr i _ (by omega) (by omega))]
 ·rw [K1 h0,K1 (by rw [hr 0 0 (by omega) (by omega)];exact h0),hr 0 0 (by omega) (by omega)]
theorem V0 {U seq left:Int} (hg:Bq g=true) (hok:∀ s r,p s=some r\/q s=some r->EE g r=true) (hp:0<=p0/\p0<g.sl) (hU:0<=U/\U+left=g.sl) (h:(Gz g a p q ((p0+U).tmod g.sl) seq left).1=1) :
  (2<=(Gz g a p q ((p0+U).tmod g.sl) seq left).2.1/\(Gz g a p q ((p0+U).tmod g.sl) seq left).2.1<=left)/\
  (∀ x∈(Gz g a p q ((p0+U).tmod g.sl) seq left).2.2.2,∃ u,(U<=u/\u<U+(Gz g a p q ((p0+U).tmod g.sl) seq left).2.1)/\Vq g x=(p0+u).tmod g.sl/\x.bytes.length<=200)/\
  ∀ z':PQ,(∀ u,U<=u->u<U+(Gz g a p q ((p0+U).tmod g.sl) seq left).2.1->AtS z' (Fd g (Gz g a p q ((p0+U).tmod g.sl) seq left).2.2.2 (p,q)) ((p0+u).tmod g.sl))->
   Gz g a z'.1 z'.2 ((p0+U).tmod g.sl) seq left=(1,(Gz g a p q ((p0+U).tmod g.sl) seq left).2.1,(Gz g a p q ((p0+U).tmod g.sl) seq left).2.2.1, []):=by
 obtain⟨h1,h2,h3,h4,h5⟩:=Aq.1 hg;by_cases h0:(CJ g a p q ((p0+U).tmod g.sl) seq left 0 0).2.1=1
 ·obtain⟨f1,f2⟩:=Jn hok h0;have hN:=KF f1 f2;have hlft:=hN.2.2.2.2.1 rfl;obtain⟨of_,hof⟩:∃ n:Nat,(CJ g a p q ((p0+U).tmod g.sl) seq left 0 0).1.of_=(n:Int)+1:=⟨((CJ g a p q ((p0+U).tmod g.sl) seq left 0 0).1.of_ - 1).toNat,by omega⟩;have et:((of_:Int)+1 - 1).toNat=of_:=by omega
  have hsl:∀ k:Int,0<=k->k<=of_->DZ g ((p0+U).tmod g.sl) k=(p0+(U+k)).tmod g.sl/\0<=DZ g ((p0+U).tmod g.sl) k/\DZ g ((p0+U).tmod g.sl) k<g.sl:=fun k hk hk2=>by
   have e:=N6 hg hp hU.1 (k:=k) (by omega);rw [e];exact⟨rfl,Bw g.sl (by omega),Bh _ (by omega)⟩
  rw [ID h0,hof,et] at h |-
  dsimp only at h |-
  by_cases hG:(BI (fun k=>CJ g a p q ((p0+U).tmod g.sl) seq left k ((of_:Int)+1)) of_ 1 (CJ g a p q ((p0+U).tmod g.sl) seq left 0 0).1 [] (CJ g a p q ((p0+U).tmod g.sl) seq left 0 0).2.2).1=1
  ·rw [if_neg (not_not_intro hG)];dsimp only;obtain⟨-,g2,g3⟩:=I7 (look':=fun i=>((CJ g a p q ((p0+U).tmod g.sl) seq left i ((of_:Int)+1)).1,1, [])) of_ 1 (CJ g a p q ((p0+U).tmod g.sl) seq left 0 0).1 [] (CJ g a p q ((p0+U).tmod g.sl) seq left 0 0).2.2 [] (fun i _ _ _=>rfl) hG
   -- what is to be written,record by record
   have eW:(BI (fun k=>CJ g a p q ((p0+U).tmod g.sl) seq left k ((of_:Int)+1)) of_ 1 (CJ g a p q ((p0+U).tmod g.sl) seq left 0 0).1 [] (CJ g a p q ((p0+U).tmod g.sl) seq left 0 0).2.2).2.2=(List.range (of_+1)).flatMap fun j=>(CJ g a p q ((p0+U).tmod g.sl) seq left (j:Nat) (if j=0 then 0 else (of_:Int)+1)).2.2:=by
    rw [g2,List.range_succ_eq_map,List.flatMap_cons,List.flatMap_map];congr 1;congr 1;funext j;rw [if_neg (Nat.succ_ne_zero j),show 1+(j:Int)=((j.succ:Nat):Int) by omega]
   have hwr:∀ j:Nat,j<of_+1->∀ x∈(CJ g a p q ((p0+U).tmod g.sl) seq left (j:Nat) (if j=0 then 0 else (of_:Int)+1)).2.2,Vq g x=(p0+(U+j)).tmod g.sl:=fun j hj x hx=>by
    obtain⟨e1,e2⟩:=hsl j (by omega) (by omega);rw [Yk e2 x hx,e1]
   refine⟨⟨by omega,by omega⟩,fun x hx=>?_,fun z' hz=>?_⟩
   ·rw [eW] at hx;obtain⟨j,hj,hx⟩:=List.mem_flatMap.1 hx;have hj:=AO.1 hj;exact⟨U+j,by omega,hwr j hj x hx,RD hok x hx⟩
   ·rw [eW] at hz;have hrec:∀ k:Nat,k<of_+1->(CJ g a p q ((p0+U).tmod g.sl) seq left (k:Nat) (if k=0 then 0 else (of_:Int)+1)).2.1=1->CJ g a z'.1 z'.2 ((p0+U).tmod g.sl) seq left (k:Nat) (if k=0 then 0 else (of_:Int)+1)=((CJ g a p q ((p0+U).tmod g.sl) seq left (k:Nat) (if k=0 then 0 else (of_:Int)+1)).1,1, []):=fun k hk hf=>by
     obtain⟨e1,e2⟩:=hsl k (by omega) (by omega);refine Wf hg hok e2 hf ?_;rw [e1];refine(hz (U+k) (by omega) (by omega)).trans ?_;refine NR (W:=fun j=>(CJ g a p q ((p0+U).tmod g.sl) seq left (j:Nat) (if j=0 then 0 else (of_:Int)+1)).2.2) (k:=k) _ hk fun j hj hne x hx e=>?_
     rw [hwr j hj x hx] at e;have:=LS hp (by omega) (by omega) e;omega
    have r0:=hrec 0 (by omega) h0;rw [if_pos rfl] at r0;have r0':CJ g a z'.1 z'.2 ((p0+U).tmod g.sl) seq left 0 0=((CJ g a p q ((p0+U).tmod g.sl) seq left 0 0).1,1, []):=r0;rw [ID (by rw [r0']),r0'];dsimp only;rw [hof,et];obtain⟨g4, -, -⟩:=I7 (look:=fun k=>CJ g a p q ((p0+U).tmod g.sl) seq left k ((of_:Int)+1)) (look':=fun k=>CJ g a z'.1 z'.2 ((p0+U).tmod g.sl) seq left k ((of_:Int)+1)) of_ 1 (CJ g a p q ((p0+U).tmod g.sl) seq left 0 0).1 [] (CJ g a p q ((p0+U).tmod g.sl) seq left 0 0).2.2 [] (fun i i1 i2 hf=>by
     obtain⟨k,rfl⟩:=Int.eq_ofNat_of_zero_le (show 0<=i by omega);have:=hrec k (by omega);rw [if_neg (by omega)] at this;exact this hf) hG
    rw [g4];dsimp only;rw [if_neg (fun h=>h rfl)]
  ·rw [if_pos hG] at h;exact absurd h hG
 ·rw [K1 h0] at h;exact absurd h h0
theorem N7 (hg:Bq g=true) (hok:∀ s r,p s=some r\/q s=some r->EE g r=true) (hp:0<=p0/\p0<g.sl):∀ (f:Nat) (U seq left:Int) (l:List Tx) (w:List Wr) {l':List Tx} {w':List Wr} {seq':Int},0<=U->U+left=g.sl->FE g a p q f ((p0+U).tmod g.sl) seq left l w=some (l',w',seq')->
  ∃ wr,w'=w ++ wr/\(∀ x∈wr,∃ u,(U<=u/\u<g.sl)/\Vq g x=(p0+u).tmod g.sl/\x.bytes.length<=200)/\∀ z':PQ,XL g p0 U z' (Fd g wr (p,q))->∀ w0,FE g a z'.1 z'.2 f ((p0+U).tmod g.sl) seq left l w0=some (l',w0,seq')
 | 0,U,seq,left,l,w,l',w',seq',_,_,h=>by
  unfold FE at h;injection h with h
  injection h with e1 h
  injection h with e2 e3
  subst e1 e2 e3;exact⟨[],by simp,by simp,fun _ _ _=>rfl⟩
 | f+1,U,seq,left,l,w,l',w',seq',hU,hl,h=>by
  obtain⟨h1,h2,h3,h4,h5⟩:=Aq.1 hg;unfold FE at h;by_cases hc:0<left/\seq<=4294967295
  ·rw [if_pos hc] at h;dsimp only at h;by_cases t3:(Gz g a p q ((p0+U).tmod g.sl) seq left).1=3
   ·rw [if_pos t3] at h;cases h
   ·rw [if_neg t3] at h;by_cases t1:(Gz g a p q ((p0+U).tmod g.sl) seq left).1=1
    ·rw [if_neg (fun h=>h t1)] at h;obtain⟨⟨n1,n2⟩,n3,n4⟩:=V0 hg hok hp ⟨hU,hl⟩ t1;generalize Gz g a p q ((p0+U).tmod g.sl) seq left=T at h n1 n2 n3 n4;obtain⟨how,n,im,tw⟩:=T;dsimp only at h n1 n2 n3 n4;have ep:((p0+U).tmod g.sl+n).tmod g.sl=(p0+(U+n)).tmod g.sl:=by
      rw [Bi (show 0<=p0+U by omega)];have q1:=Int.emod_nonneg (p0+U) (show g.sl≠0 by omega);rw [Bi (by omega),Bi (by omega),Int.emod_add_emod,Int.add_assoc]
     rw [ep] at h;obtain⟨wr,i1,i2,i3⟩:=N7 hg hok hp f (U+n) (seq+1) (left - n) _ _ (by omega) (by omega) h;refine⟨tw ++ wr,by rw [i1,A6],fun x hx=>?_,fun z' hz w0=>?_⟩
     ·rcases A5.1 hx with hx | hx
      ·obtain⟨u,u1,u2⟩:=n3 x hx;exact⟨u,by omega,u2⟩
      ·obtain⟨u,u1,u2⟩:=i2 x hx;exact⟨u,by omega,u2⟩
     ·unfold XL at hz;have ht:=n4 z' fun u u1 u2=>by
       have:=hz u u1 (by omega);rw [He] at this;refine this.trans (Hd wr fun x hx e=>?_);obtain⟨v,v1,v2, -⟩:=i2 x hx;rw [v2] at e;have:=LS hp (by omega) (by omega) e;omega
      unfold FE;rw [if_pos hc,ht];dsimp only;rw [if_neg (by decide),if_neg (fun h=>h rfl),ep];have:=i3 z' (fun u u1 u2=>by
       have:=hz u (by omega) u2;rw [He] at this;refine this.trans (Iy wr (Hd tw fun x hx e=>?_));obtain⟨v,v1,v2, -⟩:=n3 x hx;rw [v2] at e;have:=LS hp (by omega) (by omega) e;omega) (w0 ++ [])
      rw [this,AK]
    ·rw [if_pos t1] at h;injection h with h
     injection h with e1 h
     injection h with e2 e3
     subst e1 e2 e3;refine⟨[],by simp,by simp,fun z' hz w0=>?_⟩;have ht:=Tu (a:=a) (seq:=seq) hg hok hp ⟨hU,hl,hc.1⟩ hz;unfold FE;rw [if_pos hc,ht];dsimp only;rw [if_neg t3,if_pos t1]
  ·rw [if_neg hc] at h;injection h with h
   injection h with e1 h
   injection h with e2 e3
   subst e1 e2 e3;refine⟨[],by simp,by simp,fun z' hz w0=>?_⟩;unfold FE;rw [if_neg hc]
end
theorem GJ (l:List Int) (hl:l.length<=1000000):Fn Tryz.prog 137 [iA l] fun r=>r=iA l:=by
 refine zS Tryz.func137 rfl ?_;refine⟨by omega,?_⟩;refine⟨by simp,?_⟩;exact⟨iA l,fun c v h=>zC rfl (fun i hi=>Fa hi) h,rfl⟩
theorem Nn (a:An) (hh:a.homes.length<=1000) (hp:∀ h∈a.homes,h.places.length<=1000000):Fn Tryz.prog 135 [.ag (Ew a)] fun r=>r = .ag (Ew a):=by
 refine zS Tryz.func135 rfl ?_;conv=>whnf
 refine zM Nat (fun k=>([(1, .bp 0 0),(2, .bp 1 0),(3,Ig a.homes),(4,iv k)], [.box 28 [iv a.gen,iv a.epoch,iv a.pos,iv a.seq,iv a.last, .v (.string a.label), .ow 2 k], .box 28 [iv 0,iv 0,iv 0,iv 0,iv 0, .v (.string ⟨#[]⟩), .v (.slice none 0 0)], .row 53 3 ((a.homes.take k).map DU)])) (fun k=>k<=a.homes.length) (fun k=>a.homes.length - k) 0 (Aj _) ⟨[(1000006,53,3)],tA,tA,tA,rfl,rfl,rfl⟩ ?_;intro k hk;conv=>whnf
 refine A8 (fun c1=>?_) (fun c1=>?_) <;> (repeat rw [Ac] at c1) <;> conv=>whnf
 ·have ti:=GJ (a.homes.getD k ⟨[],0,0⟩).places (hp _ (A7 c1));refine z7 tys_ok mixed [0,1,2,3,4,5,6,8,9,10,11,12,13,14,15,16,17,7,18,19,20,21,22] (by kernel_rfl) ?_;conv=>whnf
  repeat' (first | (refine zY ?_;conv=>whnf) | (refine A8 (fun _=>?_) (fun _=>?_) <;> conv=>whnf) | (refine z_ ti ?_;conv=>whnf) | (refine Ad (by first | omega | exact of_decide_eq_true rfl) ?_;conv=>whnf) | fail)
  refine Ad ⟨by rw [Aa,Ar];omega,by omega⟩ ?_;exact⟨k+1,by omega,by omega, [],tv,⟨rfl,rfl,rfl,AL (by omega),tv⟩,⟨rfl,rfl,congrArg (AB.row _ _) (GT c1),tv⟩,rfl,rfl,rfl⟩
 ·refine Ad (by rw [Aa,Ar];omega) ?_;conv=>whnf
  have ek:k=a.homes.length:=by omega
  subst ek;refine⟨.ag (Ew a),Be ⟨ri,ri,ri,ri,ri,ri,?_,tv⟩,rfl⟩;rw [As];exact Ba a.homes rfl rfl
theorem GD {g:Geo} {a:An} (h:Bj g a=true):(0<=a.gen/\a.gen<=4294967295)/\(0<=a.epoch/\a.epoch<=4294967295)/\(1<=a.seq/\a.seq<=4294967295)/\(0<=a.last/\a.last<=4294967295/\a.seq - 1<=a.last)/\(0<=a.pos/\a.pos<g.sl)/\(a.homes.length:Int)=g.z/\∀ x∈a.homes,Ee g x=true:=by
 simp only [Bj,Bc,BL,Ae,AI,decide_eq_true_eq,Av] at h;obtain⟨⟨q1,q2,q3,q4, -⟩,q5,q6,q7,q8,q9,q10⟩:=h;exact⟨q1,q2,⟨q5,q3.2⟩,⟨q4.1,q4.2,q6⟩,⟨q7.1,by omega⟩,q9,q10⟩
theorem L0 {g:Geo} {a:An} (hg:Bq g=true) (h:Bj g a=true):∀ x∈a.homes,x.places.length<=1000000:=by
 obtain⟨h1,h2,h3,h4,h5⟩:=Aq.1 hg;intro x hx;have:=(GD h).2.2.2.2.2.2 x hx;simp only [Ee,Ae,decide_eq_true_eq] at this;omega
theorem XZ {g:Geo} {b:An} {x y:List Gt} {p q:Int->Option Rc} {r:List Tx × List Wr × Int} (hg:Bq g=true) (hb:Bj g b=true) (hx:(x.length:Int)=g.sl) (hy:(y.length:Int)=g.sl) (hp:EA g x 0=p) (hq:EA g y 1=q) (h:N8 g b p q=r):JL g b x y=r:=by
 unfold JL;rw [if_pos (by rw [hg,hb];rfl),if_pos ⟨hx,hy⟩,OG,hp,hq,h]
def RQ (g:Geo) (x:Wr) (z:List Gt × List Gt):List Gt × List Gt:=if x.addr - g.an<g.sl then (z.1.set (x.addr - g.an).toNat ⟨0,x.bytes⟩,z.2) else (z.1,z.2.set (x.addr - g.an - g.sl).toNat ⟨0,x.bytes⟩)
def Ka (g:Geo) (w:List Wr) (z:List Gt × List Gt):Nat->List Gt × List Gt
 | 0=>z
 | k+1=>RQ g (w.getD k ⟨0, []⟩) (Ka g w z k)
theorem KJ {g:Geo} {w:List Wr} {z:List Gt × List Gt}:∀ k,(Ka g w z k).1.length=z.1.length/\(Ka g w z k).2.length=z.2.length
 | 0=>tA
 | k+1=>by
  obtain⟨h1,h2⟩:=KJ (g:=g) (w:=w) (z:=z) k;unfold Ka RQ;split
  ·exact⟨by rw [AW,h1],h2⟩
  ·exact⟨h1,by rw [AW,h2]⟩
theorem PH {g:Geo} {x:List Gt} {copy:Int} {k:Nat} {b:List UInt8} (hk:k<x.length):EA g (x.set k ⟨0,b⟩) copy=Vh (EA g x copy) (k:Nat) (Ep g ⟨0,b⟩ copy (k:Nat)):=by
 funext s;unfold EA Vh;by_cases e:s=(k:Nat)
 ·subst e;rw [if_pos rfl,Ac,Ab,AC hk];rfl
 ·rw [if_neg e];by_cases hs:0<=s/\s<g.sl
  ·obtain⟨i,rfl⟩:=Int.eq_ofNat_of_zero_le hs.1;rw [Ac,Ab,AA (by omega),<-Ab];rfl
  ·rw [K8 hs];exact(K8 hs).symm
def aa (g:Geo) (x:Wr):Prop:=0<=x.addr - g.an/\x.addr - g.an<2*g.sl
theorem NQ {g:Geo} {w:List Wr} {z:List Gt × List Gt} (h1:(z.1.length:Int)=g.sl) (h2:(z.2.length:Int)=g.sl):∀ k,k<=w.length->(∀ x∈w,aa g x)->(EA g (Ka g w z k).1 0,EA g (Ka g w z k).2 1)=Fd g (w.take k) (EA g z.1 0,EA g z.2 1)
 | 0,_,_=>rfl
 | k+1,hk,hw=>by
  have ih:=NQ h1 h2 k (by omega) hw;have hx:=hw _ (A7 (d:=⟨0, []⟩) (show k<w.length by omega));obtain⟨l1,l2⟩:=KJ (g:=g) (w:=w) (z:=z) k;rw [AR (by omega),He,<-ih];rw [show w[k]=w.getD k ⟨0, []⟩ by rw [Ab,Af (by omega)];rfl];simp only [Fd,Je,Ka,RQ];generalize w.getD k ⟨0, []⟩=x at hx;unfold aa at hx;by_cases hc:x.addr - g.an<g.sl
  ·rw [if_pos hc,if_pos hc];dsimp only;rw [PH (by omega),CN hx.1]
  ·rw [if_neg hc,if_neg hc];dsimp only;rw [PH (by omega),CN (show 0<=x.addr - g.an - g.sl by omega)]
theorem VE {g:Geo} {x y:List Gt}:∀ s r,EA g x 0 s=some r\/EA g y 1 s=some r->EE g r=true:=by
 rintro s r (h | h)
 ·exact(Mh h).1
 ·exact(Mh h).1
theorem Ru {g:Geo} {a:An} {x y:List Gt} {l:List Tx} {w:List Wr} (h:JL g a x y=(l,w,0)):(Bq g=true/\Bj g a=true)/\((x.length:Int)=g.sl/\(y.length:Int)=g.sl)/\(∀ z∈w,aa g z/\z.bytes.length<=200)/\JL g a (Ka g w (x,y) w.length).1 (Ka g w (x,y) w.length).2=(l, [],0):=by
 unfold JL at h;by_cases hA:(Bq g&&Bj g a)=true
 ·rw [if_pos hA] at h;obtain⟨hg,ha⟩:=Bool.and_eq_true_iff.1 hA;obtain⟨h1,h2,h3,h4,h5⟩:=Aq.1 hg;have hq:=Ku ha;by_cases hx:(x.length:Int)=g.sl/\(y.length:Int)=g.sl
  ·rw [if_pos hx,OG] at h;unfold N8 at h;cases hR:FE g a (EA g x 0) (EA g y 1) g.sl.toNat a.pos a.seq g.sl [] [] with
   | none=>rw [hR] at h;simp [U4,damaged] at h
   | some R=>
    obtain⟨l',w',seq'⟩:=R;rw [hR] at h;by_cases hl:seq' - 1<a.last
    ·rw [I8 hl] at h;simp [damaged] at h
    ·rw [Gi hl] at h;injection h with e1 h
     injection h with e2 _
     subst e1 e2;have e0:(a.pos+0).tmod g.sl=a.pos:=by rw [Int.add_zero];exact OB hq.2.1 hq.2.2
     rw [<-e0] at hR;obtain⟨wr,w1,w2,w3⟩:=N7 hg (VE (g:=g) (x:=x) (y:=y)) hq.2 g.sl.toNat 0 a.seq g.sl [] [] (CG 0) (by omega) hR;rw [B3] at w1;subst w1;have hin:∀ z∈w',aa g z/\z.bytes.length<=200:=fun z hz=>by
      obtain⟨u,u1,u2,u3⟩:=w2 z hz;refine⟨?_,u3⟩;have q1:=Bw g.sl (show 0<=a.pos+u by omega);have q2:=Bh (a.pos+u) (show 0<g.sl by omega);rw [<-u2] at q1 q2;unfold Vq at q1 q2;unfold aa;split at q1 <;> omega
     refine⟨⟨hg,ha⟩,hx,hin,?_⟩;obtain⟨l1,l2⟩:=KJ (g:=g) (w:=w') (z:=(x,y)) w'.length;have hm:=NQ (g:=g) (w:=w') (z:=(x,y)) hx.1 hx.2 w'.length (Ah _) fun z hz=>(hin z hz).1
     rw [As] at hm;have hm1:=congrArg Prod.fst hm;have hm2:=congrArg Prod.snd hm;refine XZ hg ha (by rw [l1];exact hx.1) (by rw [l2];exact hx.2) hm1 hm2 ?_;unfold N8;have:=w3 (Fd g w' (EA g x 0,EA g y 1)) (fun u _ _=>tA) [];rw [e0] at this;rw [this,Gi hl]
  ·rw [if_neg hx] at h;injection h with _ h
   injection h with _ h
   cases h
 ·rw [if_neg hA] at h;injection h with _ h
  injection h with _ h
  cases h
theorem Mg {g:Geo} {a:An} {x y:List Gt} (hg:Bq g=true):∀ (f:Nat) (pos seq left:Int) (l:List Tx) (w:List Wr) {l':List Tx} {w':List Wr} {seq':Int},(0<=pos/\pos<g.sl)->Fv g a x y f pos seq left l w=some (l',w',seq')->w'.length<=w.length+30*f
 | 0,pos,seq,left,l,w,l',w',seq',_,h=>by
  unfold Fv at h;injection h with h
  injection h with e1 h
  injection h with e2 e3
  subst e2;omega
 | f+1,pos,seq,left,l,w,l',w',seq',hp,h=>by
  unfold Fv at h;have fin:some (l,w,seq)=some (l',w',seq')->w'.length<=w.length+30*(f+1):=fun h=>by
   injection h with h
   injection h with e1 h
   injection h with e2 e3
   subst e2;omega
  by_cases hc:0<left/\seq<=4294967295
  ·rw [if_pos hc] at h;dsimp only at h;have tf:=Ji (a:=a) (x:=x) (y:=y) (seq:=seq) (left:=left) hg hp;generalize GF g a x y pos seq left=T at tf h;obtain⟨how,n,im,ws⟩:=T;dsimp only at tf h;rcases tf with ⟨rfl,t1,t2⟩ | tf
   ·rw [if_neg (by decide),if_neg (by decide)] at h;obtain⟨h1,h2,h3,h4,h5⟩:=Aq.1 hg;have hm:=Bh (pos+n) (show 0<g.sl by omega);have hm0:=Bw g.sl (show 0<=pos+n by omega);have:=Mg hg f _ _ _ _ _ ⟨hm0,hm⟩ h;rw [Ai] at this;omega
   ·by_cases e3:how=3
    ·rw [if_pos e3] at h;cases h
    ·rw [if_neg e3,if_pos (by omega)] at h;exact fin h
  ·rw [if_neg hc] at h;exact fin h
theorem Rt {g:Geo} {a:An} {x y:List Gt}:(JL g a x y).2.1.length<=900:=by
 unfold JL;by_cases hA:(Bq g&&Bj g a)=true
 ·rw [if_pos hA];obtain⟨hg,ha⟩:=Bool.and_eq_true_iff.1 hA;obtain⟨h1,h2,h3,h4,h5⟩:=Aq.1 hg;split
  ·unfold E9;cases hR:Fv g a x y g.sl.toNat a.pos a.seq g.sl [] [] with
   | none=>exact Aj _
   | some R=>
    obtain⟨l',w',seq'⟩:=R;have:=Mg hg _ _ _ _ _ _ (Ku ha).2 hR;by_cases hl:seq' - 1<a.last
    ·rw [I8 hl];exact Aj _
    ·rw [Gi hl];simp only [AY] at this;dsimp only;omega
  ·exact Aj _
 ·rw [if_neg hA];exact Aj _
theorem N9 {g:Geo} {a:An} {x y:List Gt}:∀ (f:Nat) (pos seq left:Int) (l:List Tx) (w:List Wr) {l':List Tx} {w':List Wr} {seq':Int},seq<=4294967296->Fv g a x y f pos seq left l w=some (l',w',seq')->seq'<=4294967296
 | 0,pos,seq,left,l,w,l',w',seq',h1,h=>by
  unfold Fv at h;injection h with h
  injection h with e1 h
  injection h with e2 e3
  omega
 | f+1,pos,seq,left,l,w,l',w',seq',h1,h=>by
  unfold Fv at h;have fin:some (l,w,seq)=some (l',w',seq')->seq'<=4294967296:=fun h=>by
   injection h with h
   injection h with e1 h
   injection h with e2 e3
   omega
  by_cases hc:0<left/\seq<=4294967295
  ·rw [if_pos hc] at h;simp only at h;generalize GF g a x y pos seq left=q at h;split at h
   ·cases h
   ·split at h
    ·exact fin h
    ·exact N9 f _ _ _ _ _ (by omega) h
  ·rw [if_neg hc] at h;exact fin h
theorem Mf {g:Geo} {a:An} {x y:List Gt} (hg:Bq g=true) (ha:Bj g a=true) (h:(E9 g a x y).2.2=0):a.last<=a.seq+(E9 g a x y).1.length - 1/\a.seq+(E9 g a x y).1.length - 1<=4294967295:=by
 obtain⟨g1,g2,g3,g4,g5⟩:=Aq.1 hg;have hq:=Ku ha;have hp:=GD ha;unfold E9 at h |-
 cases hR:Fv g a x y g.sl.toNat a.pos a.seq g.sl [] [] with
 | none=>rw [hR] at h;simp [U4,damaged] at h
 | some q=>
  obtain⟨l,w,seq⟩:=q;rw [hR] at h;obtain⟨c1,c2,c3⟩:=Ll hg _ _ _ _ _ _ (l':=l) (w':=w) (seq':=seq) (show HU g [] a.seq a.pos from trivial) rfl (by simp) (by simp [usedM]) (by omega) hq.2 hR;have hm:=N9 _ _ _ _ _ _ (by omega) hR;by_cases hl:seq - 1<a.last
  ·rw [I8 hl] at h;simp [damaged] at h
  ·rw [Gi hl];simp only;omega
def Eb (a:An) (n:Nat):An:={ a with gen:=a.gen+1,epoch:=a.epoch+1,last:=a.seq+n - 1 }
theorem Mz {g:Geo} {a:An} {n:Nat} (ha:Bj g a=true) (h1:a.gen≠4294967295) (h2:a.epoch≠4294967295) (h3:a.seq+n - 1<=4294967295):Bj g (Eb a n)=true:=by
 have hp:=GD ha;simp only [Bj,Bc,BL,Ae,AI,decide_eq_true_eq] at ha;simp only [Bj,Bc,BL,Ae,AI,decide_eq_true_eq];obtain⟨⟨q1,q2,q3,q4,q11⟩,q5,q6,q7,q8,q9,q10⟩:=ha;refine⟨⟨?_,?_,q3,?_,q11⟩,q5,?_,q7,q8,q9,q10⟩
 ·show 0<=a.gen+1/\a.gen+1<=4294967295;omega
 ·show 0<=a.epoch+1/\a.epoch+1<=4294967295;omega
 ·show 0<=a.seq+n - 1/\a.seq+n - 1<=4294967295;omega
 ·show a.seq - 1<=a.seq+n - 1;omega
def AN (a:An) (t:List Tx):Stt:=⟨a,t,false,0,0,0,0, []⟩
def M4 (g:Geo) (a:An) (t:List Tx) (d:Dk):Dk × Int × Stt:=
 if a.gen=4294967295\/a.epoch=4294967295 then (d,14,st0) else
 let q:=d.putAll (AE g (Eb a t.length))
 if q.2.2 then (q.1,8,st0) else if q.2.1=0 then (q.1,14,st0) else (q.1,0,AN (Eb a t.length) t)
def M5 (g:Geo) (a:An) (q:List Tx × List Wr × Int) (d:Dk):Dk × Int × Stt:=
 if q.2.2≠0 then (d,q.2.2,st0) else
 if (d.mend q.2.1).2 then ((d.mend q.2.1).1,8,st0) else M4 g a q.1 (d.mend q.2.1).1
def Ju (g:Geo) (a:An) (d:Dk):Dk × Int × Stt:=
 if d.live (2*g.sl.toNat) then M5 g a (E9 g a (B8 d (BZ g 0)) (B8 d (BZ g 1))) (d.adv (2*g.sl.toNat)) else (d.adv (2*g.sl.toNat),8,st0)
def Dr (g:Geo) (d:Dk):Dk × Int × Stt:=
 if d.live g.an.toNat then
  match G_ g (B8 d (DB g)) with
  | none=>(d.adv g.an.toNat,11,st0)
  | some (a,_)=>Ju g a (d.adv g.an.toNat)
 else (d.adv g.an.toNat,8,st0)
theorem VD {g:Geo} {x:Gt} {i:Int} {a:An} (hg:Bq g=true) (h:Fc g x i=some a):Bj g a=true:=by
 unfold Fc at h;split at h
 ·cases hR:F8 g (C9 x.bytes) with
  | none=>rw [hR] at h;cases h
  | some b=>
   rw [hR] at h;simp only at h;split at h
   ·cases h;exact(RG hg hR).1
   ·cases h
 ·cases h
theorem JV {g:Geo} {l:List Gt} (hg:Bq g=true):∀ (k:Nat) {a:An} {j:Nat},F9 g l k=some (a,j)->Bj g a=true
 | 0,a,j,h=>by cases h
 | k+1,a,j,h=>by
  rw [Jp,Qb] at h;cases hS:Fc g (l.getD k ⟨0, []⟩) (k:Nat) with
  | none=>rw [hS] at h;exact JV hg k h
  | some b=>
   have hb:=VD hg hS;rw [hS] at h;cases hP:F9 g l k with
   | none=>rw [hP] at h;cases h;exact hb
   | some q=>
    obtain⟨c,i⟩:=q;rw [hP] at h;simp only at h;split at h
    ·cases h;exact hb
    ·cases h;exact JV hg k hP
theorem I5 {d:Dk} (h:DkOk d) (l:List Int):∀ x∈B8 d l,x.bytes.length<=100000:=by
 intro x hx;simp only [B8,AP] at hx;obtain⟨a,_,rfl⟩:=hx;have:=Ux h a;show (d.got a).1.length<=_;omega
theorem Me {g:Geo} {a:An} {x y:List Gt} {n:Nat} (hg:Bq g=true) (ha:Bj g a=true) (hx:(x.length:Int)=g.sl) (hy:(y.length:Int)=g.sl) (hn:(n:Int)=Aw g) (h:(E9 g a x y).2.2=0):(∀ w∈(E9 g a x y).2.1,Ra n w)/\(E9 g a x y).2.1.length<=900:=by
 have e:JL g a x y=E9 g a x y:=by rw [JL,if_pos (by rw [hg,ha];rfl),if_pos ⟨hx,hy⟩]
 have hl:=Rt (g:=g) (a:=a) (x:=x) (y:=y);rw [e] at hl;obtain⟨g1,g2,g3,g4,g5⟩:=Aq.1 hg;have hc:=EH hg;refine⟨fun w hw=>?_,hl⟩;obtain⟨_,_,h3,_⟩:=Ru (l:=(E9 g a x y).1) (w:=(E9 g a x y).2.1) (e.trans (by rw [<-h]));obtain⟨p1,p2⟩:=h3 w hw;unfold aa at p1;exact⟨by omega,p2⟩
theorem ZG {m:Nat} {i:Nat} (hi:Nat.blt i m=true) (h:Nat.ble 3 m=true):∀ z∈ [0,1,2,i],z<m:=fun z hz=>by
 have:=Ag h;have:=Ag hi;simp at hz;omega
theorem ACalls.pre {P:Program} {q:Bool} {f:FuncId} {args:List AV} {H H':List AB} {K:AV->List AB->Prop} (h:ConvH H H') (k:ACalls P q f args H' K):ACalls P q f args H K:=by
 refine⟨k.go,fun w0 M0 c us hs hr=>?_⟩;obtain⟨c1,e1,s1,x1⟩:=h w0 M0 c hs;have:=k.calls w0 M0 c1 us s1 (RdL.ext _ x1 hr);rw [e1] at this;refine this.mono ?_;rintro e w' ⟨v,c',r,H2,rfl,rfl,q1,q2,q3,q4,q5⟩;exact⟨v,c',r,H2,rfl,rfl,q1,q2,x1.trans q3,q4,q5⟩
def zg:=@ACalls.pre
theorem Ma {es:List (List AV)} {i m:Nat} {e:List AV} (h:∀ x∈es,AV.ltL x 0=true) (he:AV.ltL e m=true):AV.ltL (es.set i e).flatten m=true:=by
 rw [D6];intro x hx;obtain⟨y,hy,hx'⟩:=List.mem_flatten.1 hx;rcases Cz hy with hy | rfl
 ·exact AV.lt_mono x (Aj _) (D6.1 (h y hy) x hx')
 ·exact D6.1 he x hx'
theorem IH {es:List (List AV)} {i:Nat} {e:List AV} {f:Nat->Nat} (h:∀ x∈es,AV.ltL x 0=true) (he:AV.renL f e=e):(es.set i e).map (AV.renL f)=es.set i e:=by
 rw [Ch,he];congr 1;conv=>rhs;rw [<-List.map_id es]
 refine C0 fun x hx=>?_
 exact AV.renL_id x (h x hx)
theorem V1 (l:List Tx):∀ x∈l.map CI,AV.ltL x 0=true:=by
 intro x hx;obtain⟨t,_,rfl⟩:=AP.1 hx;rfl
def Vi (t:Tx) (k:Nat):List AV:= [iv t.seq,iv t.pos,iv t.n, .ow k t.images.length]
theorem XV {k n:Nat} {s:AV} (l:List Tx):(l.map CI).map (List.map (AV.slIn k n s))=l.map CI:=by
 rw [List.map_map];exact C0 fun t _=>rfl
theorem V9 (l:List Tx) (k:Nat) (t:Tx) (s:AV):((l.map CI).set k (Vi t 1)).map (List.map (AV.slIn 1 (t.images.map D9).length s))=(l.map CI).set k [iv t.seq,iv t.pos,iv t.n,s]:=by
 rw [Ch,XV];congr 1;simp [Vi,AV.slIn]
theorem NM {l:List Tx} {k:Nat} {t:Tx} (hk:k<l.length) (ht:t=l.getD k ⟨0,0,0, []⟩):ConvH [.rowo 45 4 ((l.map CI).set k (Vi t 1)) 2, .row 51 3 (t.images.map D9)] [.row 45 4 (l.map CI), .dead]:=by
 refine(ConvH.sealIn (H:= [.rowo 45 4 ((l.map CI).set k (Vi t 1)) 2, .row 51 3 (t.images.map D9)]) 0 1 rfl rfl (V9 l k t _)).trans ?_;refine(ConvH.row (k:=0) rfl (Ma (V1 l) rfl)).trans ?_;refine zB (k:=0) (es':=l.map CI) rfl (by simp) fun i=>?_
 refine G2 (f:=CI) (d:=(⟨0,0,0, []⟩:Tx)) hk ?_ i;rw [<-ht];exact⟨fun _ _ h=>h,fun _ _ h=>h,fun _ _ h=>h,Ba (f:=D9) t.images (Aa _) rfl,tv⟩
theorem SN (l:List Tx) (hl:l.length<=1000000) (hi:∀ t∈l,t.images.length<=1000000/\∀ x∈t.images,x.bytes.length<=1000000000):Fn Tryz.prog 88 [Dh l] fun r=>r=Dh l:=by
 have hc:=K2 l (by omega);refine zS Tryz.func88 rfl ?_;conv=>whnf
 refine zW hc rfl ?_;rintro _ _ ⟨rfl,rfl⟩;conv=>whnf
 refine zU Nat (fun k=>([(0, .ow 0 l.length),(9,iv l.length),(10,iv k)], [.row 45 4 (l.map CI)])) (fun k=>k<=l.length) (fun k=>l.length - k) 0 (Aj _)
  (zR (s:= [0]) tA) ?_
 intro k hk;conv=>whnf
 refine A8 (fun h6=>?_) (fun h6=>?_) <;> (repeat rw [Ac] at h6) <;> conv=>whnf
 ·have hk':k<l.length:=by omega
  have hm:=hi _ (A7 (d:=(⟨0,0,0, []⟩:Tx)) hk');have hE:(l.map CI).getD (k:Int).toNat []=CI (l.getD k ⟨0,0,0, []⟩):=by rw [Ac];exact Bg hk'
  have ho:=NZ (l.getD k ⟨0,0,0, []⟩).images (by omega);repeat' (refine zY ?_;conv=>whnf)
  refine⟨⟨by omega,by omega⟩,?_⟩;conv=>whnf
  refine Ad ⟨rfl,(Aa _).symm,by rw [Ac];exact hk'⟩ ?_;conv=>whnf
  rw [hE];conv=>whnf
  refine zg (ConvH.rowo (k:=0) rfl) ?_;refine zW ho rfl ?_;rintro _ _ ⟨rfl,rfl⟩;refine⟨⟨by omega,by omega⟩,?_⟩;conv=>whnf
  refine Ad ⟨rfl,(Aa _).symm,by rw [Ac];exact hk'⟩ ?_;conv=>whnf
  rw [hE];refine⟨⟨by omega,by omega⟩,?_⟩;conv=>whnf
  refine Ad ⟨rfl,by rw [AW,Aa],by rw [Ac];exact hk'⟩ ?_;conv=>whnf
  rw [BQ (by rw [Ac,Aa];exact hk')];conv=>whnf
  obtain⟨t,ht⟩:∃ t,t=l.getD k ⟨0,0,0, []⟩:=⟨_,rfl⟩;rw [<-ht] at hm hE |-
  have hS:∀ x∈l.map CI,AV.ltL x 0=true:=V1 l;have hro:AV.ltL ((l.map CI).set k (Vi t 1)).flatten 2=true:=Ma hS rfl;refine zU Nat (fun j=>([(0, .ow 0 l.length),(3,iv k),(9,iv l.length),(10,iv k),(27, .ow 1 t.images.length),(28,iv t.images.length),(29,iv j)], [.rowo 45 4 ((l.map CI).set k (Vi t 1)) 2, .row 51 3 (t.images.map D9)])) (fun j=>j<=t.images.length) (fun j=>t.images.length - j) 0 (Aj _)
   (zR (s:= [0,1]) ⟨tA,⟨⟨hro,_,by rw [IH hS rfl];rfl⟩,rfl,tv⟩,rfl,rfl,rfl,rfl,rfl⟩) ?_
  intro j hj;conv=>whnf
  refine A8 (fun h7=>?_) (fun h7=>?_) <;> (repeat rw [Ac] at h7) <;> conv=>whnf
  ·have hj':j<t.images.length:=by omega
   have hF:(t.images.map D9).getD (j:Int).toNat []=D9 (t.images.getD j ⟨0,0, []⟩):=by rw [Ac];exact Bg hj'
   have hG:((l.map CI).set k (Vi t 1)).getD (k:Int).toNat []=Vi t 1:=by rw [Ac];exact BQ (by rw [Aa];exact hk')
   have b1:=Ck (t.images.getD j ⟨0,0, []⟩).bytes (hm.2 _ (A7 hj'));refine⟨⟨by omega,by omega⟩,?_⟩;conv=>whnf
   refine Ad ⟨rfl,(Aa _).symm,by rw [Ac];exact hj'⟩ ?_;conv=>whnf
   rw [hF];conv=>whnf
   apply zV (0) tys_ok mixed (.o [0,1,2,3,4,5,6,7,8,9,10,11] .fin) (by kernel_rfl);conv=>whnf
   try (refine tI ?_;conv=>whnf)
   try (first | (refine Ad ⟨rfl,by rw [AW,Aa],by rw [Ac];exact hk'⟩ ?_;(conv=>whnf);rw [hG]) | skip;conv=>whnf)
   try (first | (refine Ad ⟨rfl,by rw [AW,Aa],by rw [Ac];exact hk'⟩ ?_;(conv=>whnf);rw [hG]) | skip;conv=>whnf)
   refine z_ b1 ?_;conv=>whnf
   try (refine tI ?_;conv=>whnf)
   try (refine tS ?_;conv=>whnf)
   (first | rw [hF] | skip)
   conv=>whnf
   all_goals refine⟨j+1,hj',by omega,zI (zK (zB (k:=1) rfl (es':=t.images.map D9) (by simp) ?_)) (s:= [0,1]) ⟨⟨rfl,rfl,rfl,rfl,rfl,rfl,AL (by omega),tv⟩,⟨⟨hro,_,by rw [IH hS rfl];rfl⟩,rfl,tv⟩,rfl,rfl,rfl,rfl,rfl⟩⟩
   all_goals
    intro i;rw [Ac];refine G2 (f:=D9) (d:=(⟨0,0, []⟩:Img)) hj' ?_ i;exact⟨fun _ _ h=>h,fun _ _ h=>h,fun _ _ h=>h,tv⟩
  ·exact⟨k+1,hk',by omega,zI (zK (NM hk' ht)) (s:= [0]) ⟨⟨rfl,rfl,AL (by omega),tv⟩,tA,rfl,rfl,rfl,rfl,rfl⟩⟩
 ·refine Ad (Aa _).symm ?_;exact⟨Dh l,Ba (f:=CI) l rfl rfl,rfl⟩
structure StSm (s:Stt):Prop where
 h:s.a.homes.length<=4/\∀ h∈s.a.homes,h.places.length<=1000000
 l:s.a.label.size<=24
 t:s.txns.length<=30/\∀ t∈s.txns,t.images.length<=30/\∀ i∈t.images,i.bytes.length<=59
 o:s.lost.length<=1000000
theorem st0_sm:StSm st0:=⟨⟨by simp [st0,an0],by simp [st0,an0]⟩,by show (0:Nat)<=24;omega,⟨by simp [st0],by simp [st0]⟩,by simp [st0]⟩
theorem Ks (s:Stt) (h:StSm s):Fn Tryz.prog 37 [.ag (Fh s)] fun r=>r = .ag (Fh s):=by
 have c1:=QW s.a (by have:=h.h.1;omega) h.h.2;have c2:=SN s.txns (by have:=h.t.1;omega) (fun t ht=>⟨by have:=(h.t.2 t ht).1;omega,fun x hx=>by have:=(h.t.2 t ht).2 x hx;omega⟩);have c3:=Ke s.lost (by have:=h.o;omega);refine zS Tryz.func37 rfl ?_;conv=>whnf
 apply zV (0) tys_ok mixed (.o [0,1,3,4,6,7,8,2,10,5,9,11,12,13,14,15,16] .fin) (by kernel_rfl);conv=>whnf
 refine z_ c1 ?_;conv=>whnf
 refine z_ c2 ?_;conv=>whnf
 (refine zW c3 rfl ?_;rintro _ _ ⟨rfl,rfl⟩)
 conv=>whnf
 try (refine tS ?_;conv=>whnf)
 try (refine tS ?_;conv=>whnf)
 try (refine tS ?_;conv=>whnf)
 refine Ad (Aa _).symm ?_;exact⟨.ag (Fh s),Be ⟨ri,ri,ri,ri,ri,ri,ri,ri,ri,ri,ri,ri,ri,ST rfl rfl,tv⟩,rfl⟩
@[reducible] def bwD (g:Geo) (s:Stt) (d:Dk):List AB:= [.box 107 (YN g (.bp 1 0) s), .box 113 (Hr (.ow 2 d.cells.length) (.ow 4 d.cache.length) d.reqs d.left), .dead, .dead, .dead]
theorem Kt (g:Geo) (s:Stt) (d:Dk) (h:DkOk d):ACalls Tryz.prog false 36 [.bp 0 0] (bwG g s d) fun r H=>r = .ag (FX d)/\H=bwD g s d:=by
 have ht:=Xh d (by have:=h.n;omega) (by have:=h.m;omega) (fun c hc=>by have:=(h.c c hc).2;omega) (fun w hw=>by have:=(h.w w hw).2;omega);refine zT tys_ok Tryz.func36 rfl rfl (Ag rfl) ?_;conv=>whnf
 refine zO ht.go ?_;refine Ad (Aa _).symm ?_;refine Ad (Aa _).symm ?_;conv=>whnf
 refine zX [.ag (FX d)] ⟨Be ⟨Ba (f:=BG) d.cells rfl rfl,Ba (f:=EK) d.cache rfl rfl,ri,ri,tv⟩,tv⟩ ?_;refine z_ ht ?_;exact⟨_, .ag (FX d),bwD g s d,fun _ _ h=>h,zR (s:= [0,1,2,3,4]) tA,rfl,rfl⟩
theorem VA (g:Geo) (d:Dk) (hg:Bq g=true) (h1:d.cells.length<=1000000) (h2:d.cache.length<=1000000):Fn Tryz.prog 47 [.ag (AT g), .ag (FX d)] fun r=>r = .v (.bool (Nq d&&decide ((d.cells.length:Int)=Aw g))):=by
 have c1:=Uz g hg;have c2:=UE d h1 h2;refine zS Tryz.func47 rfl ?_;conv=>whnf
 refine z_ c1 ?_;conv=>whnf
 refine z_ c2 ?_;conv=>whnf
 cases hk:Nq d with
 | false=>
  exact⟨_,ri,rfl⟩
 | true=>
  exact⟨_,ri,rfl⟩
def ze (n:Int):AV:= iv n
def nilV:AV:= .v (.slice none 0 0)
theorem st0_sub:SubL [ze 0,ze 0,ze 0,ze 0,ze 0, .v (.string ⟨#[]⟩),nilV,nilV, .v (.bool false),ze 0,ze 0,ze 0,ze 0,nilV] (Fh st0):=
 ⟨fun _ _ h=>h,fun _ _ h=>h,fun _ _ h=>h,fun _ _ h=>h,fun _ _ h=>h,fun _ _ h=>h,Bt 3 _,Bt 4 _,fun _ _ h=>h,fun _ _ h=>h,fun _ _ h=>h,fun _ _ h=>h,fun _ _ h=>h,Bt 1 _,tv⟩
theorem RP {g:Geo} {d:Dk} (h:(Dr g d).2.1≠0):(Dr g d).2.2=st0:=by
 unfold Dr at h |-
 split
 ·rename_i hl;rw [if_pos hl] at h;split
  ·rfl
  ·rename_i a j hp;rw [hp] at h;simp only at h;unfold Ju at h |-
   split
   ·rename_i hl2;rw [if_pos hl2] at h;unfold M5 at h |-
    split
    ·rfl
    ·rename_i h3;rw [if_neg h3] at h;split
     ·rfl
     ·rename_i h4;rw [if_neg h4] at h;unfold M4 at h |-
      split
      ·rfl
      ·rename_i h5;rw [if_neg h5] at h;simp only at h |-
       split
       ·rfl
       ·rename_i h6;rw [if_neg h6] at h;split
        ·rfl
        ·rename_i h7;rw [if_neg h7] at h;exact absurd rfl h
   ·rfl
 ·rfl
theorem Ub {g:Geo} {d:Dk} (hg:Bq g=true) (h:DkOk d) (hn:(d.cells.length:Int)=Aw g):DkOk (Dr g d).1/\(Dr g d).1.cells.length=d.cells.length:=by
 have ha:=h.adv g.an.toNat;have hs:=(GE g.an.toNat d).1;have hpo:=fun {a j}=>JV (g:=g) (l:=B8 d (DB g)) hg (B8 d (DB g)).length (a:=a) (j:=j)
 have hpo:∀ {a j},G_ g (B8 d (DB g))=some (a,j)->Bj g a=true:=hpo;unfold Dr;split
 ·cases hP:G_ g (B8 d (DB g)) with
  | none=>exact⟨ha,by rw [hs]⟩
  | some q=>
   obtain⟨a,j⟩:=q;have hao:=hpo hP;simp only;obtain⟨g1,g2,g3,g4,g5⟩:=Aq.1 hg;generalize d.adv g.an.toNat=d1 at ha hs |-
   have ha2:=ha.adv (2*g.sl.toNat);have hs2:=(GE (2*g.sl.toNat) d1).1;have hx1:(B8 d1 (BZ g 0)).length=g.sl.toNat:=by rw [Eu,FJ]
   have hx2:(B8 d1 (BZ g 1)).length=g.sl.toNat:=by rw [Eu,FJ]
   have hlast:=Mf (x:=B8 d1 (BZ g 0)) (y:=B8 d1 (BZ g 1)) hg hao;have hin:=Me (x:=B8 d1 (BZ g 0)) (y:=B8 d1 (BZ g 1)) (n:=d.cells.length) hg hao (by omega) (by omega) hn;unfold Ju;split
   ·generalize E9 g a (B8 d1 (BZ g 0)) (B8 d1 (BZ g 1))=S at hlast hin |-
    generalize d1.adv (2*g.sl.toNat)=d2 at ha2 hs2 |-
    have hn2:d2.cells.length=d.cells.length:=by rw [hs2,hs]
    unfold M5;split
    ·exact⟨ha2,hn2⟩
    ·rename_i he;have he:S.2.2=0:=by simpa using he
     have hin:=hin he;have hdm:DkOk (d2.mend S.2.1).1/\(d2.mend S.2.1).1.cells.length=d.cells.length:=by
      unfold Dk.mend;split
      ·exact⟨ha2,hn2⟩
      ·have:=GZ ha2 (l:=S.2.1) (by rw [hn2];exact hin.1);exact⟨this.1,this.2.trans hn2⟩
     generalize (d2.mend S.2.1)=M at hdm |-
     split
     ·exact hdm
     ·unfold M4;split
      ·exact hdm
      ·rename_i hmx;have hna:=Mz (n:=S.1.length) hao (fun e=>hmx (.inl e)) (fun e=>hmx (.inr e)) (hlast he).2;have hpa:=GZ hdm.1 (l:=AE g (Eb a S.1.length)) (J7 hg hna (by rw [hdm.2];exact hn));rw [hdm.2] at hpa;simp only;split
       ·exact hpa
       ·split <;> exact hpa
   ·exact⟨ha2,by rw [hs2,hs]⟩
 ·exact⟨ha,by rw [hs]⟩
theorem ConvF.cap {fr:Fr} {H H':List AB} (i k:Nat) {y:AV} (hx:fget fr i = .bp k 0) (h:capK [.bp k 0] H fun l H2=>l=[y]/\H2=H'):ConvF fr H ((i,y)::fr) H':=fun _ _ c _ a hs hf=>by
 have hr:RdL [.bp k 0] c [a.tmps.getD i undef]:=by
  simp only [RdL];exact⟨_,_,rfl,hx ▸ hf.get i,rfl⟩
 obtain⟨l',H1,c1,⟨rfl,rfl⟩,e1,s1,x1,r⟩:=capK_sound hs hr h;simp only [RdL] at r;obtain⟨u,us,e,r1,rfl⟩:=r;injection e with e _
 subst e;exact⟨c1,e1,s1,(hf.ext x1).cons i _ r1,x1⟩
def C4 (g:Geo):List Tx->Int->Int->Int->Bool
 | [],_,_,_=>true
 | t::r,seq,pos,left=>(decide (t.seq=seq)&&(decide (t.seq<=4294967295)&&(decide (t.pos=pos)&&(decide (2<=t.n)&&(decide (t.n<=left)&&(decide (t.n=t.images.length+1)&&t.images.all (B4 g)))))))&&C4 g r (seq+1) ((pos+t.n).tmod g.sl) (left - t.n)
theorem Wa (g:Geo) (x:Img) (hx:x.bytes.length<=100000):Fn Tryz.prog 103 [.ag (D9 x), .rp (AT g)] fun r=>r = .v (.bool (!B4 g x)):=by
 have h:=KQ g x hx;refine zS Tryz.func103 rfl ?_;conv=>whnf
 refine z_ h ?_;conv=>whnf
 cases B4 g x with
 | true=>exact⟨_,ri,rfl⟩
 | false=>exact⟨_,ri,rfl⟩
theorem Z5 (l:List Img) (g:Geo) (hb:∀ x∈l,x.bytes.length<=100000) (hl:l.length<=1000000):Fn Tryz.prog 176 [DH l, .fn 103 [.rp (AT g)]] fun r=>r = iv (Vk (fun x=>!B4 g x) l):=by
 refine zS Tryz.func176 rfl ?_;conv=>whnf
 refine zM Nat (fun k=>([(0,DH l),(1, .fn 103 [.rp (AT g)]),(7,iv l.length),(8,iv k)], [])) (fun k=>k<=l.length/\(l.take k).any (fun x=>!B4 g x)=false) (fun k=>l.length - k) 0 ⟨Aj _,by simp⟩ ⟨[],tv,tA,tv,rfl,rfl,rfl⟩ ?_;rintro k ⟨hk,hI⟩;conv=>whnf
 refine Ao (fun h2=>?_) (fun h2=>?_) <;> simp at h2 <;> conv=>whnf
 ·refine⟨by first | omega | (refine⟨rfl,?_,?_⟩ <;> first | omega | (simp only [Aa];done) | (simp only [Aa];omega)) | (simp only [Aa];omega),?_⟩;conv=>whnf
  refine zG (Wa g (l.getD k ⟨0,0, []⟩) (hb _ (A7 h2))) rfl ?_;rintro _ rfl;conv=>whnf
  refine Ao (fun h3=>?_) (fun h3=>?_) <;> conv=>whnf
  ·exact⟨_,ri,by rw [IR (d:=⟨0,0, []⟩) h2 hI (by first | exact h3 | (rw [Ac] at h3;exact h3) | simpa using h3)]⟩
  ·refine⟨k+1,⟨by omega,Ev (d:=⟨0,0, []⟩) h2 hI (by first | exact h3 | (rw [Ac] at h3;exact h3) | simpa using h3)⟩,by omega, [],tv,⟨rfl,rfl,rfl,AL (by omega),tv⟩,tv,rfl,rfl,rfl⟩
 ·exact⟨_,ri,by rw [A3 h2] at hI;rw [Hg hI]⟩
theorem Z6 (l:List Img) (g:Geo) (hb:∀ x∈l,x.bytes.length<=100000) (hl:l.length<=1000000):Fn Tryz.prog 105 [DH l, .fn 103 [.rp (AT g)]] fun r=>r = .v (.bool (l.any (fun x=>!B4 g x))):=by
 refine zS Tryz.func105 rfl ?_;conv=>whnf
 refine z_ (Z5 l g hb hl) ?_;exact⟨_,ri,by rw [KP]⟩

theorem JR (g:Geo) (a:An) (l:List Tx) (hl:a.label.size<=1000000) (hh:a.homes.length<=1000000) (hn:l.length<=1000000) (hi:∀ t∈l,t.images.length<=1000000/\∀ x∈t.images,x.bytes.length<=100000):Fn Tryz.prog 48 [.ag (AT g), .ag (Ew a),Dh l] fun r=>r = .v (FM ((Bq g&&Bj g a)&&C4 g l a.seq a.pos g.sl)):=by
 have hA:=La g a hl hh;cases hga:Bq g&&Bj g a with
 | false=>
  rw [hga] at hA;rw [D5];refine zS Tryz.func48 rfl ?_;conv=>whnf
  refine z_ hA ?_;exact⟨_,ri,rfl⟩
 | true=>
  rw [hga] at hA;rw [BF];obtain⟨hg,ha⟩:=Bool.and_eq_true_iff.1 hga;obtain⟨g1,g2,g3,g4,g5⟩:=Aq.1 hg;have hp:=GD ha;refine zS Tryz.func48 rfl ?_;conv=>whnf
  refine z_ hA ?_;conv=>whnf
  refine zF tys_ok mixed (by kernel_rfl) ?_;conv=>whnf
  refine zU (Nat × Int × Int × Int) (fun x=>([(2,Dh l),(3, .rp (AT g)),(8,iv x.2.1),(9,iv x.2.2.1),(10,iv x.2.2.2),(26,Dh l),(27,iv l.length),(28,iv x.1)], []))
   (fun x=>x.1<=l.length/\(0<=x.2.1/\x.2.1<g.sl)/\(0<=x.2.2.1/\x.2.2.1<=4294967296)/\(0<=x.2.2.2/\x.2.2.2<=30)/\C4 g l a.seq a.pos g.sl=C4 g (l.drop x.1) x.2.2.1 x.2.1 x.2.2.2) (fun x=>l.length - x.1) (0,a.pos,a.seq,g.sl) ⟨Aj _,by show 0<=a.pos/\a.pos<g.sl;omega,by show 0<=a.seq/\a.seq<=4294967296;omega,by show 0<=g.sl/\g.sl<=30;omega,rfl⟩
   ?_ ?_
  ·exact zI (ConvF.cap 3 0 (y:= .rp (AT g)) rfl (by (conv=>whnf);exact tA)) (s:= []) tA
  rintro⟨k,pos,seq,left⟩ ⟨hk,b1,b2,b3,hI⟩;simp only at hk b1 b2 b3 hI |-
  conv=>whnf
  refine A8 (fun h6=>?_) (fun h6=>?_) <;> (repeat rw [Ac] at h6) <;> conv=>whnf
  ·have hk':k<l.length:=by omega
   have hm:=hi _ (A7 (d:=(⟨0,0,0, []⟩:Tx)) hk');have hdr:l.drop k=l.getD k ⟨0,0,0, []⟩::l.drop (k+1):=by
    rw [Ab,Af hk'];exact Bf hk'
   rw [hdr,C4] at hI;repeat' (refine zY ?_;conv=>whnf)
   refine⟨⟨by omega,by omega⟩,?_⟩;conv=>whnf
   rw [Ac];generalize l.getD k ⟨0,0,0, []⟩=t at hm hI |-
   have hcf:=Z6 t.images g hm.2 hm.1;rw [show (t.images.any fun x=>!B4 g x) = !t.images.all (B4 g) by rw [Cn,Bool.not_not]] at hcf;have wn:IntKind.i64.wrap ((t.images.length:Int)+1)=t.images.length+1:=wi (by omega);generalize hAll:t.images.all (B4 g)=Q at hcf hI;generalize hC:(decide (t.seq=seq)&&(decide (t.seq<=4294967295)&&(decide (t.pos=pos)&&(decide (2<=t.n)&&(decide (t.n<=left)&&(decide (t.n=t.images.length+1)&&Q))))))=C at hI;clear hAll hm hi hdr hA;conv=>whnf
   repeat' (refine zY ?_;conv=>whnf)
   repeat' (first | (refine Ao (fun h=>?_) (fun h=>?_) <;> (try simp at h) <;> conv=>whnf) | (refine zY ?_;conv=>whnf) | (refine z_ hcf ?_;conv=>whnf))
   all_goals try (exact⟨_,ri,by rw [hI,show C=false by (rw [<-hC,<-BP];clear hI hC hcf;simp [*] <;> omega)];rfl⟩)
   have hC1:C=true:=by rw [<-hC];clear hI hC hcf;simp [*] <;> omega
   rw [hC1,BF] at hI;have wn':t.n=t.images.length+1:=by omega
   have w1:IntKind.i64.wrap (pos+t.n)=pos+t.n:=wi (by omega);have w2:IntKind.i64.wrap (seq+1)=seq+1:=wi (by omega);have w3:IntKind.i64.wrap (left - t.n)=left - t.n:=wi (by omega);apply zV (0) tys_ok mixed (.o [0,1,2,3,4,5,6,7,8,9,10,11,12,13,14,15] .fin) (by kernel_rfl);conv=>whnf
   try (refine tI ?_;conv=>whnf)
   rw [w1,w2,w3];have hq1:=Bw g.sl (show 0<=pos+t.n by omega);have hq2:=Bh (pos+t.n) (show 0<g.sl by omega);exact⟨(k+1,(pos+t.n).tmod g.sl,seq+1,left - t.n),⟨hk',⟨hq1,hq2⟩,(show 0<=seq+1/\seq+1<=4294967296 by omega),(show 0<=left - t.n/\left - t.n<=30 by omega),hI⟩,(show l.length - (k+1)<l.length - k by omega),zR (s:= []) ⟨⟨rfl,rfl,rfl,rfl,rfl,rfl,rfl,AL (by omega),tv⟩,tv,rfl,rfl,rfl,rfl,rfl⟩⟩
  ·have ek:k=l.length:=by omega
   subst ek;exact⟨_,ri,by rw [hI,List.drop_length];rfl⟩
def Hu (g:Geo):Int:=1+g.sl+g.z*(2+g.d)
theorem P3 {g:Geo} (hg:Bq g=true):18<=Hu g/\Hu g<=55/\(3<=g.z*(2+g.d)/\g.z*(2+g.d)<=24):=by
 obtain⟨g1,g2,g3,g4,g5⟩:=Aq.1 hg;have h1:g.z*(2+g.d)<=4*6:=Int.mul_le_mul (by omega) (by omega) (by omega) (by omega);have h2:1*3<=g.z*(2+g.d):=Int.mul_le_mul (by omega) (by omega) (by omega) (by omega);unfold Hu;omega
theorem Vw (g:Geo) (hg:Bq g=true):Fn Tryz.prog 49 [.ag (AT g)] fun r=>r = iv (Hu g):=by
 obtain⟨g1,g2,g3,g4,g5⟩:=Aq.1 hg;have hu:=P3 hg;have w:IntKind.i64.wrap (IntKind.i64.wrap (1+g.sl)+IntKind.i64.wrap (g.z*IntKind.i64.wrap (2+g.d)))=Hu g:=by
  rw [wi (n:=2+g.d) (by omega),wi (n:=g.z*(2+g.d)) (by omega),wi (n:=1+g.sl) (by omega)];exact wi (by unfold Hu at hu;omega)
 refine zS Tryz.func49 rfl ?_;exact⟨_,ri,by rw [w]⟩
def M7 (n:Int) (l:List Int) (i:Nat):Bool:=decide (0<=l.getD i 0)&&(decide (l.getD i 0<n)&&(decide (i=0) || decide (l.getD (i - 1) 0<l.getD i 0)))
def M8 (n:Int) (l:List Int):Bool:=(List.range l.length).all (M7 n l)
theorem Ud {n:Int} {l:List Int} {k:Nat} (h:(List.range k).all (M7 n l)=true) (e:M7 n l k=true):(List.range (k+1)).all (M7 n l)=true:=by
 rw [Bm,Dn,h,BF,Bc,e];rfl
theorem Y1 {n:Int} {l:List Int} {k:Nat} (hk:k<l.length) (e:M7 n l k=false):M8 n l=false:=by
 rw [M8,<-BP,Av];intro h;rw [h k (AO.2 hk)] at e;cases e
def F1 (g:Geo) (s:Stt):Bool:=M8 (g.z*g.d) s.lost&&(decide (0<=s.found)&&(decide (0<=s.fixed)&&decide (0<=s.moved)))
def br (s:Stt):List AV:= [iv s.found,iv s.fixed,iv s.moved,iA s.lost]
theorem Sp (g:Geo) (s:Stt) (hg:Bq g=true) (hl:s.lost.length<=1000000):Fn Tryz.prog 50 [.ag (AT g), .ag (br s)] fun r=>r = .v (.bool (F1 g s)):=by
 obtain⟨g1,g2,g3,g4,g5⟩:=Aq.1 hg;have hm1:g.z*g.d<=4*4:=Int.mul_le_mul (by omega) (by omega) (by omega) (by omega);have hm0:0<=g.z*g.d:=De (by omega) (by omega);have wm:IntKind.i64.wrap (g.z*g.d)=g.z*g.d:=wi (by omega);refine zS Tryz.func50 rfl ?_;conv=>whnf
 refine zU Nat (fun k=>([(2, .bp 0 0),(3, .bp 1 0),(8,iA s.lost),(9,iv s.lost.length),(10,iv k)], [.box 23 (AT g), .box 32 (br s)])) (fun k=>k<=s.lost.length/\(List.range k).all (M7 (g.z*g.d) s.lost)=true) (fun k=>s.lost.length - k) 0 ⟨Aj _,rfl⟩
  (zR (s:= [0,1]) tA) ?_
 rintro k ⟨hk,hI⟩;conv=>whnf
 refine A8 (fun h6=>?_) (fun h6=>?_) <;> (repeat rw [Ac] at h6) <;> conv=>whnf
 ·have hk':k<s.lost.length:=by omega
  have hno:=Y1 (n:=g.z*g.d) hk';have hyes:=Ud hI (n:=g.z*g.d) (l:=s.lost);unfold M7 at hno hyes;repeat' (refine zY ?_;conv=>whnf)
  refine⟨⟨by omega,by omega⟩,?_⟩;conv=>whnf
  repeat' (refine zY ?_;conv=>whnf)
  rw [Ac];refine A8 (fun q1=>?_) (fun q1=>?_)
  ·conv=>whnf
   exact⟨_,ri,by rw [F1,hno (by rw [<-BP];simp only [Ae,CQ,decide_eq_true_eq];omega),D5]⟩
  ·conv=>whnf
   rw [wm];refine A8 (fun q2=>?_) (fun q2=>?_)
   ·conv=>whnf
    exact⟨_,ri,by rw [F1,hno (by rw [<-BP];simp only [Ae,CQ,decide_eq_true_eq];omega),D5]⟩
   ·conv=>whnf
    have wk:IntKind.i64.wrap ((k:Int) - 1)=(k:Int) - 1:=wi (by omega);refine A8 (fun q3=>?_) (fun q3=>?_)
    ·conv=>whnf
     rw [wk];refine⟨⟨by omega,by omega⟩,?_⟩;conv=>whnf
     rw [show ((k:Int) - 1).toNat=k - 1 by omega];refine A8 (fun q4=>?_) (fun q4=>?_)
     ·conv=>whnf
      exact⟨_,ri,by rw [F1,hno (by rw [<-BP];simp only [Ae,CQ,decide_eq_true_eq];omega),D5]⟩
     ·conv=>whnf
      exact⟨k+1,⟨hk',hyes (by simp only [Ae,CQ,decide_eq_true_eq];omega)⟩,by omega,zR (s:= [0,1]) ⟨⟨rfl,rfl,rfl,rfl,AL (by omega),tv⟩,tA,rfl,rfl,rfl,rfl,rfl⟩⟩
    ·conv=>whnf
     exact⟨k+1,⟨hk',hyes (by simp only [Ae,CQ,decide_eq_true_eq];omega)⟩,by omega,zR (s:= [0,1]) ⟨⟨rfl,rfl,rfl,rfl,AL (by omega),tv⟩,tA,rfl,rfl,rfl,rfl,rfl⟩⟩
 ·have ek:k=s.lost.length:=by omega
  have hlo:M8 (g.z*g.d) s.lost=true:=by rw [M8,<-ek];exact hI
  refine⟨_,fun _ _ h=>h,?_⟩;rw [F1,hlo,BF];refine congrArg (fun b=>AV.v (.bool b)) ?_;rw [DF];simp only [Ae,decide_eq_true_eq];repeat' split
  all_goals omega
def P9 (g:Geo) (d:Dk) (s:Stt):Bool:=Bq g&&((Nq d&&decide ((d.cells.length:Int)=Aw g))&&(((Bq g&&Bj g s.a)&&C4 g s.txns s.a.seq s.a.pos g.sl)&&(decide (0<=s.cursor)&&(decide (s.cursor<Hu g)&&F1 g s))))
structure StBig (s:Stt):Prop where
 l:s.a.label.size<=1000000
 h:s.a.homes.length<=1000000
 t:s.txns.length<=1000000/\∀ t∈s.txns,t.images.length<=1000000/\∀ x∈t.images,x.bytes.length<=100000
 o:s.lost.length<=1000000
theorem O1 (g:Geo) (d:Dk) (s:Stt) (h1:d.cells.length<=1000000) (h2:d.cache.length<=1000000) (hs:StBig s):Fn Tryz.prog 17 [.ag (AT g), .ag (FX d), .ag (Fh s)] fun r=>r = .v (FM (P9 g d s)):=by
 have hG:Fn Tryz.prog 46 [.ag (AT g)] fun r=>r = .v (FM (Bq g)):=Ec g.z g.d g.sp g.sl g.an
 unfold P9;cases hg:Bq g with
 | false=>
  rw [hg] at hG;refine zS Tryz.func17 rfl ?_;conv=>whnf
  refine z_ hG ?_;exact⟨_,ri,rfl⟩
 | true=>
  rw [hg] at hG;have hz:=VA g d hg h1 h2;have hr:=JR g s.a s.txns hs.l hs.h hs.t.1 hs.t.2;rw [hg] at hr;have hu:=Vw g hg;have hh:=Sp g s hg hs.o;generalize (Nq d&&decide ((d.cells.length:Int)=Aw g))=Z at hz |-
  generalize ((true&&Bj g s.a)&&C4 g s.txns s.a.seq s.a.pos g.sl)=R at hr |-
  generalize F1 g s=Q at hh |-
  generalize Hu g=U at hu |-
  cases Z with
  | false=>
   refine zS Tryz.func17 rfl ?_;conv=>whnf
   refine z_ hG ?_;conv=>whnf
   refine z_ hz ?_;exact⟨_,ri,rfl⟩
  | true=>
   cases R with
   | false=>
    refine zS Tryz.func17 rfl ?_;conv=>whnf
    refine z_ hG ?_;conv=>whnf
    refine z_ hz ?_;conv=>whnf
    refine z_ hr ?_;exact⟨_,ri,rfl⟩
   | true=>
    refine zS Tryz.func17 rfl ?_;conv=>whnf
    refine z_ hG ?_;conv=>whnf
    refine z_ hz ?_;conv=>whnf
    refine z_ hr ?_;conv=>whnf
    refine zF tys_ok mixed (by kernel_rfl) ?_;conv=>whnf
    refine A8 (fun q1=>?_) (fun q1=>?_)
    ·conv=>whnf
     exact⟨_,ri,by rw [decide_eq_false (by omega)];rfl⟩
    ·conv=>whnf
     refine z_ hu ?_;conv=>whnf
     refine A8 (fun q2=>?_) (fun q2=>?_)
     ·conv=>whnf
      exact⟨_,ri,by rw [decide_eq_true (p:=0<=s.cursor) (by omega),decide_eq_false (p:=s.cursor<U) (by omega)];rfl⟩
     ·conv=>whnf
      refine z_ hh ?_;conv=>whnf
      rw [decide_eq_true (p:=0<=s.cursor) (by omega),decide_eq_true (p:=s.cursor<U) (by omega)];cases Q with
      | false=>exact⟨_,ri,rfl⟩
      | true=>exact⟨_,ri,rfl⟩



def sumT:List Tx->Int
 | []=>0
 | t::r=>t.n+sumT r
theorem sumT_app:∀ l m:List Tx,sumT (l ++ m)=sumT l+sumT m
 | [],m=>by simp [sumT]
 | t::r,m=>by
  show t.n+sumT (r ++ m)=_;rw [sumT_app r m,sumT];omega
theorem Nx {l:List Tx} (h:∀ t∈l,0<=t.n/\t.n<=30):∀ k:Nat,k<=l.length->Gy l k=sumT (l.take k)
 | 0,_=>by simp [Gy,sumT]
 | k+1,hk=>by
  have e:l.take (k+1)=l.take k ++ [l.getD k tz]:=by
   rw [A_,Af (by omega),Ab,Af (by omega)];rfl
  have hm:=h _ (A7 (d:=tz) (show k<l.length by omega));rw [Gy,Nx h k (by omega),e,sumT_app,GI,if_pos hm];simp [sumT]
theorem Kz {l:List Tx} (h:∀ t∈l,0<=t.n/\t.n<=30):Cp l=sumT l:=by
 have:=Nx h l.length (Ah _);rwa [As] at this
theorem T0 {p n s q:Int} (hs:0<s) (hp:0<=p) (hn:0<=n) (hq:0<=q):((p+n).tmod s+q).tmod s=(p+(n+q)).tmod s:=by
 have h1:0<=(p+n).tmod s:=Bw _ (by omega);rw [Bi (a:=p+n) (by omega)] at h1 |-
 rw [Bi (by omega),Bi (by omega),Int.emod_add_emod,Int.add_assoc]
theorem XU {l:List Tx} (h:∀ t∈l,0<=t.n/\t.n<=30):0<=sumT l:=by
 induction l with
 | nil=>simp [sumT]
 | cons t r ih=>
  have:=h t (by simp);have:=ih fun x hx=>h x (Bd _ hx)
  rw [sumT];omega
theorem Gu {g:Geo} (hg:Bq g=true):∀ {l:List Tx} {seq pos left:Int},left<=g.sl->C4 g l seq pos left=true->(∀ t∈l,0<=t.n/\t.n<=30)/\sumT l<=max left 0
 | [],_,_,left,_,_=>⟨by simp,by simp [sumT];omega⟩
 | t::r,seq,pos,left,hl,h=>by
  obtain⟨g1,g2,g3,g4,g5⟩:=Aq.1 hg;simp only [C4,Ae,decide_eq_true_eq] at h;obtain⟨⟨h1,h2,h3,h4,h5,h6,h7⟩,h8⟩:=h;have ih:=Gu hg (by omega) h8;refine⟨fun x hx=>?_,?_⟩
  ·rcases AU.1 hx with rfl | hx
   ·omega
   ·exact ih.1 x hx
  ·rw [sumT];have:=ih.2;omega
theorem Lm {g:Geo} (hg:Bq g=true) {x:Tx}:∀ {l:List Tx} {seq pos left:Int},0<=pos->pos<g.sl->left<=g.sl->C4 g l seq pos left=true->x.seq=seq+l.length->x.seq<=4294967295->x.pos=(pos+sumT l).tmod g.sl->2<=x.n->x.n<=left - sumT l->x.n=x.images.length+1->x.images.all (B4 g)=true->C4 g (l ++ [x]) seq pos left=true
 | [],seq,pos,left,h0,h1,_,_,e1,e2,e3,e4,e5,e6,e7=>by
  have e3':x.pos=pos:=by
   rw [e3,show sumT []=0 from rfl,Int.add_zero,Bi h0,Int.emod_eq_of_lt h0 h1]
  simp only [AY] at e1;have e1':x.seq=seq:=by omega
  have e5':x.n<=left:=by have:sumT []=0:=rfl;omega
  show (decide (x.seq=seq)&&(decide (x.seq<=4294967295)&&(decide (x.pos=pos)&&(decide (2<=x.n)&&(decide (x.n<=left)&&(decide (x.n=x.images.length+1)&&x.images.all (B4 g)))))))&&true=true;rw [decide_eq_true e1',decide_eq_true e2,decide_eq_true e3',decide_eq_true e4,decide_eq_true e5',decide_eq_true e6,e7];rfl
 | t::r,seq,pos,left,h0,h1,hl,h,e1,e2,e3,e4,e5,e6,e7=>by
  obtain⟨g1,g2,g3,g4,g5⟩:=Aq.1 hg;have hh:=h;simp only [C4,Ae,decide_eq_true_eq] at hh;obtain⟨⟨q1,q2,q3,q4,q5,q6,q7⟩,q8⟩:=hh;have hin:=(Gu hg (by omega) q8).1;have hnn:=XU hin;have hp0:0<=(pos+t.n).tmod g.sl:=Bw _ (by omega);have hp1:(pos+t.n).tmod g.sl<g.sl:=Bh _ (by omega);rw [sumT] at e3 e5;have ih:=Lm hg (x:=x) hp0 hp1 (by omega) q8 (by rw [e1];simp only [Al];omega) e2 (by rw [e3,T0 (by omega) h0 (by omega) hnn]) e4 (by omega) e6 e7;show (_&&C4 g (r ++ [x]) (seq+1) ((pos+t.n).tmod g.sl) (left - t.n))=true;rw [ih,BA];simp only [C4,Ae] at h;simpa using h.1
def E0 (ats:List Int) (bs:List (List UInt8)) (i:Nat):Nat->Option (List UInt8)
 | 0=>none
 | k+1=>if ats.getD k 0=(i:Int) then some (bs.getD k []) else E0 ats bs i k
def Gl (g:Geo) (t:List Ent) (had:List (List UInt8)) (ats:List Int) (bs:List (List UInt8)) (i:Nat):List UInt8:=match E0 ats bs i ats.length with
 | some b=>b
 | none=>FL g t had i
def J_ (g:Geo) (t:List Ent) (had:List (List UInt8)) (ats:List Int) (bs:List (List UInt8)) (stamp:Int) (i:Nat):Ent:=
 let e:Ent:=match E0 ats bs i ats.length with
  | some b=>⟨stamp,(CR b:Nat),false⟩
  | none=>t.getD i ez
 if (Gl g t had ats bs i).length=0 then { e with lost:=true } else e
def DN (g:Geo) (t:List Ent) (had:List (List UInt8)) (ats:List Int) (bs:List (List UInt8)):Nat->List UInt8
 | 0=>zero8
 | k+1=>if (Gl g t had ats bs k).length=0 then DN g t had ats bs k else Fj (DN g t had ats bs k) (Gl g t had ats bs k)
def Bx (g:Geo) (t:List Ent) (had:List (List UInt8)) (ats:List Int) (bs:List (List UInt8)) (stamp:Int):List Ent:=(List.range g.d.toNat).map (J_ g t had ats bs stamp) ++ [⟨stamp,(CR (DN g t had ats bs g.d.toNat):Nat),false⟩]
def Cf (z:Int) (t:List Ent) (par:List UInt8) (ats:List Int) (bs:List (List UInt8)):List Img:=((List.range ats.length).map fun i=>⟨z,ats.getD i 0,bs.getD i []⟩) ++ [⟨z, -1,par⟩,⟨z,255,CY t⟩]
theorem IG (b:List UInt8):CR b<=4294967295:=by unfold CR;omega
theorem Gv (a b:List UInt8):(Fj a b).length=min a.length b.length:=by simp [Fj]
theorem It {t:List Ent} {had:List (List UInt8)} {at_:Nat} (hh:∀ b∈had,b.length=0\/b.length=8):∀ (k:Nat) (b:List UInt8),E5 t had at_ k=some b->b.length=8
 | 0,b,h=>by
  obtain rfl:=Option.some.inj h;rfl
 | k+1,b,h=>by
  rw [E5] at h;cases hk:E5 t had at_ k with
  | none=>rw [hk] at h;cases h
  | some c=>
   rw [hk] at h;have ih:=It hh k c hk;simp only at h;split at h
   ·obtain rfl:=Option.some.inj h;exact ih
   ·split at h
    ·cases h
    ·rename_i h0;obtain rfl:=Option.some.inj h;have hm:(had.getD k []).length=8:=by
      by_cases hk':k<had.length
      ·rcases hh _ (A7 (d:= []) hk') with q | q
       ·exact absurd q h0
       ·exact q
      ·rw [Ab,AJ (by omega)] at h0;exact absurd rfl h0
     rw [Gv,ih,hm];rfl
theorem RV {g:Geo} {t:List Ent} {had:List (List UInt8)} (hh:∀ b∈had,b.length=0\/b.length=8) (i:Nat):(FL g t had i).length=0\/(FL g t had i).length=8:=by
 unfold FL;split
 ·exact .inl rfl
 ·split
  ·rename_i h0;by_cases hk':i<had.length
   ·exact hh _ (A7 (d:= []) hk')
   ·rw [Ab,AJ (by omega)] at h0;exact absurd h0 (by simp)
  ·cases ho:E5 t had i (g.d.toNat+1) with
   | none=>exact .inl rfl
   | some b=>
    simp only;split
    ·exact .inr (It hh _ _ ho)
    ·exact .inl rfl
section
variable {g:Geo} {t:List Ent} {had:List (List UInt8)} {ats:List Int} {bs:List (List UInt8)}
theorem KE (hb:∀ b∈bs,b.length=8) (hl:ats.length<=bs.length) {i:Nat}:∀ (k:Nat) (b:List UInt8),k<=ats.length->E0 ats bs i k=some b->b.length=8
 | k+1,b,hk,h=>by
  rw [E0] at h;split at h
  ·obtain rfl:=Option.some.inj h;exact hb _ (A7 (d:= []) (by omega))
  ·exact KE hb hl k b (by omega) h
theorem Ql (hh:∀ b∈had,b.length=0\/b.length=8) (hb:∀ b∈bs,b.length=8) (hl:ats.length<=bs.length) (i:Nat):(Gl g t had ats bs i).length=0\/(Gl g t had ats bs i).length=8:=by
 unfold Gl;cases hp:E0 ats bs i ats.length with
 | none=>exact RV hh i
 | some b=>exact .inr (KE hb hl _ b (Ah _) hp)
theorem Fy (hh:∀ b∈had,b.length=0\/b.length=8) (hb:∀ b∈bs,b.length=8) (hl:ats.length<=bs.length):∀ k:Nat,(DN g t had ats bs k).length=8
 | 0=>rfl
 | k+1=>by
  have ih:=Fy hh hb hl k;rw [DN];split
  ·exact ih
  ·rename_i h0;rcases Ql (g:=g) (t:=t) hh hb hl k with q | q
   ·exact absurd q h0
   ·rw [Gv,ih,q];rfl
theorem FY (hg:Bq g=true) (ht:GG g t=true) {stamp:Int} (hs:0<=stamp/\stamp<=4294967295):GG g (Bx g t had ats bs stamp)=true:=by
 obtain⟨g1,g2,g3,g4,g5⟩:=Aq.1 hg;have hsum:∀ b:List UInt8,Ib ((CR b:Nat):Int)=true:=fun b=>AI.2 (by have:=IG b;omega)
 have hst:Ib stamp=true:=AI.2 hs;have hl:(Bx g t had ats bs stamp).length=g.d.toNat+1:=by simp [Bx]
 rw [GG,hg] at ht;simp only [BF,Ae,decide_eq_true_eq,Br] at ht;obtain⟨⟨t1,t2⟩,t3⟩:=ht;rw [GG,hg,decide_eq_true (by rw [hl];omega)];have hall:(Bx g t had ats bs stamp).all DT=true:=by
  rw [Av];intro x hx;simp only [Bx,A5,AP,AO,Az] at hx;rcases hx with ⟨i,hi,rfl⟩ | rfl
  ·have he:∀ e:Ent,DT e=true->DT { e with lost:=true }=true:=fun e h=>h
   have h0:DT (match E0 ats bs i ats.length with | some b=>(⟨stamp,(CR b:Nat),false⟩:Ent) | none=>t.getD i ez)=true:=by
    cases E0 ats bs i ats.length with
    | some b=>simp only [DT,hst,hsum,Bool.and_self]
    | none=>exact Av.1 t2 _ (A7 (d:=ez) (by omega))
   unfold J_;simp only;split
   ·exact he _ h0
   ·exact h0
  ·simp only [DT,hst,hsum,Bool.and_self]
 rw [hall];have hla:HE (Bx g t had ats bs stamp) g.d.toNat=false:=by
  unfold HE Bx;rw [AH (by simp)];simp
 rw [hla];rfl
end
theorem Se {x:Ent} (h:DT x=true) (r:List UInt8):Jg (J5 x ++ r)=x:=by
 obtain⟨a,s,l⟩:=x;simp only [DT,Ib,Ae,AI] at h;have hn:nums [4,4,1] (rowB [a,s,Dj l] [4,4,1] ++ r)=[a,s,Dj l]:=nums_rowB [a,s,Dj l] [4,4,1] r rfl (fun k h1 _=>by
  match k,h1 with
  | 0,_=>exact⟨.inr (.inr rfl),h.1.1,by show a<4294967296;omega⟩
  | 1,_=>exact⟨.inr (.inr rfl),h.2.1,by show s<4294967296;omega⟩
  | 2,_=>exact⟨.inl rfl,by show 0<=Dj l;unfold Dj;split <;> decide,by show Dj l<256;unfold Dj;split <;> decide⟩)
 unfold Jg J5;rw [hn];cases l <;> rfl
theorem entsOf_tblB:∀ (t:List Ent),(∀ e∈t,DT e=true)->entsOf t.length (CY t)=t
 | [],_=>rfl
 | e::t,h=>by
  have e1:CY (e::t)=J5 e ++ CY t:=by simp [CY]
  have e2:(J5 e ++ CY t).drop 9=CY t:=by
   rw [List.drop_append_of_le_length (by rw [Ko];exact Ah _),AD (by rw [Ko];exact Ah _)];rfl
  show Jg (CY (e::t))::entsOf t.length ((CY (e::t)).drop 9)=e::t;rw [e1,e2,Se (h e (by simp)),entsOf_tblB t fun x hx=>h x (Bd _ hx)]
theorem Jo {g:Geo} {t:List Ent} (ht:GG g t=true):C8 g (CY t)=some t:=by
 have hh:=ht;simp only [GG,Ae,decide_eq_true_eq,Av] at hh;obtain⟨⟨⟨_,t1⟩,t2⟩,_⟩:=hh;have e:(g.d+1).toNat=t.length:=by omega
 unfold C8;rw [e,entsOf_tblB t t2,if_pos ⟨ht,rfl⟩]
def OneTab (l:List Img):Prop:=l.Pairwise fun x y=>x.what=255->y.what=255->x.zone≠y.zone
theorem Ff (z:Int) (t:List Ent) (par:List UInt8) (ats:List Int) (bs:List (List UInt8)):(Cf z t par ats bs).length=ats.length+2:=by simp [Cf]
theorem MC {g:Geo} (hg:Bq g=true) {z:Int} (hz:0<=z/\z<g.z) {t:List Ent} (ht:GG g t=true) {par:List UInt8} (hp:par.length=8) {ats:List Int} (ha:∀ a∈ats,0<=a/\a<g.d) {bs:List (List UInt8)} (hb:∀ b∈bs,b.length=8) (hl:ats.length<=bs.length):∀ x∈Cf z t par ats bs,B4 g x=true/\x.zone=z:=by
 obtain⟨g1,g2,g3,g4,g5⟩:=Aq.1 hg;have hz':CK z 0 (g.z - 1)=true:=AI.2 (by omega);intro x hx;simp only [Cf,A5,AP,AO,AU,CW,or_false] at hx;rcases hx with ⟨i,hi,rfl⟩ | rfl | rfl
 ·have h1:=ha _ (A7 (d:=0) hi);have h2:=hb _ (A7 (d:= []) (show i<bs.length by omega));refine⟨?_,rfl⟩;simp only [B4,hg,hz',BF];rw [if_neg (by omega),AI.2 (show -1<=ats.getD i 0/\ats.getD i 0<=g.d - 1 by omega),decide_eq_true h2];rfl
 ·refine⟨?_,rfl⟩;simp only [B4,hg,hz',BF];rw [if_neg (by decide),AI.2 (show (-1:Int)<= -1/\(-1:Int)<=g.d - 1 by omega),decide_eq_true hp];rfl
 ·refine⟨?_,rfl⟩;simp only [B4,hg,hz',BF];rw [if_pos trivial,Jo ht];rfl
theorem Lt {g:Geo} (hg:Bq g=true) {l:List Img} {z:Int} (hl:OneTab l) (hz:∀ x∈l,x.zone<z) {t:List Ent} {par:List UInt8} {ats:List Int} (ha:∀ a∈ats,0<=a/\a<g.d) {bs:List (List UInt8)}:OneTab (l ++ Cf z t par ats bs):=by
 obtain⟨g1,g2,g3,g4,g5⟩:=Aq.1 hg;have hw:∀ x∈(List.range ats.length).map (fun i=>(⟨z,ats.getD i 0,bs.getD i []⟩:Img)),x.what≠255:=by
  intro x hx;obtain⟨i,hi,rfl⟩:=AP.1 hx;have:=ha _ (A7 (d:=0) (AO.1 hi));show ats.getD i 0≠255;omega
 refine List.pairwise_append.2 ⟨hl,List.pairwise_append.2 ⟨List.Pairwise.imp_of_mem (R:=fun _ _=>True) (fun hx _ _ h=>absurd h (hw _ hx)) (List.pairwise_of_forall (fun _ _=>trivial)),?_,fun x hx y _ h=>absurd h (hw _ hx)⟩,fun x hx y hy _ _=>?_⟩
 ·refine List.pairwise_cons.2 ⟨fun y _ h=>absurd (show (-1:Int)=255 from h) (by decide),List.pairwise_singleton _ _⟩
 ·have h1:=hz x hx;have h2:y.zone=z:=by
   simp only [Cf,A5,AP,AO,AU,CW,or_false] at hy;rcases hy with ⟨i,_,rfl⟩ | rfl | rfl <;> rfl
  omega
end
end Go.Proofs.YtkolckdakddggaaGreatDoor.A
