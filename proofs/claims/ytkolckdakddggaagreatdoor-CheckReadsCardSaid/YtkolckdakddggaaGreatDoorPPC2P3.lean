/-
Several texts in one.
-/
import Derived.Test.YtkolckdakddggaaGreatDoorPPC2P2
import Derived.RangeFuncNested
import Derived.RangeFuncBound
import Derived.RangeFuncCalls
import Derived.RangeFuncLeaves
import Derived.RangeFuncBox
import Derived.Shelf.Abstract
import Derived.Shelf.RegionOpen
import Derived.OwnWalkIn
import Derived.TacticsInMore
import Derived.LoopNIn
import Derived.LoopIn
import Derived.Test.YtkolckdakddggaaGreatDoorPPC2P1
import Derived.Test.YtkolckdakddggaaGreatDoorPPC2P0
import Derived.Lib.Overlaps
import Derived.Laws.Externs
set_option linter.defProp false
set_option maxRecDepth 100000
set_option maxHeartbeats 8000000
set_option linter.unusedSimpArgs false
set_option linter.unusedVariables false
set_option linter.deprecated false
namespace Go.Proofs.YtkolckdakddggaaGreatDoor.A
section
open Go.RowKit
def Dl (n j:Nat):List Nat:=(List.range j).map fun i=>n - 1 - i
structure IsBack (P:Program) (gf:FuncId) (sz:Nat):Prop where
 enters:∀ args w,(callFunc gf args).run P w = .ok (.enter gf args) w
 seq:∀ (m:Nat),1<=m->∀ (B:Nat) (a:Option Addr) (len cap:Nat) (X:Nat->List Value) (w:World),len<=1000000000->w.cell? ⟨B,0,none⟩=some (.slice a len cap)->(∀ j,(X j).length=sz)->
  (0<len->∃ b off,a=some ⟨b,off,none⟩/\b<w.heap.size/\∀ j,j<len->∀ (i:Nat) (u:Value),(X j)[i]? = some u->w.cell? ⟨b,off+j*sz+i,none⟩=some u)->
  SeqStopsK Fence.wide m P gf #[.pointer (some ⟨B,0,none⟩)] (fun x:Fin len=> #[Value.int .i64 x.val, .agg (X x.val).toArray]) (Below w.heap.size) (fun ys=>ys.map Fin.val=Dl len len) (fun pre=>∃ k,k<=len/\pre.map Fin.val=Dl len k) len w

section
variable {P:Program} {T:Tys} {w0:Fl} {M0:Ms} {n d0:Nat} {ce:Ctx}
theorem RdAt.raw:∀ (l:List AV) {c:Ctx} {b off:Nat},RdAt l c b off->RdL l c ((List.range' off l.length).map fun i=>(c.w.cell? ⟨b,i,none⟩).getD undef)
 | [],_,_,_,_=>by simp [RdL]
 | x::l,c,b,off,h=>by
  simp only [RdAt] at h
  obtain⟨⟨u,h1,_,h3⟩,h4⟩:=h
  simp only [Al,List.range'_succ,A0,RdL]
  exact⟨_,_,rfl,by rw [h1];exact h3,RdAt.raw l h4⟩
theorem RdAt.some:∀ (l:List AV) {c:Ctx} {b off:Nat},RdAt l c b off->∀ i,i<l.length->∃ u,c.w.cell? ⟨b,off+i,none⟩=some u
 | [],_,_,_,_,i,hi=>by simp at hi
 | x::l,c,b,off,h,i,hi=>by
  simp only [RdAt] at h
  obtain⟨⟨u,h1,_,h3⟩,h4⟩:=h
  cases i with
  | zero=>exact⟨u,h1⟩
  | succ i=>
   obtain⟨v,hv⟩:=RdAt.some l h4 i (by simpa using hi)
   exact⟨v,by rw [show off+(i+1)=off+1+i by omega];exact hv⟩
def noIter:List AB->Bool
 | []=>true
 | .iter _ _::_=>false
 | _::r=>noIter r
theorem noIter_get:∀ {H:List AB},noIter H=true->∀ (k:Nat) (s:ByteArray) (p:Nat),H[k]? ≠some (.iter s p)
 | [],_,_,_,_,h=>by simp at h
 | x::r,h,k,s,p,hk=>by
  cases k with
  | zero=>simp at hk;subst hk;simp [noIter] at h
  | succ k=>
   simp at hk
   refine noIter_get (H:=r) ?_ k s p hk
   cases x <;> first | exact h | (simp [noIter] at h)
theorem HS.cells {c:Ctx} {H:List AB} (h:HS w0 M0 c H) (hni:noIter H=true) {k:Nat} {x:AB} {g:Nat} (hk:H[k]? = some x) (hl:x.live=true) (hg:oB (c.rho k)=some g):∃ o:Obj,c.w.heap[g]? = some o/\o.isCells=true:=by
 have hx:=h.blk k x hk
 cases x with
 | dead=>cases hl
 | iter s p=>exact absurd hk (noIter_get hni k s p)
 | box t cs=>
  obtain⟨g',xs,h1,h2,_⟩:=hx
  rw [h1] at hg
  simp only [oB,Option.some.injEq] at hg
  subst hg
  exact⟨_,h2,rfl⟩
 | row t sz es=>
  obtain⟨_,_,_,xs,⟨_,h4⟩,_⟩:=hx
  rcases h4 with ⟨e,_⟩ | ⟨g',cap,cur,e,_,hh,_⟩
  ·rw [e] at hg;cases hg
  ·rw [e] at hg
   simp only [oB,Option.some.injEq] at hg
   subst hg
   exact⟨_,hh,rfl⟩
 | rowo t sz es m=>
  obtain⟨_,_,_,_,xs,⟨_,h4⟩,_⟩:=hx
  rcases h4 with ⟨e,_⟩ | ⟨g',cap,cur,e,_,hh,_⟩
  ·rw [e] at hg;cases hg
  ·rw [e] at hg
   simp only [oB,Option.some.injEq] at hg
   subst hg
   exact⟨_,hh,rfl⟩
theorem HS.turn {c:Ctx} {H:List AB} (h:HS w0 M0 c H) (hni:noIter H=true) {B0:Nat} (hB:w0.w.heap.size<=B0) {W':World} {row:Option Nat} (hg:c.w.grownBy W' row) (hr:∀ r,row=some r->B0<=r/\∃ o:Obj,c.w.heap[r]? = some o/\o.isCells=false) :
  HS w0 M0 { c with w:=W' } H/\Like c { c with w:=W' }:=by
 have hoth:∀ (g:Nat) (o:Obj),c.w.heap[g]? = some o->o.isCells=true->W'.heap[g]? = c.w.heap[g]? :=by
  intro g o ho hc
  refine hg.block g (Ay.1 ho).1 fun e=>?_
  obtain⟨_,o',ho',hc'⟩:=hr g e.symm
  rw [ho] at ho'
  cases ho'
  rw [hc] at hc'
  cases hc'
 have hl:Like c { c with w:=W' }:=by
  refine⟨rfl,hg.size,fun a u hu=>?_,rfl,rfl,rfl⟩
  obtain⟨o,ho,hc⟩:=cells_of_cell hu
  exact(World.cell?_of_block (hoth _ _ ho hc)).trans hu
 refine⟨⟨⟨hg.os.trans h.low.os,hg.tape.trans h.low.tape,hg.output.trans h.low.output,Bi h.low.size hg.size,fun b hb=>?_⟩,h.base,h.dom,h.foreign,fun b hm=>At (h.lt b hm) hg.size,fun k x hk=>?_,h.own,h.dis⟩,hl⟩
 ·rw [<-h.low.block b hb]
  have hb':=w0.lt b hb
  refine hg.block b (At hb' h.low.size) fun e=>?_
  have:=(hr b e.symm).1
  omega
 ·have hx:=h.blk k x hk
  cases x with
  | dead=>trivial
  | iter s p=>exact absurd hk (noIter_get hni k s p)
  | box t cs=>
   obtain⟨g,xs,h1,h2,h3,h4⟩:=hx
   exact⟨g,xs,h1,(hoth g _ h2 rfl).trans h2,RdL.like cs hl h3,h4⟩
  | row t sz es=>
   obtain⟨h1,h2,h3,xs,h4,h5,h6⟩:=hx
   refine⟨h1,h2,h3,xs,?_,RdL.like _ hl.closed h5,h6⟩
   refine⟨h4.1,h4.2.imp id ?_⟩
   rintro⟨g,cap,cur,q1,q2,q3,q4⟩
   exact⟨g,cap,cur,q1,q2,(hoth g _ q3 rfl).trans q3,q4⟩
  | rowo t sz es m=>
   obtain⟨h1,h2,h3,h3',xs,h4,h5,h6⟩:=hx
   refine⟨h1,h2,h3,h3',xs,?_,RdL.like _ hl h5,h6⟩
   refine⟨h4.1,h4.2.imp id ?_⟩
   rintro⟨g,cap,cur,q1,q2,q3,q4⟩
   exact⟨g,cap,cur,q1,q2,(hoth g _ q3 rfl).trans q3,q4⟩
theorem Ext.turn {c0 c:Ctx} (h:Ext c0 c) {B0:Nat} (hB:c0.w.heap.size<=B0) {W':World} {row:Option Nat} (hg:c.w.grownBy W' row) (hr:∀ r,row=some r->B0<=r/\∃ o:Obj,c.w.heap[r]? = some o/\o.isCells=false):Ext c0 { c with w:=W' }:=
 ⟨hg.os.trans h.os,hg.tape.trans h.tape,hg.output.trans h.output,Bi h.size hg.size,fun b hb hm=>⟨(h.keep b hb hm).1,(hg.block b (At hb h.size) fun e=>by have:=(hr b e.symm).1;omega).trans (h.keep b hb hm).2⟩,h.dom,h.len,h.rho,h.box⟩
def Ctx.slim (c:Ctx) (B0:Nat) (H:List AB):Ctx:={ c with M:=fun b=>c.M b/\(b<B0\/∃ (j:Nat) (y:AB),H[j]? = some y/\y.live=true/\oB (c.rho j)=some b) }
theorem HS.slim {c:Ctx} {H:List AB} (h:HS w0 M0 c H) {B0:Nat} (hB:w0.w.heap.size<=B0):HS w0 M0 (c.slim B0 H) H/\Ext c (c.slim B0 H):=by
 have he:Ext c (c.slim B0 H):=⟨rfl,rfl,rfl,Ah _,fun b _ hm=>⟨fun h=>hm h.1,rfl⟩,Ah _,fun _ _=>Ah _,fun _ _ _=>rfl,fun _ _ _ h=>h⟩
 refine⟨⟨h.low,h.base,h.dom,fun b hb=>⟨fun hm=>(h.foreign b hb).1 hm.1,fun hm=>⟨(h.foreign b hb).2 hm, .inl (At (w0.lt b hb) hB)⟩⟩,fun b hm=>h.lt b hm.1,fun k x hk=>?_,fun k x g hk hl ho=>⟨⟨(h.own k x g hk hl ho).1, .inr ⟨k,x,hk,hl,ho⟩⟩,(h.own k x g hk hl ho).2⟩,h.dis⟩,he⟩
 have hx:=h.blk k x hk
 cases x with
 | dead=>trivial
 | iter s p=>exact hx
 | box t cs=>
  obtain⟨g,xs,h1,h2,h3,h4⟩:=hx
  exact⟨g,xs,h1,h2,RdL.ext cs he h3,h4⟩
 | row t sz es=>
  obtain⟨h1,h2,h3,xs,h4,h5,h6⟩:=hx
  exact⟨h1,h2,h3,xs,h4,RdL.ext _ he.closed h5,h6⟩
 | rowo t sz es m=>
  obtain⟨h1,h2,h3,h3',xs,h4,h5,h6⟩:=hx
  exact⟨h1,h2,h3,h3',xs,h4,RdL.ext _ he h5,h6⟩
theorem LA {c:Ctx} {H:List AB} (h:HS w0 M0 c H) (hni:noIter H=true) {B0 b:Nat} (hb:B0<=b) (hm:(c.slim B0 H).M b):∃ o:Obj,c.w.heap[b]? = some o/\o.isCells=true:=by
 obtain⟨_,h1 | ⟨j,y,h1,h2,h3⟩⟩:=hm
 ·omega
 ·exact h.cells hni h1 h2 h3
def GZ (T:Tys) (n:Nat):Code->Fr->List AB->(Fr->List AB->Prop)->Prop
 | .skip,fr,H,K=>K fr H
 | .region _ ops false,fr,H,K=>match ops.toList with
  | [o1]=>match o1.op,o1.dst,o1.guard with
   | .assign (.tmp s),some d,none=>match Nat.blt d n with
    | true=>Dz (fget fr s) fun x=>K ((d,x)::fr) H
    | false=>False
   | _,_,_=>False
  | [o1,o2]=>match o1.op,o1.dst,o1.guard,o2.op,o2.dst,o2.guard with
   | .alloc t,some d,none, .store t' (.tmp d') (.tmp s),none,none=>match Nat.beq t t'&&Nat.beq d d'&&!Nat.beq s d&&Nat.blt d n with
    | true=>match tget T t with
     | some ty=>match ty.zero.all (·.oneCell')&&Nat.beq ty.zero.length ty.sz with
      | true=>Dz (fget fr s) fun x=>match cellsOk x&&Nat.beq (cells1 x).length ty.sz with
       | true=>snocK H (.box t (cells1 x)) 0 fun k H=>K ((d, .bp k 0)::fr) H
       | false=>False
      | false=>False
     | none=>False
    | false=>False
   | _,_,_,_,_,_=>False
  | _=>False
 | .seq x y,fr,H,K=>GZ T n x fr H fun fr H=>GZ T n y fr H K
 | _,_,_,_=>False
theorem OB (hT:TOk P T) {l m:Nat} {ops:Array Oper} {o1 o2:Oper} {t:TypeId} {d s:Nat} {ty:Ty} (h1:o1.op = .alloc t) (h1d:o1.dst=some d) (h1g:o1.guard=none) (h2:o2.op = .store t (.tmp d) (.tmp s)) (h2d:o2.dst=none) (h2g:o2.guard=none) (hne:s≠d) (hd:d<n)
  (ht:tget T t=some ty) (hz:ty.zero.all (·.oneCell')=true) (hzl:ty.zero.length=ty.sz) {K:Fr->List AB->Prop} {Q:Exit->Act->World->Prop} {c:Ctx} {fr:Fr} {H:List AB} {a:Act} (hs:HS w0 M0 c H) (hf:FR w0 c n fr a) (he:Ext ce c)
  (hok:(cellsOk (fget fr s)&&Nat.beq (cells1 (fget fr s)).length ty.sz)=true) (h:K ((d, .bp H.length 0)::fr) (H ++ [.box t (cells1 (fget fr s))])) (hq:∀ a w,Eh w0 M0 ce n K a w->Old c.w w->Q .normal a w):wpListIn (Fence.wide.inRound l) m P ops Q [o1,o2] a c.w:=by
 simp only [Ad] at hok
 have hsz:=Am hok.2
 obtain⟨i,dd,z,hp⟩:=(hT.get ht).parts
 have hxl0:ty.zero.length=ty.sz:=hzl
 obtain⟨c1,e1,e2,e3,e4⟩:=hs.box t (cs:=ty.zero.map .v) (xs:=ty.zero) (Jk _) (fun u hu=>Aw.1 hz u hu)
 have hrun:(execOp a.eval o1).run P c.w = .ok (.value (.pointer (some ⟨c.w.heap.size,0,none⟩))) c1.w:=by
  have hzc:z.cells=ty.zero.toArray:=Array.ext' (by simpa using hp.zc)
  simp [execOp,h1,Instr.alloc,zeroValue,typeInfo,hp.info,hp.zero,IL,e1,hzc]
 unfold wpListIn
 rw [if_pos (by simp [Region.wanted,h1g])]
 refine Hk (by intro c e;rw [h1] at e;cases e) ?_
 unfold Oper.wp
 rw [hrun,Oper.upon_value,h1d]
 unfold wpListIn
 rw [if_pos (by simp [Region.wanted,h2g])]
 refine Hk (by intro c e;rw [h2] at e;cases e) ?_
 have hf1:FR w0 c1 n ((d, .bp H.length 0)::fr) (a.put (some d) (.pointer (some ⟨c.w.heap.size,0,none⟩))):=(hf.ext e3).put hd e4
 have hfs:fget ((d, .bp H.length 0)::fr) s=fget fr s:=by
  show (bif Nat.beq d s then AV.bp H.length 0 else fget fr s)=fget fr s
  cases hb:Nat.beq d s with
  | true=>exact absurd (Am hb).symm hne
  | false=>rfl
 have hev:Rd (fget fr s) c1 ((a.put (some d) (.pointer (some ⟨c.w.heap.size,0,none⟩))).eval (.tmp s)):=by
  rw [<-hfs]
  exact hf1.get s
 have hevd:(a.put (some d) (.pointer (some ⟨c.w.heap.size,0,none⟩))).eval (.tmp d) = .pointer (some ⟨c.w.heap.size,0,none⟩):=by
  have hsz':=hf.size
  simp only [Act.eval,Act.put]
  rw [AN,CQ (by omega)]
  rfl
 generalize hav:a.put (some d) (.pointer (some ⟨c.w.heap.size,0,none⟩))=a1 at hf1 hev hevd |-
 obtain⟨hc1,hc2⟩:=I4 hev hok.1
 have hcl:=hc1.length
 have hcs:(a1.eval (.tmp s)).cells.size=ty.sz:=by rw [<-hsz,<-hcl];simp
 have hj:(H ++ [AB.box t (ty.zero.map .v)])[H.length]? = some (.box t (ty.zero.map .v)):=by simp
 obtain⟨g,xs,q1,q2,q3,q4⟩:=e2.blk _ _ hj
 have hg:g=c.w.heap.size:=by
  simp only [Rd] at e4
  obtain⟨_,g',hg',hu⟩:=e4
  rw [q1] at hg'
  cases hg'
  simpa using hu.symm
 subst hg
 have hxl:xs.length=ty.sz:=by rw [<-hxl0];have:=q3.length;simpa using this
 obtain⟨w',r1,r2,r3,r4,r5,r6,r7⟩:=Em (P:=P) (a1.eval (.tmp s)).cells.toList (i:=0) (off:=0) q2 hc2 (by simp;omega)
 have hrun2:(execOp a1.eval o2).run P c1.w = .ok .skip w':=by
  have:=FW (a:=⟨c.w.heap.size,0,none⟩) (hT.get ht) hcs r1
  simp [execOp,h2,Instr.storeAt,hevd,Instr.sureAddr,this]
 unfold Oper.wp
 rw [hrun2,Oper.upon_skip,h2d]
 have hE:Ext c1 { c1 with w:=w' }:=⟨r5,r6,r7,by simp [r4],fun b _ hm=>⟨hm,r3 b fun e=>hm (e ▸ (e2.own _ _ c.w.heap.size hj rfl (by rw [q1];rfl)).1)⟩,Ah _,fun _ _=>Ah _,fun _ _ _=>rfl,fun _ _ _ h=>h⟩
 have hset:=e2.set_ (y:= .box t (cells1 (fget fr s))) hj rfl rfl (g:=c.w.heap.size) (by rw [q1];rfl) r3 r4 r5 r6 r7 (by
  refine⟨c.w.heap.size,(a1.eval (.tmp s)).cells.toList,q1,?_,RdL.ext _ hE hc1,hc2⟩
  have hlen:(a1.eval (.tmp s)).cells.toList.length=xs.length:=by simp;omega
  rw [CS,List.take_zero,Bu,Az,A8 (by omega),AM] at r2
  exact r2)
 unfold wpListIn
 refine hq _ _ ⟨{ c1 with w:=w' },_,_,rfl,h,?_,hf1.ext hE,(he.trans e3).trans hE⟩ ?_
 ·have:=hset.1
  rwa [List.set_append_right _ _ (Ah _),D7,List.set_cons_zero] at this
 ·intro b hb
  rw [r3 b (by omega),e1]
  exact((Below.refl c.w.heap.size c.w).alloc (Ah _) _).block b hb
theorem OR {l m:Nat} {ops:Array Oper} {o1:Oper} {d s:Nat} (h1:o1.op = .assign (.tmp s)) (h1d:o1.dst=some d) (h1g:o1.guard=none) (hd:d<n) {K:Fr->List AB->Prop} {Q:Exit->Act->World->Prop} {c:Ctx} {fr:Fr} {H:List AB} {a:Act} (hs:HS w0 M0 c H) (hf:FR w0 c n fr a) (he:Ext ce c)
  (h:K ((d,fget fr s)::fr) H) (hq:∀ a w,Eh w0 M0 ce n K a w->Old c.w w->Q .normal a w):wpListIn (Fence.wide.inRound l) m P ops Q [o1] a c.w:=by
 unfold wpListIn
 rw [if_pos (by simp [Region.wanted,h1g])]
 refine Hk (by intro c e;rw [h1] at e;cases e) ?_
 unfold Oper.wp
 rw [show (execOp a.eval o1).run P c.w = .ok (.value (a.eval (.tmp s))) c.w by simp [execOp,h1],Oper.upon_value,h1d]
 unfold wpListIn
 exact hq _ _ ⟨c,_,H,rfl,h,hs,hf.put hd (hf.get s),he⟩ (zx _)
theorem Hz (hT:TOk P T) {l m:Nat}:∀ {asg:Code} {K:Fr->List AB->Prop} {Q:Exit->Act->World->Prop} {c:Ctx} {fr:Fr} {H:List AB} {a:Act},HS w0 M0 c H->FR w0 c n fr a->Ext ce c->GZ T n asg fr H K->
  (∀ a w,Eh w0 M0 ce n K a w->Old c.w w->Q .normal a w)->asg.wpIn (Fence.wide.inRound l) m P Q a c.w
 | .skip,K,Q,c,fr,H,a,hs,hf,he,h,hq=>wpIn_skip (hq _ _ ⟨c,fr,H,rfl,h,hs,hf,he⟩ (zx _))
 | .seq x y,K,Q,c,fr,H,a,hs,hf,he,h,hq=>by
  simp only [GZ] at h
  refine wpIn_seq_k fun KK hK=>Hz hT (asg:=x) hs hf he h ?_
  rintro a' w' ⟨c',fr',H',rfl,h1,h2,h3,h4⟩ hold
  exact hK _ _ (Hz hT (asg:=y) h2 h3 h4 h1 fun a2 w2 hl ho=>hq a2 w2 hl (hold.trans ho))
 | .region id ops draw,K,Q,c,fr,H,a,hs,hf,he,h,hq=>by
  cases draw with
  | true=>simp [GZ] at h
  | false=>
  simp only [GZ] at h
  split at h
  ·rename_i o1 hops
   split at h
   ·rename_i s d h1 h1d h1g
    split at h
    ·rename_i hb
     have h:=BP h
     refine wpIn_region_list ?_
     rw [hops]
     exact OR h1 h1d h1g (by simpa using hb) hs hf he h hq
    ·exact h.elim
   ·exact h.elim
  ·rename_i o1 o2 hops
   split at h
   ·rename_i t d t' d' s h1 h1d h1g h2 h2d h2g
    split at h
    ·rename_i hb
     simp only [Ad,Bm] at hb
     obtain⟨⟨⟨hb1,hb2⟩,hb3⟩,hb4⟩:=hb
     have:=Am hb1
     subst this
     have:=Am hb2
     subst this
     have hne:s≠d:=fun e=>by subst e;rw [Nat.beq_refl] at hb3;cases hb3
     split at h
     ·rename_i ty ht
      split at h
      ·rename_i hz
       simp only [Ad] at hz
       have h:=BP h
       split at h
       ·rename_i hok
        have h:=snocK_iff h
        rw [Az] at h
        refine wpIn_region_list ?_
        rw [hops]
        exact OB hT h1 h1d h1g h2 h2d h2g hne (by simpa using hb4) ht hz.1 (Am hz.2) hs hf he hok h hq
       ·exact h.elim
      ·exact h.elim
     ·exact h.elim
    ·exact h.elim
   ·exact h.elim
  ·exact h.elim
 | .cond _ _ _,_,_,_,_,_,_,_,_,_,h,_=>by simp [GZ] at h
 | .block _ _,_,_,_,_,_,_,_,_,_,h,_=>by simp [GZ] at h
 | .exit _,_,_,_,_,_,_,_,_,_,h,_=>by simp [GZ] at h
 | .ret,_,_,_,_,_,_,_,_,_,h,_=>by simp [GZ] at h
 | .loop _,_,_,_,_,_,_,_,_,_,h,_=>by simp [GZ] at h
 | .rangeFunc _ _ _ _,_,_,_,_,_,_,_,_,_,h,_=>by simp [GZ] at h
 | .label _,_,_,_,_,_,_,_,_,_,h,_=>by simp [GZ] at h
 | .goto _,_,_,_,_,_,_,_,_,_,h,_=>by simp [GZ] at h
 | .scope _,_,_,_,_,_,_,_,_,_,h,_=>by simp [GZ] at h
 | .refuse _,_,_,_,_,_,_,_,_,_,h,_=>by simp [GZ] at h
def Ls (H:List AB) (x:AV) (sz len:Nat) (E:Nat->List AV):Prop:=
 match x with
 | .ow k n'=>n'=len/\∃ t es,hget H k=some (.row t sz es)/\es.length=len/\E=fun i=>es.getD i []
 | .sl sz' n' get=>sz'=sz/\n'=len/\E=get
 | .v (.slice none 0 0)=>len=0
 | _=>False
theorem MV {c:Ctx} {H:List AB} (hs:HS w0 M0 c H) {x:AV} {sz len:Nat} {E:Nat->List AV} (h:Ls H x sz len E) {u:Value} (hr:Rd x c u) :
  ∃ a cap,u = .slice a len cap/\(0<len->∃ b off,a=some ⟨b,off,none⟩/\b<c.w.heap.size/\∀ i,i<len->(E i).length=sz/\RdAt (E i) c.closed b (off+i*sz)):=by
 unfold Ls at h
 split at h
 ·obtain⟨rfl,t,es,hk,hl,rfl⟩:=h
  rename_i k n'
  rw [hget_eq] at hk
  obtain⟨h1,h2,h3,xs,h4,h5,h6⟩:=hs.blk _ _ hk
  simp only [Rd] at hr
  obtain⟨_,_,⟨a,p,rfl,ha⟩,he⟩:=hr
  refine⟨a,p,rfl,fun hp=>?_⟩
  have hrho:=he (by rw [h1,hl])
  obtain⟨g,rfl⟩:=ha (by omega)
  have hgl:g<c.w.heap.size:=by
   rcases h4.2 with ⟨e,_⟩ | ⟨g',cap,cur,e,_,hh,_⟩
   ·rw [<-hrho] at e;cases e
   ·rw [<-hrho] at e;cases e;exact(Ay.1 hh).1
  have hat:=RdAt.of (b:=g) (off:=0) h5 h6 fun j u hu=>by rw [Az];exact Hf (hl ▸ h4) hrho.symm hu
  exact⟨g,0,rfl,hgl,fun i hi=>⟨h3 _ (by simp only [Aa];rw [Af (by omega)];exact C2 _),by rw [Az];exact IG h3 hat (by omega)⟩⟩
 ·obtain⟨rfl,rfl,rfl⟩:=h
  simp only [Rd] at hr
  obtain⟨a,k,rfl,h1,h2,h3⟩:=hr
  refine⟨a,k,rfl,fun hp=>?_⟩
  rcases h3 with h3 | ⟨b,off,rfl,_,hb,hc⟩
  ·omega
  ·exact⟨b,off,rfl,hb,hc⟩
 ·subst h
  simp only [Rd] at hr
  subst hr
  exact⟨none,0,rfl,fun hp=>absurd hp (Nat.lt_irrefl _)⟩
 ·exact h.elim
end
section
variable {P:Program} {T:Tys} {w0:Fl} {M0:Ms} {n d0:Nat} {ce:Ctx}
def Fl.off (w0:Fl):Fl:=⟨w0.w,w0.old,w0.lt,w0.gl,False⟩
theorem HS.off {c:Ctx} {H:List AB} (h:HS w0 M0 c H):HS w0.off M0 c H:=⟨⟨h.low.os,h.low.tape,h.low.output,h.low.size,h.low.block⟩,h.base,h.dom,h.foreign,h.lt,h.blk,h.own,h.dis⟩
theorem HS.on {c:Ctx} {H:List AB} (h:HS w0.off M0 c H):HS w0 M0 c H:=⟨⟨h.low.os,h.low.tape,h.low.output,h.low.size,h.low.block⟩,h.base,h.dom,h.foreign,h.lt,h.blk,h.own,h.dis⟩
theorem FR.off {c:Ctx} {fr:Fr} {a:Act} (h1:a.tmps.size=n) (h2:∀ i,Rd (fget fr i) c (a.tmps.getD i undef)) (hc:¬w0.chk):FR w0 c n fr a:=⟨h1,DfOk.free hc,h2⟩
def frozen (fr:Fr) (H:List AB):Fr->Prop
 | []=>True
 | (i,x)::r=>((x.lt 0=true/\fget fr i=x)\/∃ kk tt cs,x = .rp cs/\AV.ltL cs 0=true/\fget fr i = .bp kk 0/\hget H kk=some (.box tt cs))/\frozen fr H r
def Ctx.calm (c:Ctx) (w:World):Ctx:=⟨w,0,fun _=>False,c.rho,c.len,0⟩
theorem NF {c:Ctx} {H:List AB} (hs:HS w0 M0 c H) {fr:Fr} {us:Array Value} (hf:∀ i,Rd (fget fr i) c (us.getD i undef)):∀ {frz:Fr},frozen fr H frz->∀ i,Rd (fget frz i) (c.calm c.w) (us.getD i undef)
 | [],_,i=>by simp [fget,Rd]
 | (j,x)::r,h,i=>by
  have hcut:Cut c (c.calm c.w):=⟨⟨rfl,rfl,rfl,Ah _,fun _ _ _=>⟨fun h=>h,rfl⟩,Ah _,fun k hk=>absurd hk (Ap k),fun k hk=>absurd hk (Ap k),fun k _ hk=>absurd hk (Ap k)⟩,fun _ _=>⟨rfl,rfl⟩⟩
  unfold fget
  cases hb:Nat.beq j i with
  | false=>exact NF hs hf h.2 i
  | true=>
   have:=Am hb
   subst this
   simp only [cond_true]
   rcases h.1 with ⟨h1,h2⟩ | ⟨kk,tt,cs,rfl,h1,h2,h3⟩
   ·refine Rd.cut x hcut h1 ?_
    rw [<-h2]
    exact hf j
   ·have hr:=hf j
    rw [h2] at hr
    simp only [Rd] at hr
    obtain⟨_,g,hg,hu⟩:=hr
    rw [hget_eq] at h3
    obtain⟨g',xs,q1,q2,q3,q4⟩:=hs.blk _ _ h3
    rw [q1] at hg
    cases hg
    rw [hu]
    simp only [Rd]
    refine⟨g,0,rfl,fun h=>h,(Ay.1 q2).1,?_⟩
    exact RdAt.of (c:=(c.calm c.w).closed) (b:=g) (off:=0) (RdL.cut cs hcut h1 q3) q4 fun j u hu=>by rw [Az];show c.w.cell? _=_;rw [cell_of_row _ g _ _ tt (0,0) q2];simpa using hu
def EX.code:EX->Code
 | .normal=> .skip
 | .exit id=> .exit id
 | .ret=> .ret
theorem N0 {W W':World} {c:Ctx} (hB:c.w.heap.size<=W.heap.size) (ho:Old W W') (h1:W'.os=W.os) (h2:W'.tape=W.tape) (h3:W'.output=W.output) (h4:W.heap.size<=W'.heap.size):Below c.w.heap.size W W':=
 ⟨h1,h2,h3,h4,fun b hb=>ho b (At hb hB)⟩
theorem R5 {len k:Nat} (hk:k<=len) {pre:List Nat} {x:Nat} (h:pre ++ [x]=Dl len k) {p:Nat->Prop} (hp:∀ y∈pre,p y):∀ j,x<j->j<len->p j:=by
 intro j hj hl
 have h1:k=pre.length+1:=by have:=congrArg List.length h;simpa [Dl] using this.symm
 subst h1
 have hx:x=len - 1 - pre.length:=by
  have:=congrArg (fun l=>l[pre.length]?) h
  simp [Dl] at this
  exact this
 have hi:len - 1 - j<pre.length:=by omega
 have h2:=congrArg (fun l=>l[len - 1 - j]?) h
 simp only [Dl,AC hi,Be,BF (show len - 1 - j<pre.length+1 by omega),Option.map_some] at h2
 rw [show len - 1 - (len - 1 - j)=j by omega] at h2
 exact hp j (DA h2)
theorem DfOk.lt {c:Ctx} (hc:w0.chk):∀ {l:List Deferred},DfOk w0 c l->∀ e∈l,∃ b,e.target = .collected b/\b<c.w.heap.size
 | d::r,h,e,he=>by
  rcases AQ.1 he with rfl | he
  ·obtain⟨b,rfl,_,_,h4,_⟩:=h.1 hc
   exact⟨b,rfl,(Ay.1 h4).1⟩
  ·exact DfOk.lt hc h.2 e he
theorem Uc {len:Nat} {i:Nat} (hi:i<len):i∈Dl len len:=by
 rw [Dl,AR]
 exact⟨len - 1 - i,by simp;omega,by omega⟩

def WZ (P:Program) (n:Nat) (w0:Fl) (M0:Ms) (c:Ctx) (a:Act) (gf:FuncId) (g:Operand) (p1 p2:Nat) (asg body:Code) (Q:QA) (fr:Fr) (len:Nat) (hit:Nat->Bool):Prop:=
 ∃ (gB:Nat) (X:Nat->List Value) (I:List (Fin len)->World->Prop) (Ix:Code->List (Fin len)->World->Prop) (Ax:Fin len->Act->World->Prop),
  a.eval g = .func (.func gf) #[] #[.pointer (some ⟨gB,0,none⟩)]/\
  (∀ m,1<=m->SeqStopsK Fence.wide m P gf #[.pointer (some ⟨gB,0,none⟩)] (fun x:Fin len=> #[Value.int .i64 x.val, .agg (X x.val).toArray]) (Below c.w.heap.size) (fun ys=>ys.map Fin.val=Dl len len) (fun pre=>∃ k,k<=len/\pre.map Fin.val=Dl len k) len c.w)/\
  OwnFrom c.w.heap.size I/\(∀ cd,OwnFrom c.w.heap.size (Ix cd))/\I [] c.w/\(∀ x a',OwnFrom c.w.heap.size (fun(_:Unit) W=>Ax x a' W))/\
  (∀ (k l:Nat) (pre:List (Fin len)) (y:Fin len) (W:World) (K:Act->World->Prop),I pre W->(∀ a' W',KeepsFrom c.w.heap.size W W'->Below c.w.heap.size W W'->I pre W'->Ax y a' W'->K a' W')->
   asg.wpIn (Fence.wide.inRound l) k P (Exit.then K (fun _ _ _=>False)) { tmps:=((#[p1,p2]:Array Tmp).zip #[Value.int .i64 y.val, .agg (X y.val).toArray]).foldl (fun t (p,v)=>t.setIfInBounds p v) a.tmps,defers:= [] } W)/\
  (∀ (k:Nat),(noRF body=true\/3<=k)->∀ (l:Nat) (pre:List (Fin len)) (y:Fin len) (a':Act) (W:World),c.w.heap.size<=l->(∃ r,W.heap[l]? = some (.loop r))->I pre W->Ax y a' W->pre.length<len->
   body.wpIn (Fence.wide.inRound l) k P (ownPostG c.w.heap.size (Below c.w.heap.size) I Ix (pre ++ [y]) W) a' W)/\
  (∀ (ys:List (Fin len)) (W:World),ys.map Fin.val=Dl len len->I ys W->Below c.w.heap.size c.w W/\∀ i,i<len->hit i=false)/\
  (∀ (cd:Code) (pre:List (Fin len)) (W:World),(∃ k,k<=len/\pre.map Fin.val=Dl len k)->Ix cd pre W->∃ ex c' H',cd=EX.code ex/\ex≠ .normal/\Q ex fr H'/\c'.w=W/\HS w0 M0 c' H'/\Ext c c'/\noIter H'=true/\(∀ b,c.w.heap.size<=b->c'.M b->∃ (j:Nat) (y:AB),H'[j]? = some y/\y.live=true/\oB (c'.rho j)=some b))
theorem Uz (hT:TOk P T) {gf:FuncId} {sz:Nat} (hgf:IsBack P gf sz) {g:Operand} {p1 p2:Nat} {asg body:Code} {Q:QA} {fr:Fr} {H:List AB} {B len:Nat} {tb:TypeId} {x:AV} {E:Nat->List AV}
  (hg:ev fr g = .fn gf [.bp B 0]) (hB:hget H B=some (.box tb [x])) (hx:Ls H x sz len E) (hbig:len<=1000000000) (_hni:noIter H=true) (hp:p1<n/\p2<n) (hrb:roundOk body=true)
  (frz:Fr) (hfz:frozen fr H frz) (hit:Nat->Bool)
  (hskip:∀ i,i<len->hit i=false->GZ T n asg ((p2, .ag (E i))::(p1, .v (.int .i64 i))::frz) [] fun fr' H'=>noIter H'=true/\Cr P T n 0 body (fun ex _ _=>ex = .normal) fr' H')
  (hhit:∀ i,i<len->hit i=true->GZ T n asg ((p2, .ag (E i))::(p1, .v (.int .i64 i))::fr) H fun fr' H'=>noIter H'=true/\Cr P T n H.length body (fun ex _ H'=>ex≠ .normal/\noIter H'=true/\((∀ j,i<j->j<len->hit j=false)->Q ex fr H')) fr' H')
  (w0:Fl) (M0:Ms) (c:Ctx) (a:Act) (hs:HS w0 M0 c H) (hf:FR w0 c n fr a):WZ P n w0 M0 c a gf g p1 p2 asg body Q fr len hit:=by
 have hgv:=hf.ev g
 rw [hg] at hgv
 simp only [Rd,RdL] at hgv
 obtain⟨_,hgv,_,_,rfl,⟨hBd,gB,hgB,rfl⟩,rfl⟩:=hgv
 rw [hget_eq] at hB
 obtain⟨g',xs,q1,q2,q3,q4⟩:=hs.blk _ _ hB
 rw [hgB] at q1
 cases q1
 simp only [RdL] at q3
 obtain⟨u,_,rfl,hu,rfl⟩:=q3
 obtain⟨ad,cap,rfl,hel⟩:=MV hs hx hu
 have hcB:c.w.cell? ⟨gB,0,none⟩=some (.slice ad len cap):=by rw [cell_of_row _ gB _ _ tb (0,0) q2];rfl
 obtain⟨X,hXl,hXr,hXc⟩:∃ X:Nat->List Value,(∀ j,(X j).length=sz)/\(∀ i,i<len->RdL (E i) c.closed (X i))/\(0<len->∃ b off,ad=some ⟨b,off,none⟩/\b<c.w.heap.size/\∀ j,j<len->∀ (i:Nat) (u:Value),(X j)[i]? = some u->c.w.cell? ⟨b,off+j*sz+i,none⟩=some u):=by
  rcases Dt len with h0 | h0
  ·exact⟨fun _=>List.replicate sz undef,by simp,fun i hi=>by omega,fun h=>by omega⟩
  ·obtain⟨b,off,h1,h2,h3⟩:=hel h0
   refine⟨fun j=>(List.range' (off+j*sz) sz).map fun i=>(c.w.cell? ⟨b,i,none⟩).getD undef,by simp,fun i hi=>?_,fun _=>⟨b,off,h1,h2,fun j hj i u hi=>?_⟩⟩
   ·have:=RdAt.raw _ (h3 i hi).2
    rw [(h3 i hi).1] at this
    exact this
   ·obtain⟨v,hv⟩:=RdAt.some _ (h3 j hj).2 i (by
     rw [(h3 j hj).1]
     have:=(Aq.1 hi).1
     simpa using this)
    have hv':c.w.cell? ⟨b,off+j*sz+i,none⟩=some v:=hv
    rw [hv']
    have hil:i<sz:=by
     have:=(Aq.1 hi).1
     simpa using this
    rw [Be,List.getElem?_range' hil] at hi
    simp only [Option.map_some,Nat.one_mul,Option.some.injEq] at hi
    rw [hv'] at hi
    simpa using hi
 have hseq:=fun(m:Nat) (hm:1<=m)=>hgf.seq m hm gB ad len cap X c.w hbig hcB hXl hXc
 have hgl:=hs.glob
 have hlow:=hs.low.size
 -- the two memories of a round
 let wS:Fl:=(Fl.all c.w hgl).off
 have hskipHS:∀ W,Below c.w.heap.size c.w W->HS wS (fun _=>False) (c.calm W) []:=fun W hW=>
  ⟨⟨hW.os,hW.tape,hW.output,hW.size,fun b hb=>hW.block b hb⟩,rfl,rfl,fun _ _=>Iff.rfl,fun _ h=>h.elim,by simp,by simp,by simp⟩
 have hcalm:∀ W,Below c.w.heap.size c.w W->Ext (c.calm c.w) (c.calm W):=fun W hW=>
  ⟨hW.os,hW.tape,hW.output,hW.size,fun b hb _=>⟨fun h=>h,hW.block b hb⟩,Ah _,fun k hk=>absurd hk (Ap k),fun k hk=>absurd hk (Ap k),fun k _ hk=>absurd hk (Ap k)⟩
 have hclcalm:Ext c.closed (c.calm c.w):=⟨rfl,rfl,rfl,Ah _,fun _ _ _=>⟨fun h=>h,rfl⟩,Ah _,fun k hk=>absurd hk (Ap k),fun k hk=>absurd hk (Ap k),fun k _ hk=>absurd hk (Ap k)⟩
 refine⟨gB,X,(fun pre W=>Below c.w.heap.size c.w W/\∀ y∈pre,hit y.val=false),
  (fun cd pre W=>∃ ex pr y c' H',pre=pr ++ [y]/\(∀ z∈pr,hit z.val=false)/\cd=ex.code/\ex≠ .normal/\((∀ j,y.val<j->j<len->hit j=false)->Q ex fr H')/\c'.w=W/\HS w0 M0 c' H'/\Ext c c'/\noIter H'=true/\(∀ b,c.w.heap.size<=b->c'.M b->∃ (j:Nat) (y:AB),H'[j]? = some y/\y.live=true/\oB (c'.rho j)=some b)),
  (fun y a' W=>(hit y.val=false->∃ c' fr' H',c'.w=W/\HS wS (fun _=>False) c' H'/\noIter H'=true/\a'.tmps.size=n/\(∀ i,Rd (fget fr' i) c' (a'.tmps.getD i undef))/\(∀ b,c.w.heap.size<=b->c'.M b->∃ o:Obj,c'.w.heap[b]? = some o/\o.isCells=true)/\Cr P T n 0 body (fun ex _ _=>ex = .normal) fr' H'/\c'.dom=H'.length)/\
   (hit y.val=true->∃ c' fr' H',c'.w=W/\HS w0 M0 c' H'/\noIter H'=true/\a'.tmps.size=n/\(∀ i,Rd (fget fr' i) c' (a'.tmps.getD i undef))/\Ext c c'/\(∀ b,c.w.heap.size<=b->c'.M b->∃ o:Obj,c'.w.heap[b]? = some o/\o.isCells=true)/\Cr P T n H.length body (fun ex _ H'=>ex≠ .normal/\noIter H'=true/\((∀ j,y.val<j->j<len->hit j=false)->Q ex fr H')) fr' H')),hgv,hseq,?hI,?hIx,⟨Below.refl _ _,by simp⟩,?hAx,?assign,?body,?done,?stop⟩
 case hI=>exact OwnFrom.and (ownFrom_below (Ah _) (Ah _)) (ownFrom_pure _ _)
 case hIx=>
  rintro cd s W W' row ⟨ex,pr,y,c',H',h1,h2,h3,h4,h5,rfl,h6,h7,h8,h9⟩ hgr hrow
  obtain⟨k1,k2⟩:=h6.turn h8 hlow hgr hrow
  exact⟨ex,pr,y,_,H',h1,h2,h3,h4,h5,rfl,k1,h7.turn (Ah _) hgr hrow,h8,h9⟩
 case hAx=>
  have keep:∀ (c':Ctx) {W':World} {row:Option Nat},c'.w.grownBy W' row->(∀ r,row=some r->c.w.heap.size<=r/\∃ o:Obj,c'.w.heap[r]? = some o/\o.isCells=false)->(∀ b,c.w.heap.size<=b->c'.M b->∃ o:Obj,c'.w.heap[b]? = some o/\o.isCells=true)->∀ b,c.w.heap.size<=b->c'.M b->∃ o:Obj,W'.heap[b]? = some o/\o.isCells=true:=by
   intro c' W' row hgr hrow h b hb hm
   obtain⟨o,h1,h2⟩:=h b hb hm
   refine⟨o,(hgr.block b (Ay.1 h1).1 fun e=>?_).trans h1,h2⟩
   obtain⟨_,o',h3,h4⟩:=hrow b e.symm
   rw [h1] at h3
   cases h3
   rw [h2] at h4
   cases h4
  rintro y a' s W W' row ⟨hA,hC⟩ hgr hrow
  refine⟨fun hh=>?_,fun hh=>?_⟩
  ·obtain⟨c',fr',H',rfl,h1,h2,h3,h4,h5,h6,h7⟩:=hA hh
   obtain⟨k1,k2⟩:=h1.turn h2 (Ah _) hgr hrow
   exact⟨_,fr',H',rfl,k1,h2,h3,fun i=>Rd.like _ k2 (h4 i),keep c' hgr hrow h5,h6,h7⟩
  ·obtain⟨c',fr',H',rfl,h1,h2,h3,h4,h5,h6,h7⟩:=hC hh
   obtain⟨k1,k2⟩:=h1.turn h2 hlow hgr hrow
   exact⟨_,fr',H',rfl,k1,h2,h3,fun i=>Rd.like _ k2 (h4 i),h5.turn (Ah _) hgr hrow,keep c' hgr hrow h6,h7⟩
 case assign=>
  rintro _ l pre y W K ⟨hW,hpre⟩ hK
  have hput:∀ (c1:Ctx) (fr1:Fr) (w1:Fl),¬w1.chk->(∀ i,Rd (fget fr1 i) c1 (a.tmps.getD i undef))->Rd (.ag (E y.val)) c1 (.agg (X y.val).toArray)->
    FR w1 c1 n ((p2, .ag (E y.val))::(p1, .v (.int .i64 (y.val:Nat)))::fr1) { tmps:=((#[p1,p2]:Array Tmp).zip #[Value.int .i64 y.val, .agg (X y.val).toArray]).foldl (fun t (p,v)=>t.setIfInBounds p v) a.tmps,defers:= [] }:=by
   intro c1 fr1 w1 hc hr1 hr2
   have h0:FR w1 c1 n fr1 { tmps:=a.tmps,defers:= [] }:=FR.off hf.size hr1 hc
   have h1:=h0.put (d:=p1) (x:= .v (.int .i64 (y.val:Nat))) (v:= .int .i64 (y.val:Nat)) hp.1 (by simp [Rd])
   have e:∀ (u v:Value),((#[p1,p2]:Array Tmp).zip #[u,v]).foldl (fun t (p,v)=>t.setIfInBounds p v) a.tmps=(a.tmps.setIfInBounds p1 u).setIfInBounds p2 v:=by intro u v;simp
   rw [e]
   exact h1.put (d:=p2) (x:= .ag (E y.val)) (v:= .agg (X y.val).toArray) hp.2 hr2
  have hWs:=hW.size
  cases hh:hit y.val with
  | false=>
   have hE:Rd (.ag (E y.val)) (c.calm W) (.agg (X y.val).toArray):=by
    simp only [Rd]
    exact⟨_,rfl,RdL.ext _ (hclcalm.trans (hcalm W hW)) (hXr y.val y.isLt)⟩
   have hfr:=hput (c.calm W) frz wS (fun h=>h) (fun i=>Rd.ext _ (hcalm W hW) (NF hs hf.get hfz i)) hE
   refine Hz (w0:=wS) (M0:=fun _=>False) (ce:=c.calm W) hT (c:=c.calm W) (hskipHS W hW) hfr (zL _) (hskip y.val y.isLt hh) ?_
   rintro a' W' ⟨c',fr',H',rfl,⟨k1,k2⟩,k3,k4,k5⟩ hold
   have hb:=N0 (c:=c) hWs hold k5.os k5.tape k5.output k5.size
   obtain⟨s1,s2⟩:=k3.slim (B0:=c.w.heap.size) (Ah _)
   refine hK a' c'.w ⟨k5.size,fun k o _ h1 _=>(hold k (Ay.1 h1).1).trans h1⟩ hb ⟨hW.trans hb,hpre⟩ ⟨fun _=>⟨c'.slim c.w.heap.size H',fr',H',rfl,s1,k1,k4.size,(k4.ext s2).get,fun b hb' hm=>LA k3 k1 hb' hm,k2,s1.dom⟩,fun e=>by rw [hh] at e;cases e⟩
  | true=>
   obtain⟨g1,g2⟩:=hs.grow hW
   have hE:Rd (.ag (E y.val)) { c with w:=W } (.agg (X y.val).toArray):=by
    simp only [Rd]
    exact⟨_,rfl,RdL.ext _ ((z8 c).trans g2) (hXr y.val y.isLt)⟩
   have hfr:=hput { c with w:=W } fr w0.off (fun h=>h) (fun i=>Rd.ext _ g2 (hf.get i)) hE
   refine Hz (w0:=w0.off) (M0:=M0) (ce:={ c with w:=W }) hT (c:={ c with w:=W }) g1.off hfr (zL _) (hhit y.val y.isLt hh) ?_
   rintro a' W' ⟨c',fr',H',rfl,⟨k1,k2⟩,k3,k4,k5⟩ hold
   have hb:=N0 (c:=c) hWs hold k5.os k5.tape k5.output k5.size
   obtain⟨s1,s2⟩:=k3.slim (B0:=c.w.heap.size) hlow
   refine hK a' c'.w ⟨k5.size,fun k o _ h1 _=>(hold k (Ay.1 h1).1).trans h1⟩ hb ⟨hW.trans hb,hpre⟩ ⟨fun e=>(by rw [hh] at e;cases e),fun _=>⟨c'.slim c.w.heap.size H',fr',H',rfl,s1.on,k1,k4.size,(k4.ext s2).get,(g2.trans k5).trans s2,fun b hb' hm=>LA k3 k1 hb' hm,k2⟩⟩
 case body=>
  rintro _ hk l pre y a' W hl ⟨rl,hrl⟩ ⟨hW,hpre⟩ ⟨hA,hC⟩ hlt
  cases hh:hit y.val with
  | false=>
   obtain⟨c',fr',H',rfl,h1,h2,h3,h4,h5,h6,h7⟩:=hA hh
   refine Cx (w0:=wS) (M0:=fun _=>False) (ce:={ c' with dom:=0 }) (d0:=0) hT rfl body _ _ c' fr' H' a' hrb (hk.imp_right fun q=>⟨q,rl,hrl,fun hM=>(by
    obtain⟨o',q1,q2⟩:=h5 l hl hM
    rw [hrl] at q1
    cases q1
    cases q2)⟩) ?_ h1 (FR.off h3 h4 fun h=>h) (z8 c') h6
   intro e a3 W3 hl3
   have go:∀ ex:EX,Eh wS (fun _=>False) { c' with dom:=0 } n (fun _ _=>ex = .normal) a3 W3->ex = .normal/\KeepsFrom c.w.heap.size c'.w W3/\Below c.w.heap.size c'.w W3:=by
    rintro ex ⟨c3,fr3,H3,rfl,e1,e2,e3,e4⟩
    have hlw:=e2.low
    refine⟨e1,⟨e4.size,fun k o hk ho hc=>?_⟩,⟨e4.os,e4.tape,e4.output,e4.size,fun b hb=>(hlw.block b hb).trans (hW.block b hb).symm⟩⟩
    refine(e4.keep k (Ay.1 ho).1 fun hm=>?_).2.trans ho
    obtain⟨o',q1,q2⟩:=h5 k hk hm
    rw [ho] at q1
    cases q1
    rw [hc] at q2
    cases q2
   cases e with
   | normal=>
    obtain⟨_,k1,k2⟩:=go .normal hl3
    exact⟨k1,k2,hW.trans k2,fun z hz=>by
     rcases A6.1 hz with h | h
     ·exact hpre z h
     ·simp at h;subst h;exact hh⟩
   | exit id=>exact absurd (go (.exit id) hl3).1 (by simp)
   | ret=>exact absurd (go .ret hl3).1 (by simp)
   | _=>exact hl3.elim
  | true=>
   obtain⟨c',fr',H',rfl,h1,h2,h3,h4,h5,h6,h7⟩:=hC hh
   have hce:Ext c { c' with dom:=H.length }:=⟨h5.os,h5.tape,h5.output,h5.size,h5.keep,by show c.dom<=H.length;rw [hs.dom];exact Ah _,h5.len,h5.rho,h5.box⟩
   have hce2:Ext { c' with dom:=H.length } c':=⟨rfl,rfl,rfl,Ah _,fun _ _ h=>⟨h,rfl⟩,by show H.length<=c'.dom;rw [<-hs.dom];exact h5.dom,fun _ _=>Ah _,fun _ _ _=>rfl,fun _ _ _ h=>h⟩
   refine Cx (w0:=w0.off) (M0:=M0) (ce:={ c' with dom:=H.length }) (d0:=H.length) hT rfl body _ _ c' fr' H' a' hrb (hk.imp_right fun q=>⟨q,rl,hrl,fun hM=>(by
    obtain⟨o',q1,q2⟩:=h6 l hl hM
    rw [hrl] at q1
    cases q1
    cases q2)⟩) ?_ h1.off (FR.off h3 h4 fun h=>h) hce2 h7
   intro e a3 W3 hl3
   have go:∀ ex:EX,Eh w0.off M0 { c' with dom:=H.length } n (fun _ H'=>ex≠ .normal/\noIter H'=true/\((∀ j,y.val<j->j<len->hit j=false)->Q ex fr H')) a3 W3->ex≠ .normal/\KeepsFrom c.w.heap.size c'.w W3/\∃ c3 H3,c3.w=W3/\HS w0.off M0 c3 H3/\Ext { c' with dom:=H.length } c3/\noIter H3=true/\((∀ j,y.val<j->j<len->hit j=false)->Q ex fr H3):=by
    rintro ex ⟨c3,fr3,H3,rfl,⟨e0,e1,e5⟩,e2,e3,e4⟩
    refine⟨e0,⟨e4.size,fun k o hk ho hc=>?_⟩,c3,H3,rfl,e2,e4,e1,e5⟩
    refine(e4.keep k (Ay.1 ho).1 fun hm=>?_).2.trans ho
    obtain⟨o',q1,q2⟩:=h6 k hk hm
    rw [ho] at q1
    cases q1
    rw [hc] at q2
    cases q2
   have mk:∀ ex:EX,Eh w0.off M0 { c' with dom:=H.length } n (fun _ H'=>ex≠ .normal/\noIter H'=true/\((∀ j,y.val<j->j<len->hit j=false)->Q ex fr H')) a3 W3->ex≠ .normal/\KeepsFrom c.w.heap.size c'.w W3/\∃ ex' pr y' c'' H'',pre ++ [y]=pr ++ [y']/\(∀ z∈pr,hit z.val=false)/\ex.code=ex'.code/\ex'≠ .normal/\((∀ j,y'.val<j->j<len->hit j=false)->Q ex' fr H'')/\c''.w=W3/\HS w0 M0 c'' H''/\Ext c c''/\noIter H''=true/\(∀ b,c.w.heap.size<=b->c''.M b->∃ (j:Nat) (y:AB),H''[j]? = some y/\y.live=true/\oB (c''.rho j)=some b):=by
    intro ex hl4
    obtain⟨k0,k1,c3,H3,rfl,k2,k3,k4,k5⟩:=go ex hl4
    obtain⟨s1,s2⟩:=k2.slim (B0:=c.w.heap.size) hlow
    exact⟨k0,k1,ex,pre,y,c3.slim c.w.heap.size H3,H3,rfl,hpre,rfl,k0,k5,rfl,s1.on,(hce.trans k3).trans s2,k4,fun b hb hm=>hm.2.resolve_left (by omega)⟩
   cases e with
   | normal=>exact absurd rfl (mk .normal hl3).1
   | exit id=>exact(mk (.exit id) hl3).2
   | ret=>exact(mk .ret hl3).2
   | _=>exact hl3.elim
 case done=>
  rintro ys W hys ⟨hW,hpre⟩
  refine⟨hW,fun i hi=>?_⟩
  have:=Uc hi
  rw [<-hys,AR] at this
  obtain⟨y,hy,rfl⟩:=this
  exact hpre y hy
 case stop=>
  rintro cd pre W ⟨k,hk,hpre⟩ ⟨ex,pr,y,c',H',rfl,h2,rfl,h4,h5,rfl,h6,h7,h8,h9⟩
  refine⟨ex,c',H',rfl,h4,h5 (R5 hk (pre:=pr.map Fin.val) (x:=y.val) (by rw [<-hpre];simp) (p:=fun j=>hit j=false) (by
   intro z hz
   obtain⟨z',hz',rfl⟩:=AR.1 hz
   exact h2 z' hz')),rfl,h6,h7,h8,h9⟩
theorem aRF.back (hT:TOk P T) {gf:FuncId} {sz:Nat} (hgf:IsBack P gf sz) {g:Operand} {p1 p2:Nat} {asg body:Code} {Q:QA} {fr:Fr} {H:List AB} {B len:Nat} {tb:TypeId} {x:AV} {E:Nat->List AV}
  (hg:ev fr g = .fn gf [.bp B 0]) (hB:hget H B=some (.box tb [x])) (hx:Ls H x sz len E) (hbig:len<=1000000000) (_hni:noIter H=true) (hp:p1<n/\p2<n) (hrb:roundOk body=true)
  (frz:Fr) (hfz:frozen fr H frz) (hit:Nat->Bool)
  (hskip:∀ i,i<len->hit i=false->GZ T n asg ((p2, .ag (E i))::(p1, .v (.int .i64 i))::frz) [] fun fr' H'=>noIter H'=true/\Cr P T n 0 body (fun ex _ _=>ex = .normal) fr' H')
  (hhit:∀ i,i<len->hit i=true->GZ T n asg ((p2, .ag (E i))::(p1, .v (.int .i64 i))::fr) H fun fr' H'=>noIter H'=true/\Cr P T n H.length body (fun ex _ H'=>ex≠ .normal/\noIter H'=true/\((∀ j,i<j->j<len->hit j=false)->Q ex fr H')) fr' H')
  (hdone:(∀ i,i<len->hit i=false)->Q .normal fr H):aRF P T n d0 g #[p1,p2] asg body Q fr H:=by
 have core:=fun w0 M0 c a hs hf=>Uz hT hgf (Q:=Q) hg hB hx hbig _hni hp hrb frz hfz hit hskip hhit (w0:=w0) (M0:=M0) (c:=c) (a:=a) hs hf
 refine⟨fun w0 M0 ce c a hs hf he hd Q' hQ=>?_,fun hb w0 M0 ce c a hs hf he hd l0 r0 m hl0 hm Q' hQ=>?_⟩
 ·have hlow:=hs.low.size
  obtain⟨gB,X,I,Ix,Ax,k1,k2,k3,k4,k5,k6,k7,k8,k9,k10⟩:=core w0 M0 c a hs hf
  refine(wpIn_wide (n:=9)).1 ?_
  refine wpIn_rangeFunc_ownH (F:=Fence.wide) (n:=9) rfl (by omega) (gf:=gf) (lb:= #[.pointer (some ⟨gB,0,none⟩)]) k1 trivial hgf.enters (k2 8 (by omega)) (fun h k=>h.trans k)
   (fun W l o o' hl ho _ _=>(Below.refl _ W).grown (grownBy_putObj' W l o') (Bi hl (Nat.le_of_lt (Ay.1 ho).1)) (fun k e=>by cases e;exact hl)) (Below.refl _ _) (fun _=>rfl)
   I Ix k3 k4 k5 Ax k6 (k7 7) (k8 7 (.inr (by omega))) ?_ ?_
  ·rintro D ys W hD hys hI hdef
   obtain⟨hW,hall⟩:=k9 ys W hys hI
   obtain⟨g1,g2⟩:=hs.grow hW
   refine hQ .normal { c with w:=W } fr H _ (hdone hall) g1 ⟨hf.size,⟨fun _=>⟨D,rfl,Bi hlow hD,fun hm=>by have:=hs.lt D hm;omega,hdef,?_⟩,hf.defers.ext g2⟩,(hf.ext g2).get⟩ (he.trans g2)
   rename_i hck
   intro e he'
   obtain⟨b,hb,hlt⟩:=hf.defers.lt hck e he'
   rw [hb]
   intro e'
   injection e' with e'
   omega
  ·rintro D cd pre W hD hk hIx hdef
   obtain⟨ex,c',H',rfl,h4,hq,rfl,h6,h7,h8,h9⟩:=k10 cd pre W hk hIx
   have hM:¬c'.M D:=by
    intro hm
    obtain⟨j,y',q1,q2,q3⟩:=h9 D hD hm
    obtain⟨o,q4,q5⟩:=h6.cells h8 q1 q2 q3
    rw [hdef] at q4
    cases q4
    cases q5
   have hfr:FR w0 c' n fr { a with defers:={ target:= .collected D,args:= #[] }::a.defers }:=by
    refine⟨hf.size,⟨fun hck=>⟨D,rfl,Bi hlow hD,hM,hdef,?_⟩,hf.defers.ext h7⟩,(hf.ext h7).get⟩
    intro e he'
    obtain⟨b,hb,hlt⟩:=hf.defers.lt hck e he'
    rw [hb]
    intro e'
    injection e' with e'
    omega
   cases ex with
   | normal=>exact absurd rfl h4
   | exit id=>exact wpIn_exit (hQ (.exit id) c' fr H' _ hq h6 hfr (he.trans h7))
   | ret=>exact wpIn_ret (hQ .ret c' fr H' _ hq h6 hfr (he.trans h7))
 ·obtain⟨gB,X,I,Ix,Ax,k1,k2,k3,k4,k5,k6,k7,k8,k9,k10⟩:=core w0 M0 c a hs hf
  refine wpIn_rangeFunc_ownN (F:=Fence.wide.inRound l0) (n:=m) (l₀:=l0) (r₀:=r0) rfl hl0 (by omega) (gf:=gf) (lb:= #[.pointer (some ⟨gB,0,none⟩)]) k1 trivial hgf.enters (k2 (m - 1) (by omega)) (fun h k=>h.trans k)
   (fun W l o o' hl ho _ _=>(Below.refl _ W).grown (grownBy_putObj' W l o') (Bi hl (Nat.le_of_lt (Ay.1 ho).1)) (fun k e=>by cases e;exact hl)) (Below.refl _ _) (fun _=>rfl)
   I Ix k3 k4 k5 Ax k6 (k7 (m - 1 - 1)) (k8 (m - 1 - 1) (.inl hb)) ?_ ?_
  ·rintro ys W hys hI
   obtain⟨hW,hall⟩:=k9 ys W hys hI
   obtain⟨g1,g2⟩:=hs.grow hW
   exact hQ .normal { c with w:=W } fr H _ (hdone hall) g1 (hf.ext g2) (he.trans g2)
  ·rintro cd pre W hk hIx
   obtain⟨ex,c',H',rfl,h4,hq,rfl,h6,h7,h8,h9⟩:=k10 cd pre W hk hIx
   cases ex with
   | normal=>exact absurd rfl h4
   | exit id=>exact wpIn_exit (hQ (.exit id) c' fr H' _ hq h6 (hf.ext h7) (he.trans h7))
   | ret=>exact wpIn_ret (hQ .ret c' fr H' _ hq h6 (hf.ext h7) (he.trans h7))
end
end
section
open Go.RowKit Go.Shelf
attribute [local go_sem] Oper.semAt_some

theorem F5 (n j:Nat):Dl n (j+1)=Dl n j ++ [n - 1 - j]:=by simp [Dl,B5]
theorem Hw (n j:Nat):(Dl n j).length=j:=by simp [Dl]

theorem WK (F:Fence) (n:Nat) (h7:F.fn 164) (hro:F.round=none) (hn:1<=n) (l Bs n₀ b off len cap:Nat) (X Y:Nat->Value) (hlen:len<=1000000000) (hb:b<n₀) (hBn:Bs<n₀) (J Jx:List Nat->World->Prop)
  (hY:∀ pre x W,J pre W->pre.length<len->x<len->YieldAt F (n - 1) Tryz.prog l #[.int .i64 (x:Nat), .agg #[X x,Y x]] W fun e W'=>
   (e = .returned (.bool true)/\J (pre ++ [x]) W'/\Below n₀ W W')\/(e = .returned (.bool false)/\Jx (pre ++ [x]) W'))
  (W:World) (hBs:W.cell? ⟨Bs,0,none⟩=some (.slice (some ⟨b,off,none⟩) len cap)) (hc0:∀ j,j<len->W.cell? ⟨b,off+j*2,none⟩=some (X j)) (hc1:∀ j,j<len->W.cell? ⟨b,off+j*2+1,none⟩=some (Y j)) (h0:J [] W) :
  CallsIn F n Tryz.prog 164 #[.func (.yield l) #[] #[], .pointer (some ⟨Bs,0,none⟩)] W fun e W'=>(∃ v,e = .returned v)/\
   ((∃ ys,ys=Dl len len/\J ys W')\/(∃ pre,(∃ k,k<=len/\pre=Dl len k)/\Jx pre W')):=by
 have Hc0:=Lib.hid hc0
 have Hc1:=Lib.hid hc1
 clear hc0 hc1
 refine callsIn_of_wp Tryz.func164 rfl h7 ?_ hro
 simp only [Tryz.ntmps164,BM,Al,AW,Nat.reduceAdd,Nat.reduceSub,CY,CX,D8,Dh,Bu,Bo]
 gi_wp2
 gi_loopw [3] (fun i wr=>∃ k:Nat,k<=len/\i = .int .i64 ((len:Int) - 1 - k)/\J (Dl len k) wr/\Below n₀ W wr)
  (fun i _=>(intOf i+1).toNat)
 case atStart=>exact⟨0,Aj _,by simp,h0,Below.refl _ _⟩
 case round=>
  obtain⟨k,hk,rfl,hJs,hnx⟩:=hrel
  by_cases hlt:k<len
  ·obtain⟨m,hmk⟩:∃ m,len=k+1+m:=⟨len - (k+1),by omega⟩
   rw [show (len:Int) - 1 - k=(m:Int) by omega]
   obtain⟨fn,tmps,assign,body,hy,hR⟩:=hY _ m wr hJs (by rw [Hw];exact hlt) (by omega)
   have e0:=(hnx.cell (p:=⟨b,off+m*2,none⟩) hb).trans (Hc0.out m (by omega))
   have e1:=(hnx.cell (p:=⟨b,off+m*2+1,none⟩) hb).trans (Hc1.out m (by omega))
   have eb:=(hnx.cell (p:=⟨Bs,0,none⟩) hBn).trans hBs
   have hm:(m:Int)<(len:Int):=by omega
   have Hm:=Lib.hid hmk
   clear hmk
   gi_wp2
   refine hR.mono ?_
   rintro e W3 (⟨rfl,hJ3,hk3⟩ | ⟨rfl,hJx3⟩)
   ·gi_wp2
    go_roundw
    case rel=>exact⟨k+1,by omega,congrArg (Value.int .i64) (by have:=Hm.out;omega),by rw [F5,show len - 1 - k=m by have:=Hm.out;omega];exact hJ3,hnx.trans hk3⟩
    case measure=>simp [intOf]
   ·gi_wp2
    refine bodyPost_ret (results_none rfl _ _ _) rfl ?_
    exact⟨⟨_,rfl⟩, .inr ⟨_,⟨k+1,by omega,by rw [F5,show len - 1 - k=m by have:=Hm.out;omega]⟩,hJx3⟩⟩
  ·obtain rfl:k=len:=by omega
   rw [show ((k:Nat):Int) - 1 - k = -1 by omega]
   gi_wp2
   go_end0
   exact⟨⟨_,rfl⟩, .inl ⟨_,rfl,hJs⟩⟩

theorem WL (F:Fence) (n:Nat) (h7:F.fn 164) (hro:F.round=none) (l Bs:Nat) (a:Option Addr) (cap:Nat) (J:List Nat->World->Prop) (W:World) (hBs:W.cell? ⟨Bs,0,none⟩=some (.slice a 0 cap)) (h0:J [] W) :
  CallsIn F n Tryz.prog 164 #[.func (.yield l) #[] #[], .pointer (some ⟨Bs,0,none⟩)] W fun e W'=>(∃ v,e = .returned v)/\J [] W':=by
 refine callsIn_of_wp Tryz.func164 rfl h7 ?_ hro
 simp only [Tryz.ntmps164,BM,Al,AW,Nat.reduceAdd,Nat.reduceSub,CY,CX,D8,Dh,Bu,Bo]
 gi_wp2
 gi_loopw [3] (fun i wr=>i = .int .i64 (-1)/\J [] wr) (fun _ _=>0)
 case atStart=>exact⟨rfl,h0⟩
 case round=>
  obtain⟨rfl,hJs⟩:=hrel
  gi_wp2
  go_end0
  exact⟨⟨_,rfl⟩,hJs⟩

theorem RI (F:Fence) (n:Nat) (h7:F.fn 164) (hro:F.round=none) (hn:1<=n) (Bs n₀:Nat) (a:Option Addr) (len cap:Nat) (X Y:Nat->Value) (hlen:len<=1000000000) (w:World) (hBs:Bs<n₀) (hn₀:n₀<=w.heap.size)
  (hc:w.cell? ⟨Bs,0,none⟩=some (.slice a len cap)) (hI:0<len->∃ b off,a=some ⟨b,off,none⟩/\b<n₀/\∀ j,j<len->w.cell? ⟨b,off+j*2,none⟩=some (X j)/\w.cell? ⟨b,off+j*2+1,none⟩=some (Y j)) :
  SeqStopsK F n Tryz.prog 164 #[.pointer (some ⟨Bs,0,none⟩)] (fun x:Fin len=> #[Value.int .i64 x.val, .agg #[X x,Y x]]) (Below n₀) (fun ys=>ys.map Fin.val=Dl len len) (fun pre=>∃ k,k<=len/\pre.map Fin.val=Dl len k) len w:=fun l J Jx W hW _ _ hY h0=>by
 have hc':=(hW.cell (p:=⟨Bs,0,none⟩) (by show Bs<_;omega)).trans hc
 rcases Dt len with rfl | hp
 ·exact(WL F n h7 hro l Bs a cap (fun _ W=>J [] W) W hc' h0).mono fun e W' ⟨he,hj⟩=>⟨he, .inl ⟨[],rfl,hj⟩⟩
 ·obtain⟨b,off,rfl,hb,hj⟩:=hI hp
  refine(WK F n h7 hro hn l Bs n₀ b off len cap X Y hlen hb hBs (fun pre W=>∃ q:List (Fin len),q.map Fin.val=pre/\J q W) (fun pre W=>∃ q:List (Fin len),q.map Fin.val=pre/\Jx q W) ?_ W hc' (fun j h=>(hW.cell (p:=⟨b,off+j*2,none⟩) (by show b<_;omega)).trans (hj j h).1) (fun j h=>(hW.cell (p:=⟨b,off+j*2+1,none⟩) (by show b<_;omega)).trans (hj j h).2) ⟨[],rfl,h0⟩).mono ?_
  ·rintro pre x W1 ⟨q,hq,hJ⟩ hlt hx
   obtain⟨fn,tmps,assign,body,hy,hR⟩:=hY q ⟨x,hx⟩ W1 hJ (by rw [<-hq,Ab] at hlt;exact hlt)
   refine⟨fn,tmps,assign,body,hy,hR.mono ?_⟩
   rintro e W' (⟨he,h1,h2⟩ | ⟨he,h1⟩)
   ·exact .inl ⟨he,⟨_,by simp [hq],h1⟩,h2⟩
   ·exact .inr ⟨he,⟨_,by simp [hq],h1⟩⟩
  ·rintro e W' ⟨he,⟨ys,rfl,q,hq,hJ⟩ | ⟨pre,⟨k,hk,rfl⟩,q,hq,hJ⟩⟩
   ·exact⟨he, .inl ⟨q,hq,hJ⟩⟩
   ·exact⟨he, .inr ⟨q,⟨k,hk,hq⟩,hJ⟩⟩

theorem back_is:IsBack Tryz.prog 164 2:=by
 refine⟨enters_of Tryz.func164 (by kernel_rfl) rfl,fun m hm B a len cap X w hlen hc hl hI=>?_⟩
 have e:(fun x:Fin len=>(#[Value.int .i64 x.val, .agg (X x.val).toArray]:Array Value))=fun x:Fin len=> #[Value.int .i64 x.val, .agg #[(X x.val).getD 0 undef,(X x.val).getD 1 undef]]:=by
  funext x
  have:=hl x.val
  match h:X x.val with
  | [u,v]=>rfl
  | []=>rw [h] at this;simp at this
  | [_]=>rw [h] at this;simp at this
  | _::_::_::_=>rw [h] at this;simp at this
 rw [e]
 refine RI Fence.wide m trivial rfl hm B w.heap.size a len cap (fun j=>(X j).getD 0 undef) (fun j=>(X j).getD 1 undef) hlen w (World.block_lt_of_cell? w _ hc) (Ah _) hc fun hp=>?_
 obtain⟨b,off,h1,h2,h3⟩:=hI hp
 refine⟨b,off,h1,h2,fun j hj=>?_⟩
 have h4:=hl j
 match h:X j with
 | [u,v]=>exact⟨h3 j hj 0 u (by rw [h];rfl),h3 j hj 1 v (by rw [h];rfl)⟩
 | []=>rw [h] at h4;simp at h4
 | [_]=>rw [h] at h4;simp at h4
 | _::_::_::_=>rw [h] at h4;simp at h4
end
section
open Go.RowKit
structure Cel where
 state:Int
 bytes:List UInt8
 old:List UInt8
 deriving DecidableEq
def BE (x:Cel):List AV:= [.v (.int .i64 x.state),bA x.bytes,bA x.old]
structure Dk where
 cells:List Cel
 cache:List Wr
 reqs:Int
 left:Int
 deriving DecidableEq
@[reducible] def HK (x y:AV) (reqs left:Int):List AV:= [x,y, .v (.int .i64 reqs), .v (.int .i64 left)]
@[reducible] def dkH (d:Dk):List AB:= [.box 113 (HK (.ow 1 d.cells.length) (.ow 2 d.cache.length) d.reqs d.left), .row 84 3 (d.cells.map BE), .row 131 2 (d.cache.map E5)]
def Dk.req (d:Dk):Dk:={ d with reqs:=if 1048576<IntKind.i64.wrap (d.reqs+1) then 1048576 else IntKind.i64.wrap (d.reqs+1),left:=if d.left > 0 then d.left - 1 else d.left }

theorem Hg (d:Dk) (hl : -1<=d.left/\d.left<=1048576):ACalls Tryz.prog false 97 [.bp 0 0] (dkH d) fun r H=>r = .v (.bool (decide (d.left≠0)))/\H=dkH (if d.left=0 then d else d.req):=by
 refine zg tys_ok Tryz.func97 rfl rfl (by decide) ?_
 conv=>whnf
 refine A3 (fun h=>?_) (fun h=>?_) <;> (repeat rw [Ac] at h) <;> conv=>whnf
 ·exact⟨_,dkH d,fun _ _ h=>h,⟨rfl,rfl,rfl,tv⟩,rfl,⟨rfl,rfl⟩,by simp [h],by rw [if_pos h]⟩
 ·have hw:IntKind.i64.wrap (d.left - 1)=d.left - 1:=by rw [IntKind.wrap_i64];omega
  refine zX ?_
  conv=>whnf
  refine A3 (fun h2=>?_) (fun h2=>?_) <;> (repeat rw [Ac] at h2) <;> conv=>whnf
  ·exact⟨_,dkH d.req,fun _ _ h=>h,⟨by simp [Dk.req,h2,hw],rfl,rfl,tv⟩,rfl,⟨rfl,rfl⟩,by simp [h],by rw [if_neg h]⟩
  ·exact⟨_,dkH d.req,fun _ _ h=>h,⟨by simp [Dk.req];omega,rfl,rfl,tv⟩,rfl,⟨rfl,rfl⟩,by simp [h],by rw [if_neg h]⟩

theorem WJ (a:Option Addr) (len cap:Nat) (w:World) :
  Calls Tryz.prog 98 #[.slice a len cap] w fun e w'=>e = .returned (.func (.func 164) #[] #[.pointer (some ⟨w.heap.size,0,none⟩)])/\w.alloc (.cells #[.slice a len cap] 36)=w':=by
 go_enter Tryz.func98,Tryz.ntmps98
 go_wp2
 go_ret
 exact⟨rfl,rfl⟩

theorem Qs (x:AV) (Hin:List AB) (hx:∀ c u,Rd x c u->∃ a len cap,u = .slice a len cap):ACalls Tryz.prog false 98 [x] Hin fun r H=>r = .fn 164 [.bp Hin.length 0]/\H=Hin ++ [.box 36 [x]]:=by
 refine⟨⟨_,Tryz.func98,rfl,by decide⟩,fun w0 M0 c us hs hr=>?_⟩
 have hr0:=hr
 simp only [RdL] at hr
 obtain⟨u,_,rfl,hu,rfl⟩:=hr
 obtain⟨a,len,cap,rfl⟩:=hx _ _ hu
 obtain⟨c',e1,e2,e3,e4⟩:=hs.box 36 hr0 (by simp [Value.oneCell'])
 refine(WJ a len cap c.w).mono ?_
 rintro e w' ⟨rfl,rfl⟩
 refine⟨_,c',_,_,rfl,by rw [e1],⟨rfl,rfl⟩,e2,e3,?_,fun e=>by cases e⟩
 simp only [Rd,RdL]
 exact⟨_,rfl,_,_,rfl,by simpa only [Rd] using e4,rfl⟩
def NW (l:List Cel):AV:= .sl 3 l.length fun i=>BE (l.getD i ⟨0, [], []⟩)
theorem Mk (l:List Int) (hl:l.length<=1000000000):ACalls Tryz.prog false 89 [iA l] [] fun r H=>r = .ow 0 l.length/\H=[.row 3 1 (l.map Xb)]:=by
 refine zv tys_ok Tryz.func89 rfl rfl (by show 1<=_;decide) ?_
 refine Ae (fun h=>?_) ?_
 ·conv=>whnf
  have h0:=AX.1 h
  subst h0
  exact⟨_, .ow 0 0, [.row 3 1 []],fun _ _ h=>h,zG ⟨[(0,3,1)],⟨rfl,rfl,tv⟩,⟨rfl,tv⟩,⟨rfl,tv⟩,rfl,rfl,rfl⟩,rfl,rfl⟩
 ·refine⟨⟨rfl,by omega⟩,?_⟩
  exact⟨.ow 0 l.length, .ow 0 l.length, [.row 3 1 (l.map Xb)],fun _ _ h=>by rwa [Az] at h,zG ⟨[],tv,⟨rfl,tv⟩,⟨(congrArg (AB.row _ _) (Ic (d:=0) Xb l)).symm,tv⟩,rfl,rfl,rfl⟩,rfl,rfl⟩
theorem NE (l:List Hm) (hl:l.length<=1000000000):ACalls Tryz.prog false 155 [I8 l] [] fun r H=>r = .ow 0 l.length/\H=[.row 53 3 (l.map DG)]:=by
 refine zv tys_ok Tryz.func155 rfl rfl (by show 1<=_;decide) ?_
 refine Ae (fun h=>?_) ?_
 ·conv=>whnf
  have h0:=AX.1 h
  subst h0
  exact⟨_, .ow 0 0, [.row 53 3 []],fun _ _ h=>h,zG ⟨[(0,53,3)],⟨rfl,rfl,tv⟩,⟨rfl,tv⟩,⟨rfl,tv⟩,rfl,rfl,rfl⟩,rfl,rfl⟩
 ·refine⟨⟨rfl,by omega⟩,?_⟩
  exact⟨.ow 0 l.length, .ow 0 l.length, [.row 53 3 (l.map DG)],fun _ _ h=>by rwa [Az] at h,zG ⟨[],tv,⟨rfl,tv⟩,⟨(congrArg (AB.row _ _) (Ic (d:=⟨[],0,0⟩) DG l)).symm,tv⟩,rfl,rfl,rfl⟩,rfl,rfl⟩
theorem Nb (l:List Tx) (hl:l.length<=1000000000):ACalls Tryz.prog false 154 [Di l] [] fun r H=>r = .ow 0 l.length/\H=[.row 45 4 (l.map DH)]:=by
 refine zv tys_ok Tryz.func154 rfl rfl (by show 1<=_;decide) ?_
 refine Ae (fun h=>?_) ?_
 ·conv=>whnf
  have h0:=AX.1 h
  subst h0
  exact⟨_, .ow 0 0, [.row 45 4 []],fun _ _ h=>h,zG ⟨[(0,45,4)],⟨rfl,rfl,tv⟩,⟨rfl,tv⟩,⟨rfl,tv⟩,rfl,rfl,rfl⟩,rfl,rfl⟩
 ·refine⟨⟨rfl,by omega⟩,?_⟩
  exact⟨.ow 0 l.length, .ow 0 l.length, [.row 45 4 (l.map DH)],fun _ _ h=>by rwa [Az] at h,zG ⟨[],tv,⟨rfl,tv⟩,⟨(congrArg (AB.row _ _) (Ic (d:=⟨0,0,0, []⟩) DH l)).symm,tv⟩,rfl,rfl,rfl⟩,rfl,rfl⟩
theorem TC (l:List Img) (hl:l.length<=1000000000):ACalls Tryz.prog false 161 [Eg l] [] fun r H=>r = .ow 0 l.length/\H=[.row 51 3 (l.map E8)]:=by
 refine zv tys_ok Tryz.func161 rfl rfl (by show 1<=_;decide) ?_
 refine Ae (fun h=>?_) ?_
 ·conv=>whnf
  have h0:=AX.1 h
  subst h0
  exact⟨_, .ow 0 0, [.row 51 3 []],fun _ _ h=>h,zG ⟨[(0,51,3)],⟨rfl,rfl,tv⟩,⟨rfl,tv⟩,⟨rfl,tv⟩,rfl,rfl,rfl⟩,rfl,rfl⟩
 ·refine⟨⟨rfl,by omega⟩,?_⟩
  exact⟨.ow 0 l.length, .ow 0 l.length, [.row 51 3 (l.map E8)],fun _ _ h=>by rwa [Az] at h,zG ⟨[],tv,⟨rfl,tv⟩,⟨(congrArg (AB.row _ _) (Ic (d:=⟨0,0, []⟩) E8 l)).symm,tv⟩,rfl,rfl,rfl⟩,rfl,rfl⟩
theorem MH (l:List Cel) (hl:l.length<=1000000000):ACalls Tryz.prog false 95 [NW l] [] fun r H=>r = .ow 0 l.length/\H=[.row 84 3 (l.map BE)]:=by
 refine zv tys_ok Tryz.func95 rfl rfl (by show 1<=_;decide) ?_
 refine Ae (fun h=>?_) ?_
 ·conv=>whnf
  have h0:=AX.1 h
  subst h0
  exact⟨_, .ow 0 0, [.row 84 3 []],fun _ _ h=>h,zG ⟨[(0,84,3)],⟨rfl,rfl,tv⟩,⟨rfl,tv⟩,⟨rfl,tv⟩,rfl,rfl,rfl⟩,rfl,rfl⟩
 ·refine⟨⟨rfl,by omega⟩,?_⟩
  exact⟨.ow 0 l.length, .ow 0 l.length, [.row 84 3 (l.map BE)],fun _ _ h=>by rwa [Az] at h,zG ⟨[],tv,⟨rfl,tv⟩,⟨(congrArg (AB.row _ _) (Ic (d:=⟨0, [], []⟩) BE l)).symm,tv⟩,rfl,rfl,rfl⟩,rfl,rfl⟩
theorem M_ (l:List Wr) (hl:l.length<=1000000000):ACalls Tryz.prog false 96 [II l] [] fun r H=>r = .ow 0 l.length/\H=[.row 131 2 (l.map E5)]:=by
 refine zv tys_ok Tryz.func96 rfl rfl (by show 1<=_;decide) ?_
 refine Ae (fun h=>?_) ?_
 ·conv=>whnf
  have h0:=AX.1 h
  subst h0
  exact⟨_, .ow 0 0, [.row 131 2 []],fun _ _ h=>h,zG ⟨[(0,131,2)],⟨rfl,rfl,tv⟩,⟨rfl,tv⟩,⟨rfl,tv⟩,rfl,rfl,rfl⟩,rfl,rfl⟩
 ·refine⟨⟨rfl,by omega⟩,?_⟩
  exact⟨.ow 0 l.length, .ow 0 l.length, [.row 131 2 (l.map E5)],fun _ _ h=>by rwa [Az] at h,zG ⟨[],tv,⟨rfl,tv⟩,⟨(congrArg (AB.row _ _) (Ic (d:=⟨0, []⟩) E5 l)).symm,tv⟩,rfl,rfl,rfl⟩,rfl,rfl⟩
theorem SubL.app:∀ {a b x y:List AV},SubL a b->SubL x y->SubL (a ++ x) (b ++ y)
 | [], [],_,_,_,k=>k
 | _::_,_::_,_,_,h,k=>⟨h.1,SubL.app h.2 k⟩
 | [],_::_,_,_,h,_=>h.elim
 | _::_, [],_,_,h,_=>h.elim
theorem SubL.flat:∀ {a b:List (List AV)},a.length=b.length->(∀ i,SubL (a.getD i []) (b.getD i []))->SubL a.flatten b.flatten
 | [], [],_,_=>trivial
 | x::a,y::b,hl,h=>by
  rw [AK,AK]
  exact SubL.app (h 0) (SubL.flat (by simpa using hl) fun i=>h (i+1))
 | [],_::_,hl,_=>by simp at hl
 | _::_, [],hl,_=>by simp at hl
theorem ConvH.subRow {H:List AB} {k:Nat} {t:TypeId} {sz:Nat} {es es':List (List AV)} (hk:H[k]? = some (.row t sz es)) (hl:es.length=es'.length) (h:∀ i,SubL (es.getD i []) (es'.getD i [])):ConvH H (H.set k (.row t sz es')):=fun _ _ c hs=>
 ⟨c,rfl,hs.recell hk rfl fun⟨h1,h2,h3,xs,h4,h5,h6⟩=>⟨h1.trans hl,h2,fun e he=>by
  obtain⟨i,hi,rfl⟩:=List.mem_iff_getElem.1 he
  have:=(h i).len
  rw [Aa,Aa,Af hi,Af (by omega)] at this
  simp only [Bz] at this
  rw [<-this]
  exact h3 _ (C2 _),xs,by rw [<-hl];exact h4,(SubL.flat hl h).rdl h5,h6⟩,zL c⟩
def zB:=@ConvH.subRow
theorem ConvH.subRowo {H:List AB} {k:Nat} {t:TypeId} {sz m m':Nat} {es es':List (List AV)} (hk:H[k]? = some (.rowo t sz es m)) (hl:es.length=es'.length) (h:∀ i,SubL (es.getD i []) (es'.getD i [])) (hm:AV.ltL es'.flatten m'=true):ConvH H (H.set k (.rowo t sz es' m')):=fun _ _ c hs=>
 ⟨c,rfl,hs.recell hk rfl fun⟨h1,h2,h3,h7,xs,h4,h5,h6⟩=>⟨h1.trans hl,h2,fun e he=>by
  obtain⟨i,hi,rfl⟩:=List.mem_iff_getElem.1 he
  have:=(h i).len
  rw [Aa,Aa,Af hi,Af (by omega)] at this
  simp only [Bz] at this
  rw [<-this]
  exact h3 _ (C2 _),hm,xs,by rw [<-hl];exact h4,(SubL.flat hl h).rdl h5,h6⟩,zL c⟩
theorem KE {α:Type} {d x:α} {l:List α} {i k:Nat} (h:i≠k):(l.set i x).getD k d=l.getD k d:=by
 rw [Aa,A7 h,<-Aa]
theorem BW {α:Type} {d x:α} {l:List α} {i:Nat} (h:i<l.length):(l.set i x).getD i d=x:=by
 rw [Aa,AA h];rfl
theorem ConvH.last {H:List AB} (k:Nat) {t:TypeId} {sz:Nat} {es:List (List AV)} {e e':List AV} (hk:H[k]? = some (.row t sz (es ++ [e]))) (h:SubL e e'):ConvH H (H.set k (.row t sz (es ++ [e']))):=
 zB hk (by simp) fun i=>by
  by_cases hi:i<es.length
  ·rw [JJ hi,JJ hi];exact SubL.refl _
  ·rw [I0 (by omega),I0 (by omega)]
   cases h2:i - es.length with
   | zero=>exact h
   | succ j=>exact SubL.refl _
def AV.mv (k d:Nat):AV->AV
 | .ow j n=> .ow (bif Nat.beq j k then d else j) n
 | x=>x
theorem Rd.mv {c c':Ctx} {k:Nat} (e:Ext c c') (hd:c.dom<c'.dom) (hr:c'.rho c.dom=c.rho k) (hl:c'.len c.dom=c.len k):∀ (x:AV) {u:Value},Rd x c u->Rd (x.mv k c.dom) c' u
 | .ow j n,u,h=>by
  show Rd (.ow (bif Nat.beq j k then c.dom else j) n) c' u
  cases hb:Nat.beq j k with
  | true=>
   have:=Am hb
   subst this
   simp only [Rd] at h
   simp only [cond_true,Rd]
   exact⟨hd,by rw [hl];exact h.2.1,h.2.2.1,fun e=>by rw [hr];exact h.2.2.2 (by rw [<-hl];exact e)⟩
  | false=>exact Rd.ext _ e h
 | .top,_,h=>Rd.ext _ e h
 | .v _,_,h=>Rd.ext _ e h
 | .sl _ _ _,_,h=>Rd.ext _ e h
 | .rp _,_,h=>Rd.ext _ e h
 | .bp _ _,_,h=>Rd.ext _ e h
 | .ep _ _ _ _ _,_,h=>Rd.ext _ e h
 | .ag _,_,h=>Rd.ext _ e h
 | .tp _,_,h=>Rd.ext _ e h
 | .fn _ _,_,h=>Rd.ext _ e h
 | .ic _ _,_,h=>Rd.ext _ e h
theorem RdL.mv {c c':Ctx} {k:Nat} (e:Ext c c') (hd:c.dom<c'.dom) (hr:c'.rho c.dom=c.rho k) (hl:c'.len c.dom=c.len k):∀ (l:List AV) {us:List Value},RdL l c us->RdL (l.map (AV.mv k c.dom)) c' us
 | [],_,h=>h
 | x::l,_,h=>by
  simp only [RdL] at h
  obtain⟨y,ys,rfl,h1,h2⟩:=h
  simp only [A0,RdL]
  exact⟨y,ys,rfl,Rd.mv e hd hr hl x h1,RdL.mv e hd hr hl l h2⟩
theorem ConvH.move {H:List AB} (i k:Nat) {t ti:TypeId} {sz:Nat} {es:List (List AV)} {cs:List AV} (hik:i≠k) (hi:H[i]? = some (.box ti cs)) (hk:H[k]? = some (.row t sz es)) :
  ConvH H (((H.set k .dead).set i (.box ti (cs.map (AV.mv k H.length)))) ++ [.row t sz es]):=fun w0 M0 c hs=>by
 have hil:=(Aq.1 hi).1
 have hkl:=(Aq.1 hk).1
 have hdom:=hs.dom
 let c':Ctx:={ c with rho:=fun j=>if j=c.dom then c.rho k else c.rho j,len:=fun j=>if j=c.dom then c.len k else c.len j,dom:=c.dom+1 }
 have hn:∀ j,j<c.dom->c'.rho j=c.rho j/\c'.len j=c.len j:=fun j hj=>⟨if_neg (by omega),if_neg (by omega)⟩
 have e:Ext c c':=⟨rfl,rfl,rfl,Ah _,fun _ _ h=>⟨h,rfl⟩,Nat.le_succ _,fun j hj=>by rw [(hn j hj).2];exact Ah _,fun j hj _=>(hn j hj).1,fun j g hj h=>by rw [(hn j hj).1];exact h⟩
 have hr:c'.rho c.dom=c.rho k:=if_pos rfl
 have hl:c'.len c.dom=c.len k:=if_pos rfl
 have get:∀ j x,(((H.set k .dead).set i (.box ti (cs.map (AV.mv k H.length)))) ++ [.row t sz es])[j]? = some x->x.live=true->(j=c.dom/\x = .row t sz es)\/(j<c.dom/\j=i/\x = .box ti (cs.map (AV.mv k c.dom)))\/(j<c.dom/\j≠i/\j≠k/\H[j]? = some x):=fun j x hj hx=>by
  rw [hdom]
  by_cases h1:j<H.length
  ·rw [AC (by simpa using h1)] at hj
   by_cases h2:j=i
   ·subst h2
    rw [AA (by simpa using h1)] at hj
    exact .inr (.inl ⟨h1,rfl,(Option.some.inj hj).symm⟩)
   ·rw [A7 (Ne.symm h2)] at hj
    by_cases h3:j=k
    ·subst h3
     rw [AA h1] at hj
     rw [<-Option.some.inj hj] at hx
     cases hx
    ·rw [A7 (Ne.symm h3)] at hj
     exact .inr (.inr ⟨h1,h2,h3,hj⟩)
  ·rw [AH (by simpa using h1)] at hj
   simp only [Bh] at hj
   cases h2:j - H.length with
   | zero=>rw [h2] at hj;exact .inl ⟨by omega,(Option.some.inj hj).symm⟩
   | succ m=>rw [h2] at hj;simp at hj
 have org:∀ j x,(((H.set k .dead).set i (.box ti (cs.map (AV.mv k H.length)))) ++ [.row t sz es])[j]? = some x->x.live=true->∃ j' y,H[j']? = some y/\y.live=true/\c'.rho j=c.rho j'/\((j=c.dom/\j'=k)\/(j<c.dom/\j'=j/\j≠k)):=fun j x hj hx=>by
  rcases get j x hj hx with ⟨rfl,rfl⟩ | ⟨h1,rfl,rfl⟩ | ⟨h1,h2,h3,h4⟩
  ·exact⟨k,_,hk,rfl,hr, .inl ⟨rfl,rfl⟩⟩
  ·exact⟨j,_,hi,rfl,(hn j h1).1, .inr ⟨h1,rfl,hik⟩⟩
  ·exact⟨j,_,h4,hx,(hn j h1).1, .inr ⟨h1,rfl,h3⟩⟩
 refine⟨c',rfl,⟨hs.low,hs.base,by simp [c',hdom],hs.foreign,hs.lt,fun j x hj=>?_,fun j x g hj hx ho=>?_,fun j1 j2 x y g h1 h2 hx hy o1 o2=>?_⟩,e⟩
 ·cases hx:x.live with
  | false=>cases x <;> first | trivial | cases hx
  | true=>
   rcases get j x hj hx with ⟨rfl,rfl⟩ | ⟨h1,rfl,rfl⟩ | ⟨h1,h2,h3,h4⟩
   ·obtain⟨q1,q2,q3,xs,q4,q5,q6⟩:=hs.blk k _ hk
    exact⟨by rw [hl];exact q1,q2,q3,xs,by rw [hr];exact q4,RdL.ext _ e.closed q5,q6⟩
   ·obtain⟨g,xs,q1,q2,q3,q4⟩:=hs.blk j _ hi
    exact⟨g,xs,by rw [(hn j h1).1];exact q1,q2,RdL.mv e (Nat.lt_succ_self _) hr hl _ q3,q4⟩
   ·exact zu e rfl h1 (hn j h1).2 (fun _ _ _=>rfl) (hs.blk j x h4)
 ·obtain⟨j',y,h1,h2,h3,_⟩:=org j x hj hx
  exact hs.own j' y g h1 h2 (by rw [<-h3];exact ho)
 ·obtain⟨a,y1,p1,p2,p3,p4⟩:=org j1 x h1 hx
  obtain⟨b,y2,r1,r2,r3,r4⟩:=org j2 y h2 hy
  have:=hs.dis a b y1 y2 g p1 r1 p2 r2 (by rw [<-p3];exact o1) (by rw [<-r3];exact o2)
  omega

def zz:=@ConvH.move
def ZP (T:Tys) (m:Nat) (rs:List ResultVar) (K:AV->List AB->Prop):QA:=fun ex fr H=>match ex with
 | .exit _=>False
 | _=>I7 T rs fr H fun x=>∃ y r H2,(∀ c v,Rd x c v->Rd y c v)/\WkR m [(0,y)] H [(0,r)] H2/\K r H2
theorem ACalls.ofR {P : Program} {T : Tys} (hT : TOk P T) {f : FuncId} {fn : Func} {body : Code} {args : List AV} {Hin : List AB} {K : AV → List AB → Prop} (hf : P.funcs[f]? = some fn) (hb : fn.body = some body) (hname : (fn.name == "runtime.NumGoroutine") = false) (hn : args.length ≤ fn.ntmps)
  (h:Cr P T fn.ntmps Hin.length body (ZP T Hin.length fn.results.toList K) (frOf 0 args) Hin):ACalls P false f args Hin K:=by
 refine⟨⟨fn,hf,by rw [hb];rfl,hname⟩,fun w0 M0 c0 us hs0 hr=>?_⟩
 have hlen:=hr.length
 have hFR:FR (w0.at c0.w hs0.low) c0 fn.ntmps (frOf 0 args) { tmps:=us.toArray ++ Array.replicate (fn.ntmps - us.toArray.size) undef,defers:= [] }:=by
  refine⟨by simp;omega,tv,fun i=>?_⟩
  have:=Hr (c:=c0) (m:=fn.ntmps - us.length) (l:=args) (i:=0) (pre:= []) rfl hr i
  rw [AN]
  have e:(us.toArray ++ Array.replicate (fn.ntmps - us.toArray.size) undef)[i]? = ([] ++ us ++ List.replicate (fn.ntmps - us.length) undef)[i]? :=by
   have:(us.toArray ++ Array.replicate (fn.ntmps - us.toArray.size) undef)=([] ++ us ++ List.replicate (fn.ntmps - us.length) undef).toArray:=Array.ext' (by simp)
   rw [this];simp only [Co]
  rw [e]
  exact this
 have fin:∀ a w,Eh (w0.at c0.w hs0.low) M0 c0 fn.ntmps (fun fr H=>I7 T fn.results.toList fr H fun x=>∃ y r H2,(∀ c v,Rd x c v->Rd y c v)/\WkR Hin.length [(0,y)] H [(0,r)] H2/\K r H2) a w->∃ v,(results fn a.tmps).run P w = .ok v w/\∃ v' c' r H',Ending.returned v = .returned v'/\c'.w=w/\K r H'/\HS w0 M0 c' H'/\Ext c0 c'/\Rd r c' v'/\(false=true->Old c0.w w):=by
  rintro a w ⟨c,fr,H,rfl,h1,h2,h3,h4⟩
  obtain⟨x,v,⟨y,r,H2,o1,o2,o3⟩,q2,q3⟩:=EG hT h2 h3 h1
  have hfr:FR (w0.at c0.w hs0.low) c 1 [(0,y)] { tmps:= #[v],defers:= [] }:=by
   refine⟨rfl,tv,fun i=>?_⟩
   unfold fget
   cases i with
   | zero=>exact o1 _ _ q2
   | succ i=>show Rd .top c _;simp [Rd]
  obtain⟨c',e1,e2,e3,e4⟩:=o2.sound hs0.dom h2 hfr h4
  have hr':=e3.get 0
  refine⟨v,q3,v,c',r,H2,rfl,e1,o3,⟨zi e2.low,e2.base,e2.dom,e2.foreign,e2.lt,e2.blk,e2.own,e2.dis⟩,e4,?_,fun e=>by cases e⟩
  simpa [fget] using hr'
 refine Ev hf hb trivial (Ah _) fin ?_
 refine B7 (w0:=w0.at c0.w hs0.low) (M0:=M0) (ce:=c0) hT hs0.dom body _ _ c0 _ Hin _ (F1 rfl rfl fun _ _ _ h=>h) hs0.toAt hFR (zL _) h
def zS:=@ACalls.ofR
def H8 (l:List Wr) (a:Int):Option Wr:=l.foldl (fun r w=>if w.addr=a then some w else r) none
theorem N7 (a:Int):H8 [] a=none:=rfl
theorem Es (l:List Wr) (w:Wr) (a:Int):H8 (l ++ [w]) a=if w.addr=a then some w else H8 l a:=by simp [H8]
theorem Kr {a:Int}:∀ (n:Nat) (l:List Wr),l.length=n->∀ i,i<l.length->(l.getD i ⟨0, []⟩).addr=a->(∀ j,i<j->j<l.length->(l.getD j ⟨0, []⟩).addr≠a)->H8 l a=some (l.getD i ⟨0, []⟩)
 | 0,l,hn,i,hi,_,_=>by omega
 | n+1,l,hn,i,hi,h1,h2=>by
  rcases CM l with rfl | ⟨m,w,rfl⟩
  ·simp at hn
  ·simp only [CN] at *
   simp at hn hi
   rw [Es]
   by_cases he:i=m.length
   ·subst he
    simp only [Aa,AH (Ah _),D7,Dd,Bz] at h1 |-
    rw [if_pos h1]
   ·have hm:∀ j,j<m.length->(m ++ [w]).getD j ⟨0, []⟩=m.getD j ⟨0, []⟩:=fun j hj=>by simp only [Aa,AC hj]
    have hw:=h2 m.length (by omega) (by simp)
    simp only [Aa,AH (Ah _),D7,Dd,Bz] at hw
    rw [if_neg hw,hm i (by omega)]
    rw [hm i (by omega)] at h1
    exact Kr n m hn i (by omega) h1 fun j q1 q2=>by rw [<-hm j q2];exact h2 j q1 (by simp;omega)
theorem IZ {a:Int}:∀ (n:Nat) (l:List Wr),l.length=n->(∀ j,j<l.length->(l.getD j ⟨0, []⟩).addr≠a)->H8 l a=none
 | 0,l,hn,_=>by rw [AX.1 hn];rfl
 | n+1,l,hn,h=>by
  rcases CM l with rfl | ⟨m,w,rfl⟩
  ·rfl
  ·simp only [CN] at *
   simp at hn
   rw [Es]
   have hw:=h m.length (by simp)
   simp only [Aa,AH (Ah _),D7,Dd,Bz] at hw
   rw [if_neg hw]
   exact IZ n m hn fun j q=>by
    have:=h j (by simp;omega)
    simpa only [Aa,AC q] using this
def Dk.got (d:Dk) (a:Int):List UInt8 × Int:=
 match H8 d.cache a with
 | some w=>(w.bytes,0)
 | none=>if (d.cells.getD a.toNat ⟨0, [], []⟩).state=0 then ((d.cells.getD a.toNat ⟨0, [], []⟩).bytes,0) else ([],6)
def Dk.read (d:Dk) (a:Int):Dk × List UInt8 × Int:=if d.left=0 then (d, [],8) else (d.req,d.got a)

theorem VI (e:Int) (c:Ctx) (v:Value) (h:Rd (.tp [.v (.slice none 0 0), .v (.int .i64 e)]) c v):Rd (.tp [bA [], .v (.int .i64 e)]) c v:=by
 simp only [Rd,RdL] at h |-
 obtain⟨xs,rfl,y,ys,rfl,rfl,h⟩:=h
 exact⟨_,rfl,_,_,rfl,Br 1 (fun i=> [.v (.int .u8 (([]:List UInt8).getD i 0).toNat)]) c (.slice none 0 0) (by simp [Rd]),h⟩
theorem N5 {m:Nat} (h:Nat.ble 3 m=true):∀ z∈ [0,1,2],z<m:=fun z hz=>by
 have:=Ag h
 simp at hz
 omega
theorem W2 (hcl:∀ b:List UInt8,b.length<=1000000000->Fn Tryz.prog 60 [bA b] fun r=>r=bA b) (d:Dk) (a:Int) (hl : -1<=d.left/\d.left<=1048576) (ha:0<=a/\a<d.cells.length) (hc:d.cache.length<=2000) (hb:∀ c∈d.cells,c.bytes.length<=100000) (hw:∀ w∈d.cache,w.bytes.length<=100000) :
  ACalls Tryz.prog false 41 [.bp 0 0, .v (.int .i64 a)] (dkH d) fun r H=>r = .tp [bA (d.read a).2.1, .v (.int .i64 (d.read a).2.2)]/\H=dkH (d.read a).1:=by
 refine zg tys_ok Tryz.func41 rfl rfl (by show 2<=_;decide) ?_
 have hq:=Hg d hl
 conv=>whnf
 by_cases h0:d.left=0
 ·rw [if_pos h0] at hq
  refine zZ [0,1,2] hq rfl rfl rfl rfl (by decide) (N5 rfl) ⟨rfl,rfl,rfl,tv⟩ ?_
  rintro _ _ ⟨rfl,rfl⟩
  rw [show decide (d.left≠0)=false by simp [h0]]
  exact⟨.tp [bA [], .v (.int .i64 8)],dkH d,VI 8,⟨rfl,rfl,rfl,tv⟩,rfl,⟨rfl,rfl⟩,by simp [Dk.read,h0],by simp [Dk.read,h0]⟩
 ·rw [if_neg h0] at hq
  refine zZ [0,1,2] hq rfl rfl rfl rfl (by decide) (N5 rfl) ⟨rfl,rfl,rfl,tv⟩ ?_
  rintro _ _ ⟨rfl,rfl⟩
  rw [show decide (d.left≠0)=true by simp [h0]]
  conv=>whnf
  refine(Qs (.ow 2 d.req.cache.length) _ (fun c u hu=>by simp only [Rd] at hu;obtain⟨_,_,⟨a,p,h,_⟩,_⟩:=hu;exact⟨_,_,_,h⟩)).mono ?_
  rintro _ _ ⟨rfl,rfl⟩
  conv=>whnf
  have hE:∀ i,i<d.cache.length->(d.cache.map E5).getD i []=E5 (d.cache.getD i ⟨0, []⟩):=fun i hi=>Bn hi
  refine aRF.back tys_ok back_is (B:=6) (len:=d.cache.length) (E:=fun i=>(d.cache.map E5).getD i []) rfl rfl ⟨rfl,_,_,rfl,by simp [Dk.req],rfl⟩ (by omega) rfl (by decide) rfl [(3, .rp [.v (.int .i64 a)])] ⟨.inr ⟨3,_,_,rfl,rfl,rfl,rfl⟩,tv⟩ (fun i=>decide ((d.cache.getD i ⟨0, []⟩).addr=a)) ?_ ?_ ?_
  ·intro i hi hh
   rw [hE i hi]
   refine⟨rfl,?_⟩
   have hh':(d.cache.getD i ⟨0, []⟩).addr≠a:=by simpa using hh
   conv=>whnf
   refine A3 (fun h1=>?_) (fun h1=>?_) <;> (repeat rw [Ac] at h1) <;> conv=>whnf
   ·exact absurd h1 hh'
  ·intro i hi hh
   rw [hE i hi]
   refine⟨rfl,?_⟩
   have hh':(d.cache.getD i ⟨0, []⟩).addr=a:=by simpa using hh
   have hcw:=hcl (d.cache.getD i ⟨0, []⟩).bytes (by have:=hw _ (A9 (d:=⟨0, []⟩) hi);omega)
   conv=>whnf
   refine A3 (fun h1=>?_) (fun h1=>?_) <;> (repeat rw [Ac] at h1) <;> conv=>whnf
   ·refine z_ hcw ?_
    conv=>whnf
    refine⟨by simp,rfl,fun hord=>?_⟩
    conv=>whnf
    have hg:d.got a=((d.cache.getD i ⟨0, []⟩).bytes,0):=by
     unfold Dk.got
     rw [Kr _ _ rfl i hi hh' fun j q1 q2=>by simpa using hord j q1 q2]
    exact⟨_,dkH d.req,fun _ _ h=>h,⟨rfl,rfl,rfl,tv⟩,rfl,⟨rfl,rfl⟩,by simp [Dk.read,h0,hg,bA],by simp [Dk.read,h0]⟩
   ·exact absurd hh' h1
  ·intro hh
   have hg:d.got a=if (d.cells.getD a.toNat ⟨0, [], []⟩).state=0 then ((d.cells.getD a.toNat ⟨0, [], []⟩).bytes,0) else ([],6):=by
    unfold Dk.got
    rw [IZ _ _ rfl fun j q=>by simpa using hh j q]
   have hgc:(d.cells.map BE).getD a.toNat []=BE (d.cells.getD a.toNat ⟨0, [], []⟩):=Bn (by omega)
   have hgc':(d.req.cells.map BE).getD a.toNat []=BE (d.cells.getD a.toNat ⟨0, [], []⟩):=hgc
   have hcb:=hcl (d.cells.getD a.toNat ⟨0, [], []⟩).bytes (by have:=hb _ (A9 (d:=⟨0, [], []⟩) (show a.toNat<d.cells.length by omega));omega)
   conv=>whnf
   refine zA tys_ok mixed [0,1,2,3,4,5,6,7,8,9] (by kernel_rfl) ?_
   refine⟨ha,?_⟩
   refine⟨⟨rfl,(Ab _).symm,show a.toNat<d.cells.length by omega⟩,?_⟩
   conv=>whnf
   first | rw [hgc] | rw [hgc']
   conv=>whnf
   refine A3 (fun h1=>?_) (fun h1=>?_) <;> (repeat rw [Ac] at h1) <;> conv=>whnf
   ·rw [if_neg h1] at hg
    exact⟨.tp [bA [], .v (.int .i64 6)],dkH d.req,VI 6,⟨rfl,rfl,rfl,tv⟩,rfl,⟨rfl,rfl⟩,by simp only [Dk.read,if_neg h0,hg],by simp only [Dk.read,if_neg h0]⟩
   ·refine z_ hcb ?_
    conv=>whnf
    conv=>whnf
    rw [if_pos h1] at hg
    exact⟨_,dkH d.req,fun _ _ h=>h,⟨rfl,rfl,rfl,tv⟩,rfl,⟨rfl,rfl⟩,by simp only [Dk.read,if_neg h0,hg,bA],by simp only [Dk.read,if_neg h0]⟩
def Dk.write (d:Dk) (a:Int) (b:List UInt8):Dk × Int:=
 if d.left=0 then (d,8) else if (d.cells.getD a.toNat ⟨0, [], []⟩).state=2\/(2000:Int)<=d.cache.length then (d.req,7) else ({ d.req with cache:=d.cache ++ [⟨a,b⟩] },0)

theorem Ua (hcl:∀ b:List UInt8,b.length<=1000000000->Fn Tryz.prog 60 [bA b] fun r=>r=bA b) (d:Dk) (a:Int) (b:List UInt8) (hl : -1<=d.left/\d.left<=1048576) (ha:0<=a/\a<d.cells.length) (hc:d.cache.length<=2000) (hb:b.length<=100000) :
  ACalls Tryz.prog false 217 [.bp 0 0, .v (.int .i64 a),bA b] (dkH d) fun r H=>r = .v (.int .i64 (d.write a b).2)/\H=dkH (d.write a b).1:=by
 refine zg tys_ok Tryz.func217 rfl rfl (by show 3<=_;decide) ?_
 have hq:=Hg d hl
 have hcb:=hcl b (by omega)
 conv=>whnf
 by_cases h0:d.left=0
 ·rw [if_pos h0] at hq
  refine hq.mono ?_
  rintro _ _ ⟨rfl,rfl⟩
  rw [show decide (d.left≠0)=false by simp [h0]]
  exact⟨_,dkH d,fun _ _ h=>h,⟨rfl,rfl,rfl,tv⟩,rfl,⟨rfl,rfl⟩,by simp only [Dk.write,if_pos h0],by simp only [Dk.write,if_pos h0]⟩
 ·rw [if_neg h0] at hq
  refine hq.mono ?_
  rintro _ _ ⟨rfl,rfl⟩
  rw [show decide (d.left≠0)=true by simp [h0]]
  have hgc:(d.cells.map BE).getD a.toNat []=BE (d.cells.getD a.toNat ⟨0, [], []⟩):=Bn (by omega)
  have hgc':(d.req.cells.map BE).getD a.toNat []=BE (d.cells.getD a.toNat ⟨0, [], []⟩):=hgc
  refine⟨ha,?_⟩
  refine⟨⟨rfl,(Ab _).symm,show a.toNat<d.cells.length by omega⟩,?_⟩
  conv=>whnf
  first | rw [hgc] | rw [hgc']
  conv=>whnf
  refine A3 (fun h1=>?_) (fun h1=>?_) <;> (repeat rw [Ac] at h1) <;> conv=>whnf
  ·exact⟨_,dkH d.req,fun _ _ h=>h,⟨rfl,rfl,rfl,tv⟩,rfl,⟨rfl,rfl⟩,by simp only [Dk.write,if_neg h0,if_pos (Or.inl h1)],by simp only [Dk.write,if_neg h0,if_pos (Or.inl h1)]⟩
  ·by_cases h2:(2000:Int)<=d.cache.length
   ·rw [show decide ((d.req.cache.length:Int)>=2000)=true from decide_eq_true h2]
    exact⟨_,dkH d.req,fun _ _ h=>h,⟨rfl,rfl,rfl,tv⟩,rfl,⟨rfl,rfl⟩,by simp only [Dk.write,if_neg h0,if_pos (Or.inr h2)],by simp only [Dk.write,if_neg h0,if_pos (Or.inr h2)]⟩
   ·rw [show decide ((d.req.cache.length:Int)>=2000)=false from decide_eq_false h2]
    have hc':d.req.cache.length<=2000:=hc
    have h3:¬((d.cells.getD a.toNat ⟨0, [], []⟩).state=2\/(2000:Int)<=d.cache.length):=fun h=>h.elim h1 h2
    conv=>whnf
    apply zQ tys_ok mixed (.one 0 (.one 1 (.one 2 (.one 3 (.one 4 (.one 5 (.one 6 (.one 7 (.one 8 (.one 9 (.one 10 (.one 11 (.one 12 (.one 13 (.one 14 (.one 15 .fin)))))))))))))))) [31,32,33,34,35,36,37,38,39,40,41,42,43,44,45] (by kernel_rfl)
    ·conv=>whnf
     refine z_ hcb ?_
     conv=>whnf
     try (refine tJ ?_;conv=>whnf)
     try (refine tK ?_;conv=>whnf)
     try (refine tS ?_;conv=>whnf)
     exact⟨rfl,rfl⟩
    conv=>whnf
    have e:dkH { d.req with cache:=d.cache ++ [⟨a,b⟩] }=[.box 113 (HK (.ow 1 d.cells.length) (.ow 2 (d.cache.length+1)) d.req.reqs d.req.left), .row 84 3 (d.cells.map BE), .row 131 2 (d.cache.map E5 ++ [E5 ⟨a,b⟩])]:=by
     unfold dkH
     simp only [Ai,List.length_singleton,AF,A0,Bp]
     rfl
    refine⟨_,dkH { d.req with cache:=d.cache ++ [⟨a,b⟩] },fun _ _ h=>h,?_,rfl,⟨rfl,rfl⟩,by simp only [Dk.write,if_neg h0,if_neg h3],by simp only [Dk.write,if_neg h0,if_neg h3]⟩
    rw [e]
    exact⟨rfl,rfl,rfl,tv⟩
def cz:Cel:=⟨0, [], []⟩
def Dk.fin (d:Dk) (w:Wr):Dk:=
 if (d.cells.getD w.addr.toNat cz).state=2 then d else { d with cells:=d.cells.set w.addr.toNat ⟨0,w.bytes,(d.cells.getD w.addr.toNat cz).bytes⟩ }

theorem W6 (d:Dk) (w:Wr) (ha:0<=w.addr/\w.addr<d.cells.length) :
  ACalls Tryz.prog false 61 [.bp 0 0, .ag (E5 w)] (dkH d) fun r H=>r = .tp []/\H=dkH (d.fin w):=by
 refine zg tys_ok Tryz.func61 rfl rfl (by show 2<=_;decide) ?_
 have hgc:(d.cells.map BE).getD w.addr.toNat []=BE (d.cells.getD w.addr.toNat cz):=Bn (by omega)
 conv=>whnf
 refine zA tys_ok mixed [0,1,2,3,4,5,6,7,8] (by kernel_rfl) ?_
 refine⟨(show 0<=w.addr/\w.addr<d.cells.length from ha),?_⟩
 refine⟨⟨rfl,(Ab _).symm,show w.addr.toNat<d.cells.length by omega⟩,?_⟩
 conv=>whnf
 rw [hgc]
 conv=>whnf
 refine A3 (fun h1=>?_) (fun h1=>?_) <;> (repeat rw [Ac] at h1) <;> conv=>whnf
 ·refine zA tys_ok mixed [0,1,2,3,4,5,6,7,8,9] (by kernel_rfl) ?_
  refine⟨⟨rfl,(Ab _).symm,show w.addr.toNat<d.cells.length by omega⟩,?_⟩
  conv=>whnf
  rw [hgc]
  refine⟨⟨rfl,(Ab _).symm,show w.addr.toNat<d.cells.length by omega⟩,?_⟩
  conv=>whnf
  rw [hgc]
  conv=>whnf
  have hmem:w.addr.toNat<d.cells.length:=by omega
  refine⟨_,dkH { d with cells:=d.cells.set w.addr.toNat ⟨0,w.bytes,(d.cells.getD w.addr.toNat cz).bytes⟩ },fun _ _ h=>h,?_,rfl,⟨rfl,rfl⟩,rfl,by simp only [Dk.fin,if_neg h1]⟩
  have e:dkH { d with cells:=d.cells.set w.addr.toNat ⟨0,w.bytes,(d.cells.getD w.addr.toNat cz).bytes⟩ }=[.box 113 (HK (.ow 1 d.cells.length) (.ow 2 d.cache.length) d.reqs d.left), .row 84 3 ((d.cells.map BE).set w.addr.toNat (BE ⟨0,w.bytes,(d.cells.getD w.addr.toNat cz).bytes⟩)), .row 131 2 (d.cache.map E5)]:=by
   unfold dkH
   simp only [Bh,CA]
  rw [e]
  exact⟨rfl,rfl,rfl,tv⟩
 ·refine⟨_,dkH d,fun _ _ h=>h,⟨rfl,rfl,rfl,tv⟩,rfl,⟨rfl,rfl⟩,rfl,by simp only [Dk.fin,if_pos h1]⟩
@[reducible] def dkF (d:Dk):List AB:= [.box 113 (HK (.ow 1 d.cells.length) (.ow 3 0) d.reqs d.left), .row 84 3 (d.cells.map BE), .dead, .row 131 2 []]
def Dk.allFin (d:Dk) (l:List Wr):Dk:=l.foldl Dk.fin d
theorem Yb (d:Dk) (w:Wr):(d.fin w).cells.length=d.cells.length:=by unfold Dk.fin;split <;> simp
theorem TT (d:Dk) (w:Wr):(d.fin w).cache=d.cache/\(d.fin w).reqs=d.reqs/\(d.fin w).left=d.left:=by unfold Dk.fin;split <;> simp
theorem Jh (l:List Wr):∀ (d:Dk),(d.allFin l).cells.length=d.cells.length/\(d.allFin l).cache=d.cache/\(d.allFin l).reqs=d.reqs/\(d.allFin l).left=d.left:=by
 induction l with
 | nil=>intro d;exact⟨rfl,rfl,rfl,rfl⟩
 | cons w r ih=>
  intro d
  obtain⟨h1,h2,h3,h4⟩:=ih (d.fin w)
  have:=TT d w
  exact⟨h1.trans (Yb d w),h2.trans this.1,h3.trans this.2.1,h4.trans this.2.2⟩
theorem KY (d:Dk) {l:List Wr} {k:Nat} (h:k<l.length):d.allFin (l.take (k+1))=(d.allFin (l.take k)).fin (l.getD k ⟨0, []⟩):=by
 unfold Dk.allFin
 rw [Bj,CB,Af h]
 simp [Aa,Af h]
def Dk.flush (d:Dk):Dk:={ d.req.allFin d.cache with cache:= [] }

theorem R7 (d:Dk) (hl : -1<=d.left/\d.left<=1048576) (h0:d.left=0) :
  ACalls Tryz.prog false 86 [.bp 0 0] (dkH d) fun r H=>r = .v (.int .i64 8)/\H=dkH d:=by
 refine ACalls.ofW tys_ok Tryz.func86 rfl rfl (by show 1<=_;decide) ?_
 have hq:=Hg d hl
 rw [if_pos h0,show decide (d.left≠0)=false by simp [h0]] at hq
 conv=>whnf
 refine hq.mono ?_
 rintro _ _ ⟨rfl,rfl⟩
 exact⟨_,_,dkH d,fun _ _ h=>h,⟨[],tv,⟨rfl,tv⟩,⟨rfl,rfl,rfl,tv⟩,rfl,rfl,rfl⟩,rfl,rfl⟩
theorem Ud (d:Dk) (hl : -1<=d.left/\d.left<=1048576) (h0:d.left≠0) (hc:d.cache.length<=2000) (ha:∀ w∈d.cache,0<=w.addr/\w.addr<d.cells.length) :
  ACalls Tryz.prog false 86 [.bp 0 0] (dkH d) fun r H=>r = .v (.int .i64 0)/\H=dkF d.flush:=by
 refine ACalls.ofW tys_ok Tryz.func86 rfl rfl (by show 1<=_;decide) ?_
 have hq:=Hg d hl
 rw [if_neg h0,show decide (d.left≠0)=true by simp [h0]] at hq
 conv=>whnf
 refine hq.mono ?_
 rintro _ _ ⟨rfl,rfl⟩
 conv=>whnf
 have hE:∀ i,i<d.cache.length->(d.cache.map E5).getD i []=E5 (d.cache.getD i ⟨0, []⟩):=fun i hi=>Bn hi
 refine zP Nat (fun k=>([(0, .bp 0 0),(12, .ow 2 d.cache.length),(13, .v (.int .i64 d.cache.length)),(14, .v (.int .i64 k)),(2, .v (.int .i64 0))],dkH (d.req.allFin (d.cache.take k)))) (fun k=>k<=d.cache.length) (fun k=>d.cache.length - k) 0 (Aj _) ⟨[],tv,⟨rfl,rfl,rfl,rfl,rfl,tv⟩,⟨rfl,rfl,rfl,tv⟩,rfl,rfl,rfl⟩ ?_
 rintro k hk
 have hall:=Jh (d.cache.take k) d.req
 have hnext:k<d.cache.length->d.req.allFin (d.cache.take (k+1))=(d.req.allFin (d.cache.take k)).fin (d.cache.getD k ⟨0, []⟩):=fun h=>KY d.req h
 have hlast:k=d.cache.length->d.flush={ d.req.allFin (d.cache.take k) with cache:= [] }:=fun h=>by rw [h,Ar];rfl
 generalize d.req.allFin (d.cache.take k)=X at hall hnext hlast |-
 obtain⟨xc,xw,xr,xl⟩:=X
 simp only at hall
 obtain⟨q1,q2,q3,q4⟩:=hall
 have q2:xw=d.cache:=q2
 subst q2
 have q1':xc.length=d.cells.length:=q1
 conv=>whnf
 refine A3 (fun h=>?_) (fun h=>?_) <;> (repeat rw [Ac] at h) <;> conv=>whnf
 ·have hd:=W6 ⟨xc,d.cache,xr,xl⟩ (d.cache.getD k ⟨0, []⟩) (by have:=ha _ (A9 (d:=⟨0, []⟩) (show k<d.cache.length by omega));show _/\_<((xc.length:Nat):Int);rw [q1'];exact this)
  refine⟨⟨by omega,by omega⟩,?_⟩
  refine⟨⟨rfl,(Ab _).symm,by simpa using h⟩,?_⟩
  conv=>whnf
  rw [show ((k:Int)).toNat=k from Ac k,hE k (by omega)]
  conv=>whnf
  refine zZ [0,1,2] hd rfl rfl rfl rfl (by decide) (N5 rfl) ⟨rfl,rfl,rfl,tv⟩ ?_
  rintro _ _ ⟨rfl,rfl⟩
  refine⟨k+1,by omega,by omega, [],tv,⟨rfl,rfl,rfl,AS (by omega),rfl,tv⟩,?_,rfl,rfl,rfl⟩
  rw [hnext (by omega)]
  exact⟨rfl,rfl,rfl,tv⟩
 ·conv=>whnf
  have ek:k=d.cache.length:=by omega
  rw [hlast ek]
  exact⟨.v (.int .i64 0), .v (.int .i64 0),dkF { cells:=xc,cache:= [],reqs:=xr,left:=xl },fun _ _ h=>h,⟨[(1000001,131,2)],⟨rfl,rfl,tv⟩,⟨rfl,tv⟩,⟨rfl,rfl,rfl,tv⟩,rfl,rfl,rfl⟩,rfl,rfl⟩
theorem WR (a:An):rowB (K4 a) szA=leB 4 a.gen.toNat ++ (leB 4 a.epoch.toNat ++ (leB 4 a.seq.toNat ++ (leB 4 a.last.toNat ++ leB 1 a.pos.toNat))):=by
 simp [rowB,K4,szA]
theorem XB (g:Geo) (a:An) (hg:Bt g=true) (ha:Bg g a=true):Fn Tryz.prog 191 [.ag (Ed a)] fun r=>r=bA (KX a):=by
 obtain⟨g1,g2,g3,g4,g5⟩:=As.1 hg
 obtain⟨q1,q2,q3,q4,q5⟩:=EF hg ha 0 (Aj _)
 have ha0:=ha
 simp only [Bg,Ad,decide_eq_true_eq,Bd,BR,BH,AL,Aw] at ha
 obtain⟨⟨w1,w2,w3,w4⟩,_,_,w5,_,_,_⟩:=ha
 have p1:=EB [] a.gen 4 (by simp) w1 (by decide)
 have p2:=EB (leB 4 a.gen.toNat) a.epoch 4 (by rw [leB_len];decide) w2 (by decide)
 have p3:=EB (leB 4 a.gen.toNat ++ leB 4 a.epoch.toNat) a.seq 4 (by simp [leB_len]) w3 (by decide)
 have p4:=EB (leB 4 a.gen.toNat ++ leB 4 a.epoch.toNat ++ leB 4 a.seq.toNat) a.last 4 (by simp [leB_len]) w4 (by decide)
 have p5:=Ia (leB 4 a.gen.toNat ++ leB 4 a.epoch.toNat ++ leB 4 a.seq.toNat ++ leB 4 a.last.toNat) a.pos 1 (by simp [leB_len]) (by omega) (by decide)
 have hlb:=Vp a.label (by omega)
 refine zT Tryz.func191 rfl ?_
 conv=>whnf
 refine zY [bA [], .v (.int .i64 a.gen), .v (.int .i64 4)] ⟨Br 1 _,ri,ri,tv⟩ ?_
 refine z_ p1 ?_
 conv=>whnf
 refine z_ p2 ?_
 conv=>whnf
 refine z_ p3 ?_
 conv=>whnf
 refine z_ p4 ?_
 conv=>whnf
 apply zW (0) tys_ok mixed (.one 0 (.one 1 (.one 2 (.one 4 (.one 5 (.one 3 (.one 6 (.one 7 (.one 8 .fin))))))))) (by kernel_rfl)
 conv=>whnf
 (refine zU p5 rfl ?_;rintro _ _ ⟨rfl,rfl⟩)
 conv=>whnf
 refine z_ hlb ?_
 conv=>whnf
 try (refine tJ ?_;conv=>whnf)
 try (refine tK ?_;conv=>whnf)
 have eR:leB 4 a.gen.toNat ++ leB 4 a.epoch.toNat ++ leB 4 a.seq.toNat ++ leB 4 a.last.toNat ++ leB 1 a.pos.toNat=rowB (K4 a) szA:=by rw [WR];simp
 rw [eR]
 have hr17:(rowB (K4 a) szA).length=17:=tot_rowB _ _ rfl
 refine Ae ⟨by simp,by rw [hr17,Gk];omega⟩ ?_
 conv=>whnf
 have e0:(rowB (K4 a) szA).map EK ++ ((List.range (GS a.label).length).map fun i=> [AV.v (Value.int IntKind.u8 (((GS a.label).getD i 0).toNat:Int))])=(Gy a 0).map EK:=by
  rw [Qp,<-AF];simp [Gy]
 have e1:(rowB (K4 a) szA).length+(GS a.label).length=(Gy a 0).length:=by simp [Gy]
 refine zk Nat (fun k=>([(1, .bp 0 0),(3, .ow 1 (Gy a k).length),(4, .v (.int .i64 k))], [.box 28 (Ed a), .row 5 1 ((Gy a k).map EK)])) (fun k=>k<=a.homes.length) (fun k=>a.homes.length - k) 0 (Aj _)
  (zG ⟨[],tv,⟨rfl,congrArg (AV.ow 1) e1,rfl,tv⟩,⟨rfl,congrArg (AB.row _ _) e0.symm,tv⟩,rfl,rfl,rfl⟩) ?_
 intro k hk
 conv=>whnf
 refine A3 (fun h6=>?_) (fun h6=>?_) <;> (repeat rw [Ac] at h6) <;> conv=>whnf
 ·have hk':k<a.homes.length:=by omega
  have hh4:=q5 _ (A9 (d:=(⟨[],0,0⟩:Hm)) hk')
  obtain⟨f1,f2,f3,f4,f5⟩:=OE hg hh4
  have hst:=N_ a k hk'
  have hB:=(EF hg ha0 k hk).1
  have hB2:=(EF hg ha0 (k+1) hk').1
  obtain⟨h,hh⟩:∃ h,h=a.homes.getD k ⟨[],0,0⟩:=⟨_,rfl⟩
  rw [<-hh] at hh4 f1 f2 f3 f4 f5 hst
  generalize hX:Gy a k=X at hst hB |-
  have hlm:(MO h).length=h.places.length+5:=by rw [JH,tot_rowB _ _ (by rw [Ai,Ju];rfl),Jp]
  rw [hst,Ai,hlm] at hB2
  refine zk Nat (fun j=>([(1, .bp 0 0),(3, .ow 1 (X ++ O2 (h.places.take j)).length),(4, .v (.int .i64 k)),(5, .v (.int .i64 j))], [.box 28 (Ed a), .row 5 1 ((X ++ O2 (h.places.take j)).map EK)])) (fun j=>j<=h.places.length) (fun j=>h.places.length - j) 0 (Aj _)
   (zG ⟨[],tv,⟨rfl,congrArg (fun l=>AV.ow 1 (List.length l)) (AM X).symm,rfl,rfl,tv⟩,⟨rfl,congrArg (fun l=>AB.row _ _ (List.map EK l)) (AM X),tv⟩,rfl,rfl,rfl⟩) ?_
  intro j hj
  conv=>whnf
  have hgk:a.homes.getD (k:Int).toNat ⟨[],0,0⟩=h:=by rw [Ac,hh]
  refine⟨by first | omega | (refine⟨rfl,?_,?_⟩ <;> first | omega | (simp only [Ab];done) | (simp only [Ab];omega)) | (simp only [Ab];omega),?_⟩
  conv=>whnf
  rw [hgk]
  refine A3 (fun h7=>?_) (fun h7=>?_) <;> (repeat rw [Ac] at h7) <;> conv=>whnf
  ·refine⟨by first | omega | (refine⟨rfl,?_,?_⟩ <;> first | omega | (simp only [Ab];done) | (simp only [Ab];omega)) | (simp only [Ab];omega),?_⟩
   conv=>whnf
   rw [hgk]
   refine⟨by first | omega | (refine⟨rfl,?_,?_⟩ <;> first | omega | (simp only [Ab];done) | (simp only [Ab];omega)) | (simp only [Ab];omega),?_⟩
   conv=>whnf
   rw [Ac]
   have hj':j<h.places.length:=by omega
   have hp:=f2 _ (A9 (d:=(0:Int)) hj')
   have hpl:=Lm (h.places.take j)
   have hps:=P4 h.places j hj'
   have hput:=Ia (X ++ O2 (h.places.take j)) (h.places.getD j 0) 1 (by rw [Ai,hpl,Au];omega) (by omega) (by decide)
   rw [A5,<-hps] at hput
   refine zM (hput).go ?_
   conv=>whnf
   repeat' (refine Ae (by first | rfl | omega | (simp;done) | (simp only [Ab];omega) | (simp;omega)) ?_;conv=>whnf)
   refine zY [bA (X ++ O2 (h.places.take j)), .v (.int .i64 (h.places.getD j 0)), .v (.int .i64 1)] ⟨MI rfl rfl,ri,ri,tv⟩ ?_
   refine zU (hput) rfl ?_
   rintro _ _ ⟨rfl,rfl⟩
   refine⟨j+1,by omega,by omega,zR (s:= [0,2]) ⟨⟨rfl,rfl,rfl,AS (by omega),tv⟩,⟨rfl,rfl,tv⟩,rfl,rfl,rfl,rfl,rfl⟩⟩
  ·have ej:j=h.places.length:=by omega
   subst ej
   have hpl:=Lm (h.places.take h.places.length)
   rw [Ar] at hpl |-
   have hp1:=EB (X ++ O2 h.places) h.next 1 (by rw [Ai,hpl];omega) (by omega) (by decide)
   have hp2:=Ia (X ++ O2 h.places ++ leB 1 h.next.toNat) h.root 4 (by rw [Ai,Ai,hpl,leB_len];omega) (by omega) (by decide)
   have eY:X ++ O2 h.places ++ leB 1 h.next.toNat ++ leB 4 h.root.toNat=X ++ MO h:=by simp [MO,rowB]
   rw [eY] at hp2
   apply zW (0) tys_ok mixed (.one 0 (.one 1 (.one 2 (.one 3 (.one 4 (.one 5 (.one 6 (.one 8 (.one 9 (.one 10 (.one 11 (.one 12 (.one 13 (.one 7 (.one 14 (.one 15 .fin)))))))))))))))) (by kernel_rfl)
   conv=>whnf
   try (refine tI ?_;conv=>whnf)
   try (refine tI ?_;conv=>whnf)
   (rw [hgk];refine zM hp1.go ?_;(conv=>whnf);refine Ae (by simp) ?_;(conv=>whnf);refine zY [bA (X ++ O2 h.places), .v (.int .i64 h.next), .v (.int .i64 1)] ⟨MI rfl rfl,ri,ri,tv⟩ ?_;refine z_ hp1 ?_)
   conv=>whnf
   (refine zU hp2 rfl ?_;rintro _ _ ⟨rfl,rfl⟩)
   refine⟨k+1,hk',by omega,zR (s:= [0,2]) ⟨⟨rfl,congrArg (AV.ow 2) (by rw [hst]),AS (by omega),tv⟩,⟨rfl,congrArg (fun l=>some (AB.row _ _ l)) (by rw [hst]),tv⟩,rfl,rfl,rfl,rfl,rfl⟩⟩
 ·have ek:k=a.homes.length:=by omega
  subst ek
  rw [Qu]
  refine⟨by simp,?_⟩
  exact⟨bA (KX a),MI rfl rfl,rfl⟩
def CP (a:An) (i:Int):List UInt8:=Bk i a.gen (KX a)
theorem K6 {g:Geo} {a:An} (hg:Bt g=true) (ha:Bg g a=true):(KX a).length<=82:=by
 obtain⟨g1,g2,g3,g4,g5⟩:=As.1 hg
 have hz:=ha
 simp only [Bg,Ad,decide_eq_true_eq,Bd,BR,BH,AL,Aw] at hz
 obtain⟨_,_,_,_,q6,q7,q8⟩:=hz
 have h24:=Ii q6
 have hs:a.label.size=a.label.data.toList.length:=rfl
 have hr:(rowB (K4 a) szA).length=17:=tot_rowB _ _ rfl
 have hm:=(Lp hg a.homes q8).2
 have hmul:a.homes.length*(g.d.toNat+6)<=4*10:=Ds (by omega) (by omega)
 rw [KX,Ai,Ai,hr,Gk,hm]
 omega
theorem Qt {g:Geo} {a:An} (ha:Bg g a=true):0<=a.gen/\a.gen<=4294967295:=by
 simp only [Bg,Ad,decide_eq_true_eq,Bd,BR,BH,AL,Aw] at ha
 exact ha.1.1
theorem K5 {g:Geo} {a:An} (hg:Bt g=true) (ha:Bg g a=true) {i:Int} (hi:0<=i/\i<=65535):U6 i a.gen (KX a):=
 ⟨hi.1,hi.2,(Qt ha).1,(Qt ha).2,by have:=K6 hg ha;omega⟩
theorem LQ (g:Geo) (a:An) (i:Int) (hg:Bt g=true) (ha:Bg g a=true) (hi:0<=i/\i<=65535):Fn Tryz.prog 118 [.ag (Ed a), .v (.int .i64 i)] fun r=>r=bA (CP a i):=by
 have h1:=XB g a hg ha
 have h2:=Fw i a.gen (KX a) (K5 hg ha hi)
 refine zT Tryz.func118 rfl ?_
 conv=>whnf
 apply zQ tys_ok mixed (.one 0 (.one 1 (.one 2 (.one 3 (.one 4 (.one 5 (.one 6 .fin))))))) [4,5,6,7,8,9,10] (by kernel_rfl)
 ·conv=>whnf
  refine z_ h1 ?_
  conv=>whnf
  refine z_ h2 ?_
  exact⟨rfl,rfl⟩
 exact⟨_,ri,rfl⟩
theorem VJ (g:Geo) (a:An) (i:Int) (hg:Bt g=true) (ha:Bg g a=true) (hi:0<=i/\i<g.an):Fn Tryz.prog 159 [.ag (AY g), .ag (Ed a), .v (.int .i64 i)] fun r=>r = .tp [bA (CP a i), .v (.int .i64 0)]:=by
 obtain⟨g1,g2,g3,g4,g5⟩:=As.1 hg
 obtain⟨q1,q2,q3,q4,q5⟩:=EF hg ha 0 (Aj _)
 have h1:=U4 g a (by omega) (by omega)
 rw [hg,ha] at h1
 have h2:=Mp g i hg hi
 have h3:=Pg i a.gen (KX a) (K5 hg ha (by omega))
 refine zT Tryz.func159 rfl ?_
 conv=>whnf
 refine z_ h1 ?_
 conv=>whnf
 refine z_ h2 ?_
 conv=>whnf
 refine z_ h3 ?_
 exact⟨_,ri,rfl⟩
end
end Go.Proofs.YtkolckdakddggaaGreatDoor.A
namespace Go.Proofs.YtkolckdakddggaaGreatDoor
section
open Go.RowKit



end
end Go.Proofs.YtkolckdakddggaaGreatDoor
namespace Go.Proofs.YtkolckdakddggaaGreatDoor.A
section
open Go.RowKit

theorem Rx (n k:Nat) (c:List UInt8):ED n (k+1) c=ED n k c ++ [Kv n (c.drop ((n+5)*k))]:=by
 rw [ED,ED,B5,AF];rfl
theorem ND (n k:Nat) (c:List UInt8):(ED n k c).length=k:=by simp [ED]
theorem Ss {L:List Int} {n:Nat} {es:List (List AV)} (hn:n=L.length) (he:es=L.map Xb) (c:Ctx) (v:Value) (h:Rd (.sl 1 n fun i=>es.getD i []) c v):Rd (iA L) c v:=by
 subst he
 exact zE hn (fun i hi=>Bn (f:=Xb) (l:=L) (d:=0) (hn ▸ hi)) h
theorem GG {α:Type} {f:α->List AV} {d:α} {l:List α} {k:Nat} {e:List AV} (hk:k<l.length) (h:SubL e (f (l.getD k d))) (i:Nat):SubL (((l.map f).set k e).getD i []) ((l.map f).getD i []):=by
 by_cases hi:k=i
 ·subst hi
  rw [BW (by simpa using hk),Bn (d:=d) hk]
  exact h
 ·rw [KE hi];exact SubL.refl _
theorem V_ (h:Hm):SubL [.sl 1 h.places.length fun i=>(h.places.map Xb).getD i [], .v (.int .i64 h.next), .v (.int .i64 h.root)] (DG h):=
 ⟨Ss rfl rfl,fun _ _ h=>h,fun _ _ h=>h,tv⟩
theorem WM (a:An) (hh:a.homes.length<=1000) (hp:∀ h∈a.homes,h.places.length<=1000000):Fn Tryz.prog 83 [.ag (Ed a)] fun r=>r = .ag (Ed a):=by
 have hc:=NE a.homes (by omega)
 refine zT Tryz.func83 rfl ?_
 conv=>whnf
 refine zU hc rfl ?_
 rintro _ _ ⟨rfl,rfl⟩
 conv=>whnf
 refine zV Nat (fun k=>([(1, .bp 0 0),(2, .bp 1 0),(10, .v (.int .i64 a.homes.length)),(11, .v (.int .i64 k))], [.box 28 [.v (.int .i64 a.gen), .v (.int .i64 a.epoch), .v (.int .i64 a.pos), .v (.int .i64 a.seq), .v (.int .i64 a.last), .v (.string a.label), .ow 2 a.homes.length], .box 28 [.v (.int .i64 0), .v (.int .i64 0), .v (.int .i64 0), .v (.int .i64 0), .v (.int .i64 0), .v (.string ⟨#[]⟩), .v (.slice none 0 0)], .row 53 3 (a.homes.map DG)])) (fun k=>k<=a.homes.length) (fun k=>a.homes.length - k) 0 (Aj _)
  (zR (s:= [0,1,2]) ⟨⟨rfl,rfl,rfl,rfl,tv⟩,⟨rfl,rfl,rfl,tv⟩,rfl,rfl,rfl,rfl,rfl⟩) ?_
 intro k hk
 conv=>whnf
 refine A3 (fun h6=>?_) (fun h6=>?_) <;> (repeat rw [Ac] at h6) <;> conv=>whnf
 ·have hk':k<a.homes.length:=by omega
  have hi:=Mk (a.homes.getD k ⟨[],0,0⟩).places (by have:=hp _ (A9 (d:=(⟨[],0,0⟩:Hm)) hk');omega)
  have hE:(a.homes.map DG).getD (k:Int).toNat []=DG (a.homes.getD k ⟨[],0,0⟩):=by rw [Ac];exact Bn hk'
  apply zW (0) tys_ok mixed (.one 0 (.one 1 (.one 2 (.one 3 (.one 4 (.one 5 (.one 6 (.one 7 (.one 8 (.one 9 (.one 10 (.one 11 (.one 12 .fin))))))))))))) (by kernel_rfl)
  conv=>whnf
  try (first | (refine Ae ⟨rfl,(Ab _).symm,by omega⟩ ?_;(conv=>whnf);rw [hE]) | skip;conv=>whnf)
  try (first | (refine Ae ⟨rfl,(Ab _).symm,by omega⟩ ?_;(conv=>whnf);rw [hE]) | skip;conv=>whnf)
  try (refine tI ?_;conv=>whnf)
  try (first | (refine Ae ⟨rfl,(Ab _).symm,by omega⟩ ?_;(conv=>whnf);rw [hE]) | skip;conv=>whnf)
  (refine zU hi rfl ?_;rintro _ _ ⟨rfl,rfl⟩)
  conv=>whnf
  try (refine tI ?_;conv=>whnf)
  try (refine tS ?_;conv=>whnf)
  (refine Ae (Ab _).symm ?_;(conv=>whnf);refine Ae ⟨rfl,(Ab _).symm,by omega⟩ ?_;(conv=>whnf);rw [hE])
  refine⟨k+1,hk',by omega,zD (zK (zB (k:=2) rfl (es':=a.homes.map DG) (by simp) ?_)) (s:= [0,1,2]) ⟨⟨rfl,rfl,rfl,AS (by omega),tv⟩,⟨rfl,rfl,rfl,tv⟩,rfl,rfl,rfl,rfl,rfl⟩⟩
  rw [Ac]
  exact GG (d:=(⟨[],0,0⟩:Hm)) hk' (V_ _)
 ·have ek:k=a.homes.length:=by omega
  refine Ae (Ab _).symm ?_
  exact⟨.ag (Ed a),Ba ⟨ri,ri,ri,ri,ri,ri,Bf (f:=DG) a.homes rfl rfl,tv⟩,rfl⟩
def Fq (d:Dk):List AV:= [NW d.cells,II d.cache, .v (.int .i64 d.reqs), .v (.int .i64 d.left)]
theorem Yd (d:Dk) (h1:d.cells.length<=1000000000) (h2:d.cache.length<=1000000000):ACalls Tryz.prog false 40 [.ag (Fq d)] [] fun r H=>r = .bp 0 0/\H=dkH d:=by
 have c1:=MH d.cells h1
 have c2:=M_ d.cache h2
 refine zS tys_ok Tryz.func40 rfl rfl (Ag rfl) ?_
 conv=>whnf
 apply zW (0) tys_ok mixed (.one 0 (.one 1 (.one 3 (.one 4 (.one 2 (.one 6 (.one 5 (.one 7 (.one 8 (.one 9 .fin)))))))))) (by kernel_rfl)
 conv=>whnf
 (refine zU c1 rfl ?_;rintro _ _ ⟨rfl,rfl⟩)
 conv=>whnf
 (refine zU c2 rfl ?_;rintro _ _ ⟨rfl,rfl⟩)
 conv=>whnf
 try (refine tS ?_;conv=>whnf)
 try (refine tS ?_;conv=>whnf)
 exact⟨_, .bp 0 0,dkH d,fun _ _ h=>h,zR (s:= [3,1,2]) ⟨⟨rfl,tv⟩,⟨rfl,rfl,rfl,tv⟩,rfl,rfl,rfl,rfl,rfl⟩,rfl,rfl⟩
theorem W0 (d:Dk) (h1:d.cells.length<=1000000000) (h2:d.cache.length<=1000000000) (hb:∀ c∈d.cells,c.bytes.length<=1000000000/\c.old.length<=1000000000) (hw:∀ w∈d.cache,w.bytes.length<=1000000000):Fn Tryz.prog 42 [.ag (Fq d)] fun r=>r = .ag (Fq d):=by
 have c1:=MH d.cells h1
 have c2:=M_ d.cache h2
 refine zT Tryz.func42 rfl ?_
 conv=>whnf
 apply zW (0) tys_ok mixed (.one 0 (.one 1 (.one 3 (.one 4 (.one 2 (.one 6 (.one 5 (.one 7 (.one 8 (.one 9 .fin)))))))))) (by kernel_rfl)
 conv=>whnf
 (refine zU c1 rfl ?_;rintro _ _ ⟨rfl,rfl⟩)
 conv=>whnf
 (refine zU c2 rfl ?_;rintro _ _ ⟨rfl,rfl⟩)
 conv=>whnf
 try (refine tS ?_;conv=>whnf)
 try (refine tS ?_;conv=>whnf)
 refine zV Nat (fun k=>([(1, .bp 0 0),(2, .bp 1 0),(16, .ow 2 d.cells.length),(17, .v (.int .i64 d.cells.length)),(18, .v (.int .i64 k))], [.box 38 (HK (.ow 2 d.cells.length) (.ow 3 d.cache.length) d.reqs d.left), .box 38 [.v (.slice none 0 0), .v (.slice none 0 0), .v (.int .i64 0), .v (.int .i64 0)], .row 84 3 (d.cells.map BE), .row 131 2 (d.cache.map E5)])) (fun k=>k<=d.cells.length) (fun k=>d.cells.length - k) 0 (Aj _)
  (zR (s:= [0,1,2,3]) ⟨⟨rfl,rfl,rfl,rfl,rfl,tv⟩,⟨rfl,rfl,rfl,rfl,tv⟩,rfl,rfl,rfl,rfl,rfl⟩) ?_
 intro k hk
 conv=>whnf
 refine A3 (fun h6=>?_) (fun h6=>?_) <;> (repeat rw [Ac] at h6) <;> conv=>whnf
 ·have hk':k<d.cells.length:=by omega
  have hm:=hb _ (A9 (d:=(⟨0, [], []⟩:Cel)) hk')
  have b1:=Dc (d.cells.getD k ⟨0, [], []⟩).bytes hm.1
  have b2:=Dc (d.cells.getD k ⟨0, [], []⟩).old hm.2
  have hE:(d.cells.map BE).getD (k:Int).toNat []=BE (d.cells.getD k ⟨0, [], []⟩):=by rw [Ac];exact Bn hk'
  refine⟨⟨by omega,by omega⟩,?_⟩
  conv=>whnf
  refine Ae ⟨rfl,(Ab _).symm,by rw [Ac];exact hk'⟩ ?_
  conv=>whnf
  rw [hE]
  conv=>whnf
  apply zW (16) tys_ok mixed (.one 0 (.one 1 (.one 2 (.one 3 (.one 5 (.one 6 (.one 7 (.one 9 (.one 10 (.two 4 (.one 8 (.one 11 (.one 12 (.one 13 (.one 14 (.one 15 (.one 16 (.one 17 .fin)))))))) 8 (.two 4 (.one 11 (.one 12 (.one 13 (.one 14 (.one 15 (.one 16 (.one 17 .fin))))))) 11 (.one 12 (.one 13 (.two 4 (.one 14 (.one 15 (.one 16 (.one 17 .fin)))) 14 (.one 4 (.one 15 (.one 16 (.one 17 .fin)))))))))))))))))) (by kernel_rfl)
  refine Ae ?_ ?_
  conv=>whnf
  refine z_ b1 ?_
  conv=>whnf
  refine z_ b2 ?_
  conv=>whnf
  try (refine tI ?_;conv=>whnf)
  try (refine tS ?_;conv=>whnf)
  (first | rw [hE] | rw [BW (by rw [Ac,Ab];exact hk')] | skip)
  conv=>whnf
  try (refine tI ?_;conv=>whnf)
  try (refine tS ?_;conv=>whnf)
  (first | rw [hE] | rw [BW (by rw [Ac,Ab];exact hk')] | skip)
  conv=>whnf
  rotate_left 1
  conv=>whnf
  refine z_ b1 ?_
  refine Ae ?_ ?_
  conv=>whnf
  refine z_ b2 ?_
  conv=>whnf
  try (refine tI ?_;conv=>whnf)
  try (refine tS ?_;conv=>whnf)
  (first | rw [hE] | rw [BW (by rw [Ac,Ab];exact hk')] | skip)
  conv=>whnf
  try (refine tI ?_;conv=>whnf)
  try (refine tS ?_;conv=>whnf)
  (first | rw [hE] | rw [BW (by rw [Ac,Ab];exact hk')] | skip)
  conv=>whnf
  rotate_left 1
  conv=>whnf
  refine z_ b2 ?_
  conv=>whnf
  try (refine tI ?_;conv=>whnf)
  refine Ae ?_ ?_
  conv=>whnf
  try (refine tS ?_;conv=>whnf)
  (first | rw [hE] | rw [BW (by rw [Ac,Ab];exact hk')] | skip)
  conv=>whnf
  try (refine tI ?_;conv=>whnf)
  try (refine tS ?_;conv=>whnf)
  (first | rw [hE] | rw [BW (by rw [Ac,Ab];exact hk')] | skip)
  conv=>whnf
  rotate_left 1
  conv=>whnf
  try (refine tS ?_;conv=>whnf)
  (first | rw [hE] | rw [BW (by rw [Ac,Ab];exact hk')] | skip)
  conv=>whnf
  try (refine tI ?_;conv=>whnf)
  try (refine tS ?_;conv=>whnf)
  (first | rw [hE] | rw [BW (by rw [Ac,Ab];exact hk')] | skip)
  conv=>whnf
  rotate_left 1
  all_goals refine⟨k+1,hk',by omega,zD (zK (zB (k:=2) rfl (es':=d.cells.map BE) (by simp) ?_)) (s:= [0,1,2,3]) ⟨⟨rfl,rfl,rfl,rfl,AS (by omega),tv⟩,⟨rfl,rfl,rfl,rfl,tv⟩,rfl,rfl,rfl,rfl,rfl⟩⟩
  all_goals
   intro i
   rw [List.set_set,Ac]
   refine GG (f:=BE) (d:=(⟨0, [], []⟩:Cel)) hk' ?_ i
   exact⟨fun _ _ h=>h,fun _ _ h=>h,fun _ _ h=>h,tv⟩
 ·refine zV Nat (fun k=>([(1, .bp 0 0),(2, .bp 1 0),(41, .ow 3 d.cache.length),(42, .v (.int .i64 d.cache.length)),(43, .v (.int .i64 k))], [.box 38 (HK (.ow 2 d.cells.length) (.ow 3 d.cache.length) d.reqs d.left), .box 38 [.v (.slice none 0 0), .v (.slice none 0 0), .v (.int .i64 0), .v (.int .i64 0)], .row 84 3 (d.cells.map BE), .row 131 2 (d.cache.map E5)])) (fun k=>k<=d.cache.length) (fun k=>d.cache.length - k) 0 (Aj _)
   (zR (s:= [0,1,2,3]) ⟨⟨rfl,rfl,rfl,rfl,rfl,tv⟩,⟨rfl,rfl,rfl,rfl,tv⟩,rfl,rfl,rfl,rfl,rfl⟩) ?_
  intro k hk
  conv=>whnf
  refine A3 (fun h7=>?_) (fun h7=>?_) <;> (repeat rw [Ac] at h7) <;> conv=>whnf
  ·have hk':k<d.cache.length:=by omega
   have hm:=hw _ (A9 (d:=(⟨0, []⟩:Wr)) hk')
   have b1:=Dc (d.cache.getD k ⟨0, []⟩).bytes hm
   have hE:(d.cache.map E5).getD (k:Int).toNat []=E5 (d.cache.getD k ⟨0, []⟩):=by rw [Ac];exact Bn hk'
   refine⟨⟨by omega,by omega⟩,?_⟩
   conv=>whnf
   refine Ae ⟨rfl,(Ab _).symm,by rw [Ac];exact hk'⟩ ?_
   conv=>whnf
   rw [hE]
   conv=>whnf
   apply zW (0) tys_ok mixed (.one 0 (.one 1 (.one 2 (.one 3 (.one 4 (.one 5 (.one 6 (.one 7 (.one 8 .fin))))))))) (by kernel_rfl)
   conv=>whnf
   refine z_ b1 ?_
   conv=>whnf
   try (refine tI ?_;conv=>whnf)
   try (refine tS ?_;conv=>whnf)
   (first | rw [hE] | skip)
   conv=>whnf
   all_goals refine⟨k+1,hk',by omega,zD (zK (zB (k:=3) rfl (es':=d.cache.map E5) (by simp) ?_)) (s:= [0,1,2,3]) ⟨⟨rfl,rfl,rfl,rfl,AS (by omega),tv⟩,⟨rfl,rfl,rfl,rfl,tv⟩,rfl,rfl,rfl,rfl,rfl⟩⟩
   all_goals
    intro i
    rw [Ac]
    refine GG (f:=E5) (d:=(⟨0, []⟩:Wr)) hk' ?_ i
    exact⟨fun _ _ h=>h,fun _ _ h=>h,tv⟩
  ·refine Ae (Ab _).symm ?_
   refine Ae (Ab _).symm ?_
   exact⟨.ag (Fq d),Ba ⟨Bf (f:=BE) d.cells rfl rfl,Bf (f:=E5) d.cache rfl rfl,ri,ri,tv⟩,rfl⟩
def HE (c:Cel):Bool:=CJ c.state 0 2&&(decide (c.bytes.length<=200)&&decide (c.old.length<=200))
def Ly (n:Nat) (w:Wr):Bool:=CJ w.addr 0 ((n:Int) - 1)&&decide (w.bytes.length<=200)
def MU (d:Dk):Bool:=(CJ d.cells.length 1 300&&(decide (d.cache.length<=2000)&&(CJ d.reqs 0 1048576&&CJ d.left (-1) 1048576)))&&(d.cells.all HE&&d.cache.all (Ly d.cells.length))
theorem R6 (n lo hi:Int):Fn Tryz.prog 39 [.v (.int .i64 n), .v (.int .i64 lo), .v (.int .i64 hi)] fun r=>r = .v (.bool (CJ n lo hi)):=by
 refine zT Tryz.func39 rfl ?_
 conv=>whnf
 repeat' (first | (refine Ao (fun h=>?_) (fun h=>?_) <;> (try simp at h) <;> conv=>whnf) | (refine zN tys_ok mixed (by kernel_rfl) ?_;conv=>whnf) | (refine zX ?_;conv=>whnf) | (refine Ae (by omega) ?_;conv=>whnf))
 all_goals exact⟨_,ri,by simp [CJ, *] <;> omega⟩
theorem W7 (c:Cel):Fn Tryz.prog 92 [.ag (BE c)] fun r=>r = .v (.bool (HE c)):=by
 refine zT Tryz.func92 rfl ?_
 conv=>whnf
 repeat' (first | (refine Ao (fun h=>?_) (fun h=>?_) <;> (try simp at h) <;> conv=>whnf) | (refine zN tys_ok mixed (by kernel_rfl) ?_;conv=>whnf) | (refine zX ?_;conv=>whnf) | (refine z_ (R6 _ _ _) ?_;conv=>whnf) | (refine Ae (by omega) ?_;conv=>whnf))
 all_goals exact⟨_,ri,by congr 2;rw [CI];simp [HE, *] <;> omega⟩
theorem Ug (c:Cel):Fn Tryz.prog 91 [.ag (BE c)] fun r=>r = .v (.bool (!HE c)):=by
 refine zT Tryz.func91 rfl ?_
 conv=>whnf
 refine z_ (W7 c) ?_
 exact⟨_,ri,rfl⟩
theorem Zq (l:List Cel)  (hl:l.length<=1000000):Fn Tryz.prog 162 [NW l, .v (.func (.func 91) #[] #[])] fun r=>r = .v (.int .i64 (Xa (fun c=>!HE c) l)):=by
 refine zT Tryz.func162 rfl ?_
 conv=>whnf
 refine zP Nat (fun k=>([(0,NW l),(1, .v (.func (.func 91) #[] #[])),(7, .v (.int .i64 l.length)),(8, .v (.int .i64 k))], [])) (fun k=>k<=l.length/\(l.take k).any (fun c=>!HE c)=false) (fun k=>l.length - k) 0 ⟨Aj _,by simp⟩ ⟨[],tv,⟨rfl,rfl,rfl,rfl,tv⟩,tv,rfl,rfl,rfl⟩ ?_
 rintro k ⟨hk,hI⟩
 conv=>whnf
 refine Ao (fun h2=>?_) (fun h2=>?_) <;> simp at h2 <;> conv=>whnf
 ·refine⟨by first | omega | (refine⟨rfl,?_,?_⟩ <;> first | omega | (simp only [Ab];done) | (simp only [Ab];omega)) | (simp only [Ab];omega),?_⟩
  conv=>whnf
  refine z_ (Ug (l.getD k ⟨0, [], []⟩)) ?_
  conv=>whnf
  refine Ao (fun h3=>?_) (fun h3=>?_) <;> conv=>whnf
  ·exact⟨_,ri,by rw [Lo (d:=⟨0, [], []⟩) h2 hI (by first | exact h3 | (rw [Ac] at h3;exact h3) | simpa using h3)]⟩
  ·refine⟨k+1,⟨by omega,FC (d:=⟨0, [], []⟩) h2 hI (by first | exact h3 | (rw [Ac] at h3;exact h3) | simpa using h3)⟩,by omega, [],tv,⟨rfl,rfl,rfl,AS (by omega),tv⟩,tv,rfl,rfl,rfl⟩
 ·exact⟨_,ri,by rw [A4 h2] at hI;rw [JD hI]⟩
theorem Zr (l:List Cel)  (hl:l.length<=1000000):Fn Tryz.prog 90 [NW l, .v (.func (.func 91) #[] #[])] fun r=>r = .v (.bool (l.any (fun c=>!HE c))):=by
 refine zT Tryz.func90 rfl ?_
 conv=>whnf
 refine z_ (Zq l  hl) ?_
 exact⟨_,ri,by rw [OD]⟩

theorem Uf (d:Dk) (w:Wr) (hn:d.cells.length<=1000000):Fn Tryz.prog 94 [.ag (E5 w), .rp (Fq d)] fun r=>r = .v (.bool (!Ly d.cells.length w)):=by
 have w1:IntKind.i64.wrap ((d.cells.length:Int) - 1)=d.cells.length - 1:=wi (by omega)
 refine zT Tryz.func94 rfl ?_
 conv=>whnf
 rw [w1]
 repeat' (first | (refine Ao (fun h=>?_) (fun h=>?_) <;> (try simp at h) <;> conv=>whnf) | (refine zN tys_ok mixed (by kernel_rfl) ?_;conv=>whnf) | (refine zX ?_;conv=>whnf) | (refine z_ (R6 _ _ _) ?_;conv=>whnf) | (refine Ae (by omega) ?_;conv=>whnf))
 all_goals exact⟨_,ri,by congr 2;rw [CI];simp [Ly, *] <;> omega⟩
theorem Zn (l:List Wr) (d:Dk) (hn:d.cells.length<=1000000) (hl:l.length<=1000000):Fn Tryz.prog 163 [II l, .fn 94 [.rp (Fq d)]] fun r=>r = .v (.int .i64 (Xa (fun w=>!Ly d.cells.length w) l)):=by
 refine zT Tryz.func163 rfl ?_
 conv=>whnf
 refine zP Nat (fun k=>([(0,II l),(1, .fn 94 [.rp (Fq d)]),(7, .v (.int .i64 l.length)),(8, .v (.int .i64 k))], [])) (fun k=>k<=l.length/\(l.take k).any (fun w=>!Ly d.cells.length w)=false) (fun k=>l.length - k) 0 ⟨Aj _,by simp⟩ ⟨[],tv,⟨rfl,rfl,rfl,rfl,tv⟩,tv,rfl,rfl,rfl⟩ ?_
 rintro k ⟨hk,hI⟩
 conv=>whnf
 refine Ao (fun h2=>?_) (fun h2=>?_) <;> simp at h2 <;> conv=>whnf
 ·refine⟨by first | omega | (refine⟨rfl,?_,?_⟩ <;> first | omega | (simp only [Ab];done) | (simp only [Ab];omega)) | (simp only [Ab];omega),?_⟩
  conv=>whnf
  refine z_ (Uf d (l.getD k ⟨0, []⟩) hn) ?_
  conv=>whnf
  refine Ao (fun h3=>?_) (fun h3=>?_) <;> conv=>whnf
  ·exact⟨_,ri,by rw [Lo (d:=⟨0, []⟩) h2 hI (by first | exact h3 | (rw [Ac] at h3;exact h3) | simpa using h3)]⟩
  ·refine⟨k+1,⟨by omega,FC (d:=⟨0, []⟩) h2 hI (by first | exact h3 | (rw [Ac] at h3;exact h3) | simpa using h3)⟩,by omega, [],tv,⟨rfl,rfl,rfl,AS (by omega),tv⟩,tv,rfl,rfl,rfl⟩
 ·exact⟨_,ri,by rw [A4 h2] at hI;rw [JD hI]⟩
theorem Zo (l:List Wr) (d:Dk) (hn:d.cells.length<=1000000) (hl:l.length<=1000000):Fn Tryz.prog 93 [II l, .fn 94 [.rp (Fq d)]] fun r=>r = .v (.bool (l.any (fun w=>!Ly d.cells.length w))):=by
 refine zT Tryz.func93 rfl ?_
 conv=>whnf
 refine z_ (Zn l d hn hl) ?_
 exact⟨_,ri,by rw [OD]⟩

theorem Ue (d:Dk) (h1:d.cells.length<=1000000) (h2:d.cache.length<=1000000):Fn Tryz.prog 38 [.ag (Fq d)] fun r=>r = .v (Gp (MU d)):=by
 have c1:=Zr d.cells h1
 have c2:=Zo d.cache d h1 h2
 rw [show (d.cells.any fun c=>!HE c) = !d.cells.all HE by rw [Cc,Bool.not_not]] at c1
 rw [show (d.cache.any fun w=>!Ly d.cells.length w) = !d.cache.all (Ly d.cells.length) by rw [Cc,Bool.not_not]] at c2
 obtain⟨A,hA⟩:∃ A,A=d.cells.all HE:=⟨_,rfl⟩
 obtain⟨B,hB⟩:∃ B,B=d.cache.all (Ly d.cells.length):=⟨_,rfl⟩
 have hok:MU d=((CJ d.cells.length 1 300&&(decide (d.cache.length<=2000)&&(CJ d.reqs 0 1048576&&CJ d.left (-1) 1048576)))&&(A&&B)):=by rw [MU,hA,hB]
 rw [<-hA] at c1
 rw [<-hB] at c2
 rw [hok]
 clear hok hA hB
 refine zT Tryz.func38 rfl ?_
 conv=>whnf
 repeat' (first | (refine Ao (fun h=>?_) (fun h=>?_) <;> (try simp at h) <;> conv=>whnf) | (refine zN tys_ok mixed (by kernel_rfl) ?_;conv=>whnf) | (refine zX ?_;conv=>whnf) | (refine z_ (R6 _ _ _) ?_;conv=>whnf) | (refine z_ c1 ?_;conv=>whnf) | (refine z_ c2 ?_;conv=>whnf) | (refine Ae (by omega) ?_;conv=>whnf))
 all_goals exact⟨_,ri,by
  first
   | (rw [show ((CJ d.cells.length 1 300&&(decide (d.cache.length<=2000)&&(CJ d.reqs 0 1048576&&CJ d.left (-1) 1048576)))&&(A&&B))=false by rw [<-BU];simp [*] <;> omega];rfl)
   | (rw [show ((CJ d.cells.length 1 300&&(decide (d.cache.length<=2000)&&(CJ d.reqs 0 1048576&&CJ d.left (-1) 1048576)))&&(A&&B))=true by simp [*] <;> omega];rfl)⟩

def cel0:List AV:= [.v (.int .i64 0), .v (.slice none 0 0), .v (.slice none 0 0)]
theorem Vk (n:Nat) (hn:1<=n/\n<=300):ACalls Tryz.prog false 115 [.v (.int .i64 n)] [] fun r H=>r = .ag [.ow 0 n, .v (.slice none 0 0), .v (.int .i64 0), .v (.int .i64 (-1))]/\H=[.row 84 3 (List.replicate n cel0)]:=by
 refine zS tys_ok Tryz.func115 rfl rfl (Ag rfl) ?_
 refine⟨⟨rfl,by omega,by omega⟩,?_⟩
 conv=>whnf
 exact⟨_, .ag [.ow 0 n, .v (.slice none 0 0), .v (.int .i64 0), .v (.int .i64 (-1))], [.row 84 3 (List.replicate n cel0)],fun _ _ h=>h,zR (s:= [1]) ⟨⟨by rw [Ac];rfl,tv⟩,⟨by rw [Ac];rfl,tv⟩,rfl,rfl,rfl,rfl,rfl⟩,rfl,rfl⟩
@[reducible] def dkG (d:Dk):List AB:= [.box 113 (HK (.ow 1 d.cells.length) (.ow 3 d.cache.length) d.reqs d.left), .row 84 3 (d.cells.map BE), .dead, .row 131 2 (d.cache.map E5)]
theorem Zp (d:Dk):ConvH (dkH d) (dkG d):=zz (H:=dkH d) 0 2 (by decide) rfl rfl
theorem MF (d:Dk) (hl : -1<=d.left/\d.left<=1048576) (hc:d.cache.length<=2000) (ha:∀ w∈d.cache,0<=w.addr/\w.addr<d.cells.length) :
  ACalls Tryz.prog false 86 [.bp 0 0] (dkH d) fun r H=>r = .v (.int .i64 (if d.left=0 then 8 else 0))/\H=dkG (if d.left=0 then d else d.flush):=by
 by_cases h0:d.left=0
 ·rw [if_pos h0,if_pos h0]
  exact(R7 d hl h0).conv fun r H ⟨h1,h2⟩=>⟨_,h2 ▸ Zp d,h1,rfl⟩
 ·rw [if_neg h0,if_neg h0]
  exact(Ud d hl h0 hc ha).conv fun r H ⟨h1,h2⟩=>⟨_,h2 ▸ zy _,h1,rfl⟩
theorem F7 {α β:Type} {f:α->β} {d:α} {l:List α} {k:Nat} (h:k<l.length):(l.take (k+1)).map f=(l.take k).map f ++ [f (l.getD k d)]:=by
 rw [AI h,AF,Aa,Af h];rfl
theorem T8 (d:Dk) (h1:d.cells.length<=1000000) (h2:d.cache.length<=1000000) (hb:∀ c∈d.cells,c.bytes.length<=1000000000/\c.old.length<=1000000000) (hw:∀ w∈d.cache,w.bytes.length<=1000000000) :
  ACalls Tryz.prog false 134 [.ag (Fq d)] [] fun r H=>r = .ag (HK (.ow 0 d.cells.length) (.ow 1 d.cache.length) d.reqs d.left)/\H=[.row 84 3 (d.cells.map BE), .row 131 2 (d.cache.map E5)]:=by
 refine zS tys_ok Tryz.func134 rfl rfl (Ag rfl) ?_
 conv=>whnf
 refine zV Nat (fun k=>([(1, .bp 0 0),(2, .bp 1 0),(3, .bp 2 0),(4, .v (.int .i64 k))], [.box 38 (Fq d), .box 38 [.v (.slice none 0 0), .v (.slice none 0 0), .v (.int .i64 0), .v (.int .i64 0)], .box 38 [.ow 3 k, .v (.slice none 0 0), .v (.int .i64 d.reqs), .v (.int .i64 d.left)], .row 84 3 ((d.cells.take k).map BE)])) (fun k=>k<=d.cells.length) (fun k=>d.cells.length - k) 0 (Aj _)
  ⟨_,_,z6 _ _, [(1002000,84,3)],⟨rfl,rfl,tv⟩, [0,1,2,3],⟨⟨rfl,rfl,rfl,rfl,tv⟩,⟨rfl,rfl,rfl,rfl,tv⟩,rfl,rfl,rfl,rfl,rfl⟩⟩ ?_
 intro k hk
 conv=>whnf
 refine A3 (fun h6=>?_) (fun h6=>?_) <;> (repeat rw [Ac] at h6) <;> conv=>whnf
 ·have hk':k<d.cells.length:=by omega
  obtain⟨c,hc⟩:∃ c,c=d.cells.getD k ⟨0, [], []⟩:=⟨_,rfl⟩
  have hm:=hb _ (A9 (d:=(⟨0, [], []⟩:Cel)) hk')
  rw [<-hc] at hm
  have b1:=Ee c.bytes hm.1
  have b2:=Ee c.old hm.2
  rw [hc] at b1 b2
  have hl:k=((d.cells.take k).map BE).length:=by simp;omega
  apply zW (0) tys_ok mixed (.one 0 (.one 1 (.one 2 (.one 3 (.one 4 (.one 5 (.one 6 (.one 7 (.one 8 (.one 9 (.one 10 (.one 11 (.one 12 (.one 13 (.one 15 (.one 16 (.one 17 (.one 18 (.one 19 (.one 20 (.one 14 (.one 21 (.one 22 (.one 23 (.one 24 (.one 25 (.one 26 .fin))))))))))))))))))))))))))) (by kernel_rfl)
  conv=>whnf
  try (refine tI ?_;conv=>whnf)
  try (refine tI ?_;conv=>whnf)
  try (refine tI ?_;conv=>whnf)
  refine z_ b1 ?_
  conv=>whnf
  refine z_ b2 ?_
  conv=>whnf
  try (refine tJ ?_;conv=>whnf)
  try (refine tK ?_;conv=>whnf)
  try (refine tS ?_;conv=>whnf)
  exact⟨k+1,hk',by omega,zR (s:= [0,1,2,3]) ⟨⟨rfl,rfl,rfl,AS (by omega),tv⟩,⟨rfl,rfl,rfl,congrArg (fun l=>some (AB.row _ _ l)) (F7 hk').symm,tv⟩,rfl,rfl,rfl,rfl,rfl⟩⟩
 ·have ek:k=d.cells.length:=by omega
  subst ek
  refine zV Nat (fun k=>([(1, .bp 0 0),(2, .bp 1 0),(3, .bp 2 0),(5, .v (.int .i64 k))], [.box 38 (Fq d), .box 38 [.v (.slice none 0 0), .v (.slice none 0 0), .v (.int .i64 0), .v (.int .i64 0)], .box 38 [.ow 3 d.cells.length, .ow 4 k, .v (.int .i64 d.reqs), .v (.int .i64 d.left)], .row 84 3 (d.cells.map BE), .row 131 2 ((d.cache.take k).map E5)])) (fun k=>k<=d.cache.length) (fun k=>d.cache.length - k) 0 (Aj _)
   ⟨_,_,z6 _ _, [(1002001,131,2)],⟨rfl,rfl,tv⟩, [0,1,2,3,4],⟨⟨rfl,rfl,rfl,rfl,tv⟩,⟨rfl,rfl,rfl,by rw [Ar];rfl,rfl,tv⟩,rfl,rfl,rfl,rfl,rfl⟩⟩ ?_
  intro k hk
  conv=>whnf
  refine A3 (fun h7=>?_) (fun h7=>?_) <;> (repeat rw [Ac] at h7) <;> conv=>whnf
  ·have hk':k<d.cache.length:=by omega
   have hm:=hw _ (A9 (d:=(⟨0, []⟩:Wr)) hk')
   have b1:=Ee (d.cache.getD k ⟨0, []⟩).bytes hm
   have hl:k=((d.cache.take k).map E5).length:=by simp;omega
   apply zW (0) tys_ok mixed (.one 0 (.one 1 (.one 2 (.one 3 (.one 4 (.one 5 (.one 6 (.one 7 (.one 8 (.one 9 (.one 10 (.one 11 (.one 12 (.one 13 (.one 14 (.one 15 (.one 16 (.one 17 (.one 18 (.one 19 .fin)))))))))))))))))))) (by kernel_rfl)
   conv=>whnf
   try (refine tI ?_;conv=>whnf)
   try (refine tI ?_;conv=>whnf)
   refine z_ b1 ?_
   conv=>whnf
   try (refine tJ ?_;conv=>whnf)
   try (refine tK ?_;conv=>whnf)
   try (refine tS ?_;conv=>whnf)
   exact⟨k+1,hk',by omega,zR (s:= [0,1,2,3,4]) ⟨⟨rfl,rfl,rfl,AS (by omega),tv⟩,⟨rfl,rfl,rfl,rfl,congrArg (fun l=>some (AB.row _ _ l)) (F7 hk').symm,tv⟩,rfl,rfl,rfl,rfl,rfl⟩⟩
  ·have ek:k=d.cache.length:=by omega
   subst ek
   exact⟨_, .ag (HK (.ow 0 d.cells.length) (.ow 1 d.cache.length) d.reqs d.left), [.row 84 3 (d.cells.map BE), .row 131 2 (d.cache.map E5)],fun _ _ h=>h,zR (s:= [3,4]) ⟨⟨rfl,tv⟩,⟨rfl,by rw [Ar];rfl,tv⟩,rfl,rfl,rfl,rfl,rfl⟩,rfl,rfl⟩
@[reducible] def rkH (d:Dk):List AB:= [.box 92 (HK (.ow 1 d.cells.length) (.ow 2 d.cache.length) d.reqs d.left), .row 84 3 (d.cells.map BE), .row 131 2 (d.cache.map E5)]
theorem Ot (d:Dk) (h1:d.cells.length<=1000000) (h2:d.cache.length<=1000000) (hb:∀ c∈d.cells,c.bytes.length<=1000000000/\c.old.length<=1000000000) (hw:∀ w∈d.cache,w.bytes.length<=1000000000) :
  ACalls Tryz.prog false 63 [.ag (Fq d)] [] fun r H=>r = .bp 0 0/\H=rkH d:=by
 have c1:=T8 d h1 h2 hb hw
 refine zS tys_ok Tryz.func63 rfl rfl (Ag rfl) ?_
 conv=>whnf
 refine zU c1 rfl ?_
 rintro _ _ ⟨rfl,rfl⟩
 exact⟨_, .bp 0 0,rkH d,fun _ _ h=>h,zR (s:= [3,1,2]) ⟨⟨rfl,tv⟩,⟨rfl,rfl,rfl,tv⟩,rfl,rfl,rfl,rfl,rfl⟩,rfl,rfl⟩
theorem Om (d:Dk) (hl : -1<=d.left/\d.left<=1048576):ACalls Tryz.prog false 209 [.bp 0 0] (rkH d) fun r H=>r = .v (.bool (decide (d.left≠0)))/\H=rkH (if d.left=0 then d else d.req):=by
 refine zS tys_ok Tryz.func209 rfl rfl (Ag rfl) ?_
 conv=>whnf
 refine A3 (fun h=>?_) (fun h=>?_) <;> (repeat rw [Ac] at h) <;> conv=>whnf
 ·exact⟨_, .v (.bool false),rkH d,fun _ _ h=>h,zR (s:= [0,1,2]) ⟨⟨rfl,tv⟩,⟨rfl,rfl,rfl,tv⟩,rfl,rfl,rfl,rfl,rfl⟩,by simp [h],by rw [if_pos h]⟩
 ·have hw:IntKind.i64.wrap (d.left - 1)=d.left - 1:=by rw [IntKind.wrap_i64];omega
  try
   refine zX ?_
   conv=>whnf
  refine A3 (fun h2=>?_) (fun h2=>?_) <;> (repeat rw [Ac] at h2) <;> conv=>whnf
  ·exact⟨_, .v (.bool true),rkH d.req,fun _ _ h=>h,zR (s:= [0,1,2]) ⟨⟨rfl,tv⟩,⟨congrArg (fun x=>some (AB.box 92 (HK (.ow 1 d.cells.length) (.ow 2 d.cache.length) d.req.reqs x))) (show IntKind.i64.wrap (d.left - 1)=d.req.left by simp [Dk.req,h2,hw]),rfl,rfl,tv⟩,rfl,rfl,rfl,rfl,rfl⟩,by simp [h],by rw [if_neg h]⟩
  ·exact⟨_, .v (.bool true),rkH d.req,fun _ _ h=>h,zR (s:= [0,1,2]) ⟨⟨rfl,tv⟩,⟨congrArg (fun x=>some (AB.box 92 (HK (.ow 1 d.cells.length) (.ow 2 d.cache.length) d.req.reqs x))) (show d.left=d.req.left by simp [Dk.req];omega),rfl,rfl,tv⟩,rfl,rfl,rfl,rfl,rfl⟩,by simp [h],by rw [if_neg h]⟩
theorem Pv (d:Dk) (a:Int) (hl : -1<=d.left/\d.left<=1048576) (ha:0<=a/\a<d.cells.length) (hc:d.cache.length<=2000) (hb:∀ c∈d.cells,c.bytes.length<=100000) (hw:∀ w∈d.cache,w.bytes.length<=100000) :
  ACalls Tryz.prog false 243 [.bp 0 0, .v (.int .i64 a)] (rkH d) fun r H=>r = .ag (Dr ⟨(d.read a).2.2,(d.read a).2.1⟩)/\H=rkH (d.read a).1:=by
 have hq:=Om d hl
 have no:∀ (e:Int) (c:Ctx) (v:Value),Rd (.ag [.v (.int .i64 e), .v (.slice none 0 0)]) c v->Rd (.ag (Dr ⟨e, []⟩)) c v:=fun e=>Ba ⟨ri,Br 1 _,tv⟩
 by_cases h0:d.left=0
 ·rw [if_pos h0,show decide (d.left≠0)=false by simp [h0]] at hq
  refine zS tys_ok Tryz.func243 rfl rfl (Ag rfl) ?_
  conv=>whnf
  refine zZ [0,1,2] hq rfl rfl rfl rfl (by decide) (N5 rfl) ⟨rfl,rfl,rfl,tv⟩ ?_
  rintro _ _ ⟨rfl,rfl⟩
  exact⟨.ag (Dr ⟨8, []⟩), .ag (Dr ⟨8, []⟩),rkH d,no 8,zR (s:= [0,1,2]) ⟨⟨rfl,tv⟩,⟨rfl,rfl,rfl,tv⟩,rfl,rfl,rfl,rfl,rfl⟩,by simp [Dk.read,h0],by simp [Dk.read,h0]⟩
 ·rw [if_neg h0,show decide (d.left≠0)=true by simp [h0]] at hq
  have hE:∀ i,i<d.cache.length->(d.cache.map E5).getD i []=E5 (d.cache.getD i ⟨0, []⟩):=fun i hi=>Bn hi
  have w1:IntKind.i64.wrap ((d.req.cache.length:Int) - 1)=(d.cache.length:Int) - 1:=by show IntKind.i64.wrap ((d.cache.length:Int) - 1)=_;exact wi (by omega)
  refine zS tys_ok Tryz.func243 rfl rfl (Ag rfl) ?_
  conv=>whnf
  refine zZ [0,1,2] hq rfl rfl rfl rfl (by decide) (N5 rfl) ⟨rfl,rfl,rfl,tv⟩ ?_
  rintro _ _ ⟨rfl,rfl⟩
  conv=>whnf
  refine zV Nat (fun k=>([(0, .bp 0 0),(1, .v (.int .i64 a)),(4, .bp 3 0),(5, .v (.int .i64 ((k:Int) - 1)))], [.box 92 (HK (.ow 1 d.cells.length) (.ow 2 d.cache.length) d.req.reqs d.req.left), .row 84 3 (d.cells.map BE), .row 131 2 (d.cache.map E5), .box 263 [.v (.int .i64 0), .v (.slice none 0 0)]])) (fun k=>k<=d.cache.length/\∀ j,k<=j->j<d.cache.length->(d.cache.getD j ⟨0, []⟩).addr≠a) (fun k=>k) d.cache.length ⟨Ah _,fun j h1 h2=>absurd h2 (by omega)⟩
   (zR (s:= [0,1,2,3]) ⟨⟨rfl,rfl,rfl,congrArg (fun x=>AV.v (.int .i64 x)) w1,tv⟩,⟨rfl,rfl,rfl,rfl,tv⟩,rfl,rfl,rfl,rfl,rfl⟩) ?_
  rintro k ⟨hk,hI⟩
  conv=>whnf
  refine A3 (fun h6=>?_) (fun h6=>?_) <;> (repeat rw [Ac] at h6) <;> conv=>whnf
  ·have hk':k - 1<d.cache.length:=by omega
   have ek:((k:Int) - 1).toNat=k - 1:=by omega
   have hE':(d.cache.map E5).getD ((k:Int) - 1).toNat []=E5 (d.cache.getD (k - 1) ⟨0, []⟩):=by rw [ek];exact Bn hk'
   have hcw:=Ee (d.cache.getD (k - 1) ⟨0, []⟩).bytes (by have:=hw _ (A9 (d:=⟨0, []⟩) hk');omega)
   refine⟨⟨by omega,by omega⟩,?_⟩
   refine⟨⟨rfl,(Ab _).symm,by omega⟩,?_⟩
   conv=>whnf
   rw [hE']
   conv=>whnf
   refine A3 (fun h7=>?_) (fun h7=>?_) <;> (repeat rw [Ac] at h7) <;> conv=>whnf
   ·refine⟨⟨by omega,by omega⟩,?_⟩
    refine⟨⟨rfl,(Ab _).symm,by omega⟩,?_⟩
    conv=>whnf
    rw [hE']
    conv=>whnf
    refine z_ hcw ?_
    conv=>whnf
    have hg:d.got a=((d.cache.getD (k - 1) ⟨0, []⟩).bytes,0):=by
     unfold Dk.got
     rw [Kr _ _ rfl (k - 1) hk' h7 fun j q1 q2=>hI j (by omega) q2]
    exact⟨_, .ag (Dr ⟨0,(d.cache.getD (k - 1) ⟨0, []⟩).bytes⟩),rkH d.req,fun _ _ h=>h,zR (s:= [0,1,2]) ⟨⟨rfl,tv⟩,⟨rfl,rfl,rfl,tv⟩,rfl,rfl,rfl,rfl,rfl⟩,by simp [Dk.read,h0,hg],by simp [Dk.read,h0]⟩
   ·refine⟨k - 1,⟨by omega,fun j q1 q2=>?_⟩,by omega,zR (s:= [0,1,2,3]) ⟨⟨rfl,rfl,rfl,congrArg (fun x=>AV.v (.int .i64 x)) (show IntKind.i64.wrap ((k:Int) - 1 - 1)=((k - 1:Nat):Int) - 1 by rw [wi (by omega)];omega),tv⟩,⟨rfl,rfl,rfl,rfl,tv⟩,rfl,rfl,rfl,rfl,rfl⟩⟩
    by_cases hj:j=k - 1
    ·rw [hj];exact h7
    ·exact hI j (by omega) q2
  ·have hg:d.got a=if (d.cells.getD a.toNat ⟨0, [], []⟩).state=0 then ((d.cells.getD a.toNat ⟨0, [], []⟩).bytes,0) else ([],6):=by
    unfold Dk.got
    rw [IZ _ _ rfl fun j q=>hI j (by omega) q]
   have hgc:(d.cells.map BE).getD a.toNat []=BE (d.cells.getD a.toNat ⟨0, [], []⟩):=Bn (by omega)
   have hcb:=Ee (d.cells.getD a.toNat ⟨0, [], []⟩).bytes (by have:=hb _ (A9 (d:=⟨0, [], []⟩) (show a.toNat<d.cells.length by omega));omega)
   refine⟨ha,?_⟩
   refine⟨⟨rfl,(Ab _).symm,show a.toNat<d.cells.length by omega⟩,?_⟩
   conv=>whnf
   rw [hgc]
   conv=>whnf
   refine A3 (fun h1=>?_) (fun h1=>?_) <;> (repeat rw [Ac] at h1) <;> conv=>whnf
   ·rw [if_neg h1] at hg
    exact⟨.ag (Dr ⟨6, []⟩), .ag (Dr ⟨6, []⟩),rkH d.req,no 6,zR (s:= [0,1,2]) ⟨⟨rfl,tv⟩,⟨rfl,rfl,rfl,tv⟩,rfl,rfl,rfl,rfl,rfl⟩,by simp only [Dk.read,if_neg h0,hg],by simp only [Dk.read,if_neg h0]⟩
   ·rw [if_pos h1] at hg
    refine⟨ha,?_⟩
    refine⟨⟨rfl,(Ab _).symm,show a.toNat<d.cells.length by omega⟩,?_⟩
    conv=>whnf
    rw [hgc]
    conv=>whnf
    refine z_ hcb ?_
    exact⟨_, .ag (Dr ⟨0,(d.cells.getD a.toNat ⟨0, [], []⟩).bytes⟩),rkH d.req,fun _ _ h=>h,zR (s:= [0,1,2]) ⟨⟨rfl,tv⟩,⟨rfl,rfl,rfl,tv⟩,rfl,rfl,rfl,rfl,rfl⟩,by simp only [Dk.read,if_neg h0,hg],by simp only [Dk.read,if_neg h0]⟩
theorem Np (d:Dk) (a:Int) (b:List UInt8) (hl : -1<=d.left/\d.left<=1048576) (ha:0<=a/\a<d.cells.length) (hc:d.cache.length<=2000) (hb:b.length<=100000) :
  ACalls Tryz.prog false 145 [.bp 0 0, .v (.int .i64 a),bA b] (rkH d) fun r H=>r = .v (.int .i64 (d.write a b).2)/\H=rkH (d.write a b).1:=by
 have hq:=Om d hl
 have hcb:=Ee b (by omega)
 by_cases h0:d.left=0
 ·rw [if_pos h0,show decide (d.left≠0)=false by simp [h0]] at hq
  refine zS tys_ok Tryz.func145 rfl rfl (Ag rfl) ?_
  conv=>whnf
  refine hq.mono ?_
  rintro _ _ ⟨rfl,rfl⟩
  exact⟨_, .v (.int .i64 8),rkH d,fun _ _ h=>h,zR (s:= [0,1,2]) ⟨⟨rfl,tv⟩,⟨rfl,rfl,rfl,tv⟩,rfl,rfl,rfl,rfl,rfl⟩,by simp only [Dk.write,if_pos h0],by simp only [Dk.write,if_pos h0]⟩
 ·rw [if_neg h0,show decide (d.left≠0)=true by simp [h0]] at hq
  have hgc:(d.cells.map BE).getD a.toNat []=BE (d.cells.getD a.toNat ⟨0, [], []⟩):=Bn (by omega)
  have hgc':(d.req.cells.map BE).getD a.toNat []=BE (d.cells.getD a.toNat ⟨0, [], []⟩):=hgc
  refine zS tys_ok Tryz.func145 rfl rfl (Ag rfl) ?_
  conv=>whnf
  refine hq.mono ?_
  rintro _ _ ⟨rfl,rfl⟩
  refine⟨ha,?_⟩
  refine⟨⟨rfl,(Ab _).symm,show a.toNat<d.cells.length by omega⟩,?_⟩
  conv=>whnf
  first | rw [hgc] | rw [hgc']
  conv=>whnf
  refine A3 (fun h1=>?_) (fun h1=>?_) <;> (repeat rw [Ac] at h1) <;> conv=>whnf
  ·exact⟨_, .v (.int .i64 7),rkH d.req,fun _ _ h=>h,zR (s:= [0,1,2]) ⟨⟨rfl,tv⟩,⟨rfl,rfl,rfl,tv⟩,rfl,rfl,rfl,rfl,rfl⟩,by simp only [Dk.write,if_neg h0,if_pos (Or.inl h1)],by simp only [Dk.write,if_neg h0,if_pos (Or.inl h1)]⟩
  ·by_cases h2:(2000:Int)<=d.cache.length
   ·rw [show decide ((d.req.cache.length:Int)>=2000)=true from decide_eq_true h2]
    exact⟨_, .v (.int .i64 7),rkH d.req,fun _ _ h=>h,zR (s:= [0,1,2]) ⟨⟨rfl,tv⟩,⟨rfl,rfl,rfl,tv⟩,rfl,rfl,rfl,rfl,rfl⟩,by simp only [Dk.write,if_neg h0,if_pos (Or.inr h2)],by simp only [Dk.write,if_neg h0,if_pos (Or.inr h2)]⟩
   ·rw [show decide ((d.req.cache.length:Int)>=2000)=false from decide_eq_false h2]
    have hc':d.req.cache.length<=2000:=hc
    have h3:¬((d.cells.getD a.toNat ⟨0, [], []⟩).state=2\/(2000:Int)<=d.cache.length):=fun h=>h.elim h1 h2
    conv=>whnf
    apply zW (0) tys_ok mixed (.one 0 (.one 1 (.one 2 (.one 3 (.one 4 (.one 5 (.one 6 (.one 7 (.one 8 (.one 9 (.one 10 (.one 11 (.one 12 (.one 13 (.one 14 (.one 15 .fin)))))))))))))))) (by kernel_rfl)
    conv=>whnf
    refine z_ hcb ?_
    conv=>whnf
    try (refine tJ ?_;conv=>whnf)
    try (refine tK ?_;conv=>whnf)
    try (refine tS ?_;conv=>whnf)
    have e:rkH { d.req with cache:=d.cache ++ [⟨a,b⟩] }=[.box 92 (HK (.ow 1 d.cells.length) (.ow 2 (d.cache.length+1)) d.req.reqs d.req.left), .row 84 3 (d.cells.map BE), .row 131 2 (d.cache.map E5 ++ [E5 ⟨a,b⟩])]:=by
     unfold rkH
     simp only [Ai,List.length_singleton,AF,A0,Bp]
     rfl
    refine⟨_, .v (.int .i64 0),rkH { d.req with cache:=d.cache ++ [⟨a,b⟩] },fun _ _ h=>h,zR (s:= [0,1,2]) ?_,by simp only [Dk.write,if_neg h0,if_neg h3],by simp only [Dk.write,if_neg h0,if_neg h3]⟩
    rw [e]
    exact⟨⟨rfl,tv⟩,⟨rfl,rfl,rfl,tv⟩,rfl,rfl,rfl,rfl,rfl⟩
theorem V4 (d:Dk) (w:Wr) (ha:0<=w.addr/\w.addr<d.cells.length) (hb:w.bytes.length<=100000) :
  ACalls Tryz.prog false 211 [.bp 0 0, .ag (E5 w)] (rkH d) fun r H=>r = .tp []/\H=rkH (d.fin w):=by
 have hgc:(d.cells.map BE).getD w.addr.toNat []=BE (d.cells.getD w.addr.toNat cz):=Bn (by omega)
 have hcb:=Ee w.bytes (by omega)
 refine zS tys_ok Tryz.func211 rfl rfl (Ag rfl) ?_
 conv=>whnf
 apply zW (0) tys_ok mixed (.one 0 (.one 1 (.one 2 (.one 3 (.one 4 (.one 5 (.one 6 (.one 7 (.one 8 .fin))))))))) (by kernel_rfl)
 conv=>whnf
 try (refine tI ?_;conv=>whnf)
 refine⟨⟨rfl,(Ab _).symm,show w.addr.toNat<d.cells.length by omega⟩,?_⟩
 conv=>whnf
 rw [hgc]
 conv=>whnf
 refine A3 (fun h1=>?_) (fun h1=>?_) <;> (repeat rw [Ac] at h1) <;> conv=>whnf
 ·exact⟨_, .tp [],rkH d,fun _ _ h=>h,zR (s:= [0,1,2]) ⟨⟨rfl,tv⟩,⟨rfl,rfl,rfl,tv⟩,rfl,rfl,rfl,rfl,rfl⟩,rfl,by simp only [Dk.fin,if_pos h1]⟩
 ·have hmem:w.addr.toNat<d.cells.length:=by omega
  apply zW (0) tys_ok mixed (.one 0 (.one 1 (.one 2 (.one 3 (.one 4 (.one 5 (.one 6 (.one 7 (.one 8 (.one 9 (.one 10 (.one 11 (.one 12 (.one 13 (.one 14 (.one 15 (.one 16 (.one 17 (.one 18 .fin))))))))))))))))))) (by kernel_rfl)
  conv=>whnf
  try (first | (refine Ae ⟨rfl,(Ab _).symm,hmem⟩ ?_;(conv=>whnf);rw [hgc]) | (refine Ae ⟨rfl,by simp,hmem⟩ ?_;(conv=>whnf);rw [BW (by simpa using hmem)]) | skip;conv=>whnf)
  try (first | (refine Ae ⟨rfl,(Ab _).symm,hmem⟩ ?_;(conv=>whnf);rw [hgc]) | (refine Ae ⟨rfl,by simp,hmem⟩ ?_;(conv=>whnf);rw [BW (by simpa using hmem)]) | skip;conv=>whnf)
  refine z_ hcb ?_
  conv=>whnf
  try (refine tS ?_;conv=>whnf)
  (first | rw [hgc] | rw [BW (by simpa using hmem)] | skip)
  conv=>whnf
  try (refine tS ?_;conv=>whnf)
  (first | rw [hgc] | rw [BW (by simpa using hmem)] | skip)
  conv=>whnf
  try (refine tS ?_;conv=>whnf)
  (first | rw [hgc] | rw [BW (by simpa using hmem)] | skip)
  conv=>whnf
  have e:rkH (d.fin w)=[.box 92 (HK (.ow 1 d.cells.length) (.ow 2 d.cache.length) d.reqs d.left), .row 84 3 ((d.cells.map BE).set w.addr.toNat (BE ⟨0,w.bytes,(d.cells.getD w.addr.toNat cz).bytes⟩)), .row 131 2 (d.cache.map E5)]:=by
   rw [Dk.fin,if_neg h1]
   unfold rkH
   simp only [Bh,CA]
  refine⟨_, .tp [],rkH (d.fin w),fun _ _ h=>h,zR (s:= [0,1,2]) ?_,rfl,rfl⟩
  rw [e]
  exact⟨⟨rfl,tv⟩,⟨rfl,congrArg (fun l=>some (AB.row _ _ l)) (by rw [List.set_set,List.set_set];rfl),rfl,tv⟩,rfl,rfl,rfl,rfl,rfl⟩
@[reducible] def rkG (d:Dk):List AB:= [.box 92 (HK (.ow 1 d.cells.length) (.ow 3 d.cache.length) d.reqs d.left), .row 84 3 (d.cells.map BE), .dead, .row 131 2 (d.cache.map E5)]
theorem YR (d:Dk):ConvH (rkH d) (rkG d):=zz (H:=rkH d) 0 2 (by decide) rfl rfl
theorem Nu (d:Dk) (hl : -1<=d.left/\d.left<=1048576) (hc:d.cache.length<=2000) (ha:∀ w∈d.cache,0<=w.addr/\w.addr<d.cells.length) (hb:∀ w∈d.cache,w.bytes.length<=100000) :
  ACalls Tryz.prog false 147 [.bp 0 0] (rkH d) fun r H=>r = .v (.int .i64 (if d.left=0 then 8 else 0))/\H=rkG (if d.left=0 then d else d.flush):=by
 have hq:=Om d hl
 by_cases h0:d.left=0
 ·rw [if_pos h0,show decide (d.left≠0)=false by simp [h0]] at hq
  rw [if_pos h0,if_pos h0]
  refine zS tys_ok Tryz.func147 rfl rfl (Ag rfl) ?_
  conv=>whnf
  refine hq.mono ?_
  rintro _ _ ⟨rfl,rfl⟩
  exact⟨_, .v (.int .i64 8),rkG d,fun _ _ h=>h,zD (zK (YR d)) (s:= [0,1,2,3]) ⟨⟨rfl,tv⟩,⟨rfl,rfl,tv,rfl,tv⟩,rfl,rfl,rfl,rfl,rfl⟩,rfl,rfl⟩
 ·rw [if_neg h0,show decide (d.left≠0)=true by simp [h0]] at hq
  rw [if_neg h0,if_neg h0]
  have hE:∀ i,i<d.cache.length->(d.cache.map E5).getD i []=E5 (d.cache.getD i ⟨0, []⟩):=fun i hi=>Bn hi
  refine zS tys_ok Tryz.func147 rfl rfl (Ag rfl) ?_
  conv=>whnf
  refine hq.mono ?_
  rintro _ _ ⟨rfl,rfl⟩
  conv=>whnf
  refine zV Nat (fun k=>([(0, .bp 0 0),(2, .v (.int .i64 0)),(3, .v (.int .i64 k))],rkH (d.req.allFin (d.cache.take k)))) (fun k=>k<=d.cache.length) (fun k=>d.cache.length - k) 0 (Aj _)
   (zR (s:= [0,1,2]) ⟨⟨rfl,rfl,rfl,tv⟩,⟨rfl,rfl,rfl,tv⟩,rfl,rfl,rfl,rfl,rfl⟩) ?_
  intro k hk
  have hall:=Jh (d.cache.take k) d.req
  have hnext:k<d.cache.length->d.req.allFin (d.cache.take (k+1))=(d.req.allFin (d.cache.take k)).fin (d.cache.getD k ⟨0, []⟩):=fun h=>KY d.req h
  have hlast:k=d.cache.length->d.flush={ d.req.allFin (d.cache.take k) with cache:= [] }:=fun h=>by rw [h,Ar];rfl
  generalize d.req.allFin (d.cache.take k)=X at hall hnext hlast |-
  obtain⟨xc,xw,xr,xl⟩:=X
  simp only at hall
  obtain⟨q1,q2,q3,q4⟩:=hall
  have q2:xw=d.cache:=q2
  subst q2
  have q1':xc.length=d.cells.length:=q1
  conv=>whnf
  refine A3 (fun h=>?_) (fun h=>?_) <;> (repeat rw [Ac] at h) <;> conv=>whnf
  ·have hk':k<d.cache.length:=h
   have hd:=V4 ⟨xc,d.cache,xr,xl⟩ (d.cache.getD k ⟨0, []⟩) (by have:=ha _ (A9 (d:=⟨0, []⟩) hk');show _/\_<((xc.length:Nat):Int);rw [q1'];exact this) (hb _ (A9 (d:=⟨0, []⟩) hk'))
   refine⟨⟨by omega,by omega⟩,?_⟩
   refine⟨⟨rfl,(Ab _).symm,by simpa using hk'⟩,?_⟩
   conv=>whnf
   rw [show ((k:Int)).toNat=k from Ac k,hE k hk']
   conv=>whnf
   refine zZ [0,1,2] hd rfl rfl rfl rfl (by decide) (N5 rfl) ⟨rfl,rfl,rfl,tv⟩ ?_
   rintro _ _ ⟨rfl,rfl⟩
   refine⟨k+1,hk',by omega,zR (s:= [0,1,2]) ?_⟩
   rw [hnext hk']
   exact⟨⟨rfl,rfl,AS (by omega),tv⟩,⟨rfl,rfl,rfl,tv⟩,rfl,rfl,rfl,rfl,rfl⟩
  ·have ek:k=d.cache.length:=Nat.le_antisymm hk h
   rw [hlast ek]
   exact⟨_, .v (.int .i64 0),rkG { cells:=xc,cache:= [],reqs:=xr,left:=xl },fun _ _ h=>h,⟨_,_,z6 _ _, [(1000001,131,2)],⟨rfl,rfl,tv⟩, [0,1,2,3],⟨⟨rfl,tv⟩,⟨rfl,rfl,tv,rfl,tv⟩,rfl,rfl,rfl,rfl,rfl⟩⟩,rfl,rfl⟩
structure DkOk (d:Dk):Prop where
 n:1<=d.cells.length/\d.cells.length<=300
 m:d.cache.length<=2000
 r:0<=d.reqs/\d.reqs<=1048576
 l : -1<=d.left/\d.left<=1048576
 c:∀ c∈d.cells,(0<=c.state/\c.state<=2)/\c.bytes.length<=200/\c.old.length<=200
 w:∀ w∈d.cache,(0<=w.addr/\w.addr<d.cells.length)/\w.bytes.length<=200
theorem VD {d:Dk}:MU d=true↔DkOk d:=by
 constructor
 ·intro h
  simp only [MU,Ad,AL,decide_eq_true_eq,Aw,HE,Ly] at h
  obtain⟨⟨h1,h2,h3,h4⟩,h5,h6⟩:=h
  exact⟨by omega,h2,h3,h4,fun c hc=>h5 c hc,fun w hw=>⟨by have:=(h6 w hw).1;omega,(h6 w hw).2⟩⟩
 ·intro h
  simp only [MU,Ad,AL,decide_eq_true_eq,Aw,HE,Ly]
  exact⟨⟨by have:=h.n;omega,h.m,h.r,h.l⟩,fun c hc=>h.c c hc,fun w hw=>⟨by have:=(h.w w hw).1;omega,(h.w w hw).2⟩⟩
theorem DkOk.req {d:Dk} (h:DkOk d):DkOk d.req:=by
 have hr:=h.r
 have hl:=h.l
 refine⟨h.n,h.m,?_,?_,h.c,h.w⟩
 ·show 0<=(if 1048576<IntKind.i64.wrap (d.reqs+1) then 1048576 else IntKind.i64.wrap (d.reqs+1))/\(if 1048576<IntKind.i64.wrap (d.reqs+1) then 1048576 else IntKind.i64.wrap (d.reqs+1))<=1048576
  rw [wi (by omega)]
  split <;> omega
 ·show -1<=(if d.left > 0 then d.left - 1 else d.left)/\(if d.left > 0 then d.left - 1 else d.left)<=1048576
  split <;> omega
theorem TO {d:Dk} (h:DkOk d) (a:Int):(d.got a).1.length<=200:=by
 unfold Dk.got
 cases hl:H8 d.cache a with
 | some w=>
  have:∀ (l:List Wr) (r:Option Wr),(∀ x∈l,x.bytes.length<=200)->(∀ x,r=some x->x.bytes.length<=200)->∀ x,l.foldl (fun r w=>if w.addr=a then some w else r) r=some x->x.bytes.length<=200:=by
   intro l
   induction l with
   | nil=>intro r _ h2 x hx;exact h2 x hx
   | cons y l ih=>
    intro r h1 h2 x hx
    refine ih _ (fun x hx=>h1 x (AZ _ hx)) (fun x hx=>?_) x hx
    simp only at hx
    split at hx
    ·cases hx;exact h1 y (by simp)
    ·exact h2 x hx
  exact this d.cache none (fun x hx=>(h.w x hx).2) (fun x hx=>by cases hx) w hl
 | none=>
  simp only
  split
  ·by_cases ha:a.toNat<d.cells.length
   ·exact(h.c _ (A9 (d:=⟨0, [], []⟩) ha)).2.1
   ·rw [Aa,AJ (by omega)];simp
  ·simp
theorem DkOk.read {d:Dk} (h:DkOk d) (a:Int):DkOk (d.read a).1:=by
 unfold Dk.read
 split
 ·exact h
 ·exact h.req
theorem DkOk.write {d:Dk} (h:DkOk d) {a:Int} {b:List UInt8} (ha:0<=a/\a<d.cells.length) (hb:b.length<=200):DkOk (d.write a b).1:=by
 unfold Dk.write
 split
 ·exact h
 ·split
  ·exact h.req
  ·rename_i h1
   have h2:=h.req
   refine⟨h2.n,?_,h2.r,h2.l,h2.c,fun w hw=>?_⟩
   ·simp only [Ai,List.length_singleton];omega
   ·rcases A6.1 hw with hw | hw
    ·exact h.w w hw
    ·simp at hw;subst hw;exact⟨ha,hb⟩
theorem DkOk.fin {d:Dk} (h:DkOk d) {w:Wr} (hb:w.bytes.length<=200):DkOk (d.fin w):=by
 unfold Dk.fin
 split
 ·exact h
 ·refine⟨by simpa using h.n,h.m,h.r,h.l,fun c hc=>?_,fun x hx=>by simpa using h.w x hx⟩
  rcases Cm hc with hc | rfl
  ·exact h.c c hc
  ·refine⟨⟨CG _,show (0:Int)<=2 by decide⟩,hb,?_⟩
   show (d.cells.getD w.addr.toNat cz).bytes.length<=200
   by_cases ha:w.addr.toNat<d.cells.length
   ·exact(h.c _ (A9 (d:=cz) ha)).2.1
   ·rw [Aa,AJ (by omega)];simp [cz]
theorem DkOk.allFin (l:List Wr):∀ {d:Dk},DkOk d->(∀ w∈l,w.bytes.length<=200)->DkOk (d.allFin l):=by
 induction l with
 | nil=>intro d h _;exact h
 | cons w l ih=>intro d h hw;exact ih (h.fin (hw w (by simp))) fun x hx=>hw x (AZ _ hx)
theorem DkOk.flush {d:Dk} (h:DkOk d):DkOk d.flush:=by
 have h1:=h.req.allFin d.cache (fun w hw=>(h.w w hw).2)
 exact⟨h1.n,by simp [Dk.flush],h1.r,h1.l,h1.c,fun w hw=>by simp [Dk.flush] at hw⟩
theorem Xe (d:Dk) (a:Int) (b:List UInt8):(d.write a b).1.cells.length=d.cells.length:=by
 unfold Dk.write;split
 ·rfl
 ·split <;> rfl
theorem S0 (d:Dk):d.flush.cells.length=d.cells.length:=(Jh d.cache d.req).1
def Dk.adv:Nat->Dk->Dk
 | 0,d=>d
 | k+1,d=>let e:=Dk.adv k d;if e.left=0 then e else e.req
def Dk.live (k:Nat) (d:Dk):Prop:=d.left<0\/(k:Int)<=d.left
instance (k:Nat) (d:Dk):Decidable (d.live k):=by unfold Dk.live;infer_instance
theorem Gs (k:Nat) (d:Dk):(d.adv k).cells=d.cells/\(d.adv k).cache=d.cache:=by
 induction k with
 | zero=>exact⟨rfl,rfl⟩
 | succ k ih=>show (if _ then _ else _:Dk).cells=_/\(if _ then _ else _:Dk).cache=_;split <;> exact ih
theorem Qw (k:Nat) (d:Dk) (h:d.live k):(d.adv k).left=if d.left<0 then d.left else d.left - k:=by
 induction k with
 | zero=>show d.left=_;simp
 | succ k ih=>
  have h':d.live k:=by unfold Dk.live at *;omega
  have ih:=ih h'
  have h0:¬(d.adv k).left=0:=by rw [ih];unfold Dk.live at h;split <;> omega
  show (if (d.adv k).left=0 then d.adv k else (d.adv k).req).left=_
  rw [if_neg h0]
  show (if (d.adv k).left > 0 then (d.adv k).left - 1 else (d.adv k).left)=_
  rw [ih]
  unfold Dk.live at h
  split <;> split <;> omega
theorem WV (k:Nat) (d:Dk) (h:¬d.live (k+1)) (h':d.live k):(d.adv k).left=0:=by
 rw [Qw k d h']
 unfold Dk.live at *
 split <;> omega
theorem JW (k n:Nat) (d:Dk) (h:(d.adv k).left=0) (hn:k<=n):d.adv n=d.adv k:=by
 induction n with
 | zero=>rw [show k=0 by omega]
 | succ n ih=>
  by_cases e:k=n+1
  ·rw [e]
  ·have:=ih (by omega)
   show (if (d.adv n).left=0 then d.adv n else (d.adv n).req)=_
   rw [this,if_pos h]
theorem WT (k:Nat) (d:Dk) (h:¬(d.adv k).left=0):d.adv (k+1)=(d.adv k).req:=if_neg h
theorem Qv (k:Nat) (d:Dk) (hl : -1<=d.left) (h:d.live k):(d.adv k).left=0↔¬d.live (k+1):=by
 rw [Qw k d h]
 unfold Dk.live at *
 split <;> omega
theorem DkOk.adv {d:Dk} (h:DkOk d) (k:Nat):DkOk (d.adv k):=by
 induction k with
 | zero=>exact h
 | succ k ih=>show DkOk (if _ then _ else _);split;exact ih;exact ih.req
theorem Ys (k:Nat) (d:Dk) (a:Int):(d.adv k).got a=d.got a:=by
 unfold Dk.got
 rw [(Gs k d).1,(Gs k d).2]
def TP (d:Dk) (a:Int):Gt:=⟨(d.got a).2,(d.got a).1⟩
theorem Sv (d:Dk) (a:Int):(d.got a).2=0\/(d.got a).2=6:=by
 unfold Dk.got
 cases H8 d.cache a with
 | some w=>exact .inl rfl
 | none=>simp only;split;exact .inl rfl;exact .inr rfl
def CO (s:Dk × Nat × Bool) (w:Wr):Dk × Nat × Bool:=
 if s.2.2 then s else
 match s.1.write w.addr w.bytes with
 | (d,e)=>if e=8 then (d,s.2.1,true) else (d,s.2.1+(if e=0 then 1 else 0),false)
def Dk.writes (d:Dk) (l:List Wr):Dk × Nat × Bool:=l.foldl CO (d,0,false)
def Dk.putAll (d:Dk) (l:List Wr):Dk × Nat × Bool:=
 match d.writes l with
 | (d1,n,dead)=>if dead then (d1,n,true) else if d1.left=0 then (d1,n,true) else (d1.flush,n,false)
theorem FD (d:Dk) {l:List Wr} {k:Nat} (h:k<l.length):d.writes (l.take (k+1))=CO (d.writes (l.take k)) (l.getD k ⟨0, []⟩):=by
 unfold Dk.writes
 rw [Bj,CB,Af h]
 simp [Aa,Af h]
theorem HN {s:Dk × Nat × Bool} (w:Wr) (h:s.2.2=true):CO s w=s:=by unfold CO;rw [if_pos h]
theorem KB (d:Dk) {l:List Wr} {k:Nat} (hk:k<=l.length) (h:(d.writes (l.take k)).2.2=true):d.writes l=d.writes (l.take k):=by
 have:∀ n,k<=n->n<=l.length->d.writes (l.take n)=d.writes (l.take k):=by
  intro n
  induction n with
  | zero=>intro h1 _;rw [show k=0 by omega]
  | succ n ih=>
   intro h1 h2
   by_cases e:k=n+1
   ·rw [e]
   ·rw [FD d (by omega),ih (by omega) (by omega),HN _ h]
 have:=this l.length hk (Ah _)
 rwa [Ar] at this
theorem Qy {P:Dk->Prop} (l:List Wr) (hw:∀ d,P d->∀ w∈l,P (d.write w.addr w.bytes).1) {d:Dk} (h:P d) (k:Nat):P (d.writes (l.take k)).1:=by
 induction k with
 | zero=>simpa [Dk.writes] using h
 | succ k ih=>
  by_cases hk:k<l.length
  ·rw [FD d hk]
   unfold CO
   split
   ·exact ih
   ·have:=hw _ ih _ (A9 (d:=(⟨0, []⟩:Wr)) hk)
    simp only
    split <;> exact this
  ·rw [A4 (by omega)];rwa [A4 (by omega)] at ih
def an0:An:=⟨0,0,0,0,0,⟨#[]⟩, []⟩
theorem an0_sub:SubL [.v (.int .i64 0), .v (.int .i64 0), .v (.int .i64 0), .v (.int .i64 0), .v (.int .i64 0), .v (.string ⟨#[]⟩), .v (.slice none 0 0)] (Ed an0):=
 ⟨fun _ _ h=>h,fun _ _ h=>h,fun _ _ h=>h,fun _ _ h=>h,fun _ _ h=>h,fun _ _ h=>h,Br 3 _,tv⟩
structure Stt where
 a:An
 txns:List Tx
 only:Bool
 cursor:Int
 found:Int
 fixed:Int
 moved:Int
 lost:List Int
 deriving DecidableEq
def Fi (s:Stt):List AV:= [.v (.int .i64 s.a.gen), .v (.int .i64 s.a.epoch), .v (.int .i64 s.a.pos), .v (.int .i64 s.a.seq), .v (.int .i64 s.a.last), .v (.string s.a.label),I8 s.a.homes,Di s.txns, .v (.bool s.only), .v (.int .i64 s.cursor), .v (.int .i64 s.found), .v (.int .i64 s.fixed), .v (.int .i64 s.moved),iA s.lost]
def st0:Stt:=⟨an0, [],false,0,0,0,0, []⟩
@[reducible] def Z5 (g:Geo) (x:AV) (s:Stt):List AV:= [.v (.int .i64 g.z), .v (.int .i64 g.d), .v (.int .i64 g.sp), .v (.int .i64 g.sl), .v (.int .i64 g.an),x, .v (.int .i64 s.a.gen), .v (.int .i64 s.a.epoch), .v (.int .i64 s.a.pos), .v (.int .i64 s.a.seq), .v (.int .i64 s.a.last), .v (.string s.a.label),I8 s.a.homes,Di s.txns, .v (.bool s.only), .v (.int .i64 s.cursor), .v (.int .i64 s.found), .v (.int .i64 s.fixed), .v (.int .i64 s.moved),iA s.lost]
@[reducible] def GC (g:Geo) (s:Stt) (d:Dk):List AB:= [.box 107 (Z5 g (.bp 1 0) s), .box 113 (HK (.ow 2 d.cells.length) (.ow 3 d.cache.length) d.reqs d.left), .row 84 3 (d.cells.map BE), .row 131 2 (d.cache.map E5)]
@[reducible] def bwG (g:Geo) (s:Stt) (d:Dk):List AB:= [.box 107 (Z5 g (.bp 1 0) s), .box 113 (HK (.ow 2 d.cells.length) (.ow 4 d.cache.length) d.reqs d.left), .row 84 3 (d.cells.map BE), .dead, .row 131 2 (d.cache.map E5)]
theorem Zx (g:Geo) (s:Stt) (d:Dk):ConvH (GC g s d) (bwG g s d):=zz (H:=GC g s d) 1 3 (by decide) rfl rfl
theorem IF {m:Nat} (h:Nat.ble 4 m=true):∀ z∈ [1,2,3],z<m:=fun z hz=>by
 have:=Ag h
 simp at hz
 omega
theorem Er {m:Nat} (h:Nat.ble 4 m=true):∀ z∈ [0,1,2,3],z<m:=fun z hz=>by
 have:=Ag h
 simp at hz
 omega
theorem Zj (g:Geo) (s:Stt) (d:Dk) (a:Int) (h:DkOk d) (ha:0<=a/\a<d.cells.length) :
  ACalls Tryz.prog false 180 [.bp 0 0, .v (.int .i64 a)] (GC g s d) fun r H=>r = .ag (Dr ⟨(d.read a).2.2,(d.read a).2.1⟩)/\H=GC g s (d.read a).1:=by
 have hr:=W2 Dc d a h.l ha h.m (fun c hc=>by have:=(h.c c hc).2.1;omega) (fun w hw=>by have:=(h.w w hw).2;omega)
 refine zS tys_ok Tryz.func180 rfl rfl (Ag rfl) ?_
 conv=>whnf
 refine zZ [1,2,3] hr rfl rfl rfl rfl (by decide) (IF rfl) ⟨rfl,rfl,rfl,tv⟩ ?_
 rintro _ _ ⟨rfl,rfl⟩
 exact⟨_, .ag (Dr ⟨(d.read a).2.2,(d.read a).2.1⟩),GC g s (d.read a).1,fun _ _ h=>h,zR (s:= [0,1,2,3]) ⟨⟨rfl,tv⟩,⟨rfl,rfl,rfl,rfl,tv⟩,rfl,rfl,rfl,rfl,rfl⟩,rfl,rfl⟩
theorem S4 (g:Geo) (s:Stt) (d:Dk) (a:Int) (b:List UInt8) (h:DkOk d) (ha:0<=a/\a<d.cells.length) (hb:b.length<=200) :
  ACalls Tryz.prog false 160 [.bp 0 0, .v (.int .i64 a),bA b] (GC g s d) fun r H=>r = .tp [.v (.bool (decide ((d.write a b).2=0))), .v (.int .i64 (if (d.write a b).2=8 then 8 else 0))]/\H=GC g s (d.write a b).1:=by
 have hr:=Ua Dc d a b h.l ha h.m (by omega)
 have he:(d.write a b).2=8\/(d.write a b).2=7\/(d.write a b).2=0:=by
  unfold Dk.write;split
  ·exact .inl rfl
  ·split
   ·exact .inr (.inl rfl)
   ·exact .inr (.inr rfl)
 generalize d.write a b=q at hr he |-
 obtain⟨d',e⟩:=q
 simp only at hr he |-
 refine zS tys_ok Tryz.func160 rfl rfl (Ag rfl) ?_
 conv=>whnf
 refine zZ [1,2,3] hr rfl rfl rfl rfl (by decide) (IF rfl) ⟨rfl,rfl,rfl,tv⟩ ?_
 rintro _ _ ⟨rfl,rfl⟩
 rcases he with rfl | rfl | rfl
 all_goals
  exact⟨_,_,GC g s d',fun _ _ h=>h,zR (s:= [0,1,2,3]) ⟨⟨rfl,tv⟩,⟨rfl,rfl,rfl,rfl,tv⟩,rfl,rfl,rfl,rfl,rfl⟩,rfl,rfl⟩
@[reducible] def aK (g:Geo) (s:Stt) (d:Dk) (l:List AB):List AB:= .box 107 (Z5 g (.bp 1 0) s):: .box 113 (HK (.ow 2 d.cells.length) (.ow 3 d.cache.length) d.reqs d.left):: .row 84 3 (d.cells.map BE):: .row 131 2 (d.cache.map E5)::l
def By (d:Dk) (ats:List Int):List Gt:=ats.map (TP d)
def Dy (g:Geo):List Int:=(List.range g.an.toNat).map Int.ofNat
theorem Td {d:Dk} {k:Nat} (a:Int) (h:¬(d.adv k).left=0):(d.adv k).read a=(d.adv (k+1),d.got a):=by
 rw [Dk.read,if_neg h,WT k d h,Ys]
theorem Te {d:Dk} {k:Nat} (a:Int) (h:(d.adv k).left=0):(d.adv k).read a=(d.adv k, [],8):=by rw [Dk.read,if_pos h]
theorem F6 (g:Geo):(Dy g).length=g.an.toNat:=by simp [Dy]
theorem Oa {g:Geo} {k:Nat} (h:k<g.an.toNat):(Dy g).getD k 0=k:=by
 rw [Dy,Bn (d:=0) (by simpa using h),Aa,BF h];rfl
theorem Eb (d:Dk) (ats:List Int):(By d ats).length=ats.length:=by simp [By]
def BV (g:Geo) (copy:Int):List Int:=(List.range g.sl.toNat).map fun i=>BX g copy (i:Nat)
theorem F0 (g:Geo) (c:Int):(BV g c).length=g.sl.toNat:=by simp [BV]
theorem Et {g:Geo} (hg:Bt g=true):g.an+2*g.sl+2*g.z<=Av g:=by
 obtain⟨g1,g2,g3,g4,g5⟩:=As.1 hg
 have hp:=GA hg
 have:0<=g.z*Cy g:=CW (by omega) (by omega)
 unfold Av
 omega
theorem Ih {g:Geo} {n:Nat} (hg:Bt g=true) (hn:(n:Int)=Av g) {c s:Int} (hc:c=0\/c=1) (hs:0<=s/\s<g.sl):0<=BX g c s/\BX g c s<n:=by
 obtain⟨g1,g2,g3,g4,g5⟩:=As.1 hg
 have:=Et hg
 unfold BX
 rcases hc with rfl | rfl <;> omega
def Qx (n:Nat) (w:Wr):Prop:=(0<=w.addr/\w.addr<n)/\w.bytes.length<=200
theorem GE {d:Dk} (h:DkOk d) {l:List Wr} (hl:∀ w∈l,Qx d.cells.length w) (k:Nat):DkOk (d.writes (l.take k)).1/\(d.writes (l.take k)).1.cells.length=d.cells.length:=
 Qy (P:=fun x=>DkOk x/\x.cells.length=d.cells.length) l (fun x hx w hw=>⟨hx.1.write (by rw [hx.2];exact(hl w hw).1) (hl w hw).2,by rw [Xe,hx.2]⟩) ⟨h,rfl⟩ k
theorem Ir (d:Dk) (a:Int) (b:List UInt8):(d.write a b).2=8\/(d.write a b).2=7\/(d.write a b).2=0:=by
 unfold Dk.write;split
 ·exact .inl rfl
 ·split
  ·exact .inr (.inl rfl)
  ·exact .inr (.inr rfl)
theorem Jl {d:Dk} {l:List Wr} {k:Nat} (hk:k<l.length) (h:(d.writes (l.take k)).2.2=false) :
  d.writes (l.take (k+1))=(((d.writes (l.take k)).1.write (l.getD k ⟨0, []⟩).addr (l.getD k ⟨0, []⟩).bytes).1,(d.writes (l.take k)).2.1+(if ((d.writes (l.take k)).1.write (l.getD k ⟨0, []⟩).addr (l.getD k ⟨0, []⟩).bytes).2=0 then 1 else 0),decide (((d.writes (l.take k)).1.write (l.getD k ⟨0, []⟩).addr (l.getD k ⟨0, []⟩).bytes).2=8)):=by
 rw [FD d hk]
 unfold CO
 rw [if_neg (by rw [h];decide)]
 simp only
 by_cases h8:((d.writes (l.take k)).1.write (l.getD k ⟨0, []⟩).addr (l.getD k ⟨0, []⟩).bytes).2=8
 ·rw [if_pos h8,h8];simp
 ·rw [if_neg h8,decide_eq_false h8]
theorem En {d:Dk} {l:List Wr} (h:(d.writes l).2.2=true):d.putAll l=((d.writes l).1,(d.writes l).2.1,true):=by
 unfold Dk.putAll
 generalize d.writes l=q at h |-
 obtain⟨a,b,c⟩:=q
 simp only at h |-
 rw [if_pos h]
theorem DP {d:Dk} {l:List Wr} (h:(d.writes l).2.2=false):d.putAll l=if (d.writes l).1.left=0 then ((d.writes l).1,(d.writes l).2.1,true) else ((d.writes l).1.flush,(d.writes l).2.1,false):=by
 unfold Dk.putAll
 generalize d.writes l=q at h |-
 obtain⟨a,b,c⟩:=q
 simp only at h |-
 rw [if_neg (by rw [h];decide)]
theorem GK {d:Dk} (h:DkOk d) {l:List Wr} (hl:∀ w∈l,Qx d.cells.length w):DkOk (d.putAll l).1/\(d.putAll l).1.cells.length=d.cells.length:=by
 have hw:=GE h hl l.length
 rw [Ar] at hw
 cases hd:(d.writes l).2.2 with
 | true=>rw [En hd];exact hw
 | false=>
  rw [DP hd]
  split
  ·exact hw
  ·exact⟨hw.1.flush,by rw [S0,hw.2]⟩
def Dk.mend (d:Dk) (l:List Wr):Dk × Bool:=if l=[] then (d,false) else ((d.putAll l).1,(d.putAll l).2.2)
def AD (g:Geo) (a:An):List Wr:=(List.range g.an.toNat).map fun i=>⟨(i:Nat),CP a (i:Nat)⟩
theorem CV (g:Geo) (a:An):(AD g a).length=g.an.toNat:=by simp [AD]
theorem Ip {g:Geo} {a:An} {k:Nat} (h:k<g.an.toNat):(AD g a).getD k ⟨0, []⟩=⟨(k:Nat),CP a (k:Nat)⟩:=by
 rw [AD,Bn (d:=0) (by simpa using h),Aa,BF h];rfl
theorem Qr (g:Geo) (s:Stt) (d:Dk) (a:An) (hg:Bt g=true) (ha:Bg g a=true) (h:DkOk d) (hl:∀ w∈AD g a,Qx d.cells.length w) :
  ACalls Tryz.prog false 87 [.bp 0 0, .ag (Ed a)] (GC g s d) fun r H=>r = .tp [.v (.int .i64 (if (d.putAll (AD g a)).2.2 then 0 else ((d.putAll (AD g a)).2.1:Nat))), .v (.int .i64 (if (d.putAll (AD g a)).2.2 then 8 else 0))]/\H=bwG g s (d.putAll (AD g a)).1:=by
 obtain⟨g1,g2,g3,g4,g5⟩:=As.1 hg
 have hlen:=CV g a
 refine zS tys_ok Tryz.func87 rfl rfl (Ag rfl) ?_
 conv=>whnf
 refine zV Nat (fun k=>([(0, .bp 0 0),(3, .bp 4 0),(6, .v (.int .i64 (d.writes ((AD g a).take k)).2.1)),(19, .v (.int .i64 g.an)),(20, .v (.int .i64 k))],aK g s (d.writes ((AD g a).take k)).1 [.box 28 (Ed a)])) (fun k=>k<=(AD g a).length/\(d.writes ((AD g a).take k)).2.2=false/\(d.writes ((AD g a).take k)).2.1<=k) (fun k=>(AD g a).length - k) 0 ⟨Aj _,rfl,Ah _⟩
  (zR (s:= [0,1,2,3,4]) ⟨⟨rfl,rfl,rfl,rfl,rfl,tv⟩,⟨rfl,rfl,rfl,rfl,rfl,tv⟩,rfl,rfl,rfl,rfl,rfl⟩) ?_
 rintro k ⟨hk,hlv,hnk⟩
 have hd:=GE h hl k
 conv=>whnf
 refine A3 (fun h6=>?_) (fun h6=>?_) <;> (repeat rw [Ac] at h6) <;> conv=>whnf
 ·have hk':k<(AD g a).length:=by omega
  have hm:=hl _ (A9 (d:=(⟨0, []⟩:Wr)) hk')
  have hx:=Jl hk' hlv
  rw [Ip (by omega)] at hx hm
  generalize hX:(d.writes ((AD g a).take k)).1=X at hd hx |-
  generalize hN:(d.writes ((AD g a).take k)).2.1=N at hx hnk |-
  have hga:=Mp g k hg (by omega)
  have hnc:=VJ g a k hg ha (by omega)
  have hc:=S4 g s X k (CP a k) hd.1 (by rw [hd.2];exact hm.1) hm.2
  repeat' (refine zX ?_;conv=>whnf)
  refine z_ hga ?_
  conv=>whnf
  apply zW (0) tys_ok mixed (.one 0 (.one 1 (.one 2 (.one 3 (.one 4 (.one 5 (.one 6 (.one 7 (.one 8 (.one 9 (.one 10 (.one 11 .fin)))))))))))) (by kernel_rfl)
  conv=>whnf
  refine z_ hnc ?_
  conv=>whnf
  have hE:=Ir X k (CP a k)
  generalize hQ:X.write k (CP a k)=Q at hc hx hE
  obtain⟨D,e⟩:=Q
  simp only at hx hE hc
  refine zZ [0,1,2,3] hc rfl rfl rfl rfl (by decide) (Er rfl) ⟨rfl,rfl,rfl,rfl,tv⟩ ?_
  rintro _ _ ⟨rfl,rfl⟩
  rcases hE with rfl | hE
  ·rw [if_pos rfl]
   conv=>whnf
   have hdd:(d.writes ((AD g a).take (k+1))).2.2=true:=by rw [hx];rfl
   have hdl:d.writes (AD g a)=d.writes ((AD g a).take (k+1)):=KB d hk' hdd
   have hp:(d.putAll (AD g a)).1=D/\(d.putAll (AD g a)).2.2=true:=by
    rw [En (by rw [hdl];exact hdd),hdl,hx];exact⟨rfl,rfl⟩
   rw [hp.1,hp.2]
   exact⟨_, .tp [.v (.int .i64 0), .v (.int .i64 8)],bwG g s D,fun _ _ h=>h,zD (zK (zz 1 3 (by decide) rfl rfl)) (s:= [0,1,2,3,5]) ⟨⟨rfl,tv⟩,⟨rfl,rfl,rfl,tv,rfl,tv⟩,rfl,rfl,rfl,rfl,rfl⟩,rfl,rfl⟩
  ·rw [if_neg (by omega)]
   have h1:(d.writes ((AD g a).take (k+1))).1=D:=by rw [hx]
   have h2:(d.writes ((AD g a).take (k+1))).2.2=false:=by rw [hx];exact decide_eq_false (by omega)
   have h3:(d.writes ((AD g a).take (k+1))).2.1=N+if e=0 then 1 else 0:=by rw [hx]
   rcases hE with rfl | rfl
   all_goals
    conv=>whnf
    repeat' (refine zX ?_;conv=>whnf)
    refine⟨k+1,⟨hk',h2,by rw [h3];simp;omega⟩,by omega,?_⟩
    rw [h1,h3]
   ·exact zR (s:= [0,1,2,3,4]) ⟨⟨rfl,rfl,rfl,rfl,AS (by omega),tv⟩,⟨rfl,rfl,rfl,rfl,rfl,tv⟩,rfl,rfl,rfl,rfl,rfl⟩
   ·exact zR (s:= [0,1,2,3,4]) ⟨⟨rfl,rfl,AS (by omega),rfl,AS (by omega),tv⟩,⟨rfl,rfl,rfl,rfl,rfl,tv⟩,rfl,rfl,rfl,rfl,rfl⟩
 ·have ek:k=(AD g a).length:=by omega
  subst ek
  rw [Ar] at hlv hd hnk
  rw [Ar]
  have hp:=DP hlv
  generalize (d.writes (AD g a)).1=X at hp hd |-
  generalize (d.writes (AD g a)).2.1=N at hp |-
  have hf:=MF X hd.1.l hd.1.m (fun w hw=>(hd.1.w w hw).1)
  rw [hp]
  refine zZ [1,2,3] hf rfl rfl rfl rfl (by decide) (IF rfl) ⟨rfl,rfl,rfl,tv⟩ ?_
  rintro _ _ ⟨rfl,rfl⟩
  by_cases hX:X.left=0
  ·simp only [hX,if_true]
   exact⟨_, .tp [.v (.int .i64 0), .v (.int .i64 8)],bwG g s _,fun _ _ h=>h,zR (s:= [0,1,2,3,5]) ⟨⟨rfl,tv⟩,⟨rfl,rfl,rfl,tv,rfl,tv⟩,rfl,rfl,rfl,rfl,rfl⟩,rfl,rfl⟩
  ·simp only [hX,if_false]
   exact⟨_, .tp [.v (.int .i64 (N:Nat)), .v (.int .i64 0)],bwG g s _,fun _ _ h=>h,zR (s:= [0,1,2,3,5]) ⟨⟨rfl,tv⟩,⟨rfl,rfl,rfl,tv,rfl,tv⟩,rfl,rfl,rfl,rfl,rfl⟩,rfl,rfl⟩
theorem Jg {g:Geo} {a:An} {n:Nat} (hg:Bt g=true) (ha:Bg g a=true) (hn:(n:Int)=Av g):∀ w∈AD g a,Qx n w:=by
 obtain⟨g1,g2,g3,g4,g5⟩:=As.1 hg
 have hc:=Et hg
 intro w hw
 simp only [AD,AR,AU] at hw
 obtain⟨i,hi,rfl⟩:=hw
 refine⟨⟨by show (0:Int)<=(i:Nat);omega,by show ((i:Nat):Int)<n;omega⟩,?_⟩
 show (Bk (i:Nat) a.gen (KX a)).length<=200
 rw [Ea]
 have:=K6 hg ha
 omega
def EN (g:Geo) (x:Gt) (addr:Int):Option An:=
 if x.err=0/\C_ x.bytes=0/\CR x.bytes=addr then
  match Fm g (Cv x.bytes) with
  | some a=>if a.gen=Ci x.bytes then some a else none
  | none=>none
 else none
theorem G6 (e:Value):∀ (c:Ctx) (v:Value),Rd (.tp [.ag [.v (.int .i64 0), .v (.int .i64 0), .v (.int .i64 0), .v (.int .i64 0), .v (.int .i64 0), .v (.string ⟨#[]⟩), .v (.slice none 0 0)], .v e]) c v->Rd (.tp [.ag (Ed an0), .v e]) c v:=
 Cg (m:= [.ag (Ed an0), .v e]) ⟨Ba an0_sub,ri,tv⟩
theorem QE (b:List UInt8):(Cv b).length<=b.length:=by simp [Cv];omega
theorem ConvH.subBox {H:List AB} (k:Nat) {t:TypeId} {cs cs':List AV} (hk:H[k]? = some (.box t cs)) (h:SubL cs cs'):ConvH H (H.set k (.box t cs')):=fun _ _ c hs=>
 ⟨c,rfl,hs.recell hk rfl fun⟨g,xs,h1,h2,h3,h4⟩=>⟨g,xs,h1,h2,h.rdl h3,h4⟩,zL c⟩
def zq:=@ConvH.subBox
def P5 (g:Geo) (l:List Gt) (st:Option (An × Nat)) (i:Nat):Option (An × Nat):=
 match EN g (l.getD i ⟨0, []⟩) (i:Nat) with
 | none=>st
 | some b=>match st with
  | none=>some (b,i)
  | some (a,j)=>if a.gen<b.gen then some (b,i) else some (a,j)
def Fo (g:Geo) (l:List Gt) (k:Nat):Option (An × Nat):=(List.range k).foldl (P5 g l) none
def GL (g:Geo) (l:List Gt):Option (An × Nat):=Fo g l l.length
theorem IS (g:Geo) (l:List Gt) (k:Nat):Fo g l (k+1)=P5 g l (Fo g l k) k:=by rw [Fo,B5,CB];rfl
def aA (p:Option (An × Nat)):An:=match p with | some (a,_)=>a | none=>an0
def aI (p:Option (An × Nat)):Nat:=match p with | some (_,i)=>i | none=>0
def SubLL:List (List AV)->List (List AV)->Prop
 | [], []=>True
 | a::r,b::s=>SubL a b/\SubLL r s
 | _,_=>False
theorem SubLL.get:∀ {es fs:List (List AV)} {i:Nat},SubLL es fs->i<es.length->SubL (es.getD i []) (fs.getD i [])
 | [],_,_,_,h=>by simp at h
 | a::r,b::s,0,h,_=>by simpa using h.1
 | a::r,b::s,i+1,h,hi=>by
  have:=SubLL.get (i:=i) h.2 (by simpa using hi)
  simpa using this
 | _::_, [],_,h,_=>h.elim
theorem Pw {α:Type} {f:α->List AV} {d:α} {sz n:Nat} {es:List (List AV)} (l:List α) (hn:n=l.length) (he:n=es.length) (h:SubLL es (l.map f)) (c:Ctx) (u:Value) (hr:Rd (.sl sz n fun i=>es.getD i []) c u):Rd (.sl sz l.length fun i=>f (l.getD i d)) c u:=
 Rd.sub hn (fun i hi=>by
  have:=h.get (i:=i) (by omega)
  rwa [Bn (d:=d) (by omega)] at this) hr
theorem Ob {g:Geo} {l:List Tx} {epoch:Int} (hg:Bt g=true) (h:LogOk g l epoch) {copy:Int} (hc:copy=0\/copy=1) {s:Nat} (hs:(s:Int)<g.sl):DY g ((GD g l epoch copy g.sl.toNat).getD s gz) copy (s:Nat)=some (V3 g l epoch (s:Nat)):=by
 have hin:(0:Int)<=(s:Nat)/\((s:Nat):Int)<g.sl:=by omega
 have e:(GD g l epoch copy g.sl.toNat).getD s gz=⟨0,DZ g (V3 g l epoch (s:Nat)) copy (s:Nat)⟩:=by
  unfold GD
  rw [Bn (d:=0) (by rw [DB];omega)]
  rw [Aa,BF (by omega)]
  rfl
 rw [e]
 refine No hg (h.ok s hin) ?_
 rw [KO,AL.2 (show 0<=((s:Nat):Int)/\((s:Nat):Int)<=g.sl - 1 by omega)]
 rcases hc with rfl | rfl <;> rfl
theorem Kd {g:Geo} {x:Gt} {copy s:Int} (h:¬(0<=s/\s<g.sl)):DY g x copy s=none:=by
 refine QH ?_
 have:CJ s 0 (g.sl - 1)=false:=by
  rw [<-BU]
  intro e
  have:=AL.1 e
  omega
 rw [KO,this]
 simp
def PN (a:An) (p q:Int->Option Rc) (slot seq at_ of_ left:Int):Rc × List Int × Int:=
 C6 (p slot) (q slot) (Eo (p slot) a seq at_ of_ left) (Eo (q slot) a seq at_ of_ left)
def C8 (g:Geo) (a:An) (p q:Int->Option Rc) (pos seq left at_ of_:Int):Rc × Int × List Wr:=
 let s:=DO g pos at_
 let z:=PN a p q s seq at_ of_ left
 (z.1,z.2.2,z.2.1.map fun c=>⟨BX g c s,DZ g z.1 c s⟩)
def Ga (g:Geo) (a:An) (p q:Int->Option Rc) (pos seq left:Int):Int × Int × List Img × List Wr:=
 let z:=C8 g a p q pos seq left 0 0
 if z.2.1≠1 then (z.2.1,0, [], []) else
  let t:=BD (fun k=>C8 g a p q pos seq left k z.1.of_) (z.1.of_ - 1).toNat 1 z.1 [] z.2.2
  if t.1≠1 then (t.1,0, [], []) else (1,z.1.of_,t.2.1,t.2.2)
def Fu (g:Geo) (a:An) (p q:Int->Option Rc):Nat->Int->Int->Int->List Tx->List Wr->Option (List Tx × List Wr × Int)
 | 0,_,seq,_,l,w=>some (l,w,seq)
 | f+1,pos,seq,left,l,w=>
  if 0<left/\seq<=4294967295 then
   let t:=Ga g a p q pos seq left
   if t.1=3 then none else if t.1≠1 then some (l,w,seq)
   else Fu g a p q f ((pos+t.2.1).tmod g.sl) (seq+1) (left - t.2.1) (l ++ [⟨seq,pos,t.2.1,t.2.2.1⟩]) (w ++ t.2.2.2)
  else some (l,w,seq)
def Nm (g:Geo) (a:An) (p q:Int->Option Rc):List Tx × List Wr × Int:=TU a (Fu g a p q g.sl.toNat a.pos a.seq g.sl [] [])
def Ek (g:Geo) (x:List Gt) (copy:Int):Int->Option Rc:=fun s=>DY g (x.getD s.toNat gz) copy s
theorem RY (g:Geo) (a:An) (x y:List Gt):∀ (f:Nat) (pos seq left:Int) (l:List Tx) (w:List Wr),Fb g a x y f pos seq left l w=Fu g a (Ek g x 0) (Ek g y 1) f pos seq left l w
 | 0,_,_,_,_,_=>rfl
 | f+1,pos,seq,left,l,w=>by
  unfold Fb Fu
  have e:Gu g a x y pos seq left=Ga g a (Ek g x 0) (Ek g y 1) pos seq left:=rfl
  rw [e]
  simp only [RY g a x y f]
theorem Oj (g:Geo) (a:An) (x y:List Gt):Ej g a x y=Nm g a (Ek g x 0) (Ek g y 1):=by
 unfold Ej Nm
 rw [RY]
def H6 (g:Geo) (l:List Tx) (epoch:Int) (bad:Int->Bool):Int->Option Rc:=fun s=>if 0<=s/\s<g.sl then (if bad s then none else some (V3 g l epoch s)) else none
theorem RZ {g:Geo} {l:List Tx} {epoch:Int} (hg:Bt g=true) (h:LogOk g l epoch) {copy:Int} (hc:copy=0\/copy=1):Ek g (GD g l epoch copy g.sl.toNat) copy=H6 g l epoch fun _=>false:=by
 funext s
 unfold Ek H6
 by_cases hs:0<=s/\s<g.sl
 ·rw [if_pos hs,if_neg (Bool.false_ne_true)]
  obtain⟨k,rfl⟩:=Int.eq_ofNat_of_zero_le hs.1
  rw [Ac]
  exact Ob hg h hc hs.2
 ·rw [if_neg hs]
  exact Kd hs
theorem RdL.split {c:Ctx}:∀ {l m:List AV} {xs:List Value},RdL (l ++ m) c xs->∃ a b,xs=a ++ b/\RdL l c a/\RdL m c b
 | [],m,xs,h=>⟨[],xs,rfl,by simp only [RdL],h⟩
 | x::l,m,xs,h=>by
  simp only [Bo,RdL] at h
  obtain⟨y,ys,rfl,h1,h2⟩:=h
  obtain⟨a,b,rfl,h3,h4⟩:=RdL.split h2
  exact⟨y::a,b,rfl,by simp only [RdL];exact⟨y,a,rfl,h1,h3⟩,h4⟩
theorem SubLL.len:∀ {es fs:List (List AV)},SubLL es fs->es.length=fs.length
 | [], [],_=>rfl
 | _::_,_::_,h=>by simp [SubLL.len h.2]
 | [],_::_,h=>h.elim
 | _::_, [],h=>h.elim
theorem SubLL.flat:∀ {es fs:List (List AV)} {c:Ctx} {xs:List Value},SubLL es fs->RdL es.flatten c xs->RdL fs.flatten c xs
 | [], [],_,_,_,h=>h
 | a::r,b::s,c,xs,h,hr=>by
  rw [AK] at hr |-
  obtain⟨x1,x2,rfl,h1,h2⟩:=RdL.split hr
  exact RdL.append (h.1.rdl h1) (SubLL.flat h.2 h2)
 | [],_::_,_,_,h,_=>h.elim
 | _::_, [],_,_,h,_=>h.elim
theorem SubLL.sz:∀ {es fs:List (List AV)} {sz:Nat},SubLL es fs->(∀ e∈es,e.length=sz)->∀ e∈fs,e.length=sz
 | [], [],_,_,_=>by simp
 | a::r,b::s,sz,h,hs=>by
  intro e he
  rcases AQ.1 he with rfl | he
  ·rw [<-h.1.len];exact hs a (by simp)
  ·exact SubLL.sz h.2 (fun e he=>hs e (AZ _ he)) e he
 | [],_::_,_,h,_=>h.elim
 | _::_, [],_,h,_=>h.elim
def ABSub:AB->AB->Prop
 | .row t sz es, .row t' sz' es'=>t=t'/\sz=sz'/\SubLL es es'
 | x,y=>x=y
def HSub:List AB->List AB->Prop
 | [], []=>True
 | x::r,y::s=>ABSub x y/\HSub r s
 | _,_=>False
theorem HSub.len:∀ {H H':List AB},HSub H H'->H.length=H'.length
 | [], [],_=>rfl
 | _::_,_::_,h=>by simp [HSub.len h.2]
 | [],_::_,h=>h.elim
 | _::_, [],h=>h.elim
theorem HSub.get:∀ {H H':List AB} {k:Nat} {y:AB},HSub H H'->H'[k]? = some y->∃ x,H[k]? = some x/\ABSub x y
 | [], [],k,y,_,h=>by simp at h
 | x::r,y::s,0,z,h,hz=>by
  simp at hz
  subst hz
  exact⟨x,by simp,h.1⟩
 | x::r,y::s,k+1,z,h,hz=>by
  obtain⟨w,h1,h2⟩:=HSub.get (k:=k) h.2 (by simpa using hz)
  exact⟨w,by simpa using h1,h2⟩
 | [],_::_,_,_,h,_=>h.elim
 | _::_, [],_,_,_,hz=>by simp at hz
theorem ABSub.live:∀ {x y:AB},ABSub x y->x.live=y.live:=by
 intro x y h
 cases x <;> cases y <;> simp only [ABSub] at h <;> first | rfl | cases h
theorem ABSub.blk {c:Ctx} {k:Nat}:∀ {x y:AB},ABSub x y->BlkOk c k x->BlkOk c k y
 | .row t sz es, .row t' sz' es',h,hb=>by
  obtain⟨rfl,rfl,h⟩:=h
  obtain⟨h1,h2,h3,xs,h4,h5,h6⟩:=hb
  refine⟨h1.trans h.len,h2,h.sz h3,xs,?_,h.flat h5,h6⟩
  rw [<-h.len]
  exact h4
 | .row _ _ _, .box _ _,h,_=>by cases h
 | .row _ _ _, .iter _ _,h,_=>by cases h
 | .row _ _ _, .dead,h,_=>by cases h
 | .row _ _ _, .rowo _ _ _ _,h,_=>by cases h
 | .rowo t sz es m,y,h,hb=>by
  have h:AB.rowo t sz es m=y:=h
  subst h
  exact hb
 | .box t cs,y,h,hb=>by
  have h:AB.box t cs=y:=h
  subst h
  exact hb
 | .iter a b,y,h,hb=>by
  have h:AB.iter a b=y:=h
  subst h
  exact hb
 | .dead,y,h,hb=>by
  have h:AB.dead=y:=h
  subst h
  exact hb
theorem HS.hsub {w0:Fl} {M0:Ms} {c:Ctx} {H H':List AB} (hs:HS w0 M0 c H) (h:HSub H H'):HS w0 M0 c H':=by
 refine⟨hs.low,hs.base,hs.dom.trans h.len,hs.foreign,hs.lt,fun k y hy=>?_,fun k y g hy hl ho=>?_,fun j k y z g hj hk hy hz ho ho'=>?_⟩
 ·obtain⟨x,h1,h2⟩:=h.get hy
  exact h2.blk (hs.blk k x h1)
 ·obtain⟨x,h1,h2⟩:=h.get hy
  exact hs.own k x g h1 (h2.live.trans hl) ho
 ·obtain⟨x1,h1,h2⟩:=h.get hj
  obtain⟨x2,h3,h4⟩:=h.get hk
  exact hs.dis j k x1 x2 g h1 h3 (h2.live.trans hy) (h4.live.trans hz) ho ho'
theorem ACalls.hsub {P:Program} {q:Bool} {f:FuncId} {args:List AV} {H:List AB} {k:AV->List AB->Prop} (H':List AB) (hs:HSub H H') (h:ACalls P q f args H' k):ACalls P q f args H k:=
 ⟨h.go,fun w0 M0 c us hs0 hr=>h.calls w0 M0 c us (hs0.hsub hs) hr⟩
theorem SubLL.refl:∀ l,SubLL l l
 | []=>trivial
 | _::l=>⟨SubL.refl _,SubLL.refl l⟩
theorem SubLL.set {a b:List AV} (h:SubL a b):∀ {l m:List (List AV)} (k:Nat),SubLL l m->SubLL (l.set k a) (m.set k b)
 | [], [],_,h=>h
 | _::_,_::_,0,h2=>⟨h,h2.2⟩
 | _::_,_::_,k+1,h2=>⟨h2.1,SubLL.set h k h2.2⟩
 | [],_::_,_,h=>h.elim
 | _::_, [],_,h=>h.elim
def Zg (g:Geo) (fill:UInt8) (i k:Nat):Img:=
 if (i+k) % 4=3 then ⟨((i+k:Nat):Int).tmod g.z,255,CU (EW g)⟩ else ⟨((i+k:Nat):Int).tmod g.z,((i+2*k:Nat):Int).tmod (g.d+1) - 1, [fill,UInt8.ofNat i,UInt8.ofNat k,1,2,3,4,5]⟩
def ZK (g:Geo) (a:An) (fill:UInt8) (i:Nat) (pos:Int) (n:Nat):Tx:=⟨a.seq+i,pos,n+1,(List.range n).map fun k=>Zg g fill i k⟩
theorem SubLL.app {e f:List AV} (h:SubL e f):∀ {a b:List (List AV)},SubLL a b->SubLL (a ++ [e]) (b ++ [f])
 | [], [],_=>⟨h,tv⟩
 | _::_,_::_,h2=>⟨h2.1,SubLL.app h h2.2⟩
 | [],_::_,h=>h.elim
 | _::_, [],h=>h.elim
end
end Go.Proofs.YtkolckdakddggaaGreatDoor.A
namespace Go.Proofs.YtkolckdakddggaaGreatDoor
section

def Y0 (b:List UInt8) (k:Nat):List UInt8:=b.modify (k / 8) fun x=>x ^^^ UInt8.ofNat (2 ^ (k % 8))
theorem OK (b:List UInt8) (k:Nat):(Y0 b k).length=b.length:=List.length_modify _ _ _
def Qa (p:Nat->Bool) (a:Nat) (b:List UInt8):Nat->List UInt8
 | 0=>b
 | i+1=>if p i&&decide (a+i<8*b.length) then Y0 (Qa p a b i) (a+i) else Qa p a b i
theorem OJ (p:Nat->Bool) (a:Nat) (b:List UInt8) (i:Nat):(Qa p a b i).length=b.length:=by
 induction i with
 | zero=>rfl
 | succ i ih=>unfold Qa;split;rw [OK,ih];exact ih
def fX (bs:Int):Nat:=if (bs % 4294967296).toNat % 2=0 then (bs % 4294967296).toNat+1 else (bs % 4294967296).toNat
def Yz (b:List UInt8) (bit bs:Int):List UInt8:=Qa (fun i=>decide (fX bs / 2 ^ i % 2=1)) (bit % (8*(b.length:Int))).toNat b 32
theorem OI (b:List UInt8) (bit bs:Int):(Yz b bit bs).length=b.length:=OJ _ _ _ _
end
end Go.Proofs.YtkolckdakddggaaGreatDoor
namespace Go.Proofs.YtkolckdakddggaaGreatDoor.A
section
open Go.RowKit
theorem YC (x:UInt8) (z:Nat) (hz:z<256):IntKind.u8.wrap (BitVec.ofInt IntKind.u8.bits (x.toNat:Int) ^^^ BitVec.ofInt IntKind.u8.bits (z:Int)).toNat=((x ^^^ UInt8.ofNat z).toNat:Int):=by
 show IntKind.u8.wrap (BitVec.ofInt 8 (x.toNat:Int) ^^^ BitVec.ofInt 8 (z:Int)).toNat=((x ^^^ UInt8.ofNat z).toNat:Int)
 have hx:=x.toNat_lt
 have h1:(BitVec.ofInt 8 (x.toNat:Int))=BitVec.ofNat 8 x.toNat:=BitVec.ofInt_natCast _ _
 have h2:(BitVec.ofInt 8 (z:Int))=BitVec.ofNat 8 z:=BitVec.ofInt_natCast _ _
 have h3:x.toNat ^^^ z<256:=Nat.xor_lt_two_pow (n:=8) hx hz
 rw [h1,h2,BitVec.toNat_xor,BitVec.toNat_ofNat,BitVec.toNat_ofNat,DM hx,DM hz,UInt8.toNat_xor,BB hz,IntKind.wrap_u8]
 omega

structure TxIn (g:Geo) (a:An) (fill:UInt8) (i0:Nat) (l:List Tx):Prop where
 at_:∀ j,j<l.length->∃ pos n,l.getD j tz=ZK g a fill (i0+j) pos n/\1<=n/\n<=5/\0<=pos/\pos<g.sl
theorem Of {x n:Int} (h0:0<=x) (h1:x<n):x.tmod n=x:=Int.tmod_eq_of_lt h0 h1
theorem RS {x n:Int} (h0:n<=x) (h1:x<2*n) (hn:0<n):x.tmod n=x - n:=by
 rw [Bc (by omega),<-Int.sub_emod_right x n]
 exact Int.emod_eq_of_lt (by omega) (by omega)

def Hx (g:Geo):List Tx->Int->Int->Prop
 | [],_,_=>True
 | t::r,seq,pos=>(t.seq=seq/\t.pos=pos/\t.n=t.images.length+1/\2<=t.n)/\Hx g r (seq+1) ((pos+t.n).tmod g.sl)
def usedM:List Tx->Int
 | []=>0
 | t::r=>t.n+usedM r
def Tp (g:Geo):List Tx->Int->Int
 | [],pos=>pos
 | t::r,pos=>Tp g r ((pos+t.n).tmod g.sl)
theorem NV (g:Geo):∀ (l:List Tx) (seq pos:Int) (t:Tx),Hx g l seq pos->(t.seq=seq+l.length/\t.pos=Tp g l pos/\t.n=t.images.length+1/\2<=t.n)->Hx g (l ++ [t]) seq pos
 | [],seq,pos,t,_,h=>⟨⟨by have:=h.1;simpa using this,h.2.1,h.2.2.1,h.2.2.2⟩,tv⟩
 | x::r,seq,pos,t,h,ht=>by
  refine⟨h.1,NV g r (seq+1) _ t h.2 ⟨?_,ht.2⟩⟩
  rw [ht.1]
  simp only [Al]
  omega
theorem used_app:∀ (l:List Tx) (t:Tx),usedM (l ++ [t])=usedM l+t.n
 | [],t=>by simp [usedM]
 | x::r,t=>by simp only [Bo,usedM,used_app r t];omega
theorem Sh (g:Geo):∀ (l:List Tx) (pos:Int) (t:Tx),Tp g (l ++ [t]) pos=((Tp g l pos)+t.n).tmod g.sl
 | [],pos,t=>rfl
 | x::r,pos,t=>by simp only [Bo,Tp];exact Sh g r _ t
theorem KS {g:Geo} {a:An} {seq left n:Int} {look:Int->Rc × Int × List Wr} (hlook:∀ i,1<=i->i<n->(look i).2.1=1->Fj g (look i).1=true/\Dx (look i).1 a seq i n left=true):∀ (f:Nat) (k:Int) (r:Rc) (im:List Img) (w:List Wr),1<=k->k+f=n->Fj g r=true->r.at_=k - 1->r.of_=n->r.kind≠0->(im.length:Int)=k - 1->(BD look f k r im w).1=1->((BD look f k r im w).2.1.length:Int)+1=n
 | 0,k,r,im,w,hk,hn,hr,ha,ho,h0,hi,_=>by
  have hk1:r.kind≠1:=by
   intro e
   unfold Fj G4 at hr
   simp only [Ad] at hr
   have h2:=hr.2
   rw [if_neg h0,if_pos e] at h2
   simp only [Ad,AL] at h2
   omega
  unfold BD
  simp only [if_neg hk1]
  omega
 | f+1,k,r,im,w,hk,hn,hr,ha,ho,h0,hi,hG=>by
  have hk1:r.kind=1:=by
   unfold Fj G4 at hr
   simp only [Ad] at hr
   have h2:=hr.2
   rw [if_neg h0] at h2
   split at h2
   ·assumption
   ·split at h2
    ·simp only [Ad,beq_iff_eq] at h2
     omega
    ·cases h2
  unfold BD at hG |-
  simp only [if_pos hk1] at hG |-
  by_cases hq:(look k).2.1≠1
  ·rw [if_pos hq] at hG
   exact absurd hG hq
  ·rw [if_neg hq] at hG |-
   have hl:=hlook k hk (by omega) (by omega)
   have h1:=Kk hl.1 hl.2
   have h2:=(of_decide_eq_true hl.2).1
   refine KS hlook f (k+1) (look k).1 _ _ (by omega) (by omega) hl.1 (by omega) ?_ h2 ?_ hG
   ·exact h1.2.2.2.2.2 (by omega)
   ·rw [Ai]
    simp only [Al,AW]
    omega
theorem SG {g:Geo} {a:An} {x y:List Gt} {pos seq left:Int} (hg:Bt g=true) (hp:0<=pos/\pos<g.sl) (h:(Gu g a x y pos seq left).1=1):((Gu g a x y pos seq left).2.2.1.length:Int)+1=(Gu g a x y pos seq left).2.1:=by
 have r0:=Hh (a:=a) (x:=x) (y:=y) (seq:=seq) (left:=left) (of_:=0) (at_:=0) hg hp (by omega)
 unfold Gu at h |-
 simp only at h |-
 rcases r0 with ⟨e1,⟨e2, -,e3⟩,e4⟩ | ⟨e1, -, -⟩
 ·rw [if_neg (by omega)] at h |-
  have hN:=Kk e2 e3
  have h0:=(of_decide_eq_true e3).1
  by_cases hq:(BD (fun k=>DJ g a x y pos seq left k (DJ g a x y pos seq left 0 0).1.of_) ((DJ g a x y pos seq left 0 0).1.of_ - 1).toNat 1 (DJ g a x y pos seq left 0 0).1 [] (DJ g a x y pos seq left 0 0).2.2).1≠1
  ·rw [if_pos hq] at h
   exact absurd h hq
  ·rw [if_neg hq]
   refine KS (g:=g) (a:=a) (seq:=seq) (left:=left) (n:=(DJ g a x y pos seq left 0 0).1.of_) (look:=fun k=>DJ g a x y pos seq left k (DJ g a x y pos seq left 0 0).1.of_) (fun i h1 h2 h3=>?_) _ 1 _ [] _ (by omega) (by omega) e2 (by omega) rfl h0 (by simp) (by omega)
   rcases Hh (a:=a) (x:=x) (y:=y) (seq:=seq) (left:=left) (of_:=(DJ g a x y pos seq left 0 0).1.of_) (at_:=i) hg hp (by omega) with ⟨_,⟨q1,_,q2⟩,_⟩ | ⟨q,_⟩
   ·exact⟨q1,q2⟩
   ·omega
 ·rw [if_pos (by omega)] at h
  simp only at h
  omega
theorem KG {g:Geo} {a:An} {x y:List Gt} (hg:Bt g=true):∀ (f:Nat) (pos seq left:Int) (l:List Tx) (w:List Wr) {l':List Tx} {w':List Wr} {seq':Int},Hx g l a.seq a.pos->pos=Tp g l a.pos->seq=a.seq+l.length->usedM l+left=g.sl->0<=left->(0<=pos/\pos<g.sl)->Fb g a x y f pos seq left l w=some (l',w',seq')->
  Hx g l' a.seq a.pos/\seq'=a.seq+l'.length/\usedM l'<=g.sl
 | 0,pos,seq,left,l,w,l',w',seq',h1,h2,h3,h4,h5,h6,h=>by
  unfold Fb at h
  injection h with h
  injection h with e1 h
  injection h with e2 e3
  subst e1
  subst e3
  exact⟨h1,h3,by omega⟩
 | f+1,pos,seq,left,l,w,l',w',seq',h1,h2,h3,h4,h5,h6,h=>by
  unfold Fb at h
  have fin:some (l,w,seq)=some (l',w',seq')->Hx g l' a.seq a.pos/\seq'=a.seq+l'.length/\usedM l'<=g.sl:=fun h=>by
   injection h with h
   injection h with e1 h
   injection h with e2 e3
   subst e1
   subst e3
   exact⟨h1,h3,by omega⟩
  by_cases hc:0<left/\seq<=4294967295
  ·rw [if_pos hc] at h
   simp only at h
   have tf:=IK (a:=a) (x:=x) (y:=y) (seq:=seq) (left:=left) hg h6
   have ti:=fun e=>SG (a:=a) (x:=x) (y:=y) (seq:=seq) (left:=left) hg h6 e
   generalize Gu g a x y pos seq left=q at tf ti h
   obtain⟨how,n,im,ws⟩:=q
   simp only at tf ti h
   rcases tf with ⟨rfl,t1,t2⟩ | tf
   ·rw [if_neg (by decide),if_neg (by decide)] at h
    have hi:=ti rfl
    obtain⟨g1,g2,g3,g4,g5⟩:=As.1 hg
    have hm:=Bb (pos+n) (show 0<g.sl by omega)
    have hm0:=Bq g.sl (show 0<=pos+n by omega)
    refine KG hg f _ _ _ _ _ (NV g l a.seq a.pos ⟨seq,pos,n,im⟩ h1 ⟨h3,h2,by simp only;omega,t1.1⟩) ?_ ?_ ?_ (by omega) ⟨hm0,hm⟩ h
    ·rw [Sh,<-h2]
    ·rw [Ai]
     simp only [Al,AW]
     omega
    ·rw [used_app]
     simp only
     omega
   ·by_cases h3':how=3
    ·rw [if_pos h3'] at h
     cases h
    ·rw [if_neg h3',if_pos (by omega)] at h
     exact fin h
  ·rw [if_neg hc] at h
   exact fin h






section
variable {g:Geo} {a:An} {fill:UInt8} {sizes:List Int}
end
section
variable {g:Geo} {a:An} {fill:UInt8} {sizes:List Int}
end
theorem L2 {p u v n:Int} (hp:0<=p/\p<n) (hu:0<=u/\u<n) (hv:0<=v/\v<n) (h:(p+u).tmod n=(p+v).tmod n):u=v:=by
 have h1:(p+u).tmod n=if p+u<n then p+u else p+u - n:=by
  split
  ·exact Of (by omega) (by omega)
  ·exact RS (by omega) (by omega) (by omega)
 have h2:(p+v).tmod n=if p+v<n then p+v else p+v - n:=by
  split
  ·exact Of (by omega) (by omega)
  ·exact RS (by omega) (by omega) (by omega)
 rw [h1,h2] at h
 split at h <;> split at h <;> omega
section
variable {g:Geo} {a:An} {fill:UInt8} {sizes:List Int}
end
abbrev PQ:=(Int->Option Rc) × (Int->Option Rc)
def U5 (p:Int->Option Rc) (s:Int) (v:Option Rc):Int->Option Rc:=fun t=>if t=s then v else p t
def IE (g:Geo) (x:Wr) (z:PQ):PQ:=if x.addr - g.an<g.sl then (U5 z.1 (x.addr - g.an) (DY g ⟨0,x.bytes⟩ 0 (x.addr - g.an)),z.2) else (z.1,U5 z.2 (x.addr - g.an - g.sl) (DY g ⟨0,x.bytes⟩ 1 (x.addr - g.an - g.sl)))
def EO (g:Geo):List Wr->PQ->PQ
 | [],z=>z
 | x::r,z=>EO g r (IE g x z)
def UA (g:Geo) (x:Wr):Int:=if x.addr - g.an<g.sl then x.addr - g.an else x.addr - g.an - g.sl
theorem GR (g:Geo):∀ (l m:List Wr) (z:PQ),EO g (l ++ m) z=EO g m (EO g l z)
 | [],_,_=>rfl
 | x::r,m,z=>GR g r m (IE g x z)
def AtS (z z':PQ) (s:Int):Prop:=z.1 s=z'.1 s/\z.2 s=z'.2 s
theorem PI {g:Geo} {x:Wr} {z z':PQ} {s:Int} (h:AtS z z' s):AtS (IE g x z) (IE g x z') s:=by
 unfold IE U5
 split
 ·refine⟨?_,h.2⟩
  dsimp only
  split
  ·rfl
  ·exact h.1
 ·refine⟨h.1,?_⟩
  dsimp only
  split
  ·rfl
  ·exact h.2
theorem Ig {g:Geo}:∀ (l:List Wr) {z z':PQ} {s:Int},AtS z z' s->AtS (EO g l z) (EO g l z') s
 | [],_,_,_,h=>h
 | _::r,_,_,_,h=>Ig r (PI h)
theorem T0 {g:Geo} {x:Wr} {z:PQ} {s:Int} (h:UA g x≠s):AtS (IE g x z) z s:=by
 unfold UA at h
 unfold IE U5
 split
 ·rename_i hc
  rw [if_pos hc] at h
  exact⟨if_neg (Ne.symm h),rfl⟩
 ·rename_i hc
  rw [if_neg hc] at h
  exact⟨rfl,if_neg (Ne.symm h)⟩
theorem AtS.trans {a b c:PQ} {s:Int} (h:AtS a b s) (k:AtS b c s):AtS a c s:=⟨h.1.trans k.1,h.2.trans k.2⟩
theorem AtS.symm {a b:PQ} {s:Int} (h:AtS a b s):AtS b a s:=⟨h.1.symm,h.2.symm⟩
theorem GQ {g:Geo}:∀ (l:List Wr) {z:PQ} {s:Int},(∀ x∈l,UA g x≠s)->AtS (EO g l z) z s
 | [],_,_,_=>⟨rfl,rfl⟩
 | x::r,z,s,h=>(GQ r fun y hy=>h y (AZ _ hy)).trans (T0 (h x (by simp)))
theorem LW {g:Geo} {c s:Int} (hc:c=0\/c=1) (hs:0<=s/\s<g.sl):KO g c s=true:=by
 rw [KO,AL.2 (show 0<=s/\s<=g.sl - 1 by omega)]
 rcases hc with rfl | rfl <;> rfl
theorem Hn {g:Geo} {c s:Int} {r:Rc} {z:PQ} (hg:Bt g=true) (hc:c=0\/c=1) (hs:0<=s/\s<g.sl) (hr:Fj g r=true):IE g ⟨BX g c s,DZ g r c s⟩ z=if c=0 then (U5 z.1 s (some r),z.2) else (z.1,U5 z.2 s (some r)):=by
 have h:=No hg hr (LW hc hs)
 unfold IE BX
 rcases hc with rfl | rfl
 ·have e:g.an+0*g.sl+s - g.an=s:=by omega
  dsimp only
  rw [e,if_pos hs.2,if_pos rfl,h]
 ·have e:g.an+1*g.sl+s - g.an=s+g.sl:=by omega
  dsimp only
  rw [e,if_neg (by omega),if_neg (by decide),show s+g.sl - g.sl=s by omega,h]
theorem U9 {g:Geo} {c s:Int} {b:List UInt8} (hc:c=0\/c=1) (hs:0<=s/\s<g.sl):UA g ⟨BX g c s,b⟩=s:=by
 unfold UA BX
 rcases hc with rfl | rfl
 ·dsimp only
  rw [if_pos (by omega)];omega
 ·dsimp only
  rw [if_neg (by omega)];omega
theorem V1 {g:Geo} {a:An} {p q:Int->Option Rc} {z':PQ} {pos seq left at_ of_:Int} (hg:Bt g=true) (hok:∀ s r,p s=some r\/q s=some r->Fj g r=true) (hs:0<=DO g pos at_/\DO g pos at_<g.sl) (h:(C8 g a p q pos seq left at_ of_).2.1=1) (hz:AtS z' (EO g (C8 g a p q pos seq left at_ of_).2.2 (p,q)) (DO g pos at_)):C8 g a z'.1 z'.2 pos seq left at_ of_=((C8 g a p q pos seq left at_ of_).1,1, []):=by
 unfold C8 PN at h hz |-
 dsimp only at h hz |-
 generalize DO g pos at_=s at h hz hs |-
 cases hp:p s with
 | none=>
  cases hq:q s with
  | none=>rw [hp,hq] at h;simp [Eo,C6] at h
  | some r=>
   rw [hp,hq] at h hz
   have ho:Dx r a seq at_ of_ left=true:=by
    cases hb:Dx r a seq at_ of_ left with
    | true=>rfl
    | false=>simp [Eo,hb,C6] at h
   simp [Eo,ho,C6,EO] at hz
   rw [Hn hg (.inl rfl) hs (hok s r (.inr hq)),if_pos rfl] at hz
   obtain⟨h1,h2⟩:=hz
   dsimp only [U5] at h1 h2
   rw [if_pos rfl] at h1
   rw [h1,h2,hq]
   simp [Eo,ho,C6]
 | some r1=>
  cases hq:q s with
  | none=>
   rw [hp,hq] at h hz
   have ho:Dx r1 a seq at_ of_ left=true:=by
    cases hb:Dx r1 a seq at_ of_ left with
    | true=>rfl
    | false=>simp [Eo,hb,C6] at h
   simp [Eo,ho,C6,EO] at hz
   rw [Hn hg (.inr rfl) hs (hok s r1 (.inl hp)),if_neg (by decide)] at hz
   obtain⟨h1,h2⟩:=hz
   dsimp only [U5] at h1 h2
   rw [if_pos rfl] at h2
   rw [h1,h2,hp]
   simp [Eo,ho,C6]
  | some r2=>
   rw [hp,hq] at h hz
   cases ho1:Dx r1 a seq at_ of_ left with
   | true=>
    cases ho2:Dx r2 a seq at_ of_ left with
    | true=>
     simp [Eo,ho1,ho2,C6,EO] at hz
     obtain⟨h1,h2⟩:=hz
     dsimp only at h1 h2
     rw [h1,h2,hp,hq]
     simp [Eo,ho1,ho2,C6]
    | false=>
     simp [Eo,ho1,ho2,C6,EO] at hz
     rw [Hn hg (.inr rfl) hs (hok s r1 (.inl hp)),if_neg (by decide)] at hz
     obtain⟨h1,h2⟩:=hz
     dsimp only [U5] at h1 h2
     rw [if_pos rfl] at h2
     rw [h1,h2,hp]
     simp [Eo,ho1,ho2,C6]
   | false=>
    cases ho2:Dx r2 a seq at_ of_ left with
    | true=>
     simp [Eo,ho1,ho2,C6,EO] at hz
     rw [Hn hg (.inl rfl) hs (hok s r2 (.inr hq)),if_pos rfl] at hz
     obtain⟨h1,h2⟩:=hz
     dsimp only [U5] at h1 h2
     rw [if_pos rfl] at h1
     rw [h1,h2,hq]
     simp [Eo,ho1,ho2,C6]
    | false=>simp [Eo,ho1,ho2,C6] at h
theorem IQ {g:Geo} {a:An} {p q:Int->Option Rc} {pos seq left at_ of_:Int} (hok:∀ s r,p s=some r\/q s=some r->Fj g r=true) (h:(C8 g a p q pos seq left at_ of_).2.1=1):Fj g (C8 g a p q pos seq left at_ of_).1=true/\Dx (C8 g a p q pos seq left at_ of_).1 a seq at_ of_ left=true:=by
 unfold C8 PN at h |-
 dsimp only at h |-
 generalize DO g pos at_=s at h |-
 cases hp:p s with
 | none=>
  cases hq:q s with
  | none=>rw [hp,hq] at h;simp [Eo,C6] at h
  | some r=>
   rw [hp,hq] at h
   cases hb:Dx r a seq at_ of_ left with
   | true=>simp [Eo,hb,C6,hok s r (.inr hq)]
   | false=>simp [Eo,hb,C6] at h
 | some r1=>
  cases hq:q s with
  | none=>
   rw [hp,hq] at h
   cases hb:Dx r1 a seq at_ of_ left with
   | true=>simp [Eo,hb,C6,hok s r1 (.inl hp)]
   | false=>simp [Eo,hb,C6] at h
  | some r2=>
   rw [hp,hq] at h
   cases ho1:Dx r1 a seq at_ of_ left with
   | true=>cases ho2:Dx r2 a seq at_ of_ left <;> simp [Eo,ho1,ho2,C6,hok s r1 (.inl hp)]
   | false=>
    cases ho2:Dx r2 a seq at_ of_ left with
    | true=>simp [Eo,ho1,ho2,C6,hok s r2 (.inr hq)]
    | false=>simp [Eo,ho1,ho2,C6] at h
theorem VN (x y:Option Rc) (b1 b2:Bool):∀ c∈(C6 x y b1 b2).2.1,c=0\/c=1:=by
 unfold C6
 cases b1 <;> cases b2
 ·by_cases h:(x.isSome || y.isSome)=true <;> simp [h]
 ·simp
 ·simp
 ·simp
theorem X7 {g:Geo} {a:An} {p q:Int->Option Rc} {pos seq left at_ of_:Int} (hs:0<=DO g pos at_/\DO g pos at_<g.sl):∀ x∈(C8 g a p q pos seq left at_ of_).2.2,UA g x=DO g pos at_:=by
 intro x hx
 unfold C8 at hx
 obtain⟨c,hc,rfl⟩:=AR.1 hx
 exact U9 (VN _ _ _ _ c hc) hs
theorem Rn (x y:Option Rc) (b1 b2:Bool) (h:(C6 x y b1 b2).2.2≠1):(C6 x y b1 b2).2.1=[]:=by
 unfold C6 at h |-
 cases b1 <;> cases b2
 ·by_cases h:(x.isSome || y.isSome)=true <;> simp [h]
 ·simp at h
 ·simp at h
 ·simp at h
theorem DX {g:Geo} {r:Rc} (h:Fj g r=true) (copy slot:Int):(DZ g r copy slot).length<=200:=by
 have:=Fv h
 rw [DZ,Ea]
 omega
theorem QW {g:Geo} {a:An} {p q:Int->Option Rc} {pos seq left at_ of_:Int} (hok:∀ s r,p s=some r\/q s=some r->Fj g r=true):∀ x∈(C8 g a p q pos seq left at_ of_).2.2,x.bytes.length<=200:=by
 intro x hx
 by_cases h:(C8 g a p q pos seq left at_ of_).2.1=1
 ·have hr:=(IQ hok h).1
  unfold C8 at hx hr
  obtain⟨c,hc,rfl⟩:=AR.1 hx
  exact DX hr _ _
 ·unfold C8 PN at hx h
  dsimp only at hx h
  rw [Rn _ _ _ _ h] at hx
  simp at hx
theorem Nj {g:Geo} {p0 U k:Int} (hg:Bt g=true) (hp:0<=p0/\p0<g.sl) (hU:0<=U) (hk:0<=k/\k<=1000):DO g ((p0+U).tmod g.sl) k=(p0+(U+k)).tmod g.sl:=by
 obtain⟨h1,h2,h3,h4,h5⟩:=As.1 hg
 unfold DO
 have q1:=Bq g.sl (show 0<=p0+U by omega)
 have q2:=Bb (p0+U) (show 0<g.sl by omega)
 rw [show IntKind.i64.wrap ((p0+U).tmod g.sl+k)=(p0+U).tmod g.sl+k by rw [IntKind.wrap_i64];omega]
 rw [Bc (show 0<=p0+U by omega)] at q1 |-
 rw [Bc (by omega),Bc (by omega),Int.emod_add_emod,Int.add_assoc]
theorem KR {look:Int->Rc × Int × List Wr} {f:Nat} {k:Int} {r:Rc} {im:List Img} {w:List Wr} (h:(look k).2.1=1):BD look (f+1) k r im w=BD look f (k+1) (look k).1 (if r.kind=1 then im ++ [r.img] else im) (w ++ (look k).2.2):=by
 conv=>lhs;unfold BD
 dsimp only
 rw [if_neg (not_not_intro h)]
theorem PX {look:Int->Rc × Int × List Wr} {f:Nat} {k:Int} {r:Rc} {im:List Img} {w:List Wr} (h:(look k).2.1≠1):BD look (f+1) k r im w=((look k).2.1, [], []):=by
 conv=>lhs;unfold BD
 dsimp only
 rw [if_pos h]
theorem Is {g:Geo} {a:An} {p q:Int->Option Rc} {pos seq left:Int} (h:(C8 g a p q pos seq left 0 0).2.1=1):Ga g a p q pos seq left=(let t:=BD (fun k=>C8 g a p q pos seq left k (C8 g a p q pos seq left 0 0).1.of_) ((C8 g a p q pos seq left 0 0).1.of_ - 1).toNat 1 (C8 g a p q pos seq left 0 0).1 [] (C8 g a p q pos seq left 0 0).2.2
  if t.1≠1 then (t.1,0, [], []) else (1,(C8 g a p q pos seq left 0 0).1.of_,t.2.1,t.2.2)):=by
 conv=>lhs;unfold Ga
 dsimp only
 rw [if_neg (not_not_intro h)]
theorem JZ {g:Geo} {a:An} {p q:Int->Option Rc} {pos seq left:Int} (h:(C8 g a p q pos seq left 0 0).2.1≠1):Ga g a p q pos seq left=((C8 g a p q pos seq left 0 0).2.1,0, [], []):=by
 conv=>lhs;unfold Ga
 dsimp only
 rw [if_pos h]
theorem Il {look look':Int->Rc × Int × List Wr}:∀ (f:Nat) (k:Int) (r:Rc) (im:List Img) (w w0:List Wr),(∀ i,k<=i->i<k+f->(look i).2.1=1->look' i=((look i).1,1, []))->(BD look f k r im w).1=1->
  BD look' f k r im w0=(1,(BD look f k r im w).2.1,w0)/\(BD look f k r im w).2.2=w ++ (List.range f).flatMap (fun j=>(look (k+(j:Nat))).2.2)/\∀ i,k<=i->i<k+f->(look i).2.1=1
 | 0,k,r,im,w,w0,_,_=>⟨rfl,by simp [BD],fun i h1 h2=>by omega⟩
 | f+1,k,r,im,w,w0,hl,h=>by
  by_cases hq:(look k).2.1=1
  ·have e:=hl k (by omega) (by omega) hq
   rw [KR hq] at h |-
   rw [KR (show (look' k).2.1=1 by rw [e]),e]
   dsimp only
   obtain⟨i1,i2,i3⟩:=Il f (k+1) (look k).1 (if r.kind=1 then im ++ [r.img] else im) (w ++ (look k).2.2) (w0 ++ []) (fun i h1 h2=>hl i (by omega) (by omega)) h
   refine⟨?_,?_,fun i h1 h2=>?_⟩
   ·rw [i1,AM]
   ·rw [i2,List.range_succ_eq_map,List.flatMap_cons,List.flatMap_map,A5]
    congr 1
    congr 1
    ·rw [show k+((0:Nat):Int)=k by omega]
    ·congr 1
     funext j
     rw [show k+1+(j:Int)=k+((j.succ:Nat):Int) by omega]
   ·by_cases ei:i=k
    ·rw [ei];exact hq
    ·exact i3 i (by omega) (by omega)
  ·rw [PX hq] at h
   exact absurd h hq
theorem JK {look look':Int->Rc × Int × List Wr}:∀ (f:Nat) (k:Int) (r:Rc) (im:List Img) (w:List Wr),(∀ i,k<=i->i<k+f->look' i=look i)->BD look' f k r im w=BD look f k r im w
 | 0,_,_,_,_,_=>rfl
 | f+1,k,r,im,w,hl=>by
  unfold BD
  dsimp only
  rw [hl k (by omega) (by omega),JK f (k+1) (look k).1 _ _ (fun i h1 h2=>hl i (by omega) (by omega))]
theorem N4 {g:Geo} {W:Nat->List Wr} {z:PQ} {s:Int} {k:Nat}:∀ n,k<n->(∀ j,j<n->j≠k->∀ x∈W j,UA g x≠s)->AtS (EO g ((List.range n).flatMap W) z) (EO g (W k) z) s
 | 0,h,_=>by omega
 | n+1,hk,h=>by
  rw [B5,List.flatMap_append,GR]
  simp only [List.flatMap_cons,List.flatMap_nil,AM]
  by_cases e:k=n
  ·subst e
   refine Ig (W k) (GQ _ fun x hx=>?_)
   obtain⟨j,hj,hx⟩:=List.mem_flatMap.1 hx
   have hj:=AU.1 hj
   exact h j (by omega) (by omega) x hx
  ·exact(GQ (W n) (h n (by omega) (Ne.symm e))).trans (N4 n (by omega) fun j hj hne=>h j (by omega) hne)
def W_ (g:Geo) (p0 U:Int) (z z':PQ):Prop:=∀ u,U<=u->u<g.sl->AtS z z' ((p0+u).tmod g.sl)
section
variable {g:Geo} {a:An} {p q:Int->Option Rc} {p0:Int}
theorem Tc {z':PQ} {pos seq left at_ of_:Int} (h:AtS z' (p,q) (DO g pos at_)):C8 g a z'.1 z'.2 pos seq left at_ of_=C8 g a p q pos seq left at_ of_:=by
 unfold C8 PN
 dsimp only
 rw [h.1,h.2]
theorem SF {z':PQ} {U seq left:Int} (hg:Bt g=true) (hok:∀ s r,p s=some r\/q s=some r->Fj g r=true) (hp:0<=p0/\p0<g.sl) (hU:0<=U/\U+left=g.sl/\0<left) (h:W_ g p0 U z' (p,q)):Ga g a z'.1 z'.2 ((p0+U).tmod g.sl) seq left=Ga g a p q ((p0+U).tmod g.sl) seq left:=by
 obtain⟨h1,h2,h3,h4,h5⟩:=As.1 hg
 have hr:∀ (k of_:Int),0<=k->U+k<g.sl->C8 g a z'.1 z'.2 ((p0+U).tmod g.sl) seq left k of_=C8 g a p q ((p0+U).tmod g.sl) seq left k of_:=fun k of_ hk hk2=>Tc (by rw [Nj hg hp hU.1 (by omega)];exact h _ (by omega) hk2)
 by_cases h0:(C8 g a p q ((p0+U).tmod g.sl) seq left 0 0).2.1=1
 ·rw [Is h0,Is (by rw [hr 0 0 (by omega) (by omega)];exact h0),hr 0 0 (by omega) (by omega)]
  obtain⟨f1,f2⟩:=IQ hok h0
  have hN:=Kk f1 f2
  have hlft:=hN.2.2.2.2.1 rfl
  rw [JK (look:=fun k=>C8 g a p q ((p0+U).tmod g.sl) seq left k (C8 g a p q ((p0+U).tmod g.sl) seq left 0 0).1.of_) _ _ _ _ _ (fun i h1 h2=>hr i _ (by omega) (by omega))]
 ·rw [JZ h0,JZ (by rw [hr 0 0 (by omega) (by omega)];exact h0),hr 0 0 (by omega) (by omega)]
theorem UJ {U seq left:Int} (hg:Bt g=true) (hok:∀ s r,p s=some r\/q s=some r->Fj g r=true) (hp:0<=p0/\p0<g.sl) (hU:0<=U/\U+left=g.sl) (h:(Ga g a p q ((p0+U).tmod g.sl) seq left).1=1) :
  (2<=(Ga g a p q ((p0+U).tmod g.sl) seq left).2.1/\(Ga g a p q ((p0+U).tmod g.sl) seq left).2.1<=left)/\
  (∀ x∈(Ga g a p q ((p0+U).tmod g.sl) seq left).2.2.2,∃ u,(U<=u/\u<U+(Ga g a p q ((p0+U).tmod g.sl) seq left).2.1)/\UA g x=(p0+u).tmod g.sl/\x.bytes.length<=200)/\
  ∀ z':PQ,(∀ u,U<=u->u<U+(Ga g a p q ((p0+U).tmod g.sl) seq left).2.1->AtS z' (EO g (Ga g a p q ((p0+U).tmod g.sl) seq left).2.2.2 (p,q)) ((p0+u).tmod g.sl))->
   Ga g a z'.1 z'.2 ((p0+U).tmod g.sl) seq left=(1,(Ga g a p q ((p0+U).tmod g.sl) seq left).2.1,(Ga g a p q ((p0+U).tmod g.sl) seq left).2.2.1, []):=by
 obtain⟨h1,h2,h3,h4,h5⟩:=As.1 hg
 by_cases h0:(C8 g a p q ((p0+U).tmod g.sl) seq left 0 0).2.1=1
 ·obtain⟨f1,f2⟩:=IQ hok h0
  have hN:=Kk f1 f2
  have hlft:=hN.2.2.2.2.1 rfl
  obtain⟨of_,hof⟩:∃ n:Nat,(C8 g a p q ((p0+U).tmod g.sl) seq left 0 0).1.of_=(n:Int)+1:=⟨((C8 g a p q ((p0+U).tmod g.sl) seq left 0 0).1.of_ - 1).toNat,by omega⟩
  have et:((of_:Int)+1 - 1).toNat=of_:=by omega
  have hsl:∀ k:Int,0<=k->k<=of_->DO g ((p0+U).tmod g.sl) k=(p0+(U+k)).tmod g.sl/\0<=DO g ((p0+U).tmod g.sl) k/\DO g ((p0+U).tmod g.sl) k<g.sl:=fun k hk hk2=>by
   have e:=Nj hg hp hU.1 (k:=k) (by omega)
   rw [e]
   exact⟨rfl,Bq g.sl (by omega),Bb _ (by omega)⟩
  rw [Is h0,hof,et] at h |-
  dsimp only at h |-
  by_cases hG:(BD (fun k=>C8 g a p q ((p0+U).tmod g.sl) seq left k ((of_:Int)+1)) of_ 1 (C8 g a p q ((p0+U).tmod g.sl) seq left 0 0).1 [] (C8 g a p q ((p0+U).tmod g.sl) seq left 0 0).2.2).1=1
  ·rw [if_neg (not_not_intro hG)]
   dsimp only
   obtain⟨-,g2,g3⟩:=Il (look':=fun i=>((C8 g a p q ((p0+U).tmod g.sl) seq left i ((of_:Int)+1)).1,1, [])) of_ 1 (C8 g a p q ((p0+U).tmod g.sl) seq left 0 0).1 [] (C8 g a p q ((p0+U).tmod g.sl) seq left 0 0).2.2 [] (fun i _ _ _=>rfl) hG
   -- what is to be written,record by record
   have eW:(BD (fun k=>C8 g a p q ((p0+U).tmod g.sl) seq left k ((of_:Int)+1)) of_ 1 (C8 g a p q ((p0+U).tmod g.sl) seq left 0 0).1 [] (C8 g a p q ((p0+U).tmod g.sl) seq left 0 0).2.2).2.2=(List.range (of_+1)).flatMap fun j=>(C8 g a p q ((p0+U).tmod g.sl) seq left (j:Nat) (if j=0 then 0 else (of_:Int)+1)).2.2:=by
    rw [g2,List.range_succ_eq_map,List.flatMap_cons,List.flatMap_map]
    congr 1
    congr 1
    funext j
    rw [if_neg (Nat.succ_ne_zero j),show 1+(j:Int)=((j.succ:Nat):Int) by omega]
   have hwr:∀ j:Nat,j<of_+1->∀ x∈(C8 g a p q ((p0+U).tmod g.sl) seq left (j:Nat) (if j=0 then 0 else (of_:Int)+1)).2.2,UA g x=(p0+(U+j)).tmod g.sl:=fun j hj x hx=>by
    obtain⟨e1,e2⟩:=hsl j (by omega) (by omega)
    rw [X7 e2 x hx,e1]
   refine⟨⟨by omega,by omega⟩,fun x hx=>?_,fun z' hz=>?_⟩
   ·rw [eW] at hx
    obtain⟨j,hj,hx⟩:=List.mem_flatMap.1 hx
    have hj:=AU.1 hj
    exact⟨U+j,by omega,hwr j hj x hx,QW hok x hx⟩
   ·rw [eW] at hz
    have hrec:∀ k:Nat,k<of_+1->(C8 g a p q ((p0+U).tmod g.sl) seq left (k:Nat) (if k=0 then 0 else (of_:Int)+1)).2.1=1->C8 g a z'.1 z'.2 ((p0+U).tmod g.sl) seq left (k:Nat) (if k=0 then 0 else (of_:Int)+1)=((C8 g a p q ((p0+U).tmod g.sl) seq left (k:Nat) (if k=0 then 0 else (of_:Int)+1)).1,1, []):=fun k hk hf=>by
     obtain⟨e1,e2⟩:=hsl k (by omega) (by omega)
     refine V1 hg hok e2 hf ?_
     rw [e1]
     refine(hz (U+k) (by omega) (by omega)).trans ?_
     refine N4 (W:=fun j=>(C8 g a p q ((p0+U).tmod g.sl) seq left (j:Nat) (if j=0 then 0 else (of_:Int)+1)).2.2) (k:=k) _ hk fun j hj hne x hx e=>?_
     rw [hwr j hj x hx] at e
     have:=L2 hp (by omega) (by omega) e
     omega
    have r0:=hrec 0 (by omega) h0
    rw [if_pos rfl] at r0
    have r0':C8 g a z'.1 z'.2 ((p0+U).tmod g.sl) seq left 0 0=((C8 g a p q ((p0+U).tmod g.sl) seq left 0 0).1,1, []):=r0
    rw [Is (by rw [r0']),r0']
    dsimp only
    rw [hof,et]
    obtain⟨g4, -, -⟩:=Il (look:=fun k=>C8 g a p q ((p0+U).tmod g.sl) seq left k ((of_:Int)+1)) (look':=fun k=>C8 g a z'.1 z'.2 ((p0+U).tmod g.sl) seq left k ((of_:Int)+1)) of_ 1 (C8 g a p q ((p0+U).tmod g.sl) seq left 0 0).1 [] (C8 g a p q ((p0+U).tmod g.sl) seq left 0 0).2.2 [] (fun i i1 i2 hf=>by
     obtain⟨k,rfl⟩:=Int.eq_ofNat_of_zero_le (show 0<=i by omega)
     have:=hrec k (by omega)
     rw [if_neg (by omega)] at this
     exact this hf) hG
    rw [g4]
    dsimp only
    rw [if_neg (fun h=>h rfl)]
  ·rw [if_pos hG] at h
   exact absurd h hG
 ·rw [JZ h0] at h
  exact absurd h h0
theorem Nl (hg:Bt g=true) (hok:∀ s r,p s=some r\/q s=some r->Fj g r=true) (hp:0<=p0/\p0<g.sl):∀ (f:Nat) (U seq left:Int) (l:List Tx) (w:List Wr) {l':List Tx} {w':List Wr} {seq':Int},0<=U->U+left=g.sl->Fu g a p q f ((p0+U).tmod g.sl) seq left l w=some (l',w',seq')->
  ∃ wr,w'=w ++ wr/\(∀ x∈wr,∃ u,(U<=u/\u<g.sl)/\UA g x=(p0+u).tmod g.sl/\x.bytes.length<=200)/\∀ z':PQ,W_ g p0 U z' (EO g wr (p,q))->∀ w0,Fu g a z'.1 z'.2 f ((p0+U).tmod g.sl) seq left l w0=some (l',w0,seq')
 | 0,U,seq,left,l,w,l',w',seq',_,_,h=>by
  unfold Fu at h
  injection h with h
  injection h with e1 h
  injection h with e2 e3
  subst e1 e2 e3
  exact⟨[],by simp,by simp,fun _ _ _=>rfl⟩
 | f+1,U,seq,left,l,w,l',w',seq',hU,hl,h=>by
  obtain⟨h1,h2,h3,h4,h5⟩:=As.1 hg
  unfold Fu at h
  by_cases hc:0<left/\seq<=4294967295
  ·rw [if_pos hc] at h
   dsimp only at h
   by_cases t3:(Ga g a p q ((p0+U).tmod g.sl) seq left).1=3
   ·rw [if_pos t3] at h
    cases h
   ·rw [if_neg t3] at h
    by_cases t1:(Ga g a p q ((p0+U).tmod g.sl) seq left).1=1
    ·rw [if_neg (fun h=>h t1)] at h
     obtain⟨⟨n1,n2⟩,n3,n4⟩:=UJ hg hok hp ⟨hU,hl⟩ t1
     generalize Ga g a p q ((p0+U).tmod g.sl) seq left=T at h n1 n2 n3 n4
     obtain⟨how,n,im,tw⟩:=T
     dsimp only at h n1 n2 n3 n4
     have ep:((p0+U).tmod g.sl+n).tmod g.sl=(p0+(U+n)).tmod g.sl:=by
      rw [Bc (show 0<=p0+U by omega)]
      have q1:=Int.emod_nonneg (p0+U) (show g.sl≠0 by omega)
      rw [Bc (by omega),Bc (by omega),Int.emod_add_emod,Int.add_assoc]
     rw [ep] at h
     obtain⟨wr,i1,i2,i3⟩:=Nl hg hok hp f (U+n) (seq+1) (left - n) _ _ (by omega) (by omega) h
     refine⟨tw ++ wr,by rw [i1,A5],fun x hx=>?_,fun z' hz w0=>?_⟩
     ·rcases A6.1 hx with hx | hx
      ·obtain⟨u,u1,u2⟩:=n3 x hx
       exact⟨u,by omega,u2⟩
      ·obtain⟨u,u1,u2⟩:=i2 x hx
       exact⟨u,by omega,u2⟩
     ·unfold W_ at hz
      have ht:=n4 z' fun u u1 u2=>by
       have:=hz u u1 (by omega)
       rw [GR] at this
       refine this.trans (GQ wr fun x hx e=>?_)
       obtain⟨v,v1,v2, -⟩:=i2 x hx
       rw [v2] at e
       have:=L2 hp (by omega) (by omega) e
       omega
      unfold Fu
      rw [if_pos hc,ht]
      dsimp only
      rw [if_neg (by decide),if_neg (fun h=>h rfl),ep]
      have:=i3 z' (fun u u1 u2=>by
       have:=hz u (by omega) u2
       rw [GR] at this
       refine this.trans (Ig wr (GQ tw fun x hx e=>?_))
       obtain⟨v,v1,v2, -⟩:=n3 x hx
       rw [v2] at e
       have:=L2 hp (by omega) (by omega) e
       omega) (w0 ++ [])
      rw [this,AM]
    ·rw [if_pos t1] at h
     injection h with h
     injection h with e1 h
     injection h with e2 e3
     subst e1 e2 e3
     refine⟨[],by simp,by simp,fun z' hz w0=>?_⟩
     have ht:=SF (a:=a) (seq:=seq) hg hok hp ⟨hU,hl,hc.1⟩ hz
     unfold Fu
     rw [if_pos hc,ht]
     dsimp only
     rw [if_neg t3,if_pos t1]
  ·rw [if_neg hc] at h
   injection h with h
   injection h with e1 h
   injection h with e2 e3
   subst e1 e2 e3
   refine⟨[],by simp,by simp,fun z' hz w0=>?_⟩
   unfold Fu
   rw [if_neg hc]
end
theorem G0 (l:List Int) (hl:l.length<=1000000):Fn Tryz.prog 137 [iA l] fun r=>r=iA l:=by
 refine zT Tryz.func137 rfl ?_
 refine⟨by omega,?_⟩
 refine⟨by simp,?_⟩
 exact⟨iA l,fun c v h=>zE rfl (fun i hi=>EJ hi) h,rfl⟩
theorem MR (a:An) (hh:a.homes.length<=1000) (hp:∀ h∈a.homes,h.places.length<=1000000):Fn Tryz.prog 135 [.ag (Ed a)] fun r=>r = .ag (Ed a):=by
 refine zT Tryz.func135 rfl ?_
 conv=>whnf
 refine zP Nat (fun k=>([(1, .bp 0 0),(2, .bp 1 0),(3,I8 a.homes),(4, .v (.int .i64 k))], [.box 28 [.v (.int .i64 a.gen), .v (.int .i64 a.epoch), .v (.int .i64 a.pos), .v (.int .i64 a.seq), .v (.int .i64 a.last), .v (.string a.label), .ow 2 k], .box 28 [.v (.int .i64 0), .v (.int .i64 0), .v (.int .i64 0), .v (.int .i64 0), .v (.int .i64 0), .v (.string ⟨#[]⟩), .v (.slice none 0 0)], .row 53 3 ((a.homes.take k).map DG)])) (fun k=>k<=a.homes.length) (fun k=>a.homes.length - k) 0 (Aj _) ⟨[(1000006,53,3)],⟨rfl,rfl,tv⟩,⟨rfl,rfl,rfl,rfl,tv⟩,⟨rfl,rfl,rfl,tv⟩,rfl,rfl,rfl⟩ ?_
 intro k hk
 conv=>whnf
 refine A3 (fun c1=>?_) (fun c1=>?_) <;> (repeat rw [Ac] at c1) <;> conv=>whnf
 ·have ti:=G0 (a.homes.getD k ⟨[],0,0⟩).places (hp _ (A9 c1))
  refine zA tys_ok mixed [0,1,2,3,4,5,6,8,9,10,11,12,13,14,15,16,17,7,18,19,20,21,22] (by kernel_rfl) ?_
  conv=>whnf
  repeat' (first | (refine zX ?_;conv=>whnf) | (refine A3 (fun _=>?_) (fun _=>?_) <;> conv=>whnf) | (refine z_ ti ?_;conv=>whnf) | (refine Ae (by first | omega | exact of_decide_eq_true rfl) ?_;conv=>whnf) | fail)
  refine Ae ⟨by rw [Ab,Au];omega,by omega⟩ ?_
  exact⟨k+1,by omega,by omega, [],tv,⟨rfl,rfl,rfl,AS (by omega),tv⟩,⟨rfl,rfl,congrArg (AB.row _ _) (G9 c1),tv⟩,rfl,rfl,rfl⟩
 ·refine Ae (by rw [Ab,Au];omega) ?_
  conv=>whnf
  have ek:k=a.homes.length:=by omega
  subst ek
  refine⟨.ag (Ed a),Ba ⟨ri,ri,ri,ri,ri,ri,?_,tv⟩,rfl⟩
  rw [Ar]
  exact Bf a.homes rfl rfl
theorem Gr {g:Geo} {a:An} (h:Bg g a=true):(0<=a.gen/\a.gen<=4294967295)/\(0<=a.epoch/\a.epoch<=4294967295)/\(1<=a.seq/\a.seq<=4294967295)/\(0<=a.last/\a.last<=4294967295/\a.seq - 1<=a.last)/\(0<=a.pos/\a.pos<g.sl)/\(a.homes.length:Int)=g.z/\∀ x∈a.homes,DN g x=true:=by
 simp only [Bg,Bd,BR,Ad,AL,decide_eq_true_eq,Aw] at h
 obtain⟨⟨q1,q2,q3,q4, -⟩,q5,q6,q7,q8,q9,q10⟩:=h
 exact⟨q1,q2,⟨q5,q3.2⟩,⟨q4.1,q4.2,q6⟩,⟨q7.1,by omega⟩,q9,q10⟩
theorem KW {g:Geo} {a:An} (hg:Bt g=true) (h:Bg g a=true):∀ x∈a.homes,x.places.length<=1000000:=by
 obtain⟨h1,h2,h3,h4,h5⟩:=As.1 hg
 intro x hx
 have:=(Gr h).2.2.2.2.2.2 x hx
 simp only [DN,Ad,decide_eq_true_eq] at this
 omega
theorem Xq {g:Geo} {b:An} {x y:List Gt} {p q:Int->Option Rc} {r:List Tx × List Wr × Int} (hg:Bt g=true) (hb:Bg g b=true) (hx:(x.length:Int)=g.sl) (hy:(y.length:Int)=g.sl) (hp:Ek g x 0=p) (hq:Ek g y 1=q) (h:Nm g b p q=r):Jz g b x y=r:=by
 unfold Jz
 rw [if_pos (by rw [hg,hb];rfl),if_pos ⟨hx,hy⟩,Oj,hp,hq,h]
def Rk (g:Geo) (x:Wr) (z:List Gt × List Gt):List Gt × List Gt:=if x.addr - g.an<g.sl then (z.1.set (x.addr - g.an).toNat ⟨0,x.bytes⟩,z.2) else (z.1,z.2.set (x.addr - g.an - g.sl).toNat ⟨0,x.bytes⟩)
def J9 (g:Geo) (w:List Wr) (z:List Gt × List Gt):Nat->List Gt × List Gt
 | 0=>z
 | k+1=>Rk g (w.getD k ⟨0, []⟩) (J9 g w z k)
theorem Ko {g:Geo} {w:List Wr} {z:List Gt × List Gt}:∀ k,(J9 g w z k).1.length=z.1.length/\(J9 g w z k).2.length=z.2.length
 | 0=>⟨rfl,rfl⟩
 | k+1=>by
  obtain⟨h1,h2⟩:=Ko (g:=g) (w:=w) (z:=z) k
  unfold J9 Rk
  split
  ·exact⟨by rw [Bh,h1],h2⟩
  ·exact⟨h1,by rw [Bh,h2]⟩
theorem Po {g:Geo} {x:List Gt} {copy:Int} {k:Nat} {b:List UInt8} (hk:k<x.length):Ek g (x.set k ⟨0,b⟩) copy=U5 (Ek g x copy) (k:Nat) (DY g ⟨0,b⟩ copy (k:Nat)):=by
 funext s
 unfold Ek U5
 by_cases e:s=(k:Nat)
 ·subst e
  rw [if_pos rfl,Ac,Aa,AA hk]
  rfl
 ·rw [if_neg e]
  by_cases hs:0<=s/\s<g.sl
  ·obtain⟨i,rfl⟩:=Int.eq_ofNat_of_zero_le hs.1
   rw [Ac,Aa,A7 (by omega),<-Aa]
   rfl
  ·rw [Kd hs]
   exact(Kd hs).symm
def Z2 (g:Geo) (x:Wr):Prop:=0<=x.addr - g.an/\x.addr - g.an<2*g.sl
theorem N3 {g:Geo} {w:List Wr} {z:List Gt × List Gt} (h1:(z.1.length:Int)=g.sl) (h2:(z.2.length:Int)=g.sl):∀ k,k<=w.length->(∀ x∈w,Z2 g x)->(Ek g (J9 g w z k).1 0,Ek g (J9 g w z k).2 1)=EO g (w.take k) (Ek g z.1 0,Ek g z.2 1)
 | 0,_,_=>rfl
 | k+1,hk,hw=>by
  have ih:=N3 h1 h2 k (by omega) hw
  have hx:=hw _ (A9 (d:=⟨0, []⟩) (show k<w.length by omega))
  obtain⟨l1,l2⟩:=Ko (g:=g) (w:=w) (z:=z) k
  rw [AI (by omega),GR,<-ih]
  rw [show w[k]=w.getD k ⟨0, []⟩ by rw [Aa,Af (by omega)];rfl]
  simp only [EO,IE,J9,Rk]
  generalize w.getD k ⟨0, []⟩=x at hx
  unfold Z2 at hx
  by_cases hc:x.addr - g.an<g.sl
  ·rw [if_pos hc,if_pos hc]
   dsimp only
   rw [Po (by omega),CE hx.1]
  ·rw [if_neg hc,if_neg hc]
   dsimp only
   rw [Po (by omega),CE (show 0<=x.addr - g.an - g.sl by omega)]
theorem UW {g:Geo} {x y:List Gt}:∀ s r,Ek g x 0 s=some r\/Ek g y 1 s=some r->Fj g r=true:=by
 rintro s r (h | h)
 ·exact(LG h).1
 ·exact(LG h).1
theorem QG {g:Geo} {a:An} {x y:List Gt} {l:List Tx} {w:List Wr} (h:Jz g a x y=(l,w,0)):(Bt g=true/\Bg g a=true)/\((x.length:Int)=g.sl/\(y.length:Int)=g.sl)/\(∀ z∈w,Z2 g z/\z.bytes.length<=200)/\Jz g a (J9 g w (x,y) w.length).1 (J9 g w (x,y) w.length).2=(l, [],0):=by
 unfold Jz at h
 by_cases hA:(Bt g&&Bg g a)=true
 ·rw [if_pos hA] at h
  obtain⟨hg,ha⟩:=Bool.and_eq_true_iff.1 hA
  obtain⟨h1,h2,h3,h4,h5⟩:=As.1 hg
  have hq:=JT ha
  by_cases hx:(x.length:Int)=g.sl/\(y.length:Int)=g.sl
  ·rw [if_pos hx,Oj] at h
   unfold Nm at h
   cases hR:Fu g a (Ek g x 0) (Ek g y 1) g.sl.toNat a.pos a.seq g.sl [] [] with
   | none=>rw [hR] at h;simp [TU,damaged] at h
   | some R=>
    obtain⟨l',w',seq'⟩:=R
    rw [hR] at h
    by_cases hl:seq' - 1<a.last
    ·rw [Im hl] at h
     simp [damaged] at h
    ·rw [FM hl] at h
     injection h with e1 h
     injection h with e2 _
     subst e1 e2
     have e0:(a.pos+0).tmod g.sl=a.pos:=by rw [Int.add_zero];exact Of hq.2.1 hq.2.2
     rw [<-e0] at hR
     obtain⟨wr,w1,w2,w3⟩:=Nl hg (UW (g:=g) (x:=x) (y:=y)) hq.2 g.sl.toNat 0 a.seq g.sl [] [] (CG 0) (by omega) hR
     rw [Bu] at w1
     subst w1
     have hin:∀ z∈w',Z2 g z/\z.bytes.length<=200:=fun z hz=>by
      obtain⟨u,u1,u2,u3⟩:=w2 z hz
      refine⟨?_,u3⟩
      have q1:=Bq g.sl (show 0<=a.pos+u by omega)
      have q2:=Bb (a.pos+u) (show 0<g.sl by omega)
      rw [<-u2] at q1 q2
      unfold UA at q1 q2
      unfold Z2
      split at q1 <;> omega
     refine⟨⟨hg,ha⟩,hx,hin,?_⟩
     obtain⟨l1,l2⟩:=Ko (g:=g) (w:=w') (z:=(x,y)) w'.length
     have hm:=N3 (g:=g) (w:=w') (z:=(x,y)) hx.1 hx.2 w'.length (Ah _) fun z hz=>(hin z hz).1
     rw [Ar] at hm
     have hm1:=congrArg Prod.fst hm
     have hm2:=congrArg Prod.snd hm
     refine Xq hg ha (by rw [l1];exact hx.1) (by rw [l2];exact hx.2) hm1 hm2 ?_
     unfold Nm
     have:=w3 (EO g w' (Ek g x 0,Ek g y 1)) (fun u _ _=>⟨rfl,rfl⟩) []
     rw [e0] at this
     rw [this,FM hl]
  ·rw [if_neg hx] at h
   injection h with _ h
   injection h with _ h
   cases h
 ·rw [if_neg hA] at h
  injection h with _ h
  injection h with _ h
  cases h
theorem LF {g:Geo} {a:An} {x y:List Gt} (hg:Bt g=true):∀ (f:Nat) (pos seq left:Int) (l:List Tx) (w:List Wr) {l':List Tx} {w':List Wr} {seq':Int},(0<=pos/\pos<g.sl)->Fb g a x y f pos seq left l w=some (l',w',seq')->w'.length<=w.length+30*f
 | 0,pos,seq,left,l,w,l',w',seq',_,h=>by
  unfold Fb at h
  injection h with h
  injection h with e1 h
  injection h with e2 e3
  subst e2
  omega
 | f+1,pos,seq,left,l,w,l',w',seq',hp,h=>by
  unfold Fb at h
  have fin:some (l,w,seq)=some (l',w',seq')->w'.length<=w.length+30*(f+1):=fun h=>by
   injection h with h
   injection h with e1 h
   injection h with e2 e3
   subst e2
   omega
  by_cases hc:0<left/\seq<=4294967295
  ·rw [if_pos hc] at h
   dsimp only at h
   have tf:=IK (a:=a) (x:=x) (y:=y) (seq:=seq) (left:=left) hg hp
   generalize Gu g a x y pos seq left=T at tf h
   obtain⟨how,n,im,ws⟩:=T
   dsimp only at tf h
   rcases tf with ⟨rfl,t1,t2⟩ | tf
   ·rw [if_neg (by decide),if_neg (by decide)] at h
    obtain⟨h1,h2,h3,h4,h5⟩:=As.1 hg
    have hm:=Bb (pos+n) (show 0<g.sl by omega)
    have hm0:=Bq g.sl (show 0<=pos+n by omega)
    have:=LF hg f _ _ _ _ _ ⟨hm0,hm⟩ h
    rw [Ai] at this
    omega
   ·by_cases e3:how=3
    ·rw [if_pos e3] at h
     cases h
    ·rw [if_neg e3,if_pos (by omega)] at h
     exact fin h
  ·rw [if_neg hc] at h
   exact fin h
theorem QF {g:Geo} {a:An} {x y:List Gt}:(Jz g a x y).2.1.length<=900:=by
 unfold Jz
 by_cases hA:(Bt g&&Bg g a)=true
 ·rw [if_pos hA]
  obtain⟨hg,ha⟩:=Bool.and_eq_true_iff.1 hA
  obtain⟨h1,h2,h3,h4,h5⟩:=As.1 hg
  split
  ·unfold Ej
   cases hR:Fb g a x y g.sl.toNat a.pos a.seq g.sl [] [] with
   | none=>exact Aj _
   | some R=>
    obtain⟨l',w',seq'⟩:=R
    have:=LF hg _ _ _ _ _ _ (JT ha).2 hR
    by_cases hl:seq' - 1<a.last
    ·rw [Im hl];exact Aj _
    ·rw [FM hl]
     simp only [AW] at this
     dsimp only
     omega
  ·exact Aj _
 ·rw [if_neg hA];exact Aj _
theorem Nn {g:Geo} {a:An} {x y:List Gt}:∀ (f:Nat) (pos seq left:Int) (l:List Tx) (w:List Wr) {l':List Tx} {w':List Wr} {seq':Int},seq<=4294967296->Fb g a x y f pos seq left l w=some (l',w',seq')->seq'<=4294967296
 | 0,pos,seq,left,l,w,l',w',seq',h1,h=>by
  unfold Fb at h
  injection h with h
  injection h with e1 h
  injection h with e2 e3
  omega
 | f+1,pos,seq,left,l,w,l',w',seq',h1,h=>by
  unfold Fb at h
  have fin:some (l,w,seq)=some (l',w',seq')->seq'<=4294967296:=fun h=>by
   injection h with h
   injection h with e1 h
   injection h with e2 e3
   omega
  by_cases hc:0<left/\seq<=4294967295
  ·rw [if_pos hc] at h
   simp only at h
   generalize Gu g a x y pos seq left=q at h
   split at h
   ·cases h
   ·split at h
    ·exact fin h
    ·exact Nn f _ _ _ _ _ (by omega) h
  ·rw [if_neg hc] at h
   exact fin h
theorem LE {g:Geo} {a:An} {x y:List Gt} (hg:Bt g=true) (ha:Bg g a=true) (h:(Ej g a x y).2.2=0):a.last<=a.seq+(Ej g a x y).1.length - 1/\a.seq+(Ej g a x y).1.length - 1<=4294967295:=by
 obtain⟨g1,g2,g3,g4,g5⟩:=As.1 hg
 have hq:=JT ha
 have hp:=Gr ha
 unfold Ej at h |-
 cases hR:Fb g a x y g.sl.toNat a.pos a.seq g.sl [] [] with
 | none=>rw [hR] at h;simp [TU,damaged] at h
 | some q=>
  obtain⟨l,w,seq⟩:=q
  rw [hR] at h
  obtain⟨c1,c2,c3⟩:=KG hg _ _ _ _ _ _ (l':=l) (w':=w) (seq':=seq) (show Hx g [] a.seq a.pos from trivial) rfl (by simp) (by simp [usedM]) (by omega) hq.2 hR
  have hm:=Nn _ _ _ _ _ _ (by omega) hR
  by_cases hl:seq - 1<a.last
  ·rw [Im hl] at h;simp [damaged] at h
  ·rw [FM hl]
   simp only
   omega
def DL (a:An) (n:Nat):An:={ a with gen:=a.gen+1,epoch:=a.epoch+1,last:=a.seq+n - 1 }
theorem LZ {g:Geo} {a:An} {n:Nat} (ha:Bg g a=true) (h1:a.gen≠4294967295) (h2:a.epoch≠4294967295) (h3:a.seq+n - 1<=4294967295):Bg g (DL a n)=true:=by
 have hp:=Gr ha
 simp only [Bg,Bd,BR,Ad,AL,decide_eq_true_eq] at ha
 simp only [Bg,Bd,BR,Ad,AL,decide_eq_true_eq]
 obtain⟨⟨q1,q2,q3,q4,q11⟩,q5,q6,q7,q8,q9,q10⟩:=ha
 refine⟨⟨?_,?_,q3,?_,q11⟩,q5,?_,q7,q8,q9,q10⟩
 ·show 0<=a.gen+1/\a.gen+1<=4294967295;omega
 ·show 0<=a.epoch+1/\a.epoch+1<=4294967295;omega
 ·show 0<=a.seq+n - 1/\a.seq+n - 1<=4294967295;omega
 ·show a.seq - 1<=a.seq+n - 1;omega
def AO (a:An) (t:List Tx):Stt:=⟨a,t,false,0,0,0,0, []⟩
def L_ (g:Geo) (a:An) (t:List Tx) (d:Dk):Dk × Int × Stt:=
 if a.gen=4294967295\/a.epoch=4294967295 then (d,14,st0) else
 let q:=d.putAll (AD g (DL a t.length))
 if q.2.2 then (q.1,8,st0) else if q.2.1=0 then (q.1,14,st0) else (q.1,0,AO (DL a t.length) t)
def Ma (g:Geo) (a:An) (q:List Tx × List Wr × Int) (d:Dk):Dk × Int × Stt:=
 if q.2.2≠0 then (d,q.2.2,st0) else
 if (d.mend q.2.1).2 then ((d.mend q.2.1).1,8,st0) else L_ g a q.1 (d.mend q.2.1).1
def IW (g:Geo) (a:An) (d:Dk):Dk × Int × Stt:=
 if d.live (2*g.sl.toNat) then Ma g a (Ej g a (By d (BV g 0)) (By d (BV g 1))) (d.adv (2*g.sl.toNat)) else (d.adv (2*g.sl.toNat),8,st0)
def Dj (g:Geo) (d:Dk):Dk × Int × Stt:=
 if d.live g.an.toNat then
  match GL g (By d (Dy g)) with
  | none=>(d.adv g.an.toNat,11,st0)
  | some (a,_)=>IW g a (d.adv g.an.toNat)
 else (d.adv g.an.toNat,8,st0)
theorem UV {g:Geo} {x:Gt} {i:Int} {a:An} (hg:Bt g=true) (h:EN g x i=some a):Bg g a=true:=by
 unfold EN at h
 split at h
 ·cases hR:Fm g (Cv x.bytes) with
  | none=>rw [hR] at h;cases h
  | some b=>
   rw [hR] at h
   simp only at h
   split at h
   ·cases h;exact(QZ hg hR).1
   ·cases h
 ·cases h
theorem J6 {g:Geo} {l:List Gt} (hg:Bt g=true):∀ (k:Nat) {a:An} {j:Nat},Fo g l k=some (a,j)->Bg g a=true
 | 0,a,j,h=>by cases h
 | k+1,a,j,h=>by
  rw [IS,P5] at h
  cases hS:EN g (l.getD k ⟨0, []⟩) (k:Nat) with
  | none=>rw [hS] at h;exact J6 hg k h
  | some b=>
   have hb:=UV hg hS
   rw [hS] at h
   cases hP:Fo g l k with
   | none=>rw [hP] at h;cases h;exact hb
   | some q=>
    obtain⟨c,i⟩:=q
    rw [hP] at h
    simp only at h
    split at h
    ·cases h;exact hb
    ·cases h;exact J6 hg k hP
theorem Ik {d:Dk} (h:DkOk d) (l:List Int):∀ x∈By d l,x.bytes.length<=100000:=by
 intro x hx
 simp only [By,AR] at hx
 obtain⟨a,_,rfl⟩:=hx
 have:=TO h a
 show (d.got a).1.length<=_
 omega
theorem LD {g:Geo} {a:An} {x y:List Gt} {n:Nat} (hg:Bt g=true) (ha:Bg g a=true) (hx:(x.length:Int)=g.sl) (hy:(y.length:Int)=g.sl) (hn:(n:Int)=Av g) (h:(Ej g a x y).2.2=0):(∀ w∈(Ej g a x y).2.1,Qx n w)/\(Ej g a x y).2.1.length<=900:=by
 have e:Jz g a x y=Ej g a x y:=by rw [Jz,if_pos (by rw [hg,ha];rfl),if_pos ⟨hx,hy⟩]
 have hl:=QF (g:=g) (a:=a) (x:=x) (y:=y)
 rw [e] at hl
 obtain⟨g1,g2,g3,g4,g5⟩:=As.1 hg
 have hc:=Et hg
 refine⟨fun w hw=>?_,hl⟩
 obtain⟨_,_,h3,_⟩:=QG (l:=(Ej g a x y).1) (w:=(Ej g a x y).2.1) (e.trans (by rw [<-h]))
 obtain⟨p1,p2⟩:=h3 w hw
 unfold Z2 at p1
 exact⟨by omega,p2⟩
theorem Zf {m:Nat} {i:Nat} (hi:Nat.blt i m=true) (h:Nat.ble 3 m=true):∀ z∈ [0,1,2,i],z<m:=fun z hz=>by
 have:=Ag h
 have:=Ag hi
 simp at hz
 omega
theorem ACalls.pre {P:Program} {q:Bool} {f:FuncId} {args:List AV} {H H':List AB} {K:AV->List AB->Prop} (h:ConvH H H') (k:ACalls P q f args H' K):ACalls P q f args H K:=by
 refine⟨k.go,fun w0 M0 c us hs hr=>?_⟩
 obtain⟨c1,e1,s1,x1⟩:=h w0 M0 c hs
 have:=k.calls w0 M0 c1 us s1 (RdL.ext _ x1 hr)
 rw [e1] at this
 refine this.mono ?_
 rintro e w' ⟨v,c',r,H2,rfl,rfl,q1,q2,q3,q4,q5⟩
 exact⟨v,c',r,H2,rfl,rfl,q1,q2,x1.trans q3,q4,q5⟩
def zh:=@ACalls.pre
theorem Pi {es:List (List AV)} {i m:Nat} {e:List AV} (h:∀ x∈es,AV.ltL x 0=true) (he:AV.ltL e m=true):AV.ltL (es.set i e).flatten m=true:=by
 rw [Dw]
 intro x hx
 obtain⟨y,hy,hx'⟩:=List.mem_flatten.1 hx
 rcases Cm hy with hy | rfl
 ·exact AV.lt_mono x (Aj _) (Dw.1 (h y hy) x hx')
 ·exact Dw.1 he x hx'
theorem Nk {es:List (List AV)} {i:Nat} {e:List AV} {f:Nat->Nat} (h:∀ x∈es,AV.ltL x 0=true) (he:AV.renL f e=e):(es.set i e).map (AV.renL f)=es.set i e:=by
 rw [CA,he]
 congr 1
 conv=>rhs;rw [<-List.map_id es]
 refine CD fun x hx=>?_
 exact AV.renL_id x (h x hx)
theorem Yv (l:List Tx):∀ x∈l.map DH,AV.ltL x 0=true:=by
 intro x hx
 obtain⟨t,_,rfl⟩:=AR.1 hx
 rfl
def Yw (t:Tx) (k:Nat):List AV:= [.v (.int .i64 t.seq), .v (.int .i64 t.pos), .v (.int .i64 t.n), .ow k t.images.length]
theorem Xn {k n:Nat} {s:AV} (l:List Tx):(l.map DH).map (List.map (AV.slIn k n s))=l.map DH:=by
 rw [List.map_map]
 exact CD fun t _=>rfl
theorem UR (l:List Tx) (k:Nat) (t:Tx) (s:AV):((l.map DH).set k (Yw t 1)).map (List.map (AV.slIn 1 (t.images.map E8).length s))=(l.map DH).set k [.v (.int .i64 t.seq), .v (.int .i64 t.pos), .v (.int .i64 t.n),s]:=by
 rw [CA,Xn]
 congr 1
 simp [Yw,AV.slIn]
theorem Ts {l:List Tx} {k:Nat} {t:Tx} (hk:k<l.length) (ht:t=l.getD k ⟨0,0,0, []⟩):ConvH [.rowo 45 4 ((l.map DH).set k (Yw t 1)) 2, .row 51 3 (t.images.map E8)] [.row 45 4 (l.map DH), .dead]:=by
 refine(ConvH.sealIn (H:= [.rowo 45 4 ((l.map DH).set k (Yw t 1)) 2, .row 51 3 (t.images.map E8)]) 0 1 rfl rfl (UR l k t _)).trans ?_
 refine(ConvH.row (k:=0) rfl (Pi (Yv l) rfl)).trans ?_
 refine zB (k:=0) (es':=l.map DH) rfl (by simp) fun i=>?_
 refine GG (f:=DH) (d:=(⟨0,0,0, []⟩:Tx)) hk ?_ i
 rw [<-ht]
 exact⟨fun _ _ h=>h,fun _ _ h=>h,fun _ _ h=>h,Bf (f:=E8) t.images (Ab _) rfl,tv⟩
theorem Sj (l:List Tx) (hl:l.length<=1000000) (hi:∀ t∈l,t.images.length<=1000000/\∀ x∈t.images,x.bytes.length<=1000000000):Fn Tryz.prog 88 [Di l] fun r=>r=Di l:=by
 have hc:=Nb l (by omega)
 refine zT Tryz.func88 rfl ?_
 conv=>whnf
 refine zU hc rfl ?_
 rintro _ _ ⟨rfl,rfl⟩
 conv=>whnf
 refine zV Nat (fun k=>([(0, .ow 0 l.length),(9, .v (.int .i64 l.length)),(10, .v (.int .i64 k))], [.row 45 4 (l.map DH)])) (fun k=>k<=l.length) (fun k=>l.length - k) 0 (Aj _)
  (zR (s:= [0]) ⟨⟨rfl,rfl,rfl,tv⟩,⟨rfl,tv⟩,rfl,rfl,rfl,rfl,rfl⟩) ?_
 intro k hk
 conv=>whnf
 refine A3 (fun h6=>?_) (fun h6=>?_) <;> (repeat rw [Ac] at h6) <;> conv=>whnf
 ·have hk':k<l.length:=by omega
  have hm:=hi _ (A9 (d:=(⟨0,0,0, []⟩:Tx)) hk')
  have hE:(l.map DH).getD (k:Int).toNat []=DH (l.getD k ⟨0,0,0, []⟩):=by rw [Ac];exact Bn hk'
  have ho:=TC (l.getD k ⟨0,0,0, []⟩).images (by omega)
  repeat' (refine zX ?_;conv=>whnf)
  refine⟨⟨by omega,by omega⟩,?_⟩
  conv=>whnf
  refine Ae ⟨rfl,(Ab _).symm,by rw [Ac];exact hk'⟩ ?_
  conv=>whnf
  rw [hE]
  conv=>whnf
  refine zh (ConvH.rowo (k:=0) rfl) ?_
  refine zU ho rfl ?_
  rintro _ _ ⟨rfl,rfl⟩
  refine⟨⟨by omega,by omega⟩,?_⟩
  conv=>whnf
  refine Ae ⟨rfl,(Ab _).symm,by rw [Ac];exact hk'⟩ ?_
  conv=>whnf
  rw [hE]
  refine⟨⟨by omega,by omega⟩,?_⟩
  conv=>whnf
  refine Ae ⟨rfl,by rw [Bh,Ab],by rw [Ac];exact hk'⟩ ?_
  conv=>whnf
  rw [BW (by rw [Ac,Ab];exact hk')]
  conv=>whnf
  obtain⟨t,ht⟩:∃ t,t=l.getD k ⟨0,0,0, []⟩:=⟨_,rfl⟩
  rw [<-ht] at hm hE |-
  have hS:∀ x∈l.map DH,AV.ltL x 0=true:=Yv l
  have hro:AV.ltL ((l.map DH).set k (Yw t 1)).flatten 2=true:=Pi hS rfl
  refine zV Nat (fun j=>([(0, .ow 0 l.length),(3, .v (.int .i64 k)),(9, .v (.int .i64 l.length)),(10, .v (.int .i64 k)),(27, .ow 1 t.images.length),(28, .v (.int .i64 t.images.length)),(29, .v (.int .i64 j))], [.rowo 45 4 ((l.map DH).set k (Yw t 1)) 2, .row 51 3 (t.images.map E8)])) (fun j=>j<=t.images.length) (fun j=>t.images.length - j) 0 (Aj _)
   (zR (s:= [0,1]) ⟨⟨rfl,rfl,rfl,rfl,rfl,rfl,rfl,tv⟩,⟨⟨hro,_,by rw [Nk hS rfl];rfl⟩,rfl,tv⟩,rfl,rfl,rfl,rfl,rfl⟩) ?_
  intro j hj
  conv=>whnf
  refine A3 (fun h7=>?_) (fun h7=>?_) <;> (repeat rw [Ac] at h7) <;> conv=>whnf
  ·have hj':j<t.images.length:=by omega
   have hF:(t.images.map E8).getD (j:Int).toNat []=E8 (t.images.getD j ⟨0,0, []⟩):=by rw [Ac];exact Bn hj'
   have hG:((l.map DH).set k (Yw t 1)).getD (k:Int).toNat []=Yw t 1:=by rw [Ac];exact BW (by rw [Ab];exact hk')
   have b1:=Dc (t.images.getD j ⟨0,0, []⟩).bytes (hm.2 _ (A9 hj'))
   refine⟨⟨by omega,by omega⟩,?_⟩
   conv=>whnf
   refine Ae ⟨rfl,(Ab _).symm,by rw [Ac];exact hj'⟩ ?_
   conv=>whnf
   rw [hF]
   conv=>whnf
   apply zW (0) tys_ok mixed (.one 0 (.one 1 (.one 2 (.one 3 (.one 4 (.one 5 (.one 6 (.one 7 (.one 8 (.one 9 (.one 10 (.one 11 .fin)))))))))))) (by kernel_rfl)
   conv=>whnf
   try (refine tI ?_;conv=>whnf)
   try (first | (refine Ae ⟨rfl,by rw [Bh,Ab],by rw [Ac];exact hk'⟩ ?_;(conv=>whnf);rw [hG]) | skip;conv=>whnf)
   try (first | (refine Ae ⟨rfl,by rw [Bh,Ab],by rw [Ac];exact hk'⟩ ?_;(conv=>whnf);rw [hG]) | skip;conv=>whnf)
   refine z_ b1 ?_
   conv=>whnf
   try (refine tI ?_;conv=>whnf)
   try (refine tS ?_;conv=>whnf)
   (first | rw [hF] | skip)
   conv=>whnf
   all_goals refine⟨j+1,hj',by omega,zD (zK (zB (k:=1) rfl (es':=t.images.map E8) (by simp) ?_)) (s:= [0,1]) ⟨⟨rfl,rfl,rfl,rfl,rfl,rfl,AS (by omega),tv⟩,⟨⟨hro,_,by rw [Nk hS rfl];rfl⟩,rfl,tv⟩,rfl,rfl,rfl,rfl,rfl⟩⟩
   all_goals
    intro i
    rw [Ac]
    refine GG (f:=E8) (d:=(⟨0,0, []⟩:Img)) hj' ?_ i
    exact⟨fun _ _ h=>h,fun _ _ h=>h,fun _ _ h=>h,tv⟩
  ·exact⟨k+1,hk',by omega,zD (zK (Ts hk' ht)) (s:= [0]) ⟨⟨rfl,rfl,AS (by omega),tv⟩,⟨rfl,tv⟩,rfl,rfl,rfl,rfl,rfl⟩⟩
 ·refine Ae (Ab _).symm ?_
  exact⟨Di l,Bf (f:=DH) l rfl rfl,rfl⟩
structure StSm (s:Stt):Prop where
 h:s.a.homes.length<=4/\∀ h∈s.a.homes,h.places.length<=1000000
 l:s.a.label.size<=24
 t:s.txns.length<=30/\∀ t∈s.txns,t.images.length<=30/\∀ i∈t.images,i.bytes.length<=59
 o:s.lost.length<=1000000
theorem st0_sm:StSm st0:=⟨⟨by simp [st0,an0],by simp [st0,an0]⟩,by show (0:Nat)<=24;omega,⟨by simp [st0],by simp [st0]⟩,by simp [st0]⟩
theorem MJ (s:Stt) (h:StSm s):Fn Tryz.prog 37 [.ag (Fi s)] fun r=>r = .ag (Fi s):=by
 have c1:=WM s.a (by have:=h.h.1;omega) h.h.2
 have c2:=Sj s.txns (by have:=h.t.1;omega) (fun t ht=>⟨by have:=(h.t.2 t ht).1;omega,fun x hx=>by have:=(h.t.2 t ht).2 x hx;omega⟩)
 have c3:=Mk s.lost (by have:=h.o;omega)
 refine zT Tryz.func37 rfl ?_
 conv=>whnf
 apply zW (0) tys_ok mixed (.one 0 (.one 1 (.one 3 (.one 4 (.one 6 (.one 7 (.one 8 (.one 2 (.one 10 (.one 5 (.one 9 (.one 11 (.one 12 (.one 13 (.one 14 (.one 15 (.one 16 .fin))))))))))))))))) (by kernel_rfl)
 conv=>whnf
 refine z_ c1 ?_
 conv=>whnf
 refine z_ c2 ?_
 conv=>whnf
 (refine zU c3 rfl ?_;rintro _ _ ⟨rfl,rfl⟩)
 conv=>whnf
 try (refine tS ?_;conv=>whnf)
 try (refine tS ?_;conv=>whnf)
 try (refine tS ?_;conv=>whnf)
 refine Ae (Ab _).symm ?_
 exact⟨.ag (Fi s),Ba ⟨ri,ri,ri,ri,ri,ri,ri,ri,ri,ri,ri,ri,ri,Ss rfl rfl,tv⟩,rfl⟩
@[reducible] def bwD (g:Geo) (s:Stt) (d:Dk):List AB:= [.box 107 (Z5 g (.bp 1 0) s), .box 113 (HK (.ow 2 d.cells.length) (.ow 4 d.cache.length) d.reqs d.left), .dead, .dead, .dead]
theorem ML (g:Geo) (s:Stt) (d:Dk) (h:DkOk d):ACalls Tryz.prog false 36 [.bp 0 0] (bwG g s d) fun r H=>r = .ag (Fq d)/\H=bwD g s d:=by
 have ht:=W0 d (by have:=h.n;omega) (by have:=h.m;omega) (fun c hc=>by have:=(h.c c hc).2;omega) (fun w hw=>by have:=(h.w w hw).2;omega)
 refine zS tys_ok Tryz.func36 rfl rfl (Ag rfl) ?_
 conv=>whnf
 refine zM ht.go ?_
 refine Ae (Ab _).symm ?_
 refine Ae (Ab _).symm ?_
 conv=>whnf
 refine zY [.ag (Fq d)] ⟨Ba ⟨Bf (f:=BE) d.cells rfl rfl,Bf (f:=E5) d.cache rfl rfl,ri,ri,tv⟩,tv⟩ ?_
 refine z_ ht ?_
 exact⟨_, .ag (Fq d),bwD g s d,fun _ _ h=>h,zR (s:= [0,1,2,3,4]) ⟨⟨rfl,tv⟩,⟨rfl,rfl,tv,tv,tv,tv⟩,rfl,rfl,rfl,rfl,rfl⟩,rfl,rfl⟩
theorem US (g:Geo) (d:Dk) (hg:Bt g=true) (h1:d.cells.length<=1000000) (h2:d.cache.length<=1000000):Fn Tryz.prog 47 [.ag (AY g), .ag (Fq d)] fun r=>r = .v (.bool (MU d&&decide ((d.cells.length:Int)=Av g))):=by
 have c1:=TQ g hg
 have c2:=Ue d h1 h2
 refine zT Tryz.func47 rfl ?_
 conv=>whnf
 refine z_ c1 ?_
 conv=>whnf
 refine z_ c2 ?_
 conv=>whnf
 cases hk:MU d with
 | false=>
  exact⟨_,ri,rfl⟩
 | true=>
  exact⟨_,ri,rfl⟩
def ze (n:Int):AV:= .v (.int .i64 n)
def nilV:AV:= .v (.slice none 0 0)
theorem st0_sub:SubL [ze 0,ze 0,ze 0,ze 0,ze 0, .v (.string ⟨#[]⟩),nilV,nilV, .v (.bool false),ze 0,ze 0,ze 0,ze 0,nilV] (Fi st0):=
 ⟨fun _ _ h=>h,fun _ _ h=>h,fun _ _ h=>h,fun _ _ h=>h,fun _ _ h=>h,fun _ _ h=>h,Br 3 _,Br 4 _,fun _ _ h=>h,fun _ _ h=>h,fun _ _ h=>h,fun _ _ h=>h,fun _ _ h=>h,Br 1 _,tv⟩
theorem Rj {g:Geo} {d:Dk} (h:(Dj g d).2.1≠0):(Dj g d).2.2=st0:=by
 unfold Dj at h |-
 split
 ·rename_i hl
  rw [if_pos hl] at h
  split
  ·rfl
  ·rename_i a j hp
   rw [hp] at h
   simp only at h
   unfold IW at h |-
   split
   ·rename_i hl2
    rw [if_pos hl2] at h
    unfold Ma at h |-
    split
    ·rfl
    ·rename_i h3
     rw [if_neg h3] at h
     split
     ·rfl
     ·rename_i h4
      rw [if_neg h4] at h
      unfold L_ at h |-
      split
      ·rfl
      ·rename_i h5
       rw [if_neg h5] at h
       simp only at h |-
       split
       ·rfl
       ·rename_i h6
        rw [if_neg h6] at h
        split
        ·rfl
        ·rename_i h7
         rw [if_neg h7] at h
         exact absurd rfl h
   ·rfl
 ·rfl
theorem Tz {g:Geo} {d:Dk} (hg:Bt g=true) (h:DkOk d) (hn:(d.cells.length:Int)=Av g):DkOk (Dj g d).1/\(Dj g d).1.cells.length=d.cells.length:=by
 have ha:=h.adv g.an.toNat
 have hs:=(Gs g.an.toNat d).1
 have hpo:=fun {a j}=>J6 (g:=g) (l:=By d (Dy g)) hg (By d (Dy g)).length (a:=a) (j:=j)
 have hpo:∀ {a j},GL g (By d (Dy g))=some (a,j)->Bg g a=true:=hpo
 unfold Dj
 split
 ·cases hP:GL g (By d (Dy g)) with
  | none=>exact⟨ha,by rw [hs]⟩
  | some q=>
   obtain⟨a,j⟩:=q
   have hao:=hpo hP
   simp only
   obtain⟨g1,g2,g3,g4,g5⟩:=As.1 hg
   generalize d.adv g.an.toNat=d1 at ha hs |-
   have ha2:=ha.adv (2*g.sl.toNat)
   have hs2:=(Gs (2*g.sl.toNat) d1).1
   have hx1:(By d1 (BV g 0)).length=g.sl.toNat:=by rw [Eb,F0]
   have hx2:(By d1 (BV g 1)).length=g.sl.toNat:=by rw [Eb,F0]
   have hlast:=LE (x:=By d1 (BV g 0)) (y:=By d1 (BV g 1)) hg hao
   have hin:=LD (x:=By d1 (BV g 0)) (y:=By d1 (BV g 1)) (n:=d.cells.length) hg hao (by omega) (by omega) hn
   unfold IW
   split
   ·generalize Ej g a (By d1 (BV g 0)) (By d1 (BV g 1))=S at hlast hin |-
    generalize d1.adv (2*g.sl.toNat)=d2 at ha2 hs2 |-
    have hn2:d2.cells.length=d.cells.length:=by rw [hs2,hs]
    unfold Ma
    split
    ·exact⟨ha2,hn2⟩
    ·rename_i he
     have he:S.2.2=0:=by simpa using he
     have hin:=hin he
     have hdm:DkOk (d2.mend S.2.1).1/\(d2.mend S.2.1).1.cells.length=d.cells.length:=by
      unfold Dk.mend
      split
      ·exact⟨ha2,hn2⟩
      ·have:=GK ha2 (l:=S.2.1) (by rw [hn2];exact hin.1)
       exact⟨this.1,this.2.trans hn2⟩
     generalize (d2.mend S.2.1)=M at hdm |-
     split
     ·exact hdm
     ·unfold L_
      split
      ·exact hdm
      ·rename_i hmx
       have hna:=LZ (n:=S.1.length) hao (fun e=>hmx (.inl e)) (fun e=>hmx (.inr e)) (hlast he).2
       have hpa:=GK hdm.1 (l:=AD g (DL a S.1.length)) (Jg hg hna (by rw [hdm.2];exact hn))
       rw [hdm.2] at hpa
       simp only
       split
       ·exact hpa
       ·split <;> exact hpa
   ·exact⟨ha2,by rw [hs2,hs]⟩
 ·exact⟨ha,by rw [hs]⟩
theorem ConvF.cap {fr:Fr} {H H':List AB} (i k:Nat) {y:AV} (hx:fget fr i = .bp k 0) (h:capK [.bp k 0] H fun l H2=>l=[y]/\H2=H'):ConvF fr H ((i,y)::fr) H':=fun _ _ c _ a hs hf=>by
 have hr:RdL [.bp k 0] c [a.tmps.getD i undef]:=by
  simp only [RdL]
  exact⟨_,_,rfl,hx ▸ hf.get i,rfl⟩
 obtain⟨l',H1,c1,⟨rfl,rfl⟩,e1,s1,x1,r⟩:=capK_sound hs hr h
 simp only [RdL] at r
 obtain⟨u,us,e,r1,rfl⟩:=r
 injection e with e _
 subst e
 exact⟨c1,e1,s1,(hf.ext x1).cons i _ r1,x1⟩
def C5 (g:Geo):List Tx->Int->Int->Int->Bool
 | [],_,_,_=>true
 | t::r,seq,pos,left=>(decide (t.seq=seq)&&(decide (t.seq<=4294967295)&&(decide (t.pos=pos)&&(decide (2<=t.n)&&(decide (t.n<=left)&&(decide (t.n=t.images.length+1)&&t.images.all (B9 g)))))))&&C5 g r (seq+1) ((pos+t.n).tmod g.sl) (left - t.n)
theorem Vs (g:Geo) (x:Img) (hx:x.bytes.length<=100000):Fn Tryz.prog 103 [.ag (E8 x), .rp (AY g)] fun r=>r = .v (.bool (!B9 g x)):=by
 have h:=TF g x hx
 refine zT Tryz.func103 rfl ?_
 conv=>whnf
 refine z_ h ?_
 conv=>whnf
 cases B9 g x with
 | true=>exact⟨_,ri,rfl⟩
 | false=>exact⟨_,ri,rfl⟩
theorem YS (l:List Img) (g:Geo) (hb:∀ x∈l,x.bytes.length<=100000) (hl:l.length<=1000000):Fn Tryz.prog 176 [Eg l, .fn 103 [.rp (AY g)]] fun r=>r = .v (.int .i64 (Xa (fun x=>!B9 g x) l)):=by
 refine zT Tryz.func176 rfl ?_
 conv=>whnf
 refine zP Nat (fun k=>([(0,Eg l),(1, .fn 103 [.rp (AY g)]),(7, .v (.int .i64 l.length)),(8, .v (.int .i64 k))], [])) (fun k=>k<=l.length/\(l.take k).any (fun x=>!B9 g x)=false) (fun k=>l.length - k) 0 ⟨Aj _,by simp⟩ ⟨[],tv,⟨rfl,rfl,rfl,rfl,tv⟩,tv,rfl,rfl,rfl⟩ ?_
 rintro k ⟨hk,hI⟩
 conv=>whnf
 refine Ao (fun h2=>?_) (fun h2=>?_) <;> simp at h2 <;> conv=>whnf
 ·refine⟨by first | omega | (refine⟨rfl,?_,?_⟩ <;> first | omega | (simp only [Ab];done) | (simp only [Ab];omega)) | (simp only [Ab];omega),?_⟩
  conv=>whnf
  refine zI (Vs g (l.getD k ⟨0,0, []⟩) (hb _ (A9 h2))) rfl ?_
  rintro _ rfl
  conv=>whnf
  refine Ao (fun h3=>?_) (fun h3=>?_) <;> conv=>whnf
  ·exact⟨_,ri,by rw [Lo (d:=⟨0,0, []⟩) h2 hI (by first | exact h3 | (rw [Ac] at h3;exact h3) | simpa using h3)]⟩
  ·refine⟨k+1,⟨by omega,FC (d:=⟨0,0, []⟩) h2 hI (by first | exact h3 | (rw [Ac] at h3;exact h3) | simpa using h3)⟩,by omega, [],tv,⟨rfl,rfl,rfl,AS (by omega),tv⟩,tv,rfl,rfl,rfl⟩
 ·exact⟨_,ri,by rw [A4 h2] at hI;rw [JD hI]⟩
theorem YT (l:List Img) (g:Geo) (hb:∀ x∈l,x.bytes.length<=100000) (hl:l.length<=1000000):Fn Tryz.prog 105 [Eg l, .fn 103 [.rp (AY g)]] fun r=>r = .v (.bool (l.any (fun x=>!B9 g x))):=by
 refine zT Tryz.func105 rfl ?_
 conv=>whnf
 refine z_ (YS l g hb hl) ?_
 exact⟨_,ri,by rw [OD]⟩

theorem Ov (g:Geo) (a:An) (l:List Tx) (hl:a.label.size<=1000000) (hh:a.homes.length<=1000000) (hn:l.length<=1000000) (hi:∀ t∈l,t.images.length<=1000000/\∀ x∈t.images,x.bytes.length<=100000):Fn Tryz.prog 48 [.ag (AY g), .ag (Ed a),Di l] fun r=>r = .v (Gp ((Bt g&&Bg g a)&&C5 g l a.seq a.pos g.sl)):=by
 have hA:=K7 g a hl hh
 cases hga:Bt g&&Bg g a with
 | false=>
  rw [hga] at hA
  rw [Dv]
  refine zT Tryz.func48 rfl ?_
  conv=>whnf
  refine z_ hA ?_
  exact⟨_,ri,rfl⟩
 | true=>
  rw [hga] at hA
  rw [BG]
  obtain⟨hg,ha⟩:=Bool.and_eq_true_iff.1 hga
  obtain⟨g1,g2,g3,g4,g5⟩:=As.1 hg
  have hp:=Gr ha
  refine zT Tryz.func48 rfl ?_
  conv=>whnf
  refine z_ hA ?_
  conv=>whnf
  refine zN tys_ok mixed (by kernel_rfl) ?_
  conv=>whnf
  refine zV (Nat × Int × Int × Int) (fun x=>([(2,Di l),(3, .rp (AY g)),(8, .v (.int .i64 x.2.1)),(9, .v (.int .i64 x.2.2.1)),(10, .v (.int .i64 x.2.2.2)),(26,Di l),(27, .v (.int .i64 l.length)),(28, .v (.int .i64 x.1))], []))
   (fun x=>x.1<=l.length/\(0<=x.2.1/\x.2.1<g.sl)/\(0<=x.2.2.1/\x.2.2.1<=4294967296)/\(0<=x.2.2.2/\x.2.2.2<=30)/\C5 g l a.seq a.pos g.sl=C5 g (l.drop x.1) x.2.2.1 x.2.1 x.2.2.2) (fun x=>l.length - x.1) (0,a.pos,a.seq,g.sl) ⟨Aj _,by show 0<=a.pos/\a.pos<g.sl;omega,by show 0<=a.seq/\a.seq<=4294967296;omega,by show 0<=g.sl/\g.sl<=30;omega,rfl⟩
   ?_ ?_
  ·exact zD (ConvF.cap 3 0 (y:= .rp (AY g)) rfl (by (conv=>whnf);exact⟨rfl,rfl⟩)) (s:= []) ⟨⟨rfl,rfl,rfl,rfl,rfl,rfl,rfl,rfl,tv⟩,tv,rfl,rfl,rfl,rfl,rfl⟩
  rintro⟨k,pos,seq,left⟩ ⟨hk,b1,b2,b3,hI⟩
  simp only at hk b1 b2 b3 hI |-
  conv=>whnf
  refine A3 (fun h6=>?_) (fun h6=>?_) <;> (repeat rw [Ac] at h6) <;> conv=>whnf
  ·have hk':k<l.length:=by omega
   have hm:=hi _ (A9 (d:=(⟨0,0,0, []⟩:Tx)) hk')
   have hdr:l.drop k=l.getD k ⟨0,0,0, []⟩::l.drop (k+1):=by
    rw [Aa,Af hk'];exact A_ hk'
   rw [hdr,C5] at hI
   repeat' (refine zX ?_;conv=>whnf)
   refine⟨⟨by omega,by omega⟩,?_⟩
   conv=>whnf
   rw [Ac]
   generalize l.getD k ⟨0,0,0, []⟩=t at hm hI |-
   have hcf:=YT t.images g hm.2 hm.1
   rw [show (t.images.any fun x=>!B9 g x) = !t.images.all (B9 g) by rw [Cc,Bool.not_not]] at hcf
   have wn:IntKind.i64.wrap ((t.images.length:Int)+1)=t.images.length+1:=wi (by omega)
   generalize hAll:t.images.all (B9 g)=Q at hcf hI
   generalize hC:(decide (t.seq=seq)&&(decide (t.seq<=4294967295)&&(decide (t.pos=pos)&&(decide (2<=t.n)&&(decide (t.n<=left)&&(decide (t.n=t.images.length+1)&&Q))))))=C at hI
   clear hAll hm hi hdr hA
   conv=>whnf
   repeat' (refine zX ?_;conv=>whnf)
   repeat' (first | (refine Ao (fun h=>?_) (fun h=>?_) <;> (try simp at h) <;> conv=>whnf) | (refine zX ?_;conv=>whnf) | (refine z_ hcf ?_;conv=>whnf))
   all_goals try (exact⟨_,ri,by rw [hI,show C=false by (rw [<-hC,<-BU];clear hI hC hcf;simp [*] <;> omega)];rfl⟩)
   have hC1:C=true:=by rw [<-hC];clear hI hC hcf;simp [*] <;> omega
   rw [hC1,BG] at hI
   have wn':t.n=t.images.length+1:=by omega
   have w1:IntKind.i64.wrap (pos+t.n)=pos+t.n:=wi (by omega)
   have w2:IntKind.i64.wrap (seq+1)=seq+1:=wi (by omega)
   have w3:IntKind.i64.wrap (left - t.n)=left - t.n:=wi (by omega)
   apply zW (0) tys_ok mixed (.one 0 (.one 1 (.one 2 (.one 3 (.one 4 (.one 5 (.one 6 (.one 7 (.one 8 (.one 9 (.one 10 (.one 11 (.one 12 (.one 13 (.one 14 (.one 15 .fin)))))))))))))))) (by kernel_rfl)
   conv=>whnf
   try (refine tI ?_;conv=>whnf)
   rw [w1,w2,w3]
   have hq1:=Bq g.sl (show 0<=pos+t.n by omega)
   have hq2:=Bb (pos+t.n) (show 0<g.sl by omega)
   exact⟨(k+1,(pos+t.n).tmod g.sl,seq+1,left - t.n),⟨hk',⟨hq1,hq2⟩,(show 0<=seq+1/\seq+1<=4294967296 by omega),(show 0<=left - t.n/\left - t.n<=30 by omega),hI⟩,(show l.length - (k+1)<l.length - k by omega),zR (s:= []) ⟨⟨rfl,rfl,rfl,rfl,rfl,rfl,rfl,AS (by omega),tv⟩,tv,rfl,rfl,rfl,rfl,rfl⟩⟩
  ·have ek:k=l.length:=by omega
   subst ek
   exact⟨_,ri,by rw [hI,List.drop_length];rfl⟩
def Hb (g:Geo):Int:=1+g.sl+g.z*(2+g.d)
theorem Pa {g:Geo} (hg:Bt g=true):18<=Hb g/\Hb g<=55/\(3<=g.z*(2+g.d)/\g.z*(2+g.d)<=24):=by
 obtain⟨g1,g2,g3,g4,g5⟩:=As.1 hg
 have h1:g.z*(2+g.d)<=4*6:=Int.mul_le_mul (by omega) (by omega) (by omega) (by omega)
 have h2:1*3<=g.z*(2+g.d):=Int.mul_le_mul (by omega) (by omega) (by omega) (by omega)
 unfold Hb
 omega
theorem UG (g:Geo) (hg:Bt g=true):Fn Tryz.prog 49 [.ag (AY g)] fun r=>r = .v (.int .i64 (Hb g)):=by
 obtain⟨g1,g2,g3,g4,g5⟩:=As.1 hg
 have hu:=Pa hg
 have w:IntKind.i64.wrap (IntKind.i64.wrap (1+g.sl)+IntKind.i64.wrap (g.z*IntKind.i64.wrap (2+g.d)))=Hb g:=by
  rw [wi (n:=2+g.d) (by omega),wi (n:=g.z*(2+g.d)) (by omega),wi (n:=1+g.sl) (by omega)]
  exact wi (by unfold Hb at hu;omega)
 refine zT Tryz.func49 rfl ?_
 exact⟨_,ri,by rw [w]⟩
def Mc (n:Int) (l:List Int) (i:Nat):Bool:=decide (0<=l.getD i 0)&&(decide (l.getD i 0<n)&&(decide (i=0) || decide (l.getD (i - 1) 0<l.getD i 0)))
def Me (n:Int) (l:List Int):Bool:=(List.range l.length).all (Mc n l)
theorem T1 {n:Int} {l:List Int} {k:Nat} (h:(List.range k).all (Mc n l)=true) (e:Mc n l k=true):(List.range (k+1)).all (Mc n l)=true:=by
 rw [B5,Df,h,BG,Bd,e];rfl
theorem XQ {n:Int} {l:List Int} {k:Nat} (hk:k<l.length) (e:Mc n l k=false):Me n l=false:=by
 rw [Me,<-BU,Aw]
 intro h
 rw [h k (AU.2 hk)] at e
 cases e
def Fe (g:Geo) (s:Stt):Bool:=Me (g.z*g.d) s.lost&&(decide (0<=s.found)&&(decide (0<=s.fixed)&&decide (0<=s.moved)))
def aF (s:Stt):List AV:= [.v (.int .i64 s.found), .v (.int .i64 s.fixed), .v (.int .i64 s.moved),iA s.lost]
theorem RG (g:Geo) (s:Stt) (hg:Bt g=true) (hl:s.lost.length<=1000000):Fn Tryz.prog 50 [.ag (AY g), .ag (aF s)] fun r=>r = .v (.bool (Fe g s)):=by
 obtain⟨g1,g2,g3,g4,g5⟩:=As.1 hg
 have hm1:g.z*g.d<=4*4:=Int.mul_le_mul (by omega) (by omega) (by omega) (by omega)
 have hm0:0<=g.z*g.d:=CW (by omega) (by omega)
 have wm:IntKind.i64.wrap (g.z*g.d)=g.z*g.d:=wi (by omega)
 refine zT Tryz.func50 rfl ?_
 conv=>whnf
 refine zV Nat (fun k=>([(2, .bp 0 0),(3, .bp 1 0),(8,iA s.lost),(9, .v (.int .i64 s.lost.length)),(10, .v (.int .i64 k))], [.box 23 (AY g), .box 32 (aF s)])) (fun k=>k<=s.lost.length/\(List.range k).all (Mc (g.z*g.d) s.lost)=true) (fun k=>s.lost.length - k) 0 ⟨Aj _,rfl⟩
  (zR (s:= [0,1]) ⟨⟨rfl,rfl,rfl,rfl,rfl,tv⟩,⟨rfl,rfl,tv⟩,rfl,rfl,rfl,rfl,rfl⟩) ?_
 rintro k ⟨hk,hI⟩
 conv=>whnf
 refine A3 (fun h6=>?_) (fun h6=>?_) <;> (repeat rw [Ac] at h6) <;> conv=>whnf
 ·have hk':k<s.lost.length:=by omega
  have hno:=XQ (n:=g.z*g.d) hk'
  have hyes:=T1 hI (n:=g.z*g.d) (l:=s.lost)
  unfold Mc at hno hyes
  repeat' (refine zX ?_;conv=>whnf)
  refine⟨⟨by omega,by omega⟩,?_⟩
  conv=>whnf
  repeat' (refine zX ?_;conv=>whnf)
  rw [Ac]
  refine A3 (fun q1=>?_) (fun q1=>?_)
  ·conv=>whnf
   exact⟨_,ri,by rw [Fe,hno (by rw [<-BU];simp only [Ad,CH,decide_eq_true_eq];omega),Dv]⟩
  ·conv=>whnf
   rw [wm]
   refine A3 (fun q2=>?_) (fun q2=>?_)
   ·conv=>whnf
    exact⟨_,ri,by rw [Fe,hno (by rw [<-BU];simp only [Ad,CH,decide_eq_true_eq];omega),Dv]⟩
   ·conv=>whnf
    have wk:IntKind.i64.wrap ((k:Int) - 1)=(k:Int) - 1:=wi (by omega)
    refine A3 (fun q3=>?_) (fun q3=>?_)
    ·conv=>whnf
     rw [wk]
     refine⟨⟨by omega,by omega⟩,?_⟩
     conv=>whnf
     rw [show ((k:Int) - 1).toNat=k - 1 by omega]
     refine A3 (fun q4=>?_) (fun q4=>?_)
     ·conv=>whnf
      exact⟨_,ri,by rw [Fe,hno (by rw [<-BU];simp only [Ad,CH,decide_eq_true_eq];omega),Dv]⟩
     ·conv=>whnf
      exact⟨k+1,⟨hk',hyes (by simp only [Ad,CH,decide_eq_true_eq];omega)⟩,by omega,zR (s:= [0,1]) ⟨⟨rfl,rfl,rfl,rfl,AS (by omega),tv⟩,⟨rfl,rfl,tv⟩,rfl,rfl,rfl,rfl,rfl⟩⟩
    ·conv=>whnf
     exact⟨k+1,⟨hk',hyes (by simp only [Ad,CH,decide_eq_true_eq];omega)⟩,by omega,zR (s:= [0,1]) ⟨⟨rfl,rfl,rfl,rfl,AS (by omega),tv⟩,⟨rfl,rfl,tv⟩,rfl,rfl,rfl,rfl,rfl⟩⟩
 ·have ek:k=s.lost.length:=by omega
  have hlo:Me (g.z*g.d) s.lost=true:=by rw [Me,<-ek];exact hI
  refine⟨_,fun _ _ h=>h,?_⟩
  rw [Fe,hlo,BG]
  refine congrArg (fun b=>AV.v (.bool b)) ?_
  rw [CI]
  simp only [Ad,decide_eq_true_eq]
  repeat' split
  all_goals omega
def MT (g:Geo) (d:Dk) (s:Stt):Bool:=Bt g&&((MU d&&decide ((d.cells.length:Int)=Av g))&&(((Bt g&&Bg g s.a)&&C5 g s.txns s.a.seq s.a.pos g.sl)&&(decide (0<=s.cursor)&&(decide (s.cursor<Hb g)&&Fe g s))))
structure StBig (s:Stt):Prop where
 l:s.a.label.size<=1000000
 h:s.a.homes.length<=1000000
 t:s.txns.length<=1000000/\∀ t∈s.txns,t.images.length<=1000000/\∀ x∈t.images,x.bytes.length<=100000
 o:s.lost.length<=1000000
theorem K3 (g:Geo) (d:Dk) (s:Stt) (h1:d.cells.length<=1000000) (h2:d.cache.length<=1000000) (hs:StBig s):Fn Tryz.prog 17 [.ag (AY g), .ag (Fq d), .ag (Fi s)] fun r=>r = .v (Gp (MT g d s)):=by
 have hG:Fn Tryz.prog 46 [.ag (AY g)] fun r=>r = .v (Gp (Bt g)):=ER g.z g.d g.sp g.sl g.an
 unfold MT
 cases hg:Bt g with
 | false=>
  rw [hg] at hG
  refine zT Tryz.func17 rfl ?_
  conv=>whnf
  refine z_ hG ?_
  exact⟨_,ri,rfl⟩
 | true=>
  rw [hg] at hG
  have hz:=US g d hg h1 h2
  have hr:=Ov g s.a s.txns hs.l hs.h hs.t.1 hs.t.2
  rw [hg] at hr
  have hu:=UG g hg
  have hh:=RG g s hg hs.o
  generalize (MU d&&decide ((d.cells.length:Int)=Av g))=Z at hz |-
  generalize ((true&&Bg g s.a)&&C5 g s.txns s.a.seq s.a.pos g.sl)=R at hr |-
  generalize Fe g s=Q at hh |-
  generalize Hb g=U at hu |-
  cases Z with
  | false=>
   refine zT Tryz.func17 rfl ?_
   conv=>whnf
   refine z_ hG ?_
   conv=>whnf
   refine z_ hz ?_
   exact⟨_,ri,rfl⟩
  | true=>
   cases R with
   | false=>
    refine zT Tryz.func17 rfl ?_
    conv=>whnf
    refine z_ hG ?_
    conv=>whnf
    refine z_ hz ?_
    conv=>whnf
    refine z_ hr ?_
    exact⟨_,ri,rfl⟩
   | true=>
    refine zT Tryz.func17 rfl ?_
    conv=>whnf
    refine z_ hG ?_
    conv=>whnf
    refine z_ hz ?_
    conv=>whnf
    refine z_ hr ?_
    conv=>whnf
    refine zN tys_ok mixed (by kernel_rfl) ?_
    conv=>whnf
    refine A3 (fun q1=>?_) (fun q1=>?_)
    ·conv=>whnf
     exact⟨_,ri,by rw [decide_eq_false (by omega)];rfl⟩
    ·conv=>whnf
     refine z_ hu ?_
     conv=>whnf
     refine A3 (fun q2=>?_) (fun q2=>?_)
     ·conv=>whnf
      exact⟨_,ri,by rw [decide_eq_true (p:=0<=s.cursor) (by omega),decide_eq_false (p:=s.cursor<U) (by omega)];rfl⟩
     ·conv=>whnf
      refine z_ hh ?_
      conv=>whnf
      rw [decide_eq_true (p:=0<=s.cursor) (by omega),decide_eq_true (p:=s.cursor<U) (by omega)]
      cases Q with
      | false=>exact⟨_,ri,rfl⟩
      | true=>exact⟨_,ri,rfl⟩



def sumT:List Tx->Int
 | []=>0
 | t::r=>t.n+sumT r
theorem sumT_app:∀ l m:List Tx,sumT (l ++ m)=sumT l+sumT m
 | [],m=>by simp [sumT]
 | t::r,m=>by
  show t.n+sumT (r ++ m)=_
  rw [sumT_app r m,sumT]
  omega
theorem Na {l:List Tx} (h:∀ t∈l,0<=t.n/\t.n<=30):∀ k:Nat,k<=l.length->H4 l k=sumT (l.take k)
 | 0,_=>by simp [H4,sumT]
 | k+1,hk=>by
  have e:l.take (k+1)=l.take k ++ [l.getD k tz]:=by
   rw [Bj,Af (by omega),Aa,Af (by omega)]
   rfl
  have hm:=h _ (A9 (d:=tz) (show k<l.length by omega))
  rw [H4,Na h k (by omega),e,sumT_app,IA,if_pos hm]
  simp [sumT]
theorem SB {l:List Tx} (h:∀ t∈l,0<=t.n/\t.n<=30):Ey l=sumT l:=by
 have:=Na h l.length (Ah _)
 rwa [Ar] at this
theorem SI {p n s q:Int} (hs:0<s) (hp:0<=p) (hn:0<=n) (hq:0<=q):((p+n).tmod s+q).tmod s=(p+(n+q)).tmod s:=by
 have h1:0<=(p+n).tmod s:=Bq _ (by omega)
 rw [Bc (a:=p+n) (by omega)] at h1 |-
 rw [Bc (by omega),Bc (by omega),Int.emod_add_emod,Int.add_assoc]
theorem Xl {l:List Tx} (h:∀ t∈l,0<=t.n/\t.n<=30):0<=sumT l:=by
 induction l with
 | nil=>simp [sumT]
 | cons t r ih=>
  have:=h t (by simp)
  have:=ih fun x hx=>h x (AZ _ hx)
  rw [sumT]
  omega
theorem GH {g:Geo} (hg:Bt g=true):∀ {l:List Tx} {seq pos left:Int},left<=g.sl->C5 g l seq pos left=true->(∀ t∈l,0<=t.n/\t.n<=30)/\sumT l<=max left 0
 | [],_,_,left,_,_=>⟨by simp,by simp [sumT];omega⟩
 | t::r,seq,pos,left,hl,h=>by
  obtain⟨g1,g2,g3,g4,g5⟩:=As.1 hg
  simp only [C5,Ad,decide_eq_true_eq] at h
  obtain⟨⟨h1,h2,h3,h4,h5,h6,h7⟩,h8⟩:=h
  have ih:=GH hg (by omega) h8
  refine⟨fun x hx=>?_,?_⟩
  ·rcases AQ.1 hx with rfl | hx
   ·omega
   ·exact ih.1 x hx
  ·rw [sumT]
   have:=ih.2
   omega
theorem KH {g:Geo} (hg:Bt g=true) {x:Tx}:∀ {l:List Tx} {seq pos left:Int},0<=pos->pos<g.sl->left<=g.sl->C5 g l seq pos left=true->x.seq=seq+l.length->x.seq<=4294967295->x.pos=(pos+sumT l).tmod g.sl->2<=x.n->x.n<=left - sumT l->x.n=x.images.length+1->x.images.all (B9 g)=true->C5 g (l ++ [x]) seq pos left=true
 | [],seq,pos,left,h0,h1,_,_,e1,e2,e3,e4,e5,e6,e7=>by
  have e3':x.pos=pos:=by
   rw [e3,show sumT []=0 from rfl,Int.add_zero,Bc h0,Int.emod_eq_of_lt h0 h1]
  simp only [AW] at e1
  have e1':x.seq=seq:=by omega
  have e5':x.n<=left:=by have:sumT []=0:=rfl;omega
  show (decide (x.seq=seq)&&(decide (x.seq<=4294967295)&&(decide (x.pos=pos)&&(decide (2<=x.n)&&(decide (x.n<=left)&&(decide (x.n=x.images.length+1)&&x.images.all (B9 g)))))))&&true=true
  rw [decide_eq_true e1',decide_eq_true e2,decide_eq_true e3',decide_eq_true e4,decide_eq_true e5',decide_eq_true e6,e7]
  rfl
 | t::r,seq,pos,left,h0,h1,hl,h,e1,e2,e3,e4,e5,e6,e7=>by
  obtain⟨g1,g2,g3,g4,g5⟩:=As.1 hg
  have hh:=h
  simp only [C5,Ad,decide_eq_true_eq] at hh
  obtain⟨⟨q1,q2,q3,q4,q5,q6,q7⟩,q8⟩:=hh
  have hin:=(GH hg (by omega) q8).1
  have hnn:=Xl hin
  have hp0:0<=(pos+t.n).tmod g.sl:=Bq _ (by omega)
  have hp1:(pos+t.n).tmod g.sl<g.sl:=Bb _ (by omega)
  rw [sumT] at e3 e5
  have ih:=KH hg (x:=x) hp0 hp1 (by omega) q8 (by rw [e1];simp only [Al];omega) e2 (by rw [e3,SI (by omega) h0 (by omega) hnn]) e4 (by omega) e6 e7
  show (_&&C5 g (r ++ [x]) (seq+1) ((pos+t.n).tmod g.sl) (left - t.n))=true
  rw [ih,BH]
  simp only [C5,Ad] at h
  simpa using h.1
def EC (ats:List Int) (bs:List (List UInt8)) (i:Nat):Nat->Option (List UInt8)
 | 0=>none
 | k+1=>if ats.getD k 0=(i:Int) then some (bs.getD k []) else EC ats bs i k
def HG (g:Geo) (t:List Ent) (had:List (List UInt8)) (ats:List Int) (bs:List (List UInt8)) (i:Nat):List UInt8:=match EC ats bs i ats.length with
 | some b=>b
 | none=>GB g t had i
def Lb (g:Geo) (t:List Ent) (had:List (List UInt8)) (ats:List Int) (bs:List (List UInt8)) (stamp:Int) (i:Nat):Ent:=
 let e:Ent:=match EC ats bs i ats.length with
  | some b=>⟨stamp,(De b:Nat),false⟩
  | none=>t.getD i ez
 if (HG g t had ats bs i).length=0 then { e with lost:=true } else e
def EH (g:Geo) (t:List Ent) (had:List (List UInt8)) (ats:List Int) (bs:List (List UInt8)):Nat->List UInt8
 | 0=>zero8
 | k+1=>if (HG g t had ats bs k).length=0 then EH g t had ats bs k else I5 (EH g t had ats bs k) (HG g t had ats bs k)
def BJ (g:Geo) (t:List Ent) (had:List (List UInt8)) (ats:List Int) (bs:List (List UInt8)) (stamp:Int):List Ent:=(List.range g.d.toNat).map (Lb g t had ats bs stamp) ++ [⟨stamp,(De (EH g t had ats bs g.d.toNat):Nat),false⟩]
def C4 (z:Int) (t:List Ent) (par:List UInt8) (ats:List Int) (bs:List (List UInt8)):List Img:=((List.range ats.length).map fun i=>⟨z,ats.getD i 0,bs.getD i []⟩) ++ [⟨z, -1,par⟩,⟨z,255,CU t⟩]
theorem It (b:List UInt8):De b<=4294967295:=by unfold De;omega
theorem Lw (a b:List UInt8):(I5 a b).length=min a.length b.length:=by simp [I5]
theorem Id {t:List Ent} {had:List (List UInt8)} {at_:Nat} (hh:∀ b∈had,b.length=0\/b.length=8):∀ (k:Nat) (b:List UInt8),Ef t had at_ k=some b->b.length=8
 | 0,b,h=>by
  obtain rfl:=Option.some.inj h
  rfl
 | k+1,b,h=>by
  rw [Ef] at h
  cases hk:Ef t had at_ k with
  | none=>rw [hk] at h;cases h
  | some c=>
   rw [hk] at h
   have ih:=Id hh k c hk
   simp only at h
   split at h
   ·obtain rfl:=Option.some.inj h
    exact ih
   ·split at h
    ·cases h
    ·rename_i h0
     obtain rfl:=Option.some.inj h
     have hm:(had.getD k []).length=8:=by
      by_cases hk':k<had.length
      ·rcases hh _ (A9 (d:= []) hk') with q | q
       ·exact absurd q h0
       ·exact q
      ·rw [Aa,AJ (by omega)] at h0
       exact absurd rfl h0
     rw [Lw,ih,hm]
     rfl
theorem Ro {g:Geo} {t:List Ent} {had:List (List UInt8)} (hh:∀ b∈had,b.length=0\/b.length=8) (i:Nat):(GB g t had i).length=0\/(GB g t had i).length=8:=by
 unfold GB
 split
 ·exact .inl rfl
 ·split
  ·rename_i h0
   by_cases hk':i<had.length
   ·exact hh _ (A9 (d:= []) hk')
   ·rw [Aa,AJ (by omega)] at h0
    exact absurd h0 (by simp)
  ·cases ho:Ef t had i (g.d.toNat+1) with
   | none=>exact .inl rfl
   | some b=>
    simp only
    split
    ·exact .inr (Id hh _ _ ho)
    ·exact .inl rfl
section
variable {g:Geo} {t:List Ent} {had:List (List UInt8)} {ats:List Int} {bs:List (List UInt8)}
theorem Kj (hb:∀ b∈bs,b.length=8) (hl:ats.length<=bs.length) {i:Nat}:∀ (k:Nat) (b:List UInt8),k<=ats.length->EC ats bs i k=some b->b.length=8
 | k+1,b,hk,h=>by
  rw [EC] at h
  split at h
  ·obtain rfl:=Option.some.inj h
   exact hb _ (A9 (d:= []) (by omega))
  ·exact Kj hb hl k b (by omega) h
theorem PF (hh:∀ b∈had,b.length=0\/b.length=8) (hb:∀ b∈bs,b.length=8) (hl:ats.length<=bs.length) (i:Nat):(HG g t had ats bs i).length=0\/(HG g t had ats bs i).length=8:=by
 unfold HG
 cases hp:EC ats bs i ats.length with
 | none=>exact Ro hh i
 | some b=>exact .inr (Kj hb hl _ b (Ah _) hp)
theorem Gg (hh:∀ b∈had,b.length=0\/b.length=8) (hb:∀ b∈bs,b.length=8) (hl:ats.length<=bs.length):∀ k:Nat,(EH g t had ats bs k).length=8
 | 0=>rfl
 | k+1=>by
  have ih:=Gg hh hb hl k
  rw [EH]
  split
  ·exact ih
  ·rename_i h0
   rcases PF (g:=g) (t:=t) hh hb hl k with q | q
   ·exact absurd q h0
   ·rw [Lw,ih,q]
    rfl
theorem Gz (hg:Bt g=true) (ht:GO g t=true) {stamp:Int} (hs:0<=stamp/\stamp<=4294967295):GO g (BJ g t had ats bs stamp)=true:=by
 obtain⟨g1,g2,g3,g4,g5⟩:=As.1 hg
 have hsum:∀ b:List UInt8,H7 ((De b:Nat):Int)=true:=fun b=>AL.2 (by have:=It b;omega)
 have hst:H7 stamp=true:=AL.2 hs
 have hl:(BJ g t had ats bs stamp).length=g.d.toNat+1:=by simp [BJ]
 rw [GO,hg] at ht
 simp only [BG,Ad,decide_eq_true_eq,Bm] at ht
 obtain⟨⟨t1,t2⟩,t3⟩:=ht
 rw [GO,hg,decide_eq_true (by rw [hl];omega)]
 have hall:(BJ g t had ats bs stamp).all DF=true:=by
  rw [Aw]
  intro x hx
  simp only [BJ,A6,AR,AU,AE] at hx
  rcases hx with ⟨i,hi,rfl⟩ | rfl
  ·have he:∀ e:Ent,DF e=true->DF { e with lost:=true }=true:=fun e h=>h
   have h0:DF (match EC ats bs i ats.length with | some b=>(⟨stamp,(De b:Nat),false⟩:Ent) | none=>t.getD i ez)=true:=by
    cases EC ats bs i ats.length with
    | some b=>simp only [DF,hst,hsum,Bool.and_self]
    | none=>exact Aw.1 t2 _ (A9 (d:=ez) (by omega))
   unfold Lb
   simp only
   split
   ·exact he _ h0
   ·exact h0
  ·simp only [DF,hst,hsum,Bool.and_self]
 rw [hall]
 have hla:Ho (BJ g t had ats bs stamp) g.d.toNat=false:=by
  unfold Ho BJ
  rw [AH (by simp)]
  simp
 rw [hla]
 rfl
end
theorem R4 {x:Ent} (h:DF x=true) (r:List UInt8):IH (Jf x ++ r)=x:=by
 obtain⟨a,s,l⟩:=x
 simp only [DF,H7,Ad,AL] at h
 have hn:nums [4,4,1] (rowB [a,s,Da l] [4,4,1] ++ r)=[a,s,Da l]:=nums_rowB [a,s,Da l] [4,4,1] r rfl (fun k h1 _=>by
  match k,h1 with
  | 0,_=>exact⟨.inr (.inr rfl),h.1.1,by show a<4294967296;omega⟩
  | 1,_=>exact⟨.inr (.inr rfl),h.2.1,by show s<4294967296;omega⟩
  | 2,_=>exact⟨.inl rfl,by show 0<=Da l;unfold Da;split <;> decide,by show Da l<256;unfold Da;split <;> decide⟩)
 unfold IH Jf
 rw [hn]
 cases l <;> rfl
theorem entsOf_tblB:∀ (t:List Ent),(∀ e∈t,DF e=true)->entsOf t.length (CU t)=t
 | [],_=>rfl
 | e::t,h=>by
  have e1:CU (e::t)=Jf e ++ CU t:=by simp [CU]
  have e2:(Jf e ++ CU t).drop 9=CU t:=by
   rw [List.drop_append_of_le_length (by rw [JP];exact Ah _),A8 (by rw [JP];exact Ah _)]
   rfl
  show IH (CU (e::t))::entsOf t.length ((CU (e::t)).drop 9)=e::t
  rw [e1,e2,R4 (h e (by simp)),entsOf_tblB t fun x hx=>h x (AZ _ hx)]
theorem IR {g:Geo} {t:List Ent} (ht:GO g t=true):Cu g (CU t)=some t:=by
 have hh:=ht
 simp only [GO,Ad,decide_eq_true_eq,Aw] at hh
 obtain⟨⟨⟨_,t1⟩,t2⟩,_⟩:=hh
 have e:(g.d+1).toNat=t.length:=by omega
 unfold Cu
 rw [e,entsOf_tblB t t2,if_pos ⟨ht,rfl⟩]
def OneTab (l:List Img):Prop:=l.Pairwise fun x y=>x.what=255->y.what=255->x.zone≠y.zone
theorem FJ (z:Int) (t:List Ent) (par:List UInt8) (ats:List Int) (bs:List (List UInt8)):(C4 z t par ats bs).length=ats.length+2:=by simp [C4]
theorem Mj {g:Geo} (hg:Bt g=true) {z:Int} (hz:0<=z/\z<g.z) {t:List Ent} (ht:GO g t=true) {par:List UInt8} (hp:par.length=8) {ats:List Int} (ha:∀ a∈ats,0<=a/\a<g.d) {bs:List (List UInt8)} (hb:∀ b∈bs,b.length=8) (hl:ats.length<=bs.length):∀ x∈C4 z t par ats bs,B9 g x=true/\x.zone=z:=by
 obtain⟨g1,g2,g3,g4,g5⟩:=As.1 hg
 have hz':CJ z 0 (g.z - 1)=true:=AL.2 (by omega)
 intro x hx
 simp only [C4,A6,AR,AU,AQ,Do,or_false] at hx
 rcases hx with ⟨i,hi,rfl⟩ | rfl | rfl
 ·have h1:=ha _ (A9 (d:=0) hi)
  have h2:=hb _ (A9 (d:= []) (show i<bs.length by omega))
  refine⟨?_,rfl⟩
  simp only [B9,hg,hz',BG]
  rw [if_neg (by omega),AL.2 (show -1<=ats.getD i 0/\ats.getD i 0<=g.d - 1 by omega),decide_eq_true h2]
  rfl
 ·refine⟨?_,rfl⟩
  simp only [B9,hg,hz',BG]
  rw [if_neg (by decide),AL.2 (show (-1:Int)<= -1/\(-1:Int)<=g.d - 1 by omega),decide_eq_true hp]
  rfl
 ·refine⟨?_,rfl⟩
  simp only [B9,hg,hz',BG]
  rw [if_pos trivial,IR ht]
  rfl
theorem KQ {g:Geo} (hg:Bt g=true) {l:List Img} {z:Int} (hl:OneTab l) (hz:∀ x∈l,x.zone<z) {t:List Ent} {par:List UInt8} {ats:List Int} (ha:∀ a∈ats,0<=a/\a<g.d) {bs:List (List UInt8)}:OneTab (l ++ C4 z t par ats bs):=by
 obtain⟨g1,g2,g3,g4,g5⟩:=As.1 hg
 have hw:∀ x∈(List.range ats.length).map (fun i=>(⟨z,ats.getD i 0,bs.getD i []⟩:Img)),x.what≠255:=by
  intro x hx
  obtain⟨i,hi,rfl⟩:=AR.1 hx
  have:=ha _ (A9 (d:=0) (AU.1 hi))
  show ats.getD i 0≠255
  omega
 refine List.pairwise_append.2 ⟨hl,List.pairwise_append.2 ⟨List.Pairwise.imp_of_mem (R:=fun _ _=>True) (fun hx _ _ h=>absurd h (hw _ hx)) (List.pairwise_of_forall (fun _ _=>trivial)),?_,fun x hx y _ h=>absurd h (hw _ hx)⟩,fun x hx y hy _ _=>?_⟩
 ·refine List.pairwise_cons.2 ⟨fun y _ h=>absurd (show (-1:Int)=255 from h) (by decide),List.pairwise_singleton _ _⟩
 ·have h1:=hz x hx
  have h2:y.zone=z:=by
   simp only [C4,A6,AR,AU,AQ,Do,or_false] at hy
   rcases hy with ⟨i,_,rfl⟩ | rfl | rfl <;> rfl
  omega
@[reducible] def YM (g:Geo) (x:AV) (s:Stt) (e:Int):List AV:= [.v (.int .i64 g.z), .v (.int .i64 g.d), .v (.int .i64 g.sp), .v (.int .i64 g.sl), .v (.int .i64 g.an),x, .v (.int .i64 s.a.gen), .v (.int .i64 s.a.epoch), .v (.int .i64 s.a.pos), .v (.int .i64 s.a.seq), .v (.int .i64 s.a.last), .v (.string s.a.label),I8 s.a.homes,Di s.txns, .v (.bool s.only), .v (.int .i64 s.cursor), .v (.int .i64 s.found), .v (.int .i64 s.fixed), .v (.int .i64 s.moved),iA s.lost, .v (.int .i64 e)]
@[reducible] def J0 (g:Geo) (s:Stt) (e:Int) (d:Dk):List AB:= [.box 95 (YM g (.bp 1 0) s e), .box 92 (HK (.ow 2 d.cells.length) (.ow 3 d.cache.length) d.reqs d.left), .row 84 3 (d.cells.map BE), .row 131 2 (d.cache.map E5)]
@[reducible] def Nq (g:Geo) (s:Stt) (e:Int) (d:Dk):List AB:= [.box 95 (YM g (.bp 1 0) s e), .box 92 (HK (.ow 2 d.cells.length) (.ow 4 d.cache.length) d.reqs d.left), .row 84 3 (d.cells.map BE), .dead, .row 131 2 (d.cache.map E5)]
@[reducible] def ZY (g:Geo) (s:Stt) (e:Int) (d:Dk) (l:List AB):List AB:= .box 95 (YM g (.bp 1 0) s e):: .box 92 (HK (.ow 2 d.cells.length) (.ow 3 d.cache.length) d.reqs d.left):: .row 84 3 (d.cells.map BE):: .row 131 2 (d.cache.map E5)::l
theorem YL (g:Geo) (s:Stt) (e:Int) (d:Dk):ConvH (J0 g s e d) (Nq g s e d):=zz (H:=J0 g s e d) 1 3 (by decide) rfl rfl
theorem XZ (e:Int):∀ (c:Ctx) (v:Value),Rd (.ag [.v (.int .i64 e), .v (.slice none 0 0)]) c v->Rd (.ag (Dr ⟨e, []⟩)) c v:=Ba ⟨ri,Br 1 _,tv⟩
theorem YO (g:Geo) (s:Stt) (e:Int) (d:Dk) (a:Int) (he:e≠0) :
  ACalls Tryz.prog false 188 [.bp 0 0, .v (.int .i64 a)] (J0 g s e d) fun r H=>r = .ag (Dr ⟨8, []⟩)/\H=J0 g s e d:=by
 have hb:(e != 0)=true:=bne_iff_ne.2 he
 refine zS tys_ok Tryz.func188 rfl rfl (Ag rfl) ?_
 conv=>whnf
 rw [hb]
 exact⟨_, .ag (Dr ⟨8, []⟩),J0 g s e d,XZ 8,zR (s:= [0,1,2,3]) ⟨⟨rfl,tv⟩,⟨rfl,rfl,rfl,rfl,tv⟩,rfl,rfl,rfl,rfl,rfl⟩,rfl,rfl⟩
theorem YN (g:Geo) (s:Stt) (d:Dk) (a:Int) (h:DkOk d) (ha:0<=a/\a<d.cells.length) :
  ACalls Tryz.prog false 188 [.bp 0 0, .v (.int .i64 a)] (J0 g s 0 d) fun r H=>r = .ag (Dr ⟨(d.read a).2.2,(d.read a).2.1⟩)/\H=J0 g s (if d.left=0 then 8 else 0) (d.read a).1:=by
 have hr:=Pv d a h.l ha h.m (fun c hc=>by have:=(h.c c hc).2.1;omega) (fun w hw=>by have:=(h.w w hw).2;omega)
 have he:(d.left=0/\(d.read a).2.2=8)\/(¬d.left=0/\(d.read a).2.2≠8):=by
  unfold Dk.read
  by_cases h0:d.left=0
  ·rw [if_pos h0];exact .inl ⟨h0,rfl⟩
  ·rw [if_neg h0];exact .inr ⟨h0,show (d.got a).2≠8 by have:=Sv d a;omega⟩
 generalize d.read a=q at hr he |-
 obtain⟨D,b,e⟩:=q
 simp only at hr he |-
 refine zS tys_ok Tryz.func188 rfl rfl (Ag rfl) ?_
 conv=>whnf
 refine zZ [1,2,3] hr rfl rfl rfl rfl (by decide) (IF rfl) ⟨rfl,rfl,rfl,tv⟩ ?_
 rintro _ _ ⟨rfl,rfl⟩
 rcases he with ⟨h0,rfl⟩ | ⟨h0,he⟩
 ·rw [if_pos h0]
  conv=>whnf
  repeat' (refine zX ?_;conv=>whnf)
  exact⟨_, .ag (Dr ⟨8,b⟩),J0 g s 8 D,fun _ _ h=>h,zR (s:= [0,1,2,3]) ⟨⟨rfl,tv⟩,⟨rfl,rfl,rfl,rfl,tv⟩,rfl,rfl,rfl,rfl,rfl⟩,rfl,rfl⟩
 ·rw [if_neg h0]
  conv=>whnf
  repeat' (refine zX ?_;conv=>whnf)
  refine Ao (fun h8=>absurd (by simpa using h8) he) (fun _=>?_)
  conv=>whnf
  repeat' (refine zX ?_;conv=>whnf)
  exact⟨_, .ag (Dr ⟨e,b⟩),J0 g s 0 D,fun _ _ h=>h,zR (s:= [0,1,2,3]) ⟨⟨rfl,tv⟩,⟨rfl,rfl,rfl,rfl,tv⟩,rfl,rfl,rfl,rfl,rfl⟩,rfl,rfl⟩
theorem UY (g:Geo) (s:Stt) (e:Int) (d:Dk) (a:Int) (b:List UInt8) (he:e≠0) :
  ACalls Tryz.prog false 72 [.bp 0 0, .v (.int .i64 a),bA b] (J0 g s e d) fun r H=>r = .v (.bool false)/\H=J0 g s e d:=by
 have hb:(e != 0)=true:=bne_iff_ne.2 he
 refine zS tys_ok Tryz.func72 rfl rfl (Ag rfl) ?_
 conv=>whnf
 rw [hb]
 exact⟨_, .v (.bool false),J0 g s e d,fun _ _ h=>h,zR (s:= [0,1,2,3]) ⟨⟨rfl,tv⟩,⟨rfl,rfl,rfl,rfl,tv⟩,rfl,rfl,rfl,rfl,rfl⟩,rfl,rfl⟩
theorem UX (g:Geo) (s:Stt) (d:Dk) (a:Int) (b:List UInt8) (h:DkOk d) (ha:0<=a/\a<d.cells.length) (hb:b.length<=200) :
  ACalls Tryz.prog false 72 [.bp 0 0, .v (.int .i64 a),bA b] (J0 g s 0 d) fun r H=>r = .v (.bool (decide ((d.write a b).2=0)))/\H=J0 g s (if (d.write a b).2=8 then 8 else 0) (d.write a b).1:=by
 have hr:=Np d a b h.l ha h.m (by omega)
 have he:=Ir d a b
 generalize d.write a b=q at hr he |-
 obtain⟨D,e⟩:=q
 simp only at hr he |-
 refine zS tys_ok Tryz.func72 rfl rfl (Ag rfl) ?_
 conv=>whnf
 refine zZ [1,2,3] hr rfl rfl rfl rfl (by decide) (IF rfl) ⟨rfl,rfl,rfl,tv⟩ ?_
 rintro _ _ ⟨rfl,rfl⟩
 rcases he with rfl | rfl | rfl
 all_goals
  conv=>whnf
  repeat' (refine zX ?_;conv=>whnf)
 ·exact⟨_, .v (.bool false),J0 g s 8 D,fun _ _ h=>h,zR (s:= [0,1,2,3]) ⟨⟨rfl,tv⟩,⟨rfl,rfl,rfl,rfl,tv⟩,rfl,rfl,rfl,rfl,rfl⟩,rfl,rfl⟩
 ·exact⟨_, .v (.bool false),J0 g s 0 D,fun _ _ h=>h,zR (s:= [0,1,2,3]) ⟨⟨rfl,tv⟩,⟨rfl,rfl,rfl,rfl,tv⟩,rfl,rfl,rfl,rfl,rfl⟩,rfl,rfl⟩
 ·exact⟨_, .v (.bool true),J0 g s 0 D,fun _ _ h=>h,zR (s:= [0,1,2,3]) ⟨⟨rfl,tv⟩,⟨rfl,rfl,rfl,rfl,tv⟩,rfl,rfl,rfl,rfl,rfl⟩,rfl,rfl⟩
theorem Vx (g:Geo) (s:Stt) (e:Int) (d:Dk) (h:DkOk d) :
  ACalls Tryz.prog false 75 [.bp 0 0] (J0 g s e d) fun r H=>r = .tp []/\H=Nq g s (if e=0 then if d.left=0 then 8 else 0 else e) (if e=0 then if d.left=0 then d else d.flush else d):=by
 have hf:=Nu d h.l h.m (fun w hw=>(h.w w hw).1) (fun w hw=>by have:=(h.w w hw).2;omega)
 by_cases he:e=0
 ·subst he
  rw [if_pos rfl,if_pos rfl]
  refine zS tys_ok Tryz.func75 rfl rfl (Ag rfl) ?_
  conv=>whnf
  refine zZ [1,2,3] hf rfl rfl rfl rfl (by decide) (IF rfl) ⟨rfl,rfl,rfl,tv⟩ ?_
  rintro _ _ ⟨rfl,rfl⟩
  by_cases h0:d.left=0
  all_goals
   simp only [h0,if_true,if_false]
   exact⟨_, .tp [],Nq g s _ _,fun _ _ h=>h,zR (s:= [0,1,2,3,4]) ⟨⟨rfl,tv⟩,⟨rfl,rfl,rfl,tv,rfl,tv⟩,rfl,rfl,rfl,rfl,rfl⟩,rfl,rfl⟩
 ·rw [if_neg he,if_neg he]
  have hb:(e == 0)=false:=beq_eq_false_iff_ne.2 he
  refine zS tys_ok Tryz.func75 rfl rfl (Ag rfl) ?_
  conv=>whnf
  rw [hb]
  exact⟨_, .tp [],Nq g s e d,fun _ _ h=>h,zD (zK (YL g s e d)) (s:= [0,1,2,3,4]) ⟨⟨rfl,tv⟩,⟨rfl,rfl,rfl,tv,rfl,tv⟩,rfl,rfl,rfl,rfl,rfl⟩,rfl,rfl⟩
end
end Go.Proofs.YtkolckdakddggaaGreatDoor.A
