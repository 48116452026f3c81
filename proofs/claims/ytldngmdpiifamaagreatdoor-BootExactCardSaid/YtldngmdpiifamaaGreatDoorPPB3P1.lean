/-
Several texts in one.
-/
import Derived.Test.YtldngmdpiifamaaGreatDoorPPB3P0
import Derived.RangeFuncLeaves
import Derived.RangeFuncRecord
import Derived.Test.YtldngmdpiifamaaGreatDoorProg
import Derived.Ground.NamesProg
import Derived.Shelf.Unicode.ValidAny
import Derived.Lib.IndexBytes
import Derived.Lib.AppendZeros
import Derived.Deep.LoopGhost
import Derived.Laws.BitsLemmas
import Derived.Shelf.Abstract
import Derived.Laws.BytesArg
import Derived.Lib.Strings
import Derived.Lib.Slices
import Derived.Lib.Walk
import Derived.Lib.Bytes
import Derived.Laws.MakeOwn
import Derived.Lib.MapLaws
import Derived.Laws.Cover4
import Derived.Lib.AppendStr
import Derived.Laws.IdiomStrings
import Derived.Deep.DeepCutAuto
import Derived.Laws.BitsAllLaws
set_option maxRecDepth 100000
set_option maxHeartbeats 8000000
set_option linter.unusedSimpArgs false
set_option linter.unusedVariables false
section
namespace Go.Proofs.YtldngmdpiifamaaGreatDoor.A
open Go.RowKit
def PH (T:Tys) (fr:Fr) (H:List AB) (r:ResultVar) (k:AV->Prop):Prop:=
 match r with
 | .tmp t=>D5 (fget fr t) k
 | .cell a t=>match tget T t with
  | some ty=>Xl H (fget fr a) fun cs=>X9 ty cs k
  | none=>False
def Vm (T:Tys) (fr:Fr) (H:List AB):List ResultVar->(List AV->Prop)->Prop
 | [],k=>k []
 | r::l,k=>PH T fr H r fun x=>Vm T fr H l fun xs=>k (x::xs)
def H0 (T:Tys) (rs:List ResultVar) (fr:Fr) (H:List AB) (k:AV->Prop):Prop:=
 Vm T fr H rs fun l=>match l with | [x]=>k x | l=>k (.tp l)
def NY (x:AV) (H:List AB) (k:AV->List AB->Prop):Prop:=
 match x with
 | .ag cs=>sealK cs H fun l H=>k (.ag l) H
 | .v u=>k (.v u) H
 | .sl sz n get=>k (.sl sz n get) H
 | .ow j n=>match hget H j with
   | some (.row _ sz es)=>n=es.length/\setK j .dead H fun H=>k (.sl sz n (fun i=>es.getD i [])) H
   | _=>False
 | .ic t cs=>match AV.ltL cs 0 with | true=>k (.ic t cs) H | false=>False
 | _=>False
def sealA:List AV->List AB->(List AV->List AB->Prop)->Prop
 | [],H,k=>k [] H
 | x::l,H,k=>NY x H fun x H=>sealA l H fun l H=>k (x::l) H
def NW (x:AV) (H:List AB) (k:AV->Prop):Prop:=
 match x with
 | .tp l=>sealA l H fun l _=>k (.tp l)
 | x=>NY x H fun x _=>k x

theorem GG {w0:Fl} {M0:Ms} {c:Ctx} {H:List AB} {x:AV} {u:Value} {k:AV->List AB->Prop} (hs:HS w0 M0 c H) (hr:Rd x c u) (h:NY x H k) :
  ∃ r H' c',k r H'/\c'.w=c.w/\HS w0 M0 c' H'/\Ext c c'/\Rd r c'.closed u/\H'.length=H.length:=by
 unfold NY at h
 split at h
 ·rename_i cs
  simp only [Rd] at hr
  obtain⟨xs,rfl,hx⟩:=hr
  obtain⟨l',H',c',q1,q2,q3,q4,q5,q6,q7,q8⟩:=sealK_sound hs hx h
  exact⟨_,H',c',q1,q2,q3,q4,by simp only [Rd];exact⟨xs,rfl,q5⟩,q6⟩
 ·exact⟨_,H,c,h,rfl,hs,Ext.refl c,by simpa [Rd] using hr,rfl⟩
 ·exact⟨_,H,c,h,rfl,hs,Ext.refl c,by simp only [Rd] at hr |-;exact hr,rfl⟩
 ·rename_i j n
  rw [hget_eq] at h
  split at h
  ·rename_i t sz es hj
   obtain⟨rfl,h⟩:=h
   have h:=setK_iff h
   obtain⟨c1,e1,e2,e3,e4⟩:=hs.freeze hj
   refine⟨_,_,c1,h,e1,e2,e3,?_,by simp⟩
   have:=e4 u hr
   simp only [Rd] at this |-
   exact this
  ·exact h.elim
 ·rename_i t cs
  split at h
  ·rename_i hl
   exact⟨_,H,c,h,rfl,hs,Ext.refl c,Rd.cut (c:=c) (c':=c.closed) (.ic t cs) ⟨Ext.refl _,fun k hk=>absurd hk (Aj k)⟩ (by simpa [AV.lt,Ctx.closed] using hl) hr,rfl⟩
  ·exact h.elim
 ·exact h.elim
theorem sealA_sound:∀ {l:List AV} {w0:Fl} {M0:Ms} {c:Ctx} {H:List AB} {xs:List Value} {k:List AV->List AB->Prop},HS w0 M0 c H->RdL l c xs->sealA l H k->
  ∃ l' H' c',k l' H'/\c'.w=c.w/\HS w0 M0 c' H'/\Ext c c'/\RdL l' c'.closed xs/\H'.length=H.length
 | [],_,_,c,H,xs,k,hs,hr,h=>⟨[],H,c,h,rfl,hs,Ext.refl c,by simp only [RdL] at hr |-;exact hr,rfl⟩
 | x::l,w0,M0,c,H,xs,k,hs,hr,h=>by
  simp only [RdL] at hr
  obtain⟨u,us,rfl,h1,h2⟩:=hr
  simp only [sealA] at h
  obtain⟨r,H1,c1,q1,q2,q3,q4,q5,q6⟩:=GG hs h1 h
  obtain⟨l',H2,c2,p1,p2,p3,p4,p5,p6⟩:=sealA_sound q3 (RdL.ext _ q4 h2) q1
  refine⟨_,H2,c2,p1,p2.trans q2,p3,q4.trans p4,?_,by omega⟩
  simp only [RdL]
  exact⟨u,us,rfl,Rd.ext _ p4.closed q5,p5⟩
theorem JJ {w0:Fl} {M0:Ms} {c:Ctx} {H:List AB} {x:AV} {u:Value} {k:AV->Prop} (hs:HS w0 M0 c H) (hr:Rd x c u) (h:NW x H k) :
  ∃ r H' c',k r/\c'.w=c.w/\HS w0 M0 c' H'/\Ext c c'/\Rd r c'.closed u:=by
 unfold NW at h
 split at h
 ·simp only [Rd] at hr
  obtain⟨xs,rfl,hx⟩:=hr
  obtain⟨l',H',c',q1,q2,q3,q4,q5,q6⟩:=sealA_sound hs hx h
  exact⟨_,H',c',q1,q2,q3,q4,by simp only [Rd];exact⟨xs,rfl,q5⟩⟩
 ·obtain⟨r,H',c',q1,q2,q3,q4,q5,_⟩:=GG hs hr h
  exact⟨r,H',c',q1,q2,q3,q4,q5⟩

def MW (tmps:Array Value) (r:ResultVar):Sem Value:=
 match r with
 | .tmp t=>pure (tmps.getD t undef)
 | .cell a t=>do loadVar t (<-asAddr (tmps.getD a undef))
theorem PI (fn:Func) (tmps:Array Value):results fn tmps=(do let vs <-fn.results.mapM (MW tmps);pure (if h:vs.size=1 then vs[0] else .tuple vs)):=by
 unfold results
 congr 1
theorem MV {P:Program} {T:Tys} (hT:TOk P T) {w0:Fl} {M0:Ms} {c:Ctx} {H:List AB} (hs:HS w0 M0 c H) {n:Nat} {fr:Fr} {a:Act} (hf:FR w0 c n fr a) {r:ResultVar} {k:AV->Prop} (h:PH T fr H r k) :
  ∃ x v,k x/\Rd x c v/\(MW a.tmps r).run P c.w = .ok v c.w:=by
 cases r with
 | tmp t=>exact⟨_,_,BA h,hf.get _,rfl⟩
 | cell ad t=>
  simp only [PH] at h
  split at h
  ·rename_i ty ht
   obtain⟨b,off,cs,hu,hc,hk⟩:=Ov hs (hf.get ad) h
   obtain⟨x,v,h1,h2,h3⟩:=OK (P:=P) (hT.get ht) hc hk
   exact⟨x,v,h1,h3,by simp only [MW,hu,asAddr,Sem.run_bind,Sem.run_pure,Result.andThen_ok];exact h2 c.w (Old.refl _)⟩
  ·exact h.elim
theorem KF {P:Program} {T:Tys} (hT:TOk P T) {w0:Fl} {M0:Ms} {c:Ctx} {H:List AB} (hs:HS w0 M0 c H) {n:Nat} {fr:Fr} {a:Act} (hf:FR w0 c n fr a):∀ {l:List ResultVar} {k:List AV->Prop},Vm T fr H l k->
  ∃ xs vs,k xs/\RdL xs c vs/\(l.mapM (MW a.tmps)).run P c.w = .ok vs c.w
 | [],k,h=>⟨[], [],h,by simp [RdL],by simp⟩
 | r::l,k,h=>by
  simp only [Vm] at h
  obtain⟨x,v,h1,h2,h3⟩:=MV hT hs hf h
  obtain⟨xs,vs,h4,h5,h6⟩:=KF hT hs hf h1
  refine⟨x::xs,v::vs,h4,by simp only [RdL];exact⟨v,vs,rfl,h2,h5⟩,?_⟩
  rw [List.mapM_cons,Sem.run_bind,h3,Result.andThen_ok,Sem.run_bind,h6]
  rfl
theorem Eg {P:Program} {T:Tys} (hT:TOk P T) {w0:Fl} {M0:Ms} {c:Ctx} {H:List AB} (hs:HS w0 M0 c H) {n:Nat} {fr:Fr} {a:Act} (hf:FR w0 c n fr a) {fn:Func} {k:AV->Prop} (h:H0 T fn.results.toList fr H k) :
  ∃ x v,k x/\Rd x c v/\(results fn a.tmps).run P c.w = .ok v c.w:=by
 unfold H0 at h
 obtain⟨xs,vs,h1,h2,h3⟩:=KF hT hs hf h
 have hrun:∀ v,(if h:vs.toArray.size=1 then vs.toArray[0] else .tuple vs.toArray)=v->(results fn a.tmps).run P c.w = .ok v c.w:=by
  intro v hv
  rw [PI,Sem.run_bind,Array.mapM_eq_mapM_toList,Sem.run_map,h3]
  simp only [Result.andThen_ok,Sem.run_pure]
  rw [<-hv]
 have hl:=h2.length
 cases xs with
 | nil=>
  simp only [RdL] at h2
  subst h2
  exact⟨.tp [], .tuple #[],h1,by simp only [Rd];exact⟨[],rfl,by simp [RdL]⟩,hrun _ (by simp)⟩
 | cons x xs=>
  have h2':=h2
  simp only [RdL] at h2
  obtain⟨v,us,rfl,h4,h5⟩:=h2
  cases xs with
  | nil=>
   simp only [RdL] at h5
   subst h5
   exact⟨x,v,h1,h4,hrun v (by simp)⟩
  | cons y xs=>
   refine⟨.tp (x::y::xs), .tuple (v::us).toArray,h1,by simp only [Rd];exact⟨_,rfl,h2'⟩,hrun _ ?_⟩
   rw [dif_neg]
   have:=h5.length
   simp at this |-
   intro e;subst e;simp at this

def Wa (P : Program) (f : FuncId) : Prop := ∃ fn, P.funcs[f]? = some fn ∧ fn.body.isNone = false ∧ (fn.name == "runtime.NumGoroutine") = false
structure Fn (P:Program) (f:FuncId) (args:List AV) (K:AV->Prop):Prop where
 go:Wa P f
 calls:∀ (c0:Ctx) (us:List Value),c0.dom=0->(∀ b,c0.M b->b<c0.w.heap.size)->globOk c0.w->RdL args c0 us->
  Calls P f us.toArray c0.w fun e w'=>∃ v r,e = .returned v/\K r/\Below c0.w.heap.size c0.w w'/\Rd r { c0 with w:=w' } v
theorem Fn.mono {P:Program} {f:FuncId} {args:List AV} {K K':AV->Prop} (h:Fn P f args K) (hk:∀ r,K r->K' r):Fn P f args K':=
 ⟨h.1,fun c0 us h1 h2 h3 h4=>(h.2 c0 us h1 h2 h3 h4).mono fun _ _ ⟨v,r,h4,h5,h6⟩=>⟨v,r,h4,hk _ h5,h6⟩⟩
theorem Fn.closed {P:Program} {f:FuncId} {args:List AV} {H:List AB} {K:AV->Prop} {q:Bool} {k:AV->List AB->Prop} (h:Fn P f args K) (hc:AV.ltL args 0=true) (hk:∀ r,K r->k r H):ACalls P q f args H k:=by
 refine⟨h.go,fun w0 M0 c us hs0 hr=>?_⟩
 have hcut:Cut c c.closed:=⟨Ext.refl _,fun k hk=>absurd hk (Aj k)⟩
 refine(h.calls c.closed us rfl hs0.lt hs0.glob (RdL.cut args hcut hc hr)).mono ?_
 rintro e w' ⟨v,r,rfl,q1,q2,q3⟩
 obtain⟨p1,p2⟩:=hs0.grow (w':=w') q2
 exact⟨v,_,r,H,rfl,rfl,hk r q1,p1,p2,Rd.ext r (Ext.ofClosed { c with w:=w' }) q3,fun _=>q2.old⟩
theorem Fn.cl {P:Program} {f:FuncId} {args:List AV} {H:List AB} {a:AV} {q:Bool} {k:AV->List AB->Prop} (h:Fn P f args fun r=>r=a) (hk:k a H) (hc:AV.ltL args 0=true:=by rfl):ACalls P q f args H k:=Fn.closed h hc fun _ e=>e▸hk
theorem ACalls.shut {P:Program} {q:Bool} {f:FuncId} {args:List AV} {H:List AB} {k:AV->List AB->Prop} (h:Wa P f) (hs:sealA args H fun a H=>ACalls P q f a H k):ACalls P q f args H k:=by
 refine⟨h,fun w0 M0 c us hs0 hr=>?_⟩
 obtain⟨l',H',c',h1,h2,h3,h4,h5,_⟩:=sealA_sound hs0 hr hs
 have:=h1.calls w0 M0 c' us h3 (RdL.ext _ (Ext.ofClosed c') h5)
 rw [h2] at this
 refine this.mono ?_
 rintro e w' ⟨v,c2,r,H2,rfl,rfl,q1,q2,q3,q4,q5⟩
 exact⟨v,c2,r,H2,rfl,rfl,q1,q2,h4.trans q3,q4,q5⟩
theorem Fn.shut {P:Program} {f:FuncId} {args args':List AV} {H:List AB} {K:AV->Prop} {q:Bool} {k:AV->List AB->Prop} (h:Fn P f args' K) (hs:sealA args H fun a H=>a=args'/\∀ r,K r->k r H):ACalls P q f args H k:=by
 refine⟨h.1,fun w0 M0 c us hs0 hr=>?_⟩
 obtain⟨l',H',c',⟨rfl,h1⟩,h2,h3,h4,h5,_⟩:=sealA_sound hs0 hr hs
 have:=h.2 c'.closed us rfl h3.lt h3.glob h5
 rw [show c'.closed.w=c.w from h2] at this
 refine this.mono ?_
 rintro e w' ⟨v,r,rfl,q1,q2,q3⟩
 have hB:Below c'.w.heap.size c'.w w':=by rw [h2];exact q2
 obtain⟨p1,p2⟩:=h3.grow hB
 exact⟨v,_,r,H',rfl,rfl,h1 r q1,p1,h4.trans p2,Rd.ext r (Ext.ofClosed { c' with w:=w' }) q3,fun _=>q2.old⟩

def frOf:Nat->List AV->Fr
 | _, []=> []
 | i,x::l=>(i,x)::frOf (i+1) l
theorem G2 {c:Ctx} {us:List Value} {m:Nat}:∀ {l:List AV} {i:Nat} {pre:List Value},pre.length=i->RdL l c us->∀ j,Rd (fget (frOf i l) j) c ((pre ++ us ++ List.replicate m undef)[j]?.getD undef):=by
 intro l
 induction l generalizing us with
 | nil=>intro i pre _ _ j;simp [frOf,fget,Rd]
 | cons x l ih=>
  intro i pre hp hr j
  simp only [RdL] at hr
  obtain⟨y,ys,rfl,h1,h2⟩:=hr
  simp only [frOf,fget]
  cases hb:Nat.beq i j with
  | true=>
   have:=Ah hb
   subst this
   simp only [cond_true]
   rw [List.append_assoc,List.getElem?_append_right (by omega),hp]
   simpa using h1
  | false=>
   have:=ih (us:=ys) (i:=i+1) (pre:=pre ++ [y]) (by simp [hp]) h2 j
   simpa using this
theorem HS.shut {w0:Fl} {M0:Ms} {c:Ctx} {H:List AB} (h:HS w0 M0 c H) {b:Nat} (hb:w0.w.heap.size<=b) (hd:c.w.heap[b]? = some (.deferred (some []))) :
  HS w0 M0 { c with w:=c.w.putObj b (.deferred none) } H/\Like c { c with w:=c.w.putObj b (.deferred none) }:=by
 have hcell:∀ a u,c.w.cell? a=some u->(c.w.putObj b (.deferred none)).cell? a=some u:=by
  intro a u hu
  refine(World.cell?_of_block (World.putObj_heap_other ?_)).trans hu
  intro e
  unfold World.cell? at hu
  rw [e,hd] at hu
  cases hu
 have hl:Like c { c with w:=c.w.putObj b (.deferred none) }:=⟨rfl,by simp,hcell,rfl,rfl,rfl⟩
 have hoth:∀ g:Nat,(∃ o:Obj,c.w.heap[g]? = some o/\o≠ .deferred (some []))->(c.w.putObj b (.deferred none)).heap[g]? = c.w.heap[g]? :=by
  rintro g ⟨o,ho,hne⟩
  refine World.putObj_heap_other ?_
  rintro rfl
  rw [hd] at ho
  exact hne (Option.some.inj ho).symm
 refine⟨⟨⟨h.low.os,h.low.tape,h.low.output,by simpa using h.low.size,fun b' hb'=>?_⟩,h.base,h.dom,h.foreign,fun b' hm=>by simpa using h.lt b' hm,fun k x hk=>?_,h.own,h.dis⟩,hl⟩
 ·rw [<-h.low.block b' hb']
  exact World.putObj_heap_other (by have:=w0.lt b' hb';omega)
 ·have hx:=h.blk k x hk
  cases x with
  | dead=>trivial
  | box t cs=>
   obtain⟨g,xs,h1,h2,h3,h4⟩:=hx
   exact⟨g,xs,h1,(hoth g ⟨_,h2,by simp⟩).trans h2,RdL.like cs hl h3,h4⟩
  | iter s pos=>
   obtain⟨g,h1,h2⟩:=hx
   exact⟨g,h1,(hoth g ⟨_,h2,by simp⟩).trans h2⟩
  | row t sz es=>
   obtain⟨h1,h2,h3,xs,h4,h5,h6⟩:=hx
   refine⟨h1,h2,h3,xs,?_,RdL.like _ hl.closed h5,h6⟩
   refine⟨h4.1,h4.2.imp id ?_⟩
   rintro⟨g,cap,cur,q1,q2,q3,q4⟩
   exact⟨g,cap,cur,q1,q2,(hoth g ⟨_,q3,by simp⟩).trans q3,q4⟩
  | rowo t sz es m=>
   obtain⟨h1,h2,h3,h3',xs,h4,h5,h6⟩:=hx
   refine⟨h1,h2,h3,h3',xs,?_,RdL.like _ hl h5,h6⟩
   refine⟨h4.1,h4.2.imp id ?_⟩
   rintro⟨g,cap,cur,q1,q2,q3,q4⟩
   exact⟨g,cap,cur,q1,q2,(hoth g ⟨_,q3,by simp⟩).trans q3,q4⟩
theorem IH {P:Program} {w0:Fl} {M0:Ms} {ce:Ctx} {n:Nat} {fn:Func} {R:Ending->World->Prop} {K:Fr->List AB->Prop} (hck:w0.chk) (hce:ce.w.heap.size<=w0.w.heap.size)
  (fin:∀ a w,DR w0 M0 ce n K a w->∃ v,(results fn a.tmps).run P w = .ok v w/\R (.returned v) w) {tmps:Array Value} {fr:Fr} {H:List AB} (hK:K fr H) (hsz:tmps.size=n) :
  ∀ (ds:List Deferred) (c:Ctx),HS w0 M0 c H->(∀ i,Rd (fget fr i) c (tmps.getD i undef))->Ext ce c->DfOk w0 c ds->LeavesInM Fence.wide 0 P fn tmps R ds .returning c.w
 | [],c,hs,hf,he,_=>fin { tmps:=tmps,defers:= [] } c.w ⟨c,fr,H,rfl,hK,hs,⟨hsz,trivial,hf⟩,he⟩
 | d::ds,c,hs,hf,he,hd=>by
  obtain⟨b,rfl,h2,h3,h4,h5⟩:=hd.1 hck
  have h6:=hd.2
  clear hd
  obtain⟨hs',hl⟩:=hs.shut h2 h4
  refine⟨by simp, .inl ⟨b,_,rfl,run_takeDeferred h4,IH hck hce fin hK hsz ds { c with w:=c.w.putObj b (.deferred none) } hs' (fun i=>Rd.like _ hl (hf i)) ?_ ?_⟩⟩
  ·refine⟨he.os,he.tape,he.output,by simpa using he.size,fun b' hb' hm=>⟨(he.keep b' hb' hm).1,?_⟩,he.dom,he.len,he.rho,he.box⟩
   rw [<-(he.keep b' hb' hm).2]
   exact World.putObj_heap_other (by omega)
  ·clear h4 hs' hl
   induction ds with
   | nil=>trivial
   | cons e r ih=>
    obtain⟨b2,rfl,q2,q3,q4,q5⟩:=h6.1 hck
    have q6:=h6.2
    have hne:b2≠b:=fun e=>h5 { target:= .collected b2,args:= #[] } (by simp) (by rw [e])
    exact⟨fun _=>⟨b2,rfl,q2,q3,(World.putObj_heap_other hne).trans q4,q5⟩,ih (fun e he=>h5 e (by simp [he])) q6⟩
theorem DP {P:Program} {w0:Fl} {M0:Ms} {ce:Ctx} {f:FuncId} {fn:Func} {body:Code} {args:Array Value} {w:World} {R:Ending->World->Prop} {K:Fr->List AB->Prop} (hf:P.funcs[f]? = some fn) (hb:fn.body=some body) (hck:w0.chk) (hce:ce.w.heap.size<=w0.w.heap.size)
  (fin:∀ a w,DR w0 M0 ce fn.ntmps K a w->∃ v,(results fn a.tmps).run P w = .ok v w/\R (.returned v) w)
  (h:body.wp P (fun e a w=>(e = .normal\/e = .ret)/\DR w0 M0 ce fn.ntmps K a w) { tmps:=args ++ Array.replicate (fn.ntmps - args.size) undef,defers:= [] } w):Calls P f args w R:=by
 refine callsIn_wide.1 (callsIn_of_wp_marks (F:=Fence.wide) (n:=0) hf hb trivial (wpIn_mono (wpIn_wide.2 h) ?_))
 rintro e a w' ⟨he,c,fr,H,rfl,hK,hs,hfr,hx⟩
 have:=IH hck hce fin hK hfr.size a.defers c hs hfr.get hx hfr.defers
 rcases he with rfl | rfl <;> exact this
theorem EJ {w0:Fl} {M0:Ms} {ce:Ctx} {n:Nat} {Q:QA} {K:Fr->List AB->Prop} (h1:Q .normal=K) (h2:Q .ret=K) (h3:∀ id fr H,¬Q (.exit id) fr H):∀ e a w,LiftQ w0 M0 ce n Q e a w->(e = .normal\/e = .ret)/\DR w0 M0 ce n K a w:=by
 intro e a w hl
 cases e with
 | normal=>exact⟨.inl rfl,h1 ▸ hl⟩
 | ret=>exact⟨.inr rfl,h2 ▸ hl⟩
 | exit id=>obtain⟨c,fr,H,_,q,_⟩:=hl;exact(h3 _ _ _ q).elim
 | _=>exact hl.elim
def Fl.at (w0:Fl) (w:World) (h:LowF w0 w):Fl:=⟨w,w0.old,fun b hb=>Ak (w0.lt b hb) h.size,fun w' hs hb=>w0.gl w' (Bc h.size hs) fun b h'=>(hb b h').trans (h.block b h'),True⟩
theorem LowF.ofAt {w0:Fl} {w w':World} {h:LowF w0 w} (k:LowF (w0.at w h) w'):LowF w0 w':=⟨k.os.trans h.os,k.tape.trans h.tape,k.output.trans h.output,Bc h.size k.size,fun b hb=>(k.block b hb).trans (h.block b hb)⟩
theorem HS.toAt {w0:Fl} {M0:Ms} {c:Ctx} {H:List AB} (h:HS w0 M0 c H):HS (w0.at c.w h.low) M0 c H:=⟨⟨rfl,rfl,rfl,Nat.le_refl _,fun _ _=>rfl⟩,h.base,h.dom,h.foreign,h.lt,h.blk,h.own,h.dis⟩
def Xr (T:Tys) (rs:List ResultVar) (K:AV->Prop):QA:=fun ex fr H=>match ex with
 | .exit _=>False
 | _=>H0 T rs fr H fun x=>NW x H fun r=>∃ r',(∀ c v,Rd r c v->Rd r' c v)/\K r'
theorem Fn.of {P : Program} {T : Tys} (hT : TOk P T) {f : FuncId} {fn : Func} {body : Code} {args : List AV} {K : AV → Prop} (hf : P.funcs[f]? = some fn) (hb : fn.body = some body) (hname : (fn.name == "runtime.NumGoroutine") = false) (hn : args.length ≤ fn.ntmps)
  (h:Ca P T fn.ntmps 0 body (Xr T fn.results.toList K) (frOf 0 args) []):Fn P f args K:=by
 refine⟨⟨fn,hf,by rw [hb];rfl,hname⟩,fun c0 us hd hM hg hr=>?_⟩
 let ce:Ctx:={ c0 with base:=0 }
 have hce:Ext c0 ce:=⟨rfl,rfl,rfl,Nat.le_refl _,fun _ _ h=>⟨h,rfl⟩,Nat.le_refl _,fun _ _=>Nat.le_refl _,fun _ _ _=>rfl,fun _ _ _ h=>h⟩
 have hHS:HS (Fl.all c0.w hg) c0.M ce []:=⟨LowF.refl _ hg,rfl,hd,fun _ _=>Iff.rfl,hM,by simp,by simp,by simp⟩
 have hlen:=hr.length
 have hFR:FR (Fl.all c0.w hg) ce fn.ntmps (frOf 0 args) { tmps:=us.toArray ++ Array.replicate (fn.ntmps - us.toArray.size) undef,defers:= [] }:=by
  refine⟨by simp;omega,trivial,fun i=>?_⟩
  have:=G2 (c:=ce) (m:=fn.ntmps - us.length) (l:=args) (i:=0) (pre:= []) rfl (RdL.ext _ hce hr) i
  rw [Array.getD_eq_getD_getElem?]
  have e:(us.toArray ++ Array.replicate (fn.ntmps - us.toArray.size) undef)[i]? = ([] ++ us ++ List.replicate (fn.ntmps - us.length) undef)[i]? :=by
   have:(us.toArray ++ Array.replicate (fn.ntmps - us.toArray.size) undef)=([] ++ us ++ List.replicate (fn.ntmps - us.length) undef).toArray:=Array.ext' (by simp)
   rw [this];simp only [List.getElem?_toArray]
  rw [e]
  exact this
 have fin:∀ a w,DR (Fl.all c0.w hg) c0.M ce fn.ntmps (fun fr H=>H0 T fn.results.toList fr H fun x=>NW x H fun r=>∃ r',(∀ c v,Rd r c v->Rd r' c v)/\K r') a w->∃ v,(results fn a.tmps).run P w = .ok v w/\∃ v' r,Ending.returned v = .returned v'/\K r/\Below c0.w.heap.size c0.w w/\Rd r { c0 with w:=w } v':=by
  rintro a w ⟨c,fr,H,rfl,h1,h2,h3,h4⟩
  obtain⟨x,v,q1,q2,q3⟩:=Eg hT h2 h3 h1
  obtain⟨r,H',c',p1,p2,p3,p4,p5⟩:=JJ h2 q2 q1
  obtain⟨r',o1,o2⟩:=p1
  refine⟨v,q3,v,r',rfl,o2,h2.low.below,?_⟩
  refine o1 _ _ ?_
  have hE:Ext c'.closed { c0 with w:=c.w }:=by
   refine⟨by simp [Ctx.closed,p2],by simp [Ctx.closed,p2],by simp [Ctx.closed,p2],by simp [Ctx.closed,p2],fun b hb hm=>⟨fun h=>hm ?_,by simp [Ctx.closed,p2]⟩,Ag _,fun k hk=>absurd hk (Aj k),fun k hk=>absurd hk (Aj k),fun k _ hk=>absurd hk (Aj k)⟩
   exact(p3.foreign b (hM b h)).2 h
  exact Rd.ext _ hE p5
 refine DP hf hb trivial (Nat.le_refl _) fin ?_
 refine Bg (w0:=Fl.all c0.w hg) (M0:=c0.M) (ce:=ce) hT hd body _ _ ce _ [] _ (EJ rfl rfl fun _ _ _ h=>h) hHS hFR (Ext.refl _) h
end Go.Proofs.YtldngmdpiifamaaGreatDoor.A
end
section
namespace Go.Proofs.YtldngmdpiifamaaGreatDoor.A
open Go.RowKit

def XS (B:List Nat) (l:List Edge):Nat:=l.foldl (fun s e=>s ||| (match Region.binds .any e with | true=>2 ^ e.on ||| B.getD e.on 0 | false=>0)) 0
def J4 (ops:Array Oper):List Nat:=ops.toList.foldl (fun B o=>B ++ [XS B o.after.toList]) []
def FP (ops:Array Oper) (B:List Nat):Bool:=
 (List.range ops.size).all fun j=>match ops[j]? with
  | none=>true
  | some o=>o.after.toList.all (fun e=>!Region.binds .any e || Nat.blt e.on j)&&Nat.beq (B.getD j 0) (XS B o.after.toList)
def pureOp:Op->Bool
 | .move _ | .assign _ | .extract _ _=>true
 | _=>false
theorem QI {P:Program} {ρ:Operand->Value} {o:Oper} {v:Value} {w:World} (hp:pureOp o.op=true) (h:(execOp ρ o).run P w = .ok (.value v) w) (w':World):(execOp ρ o).run P w' = .ok (.value v) w':=by
 cases ho:o.op <;> rw [ho] at hp <;> simp only [pureOp] at hp <;> try cases hp
 ·simp only [execOp,ho] at h |-;simpa using h
 ·simp only [execOp,ho] at h |-;simpa using h
 ·rename_i x i
  simp only [execOp,ho] at h |-
  revert h
  unfold Instr.extract
  generalize ρ x=u
  cases u with
  | tuple vs=>
   simp only
   generalize vs[i]? = q
   cases q <;> simp
  | _=>simp
def OB (ops:Array Oper) (B:List Nat) (j:Nat):Bool:=
 (List.range ops.size).any fun i=>!(((ops[i]?).map fun o=>isEff o.op || pureOp o.op).getD true)&&i != j&&!(B.getD j 0).testBit i&&!(B.getD i 0).testBit j
theorem QK {B:List Nat} {i:Nat}:∀ (l:List Edge) (s:Nat),(l.foldl (fun s e=>s ||| (match Region.binds .any e with | true=>2 ^ e.on ||| B.getD e.on 0 | false=>0)) s).testBit i=true->
  s.testBit i=true\/∃ e∈l,Region.binds .any e=true/\(e.on=i\/(B.getD e.on 0).testBit i=true)
 | [],s,h=> .inl h
 | e::l,s,h=>by
  rw [List.foldl_cons] at h
  rcases QK l _ h with h | ⟨x,hx,h1,h2⟩
  ·rw [Nat.testBit_or,Bt] at h
   rcases h with h | h
   ·exact .inl h
   ·cases hb:Region.binds .any e with
    | false=>rw [hb] at h;simp at h
    | true=>
     rw [hb] at h
     simp only [Nat.testBit_or,Bt,Nat.testBit_two_pow,decide_eq_true_eq] at h
     exact .inr ⟨e,by simp,hb,h⟩
  ·exact .inr ⟨x,by simp [hx],h1,h2⟩

section
variable {P:Program} {ops:Array Oper} {B:List Nat} {Q:Exit->Act->World->Prop}
def Cl (ops:Array Oper) (l:Array Bool):Prop:=∀ j o,ops[j]? = some o->l.getD j false=true->∀ e∈o.after,Region.binds .any e=true->l.getD e.on false=true
theorem XA (hB:FP ops B=true) {l:Array Bool} (hl:Cl ops l):∀ (j:Nat) (o:Oper),ops[j]? = some o->(∀ e∈o.after,Region.binds .any e=true->l.getD e.on false=true)->∀ i,(B.getD j 0).testBit i=true->l.getD i false=true:=by
 intro j
 induction j using Nat.strongRecOn with
 | _ j ih=>
  intro o ho hall i hi
  have h1:=A4.1 hB j (AC.2 (Array.getElem?_eq_some_iff.1 ho).1)
  rw [ho] at h1
  simp only [Bool.and_eq_true] at h1
  obtain⟨h2,h3⟩:=h1
  rw [Ah h3] at hi
  rcases QK _ _ hi with h | ⟨e,he,hb,h⟩
  ·simp at h
  ·have he':e∈o.after:=by simpa using he
   have hl1:=hall e he' hb
   rcases h with rfl | h
   ·exact hl1
   ·have hlt:=A4.1 h2 e he
    simp only [hb,Bool.not_true,Bool.false_or] at hlt
    have hlt:e.on<j:=by simpa using hlt
    have hsz:e.on<ops.size:=Nat.lt_trans hlt (Array.getElem?_eq_some_iff.1 ho).1
    exact ih e.on hlt ops[e.on] (Array.getElem?_eq_getElem hsz) (fun e' he2 hb2=>hl e.on _ (Array.getElem?_eq_getElem hsz) hl1 e' he2 hb2) i h
theorem Cl.set {l:Array Bool} (hl:Cl ops l) {j:Nat} (hj:j∈Region.ready .any ops l):Cl ops (l.setIfInBounds j true):=by
 obtain⟨hjun,oj,hoj,hall⟩:=mem_ready.1 hj
 intro k o hk hlk e he hb
 refine getD_set_true ?_
 by_cases hkj:k=j
 ·subst hkj
  rw [hoj] at hk
  cases hk
  exact hall e he hb
 ·rw [getD_set_ne false (Ne.symm hkj)] at hlk
  exact hl k o hk hlk e he hb
def HeldR (P:Program) (ops:Array Oper) (B:List Nat) (Q:Exit->Act->World->Prop):Nat->Array Bool->Act->World->Prop
 | 0,l,a,w=>Region.ready .any ops l=[]/\Q .normal a w
 | n+1,l,a,w=>(Region.ready .any ops l=[]->Q .normal a w)/\
   ∀ i∈Region.ready .any ops l,wpOp P ops Q i (fun a' w'=>(OB ops B i=true->Old w w')/\HeldR P ops B Q n (l.setIfInBounds i true) a' w') a w
theorem HeldR.any:∀ (n:Nat) (l:Array Bool) (a:Act) (w:World),HeldR P ops B Q n l a w->wpAny P .any ops Q n l a w
 | 0,_,_,_,h=>h
 | n+1,_,_,_,h=>⟨h.1,fun i hi=>wpOp_mono (fun a' w' h'=>HeldR.any n _ a' w' h'.2) (h.2 i hi)⟩
theorem HeldR.first (hB:FP ops B=true) {i:Nat} {oi:Oper} {v:Value} (hi:ops[i]? = some oi) (hdet:isEff oi.op=false)
  (hsel:∀ (j:Nat) (o:Oper) cs b,ops[j]? = some o->o.op≠ .select cs b)
  (hQ:∀ c a w,Q (.panic c) (a.put oi.dst v) w->Q (.panic c) a w) {S:World->Prop} (hk:∀ w w',S w->(pureOp oi.op=false->Old w w')->S w'):∀ (n:Nat) (l:Array Bool) (a:Act) (w:World),Cl ops l->
   (∀ j oj,ops[j]? = some oj->j≠i->l.getD j true=false->(∀ e∈oj.after,Region.binds .any e=true->e.on≠i)->oi.apart ops oj=true)->
   i∈Region.ready .any ops l->YieldsIf P ops S oi v a->S w->HeldR P ops B Q n (l.setIfInBounds i true) (a.put oi.dst v) w->HeldR P ops B Q (n+1) l a w:=by
 intro n
 induction n with
 | zero=>
  intro l a w _ _ hr hy hS H
  refine⟨fun h=>(by rw [h] at hr;cases hr),fun j hj=>?_⟩
  by_cases hji:j=i
  ·subst hji;exact hy.wpOp hi hS ⟨fun _=>Old.refl _,H⟩
  ·have h1:=ready_mono hj hji
   rw [H.1] at h1
   cases h1
 | succ n ih=>
  intro l a w hcl hfree hr hy hS H
  refine⟨fun h=>(by rw [h] at hr;cases hr),fun j hj=>?_⟩
  by_cases hji:j=i
  ·subst hji;exact hy.wpOp hi hS ⟨fun _=>Old.refl _,H⟩
  have h1:=H.2 j (ready_mono hj hji)
  obtain⟨hjun,oj,hoj,hall⟩:=mem_ready.1 hj
  obtain⟨hiun,oi',hoi',halli⟩:=mem_ready.1 hr
  rw [hi] at hoi'
  cases hoi'
  have unl:∀ k,l.getD k true=false->l.getD k false=true->False:=by
   intro k h1 h2
   rcases Bx k l.size with h' | h'
   ·simp [h'] at h1 h2;rw [h1] at h2;cases h2
   ·simp [Array.getElem?_eq_none h'] at h2
  have hnot:∀ e∈oj.after,Region.binds .any e=true->e.on≠i:=fun e he hb heq=>unl i hiun (heq ▸ hall e he hb)
  have hmay:pureOp oi.op=false->OB ops B j=true:=by
   intro hpu
   refine B6.2 ⟨i,AC.2 (Array.getElem?_eq_some_iff.1 hi).1,?_⟩
   have hne:(i != j)=true:=by rw [bne_iff_ne];exact fun h=>hji h.symm
   have b1:(B.getD j 0).testBit i=false:=by
    rw [<-AQ];exact fun h=>unl i hiun (XA hB hcl j oj hoj hall i h)
   have b2:(B.getD i 0).testBit j=false:=by
    rw [<-AQ];exact fun h=>unl j hjun (XA hB hcl i oi hi halli j h)
   simp only [hi,Option.map_some,Bj,hdet,hpu,hne,b1,b2,Bool.or_false,Bool.not_false,B7]
  have h2:=wpOp_putIf hoj (hfree j oj hoj hji hjun hnot) (fun cs b=>hsel i oi cs b hi) (fun cs b=>hsel j oj cs b hoj) hQ hy h1
  refine wpOp_mono (fun a' w' h3=>⟨h3.2.1,ih (l.setIfInBounds j true) a' w' (hcl.set hj) (fun k ok hk hki hun hno=>?_) (ready_mono hr (Ne.symm hji)) h3.1 (hk _ _ hS fun hp=>h3.2.1 (hmay hp)) ?_⟩) h2
  ·refine hfree k ok hk hki ?_ hno
   by_cases hjk:j=k
   ·subst hjk;exact hjun
   ·rw [getD_set_ne true hjk] at hun;exact hun
  ·rw [Array.setIfInBounds_comm _ _ hji]
   exact h3.2.2

theorem HeldR.first1 (hB:FP ops B=true) {i:Nat} {oi:Oper} {v:Value} (hi:ops[i]? = some oi) (hdet:isEff oi.op=false)
  (hsel:∀ (j:Nat) (o:Oper) cs b,ops[j]? = some o->o.op≠ .select cs b)
  (hQ:∀ c a w,Q (.panic c) (a.put oi.dst v) w->Q (.panic c) a w) (n:Nat) (l:Array Bool) (a:Act) (w:World) (hcl:Cl ops l)
  (hfree:∀ j oj,ops[j]? = some oj->j≠i->l.getD j true=false->(∀ e∈oj.after,Region.binds .any e=true->e.on≠i)->oi.apart ops oj=true)
  (hr:i∈Region.ready .any ops l) (hy:YieldsIf P ops (Old w) oi v a) (H:HeldR P ops B Q n (l.setIfInBounds i true) (a.put oi.dst v) w):HeldR P ops B Q (n+1) l a w:=by
 cases hp:pureOp oi.op with
 | true=>
  refine HeldR.first hB hi hdet hsel hQ (S:=fun _=>True) (fun _ _ _ _=>trivial) n l a w hcl hfree hr ?_ trivial H
  rcases hy with ⟨h1,h2⟩ | h
  ·exact .inl ⟨h1,fun w' _=>QI hp (h2 w (Old.refl w)) w'⟩
  ·exact .inr h
 | false=>
  exact HeldR.first hB hi hdet hsel hQ (S:=Old w) (fun _ _ h1 h2=>h1.trans (h2 hp)) n l a w hcl hfree hr hy (Old.refl w) H

def qOf:Op->Bool
 | .store _ _ _=>false
 | .call ⟨.builtin .append,_,_⟩=>false
 | _=>true
def Lu (ops:Array Oper) (B:List Nat):List Nat->Array Bool->Bool
 | [],l=>(Region.ready .any ops l).isEmpty
 | i::r,l=>(match ops[i]? with
   | none=>false
   | some o=>match isEff o.op with
    | true=>(match Region.ready .any ops l with | [j]=>Nat.beq i j | _=>false)&&(qOf o.op || !OB ops B i)
    | false=>Region.free .any ops l i&&(Region.ready .any ops l).contains i)&&Lu ops B r (l.setIfInBounds i true)
def PU (P:Program) (T:Tys) (n:Nat) (ops:Array Oper):List Nat->Fr->List AB->(Fr->List AB->Prop)->Prop
 | [],fr,H,K=>K fr H
 | i::r,fr,H,K=>match Jw ops.toList i with
  | none=>False
  | some o=>Il ops.toList o fr (fun fr=>GC P T n (qOf o.op) o fr H fun fr H=>PU P T n ops r fr H K) fun fr=>Na n o.dst (.v undef) fr fun fr=>PU P T n ops r fr H K
variable {T:Tys} {w0:Fl} {M0:Ms} {n d0:Nat} {ce:Ctx}
theorem Da {c:Ctx} {fr:Fr} {a:Act} (hf:FR w0 c n fr a) {o:Oper} {run skip:Fr->Prop} (h:Il ops.toList o fr run skip) :
  (Region.wanted o (yielded ops a.tmps)=true/\∃ fr',FR w0 c n fr' a/\run fr')\/(Region.wanted o (yielded ops a.tmps)=false/\∃ fr',FR w0 c n fr' a/\skip fr'):=by
 unfold Il at h
 split at h
 ·rename_i hg
  exact .inl ⟨by simp [Region.wanted,hg],fr,hf,h⟩
 ·rename_i j want hg
  rw [DU] at h
  split at h
  ·rename_i oj hj
   have hj':ops[j]? = some oj:=by simpa using hj
   split at h
   ·rename_i d hd
    have hgd:=hf.get d
    split at h
    ·rename_i t ht
     rw [ht] at hgd
     simp only [Rd] at hgd
     have hy:yielded ops a.tmps j=some t:=by
      unfold yielded
      simp only [hj',Option.bind_some,hd]
      have:a.tmps[d]? = some (.bool t):=by
       rw [Array.getD_eq_getD_getElem?] at hgd
       cases hq:a.tmps[d]? with
       | none=>rw [hq] at hgd;simp [undef] at hgd
       | some x=>rw [hq] at hgd;simp at hgd;rw [hgd]
      rw [this]
     have hl:=hf.lit ht
     split at h
     ·obtain⟨h1,h2⟩:=Eu h
      cases t with
      | true=>exact .inl ⟨by simp [Region.wanted,hg,hy],_,hl,h1 rfl⟩
      | false=>exact .inr ⟨by simp [Region.wanted,hg,hy],_,hl,h2 rfl⟩
     ·obtain⟨h1,h2⟩:=Eu h
      cases t with
      | true=>exact .inr ⟨by simp [Region.wanted,hg,hy],_,hl,h1 rfl⟩
      | false=>exact .inl ⟨by simp [Region.wanted,hg,hy],_,hl,h2 rfl⟩
    ·rename_i vs ht
     rw [ht] at hgd
     simp only [Rd] at hgd
     have hy:yielded ops a.tmps j=none:=by
      unfold yielded
      simp only [hj',Option.bind_some,hd]
      rw [Array.getD_eq_getD_getElem?] at hgd
      cases hq:a.tmps[d]? with
      | none=>rfl
      | some x=>rw [hq] at hgd;simp at hgd;rw [hgd]
     exact .inr ⟨by simp [Region.wanted,hg,hy],fr,hf,h⟩
    ·exact h.elim
   ·exact h.elim
  ·exact h.elim
theorem Gu (hT:TOk P T) (hB:FP ops B=true) (hns:Region.noSelect ops=true) {K:Fr->List AB->Prop} (hq:∀ a w,DR w0 M0 ce n K a w->Q .normal a w) (hpan:∀ c a w,¬Q (.panic c) a w) :
  ∀ (r:List Nat) (m:Nat) (l:Array Bool) (c:Ctx) (fr:Fr) (H:List AB) (a:Act),r.length<=m->Cl ops l->Lu ops B r l=true->HS w0 M0 c H->FR w0 c n fr a->Ext ce c->PU P T n ops r fr H K->HeldR P ops B Q m l a c.w
 | [],m,l,c,fr,H,a,hm,hcl,hd,hs,hf,he,h=>by
  simp only [Lu,List.isEmpty_iff] at hd
  cases m with
  | zero=>exact⟨hd,hq _ _ ⟨c,fr,H,rfl,h,hs,hf,he⟩⟩
  | succ m=>exact⟨fun _=>hq _ _ ⟨c,fr,H,rfl,h,hs,hf,he⟩,by rw [hd];simp⟩
 | i::r,m,l,c,fr,H,a,hm,hcl,hd,hs,hf,he,h=>by
  cases m with
  | zero=>simp at hm
  | succ m=>
   simp only [Ai,Nat.add_le_add_iff_right] at hm
   simp only [Lu,Bool.and_eq_true] at hd
   obtain⟨hd1,hd2⟩:=hd
   simp only [PU,DU] at h
   cases ho:ops[i]? with
   | none=>rw [ho] at hd1;simp at hd1
   | some o=>
    rw [ho] at hd1
    simp only at hd1
    rw [show ops.toList[i]? = some o by simpa using ho] at h
    simp only at h
    cases hE:isEff o.op with
    | true=>
     rw [hE] at hd1
     simp only [Bool.and_eq_true] at hd1
     obtain⟨hr,hmq⟩:=hd1
     have hr':Region.ready .any ops l=[i]:=by
      split at hr
      ·rename_i j hj;rw [hj,Ah hr]
      ·cases hr
     have hri:i∈Region.ready .any ops l:=by rw [hr'];simp
     refine⟨fun h0=>(by rw [hr'] at h0;cases h0),fun j hj=>?_⟩
     rw [hr',BG] at hj
     subst hj
     refine wpOp_step ho fun KK hK=>?_
     rcases Da hf h with ⟨hw,fr',hf',h⟩ | ⟨hw,fr',hf',h⟩
     ·rw [if_pos hw]
      refine EY hT hs hf' he h ?_
      rintro a' w' ⟨c',fr2,H',rfl,h1,h2,h3,h4⟩ hold
      refine hK _ _ ⟨fun hmay=>hold ?_,Gu hT hB hns hq hpan r m _ c' fr2 H' a' hm (hcl.set hri) hd2 h2 h3 h4 h1⟩
      rw [hmay] at hmq
      simpa using hmq
     ·rw [if_neg (by rw [hw];simp)]
      obtain⟨fr2,h1,h2⟩:=BV (v:=undef) hf' (by simp [Rd]) h
      exact hK _ _ ⟨fun _=>Old.refl _,Gu hT hB hns hq hpan r m _ c fr2 H _ hm (hcl.set hri) hd2 hs h2 he h1⟩
    | false=>
     rw [hE] at hd1
     simp only [Bool.and_eq_true] at hd1
     obtain⟨hfree,hr⟩:=hd1
     have hri:i∈Region.ready .any ops l:=by simpa using hr
     have step:∀ v fr2,YieldsIf P ops (Old c.w) o v a->FR w0 c n fr2 (a.put o.dst v)->PU P T n ops r fr2 H K->HeldR P ops B Q (m+1) l a c.w:=by
      intro v fr2 hy hf2 h2
      exact HeldR.first1 hB ho hE (Region.noSelect_spec hns) (fun c a w h=>(hpan _ _ _ h).elim) m l a c.w hcl (Region.free_spec ho hfree) hri hy
       (Gu hT hB hns hq hpan r m _ c fr2 H _ hm (hcl.set hri) hd2 hs hf2 he h2)
     rcases Da hf h with ⟨hw,fr',hf',h⟩ | ⟨hw,fr',hf',h⟩
     ·unfold GC at h
      rw [hE] at h
      obtain⟨rr,v,h1,h2,h3⟩:=(Gg hT hs hf' h).y
      obtain⟨fr2,h4,h5⟩:=BV hf' h3 h1
      exact step v fr2 (.inl ⟨hw,h2⟩) h5 h4
     ·obtain⟨fr2,h4,h5⟩:=BV (v:=undef) hf' (by simp [Rd]) h
      exact step undef fr2 (.inr ⟨hw,rfl⟩) h5 h4
def N5 (ops:Array Oper) (ord:List Nat):Bool:=FP ops (J4 ops)&&Region.noSelect ops&&Nat.ble ord.length ops.size&&Lu ops (J4 ops) ord (Array.replicate ops.size false)
theorem aDraw.of (hT:TOk P T) (hm:P.follows .mixedOrders=true) {id:Nat} {K:Fr->List AB->Prop} {fr:Fr} {H:List AB} (ord:List Nat) (hok:N5 ops ord=true) (h:PU P T n ops ord fr H K):aDraw P T n d0 id ops K fr H:=by
 simp only [N5,Bool.and_eq_true] at hok
 obtain⟨⟨⟨hB,hns⟩,hlen⟩,hok⟩:=hok
 refine⟨fun w0 M0 ce c a hs hf he hd Q hQ=>?_⟩
 refine wp_mono (Q:=fun e a w=>e = .normal/\DR w0 M0 ce n K a w) ?_ ?_
 ·refine wp_region_any hm (HeldR.any (B:=J4 ops) _ _ _ _ ?_)
  have hb:=(Below.refl c.w.heap.size c.w).drew
  obtain⟨h1,h2⟩:=hs.grow hb
  refine Gu (w0:=w0) (M0:=M0) (ce:=ce) hT hB hns (fun a w hl=>⟨rfl,hl⟩) (fun c a w h=>by cases h.1) ord _ _ { c with w:=c.w.drew } fr H a (Ad hlen) ?_ hok h1 (hf.ext h2) (he.trans h2) h
  intro j o hj hlj
  rcases Bx j ops.size with h' | h'
  ·simp [h'] at hlj
  ·simp [Array.getElem?_eq_none h'] at hj
 ·rintro e a w ⟨rfl,c',fr',H',rfl,h1,h2,h3,h4⟩
  exact hQ c' fr' H' a h1 h2 h3 h4
end
end Go.Proofs.YtldngmdpiifamaaGreatDoor.A
namespace Go.Proofs.YtldngmdpiifamaaGreatDoor.A
open Go.RowKit
theorem aLoop.rule {d0:Nat} {body:QA->Fr->List AB->Prop} {Q:QA} {fr:Fr} {H:List AB} (ι:Type) (st:ι->Fr × List AB) (I:ι->Prop) (μ:ι->Nat) (x0:ι) (h0:I x0) (hw:Wk d0 fr H (st x0).1 (st x0).2)
  (round:∀ x,I x->body (fun ex fr' H'=>match ex with | .normal=>∃ x',I x'/\μ x'<μ x/\Wk d0 fr' H' (st x').1 (st x').2 | e=>Q e fr' H') (st x).1 (st x).2):aLoop d0 body Q fr H:=
 ⟨.inr (.inl ⟨ι,st,I,μ,⟨x0,h0,hw⟩,round⟩)⟩
theorem aDraw.seq {P:Program} {T:Tys} {n d0:Nat} (hT:TOk P T) (hm:P.follows .mixedOrders=true) {id:Nat} {ops:Array Oper} {K:Fr->List AB->Prop} {fr:Fr} {H:List AB} (hok:N5 ops (List.range ops.size)=true) (h:PU P T n ops (List.range ops.size) fr H K):aDraw P T n d0 id ops K fr H:=
 aDraw.of hT hm _ hok h
end Go.Proofs.YtldngmdpiifamaaGreatDoor.A
end
section
namespace Go.Proofs.YtldngmdpiifamaaGreatDoor.A
open Go.RowKit
class Say (b:Bool) (p q:outParam Prop):Prop where
 yes:b=true->p
 no:b=false->q
theorem Al {t:Bool} {p q A B:Prop} [h:Say t p q] (h1:p->A) (h2:q->B):J_ t A B:=Af (fun e=>h1 (h.yes e)) fun e=>h2 (h.no e)
instance (priority:=10) sayAny (b:Bool):Say b (b=true) (b=false):=⟨id,id⟩
instance (priority:=100) sayDec (p:Prop) [Decidable p]:Say (decide p) p (¬p):=⟨of_decide_eq_true,of_decide_eq_false⟩
instance sayLt (a b:Int):Say (decide (a<b)) (a<b) (b<=a):=⟨of_decide_eq_true,fun h=>Int.not_lt.1 (of_decide_eq_false h)⟩
instance sayLe (a b:Int):Say (decide (a<=b)) (a<=b) (b<a):=⟨of_decide_eq_true,fun h=>Int.not_le.1 (of_decide_eq_false h)⟩
instance sayGt (a b:Int):Say (decide (a > b)) (b<a) (a<=b):=⟨of_decide_eq_true,fun h=>Int.not_lt.1 (of_decide_eq_false h)⟩
instance sayGe (a b:Int):Say (decide (a>=b)) (b<=a) (a<b):=⟨of_decide_eq_true,fun h=>Int.not_le.1 (of_decide_eq_false h)⟩
instance (priority:=2000) sayLtN (a b:Nat):Say (decide ((a:Int)<(b:Int))) (a<b) (b<=a):=⟨fun h=>Int.ofNat_lt.1 (of_decide_eq_true h),fun h=>Int.ofNat_le.1 (Int.not_lt.1 (of_decide_eq_false h))⟩
instance (priority:=2000) sayLeN (a b:Nat):Say (decide ((a:Int)<=(b:Int))) (a<=b) (b<a):=⟨fun h=>Int.ofNat_le.1 (of_decide_eq_true h),fun h=>Int.ofNat_lt.1 (Int.not_le.1 (of_decide_eq_false h))⟩
instance (priority:=2000) sayGtN (a b:Nat):Say (decide ((a:Int) > (b:Int))) (b<a) (a<=b):=⟨fun h=>Int.ofNat_lt.1 (of_decide_eq_true h),fun h=>Int.ofNat_le.1 (Int.not_lt.1 (of_decide_eq_false h))⟩
instance (priority:=2000) sayGeN (a b:Nat):Say (decide ((a:Int)>=(b:Int))) (b<=a) (a<b):=⟨fun h=>Int.ofNat_le.1 (of_decide_eq_true h),fun h=>Int.ofNat_lt.1 (Int.not_le.1 (of_decide_eq_false h))⟩
instance (priority:=2000) sayEqN (a b:Nat):Say ((a:Int) == (b:Int)) (a=b) (a≠b):=⟨fun h=>Int.ofNat.inj (eq_of_beq h),fun h e=>ne_of_beq_false h (by rw [e])⟩
instance (priority:=2000) sayNeN (a b:Nat):Say ((a:Int) != (b:Int)) (a≠b) (a=b):=⟨fun h e=>bne_iff_ne.1 h (by rw [e]),fun h=>Int.ofNat.inj (by simpa using h)⟩
instance sayEq {α:Type} [BEq α] [LawfulBEq α] (a b:α):Say (a == b) (a=b) (a≠b):=⟨eq_of_beq,fun h=>ne_of_beq_false h⟩
instance sayNe {α:Type} [BEq α] [LawfulBEq α] (a b:α):Say (a != b) (a≠b) (a=b):=⟨fun h=>bne_iff_ne.1 h,fun h=>by simpa using h⟩
instance sayNot (b:Bool) (p q:Prop) [h:Say b p q]:Say (!b) q p:=⟨fun e=>h.no (by simpa using e),fun e=>h.yes (by simpa using e)⟩

inductive Tr where
 | fin
 | one (i:Nat) (r:Tr)
 | two (i:Nat) (a:Tr) (j:Nat) (b:Tr)
def Tr.depth:Tr->Nat
 | .fin=>0
 | .one _ r=>r.depth+1
 | .two _ a _ b=>max a.depth b.depth+1
section
variable {P:Program} {ops:Array Oper} {B:List Nat} {Q:Exit->Act->World->Prop}
def VQ (ops:Array Oper) (B:List Nat) (i:Nat):Bool:=match ops[i]? with | some o=>isEff o.op&&(qOf o.op || !OB ops B i) | none=>false
def Gj (ops:Array Oper) (B:List Nat):Tr->Array Bool->Bool
 | .fin,l=>(Region.ready .any ops l).isEmpty
 | .one i r,l=>(match ops[i]? with
   | none=>false
   | some o=>match isEff o.op with
    | true=>(match Region.ready .any ops l with | [j]=>Nat.beq i j | _=>false)&&(qOf o.op || !OB ops B i)
    | false=>Region.free .any ops l i&&(Region.ready .any ops l).contains i)&&Gj ops B r (l.setIfInBounds i true)
 | .two i a j b,l=>(match Region.ready .any ops l with | [x,y]=>Nat.beq x i&&Nat.beq y j | _=>false)&&VQ ops B i&&VQ ops B j&&Gj ops B a (l.setIfInBounds i true)&&Gj ops B b (l.setIfInBounds j true)
def K0 (P:Program) (T:Tys) (n:Nat) (ops:Array Oper) (i:Nat) (fr:Fr) (H:List AB) (K:Fr->List AB->Prop):Prop:=
 match Jw ops.toList i with
 | none=>False
 | some o=>Il ops.toList o fr (fun fr=>GC P T n (qOf o.op) o fr H K) fun fr=>Na n o.dst (.v undef) fr fun fr=>K fr H
def Nc (P:Program) (T:Tys) (n:Nat) (ops:Array Oper):Tr->Fr->List AB->(Fr->List AB->Prop)->Prop
 | .fin,fr,H,K=>K fr H
 | .one i r,fr,H,K=>K0 P T n ops i fr H fun fr H=>Nc P T n ops r fr H K
 | .two i a j b,fr,H,K=>(K0 P T n ops i fr H fun fr H=>Nc P T n ops a fr H K)/\(K0 P T n ops j fr H fun fr H=>Nc P T n ops b fr H K)
variable {T:Tys} {w0:Fl} {M0:Ms} {n d0:Nat} {ce:Ctx}
theorem Ls (hT:TOk P T) {i:Nat} {o:Oper} (ho:ops[i]? = some o) {m:Nat} {l:Array Bool} (hmq:(qOf o.op || !OB ops B i)=true) {c:Ctx} {fr:Fr} {H:List AB} {a:Act} (hs:HS w0 M0 c H) (hf:FR w0 c n fr a) (he:Ext ce c) {K:Fr->List AB->Prop}
  (hk:∀ (c':Ctx) (fr':Fr) (H':List AB) (a':Act),HS w0 M0 c' H'->FR w0 c' n fr' a'->Ext ce c'->K fr' H'->HeldR P ops B Q m (l.setIfInBounds i true) a' c'.w)
  (h:K0 P T n ops i fr H K):wpOp P ops Q i (fun a' w'=>(OB ops B i=true->Old c.w w')/\HeldR P ops B Q m (l.setIfInBounds i true) a' w') a c.w:=by
 simp only [K0,DU] at h
 rw [show ops.toList[i]? = some o by simpa using ho] at h
 simp only at h
 refine wpOp_step ho fun KK hK=>?_
 rcases Da hf h with ⟨hw,fr',hf',h⟩ | ⟨hw,fr',hf',h⟩
 ·rw [if_pos hw]
  refine EY hT hs hf' he h ?_
  rintro a' w' ⟨c',fr2,H',rfl,h1,h2,h3,h4⟩ hold
  refine hK _ _ ⟨fun hmay=>hold ?_,hk c' fr2 H' a' h2 h3 h4 h1⟩
  rw [hmay] at hmq
  simpa using hmq
 ·rw [if_neg (by rw [hw];simp)]
  obtain⟨fr2,h1,h2⟩:=BV (v:=undef) hf' (by simp [Rd]) h
  exact hK _ _ ⟨fun _=>Old.refl _,hk c fr2 H _ hs h2 he h1⟩
theorem F5 (hT:TOk P T) (hB:FP ops B=true) (hns:Region.noSelect ops=true) {K:Fr->List AB->Prop} (hq:∀ a w,DR w0 M0 ce n K a w->Q .normal a w) (hpan:∀ c a w,¬Q (.panic c) a w) :
  ∀ (r:Tr) (m:Nat) (l:Array Bool) (c:Ctx) (fr:Fr) (H:List AB) (a:Act),r.depth<=m->Cl ops l->Gj ops B r l=true->HS w0 M0 c H->FR w0 c n fr a->Ext ce c->Nc P T n ops r fr H K->HeldR P ops B Q m l a c.w
 | .fin,m,l,c,fr,H,a,hm,hcl,hd,hs,hf,he,h=>by
  simp only [Gj,List.isEmpty_iff] at hd
  cases m with
  | zero=>exact⟨hd,hq _ _ ⟨c,fr,H,rfl,h,hs,hf,he⟩⟩
  | succ m=>exact⟨fun _=>hq _ _ ⟨c,fr,H,rfl,h,hs,hf,he⟩,by rw [hd];simp⟩
 | .two i x j y,m,l,c,fr,H,a,hm,hcl,hd,hs,hf,he,h=>by
  cases m with
  | zero=>simp [Tr.depth] at hm
  | succ m=>
   simp only [Tr.depth] at hm
   simp only [Gj,Bool.and_eq_true] at hd
   obtain⟨⟨⟨⟨hr,hi⟩,hj⟩,hx⟩,hy⟩:=hd
   have hr':Region.ready .any ops l=[i,j]:=by
    split at hr
    ·rename_i p q hpq
     simp only [Bool.and_eq_true] at hr
     rw [hpq,Ah hr.1,Ah hr.2]
    ·cases hr
   obtain⟨h1,h2⟩:=h
   have go:∀ k r,VQ ops B k=true->r.depth<=m->k∈Region.ready .any ops l->Gj ops B r (l.setIfInBounds k true)=true->(K0 P T n ops k fr H fun fr H=>Nc P T n ops r fr H K)->(∀ (c:Ctx) (fr:Fr) (H:List AB) (a:Act),HS w0 M0 c H->FR w0 c n fr a->Ext ce c->Nc P T n ops r fr H K->HeldR P ops B Q m (l.setIfInBounds k true) a c.w)->
     wpOp P ops Q k (fun a' w'=>(OB ops B k=true->Old c.w w')/\HeldR P ops B Q m (l.setIfInBounds k true) a' w') a c.w:=by
    intro k r hk _ _ _ hst hrec
    unfold VQ at hk
    split at hk
    ·rename_i o ho
     simp only [Bool.and_eq_true] at hk
     exact Ls hT ho hk.2 hs hf he hrec hst
    ·cases hk
   refine⟨fun h0=>(by rw [hr'] at h0;cases h0),fun k hk=>?_⟩
   have hi':i∈Region.ready .any ops l:=by rw [hr'];simp
   have hj':j∈Region.ready .any ops l:=by rw [hr'];simp
   rw [hr',Bq,BG] at hk
   rcases hk with rfl | rfl
   ·exact go k x hi (by omega) hi' hx h1 fun c' fr' H' a' q1 q2 q3 q4=>F5 hT hB hns hq hpan x m _ c' fr' H' a' (by omega) (hcl.set hi') hx q1 q2 q3 q4
   ·exact go k y hj (by omega) hj' hy h2 fun c' fr' H' a' q1 q2 q3 q4=>F5 hT hB hns hq hpan y m _ c' fr' H' a' (by omega) (hcl.set hj') hy q1 q2 q3 q4
 | .one i r,m,l,c,fr,H,a,hm,hcl,hd,hs,hf,he,h=>by
  cases m with
  | zero=>simp [Tr.depth] at hm
  | succ m=>
   simp only [Tr.depth,Nat.add_le_add_iff_right] at hm
   simp only [Gj,Bool.and_eq_true] at hd
   obtain⟨hd1,hd2⟩:=hd
   simp only [Nc] at h
   cases ho:ops[i]? with
   | none=>rw [ho] at hd1;simp at hd1
   | some o=>
    rw [ho] at hd1
    simp only at hd1
    cases hE:isEff o.op with
    | true=>
     rw [hE] at hd1
     simp only [Bool.and_eq_true] at hd1
     obtain⟨hr,hmq⟩:=hd1
     have hr':Region.ready .any ops l=[i]:=by
      split at hr
      ·rename_i j hj;rw [hj,Ah hr]
      ·cases hr
     have hri:i∈Region.ready .any ops l:=by rw [hr'];simp
     refine⟨fun h0=>(by rw [hr'] at h0;cases h0),fun j hj=>?_⟩
     rw [hr',BG] at hj
     subst hj
     exact Ls hT ho hmq hs hf he (fun c' fr' H' a' q1 q2 q3 q4=>F5 hT hB hns hq hpan r m _ c' fr' H' a' hm (hcl.set hri) hd2 q1 q2 q3 q4) h
    | false=>
     rw [hE] at hd1
     simp only [Bool.and_eq_true] at hd1
     obtain⟨hfree,hr⟩:=hd1
     have hri:i∈Region.ready .any ops l:=by simpa using hr
     simp only [K0,DU] at h
     rw [show ops.toList[i]? = some o by simpa using ho] at h
     simp only at h
     have step:∀ v fr2,YieldsIf P ops (Old c.w) o v a->FR w0 c n fr2 (a.put o.dst v)->Nc P T n ops r fr2 H K->HeldR P ops B Q (m+1) l a c.w:=by
      intro v fr2 hy hf2 h2
      exact HeldR.first1 hB ho hE (Region.noSelect_spec hns) (fun c a w h=>(hpan _ _ _ h).elim) m l a c.w hcl (Region.free_spec ho hfree) hri hy
       (F5 hT hB hns hq hpan r m _ c fr2 H _ hm (hcl.set hri) hd2 hs hf2 he h2)
     rcases Da hf h with ⟨hw,fr',hf',h⟩ | ⟨hw,fr',hf',h⟩
     ·unfold GC at h
      rw [hE] at h
      obtain⟨rr,v,h1,h2,h3⟩:=(Gg hT hs hf' h).y
      obtain⟨fr2,h4,h5⟩:=BV hf' h3 h1
      exact step v fr2 (.inl ⟨hw,h2⟩) h5 h4
     ·obtain⟨fr2,h4,h5⟩:=BV (v:=undef) hf' (by simp [Rd]) h
      exact step undef fr2 (.inr ⟨hw,rfl⟩) h5 h4
def canonK:List Nat->Fr->(Fr->Prop)->Prop
 | [],_,k=>k []
 | d::r,fr,k=>D5 (fget fr d) fun x=>canonK r fr fun l=>k ((d,x)::l)
theorem canonK_iff:∀ {ds:List Nat} {fr:Fr} {k:Fr->Prop},canonK ds fr k->k (ds.map fun d=>(d,fget fr d))
 | [],_,_,h=>h
 | d::r,fr,k,h=>by simp only [canonK] at h;exact canonK_iff (ds:=r) (k:=fun l=>k ((d,fget fr d)::l)) (BA h)
theorem MC (fr:Fr):∀ (ds:List Nat) (i:Nat),fget (ds.map fun d=>(d,fget fr d)) i = .top\/fget (ds.map fun d=>(d,fget fr d)) i=fget fr i
 | [],_=> .inl rfl
 | d::r,i=>by
  simp only [Ay,fget]
  cases hb:Nat.beq d i with
  | true=>have:=Ah hb;subst this;exact .inr rfl
  | false=>exact MC fr r i
theorem FR.canon {c:Ctx} {fr:Fr} {a:Act} (h:FR w0 c n fr a) (ds:List Nat):FR w0 c n (ds.map fun d=>(d,fget fr d)) a:=by
 refine⟨h.size,h.defers,fun i=>?_⟩
 rcases MC fr ds i with e | e <;> rw [e]
 ·simp [Rd]
 ·exact h.get i
def slots:Fr->List Nat
 | []=> []
 | (i,_)::r=>i::slots r
def Q0 (ops:Array Oper) (tr:Tr):Bool:=FP ops (J4 ops)&&Region.noSelect ops&&Nat.ble tr.depth ops.size&&Gj ops (J4 ops) tr (Array.replicate ops.size false)
theorem aDraw.tree (hT:TOk P T) (hm:P.follows .mixedOrders=true) {id:Nat} {K:Fr->List AB->Prop} {fr:Fr} {H:List AB} (tr:Tr) (ds:List Nat) {F:Fr} {H2:List AB} (hok:Q0 ops tr=true)
  (h:Nc P T n ops tr fr H fun fr' H'=>canonK (ds ++ slots fr) fr' fun l=>l=F/\H'=H2) (hk:K F H2):aDraw P T n d0 id ops K fr H:=by
 simp only [Q0,Bool.and_eq_true] at hok
 obtain⟨⟨⟨hB,hns⟩,hlen⟩,hok⟩:=hok
 refine⟨fun w0 M0 ce c a hs hf he hd Q hQ=>?_⟩
 refine wp_mono (Q:=fun e a w=>e = .normal/\DR w0 M0 ce n (fun fr' H'=>canonK (ds ++ slots fr) fr' fun l=>l=F/\H'=H2) a w) ?_ ?_
 ·refine wp_region_any hm (HeldR.any (B:=J4 ops) _ _ _ _ ?_)
  have hb:=(Below.refl c.w.heap.size c.w).drew
  obtain⟨h1,h2⟩:=hs.grow hb
  refine F5 (w0:=w0) (M0:=M0) (ce:=ce) hT hB hns (fun a w hl=>⟨rfl,hl⟩) (fun c a w h=>by cases h.1) tr _ _ { c with w:=c.w.drew } fr H a (Ad hlen) ?_ hok h1 (hf.ext h2) (he.trans h2) h
  intro j o hj hlj
  rcases Bx j ops.size with h' | h'
  ·simp [h'] at hlj
  ·simp [Array.getElem?_eq_none h'] at hj
 ·rintro e a w ⟨rfl,c',fr',H',rfl,h1,h2,h3,h4⟩
  obtain⟨e1,rfl⟩:=canonK_iff h1
  exact hQ c' F H' a hk h2 (e1 ▸ h3.canon _) h4
end
def tys:Tys:= [
 (2,⟨1,false, [.int .i64 0], .int .i64⟩),
 (3,⟨1,false, [.int .i64 0], .int .i64⟩),
 (4,⟨1,false, [.bool false], .bool⟩),
 (5,⟨1,false, [.int .u8 0], .int .u8⟩),
 (6,⟨1,false, [.int .u8 0], .int .u8⟩),
 (7,⟨4,true, [.int .i64 0, .int .i64 0, .bool false, .int .u8 0], .struct [(0,1),(1,1),(2,1),(3,1)]⟩),
 (8,⟨4,true, [.int .i64 0, .int .i64 0, .bool false, .int .u8 0], .struct [(0,1),(1,1),(2,1),(3,1)]⟩),
 (9,⟨1,false, [.string ⟨#[]⟩], .str⟩),
 (10,⟨1,false, [.string ⟨#[]⟩], .str⟩),
 (11,⟨1,false, [.string ⟨#[]⟩], .str⟩),
 (12,⟨1,false, [.int .u64 0], .int .u64⟩),
 (13,⟨2,true, [.string ⟨#[]⟩, .int .u64 0], .struct [(0,1),(1,1)]⟩),
 (14,⟨2,true, [.string ⟨#[]⟩, .int .u64 0], .struct [(0,1),(1,1)]⟩),
 (15,⟨1,false, [.pointer none], .other⟩),
 (16,⟨1,false, [.pointer none], .other⟩),
 (17,⟨1,false, [.pointer none], .other⟩),
 (18,⟨1,true, [.pointer none], .struct [(0,1)]⟩),
 (19,⟨1,true, [.pointer none], .struct [(0,1)]⟩),
 (20,⟨1,false, [.nilIface], .ifc true⟩),
 (21,⟨1,false, [.int .i32 0], .int .i32⟩),
 (22,⟨5,true, [.int .i64 0, .int .i64 0, .int .i64 0, .int .i64 0, .int .i64 0], .struct [(0,1),(1,1),(2,1),(3,1),(4,1)]⟩),
 (23,⟨5,true, [.int .i64 0, .int .i64 0, .int .i64 0, .int .i64 0, .int .i64 0], .struct [(0,1),(1,1),(2,1),(3,1),(4,1)]⟩),
 (24,⟨1,false, [.slice none 0 0], .slice 3 1⟩),
 (25,⟨1,false, [.slice none 0 0], .slice 110 4⟩),
 (27,⟨1,false, [.int .i64 0], .int .i64⟩),
 (29,⟨1,false, [.slice none 0 0], .slice 87 3⟩),
 (30,⟨1,false, [.slice none 0 0], .slice 130 2⟩),
 (31,⟨4,true, [.slice none 0 0, .slice none 0 0, .int .i64 0, .int .i64 0], .struct [(0,1),(1,1),(2,1),(3,1)]⟩),
 (32,⟨4,true, [.slice none 0 0, .slice none 0 0, .int .i64 0, .int .i64 0], .struct [(0,1),(1,1),(2,1),(3,1)]⟩),
 (33,⟨1,false, [.slice none 0 0], .slice 78 4⟩),
 (37,⟨1,false, [.int .u64 0], .int .u64⟩),
 (38,⟨1,false, [.slice none 0 0], .slice 132 3⟩),
 (39,⟨7,true, [.int .i64 0, .int .i64 0, .int .i64 0, .int .i64 0, .int .i64 0, .string ⟨#[]⟩, .slice none 0 0], .struct [(0,1),(1,1),(2,1),(3,1),(4,1),(5,1),(6,1)]⟩),
 (40,⟨7,true, [.int .i64 0, .int .i64 0, .int .i64 0, .int .i64 0, .int .i64 0, .string ⟨#[]⟩, .slice none 0 0], .struct [(0,1),(1,1),(2,1),(3,1),(4,1),(5,1),(6,1)]⟩),
 (41,⟨4,true, [.int .i64 0, .int .i64 0, .int .i64 0, .slice none 0 0], .struct [(0,1),(1,1),(2,1),(3,1)]⟩),
 (42,⟨4,true, [.int .i64 0, .int .i64 0, .int .i64 0, .slice none 0 0], .struct [(0,1),(1,1),(2,1),(3,1)]⟩),
 (43,⟨14,true, [.int .i64 0, .int .i64 0, .int .i64 0, .int .i64 0, .int .i64 0, .string ⟨#[]⟩, .slice none 0 0, .slice none 0 0, .bool false, .int .i64 0, .int .i64 0, .int .i64 0, .int .i64 0, .slice none 0 0], .struct [(0,7),(7,1),(8,1),(9,1),(10,4)]⟩),
 (44,⟨14,true, [.int .i64 0, .int .i64 0, .int .i64 0, .int .i64 0, .int .i64 0, .string ⟨#[]⟩, .slice none 0 0, .slice none 0 0, .bool false, .int .i64 0, .int .i64 0, .int .i64 0, .int .i64 0, .slice none 0 0], .struct [(0,7),(7,1),(8,1),(9,1),(10,4)]⟩),
 (66,⟨1,false, [.pointer none], .other⟩),
 (69,⟨1,false, [.pointer none], .other⟩),
 (70,⟨21,true, [.int .i64 0, .int .i64 0, .int .i64 0, .int .i64 0, .int .i64 0, .pointer none, .int .i64 0, .int .i64 0, .int .i64 0, .int .i64 0, .int .i64 0, .string ⟨#[]⟩, .slice none 0 0, .slice none 0 0, .bool false, .int .i64 0, .int .i64 0, .int .i64 0, .int .i64 0, .slice none 0 0, .int .i64 0], .struct [(0,5),(5,1),(6,14),(20,1)]⟩),
 (71,⟨21,true, [.int .i64 0, .int .i64 0, .int .i64 0, .int .i64 0, .int .i64 0, .pointer none, .int .i64 0, .int .i64 0, .int .i64 0, .int .i64 0, .int .i64 0, .string ⟨#[]⟩, .slice none 0 0, .slice none 0 0, .bool false, .int .i64 0, .int .i64 0, .int .i64 0, .int .i64 0, .slice none 0 0, .int .i64 0], .struct [(0,5),(5,1),(6,14),(20,1)]⟩),
 (72,⟨4,true, [.slice none 0 0, .slice none 0 0, .int .i64 0, .int .i64 0], .struct [(0,4)]⟩),
 (73,⟨4,true, [.slice none 0 0, .slice none 0 0, .int .i64 0, .int .i64 0], .struct [(0,4)]⟩),
 (75,⟨1,false, [.slice none 0 0], .slice 88 2⟩),
 (76,⟨1,false, [.slice none 0 0], .slice 83 3⟩),
 (77,⟨4,true, [.int .i64 0, .int .i64 0, .int .i64 0, .slice none 0 0], .struct [(0,1),(1,1),(2,1),(3,1)]⟩),
 (78,⟨4,true, [.int .i64 0, .int .i64 0, .int .i64 0, .slice none 0 0], .struct [(0,1),(1,1),(2,1),(3,1)]⟩),
 (80,⟨1,false, [.slice none 0 0], .slice 5 1⟩),
 (82,⟨3,true, [.int .i64 0, .int .i64 0, .slice none 0 0], .struct [(0,1),(1,1),(2,1)]⟩),
 (83,⟨3,true, [.int .i64 0, .int .i64 0, .slice none 0 0], .struct [(0,1),(1,1),(2,1)]⟩),
 (84,⟨8,true, [.int .i64 0, .int .i64 0, .int .i64 0, .int .i64 0, .int .i64 0, .int .i64 0, .int .i64 0, .slice none 0 0], .struct [(0,1),(1,1),(2,1),(3,1),(4,1),(5,3)]⟩),
 (85,⟨8,true, [.int .i64 0, .int .i64 0, .int .i64 0, .int .i64 0, .int .i64 0, .int .i64 0, .int .i64 0, .slice none 0 0], .struct [(0,1),(1,1),(2,1),(3,1),(4,1),(5,3)]⟩),
 (86,⟨3,true, [.int .i64 0, .slice none 0 0, .slice none 0 0], .struct [(0,1),(1,1),(2,1)]⟩),
 (87,⟨3,true, [.int .i64 0, .slice none 0 0, .slice none 0 0], .struct [(0,1),(1,1),(2,1)]⟩),
 (88,⟨2,true, [.int .i64 0, .int .i64 0], .arr 2 3 1⟩),
 (95,⟨3,true, [.int .i64 0, .int .i64 0, .slice none 0 0], .struct [(0,1),(1,1),(2,1)]⟩),
 (96,⟨3,true, [.int .i64 0, .int .i64 0, .slice none 0 0], .struct [(0,1),(1,1),(2,1)]⟩),
 (106,⟨1,false, [.slice none 0 0], .slice 85 8⟩),
 (110,⟨4,true, [.int .i64 0, .int .i64 0, .int .i64 0, .int .i64 0], .arr 4 3 1⟩),
 (112,⟨1,false, [.pointer none], .other⟩),
 (113,⟨1,false, [.pointer none], .other⟩),
 (115,⟨20,true, [.int .i64 0, .int .i64 0, .int .i64 0, .int .i64 0, .int .i64 0, .pointer none, .int .i64 0, .int .i64 0, .int .i64 0, .int .i64 0, .int .i64 0, .string ⟨#[]⟩, .slice none 0 0, .slice none 0 0, .bool false, .int .i64 0, .int .i64 0, .int .i64 0, .int .i64 0, .slice none 0 0], .struct [(0,5),(5,1),(6,14)]⟩),
 (116,⟨20,true, [.int .i64 0, .int .i64 0, .int .i64 0, .int .i64 0, .int .i64 0, .pointer none, .int .i64 0, .int .i64 0, .int .i64 0, .int .i64 0, .int .i64 0, .string ⟨#[]⟩, .slice none 0 0, .slice none 0 0, .bool false, .int .i64 0, .int .i64 0, .int .i64 0, .int .i64 0, .slice none 0 0], .struct [(0,5),(5,1),(6,14)]⟩),
 (129,⟨2,true, [.int .i64 0, .slice none 0 0], .struct [(0,1),(1,1)]⟩),
 (130,⟨2,true, [.int .i64 0, .slice none 0 0], .struct [(0,1),(1,1)]⟩),
 (131,⟨3,true, [.slice none 0 0, .int .i64 0, .int .i64 0], .struct [(0,1),(1,1),(2,1)]⟩),
 (132,⟨3,true, [.slice none 0 0, .int .i64 0, .int .i64 0], .struct [(0,1),(1,1),(2,1)]⟩),
 (145,⟨1,false, [.slice none 0 0], .slice 200 3⟩),
 (146,⟨1,true, [.slice none 0 0], .struct [(0,1)]⟩),
 (147,⟨1,true, [.slice none 0 0], .struct [(0,1)]⟩),
 (164,⟨4,true, [.slice none 0 0, .slice none 0 0, .int .i64 0, .int .i64 0], .struct [(0,4)]⟩),
 (166,⟨1,false, [.pointer none], .other⟩),
 (173,⟨1,false, [.slice none 0 0], .slice 187 2⟩),
 (186,⟨2,true, [.int .i64 0, .slice none 0 0], .struct [(0,1),(1,1)]⟩),
 (187,⟨2,true, [.int .i64 0, .slice none 0 0], .struct [(0,1),(1,1)]⟩),
 (199,⟨3,true, [.int .i64 0, .int .i64 0, .bool false], .struct [(0,1),(1,1),(2,1)]⟩),
 (200,⟨3,true, [.int .i64 0, .int .i64 0, .bool false], .struct [(0,1),(1,1),(2,1)]⟩),
 (221,⟨1,false, [.int .u32 0], .int .u32⟩),
 (223,⟨1,false, [.nilFunc], .other⟩),
 (229,⟨1,false, [.pointer none], .other⟩),
 (230,⟨18,true, [.int .i64 0, .int .i64 0, .int .i64 0, .int .i64 0, .int .i64 0, .int .i64 0, .int .i64 0, .int .i64 0, .int .i64 0, .int .i64 0, .string ⟨#[]⟩, .slice none 0 0, .slice none 0 0, .slice none 0 0, .int .i64 0, .int .i64 0, .int .i64 0, .slice none 0 0], .struct [(0,5),(5,7),(12,1),(13,1),(14,1),(15,1),(16,1),(17,1)]⟩),
 (231,⟨18,true, [.int .i64 0, .int .i64 0, .int .i64 0, .int .i64 0, .int .i64 0, .int .i64 0, .int .i64 0, .int .i64 0, .int .i64 0, .int .i64 0, .string ⟨#[]⟩, .slice none 0 0, .slice none 0 0, .slice none 0 0, .int .i64 0, .int .i64 0, .int .i64 0, .slice none 0 0], .struct [(0,5),(5,7),(12,1),(13,1),(14,1),(15,1),(16,1),(17,1)]⟩),
 (246,⟨0,true, [], .struct []⟩),
 (247,⟨0,true, [], .struct []⟩),
 (249,⟨3,true, [.int .i64 0, .int .i64 0, .slice none 0 0], .struct [(0,1),(1,1),(2,1)]⟩),
 (250,⟨3,true, [.int .i64 0, .int .i64 0, .slice none 0 0], .struct [(0,1),(1,1),(2,1)]⟩),
 (281,⟨1,false, [.slice none 0 0], .slice 21 1⟩),
 (285,⟨1,false, [.int .u64 0], .int .u64⟩),
 (289,⟨1,false, [.int .u16 0], .int .u16⟩),
 (290,⟨1,false, [.slice none 0 0], .slice 80 1⟩),
 (312,⟨2,true, [.int .u8 0, .int .u8 0], .struct [(0,1),(1,1)]⟩),
 (313,⟨2,true, [.int .u8 0, .int .u8 0], .struct [(0,1),(1,1)]⟩),
 (314,⟨32,true, [.int .u8 0, .int .u8 0, .int .u8 0, .int .u8 0, .int .u8 0, .int .u8 0, .int .u8 0, .int .u8 0, .int .u8 0, .int .u8 0, .int .u8 0, .int .u8 0, .int .u8 0, .int .u8 0, .int .u8 0, .int .u8 0, .int .u8 0, .int .u8 0, .int .u8 0, .int .u8 0, .int .u8 0, .int .u8 0, .int .u8 0, .int .u8 0, .int .u8 0, .int .u8 0, .int .u8 0, .int .u8 0, .int .u8 0, .int .u8 0, .int .u8 0, .int .u8 0], .arr 16 313 2⟩),
 (322,⟨4,true, [.pointer none, .pointer none, .pointer none, .string ⟨#[]⟩], .struct [(0,1),(1,1),(2,1),(3,1)]⟩),
 (323,⟨4,true, [.pointer none, .pointer none, .pointer none, .string ⟨#[]⟩], .struct [(0,1),(1,1),(2,1),(3,1)]⟩),
 (328,⟨1,false, [.int .u8 0], .int .u8⟩),
 (329,⟨1,false, [.int .u8 0], .int .u8⟩),
 (331,⟨1,false, [.pointer none], .other⟩),
 (332,⟨1,false, [.int .i32 0], .int .i32⟩),
 (333,⟨1,false, [.int .i32 0], .int .i32⟩),
 (337,⟨1,false, [.pointer none], .other⟩)]
theorem tys_ok:TOk Tryz.prog tys:=by
 refine⟨?_,?_,?_,?_,?_,?_,?_,?_,?_,?_,?_,?_,?_,?_,?_,?_,?_,?_,?_,?_,?_,?_,?_,?_,?_,?_,?_,?_,?_,?_,?_,?_,?_,?_,?_,?_,?_,?_,?_,?_,?_,?_,?_,?_,?_,?_,?_,?_,?_,?_,?_,?_,?_,?_,?_,?_,?_,?_,?_,?_,?_,?_,?_,?_,?_,?_,?_,?_,?_,?_,?_,?_,?_,?_,?_,?_,?_,?_,?_,?_,?_,?_,?_,?_,?_,?_,?_,?_,?_,?_,?_,?_,?_,?_,?_,?_,?_,?_,?_,?_,?_,?_,trivial⟩ <;> (unfold TyOk;kernel_rfl)
theorem ri {A:AV} (c:Ctx) (v:Value) (h:Rd A c v):Rd A c v:=h
theorem Fn.st {f:FuncId} {fn:Func} {body:Code} {args:List AV} {K:AV→Prop} (hf:Tryz.prog.funcs[f]? = some fn) (hb:fn.body=some body) (h:Ca Tryz.prog tys fn.ntmps 0 body (Xr tys fn.results.toList K) (frOf 0 args) []) (hname:(fn.name == "runtime.NumGoroutine")=false:=by rfl) (hn:Nat.ble args.length fn.ntmps=true:=by rfl):Fn Tryz.prog f args K:=Fn.of tys_ok hf hb hname (Ad hn) h
theorem mixed:Tryz.prog.follows .mixedOrders=true:=by kernel_rfl
def bA (b:List UInt8):AV:= .sl 1 b.length fun i=> [.v (.int .u8 (b.getD i 0).toNat)]
def iA (l:List Int):AV:= .sl 1 l.length fun i=> [.v (.int .i64 (l.getD i 0))]
def D4 (x:Img):List AV:= [.v (.int .i64 x.zone), .v (.int .i64 x.what),bA x.bytes]
def Ff (l:List Img):AV:= .sl 3 l.length fun i=>D4 (l.getD i ⟨0,0, []⟩)
def EE (x:Rc):List AV:= [.v (.int .i64 x.kind), .v (.int .i64 x.seq), .v (.int .i64 x.epoch), .v (.int .i64 x.at_), .v (.int .i64 x.of_), .v (.int .i64 x.img.zone), .v (.int .i64 x.img.what),bA x.img.bytes]
def A7 (g:Geo):List AV:= [.v (.int .i64 g.z), .v (.int .i64 g.d), .v (.int .i64 g.sp), .v (.int .i64 g.sl), .v (.int .i64 g.an)]

theorem wi {n:Int} (h : -9223372036854775808<=n/\n<=9223372036854775807):IntKind.i64.wrap n=n:=IntWalk.i64_in n h
theorem AA {k:Nat} (h:k<1000000000000):AV.v (.int .i64 (IntKind.i64.wrap ((k:Int)+1))) = .v (.int .i64 ((k+1:Nat):Int)):=by
 rw [wi (by omega)];rfl

theorem Gk {c:Ctx} {u:Value} {b:List UInt8} (h:Rd (bA b) c u):SlR c.w c.M u b:=by
 simp only [bA,Rd] at h
 obtain⟨a,k,rfl,h1,h2,h3⟩:=h
 refine⟨a,k,b.map fun x=> .int .u8 x.toNat,rfl,h1,h2,?_,fun hne=>?_⟩
 ·refine Elems.of_get (by simp [Rp.sz]) fun i x hx=>⟨[.int .u8 x.toNat],rfl,rfl,fun j hj=>?_⟩
  have hj:j<1:=hj
  obtain rfl:j=0:=by omega
  simp [Rp.sz,hx]
 ·rcases h3 with h3 | ⟨bl,off,rfl,hm,hb,hc⟩
  ·exact absurd (AZ h3) hne
  ·refine⟨bl,off,rfl,hm,fun j u hu=>?_⟩
   rw [List.getElem?_map] at hu
   cases hq:b[j]? with
   | none=>rw [hq] at hu;simp at hu
   | some x=>
    rw [hq] at hu
    simp at hu
    subst hu
    have hlt:=(List.getElem?_eq_some_iff.1 hq).1
    have:=(hc j hlt).2
    simp only [RdAt,Rd] at this
    obtain⟨⟨u,e1,_,rfl⟩,_⟩:=this
    rw [Dx] at e1
    rw [show b.getD j 0=x by rw [List.getD_eq_getElem?_getD,hq];rfl] at e1
    exact e1
theorem ofBytes {c:Ctx} {u:Value} {b:List UInt8} (h:SlR c.w c.M u b):Rd (bA b) c u:=by
 obtain⟨a,k,xs,rfl,h1,h2,h3,h4⟩:=h
 simp only [bA,Rd]
 refine⟨a,k,rfl,h1,h2,?_⟩
 by_cases hne:b=[]
 ·exact .inl (by rw [hne];rfl)
 ·obtain⟨bl,off,rfl,hm,hc⟩:=h4 hne
  have cell:∀ i,i<b.length->c.w.cell? ⟨bl,off+i,none⟩=some (.int .u8 (b.getD i 0).toNat):=by
   intro i hi
   obtain⟨cs,e1,e2,e3⟩:=h3.get (List.getElem?_eq_getElem hi)
   have e2:cs=[.int .u8 b[i].toNat]:=e2
   subst e2
   have:=hc (i*1+0) _ ((e3 0 (by decide)).trans rfl)
   rw [show b.getD i 0=b[i] by rw [List.getD_eq_getElem?_getD,List.getElem?_eq_getElem hi];rfl]
   simpa using this
  have h0:=cell 0 (Dn.2 hne)
  refine .inr ⟨bl,off,rfl,hm,World.block_lt_of_cell? _ _ h0,fun i hi=>⟨rfl,?_⟩⟩
  simp only [RdAt,Rd,Dx,and_true]
  exact⟨_,cell i hi,rfl,rfl⟩
theorem TA {c0:Ctx} {w':World} {t:TypeId} {u:Value} {b:List UInt8} (h:OwR w' noM c0.w.heap.size t u b) (hM:∀ b,c0.M b->b<c0.w.heap.size):Rd (bA b) { c0 with w:=w' } u:=by
 refine ofBytes (c:={ c0 with w:=w' }) ?_
 have h':OwR w' c0.M c0.w.heap.size t u b:=by
  obtain⟨xs,h1,h2⟩:=h
  exact⟨xs,h1,h2.mono fun cs x _ h=>h⟩
 exact h'.sl fun b hb hm=>by have:=hM b hm;omega
theorem Ev {α:Type} {d:α} {a b:List α} {k:Nat} (h:a.take k=b.take k) (ha:k<a.length) (hb:k<b.length) (e:a.getD k d=b.getD k d):a.take (k+1)=b.take (k+1):=by
 rw [Ar ha,Ar hb,h]
 rw [List.getD_eq_getElem?_getD,List.getD_eq_getElem?_getD,List.getElem?_eq_getElem ha,List.getElem?_eq_getElem hb] at e
 simp only [Bj] at e
 rw [e]
theorem D0 {α:Type} {d:α} {a b:List α} {k:Nat} (e:a.getD k d≠b.getD k d):a≠b:=fun h=>e (by rw [h])
theorem FD {α:Type} {a b:List α} {k:Nat} (h:a.take k=b.take k) (ha:a.length<=k) (hb:b.length<=k):a=b:=by
 rwa [List.take_of_length_le ha,List.take_of_length_le hb] at h
theorem Wc {a b:UInt8}:((a.toNat:Int) != b.toNat)=(a != b):=by
 rw [Bz,bne_iff_ne,bne_iff_ne,ne_eq,ne_eq,Int.natCast_inj,UInt8.toNat_inj]

theorem AE {α:Type} {d:α} {l:List α} {k:Nat} (h:k<l.length):l.getD k d∈l:=by
 rw [List.getD_eq_getElem?_getD,List.getElem?_eq_getElem h];exact B5 h
theorem Ei {α:Type} {d:α} {f:Nat->α} {n i:Nat} (h:i<n):((List.range n).map f).getD i d=f i:=by
 rw [List.getD_eq_getElem?_getD,List.getElem?_map,List.getElem?_range h];rfl
theorem FU {α β:Type} {d:α} {f:α->β} {l:List α} {k:Nat} (h:k<l.length):(l.take (k+1)).map f=(l.take k).map f ++ [f (l.getD k d)]:=by
 rw [Ar h,Aq,List.getD_eq_getElem?_getD,List.getElem?_eq_getElem h];rfl
theorem L9 {α β:Type} {d:α} {e:β} {f:α->β} {l:List α} {k i:Nat} (h:i<l.length) (hk:i<k):((l.take k).map f).getD i e=f (l.getD i d):=by
 rw [List.getD_eq_getElem?_getD,List.getD_eq_getElem?_getD,List.getElem?_map,List.getElem?_take_of_lt hk,List.getElem?_eq_getElem h];rfl
theorem Rd.congr {c:Ctx} {sz n n':Nat} {get get':Nat->List AV} {u:Value} (hn:n=n') (hg:∀ i,i<n->get i=get' i) (h:Rd (.sl sz n get) c u):Rd (.sl sz n' get') c u:=by
 subst hn
 simp only [Rd] at h |-
 obtain⟨a,k,rfl,h1,h2,h3⟩:=h
 refine⟨a,k,rfl,h1,h2,h3.imp id ?_⟩
 rintro⟨b,off,rfl,q1,q2,q3⟩
 exact⟨b,off,rfl,q1,q2,fun i hi=>by rw [<-hg i hi];exact q3 i hi⟩
theorem Jd (a b:List UInt8) (ha:a.length<=100000000000):Fn Tryz.prog 56 [bA a,bA b] fun r=>r = .v (.bool (decide (a=b))):=by
 refine Fn.of tys_ok Tryz.func56 rfl rfl (by show 2<=26;decide) ?_
 conv=>whnf
 refine Af (fun h=>?_) (fun h=>?_) <;> conv=>whnf
 ·exact⟨_,ri,by simp at h;rw [decide_eq_false (fun e=>h (by rw [e]))]⟩
 simp at h
 refine aLoop.rule Nat (fun k=>([(0,bA a),(1,bA b),(5, .v (.int .i64 k))], [])) (fun k=>k<=a.length/\a.take k=b.take k) (fun k=>a.length - k) 0 ⟨Ag _,by simp⟩ ⟨[],trivial,⟨rfl,rfl,rfl,trivial⟩,trivial,rfl,rfl,rfl⟩ ?_
 rintro k ⟨hk,hI⟩
 conv=>whnf
 refine Af (fun h2=>?_) (fun h2=>?_) <;> simp at h2 <;> conv=>whnf
 ·refine aDraw.seq tys_ok mixed (by kernel_rfl) ?_
  refine⟨⟨by omega,by omega⟩,?_⟩
  refine⟨⟨by omega,by omega⟩,?_⟩
  conv=>whnf
  refine Af (fun h3=>?_) (fun h3=>?_) <;> conv=>whnf
  ·exact⟨_,ri,by simp only [Wc,bne_iff_ne,Aa] at h3;rw [decide_eq_false (D0 h3)]⟩
  ·simp only [Wc,bne_eq_false_iff_eq,Aa] at h3
   exact⟨k+1,⟨by omega,Ev hI (by omega) (by omega) h3⟩,by omega,⟨[],trivial,⟨rfl,rfl,AA (by omega),trivial⟩,trivial,rfl,rfl,rfl⟩⟩
 ·exact⟨_,ri,by rw [decide_eq_true (FD hI (by omega) (by omega))]⟩
theorem EO (b:List UInt8) (hb:b.length<=1000000000):Fn Tryz.prog 62 [bA b] fun r=>r=bA b:=by
 refine Fn.of tys_ok Tryz.func62 rfl rfl (by show 1<=7;decide) ?_
 refine⟨hb,?_⟩
 refine⟨by simp,?_⟩
 exact⟨bA b,fun c v h=>Rd.congr rfl (fun i hi=>Ei hi) h,rfl⟩
theorem OP (x y:Img) (hx:x.bytes.length<=100000000000):Fn Tryz.prog 123 [.ag (D4 x), .ag (D4 y)] fun r=>r = .v (.bool (decide (x=y))):=by
 obtain⟨x1,x2,x3⟩:=x
 obtain⟨y1,y2,y3⟩:=y
 refine Fn.of tys_ok Tryz.func123 rfl rfl (by show 2<=24;decide) ?_
 conv=>whnf
 repeat' (first | (refine Af (fun h=>?_) (fun h=>?_) <;> simp at h <;> conv=>whnf) | (refine Fn.cl (Jd x3 y3 hx) ?_;conv=>whnf))
 all_goals exact⟨_,ri,by simp [*]⟩
theorem Si (l m:List Img) (hl:l.length<=1000000000) (hb:∀ x∈l,x.bytes.length<=100000000000):Fn Tryz.prog 57 [Ff l,Ff m] fun r=>r = .v (.bool (decide (l=m))):=by
 refine Fn.of tys_ok Tryz.func57 rfl rfl (by show 2<=27;decide) ?_
 conv=>whnf
 refine Af (fun h=>?_) (fun h=>?_) <;> conv=>whnf
 ·exact⟨_,ri,by simp at h;rw [decide_eq_false (fun e=>h (by rw [e]))]⟩
 simp at h
 refine aLoop.rule Nat (fun k=>([(0,Ff l),(1,Ff m),(5, .v (.int .i64 k))], [])) (fun k=>k<=l.length/\l.take k=m.take k) (fun k=>l.length - k) 0 ⟨Ag _,by simp⟩ ⟨[],trivial,⟨rfl,rfl,rfl,trivial⟩,trivial,rfl,rfl,rfl⟩ ?_
 rintro k ⟨hk,hI⟩
 conv=>whnf
 refine Af (fun h2=>?_) (fun h2=>?_) <;> simp at h2 <;> conv=>whnf
 ·refine aDraw.seq tys_ok mixed (by kernel_rfl) ?_
  refine⟨⟨by omega,by omega⟩,?_⟩
  refine⟨⟨by omega,by omega⟩,?_⟩
  conv=>whnf
  refine Fn.closed (OP (l.getD k ⟨0,0, []⟩) (m.getD k ⟨0,0, []⟩) (hb _ (AE h2))) rfl ?_
  rintro _ rfl
  conv=>whnf
  refine Af (fun h3=>?_) (fun h3=>?_) <;> conv=>whnf
  ·exact⟨_,ri,by rw [decide_eq_false (D0 (by simpa using h3))]⟩
  ·exact⟨k+1,⟨by omega,Ev hI (by omega) (by omega) (by simpa using h3)⟩,by omega,⟨[],trivial,⟨rfl,rfl,AA (by omega),trivial⟩,trivial,rfl,rfl,rfl⟩⟩
 ·exact⟨_,ri,by rw [decide_eq_true (FD hI (by omega) (by omega))]⟩
theorem L7 (l:List Img) (hl:l.length<=1000000) (hb:∀ x∈l,x.bytes.length<=1000000000):Fn Tryz.prog 201 [Ff l] fun r=>r=Ff l:=by
 refine Fn.of tys_ok Tryz.func201 rfl rfl (by show 1<=32;decide) ?_
 conv=>whnf
 refine aLoop.rule Nat (fun k=>([(0,Ff l),(3, .ow 0 k),(4, .v (.int .i64 k))], [.row 83 3 ((l.take k).map D4)])) (fun k=>k<=l.length) (fun k=>l.length - k) 0 (Ag _) ⟨[(3,83,3)],⟨rfl,rfl,trivial⟩,⟨rfl,rfl,rfl,trivial⟩,⟨rfl,trivial⟩,rfl,rfl,rfl⟩ ?_
 rintro k hk
 conv=>whnf
 refine Af (fun h2=>?_) (fun h2=>?_) <;> simp at h2 <;> conv=>whnf
 ·refine aDraw.seq tys_ok mixed (by kernel_rfl) ?_
  refine⟨⟨by omega,by omega⟩,?_⟩
  refine⟨⟨by omega,by omega⟩,?_⟩
  refine⟨⟨by omega,by omega⟩,?_⟩
  conv=>whnf
  refine Fn.closed (EO (l.getD k ⟨0,0, []⟩).bytes (hb _ (AE h2))) rfl ?_
  rintro _ rfl
  refine⟨rfl,?_⟩
  conv=>whnf
  refine⟨⟨by simp;omega,by omega⟩,?_⟩
  exact⟨k+1,by omega,by omega, [],trivial,⟨rfl,rfl,AA (by omega),trivial⟩,⟨congrArg (AB.row _ _) (FU h2),trivial⟩,rfl,rfl,rfl⟩
 ·refine⟨by simp;omega,?_⟩
  exact⟨Ff l,fun c v h=>Rd.congr (by omega) (fun i hi=>L9 (by omega) (by omega)) h,rfl⟩
structure Gt where
 err:Int
 bytes:List UInt8
 deriving DecidableEq
structure Sec where
 addr:Int
 stamp:Int
 pay:List UInt8
 deriving DecidableEq
structure Wr where
 addr:Int
 bytes:List UInt8
 deriving DecidableEq
structure Tx where
 seq:Int
 pos:Int
 n:Int
 images:List Img
 deriving DecidableEq
structure Hm where
 places:List Int
 next:Int
 root:Int
 deriving DecidableEq
structure An where
 gen:Int
 epoch:Int
 pos:Int
 seq:Int
 last:Int
 label:ByteArray
 homes:List Hm
 deriving DecidableEq
instance:Inhabited Gt:=⟨⟨0, []⟩⟩
instance:Inhabited Wr:=⟨⟨0, []⟩⟩
instance:Inhabited Tx:=⟨⟨0,0,0, []⟩⟩
instance:Inhabited Hm:=⟨⟨[],0,0⟩⟩
def BB (x:Gt):List AV:= [.v (.int .i64 x.err),bA x.bytes]
def BZ (l:List Gt):AV:= .sl 2 l.length fun i=>BB (l.getD i ⟨0, []⟩)
def ML (x:Sec):List AV:= [.v (.int .i64 x.addr), .v (.int .i64 x.stamp),bA x.pay]
def DA (x:Wr):List AV:= [.v (.int .i64 x.addr),bA x.bytes]
def FF (l:List Wr):AV:= .sl 2 l.length fun i=>DA (l.getD i ⟨0, []⟩)
def Hi (x:Tx):List AV:= [.v (.int .i64 x.seq), .v (.int .i64 x.pos), .v (.int .i64 x.n),Ff x.images]
def DS (l:List Tx):AV:= .sl 4 l.length fun i=>Hi (l.getD i ⟨0,0,0, []⟩)
def H8 (x:Hm):List AV:= [iA x.places, .v (.int .i64 x.next), .v (.int .i64 x.root)]
def H4 (l:List Hm):AV:= .sl 3 l.length fun i=>H8 (l.getD i ⟨[],0,0⟩)
def CE (x:An):List AV:= [.v (.int .i64 x.gen), .v (.int .i64 x.epoch), .v (.int .i64 x.pos), .v (.int .i64 x.seq), .v (.int .i64 x.last), .v (.string x.label),H4 x.homes]
theorem QW (a b:List Int) (ha:a.length<=100000000000):Fn Tryz.prog 122 [iA a,iA b] fun r=>r = .v (.bool (decide (a=b))):=by
 refine Fn.st Tryz.func122 rfl ?_
 conv=>whnf
 refine Af (fun h=>?_) (fun h=>?_) <;> conv=>whnf
 ·exact⟨_,ri,by simp at h;rw [decide_eq_false (fun e=>h (by rw [e]))]⟩
 simp at h
 refine aLoop.rule Nat (fun k=>([(0,iA a),(1,iA b),(5, .v (.int .i64 k))], [])) (fun k=>k<=a.length/\a.take k=b.take k) (fun k=>a.length - k) 0 ⟨Ag _,by simp⟩ ⟨[],trivial,⟨rfl,rfl,rfl,trivial⟩,trivial,rfl,rfl,rfl⟩ ?_
 rintro k ⟨hk,hI⟩
 conv=>whnf
 refine Af (fun h2=>?_) (fun h2=>?_) <;> simp at h2 <;> conv=>whnf
 ·refine aDraw.seq tys_ok mixed (by kernel_rfl) ?_
  conv=>whnf
  refine⟨by first | omega | (refine⟨rfl,?_,?_⟩ <;> first | omega | (simp only [Ab];done) | (simp only [Ab];omega)) | (simp only [Ab];omega),?_⟩
  conv=>whnf
  refine⟨by first | omega | (refine⟨rfl,?_,?_⟩ <;> first | omega | (simp only [Ab];done) | (simp only [Ab];omega)) | (simp only [Ab];omega),?_⟩
  conv=>whnf
  refine Af (fun h3=>?_) (fun h3=>?_) <;> conv=>whnf
  ·exact⟨_,ri,by rw [decide_eq_false (D0 (d:=0) (by simpa using h3))]⟩
  ·exact⟨k+1,⟨by omega,Ev (d:=0) hI (by omega) (by omega) (by simpa using h3)⟩,by omega,⟨[],trivial,⟨rfl,rfl,AA (by omega),trivial⟩,trivial,rfl,rfl,rfl⟩⟩
 ·exact⟨_,ri,by rw [decide_eq_true (FD hI (by omega) (by omega))]⟩
theorem Tw (s:ByteArray) (hv:Fn Tryz.prog 217 [.v (.string s)] fun r=>r = .v (.bool (Lib.validD s.data.toList))):Fn Tryz.prog 179 [.v (.string s)] fun r=>r = .v (.bool (RQ s.data.toList&&Lib.validD s.data.toList)):=by
 refine Fn.st Tryz.func179 rfl ?_
 conv=>whnf
 refine aLoop.rule Nat (fun p=>([(0, .v (.string s)),(6, .bp 0 0)], [.iter s p])) (fun p=>RQ s.data.toList=RQ (s.data.toList.drop p)) (fun p=>s.size - p) 0 rfl ⟨[],trivial,⟨rfl,rfl,trivial⟩,⟨rfl,trivial⟩,rfl,rfl,rfl⟩ ?_
 intro p hI
 conv=>whnf
 have hd:=Ha s p
 refine Af (fun hp=>?_) (fun hp=>?_) <;> simp only [decide_eq_true_eq,decide_eq_false_iff_not] at hp <;> conv=>whnf
 ·have hne:¬s.data.toList.drop p=[]:=by
   intro e
   have:=congrArg List.length e
   rw [Ac,Dy] at this
   simp at this
   omega
  have hstep:=KN _ hne
  rw [<-hd] at hstep
  have hw:1<=(Utf8.decode s p).2:=by rw [hd];exact Lib.decodeL_width _
  refine Af (fun h1=>?_) (fun h1=>?_) <;> simp at h1 <;> conv=>whnf
  ·have h1':(Utf8.decode s p).1<32:=by omega
   exact⟨_,ri,by rw [hI,hstep];simp [LE,h1']⟩
  refine Af (fun h2=>?_) (fun h2=>?_) <;> simp at h2 <;> conv=>whnf
  ·exact⟨_,ri,by rw [hI,hstep];simp [LE];omega⟩
  ·refine⟨p+(Utf8.decode s p).2,?_,by omega, [],trivial,⟨rfl,rfl,trivial⟩,⟨rfl,trivial⟩,rfl,rfl,rfl⟩
   rw [hI,hstep,Aw]
   simp [LE]
   omega
 ·have hnil:s.data.toList.drop p=[]:=Av (by rw [Dy];omega)
  refine Fn.cl hv ?_
  conv=>whnf
  exact⟨_,ri,by rw [hI,hnil,okW_nil];rfl⟩
theorem Tg (s:ByteArray) (hs:s.size<=1000000):Fn Tryz.prog 180 [.v (.string s)] fun r=>r = .v (.int .i64 (Ez s.data.toList)):=by
 refine Fn.st Tryz.func180 rfl ?_
 conv=>whnf
 refine aLoop.rule (Nat × Nat) (fun q=>([(3, .v (.int .i64 q.2)),(5, .bp 0 0)], [.iter s q.1])) (fun q=>Ez s.data.toList=q.2+Ez (s.data.toList.drop q.1)/\q.2<=q.1/\q.2<=s.size) (fun q=>s.size - q.1) (0,0) ⟨by simp,Nat.le_refl _,Ag _⟩ ⟨[],trivial,⟨rfl,rfl,trivial⟩,⟨rfl,trivial⟩,rfl,rfl,rfl⟩ ?_
 rintro⟨p,n⟩ ⟨hI,hn,hn2⟩
 conv=>whnf
 have hd:=Ha s p
 refine Af (fun hp=>?_) (fun hp=>?_) <;> simp only [decide_eq_true_eq,decide_eq_false_iff_not] at hp <;> conv=>whnf
 ·have hne:¬s.data.toList.drop p=[]:=by
   intro e
   have:=congrArg List.length e
   rw [Ac,Dy] at this
   simp at this
   omega
  have hstep:=GH _ hne
  rw [<-hd] at hstep
  have hw:1<=(Utf8.decode s p).2:=by rw [hd];exact Lib.decodeL_width _
  refine⟨(p+(Utf8.decode s p).2,n+1),⟨?_,?_,?_⟩,?_, [],trivial,⟨AA ?_,rfl,trivial⟩,⟨rfl,trivial⟩,rfl,rfl,rfl⟩
  ·simp only at hI |-
   rw [hI,hstep,Aw];omega
  ·simp only at hn |-;omega
  ·simp only at hn |-;omega
  ·simp only;omega
  ·simp only at hn2;omega
 ·have hnil:s.data.toList.drop p=[]:=Av (by rw [Dy];omega)
  exact⟨_,ri,by simp only at hI;rw [hI,hnil,runesW_nil];rfl⟩
theorem RY (s:ByteArray) (hs:s.size<=1000000) (hv:Fn Tryz.prog 217 [.v (.string s)] fun r=>r = .v (.bool (Lib.validD s.data.toList))):Fn Tryz.prog 127 [.v (.string s)] fun r=>r = .v (.int .i64 (C5 s.data.toList)):=by
 refine Fn.st Tryz.func127 rfl ?_
 conv=>whnf
 refine Fn.cl (Tw s hv) ?_
 conv=>whnf
 refine Af (fun h=>?_) (fun h=>?_) <;> conv=>whnf
 ·exact⟨_,ri,by simp only [C5,h,if_true]⟩
 refine Fn.cl (Tg s hs) ?_
 conv=>whnf
 refine Af (fun h2=>?_) (fun h2=>?_) <;> simp at h2 <;> conv=>whnf
 ·exact⟨_,ri,by simp only [C5,h];rw [if_neg (by simp),if_pos (by omega)]⟩
 ·exact⟨_,ri,by simp only [C5,h];rw [if_neg (by simp),if_neg (by omega)]⟩
end Go.Proofs.YtldngmdpiifamaaGreatDoor.A
end
section
namespace Go.Proofs
open Go.RowKit Go.Shelf Go.Lib

def Tryz.laysValid_ren:Go.Shelf.Ren:=⟨fun | 196=>217 | 259=>235 | n=>n,fun | 9=>9 | 4=>4 | 3=>3 | 5=>5 | 12=>12 | 119=>311 | 0=>0 | 46=>37 | 139=>314 | 138=>313 | 53=>285 | n=>n,fun | 3=>0 | 4=>1 | n=>n⟩
theorem Tryz.laysValid:Go.Proofs.Lays.n196 Tryz.prog Tryz.laysValid_ren where
 mixed:=by kernel_rfl
 f196:=Tryz.func217.trans (congrArg some (by kernel_rfl))
 f259:=Tryz.func235.trans (congrArg some (by kernel_rfl))
 t0:=Tryz.underlying0
 a0:=Tryz.isAgg0
 z0:=Tryz.sizeOf0
 v0:=Tryz.zeroValue0
 t3:=Tryz.underlying3
 a3:=Tryz.isAgg3
 z3:=Tryz.sizeOf3
 v3:=Tryz.zeroValue3
 t4:=Tryz.underlying4
 a4:=Tryz.isAgg4
 z4:=Tryz.sizeOf4
 v4:=Tryz.zeroValue4
 t5:=Tryz.underlying5
 a5:=Tryz.isAgg5
 z5:=Tryz.sizeOf5
 v5:=Tryz.zeroValue5
 t9:=Tryz.underlying9
 a9:=Tryz.isAgg9
 z9:=Tryz.sizeOf9
 v9:=Tryz.zeroValue9
 t12:=Tryz.underlying12
 a12:=Tryz.isAgg12
 z12:=Tryz.sizeOf12
 v12:=Tryz.zeroValue12
 t46:=Tryz.underlying37
 a46:=Tryz.isAgg37
 z46:=Tryz.sizeOf37
 v46:=Tryz.zeroValue37
 t53:=Tryz.underlying285
 a53:=Tryz.isAgg285
 z53:=Tryz.sizeOf285
 v53:=Tryz.zeroValue285
 t119:=Tryz.underlying311
 a119:=Tryz.isAgg311
 z119:=Tryz.sizeOf311
 t138:=Tryz.underlying313
 a138:=Tryz.isAgg313
 z138:=Tryz.sizeOf313
 v138:=Tryz.zeroValue313
 t139:=Tryz.underlying314
 a139:=Tryz.isAgg314
 z139:=Tryz.sizeOf314
 v139:=Tryz.zeroValue314
 g3:=by kernel_rfl
 g4:=by kernel_rfl
end Go.Proofs
namespace Go.Proofs.YtldngmdpiifamaaGreatDoor.A
open Go.RowKit

theorem SP (s:ByteArray) (hs:s.size<=1000000):Fn Tryz.prog 217 [.v (.string s)] fun r=>r = .v (.bool (Lib.validD s.data.toList)):=by
 refine⟨⟨_,Tryz.func217,rfl,by decide⟩,fun c0 us hd hM hg hr=>?_⟩
 simp only [RdL,Rd] at hr
 obtain⟨u,l,rfl,rfl,rfl⟩:=hr
 have hT:Lib.Utf8Tabs (Tryz.laysValid_ren.g 3) (Tryz.laysValid_ren.g 4) c0.w:=hg
 refine Calls.mono (show Calls Tryz.prog 217 #[.string s] c0.w _ from Any.utf8_ValidString Tryz.laysValid s c0.w (by omega) hT) ?_
 rintro e w' ⟨rfl,hb⟩
 exact⟨_,_,rfl,rfl,hb,by simp [Rd]⟩
theorem Gy (s:ByteArray) (hs:s.size<=1000000):Fn Tryz.prog 127 [.v (.string s)] fun r=>r = .v (.int .i64 (C5 s.data.toList)):=RY s hs (SP s hs)
end Go.Proofs.YtldngmdpiifamaaGreatDoor.A
end
section
namespace Go.Proofs.YtldngmdpiifamaaGreatDoor.A
open Go.RowKit
def Ja (a:Nat):Nat:=if 192<=a/\a<224 then 2 else if 224<=a/\a<240 then 3 else if 240<=a/\a<248 then 4 else 0
def rb (k a:Nat):Int:=if k=2 then (a:Int) - 192 else if k=3 then (a:Int) - 224 else if k=4 then (a:Int) - 240 else 0
def lb (k:Nat):Int:=if k=2 then 128 else if k=3 then 2048 else if k=4 then 65536 else 0
def LW (a0:Int) (l:List UInt8):Nat->Int
 | 0=>a0
 | 1=>a0
 | n+2=>64*LW a0 l (n+1)+(l.getD (n+1) 0).toNat - 128
def E6 (k:Nat) (r:Int):Prop:=r<lb k\/r > 1114111\/(55296<=r/\r<57344)
def Ey (l:List UInt8):Int:=if BN l then 0 else (Lib.decodeL l).2
def EZ (l:List UInt8):Int:=if BN l then 0 else (Lib.decodeL l).1
theorem PC {l:List UInt8} (h:(l.getD 0 0).toNat<128):Ey l=1/\EZ l=(l.getD 0 0).toNat:=by
 have e:Lib.decodeL l=((l.getD 0 0).toNat,1):=by rw [Lib.decodeL_N];unfold Lib.decodeN;rw [if_pos h]
 have hi:BN l=false:=by simp only [BN,e];rw [decide_eq_false];omega
 simp [Ey,EZ,hi,e]
theorem LV {l:List UInt8} (h:128<=(l.getD 0 0).toNat) (hk:Ja (l.getD 0 0).toNat=0\/l.length<Ja (l.getD 0 0).toNat):Ey l=0/\EZ l=0:=by
 have e:Lib.decodeL l=(65533,1):=by
  rw [Lib.decodeL_N]
  unfold Ja at hk
  unfold Lib.decodeN
  generalize (l.getD 0 0).toNat=a at *
  repeat' split
  all_goals first | rfl | (exfalso;split at hk <;> (try split at hk) <;> (try split at hk) <;> omega)
 have hi:BN l=true:=by simp [BN,e]
 simp [Ey,EZ,hi]
theorem Ob {l:List UInt8} {j:Nat} (h:128<=(l.getD 0 0).toNat) (h1:1<=j) (hj:j<Ja (l.getD 0 0).toNat) (hb:(l.getD j 0).toNat<128\/192<=(l.getD j 0).toNat):Ey l=0/\EZ l=0:=by
 have e:Lib.decodeL l=(65533,1):=by
  rw [Lib.decodeL_N]
  unfold Ja at hj
  unfold Lib.decodeN
  have hj':j=1\/j=2\/j=3:=by
   split at hj <;> (try split at hj) <;> (try split at hj) <;> omega
  generalize (l.getD 0 0).toNat=a at *
  rcases hj' with rfl | rfl | rfl
  all_goals
   repeat' split
   all_goals first | rfl | (exfalso;split at hj <;> (try split at hj) <;> (try split at hj) <;> omega)
 have hi:BN l=true:=by simp [BN,e]
 simp [Ey,EZ,hi]
theorem PB {l:List UInt8} (_h:128<=(l.getD 0 0).toNat) (h0:Ja (l.getD 0 0).toNat≠0) (hl:Ja (l.getD 0 0).toNat<=l.length) (hb:∀ j,1<=j->j<Ja (l.getD 0 0).toNat->128<=(l.getD j 0).toNat/\(l.getD j 0).toNat<192) :
  (E6 (Ja (l.getD 0 0).toNat) (LW (rb (Ja (l.getD 0 0).toNat) (l.getD 0 0).toNat) l (Ja (l.getD 0 0).toNat))->Ey l=0/\EZ l=0)/\
  (¬E6 (Ja (l.getD 0 0).toNat) (LW (rb (Ja (l.getD 0 0).toNat) (l.getD 0 0).toNat) l (Ja (l.getD 0 0).toNat))->Ey l=Ja (l.getD 0 0).toNat/\EZ l=LW (rb (Ja (l.getD 0 0).toNat) (l.getD 0 0).toNat) l (Ja (l.getD 0 0).toNat)):=by
 have hd:=Lib.decodeL_N l
 generalize (l.getD 0 0).toNat=a at *
 have hk:(192<=a/\a<224/\Ja a=2)\/(224<=a/\a<240/\Ja a=3)\/(240<=a/\a<248/\Ja a=4):=by
  unfold Ja at h0 |-
  repeat' split at h0
  all_goals first | (exfalso;omega) | skip
  all_goals (repeat' split) <;> omega
 rcases hk with ⟨q1,q2,e⟩ | ⟨q1,q2,e⟩ | ⟨q1,q2,e⟩
 ·rw [e] at hb hl |-
  have b1:=hb 1 (by omega) (by omega)
  have er:LW (rb 2 a) l 2=64*((a:Int) - 192)+(l.getD 1 0).toNat - 128:=rfl
  rw [er]
  generalize hv:64*(a - 192)+(l.getD 1 0).toNat - 128=v at *
  have hN:Lib.decodeL l=if v>=128 then (v,2) else (65533,1):=by
   rw [hd];unfold Lib.decodeN
   rw [if_neg (by omega),if_pos (by omega),show a % 32*64+(l.getD 1 0).toNat % 64=v by omega]
  have ev:64*((a:Int) - 192)+(l.getD 1 0).toNat - 128=(v:Int):=by omega
  have hv2:v<=2047:=by omega
  rw [ev]
  refine⟨fun hbad=>?_,fun hok=>?_⟩
  ·rw [if_neg (by simp only [E6,lb] at hbad;simp at hbad;omega)] at hN
   simp [Ey,EZ,BN,hN]
  ·rw [if_pos (by simp only [E6,lb] at hok;simp at hok;omega)] at hN
   have hi:BN l=false:=by simp [BN,hN]
   simp [Ey,EZ,hi,hN]
 ·rw [e] at hb hl |-
  have b1:=hb 1 (by omega) (by omega)
  have b2:=hb 2 (by omega) (by omega)
  have er:LW (rb 3 a) l 3=64*(64*((a:Int) - 224)+(l.getD 1 0).toNat - 128)+(l.getD 2 0).toNat - 128:=rfl
  rw [er]
  generalize hv:64*(64*(a - 224)+(l.getD 1 0).toNat - 128)+(l.getD 2 0).toNat - 128=v at *
  have hN:Lib.decodeL l=if v>=2048/\(v<55296\/(57344<=v/\v<=1114111)) then (v,3) else (65533,1):=by
   rw [hd];unfold Lib.decodeN
   rw [if_neg (by omega),if_neg (by omega),if_pos (by omega),show a % 16*4096+(l.getD 1 0).toNat % 64*64+(l.getD 2 0).toNat % 64=v by omega]
  have ev:64*(64*((a:Int) - 224)+(l.getD 1 0).toNat - 128)+(l.getD 2 0).toNat - 128=(v:Int):=by omega
  rw [ev]
  refine⟨fun hbad=>?_,fun hok=>?_⟩
  ·rw [if_neg (by simp only [E6,lb] at hbad;simp at hbad;omega)] at hN
   simp [Ey,EZ,BN,hN]
  ·rw [if_pos (by simp only [E6,lb] at hok;simp at hok;omega)] at hN
   have hi:BN l=false:=by simp [BN,hN]
   simp [Ey,EZ,hi,hN]
 ·rw [e] at hb hl |-
  have b1:=hb 1 (by omega) (by omega)
  have b2:=hb 2 (by omega) (by omega)
  have b3:=hb 3 (by omega) (by omega)
  have er:LW (rb 4 a) l 4=64*(64*(64*((a:Int) - 240)+(l.getD 1 0).toNat - 128)+(l.getD 2 0).toNat - 128)+(l.getD 3 0).toNat - 128:=rfl
  rw [er]
  generalize hv:64*(64*(64*(a - 240)+(l.getD 1 0).toNat - 128)+(l.getD 2 0).toNat - 128)+(l.getD 3 0).toNat - 128=v at *
  have hN:Lib.decodeL l=if v>=65536/\(v<55296\/(57344<=v/\v<=1114111)) then (v,4) else (65533,1):=by
   rw [hd];unfold Lib.decodeN
   rw [if_neg (by omega),if_neg (by omega),if_neg (by omega),if_pos (by omega),show a % 8*262144+(l.getD 1 0).toNat % 64*4096+(l.getD 2 0).toNat % 64*64+(l.getD 3 0).toNat % 64=v by omega]
  have ev:64*(64*(64*((a:Int) - 240)+(l.getD 1 0).toNat - 128)+(l.getD 2 0).toNat - 128)+(l.getD 3 0).toNat - 128=(v:Int):=by omega
  rw [ev]
  refine⟨fun hbad=>?_,fun hok=>?_⟩
  ·rw [if_neg (by simp only [E6,lb] at hbad;simp at hbad;omega)] at hN
   simp [Ey,EZ,BN,hN]
  ·rw [if_pos (by simp only [E6,lb] at hok;simp at hok;omega)] at hN
   have hi:BN l=false:=by simp [BN,hN]
   simp [Ey,EZ,hi,hN]
theorem Wp {k:Nat} (h:k<9223372036854775807):AV.v (.int .i64 (IntKind.i64.wrap ((k:Int)+1))) = .v (.int .i64 ((k+1:Nat):Int)):=by
 rw [wi (by omega)];rfl
theorem Th (s:ByteArray) (h0:0<s.size) (hs:s.size<=9223372036854775807):Fn Tryz.prog 40 [.v (.string s)] fun r=>r = .tp [.v (.int .i64 (Ey s.data.toList)), .v (.int .i64 (EZ s.data.toList))]:=by
 refine Fn.st Tryz.func40 rfl ?_
 refine⟨⟨by omega,by omega⟩,?_⟩
 conv=>whnf
 obtain⟨a,ha⟩:∃ a,a=(s.data.toList.getD 0 0).toNat:=⟨_,rfl⟩
 have hal:a<256:=by rw [ha];exact UInt8.toNat_lt _
 have hw:IntKind.i64.wrap (((s.data.toList.getD (Int.toNat 0) 0).toNat:Nat):Int)=a:=by rw [show Int.toNat 0=0 from rfl,<-ha];exact wi (by omega)
 refine aSeq.cut Nat (fun k=>([(0, .v (.string s)),(5, .v (.int .i64 k)),(6, .v (.int .i64 (rb k a))),(7, .v (.int .i64 (lb k)))], [])) (fun k=>k=Ja a/\128<=a) ?_ ?_
 ·conv=>whnf
  refine Af (fun h1=>?_) (fun h1=>?_) <;> simp only [hw,decide_eq_true_eq,decide_eq_false_iff_not] at h1 <;> conv=>whnf
  ·obtain⟨e1,e2⟩:=PC (l:=s.data.toList) (by omega)
   exact⟨_,ri,by rw [e1,e2,hw,ha]⟩
  repeat' (refine Af (fun h=>?_) (fun h=>?_) <;> simp only [hw,decide_eq_true_eq,decide_eq_false_iff_not,ge_iff_le] at h <;> conv=>whnf)
  all_goals first
   | (exfalso;omega)
   | exact⟨2,⟨by unfold Ja;rw [if_pos (by omega)],by omega⟩, [],trivial,⟨rfl,rfl,by rw [hw];exact congrArg (fun n=>AV.v (.int .i64 n)) (wi (by omega)),rfl,trivial⟩,trivial,rfl,rfl,rfl⟩
   | exact⟨3,⟨by unfold Ja;rw [if_neg (by omega),if_pos (by omega)],by omega⟩, [],trivial,⟨rfl,rfl,by rw [hw];exact congrArg (fun n=>AV.v (.int .i64 n)) (wi (by omega)),rfl,trivial⟩,trivial,rfl,rfl,rfl⟩
   | exact⟨4,⟨by unfold Ja;rw [if_neg (by omega),if_neg (by omega),if_pos (by omega)],by omega⟩, [],trivial,⟨rfl,rfl,by rw [hw];exact congrArg (fun n=>AV.v (.int .i64 n)) (wi (by omega)),rfl,trivial⟩,trivial,rfl,rfl,rfl⟩
   | exact⟨0,⟨by unfold Ja;rw [if_neg (by omega),if_neg (by omega),if_neg (by omega)],by omega⟩, [],trivial,⟨rfl,rfl,rfl,rfl,trivial⟩,trivial,rfl,rfl,rfl⟩
 ·rintro k ⟨hk,ha2⟩
  obtain⟨l,hl⟩:∃ l,l=s.data.toList:=⟨_,rfl⟩
  have hll:l.length=s.size:=by rw [hl,Dy]
  rw [<-hl] at ha |-
  have h128:128<=(l.getD 0 0).toNat:=by omega
  have hk':k=Ja (l.getD 0 0).toNat:=by rw [hk,ha]
  have hk4:k<=4:=by rw [hk];unfold Ja;(repeat' split) <;> omega
  conv=>whnf
  refine Af (fun h1=>?_) (fun h1=>?_) <;> simp at h1 <;> conv=>whnf
  ·obtain⟨e1,e2⟩:=LV h128 (.inl (by omega))
   exact⟨_,ri,by rw [e1,e2]⟩
  refine Af (fun h2=>?_) (fun h2=>?_) <;> simp only [decide_eq_true_eq,decide_eq_false_iff_not] at h2 <;> conv=>whnf
  ·obtain⟨e1,e2⟩:=LV h128 (.inr (by omega))
   exact⟨_,ri,by rw [e1,e2]⟩
  have hrb:0<=rb k a/\rb k a<=31:=by
   rw [hk];unfold rb Ja;repeat' split
   all_goals omega
  refine aLoop.rule Nat (fun i=>([(0, .v (.string s)),(5, .v (.int .i64 k)),(6, .v (.int .i64 (LW (rb k a) l i))),(7, .v (.int .i64 (lb k))),(8, .v (.int .i64 i))], [])) (fun i=>1<=i/\i<=k/\0<=LW (rb k a) l i/\(i=1->LW (rb k a) l i<=31)/\(i=2->LW (rb k a) l i<=2047)/\(i=3->LW (rb k a) l i<=131071)/\(i=4->LW (rb k a) l i<=8388607)/\∀ j,1<=j->j<i->128<=(l.getD j 0).toNat/\(l.getD j 0).toNat<192) (fun i=>k - i) 1 ⟨Nat.le_refl _,by omega,hrb.1,fun _=>hrb.2,by omega,by omega,by omega,by omega⟩ ⟨[],trivial,⟨rfl,rfl,rfl,rfl,rfl,trivial⟩,trivial,rfl,rfl,rfl⟩ ?_
  rintro i ⟨hi1,hik,hr0,hr1,hr2,hr3,hr4,hI⟩
  conv=>whnf
  refine Af (fun h3=>?_) (fun h3=>?_) <;> simp only [decide_eq_true_eq,decide_eq_false_iff_not] at h3 <;> conv=>whnf
  ·refine⟨⟨by omega,by omega⟩,?_⟩
   conv=>whnf
   obtain⟨b,hb⟩:∃ b,b=(l.getD i 0).toNat:=⟨_,rfl⟩
   have hbl:b<256:=by rw [hb];exact UInt8.toNat_lt _
   have hwb:IntKind.i64.wrap (((s.data.toList.getD (Int.toNat (i:Int)) 0).toNat:Nat):Int)=b:=by rw [Aa,<-hl,<-hb];exact wi (by omega)
   refine Af (fun h4=>?_) (fun h4=>?_) <;> simp only [hwb,decide_eq_true_eq,decide_eq_false_iff_not] at h4 <;> conv=>whnf
   ·obtain⟨e1,e2⟩:=Ob (j:=i) h128 hi1 (by omega) (.inl (by omega))
    exact⟨_,ri,by rw [e1,e2]⟩
   refine Af (fun h5=>?_) (fun h5=>?_) <;> simp only [hwb,decide_eq_true_eq,decide_eq_false_iff_not] at h5 <;> conv=>whnf
   ·obtain⟨e1,e2⟩:=Ob (j:=i) h128 hi1 (by omega) (.inr (by omega))
    exact⟨_,ri,by rw [e1,e2]⟩
   have hst:LW (rb k a) l (i+1)=64*LW (rb k a) l i+b - 128:=by
    obtain⟨m,rfl⟩:∃ m,i=m+1:=⟨i - 1,by omega⟩
    rw [hb];rfl
   have hR:LW (rb k a) l i<=131071:=by
    rcases(show i=1\/i=2\/i=3 by omega) with e | e | e
    ·have:=hr1 e;omega
    ·have:=hr2 e;omega
    ·exact hr3 e
   refine⟨i+1,⟨by omega,by omega,by omega,by omega,fun e=>?_,fun e=>?_,fun e=>?_,fun j h1 h2=>?_⟩,by omega, [],trivial,⟨rfl,rfl,?_,rfl,AA (by omega),trivial⟩,trivial,rfl,rfl,rfl⟩
   ·have:=hr1 (by omega);omega
   ·have:=hr2 (by omega);omega
   ·have:=hr3 (by omega);omega
   ·rcases Bx j i with h | h
    ·exact hI j h1 h
    ·obtain rfl:j=i:=by omega
     rw [<-hb];omega
   ·rw [hwb,hst,wi (n:=64*LW (rb k a) l i) (by omega),wi (n:=64*LW (rb k a) l i+b) (by omega),wi (n:=64*LW (rb k a) l i+b - 128) (by omega)];rfl
  ·obtain rfl:i=k:=by omega
   have hW:=PB h128 (by omega) (by omega) (fun j h1 h2=>hI j h1 (by omega))
   rw [<-hk',<-ha] at hW
   by_cases hbad:E6 i (LW (rb i a) l i)
   ·obtain⟨e1,e2⟩:=hW.1 hbad
    unfold E6 at hbad
    repeat' (refine Af (fun h=>?_) (fun h=>?_) <;> simp only [decide_eq_true_eq,decide_eq_false_iff_not,ge_iff_le,gt_iff_lt] at h <;> conv=>whnf)
    all_goals first | (exfalso;omega) | exact⟨_,ri,by rw [e1,e2]⟩
   ·obtain⟨e1,e2⟩:=hW.2 hbad
    unfold E6 at hbad
    repeat' (refine Af (fun h=>?_) (fun h=>?_) <;> simp only [decide_eq_true_eq,decide_eq_false_iff_not,ge_iff_le,gt_iff_lt] at h <;> conv=>whnf)
    all_goals first | (exfalso;omega) | exact⟨_,ri,by rw [e1,e2]⟩
theorem Jo (s:ByteArray) (hs:s.size<=9223372036854775807):Fn Tryz.prog 10 [.v (.string s)] fun r=>r = .v (.int .i64 (C5 s.data.toList)):=by
 refine Fn.st Tryz.func10 rfl ?_
 conv=>whnf
 refine aLoop.rule (Nat × Nat) (fun q=>([(0, .v (.string s)),(3, .v (.int .i64 q.2)),(4, .v (.int .i64 q.1))], [])) (fun q=>C5 s.data.toList=IJ (s.data.toList.drop q.1) q.2/\q.1<=s.size/\q.2<=q.1) (fun q=>s.size - q.1) (0,0) ⟨by rw [<-Sb];rfl,Ag _,Nat.le_refl _⟩ ⟨[],trivial,⟨rfl,rfl,rfl,trivial⟩,trivial,rfl,rfl,rfl⟩ ?_
 rintro⟨p,n⟩ ⟨hI,hp,hn⟩
 simp only at hI hp hn
 conv=>whnf
 refine Af (fun h1=>?_) (fun h1=>?_) <;> simp only [decide_eq_true_eq,decide_eq_false_iff_not] at h1 <;> conv=>whnf
 ·refine⟨⟨by simp only;omega,by simp only;omega,by omega⟩,?_⟩
  conv=>whnf
  have hx:(s.extract p s.size).data.toList=s.data.toList.drop p:=Lib.extract_to_end s p
  have hxs:(s.extract p s.size).size=s.size - p:=by rw [<-Dy,hx,Ac,Dy]
  have hr:=Th (s.extract p s.size) (by omega) (by omega)
  rw [hx] at hr
  refine Fn.cl hr ?_
  conv=>whnf
  have hne:¬s.data.toList.drop p=[]:=by
   intro e
   have:=congrArg List.length e
   rw [Ac,Dy] at this
   simp at this
   omega
  have hstep:IJ (s.data.toList.drop p) n=if BN (s.data.toList.drop p) || LE (Lib.decodeL (s.data.toList.drop p)).1 then 3 else IJ ((s.data.toList.drop p).drop (Lib.decodeL (s.data.toList.drop p)).2) (n+1):=by rw [IJ,dif_neg hne]
  have hw:=Lib.decodeL_width (s.data.toList.drop p)
  obtain⟨D,hD⟩:∃ D,D=s.data.toList.drop p:=⟨_,rfl⟩
  rw [<-hD] at hstep hw hI |-
  have hwl:(Lib.decodeL D).2<=D.length:=by
   have hpos:0<D.length:=by rw [hD,Ac,Dy];omega
   rw [Lib.decodeL_N]
   unfold Lib.decodeN
   repeat' split
   all_goals (simp only;omega)
  cases hinv:BN D with
  | true=>
   have e1:Ey D=0:=by simp [Ey,hinv]
   rw [hinv,Bool.true_or,if_pos rfl] at hstep
   refine Af (fun h2=>?_) (fun h2=>?_) <;> conv=>whnf
   ·exact⟨_,ri,by rw [hI,hstep]⟩
   ·exfalso;rw [e1] at h2;simp at h2
  | false=>
   have e1:Ey D=(Lib.decodeL D).2:=by simp [Ey,hinv]
   have e2:EZ D=(Lib.decodeL D).1:=by simp [EZ,hinv]
   rw [hinv,Bool.false_or] at hstep
   refine Af (fun h2=>?_) (fun h2=>?_) <;> conv=>whnf
   ·exfalso;rw [e1] at h2;simp at h2;omega
   refine Af (fun h3=>?_) (fun h3=>?_) <;> simp only [e2,decide_eq_true_eq,decide_eq_false_iff_not] at h3 <;> conv=>whnf
   ·exact⟨_,ri,by rw [hI,hstep,if_pos (by simp [LE];omega)]⟩
   refine Af (fun h4=>?_) (fun h4=>?_) <;> simp only [e2,beq_iff_eq,beq_eq_false_iff_ne] at h4 <;> conv=>whnf
   ·exact⟨_,ri,by rw [hI,hstep,if_pos (by simp [LE];omega)]⟩
   ·rw [if_neg (by simp [LE];omega)] at hstep
    have hDl:D.length=s.size - p:=by rw [hD,Ac,Dy]
    refine⟨(p+(Lib.decodeL D).2,n+1),⟨?_,?_,?_⟩,?_, [],trivial,⟨rfl,Wp ?_,?_,trivial⟩,trivial,rfl,rfl,rfl⟩
    ·simp only;rw [hI,hstep,hD,Aw]
    ·simp only;omega
    ·simp only;omega
    ·simp only;omega
    ·simp only;omega
    ·rw [e1];exact congrArg (fun n=>AV.v (.int .i64 n)) (wi (by simp only;omega))
 ·refine Af (fun h2=>?_) (fun h2=>?_) <;> simp at h2 <;> conv=>whnf
  ·exact⟨_,ri,by rw [hI,Av (by rw [Dy];omega),IJ];simp;omega⟩
  ·exact⟨_,ri,by rw [hI,Av (by rw [Dy];omega),IJ];simp;omega⟩
end Go.Proofs.YtldngmdpiifamaaGreatDoor.A
end
section
namespace Go.Proofs.YtldngmdpiifamaaGreatDoor
open Go.RowKit
def BP (n lo hi:Int):Bool:=decide (lo<=n)&&decide (n<=hi)
theorem AI {n lo hi:Int}:BP n lo hi=true↔lo<=n/\n<=hi:=by simp [BP]
def Ed (b:Bool):Value:= .int .i64 (if b then 0 else 1)
def AS (g:Geo):Bool:=BP g.z 1 4&&BP g.d 1 4&&BP g.sp 0 2&&BP g.sl 14 30&&BP g.an 1 3
theorem Am {g:Geo}:AS g=true↔(1<=g.z/\g.z<=4)/\(1<=g.d/\g.d<=4)/\(0<=g.sp/\g.sp<=2)/\(14<=g.sl/\g.sl<=30)/\(1<=g.an/\g.an<=3):=by
 simp only [AS,Bool.and_eq_true,AI,and_assoc]

def JR (n:Int):Bool:=BP n 0 4294967295
end Go.Proofs.YtldngmdpiifamaaGreatDoor
end
section
namespace Go.Proofs.YtldngmdpiifamaaGreatDoor
open Go.RowKit
attribute [local go_sem ↓] Go.wp_at_zero Go.wp_at_succ

def CG (size:Int):Int:=if size=1 then 256 else if size=2 then 65536 else 4294967296
def DX (size:Int):Prop:=size=1\/size=2\/size=4
def Fz (n size:Int):Value:=if size=1 then .iface 5 (.int .u8 n) else if size=2 then .iface 289 (.int .u16 n) else .iface 221 (.int .u32 n)
theorem Yb (w:World) (v:Value):(Instr.typeAssert (.iface 5 v) 20 5 true).run Tryz.prog w = .ok (.tuple #[v, .bool true]) w:=by kernel_rfl
theorem VX (w:World) (v:Value):(Instr.typeAssert (.iface 289 v) 20 5 true).run Tryz.prog w = .ok (.tuple #[.int .u8 0, .bool false]) w:=by kernel_rfl
theorem VW (w:World) (v:Value):(Instr.typeAssert (.iface 221 v) 20 5 true).run Tryz.prog w = .ok (.tuple #[.int .u8 0, .bool false]) w:=by kernel_rfl
theorem XL (w:World) (v:Value):(Instr.typeAssert (.iface 289 v) 20 289 true).run Tryz.prog w = .ok (.tuple #[v, .bool true]) w:=by kernel_rfl
theorem UB (w:World) (v:Value):(Instr.typeAssert (.iface 221 v) 20 289 true).run Tryz.prog w = .ok (.tuple #[.int .u16 0, .bool false]) w:=by kernel_rfl
theorem XK (w:World) (v:Value):(Instr.typeAssert (.iface 221 v) 20 221 false).run Tryz.prog w = .ok v w:=by kernel_rfl
attribute [local go_sem] Yb VX VW XL UB XK
def leB:Nat->Nat->List UInt8
 | 0,_=> []
 | k+1,n=>UInt8.ofNat (n % 256)::leB k (n / 256)
theorem leB_len:∀ (k n:Nat),(leB k n).length=k
 | 0,_=>rfl
 | k+1,n=>by simp [leB,leB_len k]

theorem OwR.litB (w:World) (M:Ms) (l:List UInt8) (hl:l.length<=1000):OwR (w.alloc (.cells (l.map fun x=>Value.int .u8 x.toNat).toArray 5)) M w.heap.size 5 (.slice (some ⟨w.heap.size,0,none⟩) l.length l.length) l:=by
 refine⟨l.map fun x=>Value.int .u8 x.toNat,⟨by simp [Rp.sz], .inr ⟨w.heap.size,l.length,_,rfl,Nat.le_refl _,heap_alloc_new w _,Nat.le_refl _,by unfold maxLen;omega,by simp [Rp.sz],?_⟩⟩,?_⟩
 ·simp only [Rp.sz,Dx]
  exact List.take_of_length_le (by simp)
 ·clear hl
  induction l with
  | nil=>rfl
  | cons x l ih=>exact⟨[.int .u8 x.toNat],_,rfl,rfl,rfl,ih⟩

theorem Rw (n size:Int) (w:World) (hs:DX size):Calls Tryz.prog 189 #[.int .i64 n, .int .i64 size] w fun e w'=>e = .returned (if 0<=n/\n<CG size then Fz n size else .nilIface)/\w'=w:=by
 by_cases h0:0<=n
 ·by_cases h1:n<CG size
  ·have w8:size=1->IntKind.u8.wrap n=n:=fun h=>by subst h;simp [CG] at h1;rw [IntKind.wrap_u8];omega
   have w16:size=2->IntKind.u16.wrap n=n:=fun h=>by subst h;simp [CG] at h1;rw [IntKind.wrap_u16];omega
   have w32:size=4->IntKind.u32.wrap n=n:=fun h=>by subst h;simp [CG] at h1;rw [IntKind.wrap_u32];omega
   have hE:=Lib.hid (show (if 0<=n/\n<CG size then Fz n size else .nilIface)=Fz n size from if_pos ⟨h0,h1⟩)
   rw [hE.out]
   rcases hs with rfl | rfl | rfl
   ·have h2:n<256:=h1
    have w0:=w8 rfl
    clear h1 w8 w16 w32 hE
    go_enter Tryz.func189,Tryz.ntmps189
    go_wp2
    go_ret
    exact⟨rfl,rfl⟩
   ·have h2:n<65536:=h1
    have w0:=w16 rfl
    clear h1 w8 w16 w32 hE
    go_enter Tryz.func189,Tryz.ntmps189
    go_wp2
    go_ret
    exact⟨rfl,rfl⟩
   ·have h2:n<4294967296:=h1
    have w0:=w32 rfl
    clear h1 w8 w16 w32 hE
    go_enter Tryz.func189,Tryz.ntmps189
    go_wp2
    go_ret
    exact⟨rfl,rfl⟩
  ·have hE:=Lib.hid (show (if 0<=n/\n<CG size then Fz n size else .nilIface) = .nilIface from if_neg (by omega))
   rw [hE.out]
   rcases hs with rfl | rfl | rfl
   ·have h2:¬n<256:=h1
    clear h1 hE
    go_enter Tryz.func189,Tryz.ntmps189
    go_wp2
    go_ret
    exact⟨rfl,rfl⟩
   ·have h2:¬n<65536:=h1
    clear h1 hE
    go_enter Tryz.func189,Tryz.ntmps189
    go_wp2
    go_ret
    exact⟨rfl,rfl⟩
   ·have h2:¬n<4294967296:=h1
    clear h1 hE
    go_enter Tryz.func189,Tryz.ntmps189
    go_wp2
    go_ret
    exact⟨rfl,rfl⟩
 ·have hE:=Lib.hid (show (if 0<=n/\n<CG size then Fz n size else .nilIface) = .nilIface from if_neg (by omega))
  rw [hE.out]
  clear hE
  rcases hs with rfl | rfl | rfl
  ·go_enter Tryz.func189,Tryz.ntmps189
   go_wp2
   go_ret
   exact⟨rfl,rfl⟩
  ·go_enter Tryz.func189,Tryz.ntmps189
   go_wp2
   go_ret
   exact⟨rfl,rfl⟩
  ·go_enter Tryz.func189,Tryz.ntmps189
   go_wp2
   go_ret
   exact⟨rfl,rfl⟩

theorem Ph (n size:Int) (w:World) (M:Ms) (hs:DX size) (h0:0<=n) (h1:n<CG size):Calls Tryz.prog 191 #[Fz n size] w fun e w'=>∃ r,e = .returned r/\OwR w' M w.heap.size 5 r (leB size.toNat n.toNat)/\Below w.heap.size w w':=by
 have hB:=fun o=>(Below.refl w.heap.size w).alloc (Nat.le_refl _) o
 obtain⟨m,rfl⟩:∃ m:Nat,n=m:=⟨n.toNat,by omega⟩
 rcases hs with rfl | rfl | rfl
 ·have h2:(m:Int)<256:=h1
  have hL:=Lib.hid (OwR.litB w M (leB 1 m) (by rw [leB_len];omega))
  have e:(UInt8.ofNat (m % 256)).toNat=m:=by simp;omega
  simp only [leB,Ay,By,e,Ai,AK] at hL
  have HB:=Lib.hid hB
  clear hB h1 e h0
  unfold Fz
  simp only [if_true]
  go_enter Tryz.func191,Tryz.ntmps191
  go_wp2
  go_ret
  exact⟨_,rfl,hL.out,HB.out _⟩
 ·have h2:(m:Int)<65536:=h1
  have hL:=Lib.hid (OwR.litB w M (leB 2 m) (by rw [leB_len];omega))
  have e0:((UInt8.ofNat (m % 256)).toNat:Int)=(m:Int) % 256:=by simp
  have e1:((UInt8.ofNat (m / 256 % 256)).toNat:Int)=(m:Int) / 256:=by simp;omega
  simp only [leB,Ay,By,e0,e1,Ai,AK] at hL
  have HB:=Lib.hid hB
  clear hB h1 e0 e1 h0
  unfold Fz
  simp only [if_true]
  rw [if_neg (by decide)]
  go_enter Tryz.func191,Tryz.ntmps191
  go_wp2
  go_ret
  exact⟨_,rfl,hL.out,HB.out _⟩
 ·have h2:(m:Int)<4294967296:=h1
  have hL:=Lib.hid (OwR.litB w M (leB 4 m) (by rw [leB_len];omega))
  have e0:((UInt8.ofNat (m % 256)).toNat:Int)=(m:Int) % 256:=by simp
  have e1:((UInt8.ofNat (m / 256 % 256)).toNat:Int)=(m:Int) / 256 % 256:=by simp
  have e2:((UInt8.ofNat (m / 256 / 256 % 256)).toNat:Int)=(m:Int) / 65536 % 256:=by simp;omega
  have e3:((UInt8.ofNat (m / 256 / 256 / 256 % 256)).toNat:Int)=(m:Int) / 16777216:=by simp;omega
  simp only [leB,Ay,By,e0,e1,e2,e3,Ai,AK] at hL
  have HB:=Lib.hid hB
  clear hB h1 e0 e1 e2 e3 h0
  unfold Fz
  rw [if_neg (by decide),if_neg (by decide)]
  go_enter Tryz.func191,Tryz.ntmps191
  go_wp2
  go_ret
  exact⟨_,rfl,hL.out,HB.out _⟩
end Go.Proofs.YtldngmdpiifamaaGreatDoor
end
section
namespace Go.Proofs.YtldngmdpiifamaaGreatDoor
open Go.RowKit
attribute [local go_sem ↓] Go.wp_at_zero Go.wp_at_succ

theorem Ue (n:Nat) (w:World) (M:Ms) (hn:n<=1000000000):Calls Tryz.prog 223 #[.slice none 0 0, .int .i64 n] w fun e w'=>∃ r,e = .returned r/\OwR w' M w.heap.size 5 r ([]:List UInt8)/\Below w.heap.size w w':=by
 have hn0:¬(n:Int)<0:=by omega
 by_cases h0:n=0
 ·subst h0
  clear hn
  go_enter Tryz.func223,Tryz.ntmps223
  go_wp2
  go_ret
  exact⟨_,rfl,OwR.nil _ _ _ _,Below.refl _ _⟩
 ·obtain⟨i0,hi0,hz0,hz1,hz2⟩:=info_parts (show (Tryz.prog.info? 5).map (fun i=>(i.zero,i.size,i.bytes))=some (some (.int .u8 0),1,1) by kernel_rfl)
  have hrz:∀ ty,_:=fun ty=>Lib.run_append_nil_zeros (P:=Tryz.prog) w 80 3 ty 5 i0 _ .i64 .i64 Tryz.underlying80 Tryz.underlying3 hi0 hz0 n (by omega) (by omega) (by omega) (by rw [hz2];omega)
  have hG:=grownCap_ge w n 0 5
  have hGm:=grownCap_le_maxLen w n 0 5 (by unfold maxLen;omega)
  obtain⟨G,hGe⟩:∃ G,G=grownCap w n 0 5:=⟨_,rfl⟩
  rw [<-hGe] at hG hGm
  simp only [<-hGe] at hrz
  obtain⟨Z,hZ⟩:∃ Z,Z=Builtin.zeroCells (Value.int .u8 0).cells n ++ Builtin.zeroCells (Value.int .u8 0).cells (G - n):=⟨_,rfl⟩
  have hZs:Z.size=G*1:=by
   rw [hZ,Array.size_append,size_zeroCells,size_zeroCells]
   simp [Value.cells]
   omega
  rw [<-hZ] at hrz
  have hO:=Lib.hid (show OwR (w.drew.alloc (.cells Z 5)) M w.heap.size 5 (.slice (some ⟨w.heap.size,0,none⟩) 0 G) ([]:List UInt8) from ⟨[],World.ownsRow_made w.drew Z G (Nat.le_refl _) hGm hZs,rfl⟩)
  have hB:=Lib.hid ((G5 w).trans ((Below.refl w.drew.heap.size w.drew).alloc (Nat.le_refl _) (.cells Z 5)))
  have h0':(0:Int)<n:=by omega
  unfold maxLen at hGm
  have hGi:(n:Int)<=G:=by omega
  clear hi0 hz0 hz1 hz2 hZ hZs hGe h0 hn
  go_enter Tryz.func223,Tryz.ntmps223
  go_wp2_with (with_reducible refine Lib.wpList_append_run w rfl (.tmp 20) (.tmp 21) _ _ rfl _ _ rfl rfl _ _ (hrz _) ?_)
  go_ret
  exact⟨_,rfl,hO.out,hB.out⟩
theorem Gn {α:Type} [Rp α] {w:World} {M:Ms} {a:Option Addr} {n c k:Nat} {l:List (List α)} (h:SlR w M (.slice a n c) l) (hk:k<l.length):∃ b off A C,a=some ⟨b,off,none⟩/\¬M b/\w.cell? ⟨b,off+k,none⟩=some (.slice A l[k].length C)/\SlR w M (.slice A l[k].length C) l[k]:=by
 obtain⟨b,off,cs,rfl,hm,he,hc⟩:=h.at_ hk
 obtain⟨v,rfl,hv⟩:=he
 obtain⟨A,C,rfl⟩:=hv.form
 refine⟨b,off,A,C,rfl,hm,?_,hv⟩
 have:=hc 0 _ rfl
 simpa [Rp.sz] using this
theorem Keep.own {α:Type} [Rp α] {w w4:World} {M:Ms} {e:TypeId} {v:Value} {L:List α} (hb:Below w.heap.size w w4) (ho:OwR w4 M w.heap.size e v L):Keep w noM w4 (fun b=>noM b\/v.ownBlock=some b):=fun b hlt _=>
 ⟨fun h=>h.elim (fun h=>h) (fun h=>by have:=ho.own_ge h;omega),hb.block b hlt⟩
theorem M7 {α:Type} {ls:List (List α)} {k:Nat} (hk:k<ls.length):(ls.take (k+1)).flatten=(ls.take k).flatten ++ ls[k]:=by
 rw [Ba,List.getElem?_eq_getElem hk,List.flatten_append];simp
theorem Ra {α:Type} {ls:List (List α)} (k:Nat):(ls.take k).flatten.length<=ls.flatten.length:=by
 conv=>rhs;rw [<-Bf k ls]
 rw [List.flatten_append,Ae];omega

theorem Qo (v:Value) (ls:List (List UInt8)) (w:World) (M Mi:Ms) (h:SlR w Mi v ls) (hl:ls.flatten.length<=1000000000) (hn:ls.length<=1000000) :
  Calls Tryz.prog 190 #[v] w fun e w'=>∃ r,e = .returned r/\OwR w' M w.heap.size 5 r ls.flatten/\Below w.heap.size w w':=by
 obtain⟨a,c,rfl⟩:=h.form
 have H:=Lib.hid h.bare
 have HL:=Lib.hid hl
 clear h hl
 go_enter Tryz.func190,Tryz.ntmps190
 go_wp2
 go_loopg [3,11] ls.length (fun g s3 s11 wr=>∃ k s:Nat,s11 = .int .i64 k/\s3 = .int .i64 s/\k<=ls.length/\ls.length - k<=g/\Hid (s=(ls.take k).flatten.length)/\wr=w)
 case atStart=>exact⟨0,0,rfl,rfl,Ag _,by omega,Lib.hid (by simp),rfl⟩
 case round=>
  obtain⟨k,s,rfl,rfl,hkl,hg,hs,rfl⟩:=hrel
  by_cases hlt:k<ls.length
  ·obtain⟨b,off,A,C,rfl, -,x1, -⟩:=Gn H.out hlt
   have hlt':(k:Int)<ls.length:=by omega
   have hst:=Lib.hid (M7 hlt)
   have hb:s+ls[k].length<=1000000000:=by
    have h1:=Ra (ls:=ls) (k+1)
    rw [hst.out,Ae,<-hs.out] at h1
    have:=HL.out
    omega
   have hw1:IntKind.i64.wrap ((s:Int)+ls[k].length)=((s+ls[k].length:Nat):Int):=by rw [IntKind.wrap_i64];omega
   have hw0:¬(((s+ls[k].length:Nat):Int)<0):=by omega
   go_wp2
   go_roundg (ls.length - (k+1))
   case measure=>omega
   case rel=>exact⟨k+1,s+ls[k].length,by go_num,by first | rfl | go_num,by omega,by omega,Lib.hid (by rw [hst.out,Ae,hs.out]),rfl⟩
  ·obtain rfl:k=ls.length:=by omega
   have hb:s<=1000000000:=by
    have:=hs.out
    rw [List.take_length] at this
    have:=HL.out
    omega
   obtain⟨w0,rfl⟩:∃ w0,w0=wr:=⟨_,rfl⟩
   have hgr:=Lib.hid (Ue s w0 noM hb)
   clear hb hs
   go_wp2_with (go_at_call 223;go_must (with_reducible refine hgr.out.mono ?_);rintro e w2 ⟨r,rfl,ho2,hB2⟩)
   have HO:=Lib.hid (And.intro ho2 hB2)
   clear ho2 hB2 hgr
   go_loopg [6,27] ls.length (fun g s6 s27 w3=>∃ k:Nat,s27 = .int .i64 k/\k<=ls.length/\ls.length - k<=g/\Hid (OwR w3 noM w0.heap.size 5 s6 ((ls.take k).flatten)/\Below w0.heap.size w0 w3))
   case atStart=>exact⟨0,rfl,Ag _,by omega,Lib.hid (by simpa using HO.out)⟩
   case round=>
    obtain⟨k,rfl,hkl,hg,hI⟩:=hrel
    by_cases hlt:k<ls.length
    ·obtain⟨ho,hB⟩:=hI.out
     obtain⟨b,off,A,C,rfl, -,x0,x2⟩:=Gn H.out hlt
     have x1:=(Keep.below (M:=noM) hB).cell (fun h=>h) x0
     have hS:=Lib.hid (x2.mono (Keep.own hB ho))
     have O3:=Lib.hid ho
     have HB3:=Lib.hid hB
     have hlt':(k:Int)<ls.length:=by omega
     have hst:=Lib.hid (M7 hlt)
     have hb:((ls.take k).flatten).length+ls[k].length<=1000000000:=by
      have h1:=Ra (ls:=ls) (k+1)
      rw [hst.out,Ae] at h1
      have:=HL.out
      omega
     clear x0 x2 ho hB hI
     go_wp2_with (at_builtin;go_must (refine Fc (α:=UInt8) (M:=noM) (base:=w0.heap.size) (l:=(ls.take k).flatten) (m:=ls[k]) rfl (by rfl) tyB (by rfl) O3.out (by rfl) hS.out hb HB3.out.size ?_);intro v4 w4 ho4 hg4 hat4)
     go_roundg (ls.length - (k+1))
     case measure=>omega
     case rel=>exact⟨k+1,by go_num,by omega,by omega,Lib.hid ⟨by rw [hst.out];exact ho4,HB3.out.grown hg4 HB3.out.size (fun b e=>O3.out.own_ge e)⟩⟩
    ·obtain rfl:k=ls.length:=by omega
     obtain⟨ho,hB⟩:=hI.out
     rw [List.take_length] at ho
     have HF:=Lib.hid (And.intro (OwR.plain (M':=M) (fun _ _ _ _ _ h=>h) ho) hB)
     clear ho hB hI
     go_wp2
     go_ret
     exact⟨_,rfl,HF.out.1,HF.out.2⟩
end Go.Proofs.YtldngmdpiifamaaGreatDoor
end
section
namespace Go.Proofs.YtldngmdpiifamaaGreatDoor
open Go.RowKit
attribute [local go_sem ↓] Go.wp_at_zero Go.wp_at_succ

theorem OwR.pair {w:World} {v1 v2:Value} {l1 l2:List UInt8} (h1:SlR w noM v1 l1) (h2:SlR w noM v2 l2) (t:TypeId):OwR (w.alloc (.cells #[v1,v2] t)) noM w.heap.size t (.slice (some ⟨w.heap.size,0,none⟩) 2 2) [l1,l2]:=
 ⟨[v1,v2],⟨rfl, .inr ⟨_,2,_,rfl,Nat.le_refl _,heap_alloc_new w _,Nat.le_refl _,by unfold maxLen;omega,rfl,rfl⟩⟩,⟨[v1], [v2],rfl,rfl,⟨v1,rfl,h1.mono Keep.ownNew⟩,⟨[v2], [],rfl,rfl,⟨v2,rfl,h2.mono Keep.ownNew⟩,rfl⟩⟩⟩
theorem NS (n size:Int):∃ t u,Fz n size = .iface t u:=by
 unfold Fz
 split
 ·exact⟨_,_,rfl⟩
 ·split <;> exact⟨_,_,rfl⟩

theorem I8 (v:Value) (l:List UInt8) (n size:Int) (w:World) (M Mi:Ms) (h:SlR w Mi v l) (hs:DX size) (hl:l.length<=1000000) (h0:0<=n) (h1:n<CG size) :
  Calls Tryz.prog 138 #[v, .int .i64 n, .int .i64 size] w fun e w'=>∃ r,e = .returned (.tuple #[r, .int .i64 0])/\OwR w' M w.heap.size 5 r (l ++ leB size.toNat n.toNat)/\Below w.heap.size w w':=by
 obtain⟨a,c,rfl⟩:=h.form
 have H:=Lib.hid h.bare
 have hsz:=Lib.hid (Rw n size w hs)
 rw [if_pos ⟨h0,h1⟩] at hsz
 have hby:=Lib.hid (Ph n size w noM hs h0 h1)
 obtain⟨t,u,e⟩:=NS n size
 rw [e] at hsz hby
 have hlb:(leB size.toNat n.toNat).length<=4:=by rw [leB_len];rcases hs with rfl | rfl | rfl <;> decide
 obtain⟨L,hL⟩:∃ L,L=leB size.toNat n.toNat:=⟨_,rfl⟩
 rw [<-hL] at hby hlb |-
 clear e hs h0 h1 h hL
 go_enter Tryz.func138,Tryz.ntmps138
 go_wp2_with fail
 ((with_reducible refine hsz.out.mono ?_);rintro e w1 ⟨rfl,rfl⟩)
 go_wp2_with fail
 ((with_reducible refine hby.out.mono ?_);rintro e w2 ⟨r1,rfl,ho1,hB1⟩)
 obtain⟨A1,C1,rfl⟩:=ho1.form
 have HB1:=Lib.hid hB1
 have HA:=Lib.hid ((Below.refl w2.heap.size w2).alloc (Nat.le_refl _) (.cells #[.slice a l.length c, .slice A1 L.length C1] 80))
 have hcc:=Lib.hid (Qo _ [l,L] (w2.alloc (.cells #[.slice a l.length c, .slice A1 L.length C1] 80)) M noM ((OwR.pair (H.out.mono (Keep.below hB1)) (ho1.sl (fun _ _ h=>h)) 80).sl (fun _ _ h=>h)) (by simp;omega) (by simp))
 clear ho1 hB1 hby hsz
 go_wp2_with fail
 ((with_reducible refine hcc.out.mono ?_);rintro e w3 ⟨r3,rfl,ho3,hB3⟩)
 have HO:=Lib.hid (ho3.mono_base (base':=w1.heap.size) (Bc HB1.out.size HA.out.size))
 have HF:=Lib.hid (HB1.out.trans ((HA.out.trans (hB3.mono HA.out.size)).mono HB1.out.size))
 clear ho3 hB3 hcc
 go_wp2
 go_ret2
 refine⟨_,rfl,?_,HF.out⟩
 have:=HO.out
 simpa using this
end Go.Proofs.YtldngmdpiifamaaGreatDoor
end
section
namespace Go.Proofs.YtldngmdpiifamaaGreatDoor
open Go.RowKit
attribute [local go_sem ↓] Go.wp_at_zero Go.wp_at_succ

def rowB:List Int->List Int->List UInt8
 | n::ns,s::ss=>leB s.toNat n.toNat ++ rowB ns ss
 | _,_=> []
theorem rowB_step:∀ (ns ss:List Int) (k:Nat) (h1:k<ns.length) (h2:k<ss.length),rowB (ns.take (k+1)) (ss.take (k+1))=rowB (ns.take k) (ss.take k) ++ leB ss[k].toNat ns[k].toNat
 | n::ns,s::ss,0,_,_=>by simp [rowB]
 | n::ns,s::ss,k+1,h1,h2=>by
  have:=rowB_step ns ss k (by simpa using h1) (by simpa using h2)
  simp only [B8,rowB,List.getElem_cons_succ,List.append_assoc]
  rw [this]
theorem rowB_len:∀ (ns ss:List Int),(∀ s∈ss,DX s)->(rowB ns ss).length<=4*ss.length
 | [],ss,_=>by simp [rowB]
 | n::ns, [],_=>by simp [rowB]
 | n::ns,s::ss,h=>by
  have:=rowB_len ns ss (fun x hx=>h x (by simp [hx]))
  have h1:s.toNat<=4:=by rcases h s (by simp) with rfl | rfl | rfl <;> decide
  simp only [rowB,Ae,leB_len,Ai]
  omega

theorem Vf (v1 v2:Value) (ns ss:List Int) (w:World) (M M1 M2:Ms) (h1:SlR w M1 v1 ns) (h2:SlR w M2 v2 ss) (hl:ns.length=ss.length) (hn:ns.length<=1000)
  (hf:∀ k (a:k<ns.length) (b:k<ss.length),DX ss[k]/\0<=ns[k]/\ns[k]<CG ss[k]) :
  Calls Tryz.prog 135 #[v1,v2] w fun e w'=>∃ r,e = .returned (.tuple #[r, .int .i64 0])/\OwR w' M w.heap.size 5 r (rowB ns ss)/\Below w.heap.size w w':=by
 obtain⟨a1,c1,rfl⟩:=h1.form
 obtain⟨a2,c2,rfl⟩:=h2.form
 have H1:=Lib.hid h1.bare
 have H2:=Lib.hid h2.bare
 have HF:=Lib.hid hf
 have hlen':((ns.length:Int) != ss.length)=false:=by simp [hl]
 have Hl:=Lib.hid hl
 have Hss:Hid (∀ s∈ss,DX s):=Lib.hid fun s hs=>by
  obtain⟨k,hk,rfl⟩:=Do hs
  exact(hf k (by omega) hk).1
 clear h1 h2 hf hl
 go_enter Tryz.func135,Tryz.ntmps135
 go_wp2
 clear hlen'
 go_loopg [6,18] ns.length (fun g s6 s18 wr=>∃ k:Nat,s18 = .int .i64 k/\k<=ns.length/\ns.length - k<=g/\Hid (OwR wr noM w.heap.size 5 s6 (rowB (ns.take k) (ss.take k))/\Below w.heap.size w wr))
 case atStart=>exact⟨0,rfl,Ag _,by omega,Lib.hid ⟨OwR.nil _ _ _ _,Below.refl _ _⟩⟩
 case round=>
  obtain⟨k,rfl,hkl,hg,hI⟩:=hrel
  by_cases hlt:k<ns.length
  ·obtain⟨ho,hB⟩:=hI.out
   have hl:=Hl.out
   have hlt2:k<ss.length:=by omega
   have hl2:(ss.take k).length<=1000:=by rw [Ao];omega
   obtain⟨b1,o1,rfl, -,x1⟩:=P_ (H1.out.mono (Keep.below hB)) hlt
   obtain⟨b2,o2,rfl, -,x2⟩:=P_ (H2.out.mono (Keep.below hB)) hlt2
   have hlt':(k:Int)<ns.length:=by omega
   have hlt2':(k:Int)<ss.length:=by omega
   obtain⟨f1,f2,f3⟩:=HF.out k hlt hlt2
   have hle:=rowB_len (ns.take k) (ss.take k) (fun s hs=>Hss.out s (Bw hs))
   have hp:=Lib.hid (I8 _ _ ns[k] ss[k] wr noM noM (ho.sl (fun _ _ h=>h)) f1 (by omega) f2 f3)
   have hst:=Lib.hid (rowB_step ns ss k hlt hlt2)
   have HB:=Lib.hid hB
   clear f1 f2 f3 ho hB hI hle hl hl2
   go_wp2_with (go_at_call 138;go_must (with_reducible refine hp.out.mono ?_);rintro e w2 ⟨r,rfl,ho2,hB2⟩)
   go_roundg (ns.length - (k+1))
   case measure=>omega
   case rel=>exact⟨k+1,by go_num,by omega,by omega,Lib.hid ⟨by rw [hst.out];exact ho2.mono_base HB.out.size,HB.out.trans (hB2.mono HB.out.size)⟩⟩
  ·obtain rfl:k=ns.length:=by omega
   obtain⟨ho,hB⟩:=hI.out
   rw [List.take_length,Hl.out,List.take_length] at ho
   have HX:=Lib.hid (And.intro (OwR.plain (M':=M) (fun _ _ _ _ _ h=>h) ho) hB)
   clear ho hB hI
   go_wp2
   go_ret2
   exact⟨_,rfl,HX.out.1,HX.out.2⟩
end Go.Proofs.YtldngmdpiifamaaGreatDoor
end
section
namespace Go.Proofs.YtldngmdpiifamaaGreatDoor
open Go.RowKit
attribute [local go_sem ↓] Go.wp_at_zero Go.wp_at_succ

theorem Oz (v:Value) (l:List UInt8) (w:World) (M Mi:Ms) (h:SlR w Mi v l) (hl:l.length<=255) :
  Calls Tryz.prog 137 #[v] w fun e w'=>∃ r,e = .returned (.tuple #[r, .int .i64 0])/\OwR w' M w.heap.size 5 r (UInt8.ofNat l.length::l)/\Below w.heap.size w w':=by
 obtain⟨a,c,rfl⟩:=h.form
 have hL:=OwR.litB w noM [UInt8.ofNat l.length] (by simp)
 have e:((UInt8.ofNat l.length).toNat:Int)=(l.length:Int):=by simp;omega
 simp only [Ay,By,e,Ai,AK] at hL
 have hL:=Lib.hid hL
 have hS:=Lib.hid (h.bare.mono (Keep.ownNew (o:= .cells #[Value.int .u8 (l.length:Int)] 5) (n:=1) (c:=1)))
 have HB:=Lib.hid ((Below.refl w.heap.size w).alloc (Nat.le_refl _) (.cells #[Value.int .u8 (l.length:Int)] 5))
 have hl':¬(255:Int)<l.length:=by omega
 have hw8:IntKind.u8.wrap (l.length:Int)=l.length:=by rw [IntKind.wrap_u8];omega
 have hb : [UInt8.ofNat l.length].length+l.length<=1000000000:=by simp;omega
 clear h e hl
 go_enter Tryz.func137,Tryz.ntmps137
 go_wp2_with (at_builtin;go_must (refine Fc (α:=UInt8) (M:=noM) (base:=w.heap.size) (l:= [UInt8.ofNat l.length]) (m:=l) rfl (by rfl) tyB (by rfl) hL.out (by rfl) hS.out hb HB.out.size ?_);intro v4 w4 ho4 hg4 hat4)
 have HO:=Lib.hid (And.intro (OwR.plain (M':=M) (fun _ _ _ _ _ h=>h) ho4) (HB.out.grown hg4 HB.out.size (fun b e=>hL.out.own_ge e)))
 clear ho4 hg4 hat4
 go_wp2
 go_ret2
 exact⟨_,rfl,HO.out.1,HO.out.2⟩
end Go.Proofs.YtldngmdpiifamaaGreatDoor
end
section
namespace Go.Proofs.YtldngmdpiifamaaGreatDoor
open Go.RowKit
theorem Vw (a x k:Nat) (ha:a<256 ^ k) (hx:x<256) (hk:k<4):bits BinOp.or IntKind.i64 (a:Int) (wrap64 ((x:Int)*2 ^ (8*k)))=((a+256 ^ k*x:Nat):Int):=by
 have e:(256:Nat) ^ k=2 ^ (8*k):=by rw [Nat.pow_mul]
 have h1:256 ^ k<=16777216:=by
  rcases k with _ | _ | _ | _ | k
  all_goals first | decide | omega
 have h2:256 ^ k*x<4294967296:=by
  have:256 ^ k*x<=16777216*255:=CN h1 (by omega)
  omega
 have hw:wrap64 ((x:Int)*2 ^ (8*k))=((256 ^ k*x:Nat):Int):=by
  have:(x:Int)*2 ^ (8*k)=((256 ^ k*x:Nat):Int):=by rw [e];push_cast;rw [Int.mul_comm]
  rw [this]
  unfold wrap64
  omega
 rw [hw]
 have h62:(4294967296:Nat)<2 ^ 62:=by decide
 rw [(bits_nat .i64 62 (by decide) (fun n h0 h1=>by rw [IntKind.wrap_i64];omega) a (256 ^ k*x) (by omega) (by omega)).2]
 rw [e] at ha |-
 rw [Nat.or_comm,<-Nat.two_pow_add_eq_or_of_lt ha x,BS]
theorem SlR.cap {α:Type} [Rp α] {w:World} {M:Ms} {a:Option Addr} {n c:Nat} {l:List α} (h:SlR w M (.slice a n c) l):n=l.length/\l.length<=c/\c<=9223372036854775807:=by
 obtain⟨a',c',xs,e,h1,h2,_⟩:=h
 cases e
 exact⟨rfl,h1,by unfold maxLen at h2;omega⟩
theorem Elems.drop_ {α:Type} {sz:Nat} {E:List Value->α->Prop}:∀ {l:List α} {xs:List Value} (i:Nat),Elems sz E xs l->i<=l.length->Elems sz E (xs.drop (i*sz)) (l.drop i)
 | l,xs,0,h,_=>by simpa using h
 | x::l,_,i+1,⟨cs,ys,e,hc,he,hy⟩,hi=>by
  subst e
  have e1:(i+1)*sz=cs.length+i*sz:=by rw [hc,A_];omega
  rw [e1,BM,Av (by omega),Bk,List.drop_succ_cons]
  rw [show cs.length+i*sz - cs.length=i*sz by omega]
  exact Elems.drop_ i hy (by simpa using hi)
 | [],xs,i+1,h,hi=>by simp at hi
theorem SlR.drop_ {α:Type} [Rp α] {w:World} {M:Ms} {b off n c i:Nat} {l:List α} (h:SlR w M (.slice (some ⟨b,off,none⟩) n c) l) (hi:i<=l.length):SlR w M (.slice (if c=i then some ⟨b,off,none⟩ else some ⟨b,off+i*Rp.sz α,none⟩) (n - i) (c - i)) (l.drop i):=by
 obtain⟨a',c',xs,e,h1,h2,h3,h4⟩:=h
 cases e
 have hl:(l.drop i).length=l.length - i:=by rw [Ac]
 refine⟨_,c - i,xs.drop (i*Rp.sz α),by rw [hl],by omega,by omega,h3.drop_ i hi,fun hne=>?_⟩
 have hci:c≠i:=fun e=>hne (by rw [Av (by omega)])
 rw [if_neg hci]
 obtain⟨b',off',e,hm,hc⟩:=h4 (by intro e;rw [e] at hne;simp at hne)
 cases e
 refine⟨b,off+i*Rp.sz α,rfl,hm,fun j u hu=>?_⟩
 rw [List.getElem?_drop] at hu
 have:=hc _ u hu
 rwa [<-CF] at this
def leN:List UInt8->Nat
 | []=>0
 | x::l=>x.toNat+256*leN l
theorem leN_lt:∀ l:List UInt8,leN l<256 ^ l.length
 | []=>by simp [leN]
 | x::l=>by
  have:=leN_lt l
  have:=x.toNat_lt
  simp only [leN,Ai,Nat.pow_succ]
  omega
theorem leN_snoc:∀ (l:List UInt8) (x:UInt8),leN (l ++ [x])=leN l+256 ^ l.length*x.toNat
 | [],x=>by simp [leN]
 | y::l,x=>by
  simp only [Be,leN,leN_snoc l x,Ai,Nat.pow_succ,Nat.mul_add]
  rw [<-CF,<-Nat.mul_assoc,Dd 256 (256 ^ l.length)]

theorem Uf {l:List UInt8} {k:Nat} (hk:k<l.length) (h4:k<4):bits BinOp.or IntKind.i64 ((leN (l.take k):Nat):Int) (wrap64 ((l[k].toNat:Int)*2 ^ (8*k)))=((leN (l.take (k+1)):Nat):Int):=by
 have hlen:(l.take k).length=k:=by rw [Ao];omega
 have:=leN_lt (l.take k)
 rw [hlen] at this
 rw [Vw _ _ k this l[k].toNat_lt h4,Ba,List.getElem?_eq_getElem hk]
 show _=((leN (l.take k ++ [l[k]]):Nat):Int)
 rw [leN_snoc,hlen]

abbrev OM (M:Ms) (v:Value):Ms:=fun b=>M b\/v.ownBlock=some b
theorem OwR.own_ne {α β:Type} [Rp α] [Rp β] {w:World} {M1 M2:Ms} {n1 n2:Nat} {e1 e2:TypeId} {v1 v2:Value} {l1:List α} {l2:List β} (h1:OwR w M1 n1 e1 v1 l1) (h2:OwR w M2 n2 e2 v2 l2) (hne:e1≠e2) :
  v2.ownBlock=none\/v2.ownBlock≠v1.ownBlock:=by
 obtain⟨xs,ho',_⟩:=h1
 obtain⟨ys,ho'',_⟩:=h2
 rcases ho''.2 with ⟨rfl,_⟩ | ⟨g2,cap2,cur2,rfl,_,hh2,_⟩
 ·exact .inl (by simp [Value.ownBlock])
 ·refine .inr fun e=>?_
  rcases ho'.2 with ⟨rfl,_⟩ | ⟨g1,cap,cur,rfl,_,hh,_⟩
  ·simp [Value.ownBlock] at e
  ·simp [Value.ownBlock] at e
   subst e
   rw [hh] at hh2
   injection hh2 with hh2
   injection hh2 with _ ht
   exact hne ht
theorem OwR.own_new {α β:Type} [Rp α] [Rp β] {w w':World} {M1 M2:Ms} {n1:Nat} {e1 e2:TypeId} {v1 v2:Value} {l1:List α} {l2:List β} (h1:OwR w M1 n1 e1 v1 l1) (h2:OwR w' M2 w.heap.size e2 v2 l2) :
  v2.ownBlock=none\/v2.ownBlock≠v1.ownBlock:=by
 cases h:v2.ownBlock with
 | none=>exact .inl rfl
 | some g=>
  refine .inr fun e=>?_
  have a:=h2.own_ge h
  have b:=h1.own_lt e.symm
  omega
theorem OwR.own_old {α β:Type} [Rp α] [Rp β] {w w':World} {M1 M2:Ms} {n1:Nat} {e1 e2:TypeId} {v1 v2:Value} {l1:List α} {l2:List β} (h1:OwR w M1 n1 e1 v1 l1) (h2:OwR w' M2 w.heap.size e2 v2 l2) :
  v1.ownBlock=none\/v1.ownBlock≠v2.ownBlock:=by
 cases h:v1.ownBlock with
 | none=>exact .inl rfl
 | some g=>
  refine .inr fun e=>?_
  have a:=h2.own_ge e.symm
  have b:=h1.own_lt h
  omega
abbrev UJ (α:Type) [Rp α]:Prop:=∀ w M w' M' cs (x:α),Rp.E w M cs x->Rp.E w' M' cs x
section
variable {α:Type} [Rp α] {w w':World} {M M':Ms} {base:Nat} {e:TypeId} {v:Value} {l:List α}
theorem OwR.pl (hp:UJ α) (h:OwR w M base e v l):OwR w M' base e v l:=OwR.plain (fun _ _ _ _ _ h=>hp _ _ _ _ _ _ h) h
theorem OwR.keptP (hp:UJ α) {row:Option Nat} (h:OwR w M base e v l) (hg:w.grownBy w' row) (hne:v.ownBlock=none\/v.ownBlock≠row):OwR w' M base e v l:=
 OwR.pl (M:=fun _=>True) hp ((OwR.pl hp h).kept hg hne fun _ _=>trivial)
theorem OwR.setP (hp:UJ α) (h:OwR w M base e v l) {p:Addr} (hne:v.ownBlock≠some p.block) (u:Value):OwR (w.setCell p u) M base e v l:=
 OwR.pl (M:=fun _=>True) hp ((OwR.pl hp h).setCell hne trivial u)
theorem OwR.sl' (h:OwR w M base e v l) (hM:∀ b,v.ownBlock=some b->¬M b):SlR w M v l:=by
 obtain⟨xs,ho,he⟩:=h
 have he':Elems (Rp.sz α) (Rp.E w M) xs l:=he.mono fun cs x _=>Rp.mono fun b _ hb=>⟨fun hm=>hb (.inl hm),rfl⟩
 rcases ho.2 with ⟨rfl,hn⟩ | ⟨g,cap,cur,rfl,hb,hg,hnc,hcm,hcs,ht⟩
 ·have:l=[]:=AZ hn
  subst this
  exact⟨none,0,xs,rfl,by simp,by simp [maxLen],he',fun h=>absurd rfl h⟩
 ·refine⟨_,cap,xs,rfl,hnc,hcm,he',fun _=>⟨g,0,rfl,hM g rfl,fun j u hu=>?_⟩⟩
  have:=ho.cells (g:=g) rfl j u hu
  rwa [Addr.add_lit] at this
end
theorem Elems.take_ {α:Type} {sz:Nat} {E:List Value->α->Prop}:∀ {l:List α} {xs:List Value} (i:Nat),Elems sz E xs l->i<=l.length->Elems sz E (xs.take (i*sz)) (l.take i)
 | l,xs,0,_,_=>by simp [Elems]
 | x::l,_,i+1,⟨cs,ys,e,hc,he,hy⟩,hi=>by
  subst e
  have e1:(i+1)*sz=cs.length+i*sz:=by rw [hc,A_];omega
  rw [e1,List.take_append,List.take_of_length_le (by omega),B8]
  rw [show cs.length+i*sz - cs.length=i*sz by omega]
  exact⟨cs,_,rfl,hc,he,Elems.take_ i hy (by simpa using hi)⟩
 | [],xs,i+1,h,hi=>by simp at hi
theorem SlR.take_ {α:Type} [Rp α] {w:World} {M:Ms} {a:Option Addr} {n c i:Nat} {l:List α} (h:SlR w M (.slice a n c) l) (hi:i<=l.length):SlR w M (.slice a i c) (l.take i):=by
 obtain⟨a',c',xs,e,h1,h2,h3,h4⟩:=h
 cases e
 have hl:(l.take i).length=i:=by rw [Ao];omega
 refine⟨a,c,xs.take (i*Rp.sz α),by rw [hl],by omega,h2,h3.take_ i hi,fun hne=>?_⟩
 obtain⟨b,off,e,hm,hc⟩:=h4 (by intro e;rw [e] at hne;simp at hne)
 refine⟨b,off,e,hm,fun j u hu=>hc j u ?_⟩
 rw [List.getElem?_take] at hu
 split at hu
 ·exact hu
 ·cases hu
theorem SlR.dropN {α:Type} [Rp α] {w:World} {M:Ms} {n c:Nat} {l:List α} (h:SlR w M (.slice none n c) l):l=[]/\n=0:=by
 obtain⟨a',c',xs,e,h1,h2,h3,h4⟩:=h
 cases e
 by_cases hl:l=[]
 ·subst hl;exact⟨rfl,rfl⟩
 ·obtain⟨b,off,e,_⟩:=h4 hl;cases e
theorem OS (w:World) (g i:Nat) (u:Value):w.grownBy (w.setCell ⟨g,i,none⟩ u) (some g):=
 ⟨rfl,rfl,rfl,by simp,fun k _ hne=>Below.heap_setCell _ _ _ _ (fun e=>hne (by rw [e]))⟩
theorem OwR.setF {α:Type} [Rp α] {w:World} {M:Ms} {base g c j f:Nat} {e:TypeId} {n:Nat} {l:List α} (h:OwR w M base e (.slice (some ⟨g,0,none⟩) n c) l) (hj:j<l.length) (hf:f<Rp.sz α) (u:Value) (y:α)
  (hE:∀ cs,Rp.E w (OM M (.slice (some ⟨g,0,none⟩) n c)) cs l[j]->Rp.E w (OM M (.slice (some ⟨g,0,none⟩) n c)) (cs.set f u) y) :
  OwR (w.setCell ⟨g,j*Rp.sz α+f,none⟩ u) M base e (.slice (some ⟨g,0,none⟩) n c) (l.set j y):=by
 have hgr:=OS w g (j*Rp.sz α+f) u
 obtain⟨A',c',hv⟩:=h.form
 simp only [Value.slice.injEq] at hv
 obtain⟨-,hnl, -⟩:=hv
 subst hnl
 obtain⟨xs,ho,he⟩:=h
 have s1:=(ho.stored (j*Rp.sz α+f) u).1
 obtain⟨cs,hcl,hEcs,hcj⟩:=he.get (List.getElem?_eq_getElem hj)
 have hkeep:Keep w (OM M (.slice (some ⟨g,0,none⟩) l.length c)) (w.setCell ⟨g,j*Rp.sz α+f,none⟩ u) (OM M (.slice (some ⟨g,0,none⟩) l.length c)):=
  fun b hb hm=>⟨hm,hgr.block b hb (fun e=>hm (.inr (by simpa [Value.ownBlock] using e.symm)))⟩
 have hlen:=he.length
 have hlt:j*Rp.sz α+Rp.sz α<=xs.length:=by
  have:(j+1)*Rp.sz α<=l.length*Rp.sz α:=BF _ hj
  rw [Nat.succ_mul] at this
  omega
 have hp:=Elems.put (xs':=xs.set (j*Rp.sz α+f) u) (y:=y) (cs:=cs.set f u) (he.mono fun cs x _=>Rp.mono hkeep) hj (by simp)
  (fun i hi=>List.getElem?_set_ne (by omega)) (by simp [hcl]) (Rp.mono hkeep (hE cs hEcs)) (fun i hi=>by
   by_cases hif:f=i
   ·subst hif;rw [List.getElem?_set_self (by omega),List.getElem?_set_self (by omega)]
   ·rw [List.getElem?_set_ne (by omega),List.getElem?_set_ne hif];exact hcj i hi)
 exact⟨_,by rw [Bl];exact s1,hp⟩
theorem OwR.setI {w:World} {M:Ms} {base g c j n:Nat} {e:TypeId} {l:List Int} (h:OwR w M base e (.slice (some ⟨g,0,none⟩) n c) l) (hj:j<l.length) (y:Int) :
  OwR (w.setCell ⟨g,j,none⟩ (.int .i64 y)) M base e (.slice (some ⟨g,0,none⟩) n c) (l.set j y):=by
 have:=h.setF hj (f:=0) (show 0<1 by omega) (.int .i64 y) y (fun cs hcs=>by
  have hcs':cs=[.int .i64 l[j]]:=hcs
  subst hcs'
  rfl)
 rwa [show j*Rp.sz Int+0=j by show j*1+0=j;omega] at this
theorem OwR.litI (w:World) (M:Ms) (l:List Int) (hl:l.length<=1000):OwR (w.alloc (.cells (l.map (Value.int .i64)).toArray 3)) M w.heap.size 3 (.slice (some ⟨w.heap.size,0,none⟩) l.length l.length) l:=by
 refine⟨l.map (Value.int .i64),⟨by simp [Rp.sz], .inr ⟨w.heap.size,l.length,_,rfl,Nat.le_refl _,heap_alloc_new w _,Nat.le_refl _,by unfold maxLen;omega,by simp [Rp.sz],?_⟩⟩,?_⟩
 ·simp only [Rp.sz,Dx]
  exact List.take_of_length_le (by simp)
 ·clear hl
  induction l with
  | nil=>rfl
  | cons x l ih=>exact⟨[.int .i64 x],_,rfl,rfl,rfl,ih⟩
end Go.Proofs.YtldngmdpiifamaaGreatDoor
end
section
namespace Go.Proofs.YtldngmdpiifamaaGreatDoor

def tot:List Int->Nat
 | []=>0
 | s::ss=>s.toNat+tot ss
def nums:List Int->List UInt8->List Int
 | [],_=> []
 | s::ss,b=>((leN (b.take s.toNat):Nat):Int)::nums ss (b.drop s.toNat)
theorem tot_step:∀ (ss:List Int) (k:Nat) (h:k<ss.length),tot (ss.take (k+1))=tot (ss.take k)+ss[k].toNat
 | s::ss,0,_=>by simp [tot]
 | s::ss,k+1,h=>by
  have:=tot_step ss k (by simpa using h)
  simp only [B8,tot,List.getElem_cons_succ]
  omega
theorem tot_take_le:∀ (ss:List Int) (k:Nat),tot (ss.take k)<=tot ss
 | [],_=>by simp
 | s::ss,0=>by simp [tot]
 | s::ss,k+1=>by
  have:=tot_take_le ss k
  simp only [B8,tot]
  omega
theorem nums_step:∀ (ss:List Int) (b:List UInt8) (k:Nat) (h:k<ss.length),nums (ss.take (k+1)) b=nums (ss.take k) b ++ [((leN ((b.drop (tot (ss.take k))).take ss[k].toNat):Nat):Int)]
 | s::ss,b,0,_=>by simp [nums,tot]
 | s::ss,b,k+1,h=>by
  have:=nums_step ss (b.drop s.toNat) k (by simpa using h)
  simp only [B8,nums,tot,List.getElem_cons_succ,Be]
  rw [this,Aw]
theorem nums_len:∀ (ss:List Int) (b:List UInt8),(nums ss b).length=ss.length
 | [],_=>rfl
 | s::ss,b=>by simp [nums,nums_len ss]
theorem leN_leB:∀ (k n:Nat),n<256 ^ k->leN (leB k n)=n
 | 0,n,h=>by simp at h;simp [leB,leN,h]
 | k+1,n,h=>by
  have h2:n / 256<256 ^ k:=by rw [Nat.pow_succ] at h;omega
  simp only [leB,leN,leN_leB k (n / 256) h2]
  simp
  omega
theorem leB_leN:∀ (l:List UInt8),leB l.length (leN l)=l
 | []=>rfl
 | x::l=>by
  have hx:=x.toNat_lt
  have e1:(x.toNat+256*leN l) % 256=x.toNat:=by omega
  have e2:(x.toNat+256*leN l) / 256=leN l:=by omega
  simp only [Ai,leB,leN,e1,e2,leB_leN l]
  simp
theorem QU {s:Int} (h:DX s):CG s=((256 ^ s.toNat:Nat):Int):=by rcases h with rfl | rfl | rfl <;> decide
theorem tot_rowB:∀ (ns ss:List Int),ns.length=ss.length->(rowB ns ss).length=tot ss
 | [], [],_=>rfl
 | n::ns,s::ss,h=>by
  have:=tot_rowB ns ss (by simpa using h)
  simp [rowB,tot,leB_len,this]
theorem nums_rowB:∀ (ns ss:List Int) (r:List UInt8),ns.length=ss.length->(∀ k (a:k<ns.length) (b:k<ss.length),DX ss[k]/\0<=ns[k]/\ns[k]<CG ss[k])->nums ss (rowB ns ss ++ r)=ns
 | [], [],_,_,_=>rfl
 | n::ns,s::ss,r,h,hf=>by
  have ih:=nums_rowB ns ss r (by simpa using h) (fun k a b=>hf (k+1) (by simp;omega) (by simp;omega))
  obtain⟨h1,h2,h3⟩:=hf 0 (by simp) (by simp)
  simp only [List.getElem_cons_zero] at h1 h2 h3
  rw [QU h1] at h3
  have e1:((leB s.toNat n.toNat ++ rowB ns ss) ++ r).take s.toNat=leB s.toNat n.toNat:=by
   rw [List.append_assoc,List.take_append_of_le_length (by rw [leB_len];exact Nat.le_refl _),List.take_of_length_le (by rw [leB_len];exact Nat.le_refl _)]
  have e2:((leB s.toNat n.toNat ++ rowB ns ss) ++ r).drop s.toNat=rowB ns ss ++ r:=by
   rw [List.append_assoc,BM,Av (by rw [leB_len];exact Nat.le_refl _),leB_len]
   simp
  simp only [rowB,nums,e1,e2,ih,leN_leB _ _ (show n.toNat<256 ^ s.toNat by omega)]
  rw [B9 h2]
theorem rowB_nums:∀ (ss:List Int) (b:List UInt8),tot ss<=b.length->rowB (nums ss b) ss=b.take (tot ss)
 | [],b,_=>by simp [rowB,tot,nums]
 | s::ss,b,h=>by
  simp only [tot] at h
  have ih:=rowB_nums ss (b.drop s.toNat) (by rw [Ac];omega)
  have hl:(b.take s.toNat).length=s.toNat:=by rw [Ao];omega
  have e:=leB_leN (b.take s.toNat)
  rw [hl] at e
  simp only [nums,rowB,ih,tot,Aa,e]
  rw [<-List.take_add]
theorem nums_fit:∀ (ss:List Int) (b:List UInt8),(∀ s∈ss,DX s)->∀ k (a:k<(nums ss b).length) (c:k<ss.length),DX ss[k]/\0<=(nums ss b)[k]/\(nums ss b)[k]<CG ss[k]
 | [],_,_,k,a,c=>by simp at c
 | s::ss,b,h,0,a,c=>by
  have h1:=h s (by simp)
  refine⟨h1,by simp [nums],?_⟩
  simp only [nums,List.getElem_cons_zero,QU h1]
  have:=leN_lt (b.take s.toNat)
  have h2:256 ^ (b.take s.toNat).length<=256 ^ s.toNat:=Nat.pow_le_pow_right (by omega) (by rw [Ao];omega)
  omega
 | s::ss,b,h,k+1,a,c=>by
  have:=nums_fit ss (b.drop s.toNat) (fun x hx=>h x (by simp [hx])) k (by simpa [nums] using a) (by simpa using c)
  simpa [nums] using this
end Go.Proofs.YtldngmdpiifamaaGreatDoor
end
section
namespace Go.Proofs.YtldngmdpiifamaaGreatDoor
open Go.RowKit

theorem SlR.dropU {w:World} {M:Ms} {b off n c i:Nat} {l:List UInt8} (h:SlR w M (.slice (some ⟨b,off,none⟩) n c) l) (hi:i<=l.length):SlR w M (.slice (if c=i then some ⟨b,off,none⟩ else some ⟨b,off+i,none⟩) (n - i) (c - i)) (l.drop i):=by
 have:=h.drop_ hi
 rwa [show Rp.sz UInt8=1 from rfl,Dx] at this
def BD (b:List UInt8):Nat:=(b.headD 0).toNat
def E1 (b:List UInt8):Bool:=decide (1<=b.length/\1+BD b<=b.length)
def ev (x:Ent):Value:= .agg #[.int .i64 x.stamp, .int .i64 x.sum, .bool x.lost]
def E9 (x:Ent):Bool:=JR x.stamp&&JR x.sum
def GV (l:List Ent) (k:Nat):Bool:=(l[k]?.map Ent.lost).getD true
def JQ (g:Geo) (l:List Ent):Bool:=AS g&&decide ((l.length:Int)=g.d+1)&&l.all E9&&!GV l g.d.toNat
def Dr (b:Bool):Int:=if b then 1 else 0
def Lq (x:Ent):List UInt8:=rowB [x.stamp,x.sum,Dr x.lost] [4,4,1]
def CT (l:List Ent):List UInt8:=(l.map Lq).flatten
theorem LM {l:List Ent} {k:Nat} (hk:k<l.length):CT (l.take (k+1))=CT (l.take k) ++ Lq l[k]:=by
 unfold CT
 rw [Ba,List.getElem?_eq_getElem hk,Aq,List.flatten_append]
 simp
theorem OX (x:Ent):(Lq x).length=9:=by simp [Lq,tot_rowB,tot]
theorem Fw (l:List Ent):(CT l).length=9*l.length:=by
 unfold CT
 induction l with
 | nil=>rfl
 | cons x l ih=>simp only [Ay,Az,Ae,OX,ih,Ai];omega
theorem RT {n:Int}:JR n=true↔0<=n/\n<4294967296:=by unfold JR;rw [AI];omega
theorem Uu {x:Ent} (h:E9 x=true):∀ k (_:k < [x.stamp,x.sum,Dr x.lost].length) (b:k < [(4:Int),4,1].length),DX [(4:Int),4,1][k]/\0<= [x.stamp,x.sum,Dr x.lost][k]/\ [x.stamp,x.sum,Dr x.lost][k]<CG [(4:Int),4,1][k]:=by
 simp only [E9,Bool.and_eq_true,RT] at h
 intro k a _
 match k,a with
 | 0,_=>exact⟨.inr (.inr rfl),h.1.1,h.1.2⟩
 | 1,_=>exact⟨.inr (.inr rfl),h.2.1,h.2.2⟩
 | 2,_=>refine⟨.inl rfl,?_,?_⟩ <;> (simp only [List.getElem_cons_succ,List.getElem_cons_zero];unfold Dr;split <;> decide)
end Go.Proofs.YtldngmdpiifamaaGreatDoor
end
section
namespace Go.Proofs.YtldngmdpiifamaaGreatDoor
open Go.RowKit
attribute [local go_sem ↓] Go.wp_at_zero Go.wp_at_succ

theorem Pe (v:Value) (l:List UInt8) (w:World) (Mi:Ms) (h:SlR w Mi v l):(convert 80 9 v).run Tryz.prog w = .ok (.string (strOfNums (l.map fun x=>(x.toNat:Int)))) w:=by
 by_cases hl:l=[]
 ·subst hl
  obtain⟨a,c,rfl⟩:=h.form
  rw [AK,run_convert_bytes_string w 80 9 5 _ 0 c Tryz.underlying80 Tryz.underlying5 Tryz.underlying9]
  cases a <;> simp [Conv.bytesToString,loadCells]
  all_goals rfl
 ·have hpos:0<l.length:=Dn.2 hl
  obtain⟨a,c,rfl⟩:=h.form
  obtain⟨b,off,rfl, -, -⟩:=SR h hpos
  refine run_convert_bytes_arg (P:=Tryz.prog) w 80 5 Tryz.underlying80 Tryz.underlying5 b off l.length c _ (by simp) (fun i hi=>?_) 9 Tryz.underlying9
  obtain⟨b',off',e, -,x⟩:=SR h hi
  cases e
  rw [x,List.getD_eq_getElem?_getD,List.getElem?_map,List.getElem?_eq_getElem hi]
  rfl
theorem Kz (l:List UInt8):Lib.bytesOf (l.map fun x=>(x.toNat:Int))=l:=by
 unfold Lib.bytesOf
 rw [Dg]
 conv=>rhs;rw [<-List.map_id l]
 apply BQ
 intro x _
 simp

theorem Sv (v1 v2:Value) (l1 l2:List UInt8) (w:World) (M1 M2:Ms) (h1:SlR w M1 v1 l1) (h2:SlR w M2 v2 l2) :
  Calls Tryz.prog 216 #[v1,v2] w fun e w'=>e = .returned (.bool (decide (l1=l2)))/\w'=w:=by
 have c1:=Pe v1 l1 w M1 h1
 have c2:=Pe v2 l2 w M2 h2
 have hE:decide (l1=l2)=(Lib.bytesOf (l1.map fun x=>(x.toNat:Int)) == Lib.bytesOf (l2.map fun x=>(x.toNat:Int))):=by rw [Kz,Kz];by_cases h:l1=l2 <;> simp [h]
 rw [hE,<-Lib.strOfNums_toList,<-Lib.strOfNums_toList]
 obtain⟨s1,hs1⟩:∃ s,s=strOfNums (l1.map fun x=>(x.toNat:Int)):=⟨_,rfl⟩
 obtain⟨s2,hs2⟩:∃ s,s=strOfNums (l2.map fun x=>(x.toNat:Int)):=⟨_,rfl⟩
 rw [<-hs1] at c1 |-
 rw [<-hs2] at c2 |-
 clear hE hs1 hs2 h1 h2
 go_enter Tryz.func216,Tryz.ntmps216
 go_wp2
 go_ret
 exact⟨rfl,rfl⟩
end Go.Proofs.YtldngmdpiifamaaGreatDoor
end
section
namespace Go.Proofs.YtldngmdpiifamaaGreatDoor
open Go.RowKit
def Lp (b:List UInt8):Ent:=⟨(nums [4,4,1] b).getD 0 0,(nums [4,4,1] b).getD 1 0,(nums [4,4,1] b).getD 2 0 == 1⟩
def entsOf:Nat->List UInt8->List Ent
 | 0,_=> []
 | n+1,b=>Lp b::entsOf n (b.drop 9)
theorem entsOf_step:∀ (n:Nat) (b:List UInt8),entsOf (n+1) b=entsOf n b ++ [Lp (b.drop (9*n))]
 | 0,b=>by simp [entsOf]
 | n+1,b=>by
  rw [entsOf,entsOf_step n (b.drop 9),entsOf,Aw]
  simp only [Be]
  rw [show 9+9*n=9*(n+1) by omega]
theorem entsOf_len:∀ (n:Nat) (b:List UInt8),(entsOf n b).length=n
 | 0,_=>rfl
 | n+1,b=>by simp [entsOf,entsOf_len n]
def D7 (g:Geo) (b:List UInt8):Option (List Ent):=if JQ g (entsOf (g.d+1).toNat b)=true/\CT (entsOf (g.d+1).toNat b)=b then some (entsOf (g.d+1).toNat b) else none
theorem On {g:Geo} {b:List UInt8} (h:b.length<9*(g.d+1).toNat):D7 g b=none:=by
 unfold D7
 rw [if_neg]
 rintro⟨-,h2⟩
 have:=congrArg List.length h2
 rw [Fw,entsOf_len] at this
 omega
theorem OwR.int3 {w:World} {M:Ms} {base:Nat} {e:TypeId} {v:Value} {x y z:Int} (h:OwR w M base e v [x,y,z]):∃ B c,v = .slice (some ⟨B,0,none⟩) 3 c/\base<=B/\w.cell? ⟨B,0,none⟩=some (.int .i64 x)/\w.cell? ⟨B,1,none⟩=some (.int .i64 y)/\w.cell? ⟨B,2,none⟩=some (.int .i64 z):=by
 obtain⟨B,c,cs,rfl,hb, -, -,he,hc⟩:=h.at_ (k:=0) (by simp)
 obtain⟨B1,c1,cs1,e1, -, -, -,he1,hc1⟩:=h.at_ (k:=1) (by simp)
 obtain⟨B2,c2,cs2,e2, -, -, -,he2,hc2⟩:=h.at_ (k:=2) (by simp)
 cases e1;cases e2
 have he:cs=[.int .i64 x]:=he
 have he1:cs1=[.int .i64 y]:=he1
 have he2:cs2=[.int .i64 z]:=he2
 subst he he1 he2
 exact⟨B,c,rfl,hb,hc 0 _ rfl,hc1 0 _ rfl,hc2 0 _ rfl⟩
theorem TC (b:List UInt8):∃ x y z,nums [4,4,1] b=[x,y,z]/\Lp b=⟨x,y,z == 1⟩:=⟨_,_,_,rfl,rfl⟩
instance (s:Int):Decidable (DX s):=inferInstanceAs (Decidable (s=1\/s=2\/s=4))
def Fe (x:Img):Bool:=x.zone == 0&&(x.what == 0&&(x.bytes.length:Int) == 0)
def B_ (g:Geo) (x:Img):Bool:=AS g&&(BP x.zone 0 (g.z - 1)&&(if x.what=255 then (D7 g x.bytes).isSome else BP x.what (-1) (g.d - 1)&&decide (x.bytes.length=8)))
def E8 (r:Rc):Bool:=BP r.seq 0 4294967295&&(BP r.epoch 0 4294967295&&BP r.of_ 2 30)
def DQ (g:Geo) (r:Rc):Bool:=
 if r.kind=0 then r.seq == 0&&(r.epoch == 0&&(r.at_ == 0&&(r.of_ == 0&&Fe r.img)))
 else if r.kind=1 then E8 r&&(BP r.at_ 0 (r.of_ - 2)&&B_ g r.img)
 else if r.kind=2 then E8 r&&(r.at_ == r.of_ - 1&&Fe r.img)
 else false
def DH (g:Geo) (r:Rc):Bool:=AS g&&DQ g r
def CB (n:Int):Int:=if n = -1 then 254 else n
abbrev szR:List Int:= [1,4,4,1,1]
def BW (r:Rc):List Int:= [r.kind,r.seq,r.epoch,r.at_,r.of_]
def GX (x:Img):List UInt8:=rowB [x.zone,CB x.what] [1,1] ++ (UInt8.ofNat x.bytes.length::x.bytes)
def D6 (r:Rc):List UInt8:=rowB (BW r) szR ++ (if r.kind=1 then GX r.img else [])

theorem E_ {g:Geo} {x:Img} (h:B_ g x=true):AS g=true/\(0<=x.zone/\x.zone<=g.z - 1)/\((x.what=255/\∃ l,D7 g x.bytes=some l)\/(x.what≠255/\(-1<=x.what/\x.what<=g.d - 1)/\x.bytes.length=8)):=by
 simp only [B_,Bool.and_eq_true] at h
 obtain⟨h1,h2,h3⟩:=h
 refine⟨h1,AI.1 h2,?_⟩
 by_cases hw:x.what=255
 ·rw [if_pos hw] at h3
  exact .inl ⟨hw,Option.isSome_iff_exists.1 h3⟩
 ·rw [if_neg hw] at h3
  simp only [Bool.and_eq_true,decide_eq_true_eq] at h3
  exact .inr ⟨hw,AI.1 h3.1,h3.2⟩
theorem LY {g:Geo} {b:List UInt8} {l:List Ent} (h:D7 g b=some l):b.length=9*(g.d+1).toNat:=by
 unfold D7 at h
 split at h
 ·rename_i h2
  have:=congrArg List.length h2.2
  rw [Fw,entsOf_len] at this
  exact this.symm
 ·cases h
theorem Hv {g:Geo} {x:Img} (h:B_ g x=true):x.bytes.length<=45:=by
 obtain⟨h1, -,h3⟩:=E_ h
 obtain⟨-,hd, -⟩:=Am.1 h1
 rcases h3 with ⟨-,l,hl⟩ | ⟨-, -,h8⟩
 ·have:=LY hl
  omega
 ·omega
theorem OL {g:Geo} {x:Img} (h:B_ g x=true):∀ k (_:k < [x.zone,CB x.what].length) (b:k < [(1:Int),1].length),DX [(1:Int),1][k]/\0<= [x.zone,CB x.what][k]/\ [x.zone,CB x.what][k]<CG [(1:Int),1][k]:=by
 obtain⟨h1,h2,h3⟩:=E_ h
 obtain⟨hz,hd, -⟩:=Am.1 h1
 intro k a _
 match k,a with
 | 0,_=>
  refine⟨.inl rfl,h2.1,?_⟩
  show x.zone<256
  omega
 | 1,_=>
  refine⟨.inl rfl,?_,?_⟩
  ·show 0<=CB x.what
   unfold CB
   split <;> omega
  ·show CB x.what<256
   unfold CB
   split <;> omega
theorem EI {g:Geo} {r:Rc} (h:DH g r=true):AS g=true/\
    ((r.kind=0/\r.seq=0/\r.epoch=0/\r.at_=0/\r.of_=0/\r.img.zone=0/\r.img.what=0/\r.img.bytes=[])\/
     (r.kind=1/\(0<=r.seq/\r.seq<=4294967295)/\(0<=r.epoch/\r.epoch<=4294967295)/\(2<=r.of_/\r.of_<=30)/\(0<=r.at_/\r.at_<=r.of_ - 2)/\B_ g r.img=true)\/
     (r.kind=2/\(0<=r.seq/\r.seq<=4294967295)/\(0<=r.epoch/\r.epoch<=4294967295)/\(2<=r.of_/\r.of_<=30)/\r.at_=r.of_ - 1/\r.img.zone=0/\r.img.what=0/\r.img.bytes=[])):=by
  simp only [DH,Bool.and_eq_true] at h
  refine⟨h.1,?_⟩
  have h2:=h.2
  unfold DQ at h2
  split at h2
  · rename_i hk
    simp [Fe] at h2
    exact .inl ⟨hk,h2.1,h2.2.1,h2.2.2.1,h2.2.2.2.1,h2.2.2.2.2.1,h2.2.2.2.2.2.1,h2.2.2.2.2.2.2⟩
  · split at h2
    · rename_i hk
      simp only [E8,Bool.and_eq_true,AI] at h2
      exact .inr (.inl ⟨hk,h2.1.1,h2.1.2.1,h2.1.2.2,h2.2.1,h2.2.2⟩)
    · split at h2
      · rename_i hk
        simp only [E8,Fe,Bool.and_eq_true,AI,beq_iff_eq] at h2
        refine .inr (.inr ⟨hk,h2.1.1,h2.1.2.1,h2.1.2.2,h2.2.1,h2.2.2.1,h2.2.2.2.1,?_⟩)
        exact AZ (by omega)
      · cases h2
theorem Ol {g:Geo} {r:Rc} (h:DH g r=true):∀ k (_:k<(BW r).length) (b:k<szR.length),DX szR[k]/\0<=(BW r)[k]/\(BW r)[k]<CG szR[k]:=by
 obtain⟨-,h⟩:=EI h
 intro k a _
 have e1:CG 1=256:=rfl
 have e4:CG 4=4294967296:=rfl
 match k,a with
 | 0,_=>exact⟨.inl rfl,by show 0<=r.kind;omega,by show r.kind<CG 1;omega⟩
 | 1,_=>exact⟨.inr (.inr rfl),by show 0<=r.seq;omega,by show r.seq<CG 4;omega⟩
 | 2,_=>exact⟨.inr (.inr rfl),by show 0<=r.epoch;omega,by show r.epoch<CG 4;omega⟩
 | 3,_=>exact⟨.inl rfl,by show 0<=r.at_;omega,by show r.at_<CG 1;omega⟩
 | 4,_=>exact⟨.inl rfl,by show 0<=r.of_;omega,by show r.of_<CG 1;omega⟩
theorem Xw (w:World):(Instr.typeAssert .nilIface 20 247 true).run Tryz.prog w = .ok (.tuple #[.agg #[], .bool false]) w:=by kernel_rfl
theorem Xx (w:World) (v:Value):(Instr.typeAssert (.iface 250 v) 20 247 true).run Tryz.prog w = .ok (.tuple #[.agg #[], .bool false]) w:=by kernel_rfl
theorem Xy (w:World) (v:Value):(Instr.typeAssert (.iface 247 v) 20 247 true).run Tryz.prog w = .ok (.tuple #[v, .bool true]) w:=by kernel_rfl
theorem XW (w:World) (v:Value):(Instr.typeAssert (.iface 250 v) 20 250 false).run Tryz.prog w = .ok v w:=by kernel_rfl
theorem OO (x:Img):(GX x).length=3+x.bytes.length:=by
 simp only [GX,Ae,tot_rowB [x.zone,CB x.what] [1,1] rfl,Ai]
 have:tot [1,1]=2:=rfl
 omega
theorem I5 (r:Rc):(rowB (BW r) szR).length=11:=by rw [tot_rowB (BW r) szR rfl];rfl
def Ek (n:Int):Int:=if n=254 then -1 else n
def ER (b:List UInt8):Bool:=decide (2<=b.length)&&E1 (b.drop 2)
def Ds (b:List UInt8):Img:=⟨(nums [1,1] b).getD 0 0,Ek ((nums [1,1] b).getD 1 0),((b.drop 2).drop 1).take (BD (b.drop 2))⟩
theorem OwR.int2 {w:World} {M:Ms} {base:Nat} {e:TypeId} {v:Value} {x y:Int} (h:OwR w M base e v [x,y]):∃ B c,v = .slice (some ⟨B,0,none⟩) 2 c/\base<=B/\B<w.heap.size/\(∀ i,w.frozen? ⟨B,i,none⟩=false)/\w.cell? ⟨B,0,none⟩=some (.int .i64 x)/\w.cell? ⟨B,1,none⟩=some (.int .i64 y):=by
 obtain⟨B,c,cs,rfl,hb, -,hf,he,hc⟩:=h.at_ (k:=0) (by simp)
 obtain⟨B1,c1,cs1,e1, -, -, -,he1,hc1⟩:=h.at_ (k:=1) (by simp)
 cases e1
 have he:cs=[.int .i64 x]:=he
 have he1:cs1=[.int .i64 y]:=he1
 subst he he1
 exact⟨B,c,rfl,hb,World.block_lt_of_cell? _ _ (hc 0 _ rfl),hf,hc 0 _ rfl,hc1 0 _ rfl⟩
def noImg:Img:=⟨0,0, []⟩
def CV (b:List UInt8):Rc:=⟨(nums szR b).getD 0 0,(nums szR b).getD 1 0,(nums szR b).getD 2 0,(nums szR b).getD 3 0,(nums szR b).getD 4 0,if (nums szR b).getD 0 0=1 then Ds (b.drop 11) else noImg⟩
def C4 (g:Geo) (b:List UInt8):Option Rc:=
 if 11<=b.length/\((CV b).kind=1->ER (b.drop 11)=true)/\DH g (CV b)=true/\D6 (CV b)=b then some (CV b) else none
theorem Sg (b:List UInt8):(Ds b).bytes.length<=b.length:=by
 simp only [Ds]
 rw [Ao,Ac,Ac]
 omega
theorem TB (b:List UInt8):∃ k s e a o,nums szR b=[k,s,e,a,o]/\CV b=⟨k,s,e,a,o,if k=1 then Ds (b.drop 11) else noImg⟩:=⟨_,_,_,_,_,rfl,rfl⟩
theorem OwR.int5 {w:World} {M:Ms} {base:Nat} {e:TypeId} {v:Value} {x0 x1 x2 x3 x4:Int} (h:OwR w M base e v [x0,x1,x2,x3,x4]):∃ B c,v = .slice (some ⟨B,0,none⟩) 5 c/\base<=B/\∀ i,i<5->w.cell? ⟨B,i,none⟩ = #[.int .i64 x0, .int .i64 x1, .int .i64 x2, .int .i64 x3, .int .i64 x4][i]? :=by
 obtain⟨B,c,cs,rfl,hb, -, -,he,hc⟩:=h.at_ (k:=0) (by simp)
 refine⟨B,c,rfl,hb,fun i hi=>?_⟩
 obtain⟨b',off,e1, -,x1⟩:=P_ (h.sl' (M:=noM) (fun _ _ h=>h)) (k:=i) (by simpa using hi)
 cases e1
 rw [Ap] at x1
 match i,hi with
 | 0,_=>exact x1
 | 1,_=>exact x1
 | 2,_=>exact x1
 | 3,_=>exact x1
 | 4,_=>exact x1
theorem OwR.box {α:Type} [Rp α] {w w':World} {M:Ms} {base g:Nat} {e:TypeId} {v:Value} {l:List α} (h:OwR w M base e v l) (hb:Below w.heap.size w w') (hg:w.heap.size<=g):OwR w' (Ms.and M g) base e v l:=by
 obtain⟨xs,ho,he⟩:=h
 refine⟨xs,(ho.kept (row:=none) ⟨hb.os,hb.tape,hb.output,hb.size,fun k hk _=>hb.block k hk⟩ (by cases v.ownBlock <;> simp)),he.mono fun cs x _=>Rp.mono fun b hb' hm=>⟨fun h'=>?_,hb.block b hb'⟩⟩
 rcases h' with (h' | h') | h'
 ·exact hm (.inl h')
 ·omega
 ·exact hm (.inr h')

def Sf (seq epoch of_:Int) (k:Nat) (l:List Img):List Rc:=((l.take k).zipIdx).map fun p=>⟨1,seq,epoch,(p.2:Nat),of_,p.1⟩
theorem TX (seq epoch of_:Int) (k:Nat) (l:List Img):(Sf seq epoch of_ k l).length=min k l.length:=by
 unfold Sf;simp
def C9 (seq epoch:Int) (l:List Img):List Rc:=Sf seq epoch (l.length+1) l.length l ++ [⟨2,seq,epoch,l.length,l.length+1,noImg⟩]
end Go.Proofs.YtldngmdpiifamaaGreatDoor
end
section
namespace Go.Proofs.YtldngmdpiifamaaGreatDoor

theorem I7 {g:Geo} {r:Rc} (_h:DH g r=true):(D6 r).length=if r.kind=1 then 14+r.img.bytes.length else 11:=by
 unfold D6
 rw [Ae,I5]
 split
 ·rw [OO];omega
 ·rfl
theorem Eh {g:Geo} {r:Rc} (h:DH g r=true):11<=(D6 r).length/\(D6 r).length<=59:=by
 rw [I7 h]
 split
 ·rename_i hk
  rcases(EI h).2 with h' | h' | h'
  ·omega
  ·have:=Hv h'.2.2.2.2.2
   omega
  ·omega
 ·omega
theorem RS {g:Geo} {r:Rc} (h:DH g r=true) (t:List UInt8):nums szR (D6 r ++ t)=BW r:=by
 unfold D6
 rw [List.append_assoc]
 exact nums_rowB _ _ _ rfl (fun k a b=>Ol h k a b)
theorem M9 (r:Rc):(D6 r).drop 11=if r.kind=1 then GX r.img else []:=by
 unfold D6
 rw [BM,I5,Av (by rw [I5];exact Nat.le_refl _)]
 simp
theorem NL {g:Geo} {x:Img} (h:B_ g x=true):Ek (CB x.what)=x.what:=by
 obtain⟨h1, -,h3⟩:=E_ h
 obtain⟨-,hd, -⟩:=Am.1 h1
 unfold Ek CB
 split
 ·split at * <;> omega
 ·split at * <;> omega
theorem Lc (x:Img):(GX x).drop 2=UInt8.ofNat x.bytes.length::x.bytes:=by
 unfold GX
 have hl:(rowB [x.zone,CB x.what] [1,1]).length=2:=by rw [tot_rowB [x.zone,CB x.what] [1,1] rfl];rfl
 rw [BM,hl,Av (by rw [hl];exact Nat.le_refl _)]
 rfl
theorem Qb {g:Geo} {x:Img} (h:B_ g x=true):Ds (GX x)=x:=by
 have h1:nums [1,1] (GX x)=[x.zone,CB x.what]:=by
  unfold GX
  exact nums_rowB [x.zone,CB x.what] [1,1] _ rfl (fun k a b=>OL h k a b)
 have hs:=Hv h
 have hp:BD (UInt8.ofNat x.bytes.length::x.bytes)=x.bytes.length:=by
  simp only [BD,List.headD_cons]
  simp
  omega
 unfold Ds
 rw [h1,Lc,hp]
 simp [NL h]
theorem P2 {g:Geo} {x:Img} (h:B_ g x=true):ER (GX x)=true:=by
 have hs:=Hv h
 have hp:BD (UInt8.ofNat x.bytes.length::x.bytes)=x.bytes.length:=by
  simp only [BD,List.headD_cons]
  simp
  omega
 have hl:=OO x
 simp only [ER,E1,Lc,hp,Ai,Bool.and_eq_true,decide_eq_true_eq]
 omega
theorem PT {g:Geo} {r:Rc} (h:DH g r=true):CV (D6 r)=r:=by
 have hn:=RS h []
 rw [List.append_nil] at hn
 unfold CV
 rw [hn,M9]
 obtain⟨kind,seq,epoch,at_,of_,⟨zone,what,bytes⟩⟩:=r
 simp only [BW]
 rcases(EI h).2 with h' | h' | h'
 ·simp only at h'
  obtain⟨rfl,rfl,rfl,rfl,rfl,rfl,rfl,rfl⟩:=h'
  simp [noImg]
 ·simp only at h'
  obtain⟨rfl, -, -, -, -,hi⟩:=h'
  simp [Qb hi]
 ·simp only at h'
  obtain⟨rfl, -, -, -,rfl,rfl,rfl,rfl⟩:=h'
  simp [noImg]
theorem PO {g:Geo} {r:Rc} (h:DH g r=true):C4 g (D6 r)=some r:=by
 unfold C4
 rw [PT h,if_pos]
 refine⟨(Eh h).1,fun hk=>?_,h,rfl⟩
 rw [M9,if_pos hk]
 rcases(EI h).2 with h' | h' | h'
 ·omega
 ·exact P2 h'.2.2.2.2.2
 ·omega
theorem PN {g:Geo} {b:List UInt8} {r:Rc} (h:C4 g b=some r):DH g r=true/\D6 r=b:=by
 unfold C4 at h
 split at h
 ·rename_i h'
  cases h
  exact h'.2.2
 ·cases h
end Go.Proofs.YtldngmdpiifamaaGreatDoor
end
section
namespace Go.Proofs.YtldngmdpiifamaaGreatDoor
open Go.RowKit

end Go.Proofs.YtldngmdpiifamaaGreatDoor
end
section
namespace Go.Proofs.YtldngmdpiifamaaGreatDoor
open Go.RowKit
attribute [local go_sem ↓] Go.wp_at_zero Go.wp_at_succ

def G1 (l:List Img):Bool:=decide (40<l.length) || l.any fun x=>decide (200<x.bytes.length)
theorem Xf (v:Value) (l:List Img) (w:World) (M:Ms) (h:SlR w M v l) :
  Calls Tryz.prog 61 #[v] w fun e w'=>e = .returned (.bool (G1 l))/\w=w':=by
 obtain⟨a,c,rfl⟩:=h.form
 have hcp:=h.cap
 have H:=Lib.hid h
 clear h
 by_cases h80:40<l.length
 ·have hE:=Lib.hid (show G1 l=true by simp [G1,h80])
  have h80':(40:Int)<l.length:=by omega
  go_enter Tryz.func61,Tryz.ntmps61
  go_wp2
  go_ret
  rw [hE.out]
  exact⟨rfl,rfl⟩
 have h80':¬(40:Int)<l.length:=by omega
 have H80:=Lib.hid h80
 clear hcp
 go_enter Tryz.func61,Tryz.ntmps61
 go_wp2
 clear h80'
 go_loopw [3] (fun i wr=>wr=w/\∃ k:Nat,k<=l.length/\i = .int .i64 k/\Hid (∀ j (hj:j<l.length),j<k->decide (200<l[j].bytes.length)=false)) (fun i _=>l.length - (intOf i).toNat)
 case atStart=>exact⟨rfl,0,Ag _,rfl,Lib.hid fun j _ hj=>absurd hj (Aj _)⟩
 case round=>
  obtain⟨rfl,k,hk,rfl,hA⟩:=hrel
  by_cases hlt:k<l.length
  ·obtain⟨b1,o1,A1,C1,rfl, -,x1,y1,z1,s1⟩:=WP H.out hlt
   have hlt':(k:Int)<l.length:=by omega
   have hcs:=s1.cap
   clear s1
   by_cases h20:200<l[k].bytes.length
   ·have hE:=Lib.hid (show G1 l=true by
     simp only [G1,Bt,B6]
     exact .inr ⟨l[k],B5 hlt,by simpa using h20⟩)
    have h20':(200:Int)<l[k].bytes.length:=by omega
    go_wp2
    go_ret
    rw [hE.out]
    exact⟨rfl,rfl⟩
   ·have hE:=Lib.hid (show ∀ j (hj:j<l.length),j<k+1->decide (200<l[j].bytes.length)=false from fun j hj hjk=>by
     by_cases e:j=k
     ·subst e;exact decide_eq_false h20
     ·exact hA.out j hj (by omega))
    have h20':¬(200:Int)<l[k].bytes.length:=by omega
    go_wp2
    go_roundw
    case rel=>exact⟨trivial,k+1,by omega,by go_num,hE⟩
    case measure=>simp [intOf];omega
  ·obtain rfl:k=l.length:=by omega
   have hE:=Lib.hid (show G1 l=false by
    simp only [G1,Dh]
    refine⟨decide_eq_false H80.out,?_⟩
    rw [List.any_eq_false]
    intro x hx
    obtain⟨j,hj,rfl⟩:=Do hx
    have:=hA.out j hj hj
    simpa using this)
   go_wp2
   go_ret
   rw [hE.out]
   exact⟨rfl,rfl⟩
theorem Ub {l:List Img} (h:G1 l=false):l.length<=40/\∀ x∈l,x.bytes.length<=200:=by
 simp only [G1,Dh,decide_eq_false_iff_not,List.any_eq_false,decide_eq_true_eq] at h
 exact⟨by omega,fun x hx=>by have:=h.2 x hx;omega⟩

theorem XX (w:World):(Instr.makeSlice 80 (.int .i64 8) (.int .i64 8)).run Tryz.prog w = .ok (.slice (some ⟨w.heap.size,0,none⟩) 8 8) (w.alloc (.cells #[.int .u8 0, .int .u8 0, .int .u8 0, .int .u8 0, .int .u8 0, .int .u8 0, .int .u8 0, .int .u8 0] 5)):=by
 obtain⟨i,h1,h2,h3,h4⟩:=info_parts (show (Tryz.prog.info? 5).map (fun i=>(i.zero,i.size,i.bytes))=some (some (.int .u8 0),1,1) by kernel_rfl)
 have:=run_make (P:=Tryz.prog) w 80 5 i (.int .u8 0) (by kernel_rfl) h1 h2 .i64 .i64 8 8 (by omega) (by omega) (by rw [h4];omega) (by omega)
 rw [h3] at this
 rw [show madeCells (Value.int IntKind.u8 0).cells (Int.toNat 8*1) = #[.int .u8 0, .int .u8 0, .int .u8 0, .int .u8 0, .int .u8 0, .int .u8 0, .int .u8 0, .int .u8 0] by kernel_rfl] at this
 exact this
attribute [local go_sem] XX
end Go.Proofs.YtldngmdpiifamaaGreatDoor
end
section
namespace Go.Proofs.YtldngmdpiifamaaGreatDoor
open Go.RowKit

def Mo (x:List UInt8):Int:=(nums [4,4,1] x).getD 2 0
def Ko (n:Nat) (b:List UInt8):Prop:=∀ i,i<n->Mo (b.drop (9*i))<=1
theorem OC {x:List UInt8} (h:9<=x.length):Mo x=(x[8].toNat:Int):=by
 have e:(x.drop 8).take 1=[x[8]]:=by
  rw [AM (by omega)]
  rfl
 show (((leN (((x.drop (Int.toNat 4)).drop (Int.toNat 4)).take (Int.toNat 1)):Nat):Int))=_
 rw [Aw]
 show (((leN ((x.drop 8).take 1):Nat):Int))=_
 rw [e]
 simp [leN]
theorem OY {x:List UInt8} (h:9<=x.length):Lq (Lp x)=x.take 9↔Mo x<=1:=by
 obtain⟨a,b,c,hn,he⟩:=TC x
 have hl:Mo x=c:=by simp [Mo,hn]
 have hr:=rowB_nums [4,4,1] x (by simpa [tot] using h)
 rw [hn] at hr
 have hf:=nums_fit [4,4,1] x (by decide)
 rw [hl,he]
 constructor
 ·intro e
  have h9:(x.take 9).length=9:=by rw [Ao];omega
  have e2:rowB [a,b,Dr (c == 1)] [4,4,1]=rowB [a,b,c] [4,4,1]:=by
   rw [hr]
   exact e
  have f0:=hf 0 (by rw [hn];simp) (by simp)
  have f1:=hf 1 (by rw [hn];simp) (by simp)
  have f2:=hf 2 (by rw [hn];simp) (by simp)
  simp only [hn] at f0 f1 f2
  have n1:=nums_rowB [a,b,Dr (c == 1)] [4,4,1] [] rfl (by
   intro k h1 _
   match k,h1 with
   | 0,_=>exact f0
   | 1,_=>exact f1
   | 2,_=>exact⟨.inl rfl,by show 0<=Dr _;unfold Dr;split <;> decide,by show Dr _<CG 1;unfold Dr;split <;> decide⟩)
  have n2:=nums_rowB [a,b,c] [4,4,1] [] rfl (by
   intro k h1 _
   match k,h1 with
   | 0,_=>exact f0
   | 1,_=>exact f1
   | 2,_=>exact f2)
  rw [e2,n2] at n1
  injection n1 with _ n1
  injection n1 with _ n1
  injection n1 with n1
  rw [n1]
  unfold Dr
  split <;> decide
 ·intro hc
  have f2:=hf 2 (by rw [hn];simp) (by simp)
  simp only [hn] at f2
  have hc0:0<=c:=f2.2.1
  have:Dr (c == 1)=c:=by
   unfold Dr
   by_cases h1:c=1
   ·simp [h1]
   ·have:c=0:=by omega
    simp [this]
  show rowB [a,b,Dr (c == 1)] [4,4,1]=x.take 9
  rw [this,hr]
  rfl
theorem tblB_iff:∀ (n:Nat) (b:List UInt8),9*n<=b.length->(CT (entsOf n b)=b.take (9*n)↔Ko n b)
 | 0,b,_=>⟨fun _ i hi=>absurd hi (Aj _),fun _=>by simp [entsOf,CT]⟩
 | n+1,b,h=>by
  have ih:=tblB_iff n (b.drop 9) (by rw [Ac];omega)
  have e1:CT (entsOf (n+1) b)=Lq (Lp b) ++ CT (entsOf n (b.drop 9)):=by simp [entsOf,CT]
  have e2:b.take (9*(n+1))=b.take 9 ++ (b.drop 9).take (9*n):=by
   rw [show 9*(n+1)=9+9*n by omega,List.take_add]
  rw [e1,e2]
  constructor
  ·intro e
   have h1:=List.append_inj e (by rw [OX,Ao];omega)
   intro i hi
   cases i with
   | zero=>simpa using (OY (by omega)).1 h1.1
   | succ i=>
    have:=ih.1 h1.2 i (by omega)
    rw [Aw] at this
    rwa [show 9*(i+1)=9+9*i by omega]
  ·intro hall
   rw [(OY (by omega)).2 (by simpa using hall 0 (by omega)),ih.2 (fun i hi=>by
    have:=hall (i+1) (by omega)
    rw [Aw]
    rwa [show 9*(i+1)=9+9*i by omega] at this)]
theorem RM {g:Geo} {b:List UInt8} (hl:b.length=9*(g.d+1).toNat) (hall:Ko (g.d+1).toNat b):D7 g b=if JQ g (entsOf (g.d+1).toNat b)=true then some (entsOf (g.d+1).toNat b) else none:=by
 have:=(tblB_iff (g.d+1).toNat b (by omega)).2 hall
 rw [List.take_of_length_le (by omega)] at this
 unfold D7
 simp only [this,and_true]
theorem LZ {g:Geo} {b:List UInt8} (h:b.length≠9*(g.d+1).toNat\/¬Ko (g.d+1).toNat b):D7 g b=none:=by
 unfold D7
 rw [if_neg]
 rintro⟨-,h2⟩
 have hl:=congrArg List.length h2
 rw [Fw,entsOf_len] at hl
 rcases h with h | h
 ·exact h hl.symm
 ·apply h
  apply (tblB_iff (g.d+1).toNat b (by omega)).1
  rw [h2,List.take_of_length_le (by omega)]
theorem SlR.dropU' {w:World} {M:Ms} {b off n c i:Nat} {l:List UInt8} (h:SlR w M (.slice (some ⟨b,off,none⟩) n c) l) (hi:i<=l.length) (hc:¬c=i):SlR w M (.slice (some ⟨b,off+i,none⟩) (n - i) (c - i)) (l.drop i):=by
 have:=h.dropU hi
 rwa [if_neg hc] at this


end Go.Proofs.YtldngmdpiifamaaGreatDoor
end
section
namespace Go.Proofs.YtldngmdpiifamaaGreatDoor.A
open Go.RowKit
def EK (l:List Img):Bool:=decide (40<l.length) || l.any fun x=>decide (200<x.bytes.length)
theorem Uc (l:List Img):Fn Tryz.prog 61 [Ff l] fun r=>r = .v (.bool (EK l)):=by
 refine Fn.st Tryz.func61 rfl ?_
 conv=>whnf
 refine Af (fun h=>?_) (fun h=>?_) <;> simp at h <;> conv=>whnf
 ·exact⟨_,ri,by simp [EK,show 40<l.length by omega]⟩
 refine aLoop.rule Nat (fun k=>([(0,Ff l),(3, .v (.int .i64 k))], [])) (fun k=>k<=l.length/\∀ i,i<k->(l.getD i ⟨0,0, []⟩).bytes.length<=200) (fun k=>l.length - k) 0 ⟨Ag _,by simp⟩ ⟨[],trivial,⟨rfl,rfl,trivial⟩,trivial,rfl,rfl,rfl⟩ ?_
 rintro k ⟨hk,hI⟩
 conv=>whnf
 refine Af (fun h2=>?_) (fun h2=>?_) <;> simp at h2 <;> conv=>whnf
 ·refine⟨by first | omega | (refine⟨rfl,?_,?_⟩ <;> first | omega | (simp only [Ab];done) | (simp only [Ab];omega)) | (simp only [Ab];omega),?_⟩
  conv=>whnf
  refine Af (fun h3=>?_) (fun h3=>?_) <;> conv=>whnf
  ·refine⟨_,fun _ _ h=>h,?_⟩
   have:EK l=true:=by
    simp only [EK,Bt,B6,decide_eq_true_eq]
    exact .inr ⟨_,AE (d:=⟨0,0, []⟩) h2,by simp at h3 |-;omega⟩
   rw [this]
  ·refine⟨k+1,⟨by omega,fun i hi=>?_⟩,by omega,⟨[],trivial,⟨rfl,AA (by omega),trivial⟩,trivial,rfl,rfl,rfl⟩⟩
   rcases Bx i k with h | h
   ·exact hI i h
   ·obtain rfl:i=k:=by omega
    simp at h3 |-;omega
 ·refine⟨_,fun _ _ h=>h,?_⟩
  have:EK l=false:=by
   rw [<-AQ]
   intro hh
   simp only [EK,Bt,B6,decide_eq_true_eq] at hh
   rcases hh with hh | ⟨x,hx,hh⟩
   ·omega
   ·obtain⟨i,hi,rfl⟩:=Do hx
    have:=hI i (by omega)
    rw [List.getD_eq_getElem?_getD,List.getElem?_eq_getElem hi] at this
    simp at this
    omega
  rw [this]

theorem Ct (z d sp sl an:Int):Fn Tryz.prog 46 [.ag (A7 ⟨z,d,sp,sl,an⟩)] fun r=>r = .v (Ed (AS ⟨z,d,sp,sl,an⟩)):=by
 have hin:∀ n lo hi,Fn Tryz.prog 108 [.v (.int .i64 n), .v (.int .i64 lo), .v (.int .i64 hi)] fun r=>r = .v (.bool (BP n lo hi)):=by
  intro n lo hi
  refine Fn.st Tryz.func108 rfl ?_
  conv=>whnf
  repeat' (first | (refine Af (fun h=>?_) (fun h=>?_) <;> (try simp at h) <;> conv=>whnf) | (refine aDraw.seq tys_ok mixed (by kernel_rfl) ?_;conv=>whnf) | (refine aSeq.go ?_;conv=>whnf) | (refine And.intro (by omega) ?_;conv=>whnf))
  all_goals exact⟨_,ri,by simp [BP, *] <;> omega⟩
 refine Fn.st Tryz.func46 rfl ?_
 conv=>whnf
 repeat' (first | (refine Af (fun h=>?_) (fun h=>?_) <;> (try simp at h) <;> conv=>whnf) | (refine aDraw.seq tys_ok mixed (by kernel_rfl) ?_;conv=>whnf) | (refine aSeq.go ?_;conv=>whnf) | (refine Fn.cl (hin _ _ _) ?_;conv=>whnf) | (refine And.intro (by omega) ?_;conv=>whnf))
 all_goals exact⟨_,ri,by simp [AS,Ed, *]⟩
theorem KB (n lo hi:Int):Fn Tryz.prog 176 [.v (.int .i64 n), .v (.int .i64 lo), .v (.int .i64 hi)] fun r=>r = .v (.bool (BP n lo hi)):=by
 refine Fn.st Tryz.func176 rfl ?_
 conv=>whnf
 repeat' (first | (refine Af (fun h=>?_) (fun h=>?_) <;> (try simp at h) <;> conv=>whnf) | (refine aDraw.seq tys_ok mixed (by kernel_rfl) ?_;conv=>whnf) | (refine aSeq.go ?_;conv=>whnf) | (refine And.intro (by omega) ?_;conv=>whnf))
 all_goals exact⟨_,ri,by simp [BP, *] <;> omega⟩
theorem Bh {α β:Type} {d:α} {e:β} {f:α->β} {l:List α} {i:Nat} (h:i<l.length):(l.map f).getD i e=f (l.getD i d):=by
 rw [List.getD_eq_getElem?_getD,List.getD_eq_getElem?_getD,List.getElem?_map,List.getElem?_eq_getElem h];rfl
theorem OT {α:Type} {d:α} {a b:List α} {i:Nat} (h:i<a.length):(a ++ b).getD i d=a.getD i d:=by
 rw [List.getD_eq_getElem?_getD,List.getD_eq_getElem?_getD,List.getElem?_append_left h]
theorem Mz {α:Type} {d:α} {a b:List α} {i:Nat} (h:a.length<=i):(a ++ b).getD i d=b.getD (i - a.length) d:=by
 rw [List.getD_eq_getElem?_getD,List.getD_eq_getElem?_getD,List.getElem?_append_right h]
def SubL:List AV->List AV->Prop
 | [], []=>True
 | x::l,y::m=>(∀ c u,Rd x c u->Rd y c u)/\SubL l m
 | _,_=>False
theorem SubL.refl:∀ l,SubL l l
 | []=>trivial
 | _::l=>⟨ri,SubL.refl l⟩
theorem SubL.len:∀ {l m},SubL l m->l.length=m.length
 | [], [],_=>rfl
 | _::_,_::_,h=>by simp [SubL.len h.2]
 | [],_::_,h=>h.elim
 | _::_, [],h=>h.elim
theorem SubL.rd:∀ {l m} {c:Ctx} {b off:Nat},SubL l m->RdAt l c b off->RdAt m c b off
 | [], [],_,_,_,_,_=>by simp [RdAt]
 | x::l,y::m,c,b,off,h,hr=>by
  simp only [RdAt] at hr |-
  obtain⟨⟨u,h1,h2,h3⟩,h4⟩:=hr
  exact⟨⟨u,h1,h2,h.1 _ _ h3⟩,SubL.rd h.2 h4⟩
 | [],_::_,_,_,_,h,_=>h.elim
 | _::_, [],_,_,_,h,_=>h.elim
theorem Rd.sub {c:Ctx} {sz n n':Nat} {get get':Nat->List AV} {u:Value} (hn:n=n') (hg:∀ i,i<n->SubL (get i) (get' i)) (h:Rd (.sl sz n get) c u):Rd (.sl sz n' get') c u:=by
 subst hn
 simp only [Rd] at h |-
 obtain⟨a,k,rfl,h1,h2,h3⟩:=h
 refine⟨a,k,rfl,h1,h2,h3.imp id ?_⟩
 rintro⟨b,off,rfl,q1,q2,q3⟩
 exact⟨b,off,rfl,q1,q2,fun i hi=>⟨by rw [<-(hg i hi).len];exact(q3 i hi).1,(hg i hi).rd (q3 i hi).2⟩⟩
theorem AP (sz:Nat) (get:Nat->List AV) (c:Ctx) (u:Value) (h:Rd (.v (.slice none 0 0)) c u):Rd (.sl sz 0 get) c u:=by
 simp only [Rd] at h |-
 exact⟨none,0,h,by omega,by simp [maxLen], .inl trivial⟩
theorem SubL.rdl:∀ {l m} {c:Ctx} {xs:List Value},SubL l m->RdL l c xs->RdL m c xs
 | [], [],_,_,_,h=>h
 | x::l,y::m,c,xs,h,hr=>by
  simp only [RdL] at hr |-
  obtain⟨u,us,rfl,h1,h2⟩:=hr
  exact⟨u,us,rfl,h.1 _ _ h1,SubL.rdl h.2 h2⟩
 | [],_::_,_,_,h,_=>h.elim
 | _::_, [],_,_,h,_=>h.elim
theorem AG {l m:List AV} (h:SubL l m) (c:Ctx) (u:Value) (hr:Rd (.ag l) c u):Rd (.ag m) c u:=by
 simp only [Rd] at hr |-
 obtain⟨xs,rfl,h1⟩:=hr
 exact⟨xs,rfl,h.rdl h1⟩
theorem ACalls.sub {P:Program} {q:Bool} {f:FuncId} {args:List AV} {H:List AB} {k:AV->List AB->Prop} (args':List AV) (hs:SubL args args') (h:ACalls P q f args' H k):ACalls P q f args H k:=
 ⟨h.go,fun w0 M0 c us h1 h2=>h.calls w0 M0 c us h1 (hs.rdl h2)⟩
theorem AT {es:List (List AV)} {l:List Int} (h:es=l.map fun x=> [.v (.int .i64 x)]):SubL [.sl 1 l.length fun i=>es.getD i []] [iA l]:=
 ⟨fun _ _ hr=>Rd.congr rfl (fun i hi=>by rw [h,Bh (d:=0) hi]) hr,trivial⟩
theorem ND (n lo hi:Int):Fn Tryz.prog 141 [.v (.int .i64 n), .v (.int .i64 lo), .v (.int .i64 hi)] fun r=>r = .v (.bool (BP n lo hi)):=by
 refine Fn.st Tryz.func141 rfl ?_
 conv=>whnf
 repeat' (first | (refine Af (fun h=>?_) (fun h=>?_) <;> (try simp at h) <;> conv=>whnf) | (refine aDraw.seq tys_ok mixed (by kernel_rfl) ?_;conv=>whnf) | (refine aSeq.go ?_;conv=>whnf) | (refine And.intro (by omega) ?_;conv=>whnf))
 all_goals exact⟨_,ri,by simp [BP, *] <;> omega⟩
theorem V0 (n:Int):Fn Tryz.prog 193 [.v (.int .i64 n)] fun r=>r = .v (.bool (!BP n 0 4294967295)):=by
 refine Fn.st Tryz.func193 rfl ?_
 conv=>whnf
 refine Fn.cl (ND n 0 4294967295) ?_
 exact⟨_,ri,rfl⟩
theorem TV (l:List Int) (hl:l.length<=1000000):Fn Tryz.prog 224 [iA l, .v (.func (.func 193) #[] #[])] fun r=>∃ n:Int,r = .v (.int .i64 n)/\decide (0<=n)=l.any (fun x=>!BP x 0 4294967295):=by
 refine Fn.st Tryz.func224 rfl ?_
 conv=>whnf
 refine aLoop.rule Nat (fun k=>([(0,iA l),(1, .v (.func (.func 193) #[] #[])),(7, .v (.int .i64 l.length)),(8, .v (.int .i64 k))], [])) (fun k=>k<=l.length/\(l.take k).any (fun x=>!BP x 0 4294967295)=false) (fun k=>l.length - k) 0 ⟨Ag _,by simp⟩ ⟨[],trivial,⟨rfl,rfl,rfl,rfl,trivial⟩,trivial,rfl,rfl,rfl⟩ ?_
 rintro k ⟨hk,hI⟩
 conv=>whnf
 refine Af (fun h2=>?_) (fun h2=>?_) <;> simp at h2 <;> conv=>whnf
 ·refine⟨by first | omega | (refine⟨rfl,?_,?_⟩ <;> first | omega | (simp only [Ab];done) | (simp only [Ab];omega)) | (simp only [Ab];omega),?_⟩
  conv=>whnf
  refine Fn.cl (V0 (l.getD k 0)) ?_
  conv=>whnf
  refine Af (fun h3=>?_) (fun h3=>?_) <;> conv=>whnf
  ·exact⟨_,ri,_,rfl,by
    rw [B6.2 ⟨l.getD k 0,AE h2,h3⟩,decide_eq_true];omega⟩
  ·refine⟨k+1,⟨by omega,?_⟩,by omega, [],trivial,⟨rfl,rfl,rfl,AA (by omega),trivial⟩,trivial,rfl,rfl,rfl⟩
   rw [Ar h2,C0,hI]
   rw [List.getD_eq_getElem?_getD,List.getElem?_eq_getElem h2] at h3
   simpa using h3
 ·exact⟨_,ri,_,rfl,by rw [List.take_of_length_le h2] at hI;rw [hI];rfl⟩
theorem Nk (l:List Int) (hl:l.length<=1000000):Fn Tryz.prog 140 [iA l] fun r=>r = .v (.bool (l.all fun x=>BP x 0 4294967295)):=by
 have hc:Fn Tryz.prog 192 [iA l, .v (.func (.func 193) #[] #[])] fun r=>r = .v (.bool (l.any fun x=>!BP x 0 4294967295)):=by
  refine Fn.st Tryz.func192 rfl ?_
  conv=>whnf
  refine Fn.closed (TV l hl) rfl ?_
  rintro _ ⟨n,rfl,hn⟩
  exact⟨_,ri,by rw [<-hn]⟩
 refine Fn.st Tryz.func140 rfl ?_
 conv=>whnf
 refine Fn.cl hc ?_
 exact⟨_,ri,by rw [BC]⟩
theorem Sq (g:Geo) (hg:AS g=true):Fn Tryz.prog 74 [.ag (A7 g)] fun r=>r = .v (.int .i64 (g.d+1+g.sp)):=by
 obtain⟨h1,h2,h3,h4,h5⟩:=Am.1 hg
 refine Fn.st Tryz.func74 rfl ?_
 exact⟨_,ri,by rw [wi (n:=g.d+1) (by omega),wi (by omega)]⟩
theorem TW (l:List Int) (p:Int) (hl:l.length<=1000000):Fn Tryz.prog 195 [iA l, .v (.int .i64 p)] fun r=>r = .v (.bool (l.any fun x=>p == x)):=by
 have hx:Fn Tryz.prog 225 [iA l, .v (.int .i64 p)] fun r=>∃ n:Int,r = .v (.int .i64 n)/\decide (0<=n)=l.any (fun x=>p == x):=by
  refine Fn.st Tryz.func225 rfl ?_
  conv=>whnf
  refine aLoop.rule Nat (fun k=>([(0,iA l),(1, .v (.int .i64 p)),(7, .v (.int .i64 l.length)),(8, .v (.int .i64 k))], [])) (fun k=>k<=l.length/\(l.take k).any (fun x=>p == x)=false) (fun k=>l.length - k) 0 ⟨Ag _,by simp⟩ ⟨[],trivial,⟨rfl,rfl,rfl,rfl,trivial⟩,trivial,rfl,rfl,rfl⟩ ?_
  rintro k ⟨hk,hI⟩
  conv=>whnf
  refine Af (fun h2=>?_) (fun h2=>?_) <;> simp at h2 <;> conv=>whnf
  ·refine⟨by first | omega | (refine⟨rfl,?_,?_⟩ <;> first | omega | (simp only [Ab];done) | (simp only [Ab];omega)) | (simp only [Ab];omega),?_⟩
   conv=>whnf
   refine Af (fun h3=>?_) (fun h3=>?_) <;> conv=>whnf
   ·exact⟨_,ri,_,rfl,by
     rw [B6.2 ⟨l.getD k 0,AE h2,h3⟩,decide_eq_true];omega⟩
   ·refine⟨k+1,⟨by omega,?_⟩,by omega, [],trivial,⟨rfl,rfl,rfl,AA (by omega),trivial⟩,trivial,rfl,rfl,rfl⟩
    rw [Ar h2,C0,hI]
    have h3:(p == l.getD k 0)=false:=h3
    rw [List.getD_eq_getElem?_getD,List.getElem?_eq_getElem h2] at h3
    simpa using h3
  ·exact⟨_,ri,_,rfl,by rw [List.take_of_length_le h2] at hI;rw [hI];rfl⟩
 refine Fn.st Tryz.func195 rfl ?_
 conv=>whnf
 refine Fn.closed hx rfl ?_
 rintro _ ⟨n,rfl,hn⟩
 exact⟨_,ri,by rw [<-hn]⟩
def Ow (l:List Int) (n:Int):Bool:=(List.range l.length).all fun i=>BP (l.getD i 0) 0 (n - 1)&&!(l.take i).any fun x=>l.getD i 0 == x
def DV (g:Geo) (h:Hm):Bool:=decide ((h.places.length:Int)=g.d+1)&&(BP h.next (g.d+1) (g.d+1+g.sp)&&(BP h.root 0 4294967295&&Ow h.places h.next))
theorem Km {l:List Int} {n:Int} {k:Nat} (hk:k<l.length) (h:(BP (l.getD k 0) 0 (n - 1)&&!(l.take k).any fun x=>l.getD k 0 == x)=false):Ow l n=false:=by
 unfold Ow
 rw [List.all_eq_false]
 exact⟨k,by simpa using hk,by rw [h];simp⟩
theorem VI (g:Geo) (h:Hm) (hg:AS g=true):Fn Tryz.prog 144 [.ag (A7 g), .ag (H8 h)] fun r=>r = .v (.bool (DV g h)):=by
 obtain⟨h1,h2,h3,h4,h5⟩:=Am.1 hg
 refine Fn.st Tryz.func144 rfl ?_
 conv=>whnf
 refine aDraw.of tys_ok mixed [0,1,2,3,4,5,6,7,8,9,10,11,12,13,14,15,16,17,18,19,20,21,22,23,24] (by kernel_rfl) ?_
 conv=>whnf
 have w1:IntKind.i64.wrap (g.d+1)=g.d+1:=wi (by omega)
 refine Af (fun t1=>?_) (fun t1=>?_) <;> simp only [w1,bne_iff_ne,ne_eq,bne_eq_false_iff_eq] at t1 <;> conv=>whnf
 ·exact⟨_,ri,by simp [DV,t1]⟩
 refine Fn.cl (Sq g hg) ?_
 conv=>whnf
 refine Fn.cl (ND _ _ _) ?_
 conv=>whnf
 refine Af (fun t2=>?_) (fun t2=>?_) <;> simp only [w1,AO,Bb] at t2 <;> conv=>whnf
 ·exact⟨_,ri,by simp [DV,t2]⟩
 refine ACalls.shut (Nk [h.root] (by simp)).go ?_
 refine⟨rfl,?_⟩
 conv=>whnf
 refine ACalls.sub [iA [h.root]] (AT (l:= [h.root]) (es:= [[.v (.int .i64 h.root)]]) rfl) ?_
 refine Fn.cl (Nk [h.root] (by simp)) ?_
 conv=>whnf
 refine Af (fun t3=>?_) (fun t3=>?_) <;> simp only [Bn,Ck,B7,AO,Bb] at t3 <;> conv=>whnf
 ·exact⟨_,ri,by simp [DV,t3]⟩
 refine aLoop.rule Nat (fun k=>([(2, .bp 0 0),(3, .bp 1 0),(33,iA h.places),(34, .v (.int .i64 h.places.length)),(35, .v (.int .i64 k))], [.box 23 (A7 g), .box 132 (H8 h)])) (fun k=>k<=h.places.length/\(List.range k).all (fun i=>BP (h.places.getD i 0) 0 (h.next - 1)&&!(h.places.take i).any fun x=>h.places.getD i 0 == x)=true) (fun k=>h.places.length - k) 0 ⟨Ag _,by simp⟩ ⟨[],trivial,⟨rfl,rfl,rfl,rfl,rfl,trivial⟩,⟨rfl,rfl,trivial⟩,rfl,rfl,rfl⟩ ?_
 rintro k ⟨hk,hI⟩
 conv=>whnf
 refine Af (fun h6=>?_) (fun h6=>?_) <;> simp at h6 <;> conv=>whnf
 ·refine⟨by first | omega | (refine⟨rfl,?_,?_⟩ <;> first | omega | (simp only [Ab];done) | (simp only [Ab];omega)) | (simp only [Ab];omega),?_⟩
  conv=>whnf
  refine Fn.cl (ND _ _ _) ?_
  conv=>whnf
  have hnx:0<=h.next/\h.next<=100:=by
   have:=AI.1 t2
   omega
  have w2:IntKind.i64.wrap (h.next - 1)=h.next - 1:=wi (by omega)
  refine Af (fun t4=>?_) (fun t4=>?_) <;> simp only [w2,Aa,AO,Bb] at t4 <;> conv=>whnf
  ·exact⟨_,ri,by rw [DV,Km h6 (by rw [t4];rfl)];simp⟩
  refine⟨⟨by omega,by omega,by omega,by omega⟩,?_⟩
  conv=>whnf
  refine ACalls.sub [iA (h.places.take k), .v (.int .i64 (h.places.getD k 0))] ⟨fun c u hr=>Rd.congr (by simp;omega) (fun i hi=>by simp at hi;simp [List.getElem?_take_of_lt hi]) hr,fun _ _ hr=>hr,trivial⟩ ?_
  refine Fn.cl (TW (h.places.take k) (h.places.getD k 0) (by simp;omega)) ?_
  conv=>whnf
  refine Af (fun t5=>?_) (fun t5=>?_) <;> conv=>whnf
  ·exact⟨_,ri,by rw [DV,Km h6 (by rw [t5];simp)];simp⟩
  ·refine⟨k+1,⟨by omega,?_⟩,by omega, [],trivial,⟨rfl,rfl,rfl,rfl,AA (by omega),trivial⟩,⟨rfl,rfl,trivial⟩,rfl,rfl,rfl⟩
   rw [Bo,C2,hI]
   have t5:((h.places.take k).any fun x=>h.places.getD k 0 == x)=false:=t5
   simp only [Bn,Ck,t4,t5];rfl
 ·have e:k=h.places.length:=by omega
  rw [e] at hI
  exact⟨_,ri,by rw [DV,t2,t3,decide_eq_true t1,Ow,hI];rfl⟩
theorem S6 (g:Geo) (h:Hm) (hg:AS g=true):Fn Tryz.prog 143 [.ag (H8 h), .rp (A7 g)] fun r=>r = .v (.bool (!DV g h)):=by
 refine Fn.st Tryz.func143 rfl ?_
 conv=>whnf
 refine Fn.cl (VI g h hg) ?_
 exact⟨_,ri,rfl⟩
theorem S7 (g:Geo) (l:List Hm) (hg:AS g=true) (hl:l.length<=1000000):Fn Tryz.prog 142 [H4 l, .fn 143 [.rp (A7 g)]] fun r=>r = .v (.bool (l.any fun h=>!DV g h)):=by
 have hx:Fn Tryz.prog 194 [H4 l, .fn 143 [.rp (A7 g)]] fun r=>∃ n:Int,r = .v (.int .i64 n)/\decide (0<=n)=l.any (fun h=>!DV g h):=by
  refine Fn.st Tryz.func194 rfl ?_
  conv=>whnf
  refine aLoop.rule Nat (fun k=>([(0,H4 l),(1, .fn 143 [.rp (A7 g)]),(7, .v (.int .i64 l.length)),(8, .v (.int .i64 k))], [])) (fun k=>k<=l.length/\(l.take k).any (fun h=>!DV g h)=false) (fun k=>l.length - k) 0 ⟨Ag _,by simp⟩ ⟨[],trivial,⟨rfl,rfl,rfl,rfl,trivial⟩,trivial,rfl,rfl,rfl⟩ ?_
  rintro k ⟨hk,hI⟩
  conv=>whnf
  refine Af (fun h2=>?_) (fun h2=>?_) <;> simp at h2 <;> conv=>whnf
  ·refine⟨by first | omega | (refine⟨rfl,?_,?_⟩ <;> first | omega | (simp only [Ab];done) | (simp only [Ab];omega)) | (simp only [Ab];omega),?_⟩
   conv=>whnf
   refine Fn.cl (S6 g (l.getD k ⟨[],0,0⟩) hg) ?_
   conv=>whnf
   refine Af (fun h3=>?_) (fun h3=>?_) <;> conv=>whnf
   ·exact⟨_,ri,_,rfl,by
     rw [B6.2 ⟨l.getD k ⟨[],0,0⟩,AE h2,h3⟩,decide_eq_true];omega⟩
   ·refine⟨k+1,⟨by omega,?_⟩,by omega, [],trivial,⟨rfl,rfl,rfl,AA (by omega),trivial⟩,trivial,rfl,rfl,rfl⟩
    rw [Ar h2,C0,hI]
    rw [List.getD_eq_getElem?_getD,List.getElem?_eq_getElem h2] at h3
    simpa using h3
  ·exact⟨_,ri,_,rfl,by rw [List.take_of_length_le h2] at hI;rw [hI];rfl⟩
 refine Fn.st Tryz.func142 rfl ?_
 conv=>whnf
 refine Fn.closed hx rfl ?_
 rintro _ ⟨n,rfl,hn⟩
 exact⟨_,ri,by rw [<-hn]⟩
def AY (g:Geo) (a:An):Bool:=([a.gen,a.epoch,a.seq,a.last].all fun x=>BP x 0 4294967295)&&(decide (1<=a.seq)&&(decide (a.seq - 1<=a.last)&&(BP a.pos 0 (g.sl - 1)&&(decide (C5 a.label.data.toList=0)&&(decide ((a.homes.length:Int)=g.z)&&a.homes.all (DV g))))))
theorem Fs (g:Geo) (a:An) (hl:a.label.size<=1000000) (hh:a.homes.length<=1000000):Fn Tryz.prog 76 [.ag (A7 g), .ag (CE a)] fun r=>r = .v (Ed (AS g&&AY g a)):=by
 have s1:Fn Tryz.prog 46 [.ag (A7 g)] fun r=>r = .v (Ed (AS g)):=Ct g.z g.d g.sp g.sl g.an
 cases hg:AS g with
 | false=>
  rw [hg] at s1
  refine Fn.st Tryz.func76 rfl ?_
  conv=>whnf
  refine aSeq.go ?_
  conv=>whnf
  refine aSeq.go ?_
  conv=>whnf
  refine Fn.cl s1 ?_
  exact⟨_,ri,rfl⟩
 | true=>
  rw [hg] at s1
  obtain⟨h1,h2,h3,h4,h5⟩:=Am.1 hg
  have w1:IntKind.i64.wrap (g.sl - 1)=g.sl - 1:=wi (by omega)
  refine Fn.st Tryz.func76 rfl ?_
  conv=>whnf
  refine aSeq.go ?_
  conv=>whnf
  refine aSeq.go ?_
  conv=>whnf
  refine Fn.cl s1 ?_
  conv=>whnf
  refine ACalls.shut (Nk [a.gen,a.epoch,a.seq,a.last] (by simp)).go ?_
  refine⟨rfl,?_⟩
  conv=>whnf
  refine ACalls.sub [iA [a.gen,a.epoch,a.seq,a.last]] (AT (l:= [a.gen,a.epoch,a.seq,a.last]) (es:= [[.v (.int .i64 a.gen)], [.v (.int .i64 a.epoch)], [.v (.int .i64 a.seq)], [.v (.int .i64 a.last)]]) rfl) ?_
  refine Fn.cl (Nk [a.gen,a.epoch,a.seq,a.last] (by simp)) ?_
  conv=>whnf
  refine Af (fun t1=>?_) (fun t1=>?_) <;> simp only [AO,Bb] at t1 <;> conv=>whnf
  ·exact⟨_,ri,by rw [AY,t1];rfl⟩
  have hseq:0<=a.seq/\a.seq<=4294967295:=AI.1 (A4.1 t1 a.seq (by simp))
  have w2:IntKind.i64.wrap (a.seq - 1)=a.seq - 1:=wi (by omega)
  refine Af (fun t2=>?_) (fun t2=>?_) <;> simp only [decide_eq_true_eq,decide_eq_false_iff_not] at t2 <;> conv=>whnf
  ·exact⟨_,ri,by rw [AY,decide_eq_false (show ¬1<=a.seq by omega)];simp [Ed]⟩
  refine Af (fun t3=>?_) (fun t3=>?_) <;> simp only [w2,decide_eq_true_eq,decide_eq_false_iff_not] at t3 <;> conv=>whnf
  ·exact⟨_,ri,by rw [AY,decide_eq_false (show ¬a.seq - 1<=a.last by omega)];simp [Ed]⟩
  refine Fn.cl (ND _ _ _) ?_
  conv=>whnf
  refine Af (fun t4=>?_) (fun t4=>?_) <;> simp only [w1,AO,Bb] at t4 <;> conv=>whnf
  ·exact⟨_,ri,by rw [AY,t4];simp [Ed]⟩
  refine Fn.cl (Gy a.label hl) ?_
  conv=>whnf
  refine Af (fun t5=>?_) (fun t5=>?_) <;> simp only [bne_iff_ne,ne_eq,bne_eq_false_iff_eq] at t5 <;> conv=>whnf
  ·exact⟨_,ri,by rw [AY,decide_eq_false t5];simp [Ed]⟩
  refine Af (fun t6=>?_) (fun t6=>?_) <;> simp only [bne_iff_ne,ne_eq,bne_eq_false_iff_eq] at t6 <;> conv=>whnf
  ·exact⟨_,ri,by rw [AY,decide_eq_false t6];simp [Ed]⟩
  refine Fn.cl (S7 g a.homes hg hh) ?_
  conv=>whnf
  have hA:AY g a=a.homes.all (DV g):=by
   rw [AY,t1,t4,decide_eq_true (show 1<=a.seq by omega),decide_eq_true (show a.seq - 1<=a.last by omega),decide_eq_true t5,decide_eq_true t6]
   simp
  rw [BC] at hA
  refine Af (fun t7=>?_) (fun t7=>?_) <;> conv=>whnf
  ·exact⟨_,ri,by rw [hA,t7];rfl⟩
  ·exact⟨_,ri,by rw [hA,t7];rfl⟩
theorem G0 (n lo hi:Int):Fn Tryz.prog 92 [.v (.int .i64 n), .v (.int .i64 lo), .v (.int .i64 hi)] fun r=>r = .v (.bool (BP n lo hi)):=by
 refine Fn.st Tryz.func92 rfl ?_
 conv=>whnf
 repeat' (first | (refine Af (fun h=>?_) (fun h=>?_) <;> (try simp at h) <;> conv=>whnf) | (refine aDraw.seq tys_ok mixed (by kernel_rfl) ?_;conv=>whnf) | (refine aSeq.go ?_;conv=>whnf) | (refine And.intro (by omega) ?_;conv=>whnf))
 all_goals exact⟨_,ri,by simp [BP, *] <;> omega⟩
theorem UD {l:List Int} {p:Int} {k:Nat} (hk:k<l.length) (h:((l.take k).any fun x=>p == x)=false) (e:(l.getD k 0 == p)=false):((l.take (k+1)).any fun x=>p == x)=false:=by
 rw [Ar hk,C0,h]
 rw [List.getD_eq_getElem?_getD,List.getElem?_eq_getElem hk] at e
 simp at e |-
 exact fun h=>e h.symm
theorem W_ {l:List Int} {p:Int} {k i:Nat} (hk:k<l.length) (hki:k<i) (e:(l.getD k 0 == p)=true):((l.take i).any fun x=>p == x)=true:=by
 refine B6.2 ⟨l.getD k 0,?_,by simpa using (beq_iff_eq.1 e).symm⟩
 rw [List.getD_eq_getElem?_getD,List.getElem?_eq_getElem hk]
 have:(l.take i)[k]? = some l[k]:=by rw [List.getElem?_take_of_lt hki,List.getElem?_eq_getElem hk]
 exact List.mem_of_getElem? this
theorem H_ (g:Geo) (a:An) (hg:AS g=true) (hl:a.label.size<=1000000):Fn Tryz.prog 29 [.ag (A7 g), .ag (CE a)] fun r=>r = .v (.bool (AY g a)):=by
 obtain⟨h1,h2,h3,h4,h5⟩:=Am.1 hg
 have w1:IntKind.i64.wrap (g.sl - 1)=g.sl - 1:=wi (by omega)
 have w3:IntKind.i64.wrap (g.d+1)=g.d+1:=wi (by omega)
 have w4:IntKind.i64.wrap (g.d+1+g.sp)=g.d+1+g.sp:=wi (by omega)
 refine Fn.st Tryz.func29 rfl ?_
 conv=>whnf
 refine Fn.cl (G0 _ _ _) ?_
 conv=>whnf
 refine Af (fun t1=>?_) (fun t1=>?_) <;> simp only [AO,Bb] at t1 <;> conv=>whnf
 ·exact⟨_,ri,by simp [AY,t1]⟩
 refine Fn.cl (G0 _ _ _) ?_
 conv=>whnf
 refine Af (fun t2=>?_) (fun t2=>?_) <;> simp only [AO,Bb] at t2 <;> conv=>whnf
 ·exact⟨_,ri,by simp [AY,t2]⟩
 refine Fn.cl (G0 _ _ _) ?_
 conv=>whnf
 refine Af (fun t3=>?_) (fun t3=>?_) <;> simp only [AO,Bb] at t3 <;> conv=>whnf
 ·refine⟨_,fun _ _ h=>h,?_⟩
  have:(BP a.seq 0 4294967295&&decide (1<=a.seq))=false:=by
   cases h:BP a.seq 0 4294967295&&decide (1<=a.seq) with
   | false=>rfl
   | true=>
    simp only [Bool.and_eq_true,AI,decide_eq_true_eq] at h
    have:BP a.seq 1 4294967295=true:=AI.2 ⟨h.2,h.1.2⟩
    rw [this] at t3;cases t3
  simp only [Bool.and_eq_false_iff] at this
  rcases this with h | h <;> simp [AY,h]
 have hseq:=AI.1 t3
 have t3':BP a.seq 0 4294967295=true:=AI.2 ⟨by omega,hseq.2⟩
 have w2:IntKind.i64.wrap (a.seq - 1)=a.seq - 1:=wi (by omega)
 refine Fn.cl (G0 _ _ _) ?_
 conv=>whnf
 refine Af (fun t4=>?_) (fun t4=>?_) <;> simp only [AO,Bb] at t4 <;> conv=>whnf
 ·exact⟨_,ri,by simp [AY,t4]⟩
 refine Af (fun t5=>?_) (fun t5=>?_) <;> simp only [w2,decide_eq_true_eq,decide_eq_false_iff_not] at t5 <;> conv=>whnf
 ·exact⟨_,ri,by rw [AY,decide_eq_false (show ¬a.seq - 1<=a.last by omega)];simp⟩
 refine Fn.cl (G0 _ _ _) ?_
 conv=>whnf
 refine Af (fun t6=>?_) (fun t6=>?_) <;> simp only [w1,AO,Bb] at t6 <;> conv=>whnf
 ·exact⟨_,ri,by rw [AY,t6];simp⟩
 refine Fn.cl (Jo a.label (by omega)) ?_
 conv=>whnf
 refine Af (fun t7=>?_) (fun t7=>?_) <;> simp only [bne_iff_ne,ne_eq,bne_eq_false_iff_eq] at t7 <;> conv=>whnf
 ·exact⟨_,ri,by rw [AY,decide_eq_false t7];simp⟩
 refine Af (fun t8=>?_) (fun t8=>?_) <;> simp only [bne_iff_ne,ne_eq,bne_eq_false_iff_eq] at t8 <;> conv=>whnf
 ·exact⟨_,ri,by rw [AY,decide_eq_false t8];simp⟩
 have hA:AY g a=a.homes.all (DV g):=by
  rw [AY,t6,decide_eq_true (show 1<=a.seq by omega),decide_eq_true (show a.seq - 1<=a.last by omega),decide_eq_true t7,decide_eq_true t8]
  simp [t1,t2,t3',t4]
 rw [hA]
 refine aLoop.rule Nat (fun z=>([(2, .bp 0 0),(3, .bp 1 0),(5, .v (.int .i64 z))], [.box 23 (A7 g), .box 40 (CE a)])) (fun z=>z<=a.homes.length/\(a.homes.take z).all (DV g)=true) (fun z=>a.homes.length - z) 0 ⟨Ag _,by simp⟩ ⟨[],trivial,⟨rfl,rfl,rfl,trivial⟩,⟨rfl,rfl,trivial⟩,rfl,rfl,rfl⟩ ?_
 rintro z ⟨hz,hZ⟩
 conv=>whnf
 refine Af (fun hz2=>?_) (fun hz2=>?_) <;> simp at hz2 <;> conv=>whnf
 ·have hno:DV g (a.homes.getD z ⟨[],0,0⟩)=false->a.homes.all (DV g)=false:=fun h=>List.all_eq_false.2 ⟨_,AE hz2,by rw [h];simp⟩
  refine⟨by first | omega | (refine⟨rfl,?_,?_⟩ <;> first | omega | (simp only [Ab];done) | (simp only [Ab];omega)) | (simp only [Ab];omega),?_⟩
  conv=>whnf
  have ez:((z:Nat):Int).toNat=z:=Aa z
  refine Af (fun u1=>?_) (fun u1=>?_) <;> simp only [ez,w3,bne_iff_ne,ne_eq,bne_eq_false_iff_eq] at u1 <;> conv=>whnf
  ·exact⟨_,ri,by rw [hno (by rw [DV,decide_eq_false u1];rfl)]⟩
  refine Fn.cl (G0 _ _ _) ?_
  conv=>whnf
  refine Af (fun u2=>?_) (fun u2=>?_) <;> simp only [ez,w3,w4,AO,Bb] at u2 <;> conv=>whnf
  ·exact⟨_,ri,by rw [hno (by rw [DV,u2];simp only [Bd,B4])]⟩
  refine Fn.cl (G0 _ _ _) ?_
  conv=>whnf
  refine Af (fun u3=>?_) (fun u3=>?_) <;> simp only [ez,AO,Bb] at u3 <;> conv=>whnf
  ·exact⟨_,ri,by rw [hno (by rw [DV,u3];simp only [Bd,B4])]⟩
  have hnx:0<=(a.homes.getD z ⟨[],0,0⟩).next/\(a.homes.getD z ⟨[],0,0⟩).next<=100:=by
   have:=AI.1 u2
   omega
  have w5:IntKind.i64.wrap ((a.homes.getD z ⟨[],0,0⟩).next - 1)=(a.homes.getD z ⟨[],0,0⟩).next - 1:=wi (by omega)
  have hno2:Ow (a.homes.getD z ⟨[],0,0⟩).places (a.homes.getD z ⟨[],0,0⟩).next=false->a.homes.all (DV g)=false:=fun h=>hno (by rw [DV,h];simp)
  refine aLoop.rule Nat (fun i=>([(2, .bp 0 0),(3, .bp 1 0),(5, .v (.int .i64 z)),(6, .bp 2 0),(7, .v (.int .i64 i))], [.box 23 (A7 g), .box 40 (CE a), .box 132 (H8 (a.homes.getD z ⟨[],0,0⟩))])) (fun i=>i<=(a.homes.getD z ⟨[],0,0⟩).places.length/\(List.range i).all (fun i=>BP ((a.homes.getD z ⟨[],0,0⟩).places.getD i 0) 0 ((a.homes.getD z ⟨[],0,0⟩).next - 1)&&!((a.homes.getD z ⟨[],0,0⟩).places.take i).any fun x=>(a.homes.getD z ⟨[],0,0⟩).places.getD i 0 == x)=true) (fun i=>(a.homes.getD z ⟨[],0,0⟩).places.length - i) 0 ⟨Ag _,by simp⟩ ⟨[],trivial,⟨rfl,rfl,rfl,rfl,rfl,trivial⟩,⟨rfl,rfl,rfl,trivial⟩,rfl,rfl,rfl⟩ ?_
  rintro i ⟨hi,hI⟩
  conv=>whnf
  refine Af (fun hi2=>?_) (fun hi2=>?_) <;> simp only [decide_eq_true_eq,decide_eq_false_iff_not,Int.ofNat_lt] at hi2 <;> conv=>whnf
  ·refine aDraw.of tys_ok mixed [0,1,2,3,4,5,6,7,8,9] (by kernel_rfl) ?_
   refine⟨⟨by omega,by omega⟩,?_⟩
   conv=>whnf
   have ei:((i:Nat):Int).toNat=i:=Aa i
   refine Fn.cl (G0 _ _ _) ?_
   conv=>whnf
   refine Af (fun u4=>?_) (fun u4=>?_) <;> simp only [ei,w5,AO,Bb] at u4 <;> conv=>whnf
   ·exact⟨_,ri,by rw [hno2 (Km hi2 (by rw [u4];rfl))]⟩
   refine aLoop.rule Nat (fun k=>([(2, .bp 0 0),(3, .bp 1 0),(5, .v (.int .i64 z)),(6, .bp 2 0),(7, .v (.int .i64 i)),(8, .v (.int .i64 k))], [.box 23 (A7 g), .box 40 (CE a), .box 132 (H8 (a.homes.getD z ⟨[],0,0⟩))])) (fun k=>k<=i/\(((a.homes.getD z ⟨[],0,0⟩).places.take k).any fun x=>(a.homes.getD z ⟨[],0,0⟩).places.getD i 0 == x)=false) (fun k=>i - k) 0 ⟨Ag _,by simp⟩ ⟨[],trivial,⟨rfl,rfl,rfl,rfl,rfl,rfl,trivial⟩,⟨rfl,rfl,rfl,trivial⟩,rfl,rfl,rfl⟩ ?_
   rintro k ⟨hk,hK⟩
   conv=>whnf
   refine Af (fun hk2=>?_) (fun hk2=>?_) <;> simp only [decide_eq_true_eq,decide_eq_false_iff_not,Int.ofNat_lt] at hk2 <;> conv=>whnf
   ·refine aDraw.of tys_ok mixed [0,1,2,3,4,5,6,7,8,9,10] (by kernel_rfl) ?_
    refine⟨⟨by omega,by omega⟩,?_⟩
    refine⟨⟨by omega,by omega⟩,?_⟩
    conv=>whnf
    have ek:((k:Nat):Int).toNat=k:=Aa k
    refine Af (fun u5=>?_) (fun u5=>?_) <;> simp only [ei,ek] at u5 <;> conv=>whnf
    ·exact⟨_,ri,by rw [hno2 (Km hi2 (by rw [W_ (show k<(a.homes.getD z ⟨[],0,0⟩).places.length by omega) hk2 u5];simp))]⟩
    ·exact⟨k+1,⟨by omega,UD (by omega) hK u5⟩,by omega, [],trivial,⟨rfl,rfl,rfl,rfl,rfl,AA (by omega),trivial⟩,⟨rfl,rfl,rfl,trivial⟩,rfl,rfl,rfl⟩
   ·have e:k=i:=by omega
    subst e
    refine⟨k+1,⟨by omega,?_⟩,by omega, [],trivial,⟨rfl,rfl,rfl,rfl,AA (by omega),trivial⟩,⟨rfl,rfl,rfl,trivial⟩,rfl,rfl,rfl⟩
    rw [Bo,C2,hI]
    simp only [Bn,Ck,u4,hK];rfl
  ·have e:i=(a.homes.getD z ⟨[],0,0⟩).places.length:=by omega
   rw [e] at hI
   refine⟨z+1,⟨by omega,?_⟩,by omega, [],trivial,⟨rfl,rfl,AA (by omega),trivial⟩,⟨rfl,rfl,trivial⟩,rfl,rfl,rfl⟩
   rw [Ar hz2,C2,hZ]
   have hok:DV g (a.homes.getD z ⟨[],0,0⟩)=true:=by rw [DV,u2,u3,decide_eq_true u1,Ow,hI];rfl
   rw [List.getD_eq_getElem?_getD,List.getElem?_eq_getElem hz2] at hok
   simpa using hok
 ·have e:z=a.homes.length:=by omega
  rw [e,List.take_length] at hZ
  exact⟨_,ri,by rw [hZ]⟩
end Go.Proofs.YtldngmdpiifamaaGreatDoor.A
end
section
namespace Go.Proofs.YtldngmdpiifamaaGreatDoor.A
open Go.RowKit Go.Lib
def Gd (s:ByteArray):List UInt8:=UInt8.ofNat s.size::s.data.toList
theorem F7 (s:ByteArray):(Gd s).length=1+s.size:=by simp [Gd,BS]
theorem Pd (l:List UInt8):(decodeL l).2<=4:=by
 rw [decodeL_N]
 rcases decodeN_shape l.length (l.getD 0 0).toNat (l.getD 1 0).toNat (l.getD 2 0).toNat (l.getD 3 0).toNat with ⟨_,e⟩ | ⟨_,_,_,_,e⟩ | ⟨_,_,_,_,_,_,e⟩ | ⟨_,_,_,_,_,_,_,e⟩ | e <;> rw [e] <;> simp
theorem R5 (n:Nat):∀ l:List UInt8,l.length=n->l.length<=4*Ez l:=by
 induction n using Nat.strongRecOn with
 | ind n ih=>
  intro l hl
  by_cases h:l=[]
  ·subst h;simp
  ·have h1:=G3 h
   have h2:=ih _ (by rw [<-hl];exact h1) _ rfl
   have h3:=Pd l
   rw [GH l h]
   rw [Ac] at h2
   omega
theorem Ge {l:List UInt8} (h:C5 l=0):l.length<=24:=by
 have h1:=R5 _ l rfl
 unfold C5 at h
 split at h
 ·cases h
 ·split at h
  ·cases h
  ·omega
def Gz (b:List UInt8):Option (ByteArray × Nat):=
 if b.length<1+(b.getD 0 0).toNat then none
 else if C5 ((b.drop 1).take (b.getD 0 0).toNat)=0 then some (⟨((b.drop 1).take (b.getD 0 0).toNat).toArray⟩,1+(b.getD 0 0).toNat) else none
theorem J0 {b:List UInt8} {s:ByteArray} {n:Nat} (h:Gz b=some (s,n)):n<=b.length/\Gd s=b.take n/\n=1+s.size/\C5 s.data.toList=0:=by
 unfold Gz at h
 split at h
 ·cases h
 ·rename_i h1
  split at h
  ·rename_i h2
   simp only [Option.some.injEq,Prod.mk.injEq] at h
   obtain⟨rfl,rfl⟩:=h
   have hl:((b.drop 1).take (b.getD 0 0).toNat).length=(b.getD 0 0).toNat:=by rw [Ao,Ac];omega
   have hb:b=b.getD 0 0::b.drop 1:=by
    cases b with
    | nil=>simp at h1
    | cons x r=>rfl
   refine⟨by omega,?_,by show _=1+(List.toArray _).size;simp only [Ci,hl],h2⟩
   have e:(⟨((b.drop 1).take (b.getD 0 0).toNat).toArray⟩:ByteArray).size=(b.getD 0 0).toNat:=by show (List.toArray _).size=_;simp only [Ci,hl]
   unfold Gd
   rw [e]
   simp only
   rw [BS,hb]
   simp
  ·cases h
theorem Sc {s:ByteArray} (h:C5 s.data.toList=0) (r:List UInt8):Gz (Gd s ++ r)=some (s,1+s.size):=by
 have h24:=Ge h
 have hs:s.size=s.data.toList.length:=rfl
 have e0:((Gd s ++ r).getD 0 0).toNat=s.size:=by
  show (UInt8.ofNat s.size).toNat=s.size
  simp;omega
 have e1:((Gd s ++ r).drop 1).take s.size=s.data.toList:=by
  show (s.data.toList ++ r).take s.size=_
  rw [List.take_append_of_le_length (by omega),List.take_of_length_le (by omega)]
 unfold Gz
 rw [e0,e1,if_neg (by rw [Ae,F7];omega),if_pos h]

def EH (n:Nat):List Int:=List.replicate n 1
def szA:List Int:= [4,4,4,4,1]
def J6 (a:An):List Int:= [a.gen,a.epoch,a.seq,a.last,a.pos]
def Nb (l:List Int):List UInt8:=rowB l (EH l.length)
def L5 (h:Hm):List UInt8:=Nb h.places ++ rowB [h.next,h.root] [1,4]
def Ir (a:An):List UInt8:=rowB (J6 a) szA ++ Gd a.label ++ (a.homes.map L5).flatten
def GB (n:Nat):List Int:=EH (n+1) ++ [4]
def IN (n:Nat) (c:List UInt8):Hm:=⟨(nums (GB n) c).take n,(nums (GB n) c).getD n 0,(nums (GB n) c).getD (n+1) 0⟩
def Dm (n k:Nat) (c:List UInt8):List Hm:=(List.range k).map fun i=>IN n (c.drop ((n+5)*i))
def J5 (n k:Nat) (b:List UInt8) (s:ByteArray) (u:Nat):An:=⟨(nums szA b).getD 0 0,(nums szA b).getD 1 0,(nums szA b).getD 4 0,(nums szA b).getD 2 0,(nums szA b).getD 3 0,s,Dm n k (b.drop (17+u))⟩
def Cu (g:Geo) (b:List UInt8):Option An:=
 if b.length<17 then none else
 match Gz (b.drop 17) with
 | none=>none
 | some (s,u)=>if b.length≠17+u+g.z.toNat*(g.d.toNat+6) then none
  else if AY g (J5 (g.d.toNat+1) g.z.toNat b s u) then some (J5 (g.d.toNat+1) g.z.toNat b s u) else none

theorem tot_ones:∀ n,tot (EH n)=n
 | 0=>rfl
 | n+1=>by show 1+tot (EH n)=n+1;rw [tot_ones n];omega
theorem tot_app:∀ (a b:List Int),tot (a ++ b)=tot a+tot b
 | [],b=>by simp [tot]
 | x::a,b=>by simp only [Be,tot,tot_app a b];omega
theorem EP (n:Nat):tot (GB n)=n+5:=by rw [GB,tot_app,tot_ones];rfl
theorem EQ (n:Nat):(GB n).length=n+2:=by simp [GB,EH]
theorem IA (n:Nat):(EH n).length=n:=by simp [EH]
theorem rowB_app:∀ (a s b t:List Int),a.length=s.length->rowB (a ++ b) (s ++ t)=rowB a s ++ rowB b t
 | [], [],b,t,_=>rfl
 | x::a,y::s,b,t,h=>by simp only [Be,rowB,rowB_app a s b t (by simpa using h),List.append_assoc]
theorem Mc (n:Nat):EH (n+1)=EH n ++ [1]:=by simp [EH,List.replicate_succ']
theorem IP (h:Hm):L5 h=rowB (h.places ++ [h.next,h.root]) (GB h.places.length):=by
 rw [GB,Mc,List.append_assoc,rowB_app _ _ _ _ (IA _).symm]
 rfl
theorem OJ {l:List Int} {n:Nat} (h:l.length=n+2):l=l.take n ++ [l.getD n 0,l.getD (n+1) 0]:=by
 have h1:n<l.length:=by omega
 have h2:n+1<l.length:=by omega
 conv=>lhs;rw [<-Bf n l]
 congr 1
 rw [AM h1,AM h2,Av (by omega)]
 simp [List.getD_eq_getElem?_getD,List.getElem?_eq_getElem h1,List.getElem?_eq_getElem h2]
theorem Ua (n:Nat) (c:List UInt8) (hc:n+5<=c.length):L5 (IN n c)=c.take (n+5):=by
 have hl:(nums (GB n) c).length=n+2:=by rw [nums_len,EQ]
 have hp:(IN n c).places.length=n:=by show ((nums (GB n) c).take n).length=n;rw [Ao];omega
 rw [IP,hp,show (IN n c).places ++ [(IN n c).next,(IN n c).root]=nums (GB n) c from (OJ hl).symm,rowB_nums _ _ (by rw [EP];exact hc),EP]
theorem QY (n:Nat):∀ (k:Nat) (c:List UInt8),(n+5)*k<=c.length->((Dm n k c).map L5).flatten=c.take ((n+5)*k)
 | 0,c,_=>by simp [Dm]
 | k+1,c,h=>by
  have h':(n+5)*k+(n+5)<=c.length:=by rw [CA] at h;exact h
  have ih:=QY n k c (by omega)
  rw [Dm,Bo,Aq,Aq,List.flatten_append,show ((List.map (fun i=>IN n (List.drop ((n+5)*i) c)) (List.range k)).map L5).flatten=_ from ih]
  simp only [Ay,By,Az,List.flatten_nil,List.append_nil]
  rw [Ua n _ (by rw [Ac];omega),CA,<-List.take_add]
theorem Pt (n k:Nat) (b:List UInt8) (s:ByteArray) (u:Nat) (h17:17<=b.length) (hl:Gz (b.drop 17)=some (s,u)) (hk:17+u+(n+5)*k<=b.length):Ir (J5 n k b s u)=b.take (17+u+(n+5)*k):=by
 obtain⟨h1,h2,h3,h4⟩:=J0 hl
 have e1:J6 (J5 n k b s u)=nums szA b:=rfl
 have e2:rowB (nums szA b) szA=b.take 17:=rowB_nums szA b h17
 have e3:=QY n k (b.drop (17+u)) (by rw [Ac];omega)
 rw [Ir,e1,e2,show (J5 n k b s u).homes=Dm n k (b.drop (17+u)) from rfl,e3,show Gd (J5 n k b s u).label=Gd s from rfl,h2,<-List.take_add,<-List.take_add]

theorem Le {g:Geo} {h:Hm} (hg:AS g=true) (hh:DV g h=true):h.places.length=g.d.toNat+1/\(∀ p∈h.places,0<=p/\p<256)/\(0<=h.next/\h.next<256)/\0<=h.root/\h.root<4294967296:=by
 obtain⟨h1,h2,h3,h4,h5⟩:=Am.1 hg
 simp only [DV,Bool.and_eq_true,decide_eq_true_eq,AI,Ow,A4,AC] at hh
 obtain⟨q1,q2,q3,q4⟩:=hh
 refine⟨by omega,fun p hp=>?_,by omega,by omega⟩
 obtain⟨i,hi,rfl⟩:=Do hp
 have:=(q4 i hi).1
 rw [List.getD_eq_getElem?_getD,List.getElem?_eq_getElem hi] at this
 simp only [Bj] at this
 omega
theorem T8 {l:List Int} (h:∀ p∈l,0<=p/\p<256):∀ k (a:k<l.length) (b:k<(EH l.length).length),DX (EH l.length)[k]/\0<=l[k]/\l[k]<CG (EH l.length)[k]:=fun k a b=>by
 have e:(EH l.length)[k]=1:=by simp [EH]
 rw [e]
 exact⟨.inl rfl,h _ (B5 a)⟩
theorem VO {a s b t:List Int} (ha:a.length=s.length) (h1:∀ k (p:k<a.length) (q:k<s.length),DX s[k]/\0<=a[k]/\a[k]<CG s[k]) (h2:∀ k (p:k<b.length) (q:k<t.length),DX t[k]/\0<=b[k]/\b[k]<CG t[k]) :
  ∀ k (p:k<(a ++ b).length) (q:k<(s ++ t).length),DX (s ++ t)[k]/\0<=(a ++ b)[k]/\(a ++ b)[k]<CG (s ++ t)[k]:=fun k p q=>by
 by_cases hk:k<a.length
 ·rw [List.getElem_append_left hk,List.getElem_append_left (by omega)]
  exact h1 k hk (by omega)
 ·rw [List.getElem_append_right (by omega),List.getElem_append_right (by omega)]
  have:=h2 (k - a.length) (by rw [Ae] at p;omega) (by rw [Ae] at q;omega)
  simpa only [ha] using this
theorem Qz {x y:Int} (h1:0<=x/\x<256) (h2:0<=y/\y<4294967296):∀ k (_:k < [x,y].length) (_:k<([1,4]:List Int).length),DX ([1,4]:List Int)[k]/\0<= [x,y][k]/\ [x,y][k]<CG ([1,4]:List Int)[k]:=fun k p _=>by
 have hk:k=0\/k=1:=by simp at p;omega
 rcases hk with rfl | rfl
 ·exact⟨.inl rfl,h1⟩
 ·exact⟨.inr (.inr rfl),h2⟩
theorem VK {g:Geo} {h:Hm} (hg:AS g=true) (hh:DV g h=true):(L5 h).length=g.d.toNat+6:=by
 obtain⟨h1,_⟩:=Le hg hh
 rw [IP,tot_rowB _ _ (by rw [Ae,EQ];rfl),EP,h1]
theorem T_ {g:Geo} {h:Hm} (hg:AS g=true) (hh:DV g h=true) (r:List UInt8):IN (g.d.toNat+1) (L5 h ++ r)=h:=by
 obtain⟨h1,h2,h3,h4⟩:=Le hg hh
 have e:nums (GB (g.d.toNat+1)) (L5 h ++ r)=h.places ++ [h.next,h.root]:=by
  rw [<-h1,IP]
  refine nums_rowB _ _ _ (by rw [Ae,EQ];rfl) ?_
  rw [GB,Mc,List.append_assoc]
  exact VO (IA _).symm (T8 h2) (Qz h3 h4)
 unfold IN
 rw [e,<-h1]
 obtain⟨p,n,ro⟩:=h
 simp [List.getD_eq_getElem?_getD]
theorem Kq {g:Geo} (hg:AS g=true):∀ (l:List Hm),(∀ h∈l,DV g h=true)->Dm (g.d.toNat+1) l.length (l.map L5).flatten=l/\(l.map L5).flatten.length=l.length*(g.d.toNat+6)
 | [],_=>⟨rfl,by simp⟩
 | h::l,hh=>by
  obtain⟨ih,ih2⟩:=Kq hg l fun x hx=>hh x (by simp [hx])
  have hB:=VK hg (hh h (by simp))
  refine⟨?_,by simp only [Ay,Az,Ae,ih2,hB,Ai,A_];omega⟩
  simp only [Dm,Ay,Az,Ai,Cj,Dg]
  rw [Nat.mul_zero,List.drop_zero,T_ hg (hh h (by simp))]
  congr 1
  refine Eq.trans (BQ fun i _=>?_) ih
  simp only [Function.comp,Nat.succ_eq_add_one]
  rw [show (g.d.toNat+1+5)*(i+1)=(L5 h).length+(g.d.toNat+1+5)*i by rw [hB,CA];omega,BM]
  rw [Av (by omega),Bk,Nat.add_sub_cancel_left]
theorem RN {g:Geo} {a:An} (hg:AS g=true) (ha:AY g a=true):Cu g (Ir a)=some a:=by
 obtain⟨g1,g2,g3,g4,g5⟩:=Am.1 hg
 have ha0:=ha
 simp only [AY,Bool.and_eq_true,decide_eq_true_eq,Bn,Ck,B7,AI,A4] at ha
 obtain⟨⟨q1,q2,q3,q4⟩,_,_,q5,q6,q7,q8⟩:=ha
 have hz:a.homes.length=g.z.toNat:=by omega
 obtain⟨e1,e2⟩:=Kq hg a.homes q8
 have hf:∀ k (p:k<(J6 a).length) (q:k<szA.length),DX szA[k]/\0<=(J6 a)[k]/\(J6 a)[k]<CG szA[k]:=fun k p q=>by
  have hk:k=0\/k=1\/k=2\/k=3\/k=4:=by simp [J6] at p;omega
  have l4:CG 4=4294967296:=rfl
  have l1:CG 1=256:=rfl
  rcases hk with rfl | rfl | rfl | rfl | rfl
  ·exact⟨.inr (.inr rfl),q1.1,by show a.gen<CG 4;omega⟩
  ·exact⟨.inr (.inr rfl),q2.1,by show a.epoch<CG 4;omega⟩
  ·exact⟨.inr (.inr rfl),q3.1,by show a.seq<CG 4;omega⟩
  ·exact⟨.inr (.inr rfl),q4.1,by show a.last<CG 4;omega⟩
  ·exact⟨.inl rfl,q5.1,by show a.pos<CG 1;omega⟩
 have hn:nums szA (Ir a)=J6 a:=by
  rw [Ir,List.append_assoc]
  exact nums_rowB _ _ _ rfl hf
 have h17:(rowB (J6 a) szA).length=17:=tot_rowB _ _ rfl
 have hd:(Ir a).drop 17=Gd a.label ++ (a.homes.map L5).flatten:=by
  rw [Ir,List.append_assoc,<-h17,BM,Av (Nat.le_refl _),Dc];simp
 have hlen:(Ir a).length=17+(1+a.label.size)+g.z.toNat*(g.d.toNat+6):=by
  rw [Ir,Ae,Ae,h17,F7,e2,hz]
 have hdu:(Ir a).drop (17+(1+a.label.size))=(a.homes.map L5).flatten:=by
  rw [<-Aw,hd,<-F7,BM,Av (Nat.le_refl _),Dc];simp
 have ho:J5 (g.d.toNat+1) g.z.toNat (Ir a) a.label (1+a.label.size)=a:=by
  unfold J5
  rw [hn,hdu,<-hz,e1]
  rfl
 unfold Cu
 rw [if_neg (by omega),hd,Sc q6]
 simp only
 rw [if_neg (by omega),ho,if_pos ha0]
theorem PP {g:Geo} {b:List UInt8} {a:An} (hg:AS g=true) (h:Cu g b=some a):AY g a=true/\Ir a=b:=by
 obtain⟨g1,g2,g3,g4,g5⟩:=Am.1 hg
 unfold Cu at h
 split at h
 ·cases h
 ·rename_i h17
  split at h
  ·cases h
  ·rename_i s u hl
   split at h
   ·cases h
   ·rename_i hlen
    split at h
    ·rename_i hok
     cases h
     refine⟨hok,?_⟩
     have hm:(g.d.toNat+1+5)*g.z.toNat=g.z.toNat*(g.d.toNat+6):=Dd _ _
     rw [Pt _ _ _ _ _ (by omega) hl (by omega),List.take_of_length_le (by omega)]
    ·cases h
end Go.Proofs.YtldngmdpiifamaaGreatDoor.A
end
section
namespace Go.Proofs.YtldngmdpiifamaaGreatDoor.A
open Go.Lib
theorem Fk (n:Nat) (z:Int) (h:z=n):UInt8.ofNat n=z.toNat.toUInt8:=by subst h;rfl
theorem WS (r:Nat) (h:r<=1114111) (hv:r<55296\/57344<=r):(Utf8.encode (r:Int)).data.toList=encodeRune (r:Int):=by
 have v:Utf8.valid (r:Int)=true:=by simp [Utf8.valid];omega
 unfold encodeRune
 by_cases c1:r<128
 ·rw [encodeRuneZ_one (by omega) (by omega)];simp [Utf8.encode,v,c1]
 by_cases c2:r<2048
 ·rw [encodeRuneZ_two (by omega) (by omega),show (Utf8.encode (r:Int)).data.toList=[UInt8.ofNat (192+r / 64),UInt8.ofNat (128+r % 64)] by simp [Utf8.encode,v,c1,c2]]
  exact congr (congrArg List.cons (Fk _ _ (by omega))) (congr (congrArg List.cons (Fk _ _ (by omega))) rfl)
 by_cases c3:r<65536
 ·rw [encodeRuneZ_three (by omega),show (Utf8.encode (r:Int)).data.toList=[UInt8.ofNat (224+r / 4096),UInt8.ofNat (128+r / 64 % 64),UInt8.ofNat (128+r % 64)] by simp [Utf8.encode,v,c1,c2,c3]]
  exact congr (congrArg List.cons (Fk _ _ (by omega))) (congr (congrArg List.cons (Fk _ _ (by omega))) (congr (congrArg List.cons (Fk _ _ (by omega))) rfl))
 ·rw [encodeRuneZ_four (by omega) (by omega),show (Utf8.encode (r:Int)).data.toList=[UInt8.ofNat (240+r / 262144),UInt8.ofNat (128+r / 4096 % 64),UInt8.ofNat (128+r / 64 % 64),UInt8.ofNat (128+r % 64)] by simp [Utf8.encode,v,c1,c2,c3]]
  exact congr (congrArg List.cons (Fk _ _ (by omega))) (congr (congrArg List.cons (Fk _ _ (by omega))) (congr (congrArg List.cons (Fk _ _ (by omega))) (congr (congrArg List.cons (Fk _ _ (by omega))) rfl)))
def Dz (l:List UInt8):List Int:=if _h:l=[] then [] else ((decodeL l).1:Int)::Dz (l.drop (decodeL l).2)
termination_by l.length
decreasing_by exact G3 _h
theorem runesL_nil:Dz []=[]:=by rw [Dz];simp
theorem GI (l:List UInt8) (h:¬l=[]):Dz l=((decodeL l).1:Int)::Dz (l.drop (decodeL l).2):=by rw [Dz,dif_neg h]
theorem Qn {l:List UInt8}:(decodeL l).1<55296\/57344<=(decodeL l).1:=by
 rw [decodeL_N]
 have k0:=(l.getD 0 0).toNat_lt
 have k1:=(l.getD 1 0).toNat_lt
 have k2:=(l.getD 2 0).toNat_lt
 rcases decodeN_shape l.length (l.getD 0 0).toNat (l.getD 1 0).toNat (l.getD 2 0).toNat (l.getD 3 0).toNat with ⟨_,e⟩ | ⟨_,_,_,_,e⟩ | ⟨_,_,_,_,_,_,e⟩ | ⟨_,_,_,_,_,_,_,e⟩ | e <;> rw [e] <;> simp only <;> omega
theorem PA (n:Nat):∀ l:List UInt8,l.length=n->(Dz l).length<=l.length:=by
 induction n using Nat.strongRecOn with
 | ind n ih=>
  intro l hl
  by_cases h:l=[]
  ·subst h;rw [runesL_nil];simp
  ·have h1:=G3 h
   have h2:=ih _ (by rw [<-hl];exact h1) _ rfl
   rw [GI l h,Ai]
   omega
theorem Sw (n:Nat):∀ (l:List UInt8) (b:ByteArray),l.length=n->validD l=true->((Dz l).foldl (fun r n=>r ++ Utf8.encode n) b).data.toList=b.data.toList ++ l:=by
 induction n using Nat.strongRecOn with
 | ind n ih=>
  intro l b hl hv
  by_cases h:l=[]
  ·subst h;rw [runesL_nil];simp
  ·have h1:=G3 h
   rw [validD_step l h] at hv
   split at hv
   ·cases hv
   ·rename_i hn
    rw [GI l h,List.foldl_cons,ih _ (by rw [<-hl];exact h1) _ _ rfl hv]
    have e:(b ++ Utf8.encode ((decodeL l).1:Int)).data.toList=b.data.toList ++ (Utf8.encode ((decodeL l).1:Int)).data.toList:=by simp [ByteArray.data_append]
    rw [e,WS _ (decodeL_rune l) Qn,encode_decode l h hn,List.append_assoc,Bf]
theorem Jn {s:ByteArray} (h:validD s.data.toList=true):runesBytes (Dz s.data.toList)=s:=by
 have:=Sw _ s.data.toList ByteArray.empty rfl h
 apply ByteArray.ext
 apply Array.ext'
 rw [runesBytes,this]
 rfl
theorem I2 (s:ByteArray):∀ (bound i:Nat) (acc:Array Value),s.size<=i+bound->Conv.runesFrom s bound i acc=acc ++ ((Dz (s.data.toList.drop i)).map (Value.int .i32)).toArray
 | 0,i,acc,h=>by
  have:s.data.toList.drop i=[]:=Av (by rw [Dy];omega)
  rw [this,runesL_nil]
  simp [Conv.runesFrom]
 | bound+1,i,acc,h=>by
  unfold Conv.runesFrom
  split
  ·rename_i hi
   have hne:¬s.data.toList.drop i=[]:=by
    intro e
    have:=congrArg List.length e
    rw [Ac,Dy] at this
    simp at this
    omega
   have hd:=Ha s i
   have hw:1<=(Utf8.decode s i).2:=by rw [hd];exact decodeL_width _
   show Conv.runesFrom s bound (i+(Utf8.decode s i).2) (acc.push (Value.int IntKind.i32 (Int.ofNat (Utf8.decode s i).1)))=_
   rw [I2 s bound _ _ (by omega),GI _ hne,<-hd,Aw]
   simp
  ·have:s.data.toList.drop i=[]:=Av (by rw [Dy];omega)
   rw [this,runesL_nil]
   simp
end Go.Proofs.YtldngmdpiifamaaGreatDoor.A
end
section
namespace Go.Proofs.YtldngmdpiifamaaGreatDoor
open Go.RowKit
attribute [local go_sem ↓] Go.wp_at_zero Go.wp_at_succ

theorem Fu {P:Program} {w:World} {ops:Array Oper} {rest:List Oper} {o:Oper} {a:Act} {Q:Exit->Act->World->Prop} (hgd:o.guard=none) (d s:Operand) (t t':TypeId)
  (ho:o.op = .call { callee:= .builtin .append,args:= #[d,s],argTypes:= #[t,t'] }) {v u:Value} (hd:a.eval d=v) (hs:a.eval s=u) {v':Value} {w':World}
  (hr:(Builtin.append_ #[t,t'] o.type #[v,u]).run P w = .ok v' w') (h:wpList P ops Q rest (a.put o.dst v') w'):wpList P ops Q (o::rest) a w:=by
 refine wpList_plain hgd fun _ hK=>?_
 unfold Oper.wp execOp
 simp only [ho,resolve,invoke,builtin,Sem.run_bind,Sem.run_pure,Result.andThen_ok,List.map_toArray,Ay,By,hd,hs,hr]
 exact hK _ _ h
theorem Lr (w:World) (M:Ms) (n:Int) (x:UInt8) (hx:n=(x.toNat:Int)) (s:ByteArray):Elems (Rp.sz UInt8) (Rp.E w M) ([Value.int .u8 n] ++ Lib.strCells s) (x::s.data.toList):=by
 subst hx
 refine⟨[.int .u8 x.toNat],_,rfl,rfl,rfl,?_⟩
 unfold Lib.strCells
 induction s.data.toList with
 | nil=>rfl
 | cons y l ih=>exact⟨[.int .u8 y.toNat],_,rfl,rfl,rfl,ih⟩

theorem RG (s:ByteArray) (w:World) (M:Ms) (hs:s.size<=255) :
  Calls Tryz.prog 197 #[.string s] w fun e w'=>∃ r,e = .returned r/\OwR w' M w.heap.size 5 r (UInt8.ofNat s.size::s.data.toList)/\Below w.heap.size w w':=by
 obtain⟨i,h1,h2,h3,h4⟩:=info_parts (show (Tryz.prog.info? 5).map (fun i=>(i.zero,i.size,i.bytes))=some (some (.int .u8 0),1,1) by kernel_rfl)
 have hw8:IntKind.u8.wrap (s.size:Int)=s.size:=by rw [IntKind.wrap_u8];omega
 have hN:(s.size:Int)=((UInt8.ofNat s.size).toNat:Int):=by simp;omega
 have hB:=(Below.refl w.heap.size w).alloc (Nat.le_refl _) (.cells #[Value.int .u8 (s.size:Int)] 5)
 have ho:(w.alloc (.cells #[Value.int .u8 (s.size:Int)] 5)).ownsRow w.heap.size 5 1 (.slice (some ⟨w.heap.size,0,none⟩) 1 1) 1 [.int .u8 (s.size:Int)]:=
  ⟨rfl, .inr ⟨w.heap.size,1,_,rfl,Nat.le_refl _,heap_alloc_new w _,Nat.le_refl _,by decide,rfl,rfl⟩⟩
 obtain⟨v',w',hr,hr2,hr3,_⟩:=Lib.run_append_own_string (P:=Tryz.prog) (w.alloc (.cells #[Value.int .u8 (s.size:Int)] 5)) w.heap.size 80 9 80 5 i Tryz.underlying80 Tryz.underlying9 h1 h2 h3 h4 _ 1 _ ho s (by unfold maxLen;omega) (by omega) hB.size
 have HO:=Lib.hid (And.intro (⟨_,by simp only [Ai,Cm];rw [BS];exact hr2,Lr _ _ _ _ hN s⟩:OwR w' M w.heap.size 5 v' (UInt8.ofNat s.size::s.data.toList)) (hB.grown hr3 hB.size (fun b e=>by cases e;exact Nat.le_refl _)))
 clear hr2 hr3 ho hB hN h1 h2 h3 h4
 go_enter Tryz.func197,Tryz.ntmps197
 go_wp2_with (at_builtin;refine Fu rfl _ _ _ _ rfl (by rfl) (by rfl) hr ?_)
 go_ret
 exact⟨_,rfl,HO.out⟩
theorem VC (s:ByteArray) (w:World) (e0:Int) (he:(e0 != 0)=true) (hc:Calls Tryz.prog 127 #[.string s] w fun e w'=>e = .returned (.int .i64 e0)/\Below w.heap.size w w') :
  Calls Tryz.prog 181 #[.string s] w fun e w'=>e = .returned (.tuple #[.slice none 0 0, .int .i64 e0])/\Below w.heap.size w w':=by
 have HC:=Lib.hid hc
 clear hc
 go_enter Tryz.func181,Tryz.ntmps181
 go_wp2_with (go_at_call 127;go_must (with_reducible refine HC.out.mono ?_);rintro e w1 ⟨rfl,hB1⟩)
 have HB:=Lib.hid hB1
 clear hB1
 go_wp2
 go_ret2
 exact⟨rfl,HB.out⟩
theorem TR (s:ByteArray) (w:World) (M:Ms) (hs:s.size<=255) (hv:Lib.validD s.data.toList=true) (hc:Calls Tryz.prog 127 #[.string s] w fun e w'=>e = .returned (.int .i64 0)/\Below w.heap.size w w') :
  Calls Tryz.prog 181 #[.string s] w fun e w'=>∃ r,e = .returned (.tuple #[r, .int .i64 0])/\OwR w' M w.heap.size 5 r (UInt8.ofNat s.size::s.data.toList)/\Below w.heap.size w w':=by
 obtain⟨i,h1,h2,h3,h4⟩:=info_parts (show (Tryz.prog.info? 5).map (fun i=>(i.zero,i.size,i.bytes))=some (some (.int .u8 0),1,1) by kernel_rfl)
 have HI:=Lib.hid (And.intro h1 (And.intro h2 (And.intro h3 h4)))
 have hw8:IntKind.u8.wrap (s.size:Int)=s.size:=by rw [IntKind.wrap_u8];omega
 have HC:=Lib.hid hc
 have HV:=Lib.hid hv
 have HS:=Lib.hid hs
 clear hc h1 h2 h3 h4 hv hs
 go_enter Tryz.func181,Tryz.ntmps181
 go_wp2_with (go_at_call 127;go_must (with_reducible refine HC.out.mono ?_);rintro e w1 ⟨rfl,hB1⟩)
 have hrf:=A.I2 s s.size 0 #[] (by omega)
 rw [List.drop_zero,Array.empty_append] at hrf
 have hrl:=A.PA _ s.data.toList rfl
 have hsz:s.data.toList.length=s.size:=rfl
 have hrs:(Conv.runesFrom s s.size 0 #[]).size=(A.Dz s.data.toList).length:=by rw [hrf];simp
 have hconv:=run_runes_of_string (P:=Tryz.prog) w1 9 281 21 s Tryz.underlying9 Tryz.underlying281 Tryz.underlying21 (by rw [hrs];have:=HS.out;omega)
 rw [hconv]
 have hB2:=hB1.trans (((G5 w1).trans ((Below.refl w1.drew.heap.size w1.drew).alloc (Nat.le_refl _) (.cells (Conv.runesFrom s s.size 0 #[] ++ Array.replicate (grownCap w1 (Conv.runesFrom s s.size 0 #[]).size 0 21 - (Conv.runesFrom s s.size 0 #[]).size) (.int .i32 0)) 21))).mono hB1.size)
 have hcell:∀ j,j<(A.Dz s.data.toList).length->(w1.drew.alloc (.cells (Conv.runesFrom s s.size 0 #[] ++ Array.replicate (grownCap w1 (Conv.runesFrom s s.size 0 #[]).size 0 21 - (Conv.runesFrom s s.size 0 #[]).size) (.int .i32 0)) 21)).cell? ⟨w1.heap.size,j,none⟩=some (.int .i32 ((A.Dz s.data.toList).getD j 0)):=fun j hj=>by
  rw [cell_of_row _ w1.heap.size _ _ 21 (0,0) (heap_alloc_new w1.drew _),Array.getElem?_append_left (by rw [hrs];exact hj),hrf]
  simp [List.getD_eq_getElem?_getD,List.getElem?_eq_getElem hj]
 generalize w1.drew.alloc (.cells (Conv.runesFrom s s.size 0 #[] ++ Array.replicate (grownCap w1 (Conv.runesFrom s s.size 0 #[]).size 0 21 - (Conv.runesFrom s s.size 0 #[]).size) (.int .i32 0)) 21)=w2 at hB2 hcell |-
 rw [hrs] at *
 generalize grownCap w1 (A.Dz s.data.toList).length 0 21=cap
 have hgl:w1.heap.size<w2.heap.size\/(A.Dz s.data.toList).length=0:=by
  rcases Nat.eq_zero_or_pos (A.Dz s.data.toList).length with h | h
  ·exact .inr h
  ·exact .inl (World.block_lt_of_cell? _ _ (hcell 0 h))
 generalize w1.heap.size=g at hcell hgl |-
 have hN:(s.size:Int)=((UInt8.ofNat s.size).toNat:Int):=by have:=HS.out;simp;omega
 have hB3:=hB2.trans (((Below.refl w2.heap.size w2).alloc (Nat.le_refl _) (.cells #[Value.int .u8 (s.size:Int)] 5)).mono hB2.size)
 have hcv:(convert 281 9 (.slice (some ⟨g,0,none⟩) (A.Dz s.data.toList).length cap)).run Tryz.prog (w2.alloc (.cells #[Value.int .u8 (s.size:Int)] 5)) = .ok (.string s) (w2.alloc (.cells #[Value.int .u8 (s.size:Int)] 5)):=by
  rw [run_convert_runes (P:=Tryz.prog) _ 281 9 21 ⟨g,0,none⟩ (A.Dz s.data.toList).length cap (A.Dz s.data.toList) (Nat.le_refl _) Tryz.underlying281 Tryz.underlying21 Tryz.underlying9 (fun j hj=>by
   rw [Addr.add_lit,Ap]
   exact Ip ((Below.refl w2.heap.size w2).alloc (Nat.le_refl _) _) (hcell j hj)),List.take_length,A.Jn HV.out]
 have ho:(w2.alloc (.cells #[Value.int .u8 (s.size:Int)] 5)).ownsRow w.heap.size 5 1 (.slice (some ⟨w2.heap.size,0,none⟩) 1 1) 1 [.int .u8 (s.size:Int)]:=
  ⟨rfl, .inr ⟨w2.heap.size,1,_,rfl,hB2.size,heap_alloc_new w2 _,Nat.le_refl _,by decide,rfl,rfl⟩⟩
 obtain⟨v',w',hr,hr2,hr3,_⟩:=Lib.run_append_own_string (P:=Tryz.prog) (w2.alloc (.cells #[Value.int .u8 (s.size:Int)] 5)) w.heap.size 80 9 80 5 i Tryz.underlying80 Tryz.underlying9 HI.out.1 HI.out.2.1 HI.out.2.2.1 HI.out.2.2.2 _ 1 _ ho s (by have:=HS.out;unfold maxLen;omega) (by have:=HS.out;omega) hB3.size
 have HO:=Lib.hid (And.intro (⟨_,by simp only [Ai,Cm];rw [BS];exact hr2,Lr _ _ _ _ hN s⟩:OwR w' M w.heap.size 5 v' (UInt8.ofNat s.size::s.data.toList)) (hB3.grown hr3 hB3.size (fun b e=>by cases e;exact hB2.size)))
 clear hr2 hr3 ho hB3 hB2 hB1 hN hcell hgl hconv hrf hrl hsz hrs
 go_wp2_with (at_builtin;refine Fu rfl _ _ _ _ rfl (by rfl) (by rfl) hr ?_)
 go_ret2
 exact⟨_,rfl,HO.out⟩
end Go.Proofs.YtldngmdpiifamaaGreatDoor
end
section
namespace Go.Proofs.YtldngmdpiifamaaGreatDoor

theorem NM {n:Int} (h:0<=n):CB (Ek n)=n:=by
 unfold CB Ek
 split <;> split <;> omega
theorem WI (R:List UInt8):∃ x y:Nat,nums [1,1] R=[(x:Int),(y:Int)]:=⟨_,_,rfl⟩
theorem Qc {R:List UInt8} (h:R.length=3+BD (R.drop 2)):GX (Ds R)=R:=by
 obtain⟨x,y,hxy⟩:=WI R
 have h1:=rowB_nums [1,1] R (by show 2<=_;omega)
 rw [hxy] at h1
 have h2:(R.take (tot [1,1]))=R.take 2:=rfl
 rw [h2] at h1
 have h3:Ds R=⟨x,Ek y,((R.drop 2).drop 1).take (BD (R.drop 2))⟩:=by unfold Ds;rw [hxy];rfl
 rw [h3,GX]
 simp only
 rw [NM (by omega),h1]
 have hl:(R.drop 2).length=1+BD (R.drop 2):=by rw [Ac];omega
 have h4:UInt8.ofNat (((R.drop 2).drop 1).take (BD (R.drop 2))).length::((R.drop 2).drop 1).take (BD (R.drop 2))=R.drop 2:=by
  cases hd:R.drop 2 with
  | nil=>rw [hd] at hl;simp at hl;omega
  | cons u t=>
   rw [hd] at hl
   have hp:BD (u::t)=u.toNat:=rfl
   rw [hp] at hl |-
   have ht:t.length=u.toNat:=by simp at hl;omega
   show UInt8.ofNat (t.take u.toNat).length::t.take u.toNat=u::t
   rw [List.take_of_length_le (by omega),ht]
   congr 1
   simp
 rw [h4,Bf]
theorem Om {b:List UInt8} (h11:11<=b.length) (h:if (CV b).kind=1 then b.length=14+BD (b.drop 13) else b.length=11):D6 (CV b)=b:=by
 obtain⟨k,s,e,a,o,hn,hp⟩:=TB b
 have h1:=rowB_nums szR b (by show 11<=_;omega)
 have h2:(b.take (tot szR))=b.take 11:=rfl
 rw [hn,h2] at h1
 rw [hp] at h |-
 simp only at h
 rw [D6]
 show rowB [k,s,e,a,o] szR ++ _=b
 rw [h1]
 simp only
 by_cases hk:k=1
 ·rw [if_pos hk] at h |-
  rw [if_pos hk,Qc (by simp only [Ac,Aw,Nat.reduceAdd];omega),Bf]
 ·rw [if_neg hk] at h |-
  rw [List.append_nil,List.take_of_length_le (by omega)]
theorem L_ {g:Geo} {b:List UInt8} (h11:11<=b.length) (h:if (CV b).kind=1 then b.length=14+BD (b.drop 13) else b.length=11) :
  C4 g b=if DH g (CV b)=true then some (CV b) else none:=by
 unfold C4
 by_cases hok:DH g (CV b)=true
 ·rw [if_pos hok,if_pos]
  refine⟨h11,fun hk=>?_,hok,Om h11 h⟩
  rw [if_pos hk] at h
  simp only [ER,E1,Bool.and_eq_true,decide_eq_true_eq,Ac,Aw,Nat.reduceAdd]
  omega
 ·rw [if_neg hok,if_neg]
  exact fun h'=>hok h'.2.2.1
theorem Oo {g:Geo} {b:List UInt8} (h:b.length<11):C4 g b=none:=by
 unfold C4
 rw [if_neg]
 omega
theorem Jp {g:Geo} {b:List UInt8} (_h11:11<=b.length) (h:¬(if (CV b).kind=1 then b.length=14+BD (b.drop 13) else b.length=11)):C4 g b=none:=by
 unfold C4
 rw [if_neg]
 rintro⟨-,h2,h3,h4⟩
 have hl:=I7 h3
 rw [h4] at hl
 by_cases hk:(CV b).kind=1
 ·rw [if_pos hk] at h hl
  have hs:=h2 hk
  simp only [ER,E1,Bool.and_eq_true,decide_eq_true_eq,Ac,Aw,Nat.reduceAdd] at hs
  have hi:(CV b).img=Ds (b.drop 11):=by
   obtain⟨k,s,e,a,o,hn,hp⟩:=TB b
   rw [hp] at hk |-
   simp only at hk |-
   rw [if_pos hk]
  rw [hi] at hl
  simp only [Ds,Ao,Ac,Aw,Nat.reduceAdd] at hl
  omega
 ·rw [if_neg hk] at h hl
  omega
theorem O1 {b:List UInt8} (h11:11<=b.length):CV b=⟨(b[0].toNat:Nat),(leN ((b.drop 1).take 4):Nat),(leN ((b.drop 5).take 4):Nat),(b[9].toNat:Nat),(b[10].toNat:Nat),if (b[0].toNat:Int)=1 then Ds (b.drop 11) else noImg⟩:=by
 have e1:∀ i (h:i<b.length),leN ((b.drop i).take 1)=b[i].toNat:=fun i h=>by
  rw [AM h]
  show b[i].toNat+256*0=b[i].toNat
  omega
 have hn:nums szR b=[((leN (b.take 1):Nat):Int),((leN ((b.drop 1).take 4):Nat):Int),((leN ((b.drop 5).take 4):Nat):Int),((leN ((b.drop 9).take 1):Nat):Int),((leN ((b.drop 10).take 1):Nat):Int)]:=by
  simp [nums,Aw]
 unfold CV
 rw [hn]
 have e0:=e1 0 (by omega)
 rw [List.drop_zero] at e0
 rw [e0,e1 9 (by omega),e1 10 (by omega)]
 rfl
theorem Se {b:List UInt8} (h:b.length=14+BD (b.drop 13)):Ds (b.drop 11)=⟨((b[11]'(by omega)).toNat:Nat),Ek ((b[12]'(by omega)).toNat:Nat),b.drop 14⟩:=by
 have e1:∀ i (h:i<b.length),leN ((b.drop i).take 1)=b[i].toNat:=fun i h=>by
  rw [AM h]
  show b[i].toNat+256*0=b[i].toNat
  omega
 have hn:nums [1,1] (b.drop 11)=[((leN ((b.drop 11).take 1):Nat):Int),((leN ((b.drop 12).take 1):Nat):Int)]:=by
  simp [nums,Aw]
 unfold Ds
 rw [hn,e1 11 (by omega),e1 12 (by omega)]
 simp only [Aw,Nat.reduceAdd]
 rw [List.take_of_length_le (by rw [Ac];omega)]
 rfl
end Go.Proofs.YtldngmdpiifamaaGreatDoor
end
section
namespace Go.Proofs.YtldngmdpiifamaaGreatDoor
open Go.RowKit

theorem O0 {b:List UInt8} {i:Nat} (h:i<b.length):BD (b.drop i)=b[i].toNat:=by
 rw [AM h];rfl
end Go.Proofs.YtldngmdpiifamaaGreatDoor
end
section
namespace Go.Proofs.YtldngmdpiifamaaGreatDoor

def polyN:Nat:=2197175160
def Fy (r:Nat):Nat:=r / 2 ^^^ (if r % 2=1 then polyN else 0)
def stepsC:Nat->Nat->Nat
 | 0,r=>r
 | k+1,r=>Fy (stepsC k r)
def EL (r:Nat):Nat:=stepsC 8 r
def FC (r:Nat) (b:List UInt8):Nat:=b.foldl (fun r c=>EL (r ^^^ c.toNat)) r
def Fx (b:List UInt8):Nat:=4294967295 - FC 4294967295 b

theorem Ku {a b:Nat} (ha:a<4294967296) (hb:b<4294967296):a ^^^ b<4294967296:=Nat.xor_lt_two_pow (n:=32) ha hb
theorem SX {r:Nat} (h:r<4294967296):Fy r<4294967296:=by
 unfold Fy
 apply Ku
 ·omega
 ·split <;> decide
theorem stepsC_lt:∀ (k:Nat) {r:Nat},r<4294967296->stepsC k r<4294967296
 | 0,_,h=>h
 | k+1,_,h=>SX (stepsC_lt k h)
theorem M8 {r:Nat} (h:r<4294967296):EL r<4294967296:=stepsC_lt 8 h
theorem foldC_lt:∀ (b:List UInt8) {r:Nat},r<4294967296->FC r b<4294967296
 | [],_,h=>h
 | c::b,r,h=>by
  have hc:c.toNat<4294967296:=by have:=c.toNat_lt;omega
  exact foldC_lt b (M8 (Ku h hc))
theorem Kl (b:List UInt8):Fx b<=4294967295:=by unfold Fx;omega
theorem SF (a b:Nat):(a ^^^ b) / 2=a / 2 ^^^ b / 2:=Nat.xor_div_two
theorem UN (a b:Nat):(a ^^^ b) % 2=(a+b) % 2:=by
 have h:=Nat.xor_mod_two_pow (a:=a) (b:=b) (n:=1)
 simp only [Nat.pow_one] at h
 rw [h]
 rcases Ch a with ha | ha <;> rcases Ch b with hb | hb <;> rw [ha,hb] <;> (first | (show (0:Nat)=_;omega) | (show (1:Nat)=_;omega))
theorem Rt (a b:Nat):Fy (a ^^^ b)=Fy a ^^^ Fy b:=by
 unfold Fy
 rw [SF,UN]
 have hx:∀ x y p q:Nat,(x ^^^ p) ^^^ (y ^^^ q)=(x ^^^ y) ^^^ (p ^^^ q):=fun x y p q=>by
  rw [Nat.xor_assoc,Nat.xor_assoc,<-Nat.xor_assoc p,Nat.xor_comm p y,Nat.xor_assoc]
 rw [hx]
 congr 1
 rcases Ch a with ha | ha <;> rcases Ch b with hb | hb
 ·rw [if_neg (by omega),if_neg (by omega),if_neg (by omega)];rfl
 ·rw [if_pos (by omega),if_neg (by omega),if_pos (by omega)];exact(Nat.zero_xor _).symm
 ·rw [if_pos (by omega),if_pos (by omega),if_neg (by omega)];exact(Nat.xor_zero _).symm
 ·rw [if_neg (by omega),if_pos (by omega),if_pos (by omega)];exact(Nat.xor_self _).symm
theorem stepsC_xor:∀ (k a b:Nat),stepsC k (a ^^^ b)=stepsC k a ^^^ stepsC k b
 | 0,_,_=>rfl
 | k+1,a,b=>by simp only [stepsC];rw [stepsC_xor k,Rt]
theorem CW (x:Nat):Fy (2*x)=x:=by
 unfold Fy
 rw [if_neg (by omega),Nat.mul_div_cancel_left x (by omega)]
 exact Nat.xor_zero x
theorem stepsC_succ:∀ (k r:Nat),stepsC (k+1) r=stepsC k (Fy r)
 | 0,_=>rfl
 | k+1,r=>by rw [stepsC,stepsC_succ k r];rfl
theorem O_ (x:Nat):EL (256*x)=x:=by
 unfold EL
 rw [show 256*x=2*(128*x) by omega,stepsC_succ,CW,show 128*x=2*(64*x) by omega,stepsC_succ,CW,show 64*x=2*(32*x) by omega,stepsC_succ,CW,
  show 32*x=2*(16*x) by omega,stepsC_succ,CW,show 16*x=2*(8*x) by omega,stepsC_succ,CW,show 8*x=2*(4*x) by omega,stepsC_succ,CW,
  show 4*x=2*(2*x) by omega,stepsC_succ,CW,stepsC_succ,CW]
 rfl
theorem P1 (r:Nat):r=256*(r / 256) ^^^ r % 256:=by
 have h:r % 256<2 ^ 8:=by omega
 have h1:=Nat.two_pow_add_eq_or_of_lt h (r / 256)
 have h2:2 ^ 8*(r / 256) ||| r % 256=2 ^ 8*(r / 256) ^^^ r % 256:=by
  apply Nat.eq_of_testBit_eq
  intro i
  rw [Nat.testBit_or,Nat.testBit_xor]
  by_cases hi:i<8
  ·rw [Nat.testBit_two_pow_mul]
   simp [show ¬8<=i by omega]
  ·have:(r % 256).testBit i=false:=Nat.testBit_lt_two_pow (Ak h (Nat.pow_le_pow_right (by omega) (by omega)))
   rw [this]
   simp
 calc r=2 ^ 8*(r / 256)+r % 256:=by omega
  _=2 ^ 8*(r / 256) ||| r % 256:=h1
  _=256*(r / 256) ^^^ r % 256:=h2
theorem Pa (r c:Nat):EL (r ^^^ c)=r / 256 ^^^ EL (r % 256 ^^^ c):=by
 conv=>lhs;rw [P1 r,Nat.xor_assoc]
 unfold EL
 rw [stepsC_xor]
 congr 1
 exact O_ _
theorem Qi (r:Nat) (b:List UInt8) (c:UInt8):FC r (b ++ [c])=EL (FC r b ^^^ c.toNat):=by simp [FC]
theorem Li {r:Nat} {b:List UInt8} {k:Nat} (hk:k<b.length):FC r (b.take (k+1))=EL (FC r (b.take k) ^^^ b[k].toNat):=by
 rw [Ba,List.getElem?_eq_getElem hk]
 exact Qi _ _ _
end Go.Proofs.YtldngmdpiifamaaGreatDoor
end
section
namespace Go.Proofs.YtldngmdpiifamaaGreatDoor
open Go.RowKit
attribute [local go_sem ↓] Go.wp_at_zero Go.wp_at_succ

theorem QX (a b:Nat) (ha:a<4294967296) (hb:b<4294967296):bits .xor .i64 (a:Int) (b:Int)=((a ^^^ b:Nat):Int):=by
 have ha':a % 2 ^ IntKind.i64.bits=a:=Nat.mod_eq_of_lt (show a<18446744073709551616 by omega)
 have hb':b % 2 ^ IntKind.i64.bits=b:=Nat.mod_eq_of_lt (show b<18446744073709551616 by omega)
 have h:=Ku ha hb
 simp only [bits,BitVec.ofInt_natCast,BitVec.toNat_xor,BitVec.toNat_ofNat,ha',hb']
 rw [IntKind.wrap_i64]
 omega
theorem V1 (N:Nat) (h:N<4294967296):4294967295 ^^^ N=4294967295 - N:=by
 have e:=congrArg BitVec.toNat (BitVec.allOnes_xor (x:=BitVec.ofNat 32 N))
 rw [BitVec.toNat_xor,BitVec.toNat_not,BitVec.toNat_allOnes,BitVec.toNat_ofNat,Nat.mod_eq_of_lt h] at e
 exact e
theorem TF (N:Nat) (h:N<4294967296):bits .xor .u32 IntKind.u32.max (N:Int)=((4294967295 - N:Nat):Int):=by
 rw [<-V1 N h]
 exact u32_xor_nat 4294967295 N (by omega) h
theorem V8 (r:Nat):r&&&1=r % 2:=Nat.and_one_is_mod r
theorem U4 (r:Nat):r&&&255=r % 256:=Nat.and_two_pow_sub_one_eq_mod r 8

theorem Uy (r:Nat) (w:World) (hr:r<4294967296):Calls Tryz.prog 219 #[.int .u32 r] w fun e w'=>e = .returned (.int .u32 (EL r:Nat))/\w'=w:=by
 have hE:=Lib.hid (show EL r=stepsC 8 r from rfl)
 rw [hE.out]
 go_enter Tryz.func219,Tryz.ntmps219
 go_wp2
 go_loopg [0,4] 8 (fun gk s0 s4 wr=>∃ k:Nat,s4 = .int .i64 k/\k<=8/\8 - k<=gk/\wr=w/\s0 = .int .u32 (stepsC k r:Nat))
 case atStart=>exact⟨0,rfl,by omega,by omega,rfl,rfl⟩
 case round=>
  obtain⟨k,rfl,hkl,hgk,rfl,rfl⟩:=hrel
  by_cases hk:k<8
  ·have hk':(k:Int)<8:=by omega
   have hst:=Lib.hid (show stepsC (k+1) r=stepsC k r / 2 ^^^ (if stepsC k r % 2=1 then polyN else 0) from rfl)
   have hlt:=stepsC_lt k hr
   obtain⟨N,hN⟩:∃ N,N=stepsC k r:=⟨_,rfl⟩
   rw [<-hN] at hlt hst |-
   have hand:bits .and .u32 (N:Int) 1=((N % 2:Nat):Int):=by rw [<-V8];exact u32_and_nat N 1 hlt (by omega)
   have hdiv:((N / 2:Nat):Int)=(N:Int) / 2:=by omega
   have hxor:bits .xor .u32 ((N:Int) / 2) 2197175160=((N / 2 ^^^ 2197175160:Nat):Int):=by rw [<-hdiv];exact u32_xor_nat (N / 2) 2197175160 (by omega) (by omega)
   have HD:=Lib.hid hdiv
   clear hN hdiv
   rcases Ch N with h2 | h2
   ·rw [h2,if_neg (by omega),Nat.xor_zero] at hst
    rw [h2] at hand
    have hand0:bits .and .u32 (N:Int) 1=0:=hand
    clear h2 hxor hand
    go_wp2
    go_roundg (8 - (k+1))
    case measure=>omega
    case rel=>exact⟨k+1,by go_num,by omega,by omega,rfl,by rw [hst.out,HD.out]⟩
   ·rw [h2,if_pos rfl] at hst
    rw [h2] at hand
    have hand1:bits .and .u32 (N:Int) 1=1:=hand
    clear h2 hand
    go_wp2
    go_roundg (8 - (k+1))
    case measure=>omega
    case rel=>exact⟨k+1,by go_num,by omega,by omega,rfl,by rw [hst.out];rfl⟩
  ·obtain rfl:k=8:=by omega
   go_wp2
   go_ret
   exact⟨rfl,rfl⟩

theorem WC (v:Value) (b:List UInt8) (w:World) (Mi:Ms) (h:SlR w Mi v b):Calls Tryz.prog 184 #[.int .u32 4294967295,v] w fun e w'=>e = .returned (.int .u32 (FC 4294967295 b:Nat))/\w'=w:=by
 obtain⟨a,c,rfl⟩:=h.form
 have hcap:=h.cap
 have H:=Lib.hid h.bare
 clear h
 go_enter Tryz.func184,Tryz.ntmps184
 go_wp2
 go_loopg [0,9] b.length (fun gk s0 s9 wr=>∃ k:Nat,s9 = .int .i64 k/\k<=b.length/\b.length - k<=gk/\wr=w/\s0 = .int .u32 (FC 4294967295 (b.take k):Nat))
 case atStart=>exact⟨0,rfl,by omega,by omega,rfl,rfl⟩
 case round=>
  obtain⟨k,rfl,hkl,hgk,rfl,rfl⟩:=hrel
  by_cases hk:k<b.length
  ·have hk':(k:Int)<b.length:=by omega
   obtain⟨bb,off,rfl, -,x1⟩:=SR H.out hk
   have hst:=Li (r:=4294967295) hk
   have hlt:=foldC_lt (b.take k) (r:=4294967295) (by omega)
   obtain⟨N,hN⟩:∃ N,N=FC 4294967295 (b.take k):=⟨_,rfl⟩
   rw [<-hN] at hlt hst |-
   rw [Pa] at hst
   obtain⟨y,hy⟩:∃ y,y=b[k].toNat:=⟨_,rfl⟩
   have hyl:y<256:=by rw [hy];exact b[k].toNat_lt
   rw [<-hy] at x1 hst
   have hand:bits .and .u32 (N:Int) 255=((N % 256:Nat):Int):=by rw [<-U4];exact u32_and_nat N 255 hlt (by omega)
   have hcy:IntKind.u32.wrap (y:Int)=y:=by rw [IntKind.wrap_u32];omega
   have hx1:bits .xor .u32 ((N % 256:Nat):Int) (y:Int)=((N % 256 ^^^ y:Nat):Int):=u32_xor_nat _ _ (by omega) (by omega)
   have hxl:N % 256 ^^^ y<4294967296:=Ku (by omega) (by omega)
   obtain⟨X,hX⟩:∃ X,X=N % 256 ^^^ y:=⟨_,rfl⟩
   rw [<-hX] at hx1 hxl hst
   have hdn:=Lib.hid (Uy X wr hxl)
   have hel:=M8 hxl
   obtain⟨Z,hZ⟩:∃ Z,Z=EL X:=⟨_,rfl⟩
   rw [<-hZ] at hdn hel hst
   have hdiv:((N / 256:Nat):Int)=(N:Int) / 256:=by omega
   have hx2:bits .xor .u32 ((N:Int) / 256) (Z:Int)=((N / 256 ^^^ Z:Nat):Int):=by rw [<-hdiv];exact u32_xor_nat _ _ (by omega) hel
   obtain⟨T,hT⟩:∃ T,T=N % 256:=⟨_,rfl⟩
   rw [<-hT] at hand hx1
   have hst:=Lib.hid hst
   clear hN hy hX hZ hdiv hT
   go_wp2_with (go_at_call 219;go_must (with_reducible refine hdn.out.mono ?_);rintro e w1 ⟨rfl,rfl⟩)
   go_roundg (b.length - (k+1))
   case measure=>omega
   case rel=>exact⟨k+1,by go_num,by omega,by omega,rfl,by rw [hst.out]⟩
  ·obtain rfl:k=b.length:=by omega
   rw [List.take_length]
   go_wp2
   go_ret
   exact⟨rfl,rfl⟩
theorem LN (v:Value) (b:List UInt8) (w:World) (Mi:Ms) (h:SlR w Mi v b):Calls Tryz.prog 132 #[v] w fun e w'=>e = .returned (.int .i64 (Fx b:Nat))/\w'=w:=by
 have hon:=Lib.hid (WC v b w Mi h)
 have hE:=Lib.hid (show Fx b=4294967295 - FC 4294967295 b from rfl)
 have hlt:=foldC_lt b (r:=4294967295) (by omega)
 obtain⟨N,hN⟩:∃ N,N=FC 4294967295 b:=⟨_,rfl⟩
 rw [hE.out]
 rw [<-hN] at hon hlt |-
 obtain⟨a,c,rfl⟩:=h.form
 have hnb:=TF N hlt
 obtain⟨T,hT⟩:∃ T,T=4294967295 - N:=⟨_,rfl⟩
 have hTl:T<=4294967295:=by omega
 rw [<-hT] at hnb |-
 have hw:wrap64 (T:Int)=T:=by unfold wrap64;omega
 clear hE hN h hT
 go_enter Tryz.func132,Tryz.ntmps132
 go_wp2_with (go_at_call 184;go_must (with_reducible refine hon.out.mono ?_);rintro e w1 ⟨rfl,rfl⟩)
 go_ret
 exact⟨rfl,rfl⟩
end Go.Proofs.YtldngmdpiifamaaGreatDoor
end
section
namespace Go.Proofs.YtldngmdpiifamaaGreatDoor
open Go.RowKit

end Go.Proofs.YtldngmdpiifamaaGreatDoor
end
section
namespace Go.Proofs.YtldngmdpiifamaaGreatDoor
open Go.RowKit
attribute [local go_sem ↓] Go.wp_at_zero Go.wp_at_succ

def Ea (addr stamp:Int) (p:List UInt8):List UInt8:=((UInt8.ofNat p.length::p) ++ leB 2 addr.toNat) ++ leB 4 stamp.toNat
def CD (addr stamp:Int) (p:List UInt8):List UInt8:=Ea addr stamp p ++ leB 4 (Fx (Ea addr stamp p))
def WD (addr stamp:Int) (p:List UInt8):Prop:=0<=addr/\addr<=65535/\0<=stamp/\stamp<=4294967295/\p.length<=96

theorem TK (addr stamp:Int) (v:Value) (p:List UInt8) (w:World) (Mi:Ms) (h:SlR w Mi v p) (hok:WD addr stamp p) :
  Calls Tryz.prog 73 #[.agg #[.int .i64 addr, .int .i64 stamp,v]] w fun e w'=>∃ r,e = .returned (.tuple #[r, .int .i64 0])/\OwR w' noM w.heap.size 5 r (CD addr stamp p)/\Below w.heap.size w w':=by
 obtain⟨a,c,rfl⟩:=h.form
 obtain⟨h1,h2,h3,h4,h5⟩:=hok
 have h1':¬addr<0:=by omega
 have h2':¬(65535:Int)<addr:=by omega
 have h3':¬stamp<0:=by omega
 have h4':¬(4294967295:Int)<stamp:=by omega
 have h5':¬(96:Int)<p.length:=by omega
 have hbA:=(Below.refl w.heap.size w).alloc (Nat.le_refl _) (.cells #[.int .i64 addr, .int .i64 stamp, .slice a p.length c] 96)
 have HB:=Lib.hid hbA
 have HQ:=Lib.hid (Blk.new w 96 #[.int .i64 addr, .int .i64 stamp, .slice a p.length c])
 have hp1:=Lib.hid (Oz _ p (w.alloc (.cells #[.int .i64 addr, .int .i64 stamp, .slice a p.length c] 96)) noM noM (h.bare.mono (Keep.below hbA)) (by omega))
 obtain⟨X1,hX1⟩:∃ X,X=UInt8.ofNat p.length::p:=⟨_,rfl⟩
 rw [<-hX1] at hp1
 have hl1:X1.length<=97:=by rw [hX1];simp;omega
 have HX1:=Lib.hid hX1
 clear hX1 hbA h
 go_enter Tryz.func73,Tryz.ntmps73
 go_wp2_with fail
 ((with_reducible refine hp1.out.mono ?_);rintro e w1 ⟨r1,rfl,ho1,hB1⟩)
 have HB1:=Lib.hid (HB.out.trans (hB1.mono HB.out.size))
 have HQ1:=Lib.hid (HQ.out.below hB1)
 have hp2:=Lib.hid (I8 r1 X1 addr 2 w1 noM noM (ho1.sl (fun _ _ h=>h)) (.inr (.inl rfl)) (by omega) h1 (by show addr<65536;omega))
 obtain⟨X2,hX2⟩:∃ X,X=X1 ++ leB (Int.toNat 2) addr.toNat:=⟨_,rfl⟩
 rw [<-hX2] at hp2
 have hl2:X2.length<=99:=by rw [hX2,Ae,leB_len];show _+2<=_;omega
 have HX2:=Lib.hid hX2
 clear hX2 hB1 hp1 ho1 HB HQ
 obtain⟨q1,q2,q3⟩:=HQ1.out.all
 go_wp2_with fail
 clear q1 q2 q3
 ((with_reducible refine hp2.out.mono ?_);rintro e w2 ⟨r2,rfl,ho2,hB2⟩)
 have HB2:=Lib.hid (HB1.out.trans (hB2.mono HB1.out.size))
 have HQ2:=Lib.hid (HQ1.out.below hB2)
 have hp3:=Lib.hid (I8 r2 X2 stamp 4 w2 noM noM (ho2.sl (fun _ _ h=>h)) (.inr (.inr rfl)) (by omega) h3 (by show stamp<4294967296;omega))
 obtain⟨X3,hX3⟩:∃ X,X=X2 ++ leB (Int.toNat 4) stamp.toNat:=⟨_,rfl⟩
 rw [<-hX3] at hp3
 have hl3:X3.length<=103:=by rw [hX3,Ae,leB_len];show _+4<=_;omega
 have HX3:=Lib.hid hX3
 clear hX3 hB2 hp2 ho2 HB1 HQ1
 obtain⟨q1,q2,q3⟩:=HQ2.out.all
 go_wp2_with fail
 clear q1 q2 q3
 ((with_reducible refine hp3.out.mono ?_);rintro e w3 ⟨r3,rfl,ho3,hB3⟩)
 have HB3:=Lib.hid (HB2.out.trans (hB3.mono HB2.out.size))
 have hsm:=Lib.hid (LN r3 X3 w3 noM (ho3.sl (fun _ _ h=>h)))
 have hsl:=Kl X3
 have hp4:=Lib.hid (I8 r3 X3 (Fx X3:Nat) 4 w3 noM noM (ho3.sl (fun _ _ h=>h)) (.inr (.inr rfl)) (by omega) (by omega) (by show ((Fx X3:Nat):Int)<4294967296;omega))
 clear hB3 hp3 ho3 HB2 HQ2 hsl
 go_wp2_with fail
 ((with_reducible refine hsm.out.mono ?_);rintro e w4 ⟨rfl,rfl⟩)
 go_wp2_with fail
 ((with_reducible refine hp4.out.mono ?_);rintro e w5 ⟨r5,rfl,ho5,hB5⟩)
 have HX:=Lib.hid (And.intro (ho5.mono_base (base':=w.heap.size) HB3.out.size) (HB3.out.trans (hB5.mono HB3.out.size)))
 clear ho5 hB5 hp4
 go_wp2
 go_ret2
 refine⟨_,rfl,?_,HX.out.2⟩
 have hf:=HX.out.1
 rw [HX3.out,HX2.out,HX1.out] at hf
 exact hf
end Go.Proofs.YtldngmdpiifamaaGreatDoor
end
section
namespace Go.Proofs.YtldngmdpiifamaaGreatDoor
open Go.RowKit
def Gh (g:Geo) (copy slot:Int):Bool:=BP copy 0 1&&BP slot 0 (g.sl - 1)
def AN (g:Geo) (copy slot:Int):Int:=g.an+copy*g.sl+slot
def C6 (g:Geo) (r:Rc) (copy slot:Int):List UInt8:=CD (AN g copy slot) r.seq (D6 r)
theorem Gx {g:Geo} {copy slot:Int} (hg:AS g=true) (hl:Gh g copy slot=true):0<=AN g copy slot/\AN g copy slot<=65535:=by
 obtain⟨-, -, -,hs,ha⟩:=Am.1 hg
 simp only [Gh,Bool.and_eq_true,AI] at hl
 unfold AN
 rcases(show copy=0\/copy=1 by omega) with rfl | rfl <;> omega
theorem Ng {g:Geo} {r:Rc} (h:DH g r=true):0<=r.seq/\r.seq<=4294967295:=by
 rcases(EI h).2 with h' | h' | h' <;> omega
def zeroC:Rc:=⟨0,0,0,0,0,⟨0,0, []⟩⟩
def DK (g:Geo) (b:List UInt8):Int:=if AS g=false then 1 else if (C4 g b).isSome then 0 else 4
end Go.Proofs.YtldngmdpiifamaaGreatDoor
end
section
namespace Go.Proofs.YtldngmdpiifamaaGreatDoor.A
open Go.RowKit
def QN (x:AV) (H R:List AB) (k:AV->List AB->List AB->Prop):Prop:=
 match x with
 | .v u=>k (.v u) H R
 | .sl sz n get=>k (.sl sz n get) H R
 | .ow j n=>match hget H j with
  | some (.row t sz es)=>setK j .dead H fun H=>snocK R (.row t sz es) 0 fun i R=>k (.ow i n) H R
  | _=>False
 | _=>False
def openC:List AV->List AB->List AB->(List AV->List AB->List AB->Prop)->Prop
 | [],H,R,k=>k [] H R
 | x::l,H,R,k=>QN x H R fun x H R=>openC l H R fun l H R=>k (x::l) H R
def QM (x:AV) (H R:List AB) (k:AV->List AB->List AB->Prop):Prop:=
 match x with
 | .ag cs=>openC cs H R fun cs H R=>k (.ag cs) H R
 | x=>QN x H R k
def openL:List AV->List AB->List AB->(List AV->List AB->List AB->Prop)->Prop
 | [],H,R,k=>k [] H R
 | x::l,H,R,k=>QM x H R fun x H R=>openL l H R fun l H R=>k (x::l) H R
def QL (x:AV) (H:List AB) (k:AV->List AB->Prop):Prop:=
 match x with
 | .tp l=>openL l H [] fun l _ R=>k (.tp l) R
 | x=>QM x H [] fun x _ R=>k x R

section
variable {w0:Fl} {M0:Ms} {c cr:Ctx} {H R:List AB}
theorem HS.kill (h:HS w0 M0 c H) (k:Nat):HS w0 M0 c (H.set k .dead):=by
 have hget:∀ j y,(H.set k .dead)[j]? = some y->y.live=true->j≠k/\H[j]? = some y:=by
  intro j y hj hl
  by_cases hjk:j=k
  ·subst hjk
   by_cases hlt:j<H.length
   ·rw [List.getElem?_set_self hlt] at hj
    cases hj;cases hl
   ·rw [List.getElem?_eq_none (by simp;omega)] at hj;cases hj
  ·rw [List.getElem?_set_ne (Ne.symm hjk)] at hj
   exact⟨hjk,hj⟩
 refine⟨h.low,h.base,by simp [h.dom],h.foreign,h.lt,fun j y hj=>?_,fun j y g hj hl ho=>?_,fun i j y z g hi hj hly hlz hoi hoj=>?_⟩
 ·cases hy:y.live with
  | false=>cases y <;> simp [AB.live] at hy;trivial
  | true=>exact h.blk j y (hget j y hj hy).2
 ·exact h.own j y g (hget j y hj hl).2 hl ho
 ·exact h.dis i j y z g (hget i y hi hly).2 (hget j z hj hlz).2 hly hlz hoi hoj

structure OpenSt (w0:Fl) (M0:Ms) (c:Ctx) (H:List AB) (cr:Ctx) (R:List AB):Prop where
 hs:HS w0 M0 c H
 hr:HS w0 M0 cr R
 w:cr.w=c.w
 M:cr.M=c.M
 dis:∀ i k x y g,R[i]? = some x->H[k]? = some y->x.live=true->y.live=true->oB (cr.rho i)=some g->oB (c.rho k)=some g->False
 rows:∀ x∈R,∃ t sz es,x = .row t sz es
theorem OpenSt.ext (h:OpenSt w0 M0 c H cr R):Ext c.closed cr:=
 ⟨by simp [Ctx.closed,h.w],by simp [Ctx.closed,h.w],by simp [Ctx.closed,h.w],by simp [Ctx.closed,h.w],fun b _ hm=>⟨by rw [h.M];exact hm,by simp [Ctx.closed,h.w]⟩,Ag _,fun k hk=>absurd hk (Aj k),fun k hk=>absurd hk (Aj k),fun k _ hk=>absurd hk (Aj k)⟩
theorem OpenSt.take (h:OpenSt w0 M0 c H cr R) {j:Nat} {t:TypeId} {sz:Nat} {es:List (List AV)} (hj:H[j]? = some (.row t sz es)) :
  ∃ cr',OpenSt w0 M0 c (H.set j .dead) cr' (R ++ [.row t sz es])/\Ext cr cr'/\∀ n u,Rd (.ow j n) c u->Rd (.ow R.length n) cr' u:=by
 let cr':Ctx:={ cr with dom:=cr.dom+1,rho:=fun k=>if k=cr.dom then c.rho j else cr.rho k,len:=fun k=>if k=cr.dom then c.len j else cr.len k }
 have hrho:∀ k,k<cr.dom->cr'.rho k=cr.rho k:=fun k hk=>by simp only [cr'];rw [if_neg (by omega)]
 have hlen:∀ k,k<cr.dom->cr'.len k=cr.len k:=fun k hk=>by simp only [cr'];rw [if_neg (by omega)]
 have hrd:cr'.rho cr.dom=c.rho j:=by simp [cr']
 have hrl:cr'.len cr.dom=c.len j:=by simp [cr']
 have e:Ext cr cr':=⟨rfl,rfl,rfl,Nat.le_refl _,fun _ _ hm=>⟨hm,rfl⟩,Nat.le_succ _,fun k hk=>by rw [hlen k hk];exact Nat.le_refl _,fun k hk _=>hrho k hk,fun k g hk hg=>by rw [hrho k hk];exact hg⟩
 have hget:∀ k y,(R ++ [AB.row t sz es])[k]? = some y->(k<cr.dom/\R[k]? = some y)\/(k=cr.dom/\y = .row t sz es):=by
  intro k y hk
  rw [h.hr.dom]
  rcases Nat.lt_trichotomy k R.length with hlt | rfl | hgt
  ·rw [List.getElem?_append_left hlt] at hk;exact .inl ⟨hlt,hk⟩
  ·simp at hk;exact .inr ⟨rfl,hk.symm⟩
  ·rw [List.getElem?_eq_none (by simp;omega)] at hk;cases hk
 have hset:∀ k y,(H.set j .dead)[k]? = some y->y.live=true->k≠j/\H[k]? = some y:=by
  intro k y hk hl
  by_cases hjk:k=j
  ·subst hjk
   rw [List.getElem?_set_self (List.getElem?_eq_some_iff.1 hj).1] at hk
   cases hk;cases hl
  ·rw [List.getElem?_set_ne (Ne.symm hjk)] at hk
   exact⟨hjk,hk⟩
 have hcl:Ext c.closed cr'.closed:=⟨by simp [Ctx.closed,cr',h.w],by simp [Ctx.closed,cr',h.w],by simp [Ctx.closed,cr',h.w],by simp [Ctx.closed,cr',h.w],fun b _ hm=>⟨by simp only [Ctx.closed,cr'];rw [h.M];exact hm,by simp [Ctx.closed,cr',h.w]⟩,Ag _,fun k hk=>absurd hk (Aj k),fun k hk=>absurd hk (Aj k),fun k _ hk=>absurd hk (Aj k)⟩
 refine⟨cr',⟨h.hs.kill j,⟨h.hr.low,h.hr.base,by simp [cr',h.hr.dom],h.hr.foreign,h.hr.lt,fun k y hk=>?_,fun k y g hk hl ho=>?_,fun i k y z g hi hk hly hlz hoi hok=>?_⟩,h.w,h.M,fun i k x y g hi hk hlx hly hoi hok=>?_,fun x hx=>?_⟩,e,fun n u hu=>?_⟩
 ·rcases hget k y hk with ⟨hlt,hk'⟩ | ⟨rfl,rfl⟩
  ·exact BlkOk.ext e rfl hlt (hlen k hlt) (fun _ _ _=>rfl) (h.hr.blk k y hk')
  ·obtain⟨h1,h2,h3,xs,h4,h5,h6⟩:=h.hs.blk j _ hj
   refine⟨by rw [hrl];exact h1,h2,h3,xs,?_,RdL.ext _ hcl h5,h6⟩
   rw [hrd,show cr'.w=c.w from h.w,show cr'.base=c.base from h.hr.base.trans h.hs.base.symm]
   exact h4
 ·rcases hget k y hk with ⟨hlt,hk'⟩ | ⟨rfl,rfl⟩
  ·rw [hrho k hlt] at ho
   exact h.hr.own k y g hk' hl ho
  ·rw [hrd] at ho
   have:=h.hs.own j _ g hj rfl ho
   exact⟨by show cr.M g;rw [h.M];exact this.1,this.2⟩
 ·rcases hget i y hi with ⟨hlt,hi'⟩ | ⟨rfl,rfl⟩ <;> rcases hget k z hk with ⟨hlt2,hk'⟩ | ⟨rfl,rfl⟩
  ·rw [hrho i hlt] at hoi
   rw [hrho k hlt2] at hok
   exact h.hr.dis i k y z g hi' hk' hly hlz hoi hok
  ·rw [hrho i hlt] at hoi
   rw [hrd] at hok
   exact(h.dis i j y _ g hi' hj hly rfl hoi hok).elim
  ·rw [hrd] at hoi
   rw [hrho k hlt2] at hok
   exact(h.dis k j z _ g hk' hj hlz rfl hok hoi).elim
  ·rfl
 ·obtain⟨hkj,hk'⟩:=hset k y hk hly
  rcases hget i x hi with ⟨hlt,hi'⟩ | ⟨rfl,rfl⟩
  ·rw [hrho i hlt] at hoi
   exact h.dis i k x y g hi' hk' hlx hly hoi hok
  ·rw [hrd] at hoi
   exact hkj (h.hs.dis k j y _ g hk' hj hly rfl hok hoi)
 ·rcases Ax.1 hx with hx | hx
  ·exact h.rows x hx
  ·exact⟨t,sz,es,by simpa using hx⟩
 ·simp only [Rd] at hu |-
  obtain⟨_,q2,q3,q4⟩:=hu
  rw [<-h.hr.dom]
  exact⟨Nat.lt_succ_self _,by rw [hrl];exact q2,q3,by rw [hrl,hrd];exact q4⟩
theorem JP (h:OpenSt w0 M0 c H cr R) {x:AV} {u:Value} (hr:Rd x c u) {k:AV->List AB->List AB->Prop} (hk:QN x H R k) :
  ∃ x' H' cr' R',k x' H' R'/\OpenSt w0 M0 c H' cr' R'/\Ext cr cr'/\Rd x' cr' u:=by
 unfold QN at hk
 split at hk
 ·exact⟨_,H,cr,R,hk,h,Ext.refl _,by simpa [Rd] using hr⟩
 ·refine⟨_,H,cr,R,hk,h,Ext.refl _,Rd.ext _ h.ext ?_⟩
  simp only [Rd] at hr |-
  exact hr
 ·rename_i j n
  rw [hget_eq] at hk
  split at hk
  ·rename_i t sz es hj
   have hk:=snocK_iff (setK_iff hk)
   rw [Ap] at hk
   obtain⟨cr',q1,q2,q3⟩:=h.take hj
   exact⟨_,_,cr',_,hk,q1,q2,q3 n u hr⟩
  ·exact hk.elim
 ·exact hk.elim
theorem openC_sound:∀ {l:List AV} {H R:List AB} {cr:Ctx} (_:OpenSt w0 M0 c H cr R) {us:List Value} (_:RdL l c us) {k:List AV->List AB->List AB->Prop} (_:openC l H R k),
  ∃ l' H' cr' R',k l' H' R'/\OpenSt w0 M0 c H' cr' R'/\Ext cr cr'/\RdL l' cr' us
 | [],H,R,cr,h,us,hr,k,hk=>⟨[],H,cr,R,hk,h,Ext.refl _,by simp only [RdL] at hr |-;exact hr⟩
 | x::l,H,R,cr,h,us,hr,k,hk=>by
  simp only [RdL] at hr
  obtain⟨u,us,rfl,h1,h2⟩:=hr
  simp only [openC] at hk
  obtain⟨x',H1,c1,R1,q1,q2,q3,q4⟩:=JP h h1 hk
  obtain⟨l',H2,c2,R2,p1,p2,p3,p4⟩:=openC_sound q2 h2 q1
  exact⟨_,H2,c2,R2,p1,p2,q3.trans p3,by simp only [RdL];exact⟨u,us,rfl,Rd.ext _ p3 q4,p4⟩⟩
theorem JO (h:OpenSt w0 M0 c H cr R) {x:AV} {u:Value} (hr:Rd x c u) {k:AV->List AB->List AB->Prop} (hk:QM x H R k) :
  ∃ x' H' cr' R',k x' H' R'/\OpenSt w0 M0 c H' cr' R'/\Ext cr cr'/\Rd x' cr' u:=by
 unfold QM at hk
 split at hk
 ·simp only [Rd] at hr
  obtain⟨xs,rfl,hx⟩:=hr
  obtain⟨l',H2,c2,R2,p1,p2,p3,p4⟩:=openC_sound h hx hk
  exact⟨_,H2,c2,R2,p1,p2,p3,by simp only [Rd];exact⟨xs,rfl,p4⟩⟩
 ·exact JP h hr hk
theorem openL_sound:∀ {l:List AV} {H R:List AB} {cr:Ctx} (_:OpenSt w0 M0 c H cr R) {us:List Value} (_:RdL l c us) {k:List AV->List AB->List AB->Prop} (_:openL l H R k),
  ∃ l' H' cr' R',k l' H' R'/\OpenSt w0 M0 c H' cr' R'/\Ext cr cr'/\RdL l' cr' us
 | [],H,R,cr,h,us,hr,k,hk=>⟨[],H,cr,R,hk,h,Ext.refl _,by simp only [RdL] at hr |-;exact hr⟩
 | x::l,H,R,cr,h,us,hr,k,hk=>by
  simp only [RdL] at hr
  obtain⟨u,us,rfl,h1,h2⟩:=hr
  simp only [openL] at hk
  obtain⟨x',H1,c1,R1,q1,q2,q3,q4⟩:=JO h h1 hk
  obtain⟨l',H2,c2,R2,p1,p2,p3,p4⟩:=openL_sound q2 h2 q1
  exact⟨_,H2,c2,R2,p1,p2,q3.trans p3,by simp only [RdL];exact⟨u,us,rfl,Rd.ext _ p3 q4,p4⟩⟩
def XJ (c:Ctx):Ctx:={ c with dom:=0 }
theorem OpenSt.begin (h:HS w0 M0 c H):OpenSt w0 M0 c H (XJ c) []:=
 ⟨h,⟨h.low,h.base,rfl,h.foreign,h.lt,by simp,by simp,by simp⟩,rfl,rfl,by simp,by simp⟩
theorem O4 (h:HS w0 M0 c H) {x:AV} {u:Value} (hr:Rd x c u) {k:AV->List AB->Prop} (hk:QL x H k) :
  ∃ x' cr R,k x' R/\cr.w=c.w/\HS w0 M0 cr R/\Rd x' cr u/\∀ y∈R,∃ t sz es,y = .row t sz es:=by
 unfold QL at hk
 split at hk
 ·simp only [Rd] at hr
  obtain⟨xs,rfl,hx⟩:=hr
  obtain⟨l',H2,c2,R2,p1,p2,p3,p4⟩:=openL_sound (OpenSt.begin h) hx hk
  exact⟨_,c2,R2,p1,p2.w,p2.hr,by simp only [Rd];exact⟨xs,rfl,p4⟩,p2.rows⟩
 ·obtain⟨x',H2,c2,R2,p1,p2,p3,p4⟩:=JO (OpenSt.begin h) hr hk
  exact⟨_,c2,R2,p1,p2.w,p2.hr,p4,p2.rows⟩
end

structure FnO (P:Program) (f:FuncId) (args:List AV) (K:AV->List AB->Prop):Prop where
 go:Wa P f
 calls:∀ (c0:Ctx) (us:List Value) (hg:globOk c0.w),c0.dom=0->(∀ b,c0.M b->b<c0.w.heap.size)->RdL args c0 us->
  Calls P f us.toArray c0.w fun e w'=>∃ v r c' R,e = .returned v/\K r R/\c'.w=w'/\HS (Fl.all c0.w hg) c0.M c' R/\Rd r c' v/\∀ y∈R,∃ t sz es,y = .row t sz es
theorem FnO.mono {P:Program} {f:FuncId} {args:List AV} {K K':AV->List AB->Prop} (h:FnO P f args K) (hk:∀ r R,K r R->K' r R):FnO P f args K':=
 ⟨h.1,fun c0 us hg h1 h2 h3=>(h.2 c0 us hg h1 h2 h3).mono fun _ _ ⟨v,r,c',R,h4,h5,h6⟩=>⟨v,r,c',R,h4,hk _ _ h5,h6⟩⟩
def XF (T:Tys) (rs:List ResultVar) (K:AV->List AB->Prop):QA:=fun ex fr H=>match ex with
 | .exit _=>False
 | _=>H0 T rs fr H fun x=>QL x H K
theorem FnO.of {P : Program} {T : Tys} (hT : TOk P T) {f : FuncId} {fn : Func} {body : Code} {args : List AV} {K : AV → List AB → Prop} (hf : P.funcs[f]? = some fn) (hb : fn.body = some body) (hname : (fn.name == "runtime.NumGoroutine") = false) (hn : args.length ≤ fn.ntmps)
  (h:Ca P T fn.ntmps 0 body (XF T fn.results.toList K) (frOf 0 args) []):FnO P f args K:=by
 refine⟨⟨fn,hf,by rw [hb];rfl,hname⟩,fun c0 us hg hd hM hr=>?_⟩
 let ce:Ctx:={ c0 with base:=0 }
 have hce:Ext c0 ce:=⟨rfl,rfl,rfl,Nat.le_refl _,fun _ _ h=>⟨h,rfl⟩,Nat.le_refl _,fun _ _=>Nat.le_refl _,fun _ _ _=>rfl,fun _ _ _ h=>h⟩
 have hHS:HS (Fl.all c0.w hg) c0.M ce []:=⟨LowF.refl _ hg,rfl,hd,fun _ _=>Iff.rfl,hM,by simp,by simp,by simp⟩
 have hlen:=hr.length
 have hFR:FR (Fl.all c0.w hg) ce fn.ntmps (frOf 0 args) { tmps:=us.toArray ++ Array.replicate (fn.ntmps - us.toArray.size) undef,defers:= [] }:=by
  refine⟨by simp;omega,trivial,fun i=>?_⟩
  have:=G2 (c:=ce) (m:=fn.ntmps - us.length) (l:=args) (i:=0) (pre:= []) rfl (RdL.ext _ hce hr) i
  rw [Array.getD_eq_getD_getElem?]
  have e:(us.toArray ++ Array.replicate (fn.ntmps - us.toArray.size) undef)[i]? = ([] ++ us ++ List.replicate (fn.ntmps - us.length) undef)[i]? :=by
   have:(us.toArray ++ Array.replicate (fn.ntmps - us.toArray.size) undef)=([] ++ us ++ List.replicate (fn.ntmps - us.length) undef).toArray:=Array.ext' (by simp)
   rw [this];simp only [List.getElem?_toArray]
  rw [e]
  exact this
 have fin:∀ a w,DR (Fl.all c0.w hg) c0.M ce fn.ntmps (fun fr H=>H0 T fn.results.toList fr H fun x=>QL x H K) a w->∃ v,(results fn a.tmps).run P w = .ok v w/\∃ v' r c' R,Ending.returned v = .returned v'/\K r R/\c'.w=w/\HS (Fl.all c0.w hg) c0.M c' R/\Rd r c' v'/\∀ y∈R,∃ t sz es,y = .row t sz es:=by
  rintro a w ⟨c,fr,H,rfl,h1,h2,h3,h4⟩
  obtain⟨x,v,q1,q2,q3⟩:=Eg hT h2 h3 h1
  obtain⟨r,cr,R,p1,p2,p3,p4,p5⟩:=O4 h2 q2 q1
  exact⟨v,q3,v,r,cr,R,rfl,p1,p2,p3,p4,p5⟩
 refine DP hf hb trivial (Nat.le_refl _) fin ?_
 refine Bg (w0:=Fl.all c0.w hg) (M0:=c0.M) (ce:=ce) hT hd body _ _ ce _ [] _ (EJ rfl rfl fun _ _ _ h=>h) hHS hFR (Ext.refl _) h

mutual
def AV.shift (d:Nat):AV->AV
 | .ow k n=> .ow (k+d) n
 | .bp k o=> .bp (k+d) o
 | .ep k n i sz off=> .ep (k+d) n i sz off
 | .ag l=> .ag (AV.shiftL d l)
 | .tp l=> .tp (AV.shiftL d l)
 | .fn f l=> .fn f (AV.shiftL d l)
 | .ic f l=> .ic f (AV.shiftL d l)
 | .top=> .top
 | .v x=> .v x
 | .sl sz n get=> .sl sz n get
 | .rp cs=> .rp cs
def AV.shiftL (d:Nat):List AV->List AV
 | []=> []
 | x::l=>x.shift d::AV.shiftL d l
end
def Ctx.beside (c c':Ctx):Ctx:={ w:=c'.w,base:=c.base,M:=c'.M,dom:=c.dom+c'.dom,rho:=fun k=>if k<c.dom then c.rho k else c'.rho (k - c.dom),len:=fun k=>if k<c.dom then c.len k else c'.len (k - c.dom) }
theorem Ext.closedBeside (c c':Ctx):Ext c'.closed (c.beside c').closed:=⟨rfl,rfl,rfl,Nat.le_refl _,fun _ _ h=>⟨h,rfl⟩,Ag _,fun k hk=>absurd hk (Aj k),fun k hk=>absurd hk (Aj k),fun k _ hk=>absurd hk (Aj k)⟩
mutual
theorem Rd.shift:∀ (x:AV) {c c':Ctx} {u:Value},Rd x c' u->Rd (x.shift c.dom) (c.beside c') u
 | .top,_,_,_,_=>by simp [AV.shift,Rd]
 | .v _,_,_,_,h=>by simpa [AV.shift,Rd] using h
 | .sl sz n get,c,c',u,h=>by
  simp only [AV.shift,Rd] at h |-
  obtain⟨a,k,rfl,h1,h2,h3⟩:=h
  refine⟨a,k,rfl,h1,h2,h3.imp id ?_⟩
  rintro⟨b,off,rfl,hm,hb,hc⟩
  exact⟨b,off,rfl,hm,hb,fun i hi=>⟨(hc i hi).1,RdAt.ext (get i) (Ext.closedBeside c c') hb hm (hc i hi).2⟩⟩
 | .rp cs,c,c',u,h=>by
  simp only [AV.shift,Rd] at h |-
  obtain⟨b,off,rfl,hm,hb,hc⟩:=h
  exact⟨b,off,rfl,hm,hb,RdAt.ext cs (Ext.closedBeside c c') hb hm hc⟩
 | .bp k off,c,c',u,h=>by
  simp only [AV.shift,Rd] at h |-
  obtain⟨h1,g,h2,h3⟩:=h
  refine⟨by simp only [Ctx.beside];omega,g,?_,h3⟩
  simp only [Ctx.beside]
  rw [if_neg (by omega),CO]
  exact h2
 | .ow k n,c,c',u,h=>by
  simp only [AV.shift,Rd] at h |-
  obtain⟨h1,h2,h3,h4⟩:=h
  have e1:(c.beside c').len (k+c.dom)=c'.len k:=by simp only [Ctx.beside];rw [if_neg (by omega),CO]
  have e2:(c.beside c').rho (k+c.dom)=c'.rho k:=by simp only [Ctx.beside];rw [if_neg (by omega),CO]
  rw [e1,e2]
  exact⟨by simp only [Ctx.beside];omega,h2,h3,h4⟩
 | .ep k n i sz off,c,c',u,h=>by
  simp only [AV.shift,Rd] at h |-
  obtain⟨h1,h2,h3⟩:=h
  have e1:(c.beside c').len (k+c.dom)=c'.len k:=by simp only [Ctx.beside];rw [if_neg (by omega),CO]
  have e2:(c.beside c').rho (k+c.dom)=c'.rho k:=by simp only [Ctx.beside];rw [if_neg (by omega),CO]
  rw [e1,e2]
  exact⟨by simp only [Ctx.beside];omega,h2,h3⟩
 | .ag l,c,c',u,h=>by
  simp only [AV.shift,Rd] at h |-
  obtain⟨xs,rfl,h1⟩:=h
  exact⟨xs,rfl,RdL.shift l h1⟩
 | .tp l,c,c',u,h=>by
  simp only [AV.shift,Rd] at h |-
  obtain⟨xs,rfl,h1⟩:=h
  exact⟨xs,rfl,RdL.shift l h1⟩
 | .fn f l,c,c',u,h=>by
  simp only [AV.shift,Rd] at h |-
  obtain⟨xs,rfl,h1⟩:=h
  exact⟨xs,rfl,RdL.shift l h1⟩
 | .ic f l,c,c',u,h=>by
  simp only [AV.shift,Rd] at h |-
  obtain⟨xs,rfl,h1⟩:=h
  exact⟨xs,rfl,RdL.shift l h1⟩
theorem RdL.shift:∀ (l:List AV) {c c':Ctx} {us:List Value},RdL l c' us->RdL (AV.shiftL c.dom l) (c.beside c') us
 | [],_,_,_,h=>by simp only [AV.shiftL,RdL] at h |-;exact h
 | x::l,c,c',us,h=>by
  simp only [AV.shiftL,RdL] at h |-
  obtain⟨u,us,rfl,h1,h2⟩:=h
  exact⟨u,us,rfl,Rd.shift x h1,RdL.shift l h2⟩
end
theorem HS.beside {w0:Fl} {M0:Ms} {c c':Ctx} {H R:List AB} (h:HS w0 M0 c H) {hg:globOk c.w} (k:HS (Fl.all c.w hg) c.M c' R) (hR:∀ y∈R,∃ t sz es,y = .row t sz es) :
  HS w0 M0 (c.beside c') (H ++ R)/\Ext c (c.beside c'):=by
 have hsz:=h.low.size
 have e:Ext c (c.beside c'):=by
  refine⟨k.low.os,k.low.tape,k.low.output,k.low.size,fun b hb hm=>⟨fun hm'=>hm ((k.foreign b hb).1 hm'),k.low.block b hb⟩,Nat.le_add_right _ _,fun i hi=>?_,fun i hi _=>?_,fun i g hi hg=>?_⟩
  ·simp only [Ctx.beside];rw [if_pos hi];exact Nat.le_refl _
  ·simp only [Ctx.beside];rw [if_pos hi]
  ·simp only [Ctx.beside];rw [if_pos hi];exact hg
 have hrho:∀ i,i<c.dom->(c.beside c').rho i=c.rho i:=fun i hi=>by simp only [Ctx.beside];rw [if_pos hi]
 have hrho2:∀ i,¬i<c.dom->(c.beside c').rho i=c'.rho (i - c.dom):=fun i hi=>by simp only [Ctx.beside];rw [if_neg hi]
 have hget:∀ i y,(H ++ R)[i]? = some y->(i<c.dom/\H[i]? = some y)\/(¬i<c.dom/\R[i - c.dom]? = some y):=by
  intro i y hi
  rw [h.dom]
  by_cases hlt:i<H.length
  ·rw [List.getElem?_append_left hlt] at hi;exact .inl ⟨hlt,hi⟩
  ·rw [List.getElem?_append_right (by omega)] at hi;exact .inr ⟨hlt,hi⟩
 refine⟨⟨h.low.trans k.low.below,h.base,by simp [Ctx.beside,h.dom,k.dom],fun b hb=>?_,k.lt,fun i y hi=>?_,fun i y g hi hl ho=>?_,fun i j y z g hi hj hly hlz hoi hoj=>?_⟩,e⟩
 ·exact(k.foreign b (Ak (w0.lt b hb) hsz)).trans (h.foreign b hb)
 ·rcases hget i y hi with ⟨hlt,hi'⟩ | ⟨hge,hi'⟩
  ·exact BlkOk.ext e rfl hlt (by simp only [Ctx.beside];rw [if_pos hlt]) (fun g hl ho=>k.low.block g (h.sub hi' hl ho)) (h.blk i y hi')
  ·obtain⟨t,sz,es,rfl⟩:=hR y (List.mem_of_getElem? hi')
   obtain⟨h1,h2,h3,xs,h4,h5,h6⟩:=k.blk _ _ hi'
   refine⟨by simp only [Ctx.beside];rw [if_neg hge];exact h1,h2,h3,xs,?_,RdL.ext _ (Ext.closedBeside c c') h5,h6⟩
   rw [hrho2 i hge]
   refine⟨h4.1,h4.2.imp id ?_⟩
   rintro⟨g,cap,cur,q1,q2,q3⟩
   refine⟨g,cap,cur,q1,?_,q3⟩
   show c.base<=g
   rw [h.base];exact Ag _
 ·rcases hget i y hi with ⟨hlt,hi'⟩ | ⟨hge,hi'⟩
  ·rw [hrho i hlt] at ho
   have:=h.own i y g hi' hl ho
   exact⟨(k.foreign g (h.lt g this.1)).2 this.1,this.2⟩
  ·rw [hrho2 i hge] at ho
   have:=k.own _ y g hi' hl ho
   exact⟨this.1,fun ho=>this.2 (Ak (w0.lt g ho) hsz)⟩
 ·rcases hget i y hi with ⟨hlt,hi'⟩ | ⟨hge,hi'⟩ <;> rcases hget j z hj with ⟨hlt2,hj'⟩ | ⟨hge2,hj'⟩
  ·rw [hrho i hlt] at hoi
   rw [hrho j hlt2] at hoj
   exact h.dis i j y z g hi' hj' hly hlz hoi hoj
  ·rw [hrho i hlt] at hoi
   rw [hrho2 j hge2] at hoj
   have h1:=h.sub hi' hly hoi
   exact((k.own _ z g hj' hlz hoj).2 h1).elim
  ·rw [hrho2 i hge] at hoi
   rw [hrho j hlt2] at hoj
   have h1:=h.sub hj' hlz hoj
   exact((k.own _ y g hi' hly hoi).2 h1).elim
  ·rw [hrho2 i hge] at hoi
   rw [hrho2 j hge2] at hoj
   have:=k.dis _ _ y z g hi' hj' hly hlz hoi hoj
   omega
def appK:List AB->List AB->Nat->(Nat->List AB->Prop)->Prop
 | [],R,n,k=>k n R
 | y::r,R,n,k=>appK r R (n+1) fun m l=>k m (y::l)
theorem appK_iff:∀ {H R:List AB} {n:Nat} {k:Nat->List AB->Prop},appK H R n k->k (n+H.length) (H ++ R)
 | [],_,_,_,h=>h
 | y::r,R,n,k,h=>by
  simp only [appK] at h
  have:=appK_iff h
  rw [Ai,show n+(r.length+1)=n+1+r.length by omega]
  exact this
theorem FnO.call {P:Program} {f:FuncId} {args:List AV} {H:List AB} {K:AV->List AB->Prop} {q:Bool} {k:AV->List AB->Prop} (h:FnO P f args K) (hc:AV.ltL args 0=true) (hk:∀ r R,K r R->appK H R 0 fun d H=>D5 (r.shift d) fun r=>k r H):ACalls P q f args H k:=by
 refine⟨h.go,fun w0 M0 c us hs0 hr=>?_⟩
 have hcut:Cut c c.closed:=⟨Ext.refl _,fun k hk=>absurd hk (Aj k)⟩
 refine(h.calls c.closed us hs0.glob rfl hs0.lt (RdL.cut args hcut hc hr)).mono ?_
 rintro e w' ⟨v,r,c',R,rfl,q1,rfl,q2,q3,q4⟩
 obtain⟨p1,p2⟩:=hs0.beside (c':=c') q2 q4
 have h1:=BA (appK_iff (hk r R q1))
 rw [Ap,<-hs0.dom] at h1
 exact⟨v,c.beside c',_,_,rfl,rfl,h1,p1,p2,Rd.shift r q3,fun _=>q2.low.below.old⟩
theorem FnO.fn1 {P:Program} {f:FuncId} {args:List AV} {t:TypeId} {sz n:Nat} {es:List (List AV)} (h:FnO P f args fun r R=>r = .ow 0 n/\R=[.row t sz es]/\n=es.length):Fn P f args fun r=>r = .sl sz n fun i=>es.getD i []:=by
 refine⟨h.go,fun c0 us hd hM hg hr=>(h.calls c0 us hg hd hM hr).mono ?_⟩
 rintro e w' ⟨v,r,c',R,rfl,⟨rfl,rfl,rfl⟩,rfl,q2,q3,q4⟩
 obtain⟨c2,e1,e2,e3,e4⟩:=q2.freeze (k:=0) rfl
 refine⟨v,_,rfl,rfl,q2.low.below,?_⟩
 have hE:Ext c2.closed { c0 with w:=c'.w }:=by
  refine⟨by simp [Ctx.closed,e1],by simp [Ctx.closed,e1],by simp [Ctx.closed,e1],by simp [Ctx.closed,e1],fun b hb hm=>⟨fun h=>hm ?_,by simp [Ctx.closed,e1]⟩,Ag _,fun k hk=>absurd hk (Aj k),fun k hk=>absurd hk (Aj k),fun k _ hk=>absurd hk (Aj k)⟩
  exact(e2.foreign b (hM b h)).2 h
 refine Rd.ext _ hE ?_
 have:=e4 v q3
 simp only [Rd] at this |-
 exact this
def ixm:List Nat->Nat->Nat->Nat
 | [],d,i=>d+i
 | x::_,_,0=>x
 | _::r,d,i+1=>ixm r d i
theorem ixm_or:∀ (s:List Nat) (d i:Nat),(i<s.length/\ixm s d i∈s)\/(s.length<=i/\ixm s d i=d+(i - s.length))
 | [],d,i=> .inr ⟨Ag _,by simp [ixm]⟩
 | x::r,d,0=> .inl ⟨by simp,by simp [ixm]⟩
 | x::r,d,i+1=>by
  rcases ixm_or r d i with ⟨h1,h2⟩ | ⟨h1,h2⟩
  ·exact .inl ⟨by simp;omega,by simp only [ixm];exact A9 _ h2⟩
  ·exact .inr ⟨by simp;omega,by simp only [ixm,h2,Ai];omega⟩
theorem ixm_inj:∀ {s:List Nat} {d i j:Nat},s.Nodup->(∀ x∈s,x<d)->ixm s d i=ixm s d j->i=j
 | [],d,i,j,_,_,h=>by simp only [ixm] at h;omega
 | x::r,d,0,0,_,_,_=>rfl
 | x::r,d,0,j+1,hn,hb,h=>by
  simp only [ixm] at h
  have hx:=hb x (by simp)
  rcases ixm_or r d j with ⟨_,h2⟩ | ⟨_,h2⟩
  ·rw [<-h] at h2;exact((List.nodup_cons.1 hn).1 h2).elim
  ·omega
 | x::r,d,i+1,0,hn,hb,h=>by
  simp only [ixm] at h
  have hx:=hb x (by simp)
  rcases ixm_or r d i with ⟨_,h2⟩ | ⟨_,h2⟩
  ·rw [h] at h2;exact((List.nodup_cons.1 hn).1 h2).elim
  ·omega
 | x::r,d,i+1,j+1,hn,hb,h=>by
  simp only [ixm] at h
  rw [ixm_inj (List.nodup_cons.1 hn).2 (fun y hy=>hb y (A9 _ hy)) h]
def GS (f:Nat->Nat):List Nat->List AB->List AB->List AB
 | [],R,H=>H ++ R.map (AB.ren f)
 | x::s,y::R,H=>GS f s R (H.set x (y.ren f))
 | _::_, [],H=>H
theorem KT (f:Nat->Nat):∀ {s:List Nat} {R H:List AB},s.length<=R.length->(GS f s R H).length=H.length+(R.length - s.length)
 | [],R,H,_=>by simp [GS]
 | x::s,y::R,H,h=>by simp only [GS];rw [KT f (by simpa using h)];simp
 | _::_, [],_,h=>by simp at h
theorem F6 (f:Nat->Nat):∀ {s:List Nat} {R H:List AB},s.length<=R.length->∀ {k:Nat} {y:AB},(GS f s R H)[k]? = some y->
  (∃ j x,R[j]? = some x/\y=x.ren f/\k=ixm s H.length j)\/(k<H.length/\k ∉ s/\H[k]? = some y)
 | [],R,H,_,k,y,h=>by
  simp only [GS] at h
  by_cases hk:k<H.length
  ·rw [List.getElem?_append_left hk] at h
   exact .inr ⟨hk,by simp,h⟩
  ·rw [List.getElem?_append_right (by omega),List.getElem?_map] at h
   cases hx:R[k - H.length]? with
   | none=>rw [hx] at h;simp at h
   | some x=>
    rw [hx] at h
    simp at h
    exact .inl ⟨k - H.length,x,hx,h.symm,by simp only [ixm];omega⟩
 | x::s,y0::R,H,hl,k,y,h=>by
  simp only [GS] at h
  rcases F6 f (by simpa using hl) h with ⟨j,z,h1,h2,h3⟩ | ⟨h1,h2,h3⟩
  ·exact .inl ⟨j+1,z,by simpa using h1,h2,by simpa [ixm] using h3⟩
  ·rw [Bl] at h1
   by_cases hkx:k=x
   ·subst hkx
    rw [List.getElem?_set_self h1] at h3
    cases h3
    exact .inl ⟨0,y0,rfl,rfl,rfl⟩
   ·rw [List.getElem?_set_ne (Ne.symm hkx)] at h3
    exact .inr ⟨h1,by simp only [Bq,not_or];exact⟨hkx,h2⟩,h3⟩
 | _::_, [],_,hl,_,_,_=>by simp at hl
def T6 (f:Nat->Nat):List Nat->List AB->List AB->(List AB->Prop)->Prop
 | [],R,H,k=>appK H (R.map (AB.ren f)) 0 fun _ H=>k H
 | x::s,y::R,H,k=>setK x (y.ren f) H fun H=>T6 f s R H k
 | _::_, [],_,_=>False
theorem Ou {f:Nat->Nat}:∀ {s:List Nat} {R H:List AB} {k:List AB->Prop},T6 f s R H k->s.length<=R.length/\k (GS f s R H)
 | [],R,H,k,h=>⟨Ag _,appK_iff (k:=fun _ H=>k H) h⟩
 | x::s,y::R,H,k,h=>by
  simp only [T6] at h
  obtain⟨h1,h2⟩:=Ou (setK_iff h)
  exact⟨by simpa using h1,h2⟩
 | _::_, [],_,_,h=>h.elim
def cntK:List AB->Nat->(Nat->Prop)->Prop
 | [],n,k=>k n
 | _::r,n,k=>cntK r (n+1) k
theorem cntK_iff:∀ {H:List AB} {n:Nat} {k:Nat->Prop},cntK H n k->k (n+H.length)
 | [],_,_,h=>h
 | _::r,n,k,h=>by
  have:=cntK_iff (H:=r) h
  rw [Ai,show n+(r.length+1)=n+1+r.length by omega]
  exact this
def SelOk (H:List AB) (f:Nat->Nat):List AB->Nat->Prop
 | [],_=>True
 | x::r,i=>hget H (f i)=some (x.ren f)/\SelOk H f r (i+1)
theorem SelOk.get {H:List AB} {f:Nat->Nat}:∀ {R:List AB} {i j:Nat} {x:AB},SelOk H f R i->R[j]? = some x->H[f (i+j)]? = some (x.ren f)
 | [],_,_,_,_,h=>by simp at h
 | y::r,i,0,x,h,hx=>by
  simp at hx;subst hx
  have:=h.1
  rwa [hget_eq] at this
 | y::r,i,j+1,x,h,hx=>by
  have:=SelOk.get (j:=j) h.2 (by simpa using hx)
  rwa [show i+1+j=i+(j+1) by omega] at this

open Classical in
noncomputable def Ctx.after (c c':Ctx) (f:Nat->Nat) (n:Nat):Ctx:=
  { w:=c'.w,base:=c.base,M:=c'.M,dom:=n,
    rho:=fun k=>if h:∃ i,i<c'.dom/\f i=k then c'.rho h.choose else c.rho k,
    len:=fun k=>if h:∃ i,i<c'.dom/\f i=k then c'.len h.choose else c.len k }
def noO:List AB->Bool
 | []=>true
 | .rowo _ _ _ _::_=>false
 | _::r=>noO r
theorem noO_get:∀ {H:List AB},noO H=true->∀ {k:Nat} {t:TypeId} {sz:Nat} {es:List (List AV)} {m:Nat},H[k]? = some (.rowo t sz es m)->False
 | [],_,k,_,_,_,_,h=>by simp at h
 | x::r,h,k,t,sz,es,m,hk=>by
  cases k with
  | zero=>simp at hk;subst hk;simp [noO] at h
  | succ k=>
   simp at hk
   refine noO_get (H:=r) ?_ hk
   cases x <;> simp only [noO] at h <;> first | exact h | cases h
theorem ACalls.frame {P:Program} {q:Bool} {f:FuncId} {args:List AV} {H:List AB} {k:AV->List AB->Prop} (s:List Nat) {args':List AV} {Hin:List AB} {K:AV->List AB->Prop} (h:ACalls P q f args' Hin K)
  (ha:args=AV.renL (ixm s H.length) args') (hlt:AV.ltL args' Hin.length=true) (hin:Nh Hin.length Hin=true) (hs:s.length=Hin.length) (hn:s.Nodup) (hb:∀ x∈s,x<H.length) (hsel:SelOk H (ixm s H.length) Hin 0)
  (hk:∀ r R,K r R->cntK H 0 fun d=>T6 (ixm s d) s R H fun H=>D5 (r.ren (ixm s d)) fun r=>k r H) (hnr:noO Hin=true:=by rfl):ACalls P q f args H k:=by
 refine⟨h.go,fun w0 M0 c us hs0 hr=>?_⟩
 let g:=ixm s H.length
 have hginj:∀ {i j:Nat},g i=g j->i=j:=fun e=>ixm_inj hn hb e
 have hget0:∀ {i:Nat} {x:AB},Hin[i]? = some x->H[g i]? = some (x.ren g):=fun hx=>by have:=hsel.get hx;rwa [Ap] at this
 have hlow:∀ {i:Nat},i<Hin.length->g i∈s:=fun hi=>by
  rcases ixm_or s H.length _ with ⟨_,h2⟩ | ⟨h1,_⟩
  ·exact h2
  ·omega
 have hhigh:∀ {i:Nat},g i<H.length->i<Hin.length:=fun {i} hi=>by
  rcases ixm_or s H.length i with ⟨h1,_⟩ | ⟨h1,h2⟩
  ·omega
  ·simp only [g] at hi;omega
 let cl:Ctx:={ w:=c.w,base:=c.base,M:=c.M,dom:=Hin.length,rho:=fun i=>c.rho (g i),len:=fun i=>c.len (g i) }
 let w1:Fl:=⟨c.w,fun b=>b<c.w.heap.size/\∀ i x,Hin[i]? = some x->x.live=true->oB (c.rho (g i))≠some b,fun _ h=>h.1,fun w' h1 h2=>w0.gl w' (Bc hs0.low.size h1) fun b hb'=>(h2 b ⟨Ak (w0.lt b hb') hs0.low.size,fun i x hx hl ho=>(hs0.own _ _ _ (hget0 hx) (by rw [AB.ren_live];exact hl) ho).2 hb'⟩).trans (hs0.low.block b hb'),True⟩
 have hcl:Ext c.closed cl.closed:=⟨rfl,rfl,rfl,Nat.le_refl _,fun _ _ h=>⟨h,rfl⟩,Ag _,fun k hk=>absurd hk (Aj k),fun k hk=>absurd hk (Aj k),fun k _ hk=>absurd hk (Aj k)⟩
 have hun:∀ k,k<cl.dom->cl.rho k=c.rho (g k)/\cl.len k=c.len (g k):=fun _ _=>⟨rfl,rfl⟩
 have hown:∀ {i:Nat} {x:AB} {b:Nat},Hin[i]? = some x->x.live=true->oB (c.rho (g i))=some b->c.M b/\¬w0.old b:=fun hx hl ho=>hs0.own _ _ _ (hget0 hx) (by rw [AB.ren_live];exact hl) ho
 have hHS:HS w1 c.M cl Hin:=by
  refine⟨⟨rfl,rfl,rfl,Nat.le_refl _,fun _ _=>rfl⟩,hs0.base,rfl,fun _ _=>Iff.rfl,hs0.lt,fun i x hx=>?_,fun i x b hx hl ho=>⟨(hown hx hl ho).1,fun hold=>hold.2 i x hx hl ho⟩,fun i j x y b hi hj hx hy ho ho'=>?_⟩
  ·have hbk:=hs0.blk _ _ (hget0 hx)
   cases x with
   | dead=>trivial
   | box t cs=>
    obtain⟨b,xs,h1,h2,h3,h4⟩:=hbk
    exact⟨b,xs,h1,h2,RdL.unren hun hcl cs (Ht hin i t cs hx) h3,h4⟩
   | iter s pos=>
    obtain⟨b,h1,h2⟩:=hbk
    exact⟨b,h1,h2⟩
   | row t sz es=>
    obtain⟨h1,h2,h3,xs,h4,h5,h6⟩:=hbk
    exact⟨h1,h2,h3,xs,h4,RdL.ext _ hcl h5,h6⟩
   | rowo t sz es m=>
    obtain⟨h1,h2,h3,h3',xs,h4,h5,h6⟩:=hbk
    exact(noO_get hnr hx).elim
  ·exact hginj (hs0.dis _ _ _ _ b (hget0 hi) (hget0 hj) (by rw [AB.ren_live];exact hx) (by rw [AB.ren_live];exact hy) ho ho')
 refine(h.calls w1 c.M cl us hHS (RdL.unren hun hcl args' hlt (by rw [<-ha];exact hr))).mono ?_
 rintro e w' ⟨v,c',r,R,rfl,rfl,q1,q2,q3,q4,q5⟩
 have h1:=cntK_iff (hk r R q1)
 rw [Ap] at h1
 obtain⟨hlen,h1⟩:=Ou h1
 have h1:=BA h1
 have hdom:c'.dom=R.length:=q2.dom
 have hmR:Hin.length<=R.length:=by omega
 let n:=H.length+(R.length - s.length)
 have hgn:∀ {i:Nat},i<R.length->g i<n:=fun {i} hi=>by
  rcases ixm_or s H.length i with ⟨_,h2⟩ | ⟨h2,h3⟩
  ·have:=hb _ h2;simp only [g,n];omega
  ·simp only [g,n,h3];omega
 let cj:=c.after c' g n
 have hrho:∀ {i:Nat},i<c'.dom->cj.rho (g i)=c'.rho i/\cj.len (g i)=c'.len i:=fun {i} hi=>by
  have hex:∃ j,j<c'.dom/\g j=g i:=⟨i,hi,rfl⟩
  have:=hginj hex.choose_spec.2
  simp only [cj,Ctx.after]
  rw [dif_pos hex,dif_pos hex,this]
  exact⟨rfl,rfl⟩
 have hrho2:∀ {k:Nat},k<H.length->k ∉ s->cj.rho k=c.rho k/\cj.len k=c.len k:=fun {k} hk hks=>by
  have hex:¬∃ j,j<c'.dom/\g j=k:=by
   rintro⟨j,_,rfl⟩
   exact hks (hlow (hhigh hk))
  simp only [cj,Ctx.after]
  rw [dif_neg hex,dif_neg hex]
  exact⟨rfl,rfl⟩
 have hmem:∀ {k:Nat},k∈s->∃ i,i<Hin.length/\g i=k:=by
  have:∀ (s:List Nat) (d k:Nat),k∈s->∃ i,i<s.length/\ixm s d i=k:=by
   intro s d k hk
   induction s with
   | nil=>simp at hk
   | cons x r ih=>
    rcases Bq.1 hk with rfl | hk
    ·exact⟨0,by simp,rfl⟩
    ·obtain⟨i,h1,h2⟩:=ih hk
     exact⟨i+1,by simp;omega,h2⟩
  intro k hk
  obtain⟨i,h1,h2⟩:=this s H.length k hk
  exact⟨i,by omega,h2⟩
 have hold:∀ {b:Nat},w0.old b->w1.old b:=fun {b} hb'=>⟨Ak (w0.lt b hb') hs0.low.size,fun i x hx hl ho=>(hown hx hl ho).2 hb'⟩
 have hold2:∀ {b:Nat},b<c.w.heap.size->¬c.M b->w1.old b:=fun {b} hb' hm=>⟨hb',fun i x hx hl ho=>hm (hown hx hl ho).1⟩
 have hold3:∀ {k:Nat} {y:AB} {b:Nat},k ∉ s->H[k]? = some y->y.live=true->oB (c.rho k)=some b->w1.old b:=fun {k y b} hks hy hl ho=>
  ⟨hs0.sub hy hl ho,fun i x hx hl' ho'=>by
   have:=hs0.dis k (g i) y _ b hy (hget0 hx) hl (by rw [AB.ren_live];exact hl') ho ho'
   exact hks (this ▸ hlow (List.getElem?_eq_some_iff.1 hx).1)⟩
 have hcj:Ext c'.closed cj.closed:=⟨rfl,rfl,rfl,Nat.le_refl _,fun _ _ h=>⟨h,rfl⟩,Ag _,fun k hk=>absurd hk (Aj k),fun k hk=>absurd hk (Aj k),fun k _ hk=>absurd hk (Aj k)⟩
 have hren:∀ k,k<c'.dom->g k<cj.dom/\cj.rho (g k)=c'.rho k/\cj.len (g k)=c'.len k:=fun k hk=>⟨hgn (by omega),hrho hk⟩
 have hE:Ext c cj:=by
  refine⟨q2.low.os,q2.low.tape,q2.low.output,q2.low.size,fun b hb' hm=>?_,?_,fun k hk=>?_,fun k hk hl=>?_,fun k b hk hg=>?_⟩
  ·have ho:=hold2 hb' hm
   exact⟨fun hm'=>hm ((q2.foreign b ho).1 hm'),q2.low.block b ho⟩
  ·show c.dom<=n;rw [hs0.dom];exact Nat.le_add_right _ _
  ·rw [hs0.dom] at hk
   by_cases hks:k∈s
   ·obtain⟨i,hi,rfl⟩:=hmem hks
    rw [(hrho (by omega:i<c'.dom)).2]
    exact q3.len i hi
   ·rw [(hrho2 hk hks).2];exact Nat.le_refl _
  ·rw [hs0.dom] at hk
   by_cases hks:k∈s
   ·obtain⟨i,hi,rfl⟩:=hmem hks
    rw [(hrho (by omega:i<c'.dom)).2] at hl
    rw [(hrho (by omega:i<c'.dom)).1]
    exact q3.rho i hi hl
   ·exact(hrho2 hk hks).1
  ·rw [hs0.dom] at hk
   by_cases hks:k∈s
   ·obtain⟨i,hi,rfl⟩:=hmem hks
    rw [(hrho (by omega:i<c'.dom)).1]
    exact q3.box i b hi hg
   ·rw [(hrho2 hk hks).1];exact hg
 refine⟨v,cj,r.ren g,_,rfl,rfl,h1,?_,hE,Rd.ren hren hcj r q4,q5⟩
 have hdj:∀ {j:Nat} {x:AB},R[j]? = some x->j<c'.dom:=fun hx=>by rw [hdom];exact(List.getElem?_eq_some_iff.1 hx).1
 refine⟨⟨q2.low.os.trans hs0.low.os,q2.low.tape.trans hs0.low.tape,q2.low.output.trans hs0.low.output,Bc hs0.low.size q2.low.size,fun b hb'=>(q2.low.block b (hold hb')).trans (hs0.low.block b hb')⟩,hs0.base,(KT _ hlen).symm,fun b hb'=>(q2.foreign b (hold hb')).trans (hs0.foreign b hb'),q2.lt,fun k y hy=>?_,fun k y b hy hl ho=>?_,fun i k y z b hi hk' hy hz hoi hok=>?_⟩
 ·rcases F6 _ hlen hy with ⟨j,x,h2,rfl,rfl⟩ | ⟨h2,h3,h4⟩
  ·have hbk:=q2.blk j x h2
   have hj:=hrho (hdj h2)
   cases x with
   | dead=>trivial
   | box t cs=>
    obtain⟨b,xs,h5,h6,h7,h8⟩:=hbk
    exact⟨b,xs,hj.1.trans h5,h6,RdL.ren hren hcj cs h7,h8⟩
   | iter s pos=>
    obtain⟨b,h5,h6⟩:=hbk
    exact⟨b,hj.1.trans h5,h6⟩
   | row t sz es=>
    obtain⟨h5,h6,h7,xs,h8,h9,h10⟩:=hbk
    refine⟨hj.2.trans h5,h6,h7,xs,?_,RdL.ext _ hcj h9,h10⟩
    have eb:cj.base=c'.base:=hs0.base.trans q2.base.symm
    show c'.w.ownsRow cj.base t sz (cj.rho (g j)) es.length xs
    rw [hj.1,eb]
    exact h8
   | rowo t sz es m=>
    obtain⟨h5,h6,h7,h7',xs,h8,h9,h10⟩:=hbk
    refine⟨by rw [Ab];exact hj.2.trans h5,h6,fun e he=>?_,?_,xs,?_,?_,h10⟩
    ·obtain⟨e0,he0,rfl⟩:=AH.1 he
     rw [AV.renL_len];exact h7 e0 he0
    ·rw [AV.renL_flat];exact AV.renL_lt _ h7'
    ·have eb:cj.base=c'.base:=hs0.base.trans q2.base.symm
     show c'.w.ownsRow cj.base t sz (cj.rho (g j)) (es.map (AV.renL g)).length xs
     rw [hj.1,eb,Ab]
     exact h8
    ·rw [AV.renL_flat];exact RdL.ren hren hcj _ h9
  ·have hkd:k<c.dom:=by rw [hs0.dom];exact h2
   exact BlkOk.ext hE rfl hkd (hrho2 h2 h3).2 (fun b hl ho=>q2.low.block b (hold3 h3 h4 hl ho)) (hs0.blk k y h4)
 ·rcases F6 _ hlen hy with ⟨j,x,h2,rfl,rfl⟩ | ⟨h2,h3,h4⟩
  ·have ho':oB (cj.rho (g j))=some b:=ho
   rw [(hrho (hdj h2)).1] at ho'
   have:=q2.own j x b h2 (by rw [AB.ren_live] at hl;exact hl) ho'
   exact⟨this.1,fun hb'=>this.2 (hold hb')⟩
  ·rw [(hrho2 h2 h3).1] at ho
   have ho2:=hold3 h3 h4 hl ho
   have:=hs0.own k y b h4 hl ho
   exact⟨(q2.foreign b ho2).2 this.1,this.2⟩
 ·rcases F6 _ hlen hi with ⟨j,x,h2,rfl,rfl⟩ | ⟨h2,h3,h4⟩ <;> rcases F6 _ hlen hk' with ⟨j',x',h2',rfl,rfl⟩ | ⟨h2',h3',h4'⟩
  ·have e1:oB (cj.rho (g j))=some b:=hoi
   have e2:oB (cj.rho (g j'))=some b:=hok
   rw [(hrho (hdj h2)).1] at e1
   rw [(hrho (hdj h2')).1] at e2
   rw [AB.ren_live] at hy hz
   rw [q2.dis j j' x x' b h2 h2' hy hz e1 e2]
  ·have e1:oB (cj.rho (g j))=some b:=hoi
   rw [(hrho (hdj h2)).1] at e1
   rw [(hrho2 h2' h3').1] at hok
   rw [AB.ren_live] at hy
   exact((q2.own j x b h2 hy e1).2 (hold3 h3' h4' hz hok)).elim
  ·have e2:oB (cj.rho (g j'))=some b:=hok
   rw [(hrho (hdj h2')).1] at e2
   rw [(hrho2 h2 h3).1] at hoi
   rw [AB.ren_live] at hz
   exact((q2.own j' x' b h2' hz e2).2 (hold3 h3 h4 hy hoi)).elim
  ·rw [(hrho2 h2 h3).1] at hoi
   rw [(hrho2 h2' h3').1] at hok
   exact hs0.dis i k y z b h4 h4' hy hz hoi hok

def Q3 (x:AV) (H:List AB) (k:AV->List AB->Prop):Prop:=
 match x with
 | .tp l=>sealA l H fun l H=>k (.tp l) H
 | x=>NY x H k
def XG (T:Tys) (m:Nat) (rs:List ResultVar) (K:AV->List AB->Prop):QA:=fun ex fr H=>match ex with
 | .exit _=>False
 | _=>H0 T rs fr H fun x=>Q3 x H fun x H=>∃ r H2,(∀ c v,Rd x c v->Rd r c v)/\wkH H2 H/\Nh H2.length H2=true/\Nat.ble m H2.length=true/\K r H2
theorem NX {w0:Fl} {M0:Ms} {c:Ctx} {H:List AB} {x:AV} {u:Value} {k:AV->List AB->Prop} (hs:HS w0 M0 c H) (hr:Rd x c u) (h:Q3 x H k) :
  ∃ r H' c',k r H'/\c'.w=c.w/\HS w0 M0 c' H'/\Ext c c'/\Rd r c'.closed u:=by
 unfold Q3 at h
 split at h
 ·simp only [Rd] at hr
  obtain⟨xs,rfl,hx⟩:=hr
  obtain⟨l',H',c',q1,q2,q3,q4,q5,q6⟩:=sealA_sound hs hx h
  exact⟨_,H',c',q1,q2,q3,q4,by simp only [Rd];exact⟨xs,rfl,q5⟩⟩
 ·obtain⟨r,H',c',q1,q2,q3,q4,q5,_⟩:=GG hs hr h
  exact⟨r,H',c',q1,q2,q3,q4,q5⟩
theorem ACalls.of {P : Program} {T : Tys} (hT : TOk P T) {f : FuncId} {fn : Func} {body : Code} {args : List AV} {Hin : List AB} {K : AV → List AB → Prop} (hf : P.funcs[f]? = some fn) (hb : fn.body = some body) (hname : (fn.name == "runtime.NumGoroutine") = false) (hn : args.length ≤ fn.ntmps)
  (h:Ca P T fn.ntmps Hin.length body (XG T Hin.length fn.results.toList K) (frOf 0 args) Hin):ACalls P false f args Hin K:=by
 refine⟨⟨fn,hf,by rw [hb];rfl,hname⟩,fun w0 M0 c0 us hs0 hr=>?_⟩
 have hlen:=hr.length
 have hFR:FR (w0.at c0.w hs0.low) c0 fn.ntmps (frOf 0 args) { tmps:=us.toArray ++ Array.replicate (fn.ntmps - us.toArray.size) undef,defers:= [] }:=by
  refine⟨by simp;omega,trivial,fun i=>?_⟩
  have:=G2 (c:=c0) (m:=fn.ntmps - us.length) (l:=args) (i:=0) (pre:= []) rfl hr i
  rw [Array.getD_eq_getD_getElem?]
  have e:(us.toArray ++ Array.replicate (fn.ntmps - us.toArray.size) undef)[i]? = ([] ++ us ++ List.replicate (fn.ntmps - us.length) undef)[i]? :=by
   have:(us.toArray ++ Array.replicate (fn.ntmps - us.toArray.size) undef)=([] ++ us ++ List.replicate (fn.ntmps - us.length) undef).toArray:=Array.ext' (by simp)
   rw [this];simp only [List.getElem?_toArray]
  rw [e]
  exact this
 have fin:∀ a w,DR (w0.at c0.w hs0.low) M0 c0 fn.ntmps (fun fr H=>H0 T fn.results.toList fr H fun x=>Q3 x H fun x H=>∃ r H2,(∀ c v,Rd x c v->Rd r c v)/\wkH H2 H/\Nh H2.length H2=true/\Nat.ble Hin.length H2.length=true/\K r H2) a w->∃ v,(results fn a.tmps).run P w = .ok v w/\∃ v' c' r H',Ending.returned v = .returned v'/\c'.w=w/\K r H'/\HS w0 M0 c' H'/\Ext c0 c'/\Rd r c' v'/\(false=true->Old c0.w w):=by
  rintro a w ⟨c,fr,H,rfl,h1,h2,h3,h4⟩
  obtain⟨x,v,q1,q2,q3⟩:=Eg hT h2 h3 h1
  obtain⟨x',H',c1,⟨r,H2,o1,o2,o3,o4,o5⟩,p2,p3,p4,p5⟩:=NX h2 q2 q1
  have hcut:Cut c1 { c1 with dom:=H2.length }:=⟨⟨rfl,rfl,rfl,Nat.le_refl _,fun _ _ h=>⟨h,rfl⟩,Nat.le_refl _,fun k hk=>absurd hk (Aj k),fun k hk=>absurd hk (Aj k),fun k _ hk=>absurd hk (Aj k)⟩,fun _ _=>⟨rfl,rfl⟩⟩
  have hml:=Ad o4
  have he:=h4.trans p4
  refine⟨v,q3,v,{ c1 with dom:=H2.length },r,H2,rfl,p2,o5,⟨LowF.ofAt p3.low,p3.base,rfl,p3.foreign,p3.lt,fun k y hk=>?_,fun k y g hk hl ho=>p3.own k y g (wkH_get o2 k y hk hl) hl ho,fun j k y z g hj hk hy hz ho ho'=>p3.dis j k y z g (wkH_get o2 j y hj hy) (wkH_get o2 k z hk hz) hy hz ho ho'⟩,⟨he.os,he.tape,he.output,he.size,he.keep,by show c0.dom<=H2.length;rw [hs0.dom];exact hml,he.len,he.rho,he.box⟩,o1 _ _ (Rd.ext (c:=c1.closed) (c':={ c1 with dom:=H2.length }) _ ⟨rfl,rfl,rfl,Nat.le_refl _,fun _ _ h=>⟨h,rfl⟩,Ag _,fun k hk=>absurd hk (Aj k),fun k hk=>absurd hk (Aj k),fun k _ hk=>absurd hk (Aj k)⟩ p5),fun e=>by cases e⟩
  cases y with
  | dead=>trivial
  | box t cs=>
   obtain⟨g,xs,h1,h2,h3,h4⟩:=p3.blk k _ (wkH_get o2 k _ hk rfl)
   exact⟨g,xs,h1,h2,RdL.cut cs hcut (Ht o3 k t cs hk) h3,h4⟩
  | iter s pos=>
   obtain⟨g,h1,h2⟩:=p3.blk k _ (wkH_get o2 k _ hk rfl)
   exact⟨g,h1,h2⟩
  | row t sz es=>
   obtain⟨h1,h2,h3,xs,h4,h5,h6⟩:=p3.blk k _ (wkH_get o2 k _ hk rfl)
   exact⟨h1,h2,h3,xs,h4,h5,h6⟩
  | rowo t sz es m=>
   obtain⟨h1,h2,h3,h3',xs,h4,h5,h6⟩:=p3.blk k _ (wkH_get o2 k _ hk rfl)
   exact⟨h1,h2,h3,h3',xs,h4,RdL.cut _ hcut (GR o3 hk h3') h5,h6⟩
 refine DP hf hb trivial (Nat.le_refl _) fin ?_
 refine Bg (w0:=w0.at c0.w hs0.low) (M0:=M0) (ce:=c0) hT hs0.dom body _ _ c0 _ Hin _ (EJ rfl rfl fun _ _ _ h=>h) hs0.toAt hFR (Ext.refl _) h
def Xu (T:Tys) (m:Nat) (rs:List ResultVar) (K:AV->List AB->Prop):QA:=fun ex fr H=>match ex with
 | .exit _=>False
 | _=>H0 T rs fr H fun x=>∃ r H2,(∀ c v,Rd x c v->Rd r c v)/\wkH H2 H/\Nh H2.length H2=true/\(Nat.ble m H2.length=true/\r.lt H2.length=true)/\K r H2
theorem ACalls.ofO {P : Program} {T : Tys} (hT : TOk P T) {f : FuncId} {fn : Func} {body : Code} {args : List AV} {Hin : List AB} {K : AV → List AB → Prop} (hf : P.funcs[f]? = some fn) (hb : fn.body = some body) (hname : (fn.name == "runtime.NumGoroutine") = false) (hn : args.length ≤ fn.ntmps)
  (h:Ca P T fn.ntmps Hin.length body (Xu T Hin.length fn.results.toList K) (frOf 0 args) Hin):ACalls P false f args Hin K:=by
 refine⟨⟨fn,hf,by rw [hb];rfl,hname⟩,fun w0 M0 c0 us hs0 hr=>?_⟩
 have hlen:=hr.length
 have hFR:FR (w0.at c0.w hs0.low) c0 fn.ntmps (frOf 0 args) { tmps:=us.toArray ++ Array.replicate (fn.ntmps - us.toArray.size) undef,defers:= [] }:=by
  refine⟨by simp;omega,trivial,fun i=>?_⟩
  have:=G2 (c:=c0) (m:=fn.ntmps - us.length) (l:=args) (i:=0) (pre:= []) rfl hr i
  rw [Array.getD_eq_getD_getElem?]
  have e:(us.toArray ++ Array.replicate (fn.ntmps - us.toArray.size) undef)[i]? = ([] ++ us ++ List.replicate (fn.ntmps - us.length) undef)[i]? :=by
   have:(us.toArray ++ Array.replicate (fn.ntmps - us.toArray.size) undef)=([] ++ us ++ List.replicate (fn.ntmps - us.length) undef).toArray:=Array.ext' (by simp)
   rw [this];simp only [List.getElem?_toArray]
  rw [e]
  exact this
 have fin:∀ a w,DR (w0.at c0.w hs0.low) M0 c0 fn.ntmps (fun fr H=>H0 T fn.results.toList fr H fun x=>∃ r H2,(∀ c v,Rd x c v->Rd r c v)/\wkH H2 H/\Nh H2.length H2=true/\(Nat.ble Hin.length H2.length=true/\r.lt H2.length=true)/\K r H2) a w->∃ v,(results fn a.tmps).run P w = .ok v w/\∃ v' c' r H',Ending.returned v = .returned v'/\c'.w=w/\K r H'/\HS w0 M0 c' H'/\Ext c0 c'/\Rd r c' v'/\(false=true->Old c0.w w):=by
  rintro a w ⟨c,fr,H,rfl,h1,h2,h3,h4⟩
  obtain⟨x,v,⟨r,H2,o1,o2,o3,⟨o4,o6⟩,o5⟩,q2,q3⟩:=Eg hT h2 h3 h1
  obtain⟨c1,p3,hcc⟩:∃ c1:Ctx,HS (w0.at c0.w hs0.low) M0 c1 H/\c1=c:=⟨c,h2,rfl⟩
  subst hcc
  have hcut:Cut c1 { c1 with dom:=H2.length }:=⟨⟨rfl,rfl,rfl,Nat.le_refl _,fun _ _ h=>⟨h,rfl⟩,Nat.le_refl _,fun k hk=>absurd hk (Aj k),fun k hk=>absurd hk (Aj k),fun k _ hk=>absurd hk (Aj k)⟩,fun _ _=>⟨rfl,rfl⟩⟩
  have hml:=Ad o4
  have he:=h4
  refine⟨v,q3,v,{ c1 with dom:=H2.length },r,H2,rfl,rfl,o5,⟨LowF.ofAt p3.low,p3.base,rfl,p3.foreign,p3.lt,fun k y hk=>?_,fun k y g hk hl ho=>p3.own k y g (wkH_get o2 k y hk hl) hl ho,fun j k y z g hj hk hy hz ho ho'=>p3.dis j k y z g (wkH_get o2 j y hj hy) (wkH_get o2 k z hk hz) hy hz ho ho'⟩,⟨he.os,he.tape,he.output,he.size,he.keep,by show c0.dom<=H2.length;rw [hs0.dom];exact hml,he.len,he.rho,he.box⟩,Rd.cut r hcut o6 (o1 _ _ q2),fun e=>by cases e⟩
  cases y with
  | dead=>trivial
  | box t cs=>
   obtain⟨g,xs,h1,h2,h3,h4⟩:=p3.blk k _ (wkH_get o2 k _ hk rfl)
   exact⟨g,xs,h1,h2,RdL.cut cs hcut (Ht o3 k t cs hk) h3,h4⟩
  | iter s pos=>
   obtain⟨g,h1,h2⟩:=p3.blk k _ (wkH_get o2 k _ hk rfl)
   exact⟨g,h1,h2⟩
  | row t sz es=>
   obtain⟨h1,h2,h3,xs,h4,h5,h6⟩:=p3.blk k _ (wkH_get o2 k _ hk rfl)
   exact⟨h1,h2,h3,xs,h4,h5,h6⟩
  | rowo t sz es m=>
   obtain⟨h1,h2,h3,h3',xs,h4,h5,h6⟩:=p3.blk k _ (wkH_get o2 k _ hk rfl)
   exact⟨h1,h2,h3,h3',xs,h4,RdL.cut _ hcut (GR o3 hk h3') h5,h6⟩
 refine DP hf hb trivial (Nat.le_refl _) fin ?_
 refine Bg (w0:=w0.at c0.w hs0.low) (M0:=M0) (ce:=c0) hT hs0.dom body _ _ c0 _ Hin _ (EJ rfl rfl fun _ _ _ h=>h) hs0.toAt hFR (Ext.refl _) h
end Go.Proofs.YtldngmdpiifamaaGreatDoor.A
end
