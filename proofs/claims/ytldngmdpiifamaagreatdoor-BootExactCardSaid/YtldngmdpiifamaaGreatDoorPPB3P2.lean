/-
Several texts in one.
-/
import Derived.Test.YtldngmdpiifamaaGreatDoorPPB3P1
import Derived.Deep.DeepCutAuto
import Derived.RangeFuncNested
import Derived.RangeFuncBound
import Derived.RangeFuncCalls
import Derived.RangeFuncLeaves
import Derived.RangeFuncBox
import Derived.TacticsIn
import Derived.Shelf.Abstract
import Derived.Shelf.RegionOpen
import Derived.OwnWalkIn
import Derived.TacticsInMore
import Derived.LoopNIn
import Derived.LoopIn
import Derived.Test.YtldngmdpiifamaaGreatDoorPPB3P0
import Derived.Lib.Overlaps
import Derived.Laws.Externs
set_option maxRecDepth 100000
set_option maxHeartbeats 8000000
set_option linter.unusedSimpArgs false
set_option linter.unusedVariables false
section
namespace Go.Proofs.YtldngmdpiifamaaGreatDoor.A
open Go.RowKit
def Xs (T:Tys) (m:Nat) (rs:List ResultVar) (K:AV->List AB->Prop):QA:=fun ex fr H=>match ex with
 | .exit _=>False
 | _=>H0 T rs fr H fun x=>∃ y r H2,(∀ c v,Rd x c v->Rd y c v)/\Wk m [(0,y)] H [(0,r)] H2/\K r H2
theorem ACalls.ofW {P : Program} {T : Tys} (hT : TOk P T) {f : FuncId} {fn : Func} {body : Code} {args : List AV} {Hin : List AB} {K : AV → List AB → Prop} (hf : P.funcs[f]? = some fn) (hb : fn.body = some body) (hname : (fn.name == "runtime.NumGoroutine") = false) (hn : args.length ≤ fn.ntmps)
  (h:Ca P T fn.ntmps Hin.length body (Xs T Hin.length fn.results.toList K) (frOf 0 args) Hin):ACalls P false f args Hin K:=by
 refine⟨⟨fn,hf,by rw [hb];rfl,hname⟩,fun w0 M0 c0 us hs0 hr=>?_⟩
 have hlen:=hr.length
 have hFR:FR (w0.at c0.w hs0.low) c0 fn.ntmps (frOf 0 args) { tmps:=us.toArray ++ Array.replicate (fn.ntmps - us.toArray.size) undef,defers:= [] }:=by
  refine⟨by simp;omega,trivial,fun i=>?_⟩
  have:=G2 (c:=c0) (m:=fn.ntmps - us.length) (l:=args) (i:=0) (pre:= []) rfl hr i
  rw [Array.getD_eq_getD_getElem?]
  have e:(us.toArray ++ Array.replicate (fn.ntmps - us.toArray.size) undef)[i]? = ([] ++ us ++ List.replicate (fn.ntmps - us.length) undef)[i]? :=by
   have:(us.toArray ++ Array.replicate (fn.ntmps - us.toArray.size) undef)=([] ++ us ++ List.replicate (fn.ntmps - us.length) undef).toArray:=Array.ext' (by simp)
   rw [this];simp only [List.getElem?_toArray]
  rw [e]
  exact this
 have fin:∀ a w,DR (w0.at c0.w hs0.low) M0 c0 fn.ntmps (fun fr H=>H0 T fn.results.toList fr H fun x=>∃ y r H2,(∀ c v,Rd x c v->Rd y c v)/\Wk Hin.length [(0,y)] H [(0,r)] H2/\K r H2) a w->∃ v,(results fn a.tmps).run P w = .ok v w/\∃ v' c' r H',Ending.returned v = .returned v'/\c'.w=w/\K r H'/\HS w0 M0 c' H'/\Ext c0 c'/\Rd r c' v'/\(false=true->Old c0.w w):=by
  rintro a w ⟨c,fr,H,rfl,h1,h2,h3,h4⟩
  obtain⟨x,v,⟨y,r,H2,o1,o2,o3⟩,q2,q3⟩:=Eg hT h2 h3 h1
  have hfr:FR (w0.at c0.w hs0.low) c 1 [(0,y)] { tmps:= #[v],defers:= [] }:=by
   refine⟨rfl,trivial,fun i=>?_⟩
   unfold fget
   cases i with
   | zero=>exact o1 _ _ q2
   | succ i=>show Rd .top c _;simp [Rd]
  obtain⟨c',e1,e2,e3,e4⟩:=o2.sound hs0.dom h2 hfr h4
  have hr':=e3.get 0
  refine⟨v,q3,v,c',r,H2,rfl,e1,o3,⟨LowF.ofAt e2.low,e2.base,e2.dom,e2.foreign,e2.lt,e2.blk,e2.own,e2.dis⟩,e4,?_,fun e=>by cases e⟩
  simpa [fget] using hr'
 refine DP hf hb trivial (Nat.le_refl _) fin ?_
 refine Bg (w0:=w0.at c0.w hs0.low) (M0:=M0) (ce:=c0) hT hs0.dom body _ _ c0 _ Hin _ (EJ rfl rfl fun _ _ _ h=>h) hs0.toAt hFR (Ext.refl _) h
theorem aLoop.ruleC {d0:Nat} {body:QA->Fr->List AB->Prop} {Q:QA} {fr:Fr} {H:List AB} (ι:Type) (st:ι->Fr × List AB) (I:ι->Prop) (μ:ι->Nat) (x0:ι) (h0:I x0) (hw:WkC d0 fr H (st x0).1 (st x0).2)
  (round:∀ x,I x->body (fun ex fr' H'=>match ex with | .normal=>∃ x',I x'/\μ x'<μ x/\WkC d0 fr' H' (st x').1 (st x').2 | e=>Q e fr' H') (st x).1 (st x).2):aLoop d0 body Q fr H:=
 ⟨.inr (.inr (.inl ⟨ι,st,I,μ,⟨x0,h0,hw⟩,round⟩))⟩
theorem aLoop.ruleR {d0:Nat} {body:QA->Fr->List AB->Prop} {Q:QA} {fr:Fr} {H:List AB} (ι:Type) (st:ι->Fr × List AB) (I:ι->Prop) (μ:ι->Nat) (x0:ι) (h0:I x0) (hw:WkC d0 fr H (st x0).1 (st x0).2)
  (round:∀ x,I x->body (fun ex fr' H'=>match ex with | .normal=>∃ x',I x'/\μ x'<μ x/\WkR d0 fr' H' (st x').1 (st x').2 | e=>Q e fr' H') (st x).1 (st x).2):aLoop d0 body Q fr H:=
 ⟨.inr (.inr (.inr ⟨ι,st,I,μ,⟨x0,h0, .inl hw⟩,round⟩))⟩
theorem aLoop.ruleRR {d0:Nat} {body:QA->Fr->List AB->Prop} {Q:QA} {fr:Fr} {H:List AB} (ι:Type) (st:ι->Fr × List AB) (I:ι->Prop) (μ:ι->Nat) (x0:ι) (h0:I x0) (hw:WkR d0 fr H (st x0).1 (st x0).2)
  (round:∀ x,I x->body (fun ex fr' H'=>match ex with | .normal=>∃ x',I x'/\μ x'<μ x/\WkR d0 fr' H' (st x').1 (st x').2 | e=>Q e fr' H') (st x).1 (st x).2):aLoop d0 body Q fr H:=
 ⟨.inr (.inr (.inr ⟨ι,st,I,μ,⟨x0,h0, .inr hw⟩,round⟩))⟩

theorem ConvH.rowo {H:List AB} {k:Nat} {t:TypeId} {sz:Nat} {es:List (List AV)} (hk:H[k]? = some (.row t sz es)):ConvH H (H.set k (.rowo t sz es 0)):=fun _ _ c hs=>
 ⟨c,rfl,hs.recell hk rfl fun⟨h1,h2,h3,xs,h4,h5,h6⟩=>⟨h1,h2,h3,RdL.lt_dom _ h5,xs,h4,RdL.ext _ (Ext.ofClosed c) h5,h6⟩,Ext.refl c⟩
theorem ConvH.row {H:List AB} {k:Nat} {t:TypeId} {sz m:Nat} {es:List (List AV)} (hk:H[k]? = some (.rowo t sz es m)) (hl:AV.ltL es.flatten 0=true):ConvH H (H.set k (.row t sz es)):=fun _ _ c hs=>
 ⟨c,rfl,hs.recell hk rfl fun⟨h1,h2,h3,_,xs,h4,h5,h6⟩=>⟨h1,h2,h3,xs,h4,RdL.cut (c:=c) (c':=c.closed) _ ⟨Ext.refl c.closed,fun k hk=>absurd hk (Aj k)⟩ hl h5,h6⟩,Ext.refl c⟩
def AV.slIn (k n:Nat) (s:AV) (x:AV):AV:=match x with
 | .ow j m=>if j=k then (if m=n then s else .top) else .ow j m
 | x=>x
theorem Va {k n:Nat} {y:AV} (hs:y.lt 0=true) {m:Nat} {x:AV} (h:x.lt m=true):(AV.slIn k n y x).lt m=true:=by
 unfold AV.slIn
 split
 ·split
  ·split
   ·exact AV.lt_mono y (Ag _) hs
   ·rfl
  ·exact h
 ·exact h
theorem ConvH.sealIn {H:List AB} (j k:Nat) {t t':TypeId} {sz sz' m:Nat} {es es' es2:List (List AV)} (hj:H[j]? = some (.rowo t sz es m)) (hk:H[k]? = some (.row t' sz' es'))
  (he:es.map (List.map (AV.slIn k es'.length (.sl sz' es'.length fun i=>es'.getD i [])))=es2):ConvH H ((H.set k .dead).set j (.rowo t sz es2 m)):=by
 intro w0 M0 c hs
 subst he
 have hjk:j≠k:=by rintro rfl;rw [hj] at hk;cases hk
 obtain⟨c1,e1,s1,x1,r1⟩:=hs.freeze hk
 have hj1:(H.set k .dead)[j]? = some (.rowo t sz es m):=by rw [List.getElem?_set_ne (Ne.symm hjk)];exact hj
 refine⟨c1,e1,s1.recell hj1 rfl ?_,x1⟩
 rintro⟨h1,h2,h3,h4,_⟩
 obtain⟨q0,_,_,_,ys,q1,q2,q3⟩:=hs.blk j _ hj
 have hrho:=x1.rho j (hs.klt hj) (by omega)
 have hbase:c1.base=c.base:=s1.base.trans hs.base.symm
 refine⟨by rw [Ab];exact h1,h2,fun e he=>?_,?_,ys,by rw [Ab,e1,hrho,hbase];exact q1,?_,q3⟩
 ·obtain⟨e0,h8,rfl⟩:=AH.1 he
  rw [Ab]
  exact h3 e0 h8
 ·rw [<-List.map_flatten,CS]
  intro x hx
  obtain⟨y,hy,rfl⟩:=AH.1 hx
  exact Va rfl (CS.1 h4 y hy)
 ·rw [<-List.map_flatten]
  have h8:∀ (l:List AV) (us:List Value),RdL l c us->RdL (l.map (AV.slIn k es'.length (.sl sz' es'.length fun i=>es'.getD i []))) c1 us:=by
   intro l
   induction l with
   | nil=>intro us h;simp only [RdL] at h;subst h;simp [RdL]
   | cons x l ih=>
    intro us h
    simp only [RdL] at h
    obtain⟨u,vs,rfl,a1,a2⟩:=h
    simp only [Ay,RdL]
    refine⟨u,vs,rfl,?_,ih vs a2⟩
    unfold AV.slIn
    split
    ·rename_i i n
     split
     ·rename_i hik
      subst hik
      split
      ·rename_i hn
       subst hn
       exact r1 u a1
      ·simp [Rd]
     ·exact Rd.ext _ x1 a1
    ·exact Rd.ext _ x1 a1
  exact h8 _ _ q2

def Xv (T:Tys) (m:Nat) (rs:List ResultVar) (K:AV->List AB->Prop):QA:=fun ex fr H=>match ex with
 | .exit _=>False
 | _=>H0 T rs fr H fun x=>∃ y r H2,(∀ c v,Rd x c v->Rd y c v)/\WkC m [(0,y)] H [(0,r)] H2/\K r H2
theorem ACalls.ofC {P : Program} {T : Tys} (hT : TOk P T) {f : FuncId} {fn : Func} {body : Code} {args : List AV} {Hin : List AB} {K : AV → List AB → Prop} (hf : P.funcs[f]? = some fn) (hb : fn.body = some body) (hname : (fn.name == "runtime.NumGoroutine") = false) (hn : args.length ≤ fn.ntmps)
  (h:Ca P T fn.ntmps Hin.length body (Xv T Hin.length fn.results.toList K) (frOf 0 args) Hin):ACalls P false f args Hin K:=by
 refine⟨⟨fn,hf,by rw [hb];rfl,hname⟩,fun w0 M0 c0 us hs0 hr=>?_⟩
 have hlen:=hr.length
 have hFR:FR (w0.at c0.w hs0.low) c0 fn.ntmps (frOf 0 args) { tmps:=us.toArray ++ Array.replicate (fn.ntmps - us.toArray.size) undef,defers:= [] }:=by
  refine⟨by simp;omega,trivial,fun i=>?_⟩
  have:=G2 (c:=c0) (m:=fn.ntmps - us.length) (l:=args) (i:=0) (pre:= []) rfl hr i
  rw [Array.getD_eq_getD_getElem?]
  have e:(us.toArray ++ Array.replicate (fn.ntmps - us.toArray.size) undef)[i]? = ([] ++ us ++ List.replicate (fn.ntmps - us.length) undef)[i]? :=by
   have:(us.toArray ++ Array.replicate (fn.ntmps - us.toArray.size) undef)=([] ++ us ++ List.replicate (fn.ntmps - us.length) undef).toArray:=Array.ext' (by simp)
   rw [this];simp only [List.getElem?_toArray]
  rw [e]
  exact this
 have fin:∀ a w,DR (w0.at c0.w hs0.low) M0 c0 fn.ntmps (fun fr H=>H0 T fn.results.toList fr H fun x=>∃ y r H2,(∀ c v,Rd x c v->Rd y c v)/\WkC Hin.length [(0,y)] H [(0,r)] H2/\K r H2) a w->∃ v,(results fn a.tmps).run P w = .ok v w/\∃ v' c' r H',Ending.returned v = .returned v'/\c'.w=w/\K r H'/\HS w0 M0 c' H'/\Ext c0 c'/\Rd r c' v'/\(false=true->Old c0.w w):=by
  rintro a w ⟨c,fr,H,rfl,h1,h2,h3,h4⟩
  obtain⟨x,v,⟨y,r,H2,o1,o2,o3⟩,q2,q3⟩:=Eg hT h2 h3 h1
  have hfr:FR (w0.at c0.w hs0.low) c 1 [(0,y)] { tmps:= #[v],defers:= [] }:=by
   refine⟨rfl,trivial,fun i=>?_⟩
   unfold fget
   cases i with
   | zero=>exact o1 _ _ q2
   | succ i=>show Rd .top c _;simp [Rd]
  obtain⟨c',e1,e2,e3,e4⟩:=o2.sound hs0.dom h2 hfr h4
  have hr':=e3.get 0
  refine⟨v,q3,v,c',r,H2,rfl,e1,o3,⟨LowF.ofAt e2.low,e2.base,e2.dom,e2.foreign,e2.lt,e2.blk,e2.own,e2.dis⟩,e4,?_,fun e=>by cases e⟩
  simpa [fget] using hr'
 refine DP hf hb trivial (Nat.le_refl _) fin ?_
 refine Bg (w0:=w0.at c0.w hs0.low) (M0:=M0) (ce:=c0) hT hs0.dom body _ _ c0 _ Hin _ (EJ rfl rfl fun _ _ _ h=>h) hs0.toAt hFR (Ext.refl _) h

theorem ACalls.fn {P:Program} {q:Bool} {f:FuncId} {args:List AV} {K:AV->List AB->Prop} {K':AV->Prop} (h:ACalls P q f args [] K) (hk:∀ r H,K r H->∃ Hc,ConvH H Hc/\NW r Hc fun x=>∃ y,(∀ c v,Rd x c v->Rd y c v)/\K' y):Fn P f args K':=by
 refine⟨h.go,fun c0 us hd hM hg hr=>?_⟩
 let ce:Ctx:={ c0 with base:=0 }
 have hce:Ext c0 ce:=⟨rfl,rfl,rfl,Nat.le_refl _,fun _ _ h=>⟨h,rfl⟩,Nat.le_refl _,fun _ _=>Nat.le_refl _,fun _ _ _=>rfl,fun _ _ _ h=>h⟩
 have hHS:HS (Fl.all c0.w hg) c0.M ce []:=⟨LowF.refl _ hg,rfl,hd,fun _ _=>Iff.rfl,hM,by simp,by simp,by simp⟩
 refine(h.calls (Fl.all c0.w hg) c0.M ce us hHS (RdL.ext _ hce hr)).mono ?_
 rintro e w' ⟨v,c',r,H',rfl,rfl,q1,q2,q3,q4,_⟩
 obtain⟨Hc,o1,o2⟩:=hk r H' q1
 obtain⟨c1,e1,s1,x1⟩:=o1 _ _ c' q2
 obtain⟨x,H2,c2,⟨y,p0,p1⟩,p2,p3,p4,p5⟩:=JJ s1 (Rd.ext _ x1 q4) o2
 refine⟨v,y,rfl,p1,q2.low.below,p0 _ _ ?_⟩
 have e2:c2.w=c'.w:=p2.trans e1
 have hE:Ext c2.closed { c0 with w:=c'.w }:=by
  refine⟨by simp [Ctx.closed,e2],by simp [Ctx.closed,e2],by simp [Ctx.closed,e2],by simp [Ctx.closed,e2],fun b hb hm=>⟨fun h=>hm ?_,by simp [Ctx.closed,e2]⟩,Ag _,fun k hk=>absurd hk (Aj k),fun k hk=>absurd hk (Aj k),fun k _ hk=>absurd hk (Aj k)⟩
  exact(p3.foreign b (hM b h)).2 h
 exact Rd.ext _ hE p5
theorem ACalls.conv {P:Program} {q:Bool} {f:FuncId} {args:List AV} {H:List AB} {K K':AV->List AB->Prop} (h:ACalls P q f args H K) (hk:∀ r H',K r H'->∃ H'',ConvH H' H''/\K' r H''):ACalls P q f args H K':=by
 refine⟨h.go,fun w0 M0 c us hs hr=>(h.calls w0 M0 c us hs hr).mono ?_⟩
 rintro e w' ⟨v,c',r,H',rfl,rfl,q1,q2,q3,q4,q5⟩
 obtain⟨H'',o1,o2⟩:=hk r H' q1
 obtain⟨c1,e1,s1,x1⟩:=o1 _ _ c' q2
 exact⟨v,c1,r,H'',rfl,e1,o2,s1,q3.trans x1,Rd.ext _ x1 q4,q5⟩
mutual
theorem AV.ren_id {f:Nat->Nat}:∀ (x:AV),x.lt 0=true->x.ren f=x
 | .top,_=>rfl
 | .v _,_=>rfl
 | .sl _ _ _,_=>rfl
 | .rp _,_=>rfl
 | .bp k _,h=>by simp [AV.lt,Nat.blt] at h
 | .ow k _,h=>by simp [AV.lt,Nat.blt] at h
 | .ep k _ _ _ _,h=>by simp [AV.lt,Nat.blt] at h
 | .ag cs,h=>by simp only [AV.lt] at h;simp only [AV.ren,AV.renL_id cs h]
 | .tp cs,h=>by simp only [AV.lt] at h;simp only [AV.ren,AV.renL_id cs h]
 | .fn _ cs,h=>by simp only [AV.lt] at h;simp only [AV.ren,AV.renL_id cs h]
 | .ic _ cs,h=>by simp only [AV.lt] at h;simp only [AV.ren,AV.renL_id cs h]
theorem AV.renL_id {f:Nat->Nat}:∀ (l:List AV),AV.ltL l 0=true->AV.renL f l=l
 | [],_=>rfl
 | x::l,h=>by
  simp only [AV.ltL,Bool.and_eq_true] at h
  simp only [AV.renL,AV.ren_id x h.1,AV.renL_id l h.2]
end
theorem ACalls.quiet {P:Program} {q q':Bool} {f:FuncId} {args:List AV} {K:AV->List AB->Prop} (h:ACalls P q f args [] K):ACalls P q' f args [] K:=by
 refine⟨h.go,fun w0 M0 c us hs hr=>?_⟩
 have hs1:HS (Fl.all c.w hs.glob) c.M c []:=⟨LowF.refl _ _,hs.base,hs.dom,fun _ _=>Iff.rfl,hs.lt,by simp,by simp,by simp⟩
 refine(h.calls _ c.M c us hs1 hr).mono ?_
 rintro e w' ⟨v,c',r,H',rfl,rfl,q1,q2,q3,q4,_⟩
 have hlt:∀ b,w0.old b->b<c.w.heap.size:=fun b hb=>Ak (w0.lt b hb) hs.low.size
 exact⟨v,c',r,H',rfl,rfl,q1,⟨hs.low.trans q2.low.below,q2.base,q2.dom,fun b hb=>(q2.foreign b (hlt b hb)).trans (hs.foreign b hb),q2.lt,q2.blk,fun k x g hk hl ho=>⟨(q2.own k x g hk hl ho).1,fun hb=>(q2.own k x g hk hl ho).2 (hlt g hb)⟩,q2.dis⟩,q3,q4,fun _=>q2.low.below.old⟩
theorem ACalls.beside {P:Program} {q q':Bool} {f:FuncId} {args:List AV} {H:List AB} {k K:AV->List AB->Prop} (h:ACalls P q' f args [] K) (hc:AV.ltL args 0=true)
  (hk:∀ r R,K r R->cntK H 0 fun d=>T6 (ixm [] d) [] R H fun H=>D5 (r.ren (ixm [] d)) fun r=>k r H):ACalls P q f args H k:=
 ACalls.frame [] (h.quiet (q':=q)) (AV.renL_id args hc).symm hc rfl rfl List.nodup_nil (fun _ h=>by cases h) trivial hk
def flatV:AV->Bool
 | .v _=>true
 | .tp l=>l.all fun x=>match x with | .v _=>true | _=>false
 | _=>false
theorem Uq {x:AV} (h:flatV x=true) {c c':Ctx} {v:Value} (hr:Rd x c v):Rd x c' v:=by
 unfold flatV at h
 split at h
 ·simpa [Rd] using hr
 ·rename_i l
  simp only [Rd] at hr |-
  obtain⟨xs,rfl,hx⟩:=hr
  refine⟨xs,rfl,?_⟩
  induction l generalizing xs with
  | nil=>simpa [RdL] using hx
  | cons x l ih=>
   simp only [Bn,Bool.and_eq_true] at h
   simp only [RdL] at hx |-
   obtain⟨u,us,rfl,h1,h2⟩:=hx
   refine⟨u,us,rfl,?_,ih h.2 us h2⟩
   cases x <;> simp at h
   simpa [Rd] using h1
 ·cases h
theorem Fn.lend {P:Program} {f:FuncId} {args args':List AV} {H:List AB} {K:AV->Prop} {q:Bool} {k:AV->List AB->Prop} (h:Fn P f args' K) (hs:sealA args H fun a _=>a=args') (hk:∀ r,K r->flatV r=true/\k r H):ACalls P q f args H k:=by
 refine⟨h.1,fun w0 M0 c us hs0 hr=>?_⟩
 obtain⟨l',H',c',rfl,h2,h3,h4,h5,_⟩:=sealA_sound hs0 hr hs
 have:=h.2 c'.closed us rfl h3.lt h3.glob h5
 rw [show c'.closed.w=c.w from h2] at this
 refine this.mono ?_
 rintro e w' ⟨v,r,rfl,q1,q2,q3⟩
 obtain⟨p1,p2⟩:=hs0.grow q2
 obtain⟨p3,p4⟩:=hk r q1
 exact⟨v,_,r,H,rfl,rfl,p4,p1,p2,Uq p3 q3,fun _=>q2.old⟩
theorem GM (n lo hi:Int):Fn Tryz.prog 39 [.v (.int .i64 n), .v (.int .i64 lo), .v (.int .i64 hi)] fun r=>r = .v (.bool (BP n lo hi)):=by
 refine Fn.st Tryz.func39 rfl ?_
 conv=>whnf
 repeat' (first | (refine Af (fun h=>?_) (fun h=>?_) <;> (try simp at h) <;> conv=>whnf) | (refine aDraw.seq tys_ok mixed (by kernel_rfl) ?_;conv=>whnf) | (refine aSeq.go ?_;conv=>whnf) | (refine And.intro (by omega) ?_;conv=>whnf))
 all_goals exact⟨_,ri,by simp [BP, *] <;> omega⟩
theorem RH (g:Geo):Fn Tryz.prog 9 [.ag (A7 g)] fun r=>r = .v (.bool (AS g)):=by
 have i1:=GM g.z 1 4
 have i2:=GM g.d 1 4
 have i3:=GM g.sp 0 2
 have i4:=GM g.sl 14 30
 have i5:=GM g.an 1 3
 unfold AS
 refine Fn.st Tryz.func9 rfl ?_
 conv=>whnf
 cases h1:BP g.z 1 4 with
 | false=>
  rw [h1] at i1
  refine Fn.cl i1 ?_
  exact⟨_,ri,rfl⟩
 | true=>
  rw [h1] at i1
  refine Fn.cl i1 ?_
  conv=>whnf
  cases h2:BP g.d 1 4 with
  | false=>
   rw [h2] at i2
   refine Fn.cl i2 ?_
   exact⟨_,ri,rfl⟩
  | true=>
   rw [h2] at i2
   refine Fn.cl i2 ?_
   conv=>whnf
   cases h3:BP g.sp 0 2 with
   | false=>
    rw [h3] at i3
    refine Fn.cl i3 ?_
    exact⟨_,ri,rfl⟩
   | true=>
    rw [h3] at i3
    refine Fn.cl i3 ?_
    conv=>whnf
    cases h4:BP g.sl 14 30 with
    | false=>
     rw [h4] at i4
     refine Fn.cl i4 ?_
     exact⟨_,ri,rfl⟩
    | true=>
     rw [h4] at i4
     refine Fn.cl i4 ?_
     conv=>whnf
     cases h5:BP g.an 1 3 with
     | false=>
      rw [h5] at i5
      refine Fn.cl i5 ?_
      exact⟨_,ri,rfl⟩
     | true=>
      rw [h5] at i5
      refine Fn.cl i5 ?_
      exact⟨_,ri,rfl⟩
end Go.Proofs.YtldngmdpiifamaaGreatDoor.A
end
section
namespace Go.Proofs.YtldngmdpiifamaaGreatDoor
open Go.RowKit
theorem leB_step:∀ (k n:Nat),leB (k+1) n=leB k n ++ [UInt8.ofNat (n / 256 ^ k % 256)]
 | 0,n=>by simp [leB]
 | k+1,n=>by
  show UInt8.ofNat (n % 256)::leB (k+1) (n / 256)=(UInt8.ofNat (n % 256)::leB k (n / 256)) ++ _
  rw [leB_step k (n / 256),Nat.div_div_eq_div_mul,Nat.pow_succ,Dd 256]
  rfl

theorem Px (k:Nat) (h:k<256):((UInt8.ofNat k).toNat:Int)=(k:Int):=by rw [Bp h]
theorem OwR.lit1 (w:World) (k:Nat) (h:k<256):OwR (w.alloc (.cells #[.int .u8 (k:Int)] 5)) noM w.heap.size 5 (.slice (some ⟨w.heap.size,0,none⟩) 1 1) [UInt8.ofNat k]:=by
 have hL:=OwR.litB w noM [UInt8.ofNat k] (by simp)
 simpa only [Ay,By,Px k h,Ai,AK] using hL
theorem OwR.lit2 (w:World) (k m:Nat) (h:k<256) (h':m<256):OwR (w.alloc (.cells #[.int .u8 (k:Int), .int .u8 (m:Int)] 5)) noM w.heap.size 5 (.slice (some ⟨w.heap.size,0,none⟩) 2 2) [UInt8.ofNat k,UInt8.ofNat m]:=by
 have hL:=OwR.litB w noM [UInt8.ofNat k,UInt8.ofNat m] (by simp)
 simpa only [Ay,By,Px k h,Px m h',Ai,AK] using hL
theorem Vx {g:Geo} {r:Rc} (h:DH g r=true):∃ K S E A O:Nat,r.kind=K/\r.seq=S/\r.epoch=E/\r.at_=A/\r.of_=O/\S<=4294967295/\E<=4294967295:=by
 obtain⟨-,h⟩:=EI h
 refine⟨r.kind.toNat,r.seq.toNat,r.epoch.toNat,r.at_.toNat,r.of_.toNat,?_⟩
 rcases h with h | h | h <;> omega
theorem Vy {g:Geo} {r:Rc} (h:DH g r=true) (hk:r.kind=1):∃ Z W:Nat,r.img.zone=Z/\CB r.img.what=W/\Z<=3/\r.img.bytes.length<=255:=by
 have hb:=Eh h
 rw [I7 h,if_pos hk] at hb
 obtain⟨hg,h⟩:=EI h
 obtain⟨hz,hd, -⟩:=Am.1 hg
 rcases h with h | ⟨-, -, -, -, -,h⟩ | h
 ·omega
 ·obtain⟨-,h1,h2⟩:=E_ h
  refine⟨r.img.zone.toNat,(CB r.img.what).toNat,by omega,?_,by omega,by omega⟩
  unfold CB
  split
  ·rfl
  ·rcases h2 with ⟨h3, -⟩ | ⟨-,h3, -⟩ <;> omega
 ·omega

end Go.Proofs.YtldngmdpiifamaaGreatDoor
end
section
namespace Go.Proofs.YtldngmdpiifamaaGreatDoor.A
open Go.RowKit
theorem Xd {a:AV} {c:Ctx} {us:List Value} (h:RdL [a] c us):∃ u,us=[u]/\Rd a c u:=by
 simp only [RdL] at h
 obtain⟨u,r,rfl,h1,rfl⟩:=h
 exact⟨u,rfl,h1⟩
theorem X4 {a b:AV} {c:Ctx} {us:List Value} (h:RdL [a,b] c us):∃ u v,us=[u,v]/\Rd a c u/\Rd b c v:=by
 simp only [RdL] at h
 obtain⟨u,r,rfl,h1,v,q,rfl,h2,rfl⟩:=h
 exact⟨u,v,rfl,h1,h2⟩
theorem Nj {c:Ctx} {a b:AV} {u v:Value} (h:Rd a c u) (k:Rd b c v):Rd (.tp [a,b]) c (.tuple #[u,v]):=by
 simp only [Rd,RdL]
 exact⟨_,rfl,_,_,rfl,h,_,_,rfl,k,rfl⟩
theorem PR {c:Ctx} (v:Value):Rd (.v v) c v:=by simp [Rd]
theorem Tz (g:Geo):Fn Tryz.prog 9 [.ag (A7 g)] fun r=>r = .v (.bool (AS g)):=RH g
def K_ (b:List UInt8):AV:=match Gz b with
 | some (s,n)=> .tp [.v (.string s), .v (.int .i64 n), .v (.int .i64 0)]
 | none=> .tp [.v (.string ⟨#[]⟩), .v (.int .i64 0), .v (.int .i64 4)]
theorem TN (b:List UInt8) (hl:b.length<=100000):Fn Tryz.prog 230 [bA b] fun r=>r=K_ b:=by
 have hb0:=(b.getD 0 0).toNat_lt
 have hw:IntKind.i64.wrap (1+IntKind.i64.wrap ((b.getD 0 0).toNat:Int))=((1+(b.getD 0 0).toNat:Nat):Int):=by rw [wi (n:=((b.getD 0 0).toNat:Int)) (by omega),wi (by omega)];omega
 by_cases hs:b.length<1+(b.getD 0 0).toNat
 ·have hr:K_ b = .tp [.v (.string ⟨#[]⟩), .v (.int .i64 0), .v (.int .i64 4)]:=by rw [K_,Gz,if_pos hs]
  rw [hr]
  refine Fn.st Tryz.func230 rfl ?_
  conv=>whnf
  refine Al (fun h=>?_) (fun h=>?_) <;> (repeat rw [Aa] at h) <;> conv=>whnf
  ·exact⟨_,ri,rfl⟩
  ·refine⟨by first | omega | (refine⟨rfl,?_,?_⟩ <;> first | omega | (simp only [Ab];done) | (simp only [Ab];omega)) | (simp only [Ab];omega),?_⟩
   conv=>whnf
   refine Al (fun h2=>?_) (fun h2=>?_) <;> (repeat rw [Aa] at h2) <;> conv=>whnf
   ·exact⟨_,ri,rfl⟩
   ·exfalso
    have h2:IntKind.i64.wrap (1+IntKind.i64.wrap ((b.getD 0 0).toNat:Int))<=(b.length:Int):=h2
    rw [hw] at h2
    omega
 ·have hlen:((b.drop 1).take (b.getD 0 0).toNat).length=(b.getD 0 0).toNat:=by rw [Ao,Ac];omega
  have hc:=Gy ⟨((b.drop 1).take (b.getD 0 0).toNat).toArray⟩ (by show (List.toArray _).size<=_;simp only [Ci];omega)
  have e1:(IntKind.i64.wrap (1+IntKind.i64.wrap ((b.getD 0 0).toNat:Int)) - 1).toNat=(b.getD 0 0).toNat:=by rw [hw];omega
  refine Fn.st Tryz.func230 rfl ?_
  conv=>whnf
  refine Al (fun h=>?_) (fun h=>?_) <;> (repeat rw [Aa] at h) <;> conv=>whnf
  ·exfalso
   have h:(b.length:Int)=0:=h
   omega
  ·refine⟨by first | omega | (refine⟨rfl,?_,?_⟩ <;> first | omega | (simp only [Ab];done) | (simp only [Ab];omega)) | (simp only [Ab];omega),?_⟩
   conv=>whnf
   refine Al (fun h2=>?_) (fun h2=>?_) <;> (repeat rw [Aa] at h2) <;> conv=>whnf
   ·exfalso
    have h2:(b.length:Int)<IntKind.i64.wrap (1+IntKind.i64.wrap ((b.getD 0 0).toNat:Int)):=h2
    rw [hw] at h2
    omega
   ·refine⟨by first | omega | (refine⟨rfl,?_,?_⟩ <;> first | omega | (simp only [Ab];done) | (simp only [Ab];omega)) | (simp only [Ab];omega),?_⟩
    conv=>whnf
    have hw':IntKind.i64.wrap (1+IntKind.i64.wrap ((b.getD (Int.toNat 0) 0).toNat:Int))=((1+(b.getD 0 0).toNat:Nat):Int):=hw
    rw [hw']
    refine⟨⟨by omega,by omega,by omega,by omega⟩,?_⟩
    conv=>whnf
    refine⟨(b.drop 1).take (b.getD 0 0).toNat,⟨rfl,by rw [hlen];omega,fun i hi=>?_⟩,?_⟩
    ·have hi':i<(b.getD 0 0).toNat:=by omega
     show [AV.v (Value.int IntKind.u8 ((b.getD (i+1) 0).toNat:Int))]=_
     rw [show ((b.drop 1).take (b.getD 0 0).toNat).getD i 0=b.getD (i+1) 0 by rw [List.getD_eq_getElem?_getD,List.getElem?_take_of_lt hi',List.getElem?_drop,BS];rfl]
    conv=>whnf
    refine Fn.cl hc ?_
    conv=>whnf
    refine Al (fun h3=>?_) (fun h3=>?_) <;> (repeat rw [Aa] at h3) <;> conv=>whnf
    ·have h3:C5 ((b.drop 1).take (b.getD 0 0).toNat)≠0:=h3
     exact⟨_,ri,by rw [K_,Gz,if_neg hs,if_neg h3]⟩
    ·have h3:C5 ((b.drop 1).take (b.getD 0 0).toNat)=0:=h3
     exact⟨_,ri,by rw [K_,Gz,if_neg hs,if_pos h3]⟩
theorem RC (b:List UInt8) (hl:b.length<=100000):Fn Tryz.prog 233 [bA b] fun r=>r=match Gz b with | some (s,n)=> .tp [.v (.string s), .v (.int .i64 n)] | none=> .tp [.v (.string ⟨#[]⟩), .v (.int .i64 0)]:=by
 have hb0:=(b.getD 0 0).toNat_lt
 have hw:IntKind.i64.wrap (1+IntKind.i64.wrap ((b.getD 0 0).toNat:Int))=((1+(b.getD 0 0).toNat:Nat):Int):=by rw [wi (n:=((b.getD 0 0).toNat:Int)) (by omega),wi (by omega)];omega
 by_cases hs:b.length<1+(b.getD 0 0).toNat
 ·rw [show Gz b=none by rw [Gz,if_pos hs]]
  refine Fn.st Tryz.func233 rfl ?_
  conv=>whnf
  refine Al (fun h=>?_) (fun h=>?_) <;> (repeat rw [Aa] at h) <;> conv=>whnf
  ·exact⟨_,ri,rfl⟩
  ·refine⟨by first | omega | (refine⟨rfl,?_,?_⟩ <;> first | omega | (simp only [Ab];done) | (simp only [Ab];omega)) | (simp only [Ab];omega),?_⟩
   conv=>whnf
   refine Al (fun h2=>?_) (fun h2=>?_) <;> (repeat rw [Aa] at h2) <;> conv=>whnf
   ·exact⟨_,ri,rfl⟩
   ·exfalso
    have h2:IntKind.i64.wrap (1+IntKind.i64.wrap ((b.getD 0 0).toNat:Int))<=(b.length:Int):=h2
    rw [hw] at h2
    omega
 ·have hlen:((b.drop 1).take (b.getD 0 0).toNat).length=(b.getD 0 0).toNat:=by rw [Ao,Ac];omega
  have hsz:(⟨((b.drop 1).take (b.getD 0 0).toNat).toArray⟩:ByteArray).size=(b.getD 0 0).toNat:=by show (List.toArray _).size=_;simp only [Ci,hlen]
  have hc:=Jo ⟨((b.drop 1).take (b.getD 0 0).toNat).toArray⟩ (by rw [hsz];omega)
  have hw2:IntKind.i64.wrap (1+((⟨((b.drop 1).take (b.getD 0 0).toNat).toArray⟩:ByteArray).size:Int))=((1+(b.getD 0 0).toNat:Nat):Int):=by rw [hsz,wi (by omega)];omega
  refine Fn.st Tryz.func233 rfl ?_
  conv=>whnf
  refine Al (fun h=>?_) (fun h=>?_) <;> (repeat rw [Aa] at h) <;> conv=>whnf
  ·exfalso
   have h:(b.length:Int)=0:=h
   omega
  ·refine⟨by first | omega | (refine⟨rfl,?_,?_⟩ <;> first | omega | (simp only [Ab];done) | (simp only [Ab];omega)) | (simp only [Ab];omega),?_⟩
   conv=>whnf
   refine Al (fun h2=>?_) (fun h2=>?_) <;> (repeat rw [Aa] at h2) <;> conv=>whnf
   ·exfalso
    have h2:(b.length:Int)<IntKind.i64.wrap (1+IntKind.i64.wrap ((b.getD 0 0).toNat:Int)):=h2
    rw [hw] at h2
    omega
   ·refine⟨by first | omega | (refine⟨rfl,?_,?_⟩ <;> first | omega | (simp only [Ab];done) | (simp only [Ab];omega)) | (simp only [Ab];omega),?_⟩
    conv=>whnf
    have hw':IntKind.i64.wrap (1+IntKind.i64.wrap ((b.getD (Int.toNat 0) 0).toNat:Int))=((1+(b.getD 0 0).toNat:Nat):Int):=hw
    rw [hw']
    refine⟨⟨by omega,by omega,by omega,by omega⟩,?_⟩
    conv=>whnf
    refine⟨(b.drop 1).take (b.getD 0 0).toNat,⟨rfl,by rw [hlen];omega,fun i hi=>?_⟩,?_⟩
    ·have hi':i<(b.getD 0 0).toNat:=by omega
     show [AV.v (Value.int IntKind.u8 ((b.getD (i+1) 0).toNat:Int))]=_
     rw [show ((b.drop 1).take (b.getD 0 0).toNat).getD i 0=b.getD (i+1) 0 by rw [List.getD_eq_getElem?_getD,List.getElem?_take_of_lt hi',List.getElem?_drop,BS];rfl]
    conv=>whnf
    refine Fn.cl hc ?_
    conv=>whnf
    refine Al (fun h3=>?_) (fun h3=>?_) <;> (repeat rw [Aa] at h3) <;> conv=>whnf
    ·have h3:C5 ((b.drop 1).take (b.getD 0 0).toNat)≠0:=h3
     exact⟨_,ri,by rw [Gz,if_neg hs,if_neg h3]⟩
    ·have h3:C5 ((b.drop 1).take (b.getD 0 0).toNat)=0:=h3
     exact⟨_,ri,by rw [Gz,if_neg hs,if_pos h3];simp only;rw [hw2]⟩
theorem Ts (s:ByteArray) (hs:s.size<=255):Fn Tryz.prog 197 [.v (.string s)] fun r=>r=bA (Gd s):=by
 refine⟨⟨_,Tryz.func197,rfl,by decide⟩,fun c0 us hd hM _ hr=>?_⟩
 obtain⟨u1,rfl,h1⟩:=Xd hr
 simp only [Rd] at h1
 subst h1
 refine(RG s c0.w noM hs).mono ?_
 rintro e w' ⟨r,rfl,ho,hB⟩
 exact⟨_,_,rfl,rfl,hB,TA ho hM⟩
theorem RZ (s:ByteArray) (hs:s.size<=1000000):Fn Tryz.prog 181 [.v (.string s)] fun r=>r = .tp [bA (if C5 s.data.toList=0 then Gd s else []), .v (.int .i64 (C5 s.data.toList))]:=by
 have hc:=Gy s hs
 refine⟨⟨_,Tryz.func181,rfl,by decide⟩,fun c0 us hd hM hg hr=>?_⟩
 have hr0:=hr
 obtain⟨u1,rfl,h1⟩:=Xd hr
 simp only [Rd] at h1
 subst h1
 have hC:=hc.calls c0 _ hd hM hg hr0
 by_cases h0:C5 s.data.toList=0
 ·have h24:=Ge h0
  have hv:Lib.validD s.data.toList=true:=by
   unfold C5 at h0
   split at h0
   ·cases h0
   ·rename_i h;simp at h;exact h.2
  rw [if_pos h0]
  rw [h0] at hC |-
  refine(TR s c0.w noM (by have:s.size=s.data.toList.length:=rfl;omega) hv (hC.mono ?_)).mono ?_
  ·rintro e w' ⟨v,r,rfl,rfl,q1,q2⟩
   simp only [Rd] at q2
   exact⟨by rw [q2],q1⟩
  ·rintro e w' ⟨r,rfl,ho,hB⟩
   exact⟨_,_,rfl,rfl,hB,Nj (TA ho hM) (PR _)⟩
 ·rw [if_neg h0]
  refine(VC s c0.w (C5 s.data.toList) (by simpa using h0) (hC.mono ?_)).mono ?_
  ·rintro e w' ⟨v,r,rfl,rfl,q1,q2⟩
   simp only [Rd] at q2
   exact⟨by rw [q2],q1⟩
  ·rintro e w' ⟨rfl,hB⟩
   refine⟨_,_,rfl,rfl,hB,Nj ?_ (PR _)⟩
   exact AP 1 (fun i=> [.v (.int .u8 (([]:List UInt8).getD i 0).toNat)]) _ (.slice none 0 0) (by simp [Rd])
def EB (x:UInt8):List AV:= [.v (.int .u8 x.toNat)]
def Sj (x:Int):List AV:= [.v (.int .i64 x)]
theorem OZ {w:World} {M:Ms}:∀ {l:List UInt8} {xs:List Value},Elems (Rp.sz UInt8) (Rp.E w M) xs l->xs=l.map fun x=> .int .u8 x.toNat
 | [],_,h=>h
 | x::l,_,h=>by
  obtain⟨cs,ys,rfl,_,h2,h3⟩:=h
  have h2:cs=[.int .u8 x.toNat]:=h2
  rw [h2,OZ h3]
  rfl
theorem QH (c:Ctx):∀ l:List UInt8,RdL (l.map EB).flatten c (l.map fun x=> .int .u8 x.toNat)
 | []=>by simp [RdL]
 | x::l=>by
  simp only [Ay,Az,EB,Be,Bk,RdL]
  exact⟨_,_,rfl,by simp [Rd],QH c l⟩
theorem HS.bytes {w0:Fl} {M0:Ms} {c:Ctx} {H:List AB} (h:HS w0 M0 c H) {w':World} (hb:Below c.w.heap.size c.w w') {M:Ms} {v:Value} {l:List UInt8} (ho:OwR w' M c.w.heap.size 5 v l) :
  ∃ c',c'.w=w'/\HS w0 M0 c' (H ++ [.row 5 1 (l.map EB)])/\Ext c c'/\Rd (.ow H.length l.length) c' v:=by
 obtain⟨xs,h1,h2⟩:=ho
 have hx:=OZ h2
 subst hx
 obtain⟨a,b,d⟩:=h.newrow (es:=l.map EB) (t:=5) (sz:=1) hb (by omega) (fun e he=>by obtain⟨x,_,rfl⟩:=AH.1 he;rfl) (by rw [Ab];exact h1) (fun u hu=>by obtain⟨x,_,rfl⟩:=AH.1 hu;rfl) (QH _ l)
 rw [Ab] at a b d
 exact⟨_,rfl,a,b,d⟩
theorem ACalls.ofBytes {P:Program} {f:FuncId} {args:List AV} {l:List UInt8} (hg:Wa P f)
  (h:∀ (c:Ctx) (us:List Value),RdL args c us->Calls P f us.toArray c.w fun e w'=>∃ r,e = .returned (.tuple #[r, .int .i64 0])/\OwR w' noM c.w.heap.size 5 r l/\Below c.w.heap.size c.w w') :
  ACalls P false f args [] fun r H=>r = .tp [.ow 0 l.length, .v (.int .i64 0)]/\H=[.row 5 1 (l.map EB)]:=by
 refine⟨hg,fun w0 M0 c us hs hr=>(h c us hr).mono ?_⟩
 rintro e w' ⟨r,rfl,ho,hB⟩
 obtain⟨c',e1,e2,e3,e4⟩:=hs.bytes hB ho
 exact⟨_,c',_,_,rfl,e1,⟨rfl,rfl⟩,e2,e3,Nj e4 (PR _),fun h=>by cases h⟩
theorem SW {c:Ctx} {u:Value} {b:List Int} (h:Rd (iA b) c u):SlR c.w c.M u b:=by
 simp only [iA,Rd] at h
 obtain⟨a,k,rfl,h1,h2,h3⟩:=h
 refine⟨a,k,b.map fun x=> .int .i64 x,rfl,h1,h2,?_,fun hne=>?_⟩
 ·refine Elems.of_get (by simp [Rp.sz]) fun i x hx=>⟨[.int .i64 x],rfl,rfl,fun j hj=>?_⟩
  have hj:j<1:=hj
  obtain rfl:j=0:=by omega
  simp [Rp.sz,hx]
 ·rcases h3 with h3 | ⟨bl,off,rfl,hm,hb,hc⟩
  ·exact absurd (AZ h3) hne
  ·refine⟨bl,off,rfl,hm,fun j u hu=>?_⟩
   rw [List.getElem?_map] at hu
   cases hq:b[j]? with
   | none=>rw [hq] at hu;simp at hu
   | some x=>
    rw [hq] at hu
    simp at hu
    subst hu
    have hlt:=(List.getElem?_eq_some_iff.1 hq).1
    have:=(hc j hlt).2
    simp only [RdAt,Rd] at this
    obtain⟨⟨u,e1,_,rfl⟩,_⟩:=this
    rw [Dx] at e1
    rw [show b.getD j 0=x by rw [List.getD_eq_getElem?_getD,hq];rfl] at e1
    exact e1
theorem I4 (ns ss:List Int) (hl:ns.length=ss.length) (hn:ns.length<=1000) (hf:∀ k (a:k<ns.length) (b:k<ss.length),DX ss[k]/\0<=ns[k]/\ns[k]<CG ss[k]) :
  ACalls Tryz.prog false 135 [iA ns,iA ss] [] fun r H=>r = .tp [.ow 0 (rowB ns ss).length, .v (.int .i64 0)]/\H=[.row 5 1 ((rowB ns ss).map EB)]:=by
 refine ACalls.ofBytes ⟨_,Tryz.func135,rfl,by decide⟩ fun c us hr=>?_
 obtain⟨u1,u2,rfl,h1,h2⟩:=X4 hr
 exact Vf u1 u2 ns ss c.w noM c.M c.M (SW h1) (SW h2) hl hn hf
theorem T7 (l:List UInt8) (hl:l.length<=255):ACalls Tryz.prog false 137 [bA l] [] fun r H=>r = .tp [.ow 0 (UInt8.ofNat l.length::l).length, .v (.int .i64 0)]/\H=[.row 5 1 ((UInt8.ofNat l.length::l).map EB)]:=by
 refine ACalls.ofBytes ⟨_,Tryz.func137,rfl,by decide⟩ fun c us hr=>?_
 obtain⟨u1,rfl,h1⟩:=Xd hr
 exact Oz u1 l c.w noM c.M (Gk h1) hl
theorem Vs (l:List UInt8) (n size:Int) (hs:DX size) (hl:l.length<=1000000) (h0:0<=n) (h1:n<CG size):ACalls Tryz.prog false 138 [bA l, .v (.int .i64 n), .v (.int .i64 size)] [] fun r H=>r = .tp [.ow 0 (l ++ leB size.toNat n.toNat).length, .v (.int .i64 0)]/\H=[.row 5 1 ((l ++ leB size.toNat n.toNat).map EB)]:=by
 refine ACalls.ofBytes ⟨_,Tryz.func138,rfl,by decide⟩ fun c us hr=>?_
 simp only [RdL] at hr
 obtain⟨u1,_,rfl,h1',u2,_,rfl,h2',u3,_,rfl,h3',rfl⟩:=hr
 simp only [Rd] at h2' h3'
 subst h2' h3'
 exact I8 u1 l n size c.w noM c.M (Gk h1') hs hl h0 h1
inductive TrM where
 | fin
 | one (i:Nat) (r:TrM)
 | two (i:Nat) (a:TrM) (j:Nat) (b:TrM)
 | three (i:Nat) (a:TrM) (j:Nat) (b:TrM) (k:Nat) (d:TrM)
def TrM.depth:TrM->Nat
 | .fin=>0
 | .one _ r=>r.depth+1
 | .two _ a _ b=>max a.depth b.depth+1
 | .three _ a _ b _ d=>max a.depth (max b.depth d.depth)+1
def ID (ops:Array Oper) (B:List Nat) (mk:Nat) (j:Nat):Bool:=
 (List.range ops.size).any fun i=>!(((ops[i]?).map fun o=>isEff o.op || pureOp o.op).getD true)&&!mk.testBit i&&i != j&&!(B.getD j 0).testBit i&&!(B.getD i 0).testBit j
section
variable {P:Program} {ops:Array Oper} {B:List Nat} {Q:Exit->Act->World->Prop} {mk:Nat}
def HeldM (P:Program) (ops:Array Oper) (B:List Nat) (mk:Nat) (Q:Exit->Act->World->Prop):Nat->Array Bool->Act->World->Prop
 | 0,l,a,w=>Region.ready .any ops l=[]/\Q .normal a w
 | n+1,l,a,w=>(Region.ready .any ops l=[]->Q .normal a w)/\
   ∀ i∈Region.ready .any ops l,wpOp P ops Q i (fun a' w'=>(ID ops B mk i=true->Old w w')/\HeldM P ops B mk Q n (l.setIfInBounds i true) a' w') a w
theorem HeldM.any:∀ (n:Nat) (l:Array Bool) (a:Act) (w:World),HeldM P ops B mk Q n l a w->wpAny P .any ops Q n l a w
 | 0,_,_,_,h=>h
 | n+1,_,_,_,h=>⟨h.1,fun i hi=>wpOp_mono (fun a' w' h'=>HeldM.any n _ a' w' h'.2) (h.2 i hi)⟩
theorem HeldM.first (hB:FP ops B=true) {i:Nat} {oi:Oper} {v:Value} (hi:ops[i]? = some oi) (hmk:mk.testBit i=false) (hdet:isEff oi.op=false)
  (hsel:∀ (j:Nat) (o:Oper) cs b,ops[j]? = some o->o.op≠ .select cs b)
  (hQ:∀ c a w,Q (.panic c) (a.put oi.dst v) w->Q (.panic c) a w) {S:World->Prop} (hk:∀ w w',S w->(pureOp oi.op=false->Old w w')->S w'):∀ (n:Nat) (l:Array Bool) (a:Act) (w:World),Cl ops l->
   (∀ j oj,ops[j]? = some oj->j≠i->l.getD j true=false->(∀ e∈oj.after,Region.binds .any e=true->e.on≠i)->oi.apart ops oj=true)->
   i∈Region.ready .any ops l->YieldsIf P ops S oi v a->S w->HeldM P ops B mk Q n (l.setIfInBounds i true) (a.put oi.dst v) w->HeldM P ops B mk Q (n+1) l a w:=by
 intro n
 induction n with
 | zero=>
  intro l a w _ _ hr hy hS H
  refine⟨fun h=>(by rw [h] at hr;cases hr),fun j hj=>?_⟩
  by_cases hji:j=i
  ·subst hji;exact hy.wpOp hi hS ⟨fun _=>Old.refl _,H⟩
  ·have h1:=ready_mono hj hji
   rw [H.1] at h1
   cases h1
 | succ n ih=>
  intro l a w hcl hfree hr hy hS H
  refine⟨fun h=>(by rw [h] at hr;cases hr),fun j hj=>?_⟩
  by_cases hji:j=i
  ·subst hji;exact hy.wpOp hi hS ⟨fun _=>Old.refl _,H⟩
  have h1:=H.2 j (ready_mono hj hji)
  obtain⟨hjun,oj,hoj,hall⟩:=mem_ready.1 hj
  obtain⟨hiun,oi',hoi',halli⟩:=mem_ready.1 hr
  rw [hi] at hoi'
  cases hoi'
  have unl:∀ k,l.getD k true=false->l.getD k false=true->False:=by
   intro k h1 h2
   rcases Bx k l.size with h' | h'
   ·simp [h'] at h1 h2;rw [h1] at h2;cases h2
   ·simp [Array.getElem?_eq_none h'] at h2
  have hnot:∀ e∈oj.after,Region.binds .any e=true->e.on≠i:=fun e he hb heq=>unl i hiun (heq ▸ hall e he hb)
  have hmay:pureOp oi.op=false->ID ops B mk j=true:=by
   intro hpu
   refine B6.2 ⟨i,AC.2 (Array.getElem?_eq_some_iff.1 hi).1,?_⟩
   have hne:(i != j)=true:=by rw [bne_iff_ne];exact fun h=>hji h.symm
   have b1:(B.getD j 0).testBit i=false:=by
    rw [<-AQ];exact fun h=>unl i hiun (XA hB hcl j oj hoj hall i h)
   have b2:(B.getD i 0).testBit j=false:=by
    rw [<-AQ];exact fun h=>unl j hjun (XA hB hcl i oi hi halli j h)
   simp only [hi,Option.map_some,Bj,hdet,hpu,hne,b1,b2,hmk,Bool.or_false,Bool.not_false,B7]
  have h2:=wpOp_putIf hoj (hfree j oj hoj hji hjun hnot) (fun cs b=>hsel i oi cs b hi) (fun cs b=>hsel j oj cs b hoj) hQ hy h1
  refine wpOp_mono (fun a' w' h3=>⟨h3.2.1,ih (l.setIfInBounds j true) a' w' (hcl.set hj) (fun k ok hk hki hun hno=>?_) (ready_mono hr (Ne.symm hji)) h3.1 (hk _ _ hS fun hp=>h3.2.1 (hmay hp)) ?_⟩) h2
  ·refine hfree k ok hk hki ?_ hno
   by_cases hjk:j=k
   ·subst hjk;exact hjun
   ·rw [getD_set_ne true hjk] at hun;exact hun
  ·rw [Array.setIfInBounds_comm _ _ hji]
   exact h3.2.2

theorem HeldM.first1 (hB:FP ops B=true) {i:Nat} {oi:Oper} {v:Value} (hi:ops[i]? = some oi) (hmk:mk.testBit i=false) (hdet:isEff oi.op=false)
  (hsel:∀ (j:Nat) (o:Oper) cs b,ops[j]? = some o->o.op≠ .select cs b)
  (hQ:∀ c a w,Q (.panic c) (a.put oi.dst v) w->Q (.panic c) a w) (n:Nat) (l:Array Bool) (a:Act) (w:World) (hcl:Cl ops l)
  (hfree:∀ j oj,ops[j]? = some oj->j≠i->l.getD j true=false->(∀ e∈oj.after,Region.binds .any e=true->e.on≠i)->oi.apart ops oj=true)
  (hr:i∈Region.ready .any ops l) (hy:YieldsIf P ops (Old w) oi v a) (H:HeldM P ops B mk Q n (l.setIfInBounds i true) (a.put oi.dst v) w):HeldM P ops B mk Q (n+1) l a w:=by
 cases hp:pureOp oi.op with
 | true=>
  refine HeldM.first hB hi hmk hdet hsel hQ (S:=fun _=>True) (fun _ _ _ _=>trivial) n l a w hcl hfree hr ?_ trivial H
  rcases hy with ⟨h1,h2⟩ | h
  ·exact .inl ⟨h1,fun w' _=>QI hp (h2 w (Old.refl w)) w'⟩
  ·exact .inr h
 | false=>
  exact HeldM.first hB hi hmk hdet hsel hQ (S:=Old w) (fun _ _ h1 h2=>h1.trans (h2 hp)) n l a w hcl hfree hr hy (Old.refl w) H

def qM (mk:Nat) (i:Nat) (o:Op):Bool:=qOf o&&!mk.testBit (i+128)
def Ex (P:Program) (T:Tys) (n mk:Nat) (ops:Array Oper) (i:Nat) (fr:Fr) (H:List AB) (K:Fr->List AB->Prop):Prop:=
 match Jw ops.toList i with
 | none=>False
 | some o=>Il ops.toList o fr (fun fr=>GC P T n (qM mk i o.op) o fr H K) fun fr=>Na n o.dst (.v undef) fr fun fr=>K fr H
def Kf (ops:Array Oper) (B:List Nat) (mk:Nat) (i:Nat):Bool:=match ops[i]? with | some o=>(qM mk i o.op || !ID ops B mk i) | none=>false
def treeM (ops:Array Oper) (B:List Nat) (mk:Nat):TrM->Array Bool->Bool
 | .fin,l=>(Region.ready .any ops l).isEmpty
 | .one i r,l=>(match ops[i]? with
   | none=>false
   | some o=>match isEff o.op with
    | true=>(match Region.ready .any ops l with | [j]=>Nat.beq i j | _=>false)&&(qM mk i o.op || !ID ops B mk i)
    | false=>match mk.testBit i with
     | true=>(match Region.ready .any ops l with | [j]=>Nat.beq i j | _=>false)&&(qM mk i o.op || !ID ops B mk i)
     | false=>Region.free .any ops l i&&(Region.ready .any ops l).contains i)&&treeM ops B mk r (l.setIfInBounds i true)
 | .two i a j b,l=>(match Region.ready .any ops l with | [x,y]=>Nat.beq x i&&Nat.beq y j | _=>false)&&Kf ops B mk i&&Kf ops B mk j&&treeM ops B mk a (l.setIfInBounds i true)&&treeM ops B mk b (l.setIfInBounds j true)
 | .three i a j b k d,l=>(match Region.ready .any ops l with | [x,y,z]=>Nat.beq x i&&Nat.beq y j&&Nat.beq z k | _=>false)&&Kf ops B mk i&&Kf ops B mk j&&Kf ops B mk k&&treeM ops B mk a (l.setIfInBounds i true)&&treeM ops B mk b (l.setIfInBounds j true)&&treeM ops B mk d (l.setIfInBounds k true)
def Ic (P:Program) (T:Tys) (n mk:Nat) (ops:Array Oper):TrM->Fr->List AB->(Fr->List AB->Prop)->Prop
 | .fin,fr,H,K=>K fr H
 | .one i r,fr,H,K=>Ex P T n mk ops i fr H fun fr H=>Ic P T n mk ops r fr H K
 | .two i a j b,fr,H,K=>(Ex P T n mk ops i fr H fun fr H=>Ic P T n mk ops a fr H K)/\(Ex P T n mk ops j fr H fun fr H=>Ic P T n mk ops b fr H K)
 | .three i a j b k d,fr,H,K=>(Ex P T n mk ops i fr H fun fr H=>Ic P T n mk ops a fr H K)/\(Ex P T n mk ops j fr H fun fr H=>Ic P T n mk ops b fr H K)/\(Ex P T n mk ops k fr H fun fr H=>Ic P T n mk ops d fr H K)
variable {T:Tys} {w0:Fl} {M0:Ms} {n d0:Nat} {ce:Ctx}
theorem EM (hT:TOk P T) {i:Nat} {o:Oper} (ho:ops[i]? = some o) {m:Nat} {l:Array Bool} (hmq:(qM mk i o.op || !ID ops B mk i)=true) {c:Ctx} {fr:Fr} {H:List AB} {a:Act} (hs:HS w0 M0 c H) (hf:FR w0 c n fr a) (he:Ext ce c) {K:Fr->List AB->Prop}
  (hk:∀ (c':Ctx) (fr':Fr) (H':List AB) (a':Act),HS w0 M0 c' H'->FR w0 c' n fr' a'->Ext ce c'->K fr' H'->HeldM P ops B mk Q m (l.setIfInBounds i true) a' c'.w)
  (h:Ex P T n mk ops i fr H K):wpOp P ops Q i (fun a' w'=>(ID ops B mk i=true->Old c.w w')/\HeldM P ops B mk Q m (l.setIfInBounds i true) a' w') a c.w:=by
 simp only [Ex,DU] at h
 rw [show ops.toList[i]? = some o by simpa using ho] at h
 simp only at h
 refine wpOp_step ho fun KK hK=>?_
 rcases Da hf h with ⟨hw,fr',hf',h⟩ | ⟨hw,fr',hf',h⟩
 ·rw [if_pos hw]
  refine EY hT hs hf' he h ?_
  rintro a' w' ⟨c',fr2,H',rfl,h1,h2,h3,h4⟩ hold
  refine hK _ _ ⟨fun hmay=>hold ?_,hk c' fr2 H' a' h2 h3 h4 h1⟩
  rw [hmay] at hmq
  simpa using hmq
 ·rw [if_neg (by rw [hw];simp)]
  obtain⟨fr2,h1,h2⟩:=BV (v:=undef) hf' (by simp [Rd]) h
  exact hK _ _ ⟨fun _=>Old.refl _,hk c fr2 H _ hs h2 he h1⟩
theorem Dj (hT:TOk P T) (hB:FP ops B=true) (hns:Region.noSelect ops=true) {K:Fr->List AB->Prop} (hq:∀ a w,DR w0 M0 ce n K a w->Q .normal a w) (hpan:∀ c a w,¬Q (.panic c) a w) :
  ∀ (r:TrM) (m:Nat) (l:Array Bool) (c:Ctx) (fr:Fr) (H:List AB) (a:Act),r.depth<=m->Cl ops l->treeM ops B mk r l=true->HS w0 M0 c H->FR w0 c n fr a->Ext ce c->Ic P T n mk ops r fr H K->HeldM P ops B mk Q m l a c.w
 | .fin,m,l,c,fr,H,a,hm,hcl,hd,hs,hf,he,h=>by
  simp only [treeM,List.isEmpty_iff] at hd
  cases m with
  | zero=>exact⟨hd,hq _ _ ⟨c,fr,H,rfl,h,hs,hf,he⟩⟩
  | succ m=>exact⟨fun _=>hq _ _ ⟨c,fr,H,rfl,h,hs,hf,he⟩,by rw [hd];simp⟩
 | .two i x j y,m,l,c,fr,H,a,hm,hcl,hd,hs,hf,he,h=>by
  cases m with
  | zero=>simp [TrM.depth] at hm
  | succ m=>
   simp only [TrM.depth] at hm
   simp only [treeM,Bool.and_eq_true] at hd
   obtain⟨⟨⟨⟨hr,hi⟩,hj⟩,hx⟩,hy⟩:=hd
   have hr':Region.ready .any ops l=[i,j]:=by
    split at hr
    ·rename_i p q hpq
     simp only [Bool.and_eq_true] at hr
     rw [hpq,Ah hr.1,Ah hr.2]
    ·cases hr
   obtain⟨h1,h2⟩:=h
   have go:∀ k r,Kf ops B mk k=true->r.depth<=m->k∈Region.ready .any ops l->treeM ops B mk r (l.setIfInBounds k true)=true->(Ex P T n mk ops k fr H fun fr H=>Ic P T n mk ops r fr H K)->(∀ (c:Ctx) (fr:Fr) (H:List AB) (a:Act),HS w0 M0 c H->FR w0 c n fr a->Ext ce c->Ic P T n mk ops r fr H K->HeldM P ops B mk Q m (l.setIfInBounds k true) a c.w)->
     wpOp P ops Q k (fun a' w'=>(ID ops B mk k=true->Old c.w w')/\HeldM P ops B mk Q m (l.setIfInBounds k true) a' w') a c.w:=by
    intro k r hk _ _ _ hst hrec
    unfold Kf at hk
    split at hk
    ·rename_i o ho
     exact EM hT ho hk hs hf he hrec hst
    ·cases hk
   refine⟨fun h0=>(by rw [hr'] at h0;cases h0),fun k hk=>?_⟩
   have hi':i∈Region.ready .any ops l:=by rw [hr'];simp
   have hj':j∈Region.ready .any ops l:=by rw [hr'];simp
   rw [hr',Bq,BG] at hk
   rcases hk with rfl | rfl
   ·exact go k x hi (by omega) hi' hx h1 fun c' fr' H' a' q1 q2 q3 q4=>Dj hT hB hns hq hpan x m _ c' fr' H' a' (by omega) (hcl.set hi') hx q1 q2 q3 q4
   ·exact go k y hj (by omega) hj' hy h2 fun c' fr' H' a' q1 q2 q3 q4=>Dj hT hB hns hq hpan y m _ c' fr' H' a' (by omega) (hcl.set hj') hy q1 q2 q3 q4
 | .three i x j y k0 z,m,l,c,fr,H,a,hm,hcl,hd,hs,hf,he,h=>by
  cases m with
  | zero=>simp [TrM.depth] at hm
  | succ m=>
   simp only [TrM.depth] at hm
   simp only [treeM,Bool.and_eq_true] at hd
   obtain⟨⟨⟨⟨⟨⟨hr,hi⟩,hj⟩,hk0⟩,hx⟩,hy⟩,hz⟩:=hd
   have hr':Region.ready .any ops l=[i,j,k0]:=by
    split at hr
    ·rename_i p q u hpq
     simp only [Bool.and_eq_true] at hr
     rw [hpq,Ah hr.1.1,Ah hr.1.2,Ah hr.2]
    ·cases hr
   obtain⟨h1,h2,h3⟩:=h
   have go:∀ k r,Kf ops B mk k=true->r.depth<=m->k∈Region.ready .any ops l->treeM ops B mk r (l.setIfInBounds k true)=true->(Ex P T n mk ops k fr H fun fr H=>Ic P T n mk ops r fr H K)->(∀ (c:Ctx) (fr:Fr) (H:List AB) (a:Act),HS w0 M0 c H->FR w0 c n fr a->Ext ce c->Ic P T n mk ops r fr H K->HeldM P ops B mk Q m (l.setIfInBounds k true) a c.w)->
     wpOp P ops Q k (fun a' w'=>(ID ops B mk k=true->Old c.w w')/\HeldM P ops B mk Q m (l.setIfInBounds k true) a' w') a c.w:=by
    intro k r hk _ _ _ hst hrec
    unfold Kf at hk
    split at hk
    ·rename_i o ho
     exact EM hT ho hk hs hf he hrec hst
    ·cases hk
   refine⟨fun h0=>(by rw [hr'] at h0;cases h0),fun k hk=>?_⟩
   have hi':i∈Region.ready .any ops l:=by rw [hr'];simp
   have hj':j∈Region.ready .any ops l:=by rw [hr'];simp
   have hk':k0∈Region.ready .any ops l:=by rw [hr'];simp
   rw [hr',Bq,Bq,BG] at hk
   rcases hk with rfl | rfl | rfl
   ·exact go k x hi (by omega) hi' hx h1 fun c' fr' H' a' q1 q2 q3 q4=>Dj hT hB hns hq hpan x m _ c' fr' H' a' (by omega) (hcl.set hi') hx q1 q2 q3 q4
   ·exact go k y hj (by omega) hj' hy h2 fun c' fr' H' a' q1 q2 q3 q4=>Dj hT hB hns hq hpan y m _ c' fr' H' a' (by omega) (hcl.set hj') hy q1 q2 q3 q4
   ·exact go k z hk0 (by omega) hk' hz h3 fun c' fr' H' a' q1 q2 q3 q4=>Dj hT hB hns hq hpan z m _ c' fr' H' a' (by omega) (hcl.set hk') hz q1 q2 q3 q4
 | .one i r,m,l,c,fr,H,a,hm,hcl,hd,hs,hf,he,h=>by
  cases m with
  | zero=>simp [TrM.depth] at hm
  | succ m=>
   simp only [TrM.depth,Nat.add_le_add_iff_right] at hm
   simp only [treeM,Bool.and_eq_true] at hd
   obtain⟨hd1,hd2⟩:=hd
   simp only [Ic] at h
   cases ho:ops[i]? with
   | none=>rw [ho] at hd1;simp at hd1
   | some o=>
    rw [ho] at hd1
    simp only at hd1
    cases hE:isEff o.op with
    | true=>
     rw [hE] at hd1
     simp only [Bool.and_eq_true] at hd1
     obtain⟨hr,hmq⟩:=hd1
     have hr':Region.ready .any ops l=[i]:=by
      split at hr
      ·rename_i j hj;rw [hj,Ah hr]
      ·cases hr
     have hri:i∈Region.ready .any ops l:=by rw [hr'];simp
     refine⟨fun h0=>(by rw [hr'] at h0;cases h0),fun j hj=>?_⟩
     rw [hr',BG] at hj
     subst hj
     exact EM hT ho hmq hs hf he (fun c' fr' H' a' q1 q2 q3 q4=>Dj hT hB hns hq hpan r m _ c' fr' H' a' hm (hcl.set hri) hd2 q1 q2 q3 q4) h
    | false=>
     rw [hE] at hd1
     dsimp only at hd1
     cases hM:mk.testBit i with
     | true=>
      rw [hM] at hd1
      simp only [Bool.and_eq_true] at hd1
      obtain⟨hr,hmq⟩:=hd1
      have hr':Region.ready .any ops l=[i]:=by
       split at hr
       ·rename_i j hj;rw [hj,Ah hr]
       ·cases hr
      have hri:i∈Region.ready .any ops l:=by rw [hr'];simp
      refine⟨fun h0=>(by rw [hr'] at h0;cases h0),fun j hj=>?_⟩
      rw [hr',BG] at hj
      subst hj
      exact EM hT ho hmq hs hf he (fun c' fr' H' a' q1 q2 q3 q4=>Dj hT hB hns hq hpan r m _ c' fr' H' a' hm (hcl.set hri) hd2 q1 q2 q3 q4) h
     | false=>
     rw [hM] at hd1
     simp only [Bool.and_eq_true] at hd1
     obtain⟨hfree,hr⟩:=hd1
     have hri:i∈Region.ready .any ops l:=by simpa using hr
     simp only [Ex,DU] at h
     rw [show ops.toList[i]? = some o by simpa using ho] at h
     simp only at h
     have step:∀ v fr2,YieldsIf P ops (Old c.w) o v a->FR w0 c n fr2 (a.put o.dst v)->Ic P T n mk ops r fr2 H K->HeldM P ops B mk Q (m+1) l a c.w:=by
      intro v fr2 hy hf2 h2
      exact HeldM.first1 hB ho hM hE (Region.noSelect_spec hns) (fun c a w h=>(hpan _ _ _ h).elim) m l a c.w hcl (Region.free_spec ho hfree) hri hy
       (Dj hT hB hns hq hpan r m _ c fr2 H _ hm (hcl.set hri) hd2 hs hf2 he h2)
     rcases Da hf h with ⟨hw,fr',hf',h⟩ | ⟨hw,fr',hf',h⟩
     ·unfold GC at h
      rw [hE] at h
      obtain⟨rr,v,h1,h2,h3⟩:=(Gg hT hs hf' h).y
      obtain⟨fr2,h4,h5⟩:=BV hf' h3 h1
      exact step v fr2 (.inl ⟨hw,h2⟩) h5 h4
     ·obtain⟨fr2,h4,h5⟩:=BV (v:=undef) hf' (by simp [Rd]) h
      exact step undef fr2 (.inr ⟨hw,rfl⟩) h5 h4
def Iw (ops:Array Oper) (mk:Nat) (tr:TrM):Bool:=FP ops (J4 ops)&&Region.noSelect ops&&Nat.ble tr.depth ops.size&&treeM ops (J4 ops) mk tr (Array.replicate ops.size false)
theorem aDraw.treeM (mk:Nat) (hT:TOk P T) (hm:P.follows .mixedOrders=true) {id:Nat} {K:Fr->List AB->Prop} {fr:Fr} {H:List AB} (tr:TrM) (ds:List Nat) {F:Fr} {H2:List AB} (hok:Iw ops mk tr=true)
  (h:Ic P T n mk ops tr fr H fun fr' H'=>canonK (ds ++ slots fr) fr' fun l=>l=F/\H'=H2) (hk:K F H2):aDraw P T n d0 id ops K fr H:=by
 simp only [Iw,Bool.and_eq_true] at hok
 obtain⟨⟨⟨hB,hns⟩,hlen⟩,hok⟩:=hok
 refine⟨fun w0 M0 ce c a hs hf he hd Q hQ=>?_⟩
 refine wp_mono (Q:=fun e a w=>e = .normal/\DR w0 M0 ce n (fun fr' H'=>canonK (ds ++ slots fr) fr' fun l=>l=F/\H'=H2) a w) ?_ ?_
 ·refine wp_region_any hm (HeldM.any (B:=J4 ops) (mk:=mk) _ _ _ _ ?_)
  have hb:=(Below.refl c.w.heap.size c.w).drew
  obtain⟨h1,h2⟩:=hs.grow hb
  refine Dj (w0:=w0) (M0:=M0) (ce:=ce) hT hB hns (fun a w hl=>⟨rfl,hl⟩) (fun c a w h=>by cases h.1) tr _ _ { c with w:=c.w.drew } fr H a (Ad hlen) ?_ hok h1 (hf.ext h2) (he.trans h2) h
  intro j o hj hlj
  rcases Bx j ops.size with h' | h'
  ·simp [h'] at hlj
  ·simp [Array.getElem?_eq_none h'] at hj
 ·rintro e a w ⟨rfl,c',fr',H',rfl,h1,h2,h3,h4⟩
  obtain⟨e1,rfl⟩:=canonK_iff h1
  exact hQ c' F H' a hk h2 (e1 ▸ h3.canon _) h4
theorem aDraw.treeK (mk:Nat) (hT:TOk P T) (hm:P.follows .mixedOrders=true) {id:Nat} {K:Fr->List AB->Prop} {fr:Fr} {H:List AB} (tr:TrM) (hok:Iw ops mk tr=true)
  (h:Ic P T n mk ops tr fr H K):aDraw P T n d0 id ops K fr H:=by
 simp only [Iw,Bool.and_eq_true] at hok
 obtain⟨⟨⟨hB,hns⟩,hlen⟩,hok⟩:=hok
 refine⟨fun w0 M0 ce c a hs hf he hd Q hQ=>?_⟩
 refine wp_mono (Q:=fun e a w=>e = .normal/\DR w0 M0 ce n K a w) ?_ ?_
 ·refine wp_region_any hm (HeldM.any (B:=J4 ops) (mk:=mk) _ _ _ _ ?_)
  have hb:=(Below.refl c.w.heap.size c.w).drew
  obtain⟨h1,h2⟩:=hs.grow hb
  refine Dj (w0:=w0) (M0:=M0) (ce:=ce) hT hB hns (fun a w hl=>⟨rfl,hl⟩) (fun c a w h=>by cases h.1) tr _ _ { c with w:=c.w.drew } fr H a (Ad hlen) ?_ hok h1 (hf.ext h2) (he.trans h2) h
  intro j o hj hlj
  rcases Bx j ops.size with h' | h'
  ·simp [h'] at hlj
  ·simp [Array.getElem?_eq_none h'] at hj
 ·rintro e a w ⟨rfl,c',fr',H',rfl,h1,h2,h3,h4⟩
  exact hQ c' fr' H' a h1 h2 h3 h4
end
theorem CH (b:List UInt8) (hb:b.length<=1000000000):Fn Tryz.prog 102 [bA b] fun r=>r=bA b:=by
 refine Fn.st Tryz.func102 rfl ?_
 refine And.intro (fun h=>?_) ?_
 ·conv=>whnf
  exact⟨bA b,fun c v hv=>by rw [AU.1 h];exact AP 1 _ c v hv,rfl⟩
 ·refine⟨⟨rfl,by omega⟩,?_⟩
  refine⟨by simp,?_⟩
  exact⟨bA b,fun c v hv=>Rd.congr (by omega) (fun i hi=>Ei (by omega)) hv,rfl⟩
theorem J1 {l:List UInt8} {k:Nat} (hk:k<l.length) (h4:k<4):IntKind.i64.wrap ((BitVec.ofInt IntKind.i64.bits ((leN (l.take k):Nat):Int) ||| BitVec.ofInt IntKind.i64.bits (IntKind.i64.wrap (IntKind.i64.wrap ((l.getD k 0).toNat:Int)*2 ^ min (IntKind.i64.wrap (8*(k:Int))).toNat IntKind.i64.bits))).toNat:Int)=((leN (l.take (k+1)):Nat):Int):=by
 have h:=Uf hk h4
 have e1:IntKind.i64.wrap (8*(k:Int))=8*(k:Int):=IntWalk.i64_in _ (by omega)
 have e2:IntKind.i64.wrap ((l.getD k 0).toNat:Int)=((l.getD k 0).toNat:Int):=IntWalk.i64_in _ (by have:=(l.getD k 0).toNat_lt;omega)
 have e3:l.getD k 0=l[k]:=by rw [List.getD_eq_getElem?_getD,List.getElem?_eq_getElem hk];rfl
 rw [e1,e2,show (8*(k:Int)).toNat=8*k by omega,Co (by show 8*k<=64;omega),e3]
 have e4:∀ n:Int,wrap64 n=IntKind.i64.wrap n:=fun n=>by rw [IntKind.wrap_i64,wrap64]
 rw [e4] at h
 exact h
theorem A6 {b:List UInt8} {n m:Nat} (hn:n=b.length - m) (c:Ctx) (u:Value) (h:Rd (.sl 1 n fun i=> [.v (.int .u8 (b.getD (i+m) 0).toNat)]) c u):Rd (bA (b.drop m)) c u:=
 Rd.congr (by rw [Ac];exact hn) (fun i _=>by rw [List.getD_eq_getElem?_getD,List.getD_eq_getElem?_getD,List.getElem?_drop,BS]) h
theorem Ny (b:List UInt8) (m:Int) (hs:DX m) (hm:m<=b.length) (hl:b.length<=1000000):Fn Tryz.prog 228 [bA b, .v (.int .i64 m)] fun r=>r = .tp [.v (.int .i64 (leN (b.take m.toNat):Nat)),bA (b.drop m.toNat), .v (.int .i64 0)]:=by
 rcases hs with rfl | rfl | rfl
 ·refine Fn.st Tryz.func228 rfl ?_
  conv=>whnf
  refine Al (fun h=>?_) (fun h=>?_) <;> conv=>whnf
  ·exfalso;omega
  refine⟨by omega,?_⟩
  conv=>whnf
  refine aLoop.rule Nat (fun k=>([(0,bA b),(1, .v (.int .i64 1)),(4, .v (.int .i64 (leN (b.take k):Nat))),(27, .sl 1 1 fun i=> [.v (.int .u8 (b.getD i 0).toNat)]),(28, .v (.int .i64 1)),(29, .v (.int .i64 k))], [])) (fun k=>k<=1) (fun k=>1 - k) 0 (Ag _) ⟨[],trivial,⟨rfl,rfl,rfl,rfl,rfl,rfl,trivial⟩,trivial,rfl,rfl,rfl⟩ ?_
  rintro k hk
  conv=>whnf
  refine Al (fun h2=>?_) (fun h2=>?_) <;> conv=>whnf
  ·have hs:=J1 (l:=b) (k:=k) (by omega) (by omega)
   refine⟨by omega,?_⟩
   conv=>whnf
   refine And.intro (by rw [IntWalk.i64_in _ (by omega)];omega) ?_
   refine⟨k+1,by omega,by omega, [],trivial,⟨rfl,rfl,?_,rfl,rfl,AA (by omega),trivial⟩,trivial,rfl,rfl,rfl⟩
   rw [Aa]
   exact congrArg (fun x=>AV.v (.int .i64 x)) hs
  ·have hk2:k=1:=by omega
   subst hk2
   refine⟨by omega,?_⟩
   conv=>whnf
   refine ACalls.sub [bA (b.drop 1)] ⟨A6 (by omega),trivial⟩ ?_
   refine Fn.cl (CH (b.drop 1) (by rw [Ac];omega)) ?_
   exact⟨_,ri,rfl⟩
 ·refine Fn.st Tryz.func228 rfl ?_
  conv=>whnf
  refine Al (fun h=>?_) (fun h=>?_) <;> conv=>whnf
  ·exfalso;omega
  refine⟨by omega,?_⟩
  conv=>whnf
  refine aLoop.rule Nat (fun k=>([(0,bA b),(1, .v (.int .i64 2)),(4, .v (.int .i64 (leN (b.take k):Nat))),(27, .sl 1 2 fun i=> [.v (.int .u8 (b.getD i 0).toNat)]),(28, .v (.int .i64 2)),(29, .v (.int .i64 k))], [])) (fun k=>k<=2) (fun k=>2 - k) 0 (Ag _) ⟨[],trivial,⟨rfl,rfl,rfl,rfl,rfl,rfl,trivial⟩,trivial,rfl,rfl,rfl⟩ ?_
  rintro k hk
  conv=>whnf
  refine Al (fun h2=>?_) (fun h2=>?_) <;> conv=>whnf
  ·have hs:=J1 (l:=b) (k:=k) (by omega) (by omega)
   refine⟨by omega,?_⟩
   conv=>whnf
   refine And.intro (by rw [IntWalk.i64_in _ (by omega)];omega) ?_
   refine⟨k+1,by omega,by omega, [],trivial,⟨rfl,rfl,?_,rfl,rfl,AA (by omega),trivial⟩,trivial,rfl,rfl,rfl⟩
   rw [Aa]
   exact congrArg (fun x=>AV.v (.int .i64 x)) hs
  ·have hk2:k=2:=by omega
   subst hk2
   refine⟨by omega,?_⟩
   conv=>whnf
   refine ACalls.sub [bA (b.drop 2)] ⟨A6 (by omega),trivial⟩ ?_
   refine Fn.cl (CH (b.drop 2) (by rw [Ac];omega)) ?_
   exact⟨_,ri,rfl⟩
 ·refine Fn.st Tryz.func228 rfl ?_
  conv=>whnf
  refine Al (fun h=>?_) (fun h=>?_) <;> conv=>whnf
  ·exfalso;omega
  refine⟨by omega,?_⟩
  conv=>whnf
  refine aLoop.rule Nat (fun k=>([(0,bA b),(1, .v (.int .i64 4)),(4, .v (.int .i64 (leN (b.take k):Nat))),(27, .sl 1 4 fun i=> [.v (.int .u8 (b.getD i 0).toNat)]),(28, .v (.int .i64 4)),(29, .v (.int .i64 k))], [])) (fun k=>k<=4) (fun k=>4 - k) 0 (Ag _) ⟨[],trivial,⟨rfl,rfl,rfl,rfl,rfl,rfl,trivial⟩,trivial,rfl,rfl,rfl⟩ ?_
  rintro k hk
  conv=>whnf
  refine Al (fun h2=>?_) (fun h2=>?_) <;> conv=>whnf
  ·have hs:=J1 (l:=b) (k:=k) (by omega) (by omega)
   refine⟨by omega,?_⟩
   conv=>whnf
   refine And.intro (by rw [IntWalk.i64_in _ (by omega)];omega) ?_
   refine⟨k+1,by omega,by omega, [],trivial,⟨rfl,rfl,?_,rfl,rfl,AA (by omega),trivial⟩,trivial,rfl,rfl,rfl⟩
   rw [Aa]
   exact congrArg (fun x=>AV.v (.int .i64 x)) hs
  ·have hk2:k=4:=by omega
   subst hk2
   refine⟨by omega,?_⟩
   conv=>whnf
   refine ACalls.sub [bA (b.drop 4)] ⟨A6 (by omega),trivial⟩ ?_
   refine Fn.cl (CH (b.drop 4) (by rw [Ac];omega)) ?_
   exact⟨_,ri,rfl⟩
theorem V3 {e:Int} (c:Ctx) (v:Value) (h:Rd (.tp [.v (.int .i64 0), .v (.slice none 0 0), .v (.int .i64 e)]) c v):Rd (.tp [.v (.int .i64 0),bA [], .v (.int .i64 e)]) c v:=by
 simp only [Rd,RdL] at h |-
 obtain⟨xs,rfl,x,xs,rfl,hx,y,ys,rfl,rfl,h⟩:=h
 exact⟨_,rfl,_,_,rfl,hx,_,_,rfl,AP 1 (fun i=> [.v (.int .u8 (([]:List UInt8).getD i 0).toNat)]) c (.slice none 0 0) (by simp [Rd]),h⟩
theorem WR (b:List UInt8) (m:Int) (hs:DX m) (hm:b.length<m):Fn Tryz.prog 228 [bA b, .v (.int .i64 m)] fun r=>r = .tp [.v (.int .i64 0),bA [], .v (.int .i64 4)]:=by
 rcases hs with rfl | rfl | rfl
 all_goals
  refine Fn.st Tryz.func228 rfl ?_
  conv=>whnf
  refine Al (fun h=>?_) (fun h=>?_) <;> conv=>whnf
  ·exact⟨_,V3,rfl⟩
  ·exfalso;omega
theorem EC (b:List UInt8) (ss:List Int) (hss:∀ s∈ss,DX s) (hl:b.length<=1000000) (hn:ss.length<=1000) (ht:tot ss<=b.length) :
  ACalls Tryz.prog false 215 [bA b,iA ss] [] fun r H=>r = .tp [.ow 0 ss.length,bA (b.drop (tot ss)), .v (.int .i64 0)]/\H=[.row 3 1 ((nums ss b).map Sj)]:=by
 refine ACalls.ofC tys_ok Tryz.func215 rfl rfl (Ad rfl) ?_
 conv=>whnf
 refine Fn.cl (CH b (by omega)) ?_
 conv=>whnf
 refine aLoop.ruleC Nat (fun k=>([(4, .ow 0 k),(5,bA (b.drop (tot (ss.take k)))),(14,iA ss),(15, .v (.int .i64 ss.length)),(16, .v (.int .i64 k))], [.row 3 1 ((nums (ss.take k) b).map Sj)])) (fun k=>k<=ss.length) (fun k=>ss.length - k) 0 (Ag _) (Wk.conv ⟨[(4,3,1)],⟨rfl,rfl,trivial⟩,⟨rfl,rfl,rfl,rfl,rfl,trivial⟩,⟨rfl,trivial⟩,rfl,rfl,rfl⟩) ?_
 rintro k hk
 conv=>whnf
 refine Al (fun h2=>?_) (fun h2=>?_) <;> (repeat rw [Aa] at h2) <;> conv=>whnf
 ·have hk':k<ss.length:=by omega
  have h5:=tot_step ss k hk'
  have h6:=tot_take_le ss (k+1)
  have h7:=nums_step ss b k hk'
  have h8:DX ss[k]:=hss _ (B5 hk')
  have h9:ss.getD k 0=ss[k]:=by rw [List.getD_eq_getElem?_getD,List.getElem?_eq_getElem hk'];rfl
  have h10:ss[k]=(ss[k].toNat:Int):=by rcases h8 with h | h | h <;> rw [h] <;> rfl
  have hg:=Ny (b.drop (tot (ss.take k))) ss[k] h8 (by rw [Ac];omega) (by rw [Ac];omega)
  refine⟨by omega,?_⟩
  conv=>whnf
  rw [Aa,h9]
  refine Fn.cl hg ?_
  conv=>whnf
  have h11:(nums (ss.take k) b).length=k:=by rw [nums_len,Ao];omega
  refine⟨rfl,?_⟩
  conv=>whnf
  refine And.intro ⟨by rw [Ab];exact h11.symm,by omega⟩ ?_
  refine⟨k+1,by omega,by omega,Wk.conv ⟨[],trivial,⟨rfl,?_,rfl,rfl,AA (by omega),trivial⟩,⟨?_,trivial⟩,rfl,rfl,rfl⟩⟩
  ·rw [h5,<-Aw]
   rfl
  ·rw [h7,Aq]
   rfl
 ·have hk2:k=ss.length:=by omega
  subst hk2
  rw [List.take_length]
  exact⟨.tp [.ow 0 ss.length,bA (b.drop (tot ss)), .v (.int .i64 0)],_, [.row 3 1 ((nums ss b).map Sj)],fun _ _ h=>h,Wk.conv ⟨[],trivial,⟨rfl,trivial⟩,⟨rfl,trivial⟩,rfl,rfl,rfl⟩,rfl,rfl⟩
theorem GA (b:List UInt8) (ss:List Int) (hss:∀ s∈ss,DX s) (hl:b.length<=1000000) (hn:ss.length<=1000) (ht:b.length<tot ss) :
  Fn Tryz.prog 215 [bA b,iA ss] fun r=>r = .tp [.v (.slice none 0 0), .v (.slice none 0 0), .v (.int .i64 4)]:=by
 refine Fn.st Tryz.func215 rfl ?_
 conv=>whnf
 refine Fn.cl (CH b (by omega)) ?_
 conv=>whnf
 refine aLoop.ruleC Nat (fun k=>([(4, .ow 0 k),(5,bA (b.drop (tot (ss.take k)))),(14,iA ss),(15, .v (.int .i64 ss.length)),(16, .v (.int .i64 k))], [.row 3 1 ((nums (ss.take k) b).map Sj)])) (fun k=>k<=ss.length/\tot (ss.take k)<=b.length) (fun k=>ss.length - k) 0 ⟨Ag _,by simp [tot]⟩ (Wk.conv ⟨[(4,3,1)],⟨rfl,rfl,trivial⟩,⟨rfl,rfl,rfl,rfl,rfl,trivial⟩,⟨rfl,trivial⟩,rfl,rfl,rfl⟩) ?_
 rintro k ⟨hk,hkt⟩
 conv=>whnf
 refine Al (fun h2=>?_) (fun h2=>?_) <;> (repeat rw [Aa] at h2) <;> conv=>whnf
 ·have hk':k<ss.length:=by omega
  have h5:=tot_step ss k hk'
  have h7:=nums_step ss b k hk'
  have h8:DX ss[k]:=hss _ (B5 hk')
  have h9:ss.getD k 0=ss[k]:=by rw [List.getD_eq_getElem?_getD,List.getElem?_eq_getElem hk'];rfl
  have h10:ss[k]=(ss[k].toNat:Int):=by rcases h8 with h | h | h <;> rw [h] <;> rfl
  by_cases hlt:tot (ss.take (k+1))<=b.length
  ·have hg:=Ny (b.drop (tot (ss.take k))) ss[k] h8 (by rw [Ac];omega) (by rw [Ac];omega)
   refine⟨by omega,?_⟩
   conv=>whnf
   rw [Aa,h9]
   refine Fn.cl hg ?_
   conv=>whnf
   have h11:(nums (ss.take k) b).length=k:=by rw [nums_len,Ao];omega
   refine⟨rfl,?_⟩
   conv=>whnf
   refine And.intro ⟨by rw [Ab];exact h11.symm,by omega⟩ ?_
   refine⟨k+1,⟨by omega,hlt⟩,by omega,Wk.conv ⟨[],trivial,⟨rfl,?_,rfl,rfl,AA (by omega),trivial⟩,⟨?_,trivial⟩,rfl,rfl,rfl⟩⟩
   ·rw [h5,<-Aw]
    rfl
   ·rw [h7,Aq]
    rfl
  ·have hg:=WR (b.drop (tot (ss.take k))) ss[k] h8 (by rw [Ac];omega)
   refine⟨by omega,?_⟩
   conv=>whnf
   rw [Aa,h9]
   refine Fn.cl hg ?_
   exact⟨_,ri,rfl⟩
 ·have hk2:k=ss.length:=by omega
  subst hk2
  rw [List.take_length] at hkt
  omega
theorem VR {b:List UInt8} {n m k:Nat} (hn:n=k) (hk:m+k<=b.length) (c:Ctx) (u:Value) (h:Rd (.sl 1 n fun i=> [.v (.int .u8 (b.getD (i+m) 0).toNat)]) c u):Rd (bA ((b.drop m).take k)) c u:=
 Rd.congr (by rw [Ao,Ac];omega) (fun i hi=>by rw [List.getD_eq_getElem?_getD,List.getD_eq_getElem?_getD,List.getElem?_take_of_lt (by omega),List.getElem?_drop,BS]) h
theorem HP (b:List UInt8) (hl:b.length<=1000000) (hp:E1 b=true):Fn Tryz.prog 229 [bA b] fun r=>r = .tp [bA ((b.drop 1).take (BD b)),bA (b.drop (1+BD b)), .v (.int .i64 0)]:=by
 simp only [E1,decide_eq_true_eq] at hp
 have h0:(b.getD 0 0).toNat=BD b:=by cases b <;> rfl
 have hlt:=(b.getD 0 0).toNat_lt
 have e1:IntKind.i64.wrap ((b.getD 0 0).toNat:Int)=(BD b:Int):=by rw [IntWalk.i64_in _ (by omega),h0]
 have e2:IntKind.i64.wrap (1+(BD b:Int))=((1+BD b:Nat):Int):=by rw [IntWalk.i64_in _ (by omega)];omega
 refine Fn.st Tryz.func229 rfl ?_
 conv=>whnf
 refine Al (fun h=>?_) (fun h=>?_) <;> conv=>whnf
 ·exfalso;omega
 refine⟨by omega,?_⟩
 conv=>whnf
 rw [show Int.toNat 0=0 from rfl,e1,e2]
 refine Al (fun h2=>?_) (fun h2=>?_) <;> conv=>whnf
 ·exfalso;omega
 refine⟨by omega,?_⟩
 conv=>whnf
 rw [show Int.toNat 0=0 from rfl,e1,e2]
 apply aDraw.tree tys_ok mixed (.one 0 (.one 1 (.one 2 (.one 4 (.one 5 (.one 6 (.one 3 (.one 7 (.one 8 (.one 9 (.one 10 .fin))))))))))) [2,3,4,24,25,26,27,28,29,30,31] (by kernel_rfl)
 ·conv=>whnf
  try (refine And.intro (by first | omega | (simp;done)) ?_;conv=>whnf)
  try (refine And.intro (by first | omega | (simp;done)) ?_;conv=>whnf)
  (refine ACalls.sub [bA ((b.drop 1).take (BD b))] ⟨VR (by omega) (by omega),trivial⟩ ?_;refine Fn.cl (CH _ (by rw [Ao];omega)) ?_)
  conv=>whnf
  (refine ACalls.sub [bA (b.drop (1+BD b))] ⟨A6 (by omega),trivial⟩ ?_;refine Fn.cl (CH _ (by rw [Ac];omega)) ?_)
  exact⟨rfl,rfl⟩
 exact⟨_,ri,rfl⟩
theorem LI (b:List UInt8) (hp:E1 b=false):Fn Tryz.prog 229 [bA b] fun r=>r = .tp [.v (.slice none 0 0), .v (.slice none 0 0), .v (.int .i64 4)]:=by
 simp only [E1,decide_eq_false_iff_not] at hp
 have h0:(b.getD 0 0).toNat=BD b:=by cases b <;> rfl
 have hlt:=(b.getD 0 0).toNat_lt
 have e1:IntKind.i64.wrap ((b.getD 0 0).toNat:Int)=(BD b:Int):=by rw [IntWalk.i64_in _ (by omega),h0]
 have e2:IntKind.i64.wrap (1+(BD b:Int))=((1+BD b:Nat):Int):=by rw [IntWalk.i64_in _ (by omega)];omega
 refine Fn.st Tryz.func229 rfl ?_
 conv=>whnf
 refine Al (fun h=>?_) (fun h=>?_) <;> conv=>whnf
 ·exact⟨_,ri,rfl⟩
 refine⟨by omega,?_⟩
 conv=>whnf
 rw [show Int.toNat 0=0 from rfl,e1,e2]
 refine Al (fun h2=>?_) (fun h2=>?_) <;> conv=>whnf
 ·exact⟨_,ri,rfl⟩
 ·exfalso;omega
theorem I_ (a b:List UInt8):Fn Tryz.prog 216 [bA a,bA b] fun r=>r = .v (.bool (decide (a=b))):=by
 refine⟨⟨_,Tryz.func216,rfl,by decide⟩,fun c0 us hd hM _ hr=>?_⟩
 obtain⟨u1,u2,rfl,h1,h2⟩:=X4 hr
 refine(Sv u1 u2 a b c0.w c0.M c0.M (Gk h1) (Gk h2)).mono ?_
 rintro e w' ⟨rfl,rfl⟩
 exact⟨_,_,rfl,rfl,Below.refl _ _,PR _⟩
def UM {α:Type} (p:α->Bool) (l:List α):Int:=if l.any p then ((l.findIdx p:Nat):Int) else -1
theorem Kp {α:Type} {p:α->Bool} {l:List α} {k:Nat} {d:α} (hk:k<l.length) (h:(l.take k).any p=false) (hp:p (l.getD k d)=true):UM p l=k:=by
 rw [List.getD_eq_getElem?_getD,List.getElem?_eq_getElem hk] at hp
 have hp:p l[k]=true:=hp
 unfold UM
 rw [B6.2 ⟨l[k],B5 hk,hp⟩]
 simp only [if_true,Int.natCast_inj]
 refine(List.findIdx_eq hk).2 ⟨hp,fun j hj=>?_⟩
 rw [List.any_eq_false] at h
 have:=h l[j] (List.mem_take_iff_getElem.2 ⟨j,by omega,rfl⟩)
 simpa using this
theorem IK {α:Type} {p:α->Bool} {l:List α} (h:l.any p=false):UM p l = -1:=by
 unfold UM;rw [h];rfl
theorem Nv {α:Type} {p:α->Bool} {l:List α}:decide (0<=UM p l)=l.any p:=by
 unfold UM
 cases h:l.any p with
 | true=>simp
 | false=>rfl
theorem EV {α:Type} {p:α->Bool} {l:List α} {k:Nat} {d:α} (hk:k<l.length) (h:(l.take k).any p=false) (hp:p (l.getD k d)=false):(l.take (k+1)).any p=false:=by
 rw [Ar hk,C0,h]
 rw [List.getD_eq_getElem?_getD,List.getElem?_eq_getElem hk] at hp
 simpa using hp
def E4 (x:Ent):List AV:= [.v (.int .i64 x.stamp), .v (.int .i64 x.sum), .v (.bool x.lost)]
def D8 (l:List Ent):AV:= .sl 3 l.length fun i=>E4 (l.getD i ⟨0,0,false⟩)
theorem US (n:Int):Fn Tryz.prog 187 [.v (.int .i64 n)] fun r=>r = .v (.bool (JR n)):=by
 refine Fn.st Tryz.func187 rfl ?_
 conv=>whnf
 repeat' (first | (refine Af (fun h=>?_) (fun h=>?_) <;> (try simp at h) <;> conv=>whnf) | (refine aDraw.seq tys_ok mixed (by kernel_rfl) ?_;conv=>whnf) | (refine aSeq.go ?_;conv=>whnf) | (refine And.intro (by omega) ?_;conv=>whnf))
 all_goals exact⟨_,ri,by simp [JR,BP, *] <;> omega⟩
theorem SH (x:Ent):Fn Tryz.prog 186 [.ag (E4 x)] fun r=>r = .v (.bool (!E9 x)):=by
 refine Fn.st Tryz.func186 rfl ?_
 conv=>whnf
 repeat' (first | (refine Af (fun h=>?_) (fun h=>?_) <;> (try simp at h) <;> conv=>whnf) | (refine aDraw.seq tys_ok mixed (by kernel_rfl) ?_;conv=>whnf) | (refine aSeq.go ?_;conv=>whnf) | (refine Fn.cl (US _) ?_;conv=>whnf) | (refine And.intro (by omega) ?_;conv=>whnf))
 all_goals exact⟨_,ri,by simp [E9, *]⟩
theorem Xh (l:List Ent)  (hl:l.length<=1000000):Fn Tryz.prog 222 [D8 l, .v (.func (.func 186) #[] #[])] fun r=>r = .v (.int .i64 (UM (fun x=>!E9 x) l)):=by
 refine Fn.st Tryz.func222 rfl ?_
 conv=>whnf
 refine aLoop.rule Nat (fun k=>([(0,D8 l),(1, .v (.func (.func 186) #[] #[])),(7, .v (.int .i64 l.length)),(8, .v (.int .i64 k))], [])) (fun k=>k<=l.length/\(l.take k).any (fun x=>!E9 x)=false) (fun k=>l.length - k) 0 ⟨Ag _,by simp⟩ ⟨[],trivial,⟨rfl,rfl,rfl,rfl,trivial⟩,trivial,rfl,rfl,rfl⟩ ?_
 rintro k ⟨hk,hI⟩
 conv=>whnf
 refine Af (fun h2=>?_) (fun h2=>?_) <;> simp at h2 <;> conv=>whnf
 ·refine⟨by first | omega | (refine⟨rfl,?_,?_⟩ <;> first | omega | (simp only [Ab];done) | (simp only [Ab];omega)) | (simp only [Ab];omega),?_⟩
  conv=>whnf
  refine Fn.cl (SH (l.getD k ⟨0,0,false⟩)) ?_
  conv=>whnf
  refine Af (fun h3=>?_) (fun h3=>?_) <;> conv=>whnf
  ·exact⟨_,ri,by rw [Kp (d:=⟨0,0,false⟩) h2 hI (by first | exact h3 | (rw [Aa] at h3;exact h3) | simpa using h3)]⟩
  ·refine⟨k+1,⟨by omega,EV (d:=⟨0,0,false⟩) h2 hI (by first | exact h3 | (rw [Aa] at h3;exact h3) | simpa using h3)⟩,by omega, [],trivial,⟨rfl,rfl,rfl,AA (by omega),trivial⟩,trivial,rfl,rfl,rfl⟩
 ·exact⟨_,ri,by rw [List.take_of_length_le h2] at hI;rw [IK hI]⟩
theorem Xi (l:List Ent)  (hl:l.length<=1000000):Fn Tryz.prog 188 [D8 l, .v (.func (.func 186) #[] #[])] fun r=>r = .v (.bool (l.any (fun x=>!E9 x))):=by
 refine Fn.st Tryz.func188 rfl ?_
 conv=>whnf
 refine Fn.cl (Xh l  hl) ?_
 exact⟨_,ri,by rw [Nv]⟩

theorem Rs (g:Geo) (l:List Ent) (hl:l.length<=1000000):Fn Tryz.prog 134 [.ag (A7 g), .ag [D8 l]] fun r=>r = .v (Ed (JQ g l)):=by
 have hG:Fn Tryz.prog 46 [.ag (A7 g)] fun r=>r = .v (Ed (AS g)):=Ct g.z g.d g.sp g.sl g.an
 cases hg:AS g with
 | false=>
  rw [hg] at hG
  rw [show JQ g l=false by simp [JQ,hg]]
  refine Fn.st Tryz.func134 rfl ?_
  conv=>whnf
  refine Fn.cl hG ?_
  exact⟨_,ri,rfl⟩
 | true=>
  rw [hg] at hG
  obtain⟨h1,h2,h3,h4,h5⟩:=Am.1 hg
  have hw:IntKind.i64.wrap (g.d+1)=g.d+1:=IntWalk.i64_in _ (by omega)
  by_cases hn:(l.length:Int)=g.d+1
  ·have hc:=Xi l hl
   cases ha:l.any (fun x=>!E9 x) with
   | true=>
    rw [ha] at hc
    rw [show JQ g l=false by rw [JQ];simp only [Bool.and_eq_false_iff];refine .inl (.inr ?_);rw [BC,ha];rfl]
    refine Fn.st Tryz.func134 rfl ?_
    conv=>whnf
    refine Fn.cl hG ?_
    conv=>whnf
    rw [hw,show ((l.length:Int) != g.d+1)=false by rw [hn];exact bne_self_eq_false _]
    conv=>whnf
    refine Fn.cl hc ?_
    exact⟨_,ri,rfl⟩
   | false=>
    rw [ha] at hc
    have hal:l.all E9=true:=by rw [BC,ha];rfl
    have hlo:GV l g.d.toNat=(l.getD g.d.toNat ⟨0,0,false⟩).lost:=by
     rw [GV,List.getD_eq_getElem?_getD,List.getElem?_eq_getElem (by omega)];rfl
    rw [show JQ g l = !(l.getD g.d.toNat ⟨0,0,false⟩).lost by rw [JQ,hg,hal,decide_eq_true hn,hlo];rfl]
    refine Fn.st Tryz.func134 rfl ?_
    conv=>whnf
    refine Fn.cl hG ?_
    conv=>whnf
    rw [hw,show ((l.length:Int) != g.d+1)=false by rw [hn];exact bne_self_eq_false _]
    conv=>whnf
    refine Fn.cl hc ?_
    refine⟨by omega,?_⟩
    conv=>whnf
    refine Af (fun h=>?_) (fun h=>?_) <;> conv=>whnf
    ·exact⟨_,ri,by rw [h];rfl⟩
    ·exact⟨_,ri,by rw [h];rfl⟩
  ·rw [show JQ g l=false by simp [JQ,hn]]
   refine Fn.st Tryz.func134 rfl ?_
   conv=>whnf
   refine Fn.cl hG ?_
   conv=>whnf
   rw [hw,show ((l.length:Int) != g.d+1)=true from bne_iff_ne.2 hn]
   exact⟨_,ri,rfl⟩
theorem LL (g:Geo) (l:List Ent) (hl:l.length<=1000):Fn Tryz.prog 71 [.ag (A7 g), .ag [D8 l]] fun r=>r = .tp [bA (if JQ g l then CT l else []), .v (Ed (JQ g l))]:=by
 have hc:=Rs g l (by omega)
 cases hok:JQ g l with
 | false=>
  rw [hok] at hc
  refine Fn.st Tryz.func71 rfl ?_
  conv=>whnf
  refine Fn.cl hc ?_
  exact⟨.tp [bA [], .v (.int .i64 1)],fun c v h=>by
   simp only [Rd,RdL] at h |-
   obtain⟨xs,rfl,y,ys,rfl,rfl,h⟩:=h
   exact⟨_,rfl,_,_,rfl,AP 1 (fun i=> [.v (.int .u8 (([]:List UInt8).getD i 0).toNat)]) c (.slice none 0 0) (by simp [Rd]),h⟩,rfl⟩
 | true=>
  rw [hok] at hc
  have hall:∀ x∈l,E9 x=true:=by
   simp only [JQ,Bool.and_eq_true] at hok
   exact fun x hx=>A4.1 hok.1.2 x hx
  refine Fn.st Tryz.func71 rfl ?_
  conv=>whnf
  refine Fn.cl hc ?_
  conv=>whnf
  refine aLoop.ruleC Nat (fun k=>([(7, .ow 2 (CT (l.take k)).length),(20,D8 l),(21, .v (.int .i64 l.length)),(22, .v (.int .i64 k))], [.dead, .dead, .row 5 1 ((CT (l.take k)).map EB)])) (fun k=>k<=l.length) (fun k=>l.length - k) 0 (Ag _) (Wk.conv ⟨[(7,5,1)],⟨rfl,rfl,trivial⟩,⟨rfl,rfl,rfl,rfl,trivial⟩,⟨rfl,trivial⟩,rfl,rfl,rfl⟩) ?_
  rintro k hk
  conv=>whnf
  refine Al (fun h2=>?_) (fun h2=>?_) <;> (repeat rw [Aa] at h2) <;> conv=>whnf
  ·have hk':k<l.length:=by omega
   have hx:=hall _ (AE (d:=⟨0,0,false⟩) hk')
   have hst:=LM hk'
   have e9:l.getD k ⟨0,0,false⟩=l[k]:=by rw [List.getD_eq_getElem?_getD,List.getElem?_eq_getElem hk'];rfl
   rw [<-e9] at hst
   have hr:=I4 [(l.getD k ⟨0,0,false⟩).stamp,(l.getD k ⟨0,0,false⟩).sum,Dr (l.getD k ⟨0,0,false⟩).lost] [4,4,1] rfl (by show 3<=1000;decide) (Uu hx)
   refine aSeq.go ?_
   refine⟨by omega,?_⟩
   conv=>whnf
   rw [Aa]
   refine aSeq.go ?_
   conv=>whnf
   refine Af (fun hx2=>?_) (fun hx2=>?_) <;> conv=>whnf
   ·rw [hx2] at hr
    refine ACalls.shut hr.go ?_
    refine⟨rfl,?_⟩
    refine⟨rfl,?_⟩
    conv=>whnf
    refine ACalls.sub [iA [(l.getD k ⟨0,0,false⟩).stamp,(l.getD k ⟨0,0,false⟩).sum,Dr true],iA [4,4,1]] ⟨(AT (l:= [(l.getD k ⟨0,0,false⟩).stamp,(l.getD k ⟨0,0,false⟩).sum,Dr true]) rfl).1,(AT (l:= [4,4,1]) rfl).1,trivial⟩ ?_
    refine ACalls.beside hr rfl ?_
    rintro _ _ ⟨rfl,rfl⟩
    refine⟨by simp,?_⟩
    conv=>whnf
    refine And.intro ⟨by simp,by rw [Fw,tot_rowB [(l.getD k ⟨0,0,false⟩).stamp,(l.getD k ⟨0,0,false⟩).sum,Dr true] [4,4,1] rfl];simp [tot];omega⟩ ?_
    conv=>whnf
    have he:Lq (l.getD k ⟨0,0,false⟩)=rowB [(l.getD k ⟨0,0,false⟩).stamp,(l.getD k ⟨0,0,false⟩).sum,Dr true] [4,4,1]:=by rw [Lq,hx2]
    refine⟨k+1,by omega,by omega,Wk.conv ⟨[],trivial,⟨?_,rfl,rfl,AA (by omega),trivial⟩,⟨?_,trivial⟩,rfl,rfl,rfl⟩⟩
    ·rw [hst,he,Ae];rfl
    ·rw [hst,he,Aq]
   ·rw [hx2] at hr
    refine ACalls.shut hr.go ?_
    refine⟨rfl,?_⟩
    refine⟨rfl,?_⟩
    conv=>whnf
    refine ACalls.sub [iA [(l.getD k ⟨0,0,false⟩).stamp,(l.getD k ⟨0,0,false⟩).sum,Dr false],iA [4,4,1]] ⟨(AT (l:= [(l.getD k ⟨0,0,false⟩).stamp,(l.getD k ⟨0,0,false⟩).sum,Dr false]) rfl).1,(AT (l:= [4,4,1]) rfl).1,trivial⟩ ?_
    refine ACalls.beside hr rfl ?_
    rintro _ _ ⟨rfl,rfl⟩
    refine⟨by simp,?_⟩
    conv=>whnf
    refine And.intro ⟨by simp,by rw [Fw,tot_rowB [(l.getD k ⟨0,0,false⟩).stamp,(l.getD k ⟨0,0,false⟩).sum,Dr false] [4,4,1] rfl];simp [tot];omega⟩ ?_
    conv=>whnf
    have he:Lq (l.getD k ⟨0,0,false⟩)=rowB [(l.getD k ⟨0,0,false⟩).stamp,(l.getD k ⟨0,0,false⟩).sum,Dr false] [4,4,1]:=by rw [Lq,hx2]
    refine⟨k+1,by omega,by omega,Wk.conv ⟨[],trivial,⟨?_,rfl,rfl,AA (by omega),trivial⟩,⟨?_,trivial⟩,rfl,rfl,rfl⟩⟩
    ·rw [hst,he,Ae];rfl
    ·rw [hst,he,Aq]
  ·have hk2:k=l.length:=by omega
   subst hk2
   rw [List.take_length]
   refine⟨by simp,?_⟩
   exact⟨.tp [bA (CT l), .v (.int .i64 0)],fun c v h=>by
    simp only [Rd,RdL] at h |-
    obtain⟨xs,rfl,y,ys,rfl,h1,h⟩:=h
    exact⟨_,rfl,y,ys,rfl,Rd.congr (u:=y) rfl (fun i hi=>Bh (f:=EB) (l:=CT l) (d:=0) hi) (by simp only [Rd];exact h1),h⟩,rfl⟩
theorem ConvH.sealBox {H:List AB} (j k:Nat) {t t':TypeId} {sz':Nat} {cs cs2:List AV} {es':List (List AV)} (hj:H[j]? = some (.box t cs)) (hk:H[k]? = some (.row t' sz' es'))
  (he:cs.map (AV.slIn k es'.length (.sl sz' es'.length fun i=>es'.getD i []))=cs2):ConvH H ((H.set k .dead).set j (.box t cs2)):=by
 intro w0 M0 c hs
 subst he
 have hjk:j≠k:=by rintro rfl;rw [hj] at hk;cases hk
 obtain⟨c1,e1,s1,x1,r1⟩:=hs.freeze hk
 have hj1:(H.set k .dead)[j]? = some (.box t cs):=by rw [List.getElem?_set_ne (Ne.symm hjk)];exact hj
 refine⟨c1,e1,s1.recell hj1 rfl ?_,x1⟩
 rintro⟨g,xs,h1,h2,_,h4⟩
 obtain⟨g0,ys,q1,q2,q3,_⟩:=hs.blk j _ hj
 have hg:=x1.box j _ (hs.klt hj) q1
 rw [h1] at hg
 injection hg with hg
 injection hg with hg
 injection hg with hg
 subst hg
 rw [e1,q2] at h2
 injection h2 with h2
 have hxy:ys.toArray=xs.toArray:=by injection h2
 have hxy:ys=xs:=by simpa using hxy
 subst hxy
 refine⟨g,ys,h1,by rw [e1];exact q2,?_,h4⟩
 have h8:∀ (l:List AV) (us:List Value),RdL l c us->RdL (l.map (AV.slIn k es'.length (.sl sz' es'.length fun i=>es'.getD i []))) c1 us:=by
  intro l
  induction l with
  | nil=>intro us h;simp only [RdL] at h;subst h;simp [RdL]
  | cons x l ih=>
   intro us h
   simp only [RdL] at h
   obtain⟨u,vs,rfl,a1,a2⟩:=h
   simp only [Ay,RdL]
   refine⟨u,vs,rfl,?_,ih vs a2⟩
   unfold AV.slIn
   split
   ·rename_i i n
    split
    ·rename_i hik
     subst hik
     split
     ·rename_i hn
      subst hn
      exact r1 u a1
     ·simp [Rd]
    ·exact Rd.ext _ x1 a1
   ·exact Rd.ext _ x1 a1
 exact h8 _ _ q3
def Ee (g:Geo) (b:List UInt8):Int:=if AS g=false then 1 else if (D7 g b).isSome then 0 else 4
theorem Kk (e:Int) (c:Ctx) (v:Value) (h:Rd (.tp [.ag [.v (.slice none 0 0)], .v (.int .i64 e)]) c v):Rd (.tp [.ag [D8 []], .v (.int .i64 e)]) c v:=by
 have e1:SubL [.ag [.v (.slice none 0 0)], .v (.int .i64 e)] [.ag [D8 []], .v (.int .i64 e)]:=⟨AG ⟨fun c u h=>AP 3 _ c u h,trivial⟩,ri,trivial⟩
 simp only [Rd] at h |-
 obtain⟨xs,rfl,h⟩:=h
 exact⟨_,rfl,e1.rdl (c:=c) (xs:=xs) (by simpa only [RdL,Rd] using h)⟩
def XP (g:Geo) (b:List UInt8) (k:Nat):Bool->List AB
 | false=> [.box 23 (A7 g), .box 147 [.v (.slice none 0 0)], .box 147 [.ow 3 k], .row 200 3 ((entsOf k b).map E4)]
 | true=> [.box 23 (A7 g), .box 147 [.v (.slice none 0 0)], .box 147 [.sl 3 ((entsOf k b).map E4).length fun i=>((entsOf k b).map E4).getD i []], .dead]
theorem SV (g:Geo) (b:List UInt8) (hl:b.length<=100000):Fn Tryz.prog 177 [.ag (A7 g),bA b] fun r=>r = .tp [.ag [D8 (if AS g then (D7 g b).getD [] else [])], .v (.int .i64 (Ee g b))]:=by
 have hG:Fn Tryz.prog 46 [.ag (A7 g)] fun r=>r = .v (Ed (AS g)):=Ct g.z g.d g.sp g.sl g.an
 cases hg:AS g with
 | false=>
  rw [hg] at hG
  rw [show Ee g b=1 by rw [Ee,if_pos hg]]
  refine Fn.st Tryz.func177 rfl ?_
  conv=>whnf
  refine Fn.cl hG ?_
  exact⟨_,Kk 1,rfl⟩
 | true=>
  rw [hg] at hG
  obtain⟨h1,h2,h3,h4,h5⟩:=Am.1 hg
  obtain⟨n,hn⟩:∃ n:Nat,g.d+1=n:=⟨(g.d+1).toNat,by omega⟩
  have hnn:(g.d+1).toNat=n:=by omega
  have hw:IntKind.i64.wrap (g.d+1)=(n:Int):=by rw [IntWalk.i64_in _ (by omega),hn]
  by_cases hs:9*n<=b.length
  ·refine Fn.st Tryz.func177 rfl ?_
   conv=>whnf
   refine Fn.cl hG ?_
   conv=>whnf
   refine aLoop.ruleC (Nat × Bool) (fun s=>([(1,bA b),(2, .bp 0 0),(4, .bp 1 0),(5, .v (.int .i64 0)),(6, .bp 2 0),(7,bA (b.drop (9*s.1))),(20, .v (.int .i64 n)),(21, .v (.int .i64 s.1))],XP g b s.1 s.2)) (fun s=>s.1<=n/\(s.2=false->s.1<n)/\(s.2=true->s.1=n)) (fun s=>n - s.1) (0,false) ⟨Ag _,fun _=>by show 0<n;omega,fun h=>by cases h⟩ (Wk.conv ⟨[(1002000,200,3)],⟨rfl,rfl,trivial⟩,⟨rfl,rfl,rfl,rfl,rfl,rfl,congrArg (fun x=>AV.v (.int .i64 x)) hw,rfl,trivial⟩,⟨rfl,rfl,rfl,rfl,trivial⟩,rfl,rfl,rfl⟩) ?_
   rintro⟨k,sd⟩ ⟨hk,hf,ht⟩
   simp only at hk hf ht
   cases sd with
   | false=>
    have hk1:=hf rfl
    obtain⟨x,y,z,hxy,hen⟩:=TC (b.drop (9*k))
    have hu:=EC (b.drop (9*k)) [4,4,1] (by decide) (by rw [Ac];omega) (by show 3<=1000;decide) (by rw [Ac];show 9<=_;omega)
    rw [hxy] at hu
    have hst:=entsOf_step k b
    have hel:=entsOf_len k b
    conv=>whnf
    refine Al (fun h6=>?_) (fun h6=>?_) <;> (repeat rw [Aa] at h6) <;> conv=>whnf
    ·refine ACalls.shut hu.go ?_
     refine⟨rfl,?_⟩
     conv=>whnf
     refine ACalls.sub [bA (b.drop (9*k)),iA [4,4,1]] ⟨ri,(AT (l:= [4,4,1]) rfl).1,trivial⟩ ?_
     refine ACalls.beside (hu) rfl ?_
     rintro _ _ ⟨rfl,rfl⟩
     conv=>whnf
     apply aDraw.treeM (0) tys_ok mixed (.one 0 (.one 1 (.one 2 (.one 3 (.one 4 (.one 5 (.one 6 (.one 7 (.one 8 (.one 9 (.one 10 (.one 11 (.one 12 (.one 13 (.one 14 (.one 15 (.one 16 .fin))))))))))))))))) [33,34,35,36,37,38,39,40,41,42,43,44,45,46,47,48] (by kernel_rfl)
     ·conv=>whnf
      try (first | (refine And.intro ⟨by decide,by decide⟩ ?_;(conv=>whnf);refine And.intro ⟨rfl,rfl,by decide⟩ ?_;(conv=>whnf)) | skip;conv=>whnf)
      try (refine And.intro (by first | omega | (simp;done)) ?_;conv=>whnf)
      try (first | (refine And.intro ⟨by decide,by decide⟩ ?_;(conv=>whnf);refine And.intro ⟨rfl,rfl,by decide⟩ ?_;(conv=>whnf)) | skip;conv=>whnf)
      try (refine And.intro (by first | omega | (simp;done)) ?_;conv=>whnf)
      try (first | (refine And.intro ⟨by decide,by decide⟩ ?_;(conv=>whnf);refine And.intro ⟨rfl,rfl,by decide⟩ ?_;(conv=>whnf)) | skip;conv=>whnf)
      try (refine And.intro (by first | omega | (simp;done)) ?_;conv=>whnf)
      try (first | (refine And.intro ⟨by decide,by decide⟩ ?_;(conv=>whnf);refine And.intro ⟨rfl,rfl,by decide⟩ ?_;(conv=>whnf)) | skip;conv=>whnf)
      try (refine And.intro (by first | rfl | omega) ?_;conv=>whnf)
      try (refine And.intro (by first | omega | exact⟨by first | rfl | (simp;done) | (simp;omega),by omega⟩) ?_;conv=>whnf)
      try (refine And.intro ⟨rfl,by first | rfl | (simp;done) | (simp;omega),by first | omega | (simp;omega)⟩ ?_;conv=>whnf)
      (skip)
      exact⟨rfl,rfl⟩
     conv=>whnf
     have hes:(entsOf k b).map E4 ++ [[.v (.int .i64 x), .v (.int .i64 y), .v (.bool (z == 1))]]=(entsOf (k+1) b).map E4:=by rw [hst,Aq,hen];rfl
     have hdr:bA ((b.drop (9*k)).drop 9)=bA (b.drop (9*(k+1))):=by rw [Aw];rfl
     by_cases hlast:k+1<n
     ·exact⟨(k+1,false),⟨by show k+1<=n;omega,fun _=>hlast,fun h=>by cases h⟩,by show n - (k+1)<n - k;omega,Wk.conv ⟨[],trivial,⟨rfl,rfl,rfl,rfl,rfl,hdr,rfl,AA (by omega),trivial⟩,⟨rfl,rfl,rfl,congrArg (AB.row _ _) hes.symm,trivial⟩,rfl,rfl,rfl⟩⟩
     ·refine⟨(k+1,true),⟨by show k+1<=n;omega,(fun h=>by cases h),fun _=>by show k+1=n;omega⟩,by show n - (k+1)<n - k;omega,_,ConvH.sealBox 2 3 (es':=(entsOf (k+1) b).map E4) (cs2:= [.sl 3 ((entsOf (k+1) b).map E4).length fun i=>((entsOf (k+1) b).map E4).getD i []]) rfl (congrArg (fun e=>some (AB.row _ _ e)) hes) ?_, [],trivial,⟨rfl,rfl,rfl,rfl,rfl,hdr,rfl,AA (by omega),trivial⟩,⟨rfl,rfl,rfl,trivial⟩,rfl,rfl,rfl⟩
      have hel2:k+1=((entsOf (k+1) b).map E4).length:=by rw [Ab,entsOf_len]
      show [AV.slIn 3 _ _ (.ow 3 (k+1))]=_
      rw [AV.slIn,if_pos rfl,if_pos hel2]
    ·exfalso;omega
   | true=>
    have hk1:=ht rfl
    subst hk1
    have hlen:=entsOf_len k b
    have esub:∀ (c:Ctx) (u:Value),Rd (.sl 3 ((entsOf k b).map E4).length fun i=>((entsOf k b).map E4).getD i []) c u->Rd (D8 (entsOf k b)) c u:=fun c u h=>
     Rd.congr (by rw [Ab]) (fun i hi=>Bh (f:=E4) (d:=⟨0,0,false⟩) (by rw [Ab] at hi;exact hi)) h
    have hb:=LL g (entsOf k b) (by omega)
    have hq:=I_ (CT (entsOf k b)) b
    have hRR:D7 g b=if JQ g (entsOf k b)=true/\CT (entsOf k b)=b then some (entsOf k b) else none:=by rw [D7,hnn]
    conv=>whnf
    refine Al (fun h6=>?_) (fun h6=>?_) <;> (repeat rw [Aa] at h6) <;> conv=>whnf
    ·exfalso;omega
    ·refine ACalls.sub [.ag (A7 g), .ag [D8 (entsOf k b)]] ⟨ri,AG ⟨esub,trivial⟩,trivial⟩ ?_
     cases hok:JQ g (entsOf k b) with
     | false=>
      rw [hok] at hb
      have hN:D7 g b=none:=by rw [hRR,if_neg (fun h=>by rw [hok] at h;cases h.1)]
      rw [show Ee g b=4 by rw [Ee,if_neg (by rw [hg];decide),hN];rfl,hN]
      refine Fn.cl hb ?_
      exact⟨_,Kk 4,rfl⟩
     | true=>
      rw [hok] at hb
      by_cases he:CT (entsOf k b)=b
      ·have hN:D7 g b=some (entsOf k b):=by rw [hRR,if_pos ⟨hok,he⟩]
       rw [show Ee g b=0 by rw [Ee,if_neg (by rw [hg];decide),hN];rfl,hN]
       rw [decide_eq_true he] at hq
       refine Fn.cl hb ?_
       conv=>whnf
       refine Fn.cl hq ?_
       exact⟨.tp [.ag [D8 (entsOf k b)], .v (.int .i64 0)],fun c v h=>by
        have e1:SubL [.ag [.sl 3 ((entsOf k b).map E4).length fun i=>((entsOf k b).map E4).getD i []], .v (.int .i64 0)] [.ag [D8 (entsOf k b)], .v (.int .i64 0)]:=⟨AG ⟨esub,trivial⟩,ri,trivial⟩
        simp only [Rd] at h |-
        obtain⟨xs,rfl,h⟩:=h
        exact⟨_,rfl,e1.rdl (c:=c) (xs:=xs) (by simpa only [RdL,Rd] using h)⟩,rfl⟩
      ·have hN:D7 g b=none:=by rw [hRR,if_neg (fun h=>he h.2)]
       rw [show Ee g b=4 by rw [Ee,if_neg (by rw [hg];decide),hN];rfl,hN]
       rw [decide_eq_false he] at hq
       refine Fn.cl hb ?_
       conv=>whnf
       refine Fn.cl hq ?_
       exact⟨_,Kk 4,rfl⟩
  ·have hN:D7 g b=none:=On (by rw [hnn];omega)
   rw [show Ee g b=4 by rw [Ee,if_neg (by rw [hg];decide),hN];rfl,hN]
   refine Fn.st Tryz.func177 rfl ?_
   conv=>whnf
   refine Fn.cl hG ?_
   conv=>whnf
   refine aLoop.ruleC Nat (fun k=>([(1,bA b),(2, .bp 0 0),(4, .bp 1 0),(5, .v (.int .i64 0)),(6, .bp 2 0),(7,bA (b.drop (9*k))),(20, .v (.int .i64 n)),(21, .v (.int .i64 k))],XP g b k false)) (fun k=>k<=n/\9*k<=b.length) (fun k=>n - k) 0 ⟨Ag _,Ag _⟩ (Wk.conv ⟨[(1002000,200,3)],⟨rfl,rfl,trivial⟩,⟨rfl,rfl,rfl,rfl,rfl,rfl,congrArg (fun x=>AV.v (.int .i64 x)) hw,rfl,trivial⟩,⟨rfl,rfl,rfl,rfl,trivial⟩,rfl,rfl,rfl⟩) ?_
   rintro k ⟨hk,hkb⟩
   conv=>whnf
   refine Al (fun h6=>?_) (fun h6=>?_) <;> (repeat rw [Aa] at h6) <;> conv=>whnf
   ·by_cases h9:9*(k+1)<=b.length
    ·obtain⟨x,y,z,hxy,hen⟩:=TC (b.drop (9*k))
     have hu:=EC (b.drop (9*k)) [4,4,1] (by decide) (by rw [Ac];omega) (by show 3<=1000;decide) (by rw [Ac];show 9<=_;omega)
     rw [hxy] at hu
     have hst:=entsOf_step k b
     have hel:=entsOf_len k b
     refine ACalls.shut hu.go ?_
     refine⟨rfl,?_⟩
     conv=>whnf
     refine ACalls.sub [bA (b.drop (9*k)),iA [4,4,1]] ⟨ri,(AT (l:= [4,4,1]) rfl).1,trivial⟩ ?_
     refine ACalls.beside (hu) rfl ?_
     rintro _ _ ⟨rfl,rfl⟩
     conv=>whnf
     apply aDraw.treeM (0) tys_ok mixed (.one 0 (.one 1 (.one 2 (.one 3 (.one 4 (.one 5 (.one 6 (.one 7 (.one 8 (.one 9 (.one 10 (.one 11 (.one 12 (.one 13 (.one 14 (.one 15 (.one 16 .fin))))))))))))))))) [33,34,35,36,37,38,39,40,41,42,43,44,45,46,47,48] (by kernel_rfl)
     ·conv=>whnf
      try (first | (refine And.intro ⟨by decide,by decide⟩ ?_;(conv=>whnf);refine And.intro ⟨rfl,rfl,by decide⟩ ?_;(conv=>whnf)) | skip;conv=>whnf)
      try (refine And.intro (by first | omega | (simp;done)) ?_;conv=>whnf)
      try (first | (refine And.intro ⟨by decide,by decide⟩ ?_;(conv=>whnf);refine And.intro ⟨rfl,rfl,by decide⟩ ?_;(conv=>whnf)) | skip;conv=>whnf)
      try (refine And.intro (by first | omega | (simp;done)) ?_;conv=>whnf)
      try (first | (refine And.intro ⟨by decide,by decide⟩ ?_;(conv=>whnf);refine And.intro ⟨rfl,rfl,by decide⟩ ?_;(conv=>whnf)) | skip;conv=>whnf)
      try (refine And.intro (by first | omega | (simp;done)) ?_;conv=>whnf)
      try (first | (refine And.intro ⟨by decide,by decide⟩ ?_;(conv=>whnf);refine And.intro ⟨rfl,rfl,by decide⟩ ?_;(conv=>whnf)) | skip;conv=>whnf)
      try (refine And.intro (by first | rfl | omega) ?_;conv=>whnf)
      try (refine And.intro (by first | omega | exact⟨by first | rfl | (simp;done) | (simp;omega),by omega⟩) ?_;conv=>whnf)
      try (refine And.intro ⟨rfl,by first | rfl | (simp;done) | (simp;omega),by first | omega | (simp;omega)⟩ ?_;conv=>whnf)
      (skip)
      exact⟨rfl,rfl⟩
     conv=>whnf
     have hes:(entsOf k b).map E4 ++ [[.v (.int .i64 x), .v (.int .i64 y), .v (.bool (z == 1))]]=(entsOf (k+1) b).map E4:=by rw [hst,Aq,hen];rfl
     have hdr:bA ((b.drop (9*k)).drop 9)=bA (b.drop (9*(k+1))):=by rw [Aw];rfl
     exact⟨k+1,⟨by omega,h9⟩,by omega,Wk.conv ⟨[],trivial,⟨rfl,rfl,rfl,rfl,rfl,hdr,rfl,AA (by omega),trivial⟩,⟨rfl,rfl,rfl,congrArg (AB.row _ _) hes.symm,trivial⟩,rfl,rfl,rfl⟩⟩
    ·have hu:=GA (b.drop (9*k)) [4,4,1] (by decide) (by rw [Ac];omega) (by show 3<=1000;decide) (by rw [Ac];show _<9;omega)
     refine ACalls.shut hu.go ?_
     refine⟨rfl,?_⟩
     conv=>whnf
     refine ACalls.sub [bA (b.drop (9*k)),iA [4,4,1]] ⟨ri,(AT (l:= [4,4,1]) rfl).1,trivial⟩ ?_
     refine Fn.cl hu ?_
     exact⟨_,Kk 4,rfl⟩
   ·exfalso
    have:k=n:=by omega
    subst this
    omega
theorem Mu (g:Geo) (x:Img) (hl:x.bytes.length<=100000):Fn Tryz.prog 125 [.ag (A7 g), .ag (D4 x)] fun r=>r = .v (Ed (B_ g x)):=by
 have hG:Fn Tryz.prog 46 [.ag (A7 g)] fun r=>r = .v (Ed (AS g)):=Ct g.z g.d g.sp g.sl g.an
 have ht:=SV g x.bytes hl
 cases hg:AS g with
 | false=>
  rw [hg] at hG
  rw [show B_ g x=false by simp [B_,hg]]
  refine Fn.st Tryz.func125 rfl ?_
  conv=>whnf
  refine Fn.cl hG ?_
  exact⟨_,ri,rfl⟩
 | true=>
  rw [hg] at hG ht
  obtain⟨h1,h2,h3,h4,h5⟩:=Am.1 hg
  have hwz:IntKind.i64.wrap (g.z - 1)=g.z - 1:=IntWalk.i64_in _ (by omega)
  have hwd:IntKind.i64.wrap (g.d - 1)=g.d - 1:=IntWalk.i64_in _ (by omega)
  have hi1:=KB x.zone 0 (g.z - 1)
  have hi2:=KB x.what (-1) (g.d - 1)
  have hE:B_ g x=(BP x.zone 0 (g.z - 1)&&(if x.what=255 then (D7 g x.bytes).isSome else BP x.what (-1) (g.d - 1)&&decide (x.bytes.length=8))):=by rw [B_,hg];rfl
  rw [hE]
  cases hz:BP x.zone 0 (g.z - 1) with
  | false=>
   rw [hz] at hi1
   refine Fn.st Tryz.func125 rfl ?_
   conv=>whnf
   refine Fn.cl hG ?_
   conv=>whnf
   rw [hwz]
   refine Fn.cl hi1 ?_
   exact⟨_,ri,rfl⟩
  | true=>
   rw [hz] at hi1
   by_cases hw:x.what=255
   ·rw [if_pos hw]
    cases hr:D7 g x.bytes with
    | none=>
     rw [show Ee g x.bytes=4 by rw [Ee,if_neg (by rw [hg];decide),hr];rfl] at ht
     refine Fn.st Tryz.func125 rfl ?_
     conv=>whnf
     refine Fn.cl hG ?_
     conv=>whnf
     rw [hwz]
     refine Fn.cl hi1 ?_
     conv=>whnf
     refine Al (fun h=>?_) (fun h=>?_) <;> conv=>whnf
     ·refine Fn.cl ht ?_
      exact⟨_,ri,rfl⟩
     ·exact absurd hw h
    | some l=>
     rw [show Ee g x.bytes=0 by rw [Ee,if_neg (by rw [hg];decide),hr];rfl] at ht
     refine Fn.st Tryz.func125 rfl ?_
     conv=>whnf
     refine Fn.cl hG ?_
     conv=>whnf
     rw [hwz]
     refine Fn.cl hi1 ?_
     conv=>whnf
     refine Al (fun h=>?_) (fun h=>?_) <;> conv=>whnf
     ·refine Fn.cl ht ?_
      exact⟨_,ri,rfl⟩
     ·exact absurd hw h
   ·rw [if_neg hw]
    cases hh:BP x.what (-1) (g.d - 1) with
    | false=>
     rw [hh] at hi2
     refine Fn.st Tryz.func125 rfl ?_
     conv=>whnf
     refine Fn.cl hG ?_
     conv=>whnf
     rw [hwz]
     refine Fn.cl hi1 ?_
     conv=>whnf
     refine Al (fun h=>?_) (fun h=>?_) <;> conv=>whnf
     ·exact absurd h hw
     rw [hwd]
     refine Fn.cl hi2 ?_
     exact⟨_,ri,rfl⟩
    | true=>
     rw [hh] at hi2
     refine Fn.st Tryz.func125 rfl ?_
     conv=>whnf
     refine Fn.cl hG ?_
     conv=>whnf
     rw [hwz]
     refine Fn.cl hi1 ?_
     conv=>whnf
     refine Al (fun h=>?_) (fun h=>?_) <;> conv=>whnf
     ·exact absurd h hw
     rw [hwd]
     refine Fn.cl hi2 ?_
     conv=>whnf
     refine Al (fun h=>?_) (fun h=>?_) <;> conv=>whnf
     ·exact⟨_,ri,by rw [decide_eq_false (by omega)];rfl⟩
     ·exact⟨_,ri,by rw [decide_eq_true (by omega)];rfl⟩
theorem V2 (x:Img):Fn Tryz.prog 218 [.ag (D4 x)] fun r=>r = .v (.bool (Fe x)):=by
 refine Fn.st Tryz.func218 rfl ?_
 conv=>whnf
 repeat' (first | (refine Af (fun h=>?_) (fun h=>?_) <;> (try simp at h) <;> conv=>whnf) | (refine aDraw.seq tys_ok mixed (by kernel_rfl) ?_;conv=>whnf) | (refine aSeq.go ?_;conv=>whnf) | (refine And.intro (by omega) ?_;conv=>whnf))
 all_goals exact⟨_,ri,by simp [Fe, *]⟩
def G8 (r:Rc):AV:=if r.kind=0 then .v .nilIface else if r.kind=1 then .ic 250 [.ag (D4 r.img)] else if r.kind=2 then .ic 247 [.ag []] else .v .nilIface
theorem SB (g:Geo) (r:Rc) (hl:r.img.bytes.length<=100000):Fn Tryz.prog 182 [.ag (A7 g), .ag (EE r)] fun x=>x = .tp [G8 r, .v (.bool (DQ g r))]:=by
 have hi:=Mu g r.img hl
 have hn:=V2 r.img
 have hw:BP r.of_ 2 30=true->IntKind.i64.wrap (r.of_ - 2)=r.of_ - 2/\IntKind.i64.wrap (r.of_ - 1)=r.of_ - 1:=fun h=>by
  have:=AI.1 h;rw [IntKind.wrap_i64,IntKind.wrap_i64];omega
 by_cases h0:r.kind=0
 ·rw [show G8 r = .v .nilIface by rw [G8,if_pos h0],DQ,if_pos h0]
  refine Fn.st Tryz.func182 rfl ?_
  conv=>whnf
  repeat' (first | (refine Af (fun h=>?_) (fun h=>?_) <;> (try simp at h) <;> conv=>whnf) | (refine aDraw.seq tys_ok mixed (by kernel_rfl) ?_;conv=>whnf) | (refine aSeq.go ?_;conv=>whnf) | (refine Fn.cl hn ?_;conv=>whnf) | (refine And.intro (by omega) ?_;conv=>whnf))
  all_goals first | (exfalso;simp_all;done) | (refine⟨_,fun _ _ h=>h,?_⟩;simp [*];done)
 by_cases h1:r.kind=1
 ·rw [show G8 r = .ic 250 [.ag (D4 r.img)] by rw [G8,if_neg h0,if_pos h1],DQ,if_neg h0,if_pos h1]
  cases hI:B_ g r.img <;> rw [hI] at hi
  all_goals
   refine Fn.st Tryz.func182 rfl ?_
   conv=>whnf
   repeat' (first | (refine Af (fun h=>?_) (fun h=>?_) <;> (try simp at h) <;> conv=>whnf) | (refine aDraw.seq tys_ok mixed (by kernel_rfl) ?_;conv=>whnf) | (refine aSeq.go ?_;conv=>whnf) | (refine Fn.cl (KB _ _ _) ?_;conv=>whnf) | (refine Fn.cl hi ?_;conv=>whnf) | (refine And.intro (by omega) ?_;conv=>whnf))
   all_goals first | (exfalso;simp_all;done) | (refine⟨.tp [.ic 250 [.ag (D4 r.img)], .v (.bool _)],fun _ _ h=>h,?_⟩;simp_all [E8];done) | trace_state
 by_cases h2:r.kind=2
 ·rw [show G8 r = .ic 247 [.ag []] by rw [G8,if_neg h0,if_neg h1,if_pos h2],DQ,if_neg h0,if_neg h1,if_pos h2]
  refine Fn.st Tryz.func182 rfl ?_
  conv=>whnf
  repeat' (first | (refine Af (fun h=>?_) (fun h=>?_) <;> (try simp at h) <;> conv=>whnf) | (refine aDraw.seq tys_ok mixed (by kernel_rfl) ?_;conv=>whnf) | (refine aSeq.go ?_;conv=>whnf) | (refine Fn.cl (KB _ _ _) ?_;conv=>whnf) | (refine Fn.cl hn ?_;conv=>whnf) | (refine And.intro (by omega) ?_;conv=>whnf))
  all_goals first | (exfalso;simp_all;done) | (refine⟨.tp [.ic 247 [.ag []], .v (.bool _)],fun _ _ h=>h,?_⟩;simp_all [E8];done) | trace_state
 ·rw [show G8 r = .v .nilIface by rw [G8,if_neg h0,if_neg h1,if_neg h2],DQ,if_neg h0,if_neg h1,if_neg h2]
  refine Fn.st Tryz.func182 rfl ?_
  conv=>whnf
  repeat' (first | (refine Af (fun h=>?_) (fun h=>?_) <;> (try simp at h) <;> conv=>whnf) | (refine aDraw.seq tys_ok mixed (by kernel_rfl) ?_;conv=>whnf) | (refine aSeq.go ?_;conv=>whnf) | (refine Fn.cl (KB _ _ _) ?_;conv=>whnf) | (refine Fn.cl hn ?_;conv=>whnf) | (refine And.intro (by omega) ?_;conv=>whnf))
  all_goals first | (exfalso;simp_all;done) | (refine⟨_,fun _ _ h=>h,?_⟩;rfl)
theorem sizes_own:ACalls Tryz.prog false 183 [] [] fun r H=>r = .ow 0 5/\H=[.row 3 1 (szR.map Sj)]:=by
 refine ACalls.ofC tys_ok Tryz.func183 rfl rfl (Ad rfl) ?_
 exact⟨.ow 0 5,_, [.row 3 1 (szR.map Sj)],fun _ _ h=>h,Wk.conv ⟨[],trivial,⟨rfl,trivial⟩,⟨rfl,trivial⟩,rfl,rfl,rfl⟩,rfl,rfl⟩
theorem Hs (g:Geo) (r:Rc) (hl:r.img.bytes.length<=100000):Fn Tryz.prog 131 [.ag (A7 g), .ag (EE r)] fun x=>x = .tp [bA (if DH g r then D6 r else []), .v (Ed (DH g r))]:=by
 have hb:=SB g r hl
 have hG:Fn Tryz.prog 46 [.ag (A7 g)] fun r=>r = .v (Ed (AS g)):=Ct g.z g.d g.sp g.sl g.an
 have no:∀ (c:Ctx) (v:Value),Rd (.tp [.v (.slice none 0 0), .v (.int .i64 1)]) c v->Rd (.tp [bA [], .v (.int .i64 1)]) c v:=fun c v h=>by
  simp only [Rd,RdL] at h |-
  obtain⟨xs,rfl,y,ys,rfl,rfl,h⟩:=h
  exact⟨_,rfl,_,_,rfl,AP 1 (fun i=> [.v (.int .u8 (([]:List UInt8).getD i 0).toNat)]) c (.slice none 0 0) (by simp [Rd]),h⟩
 have hk:G8 r = .v .nilIface\/G8 r = .ic 250 [.ag (D4 r.img)]\/G8 r = .ic 247 [.ag []]:=by
  unfold G8
  split
  ·exact .inl rfl
  ·split
   ·exact .inr (.inl rfl)
   ·split
    ·exact .inr (.inr rfl)
    ·exact .inl rfl
 cases hok:DH g r with
 | false=>
  cases hg:AS g with
  | false=>
   rw [hg] at hG
   rcases hk with hk | hk | hk <;> rw [hk] at hb
   all_goals
    refine Fn.st Tryz.func131 rfl ?_
    conv=>whnf
    refine Fn.cl hb ?_
    conv=>whnf
    refine Fn.cl hG ?_
    exact⟨_,no,rfl⟩
  | true=>
   rw [hg] at hG
   have hbo:DQ g r=false:=by simpa [DH,hg] using hok
   rw [hbo] at hb
   rcases hk with hk | hk | hk <;> rw [hk] at hb
   all_goals
    refine Fn.st Tryz.func131 rfl ?_
    conv=>whnf
    refine Fn.cl hb ?_
    conv=>whnf
    refine Fn.cl hG ?_
    exact⟨_,no,rfl⟩
 | true=>
  have hg:AS g=true:=by simp only [DH,Bool.and_eq_true] at hok;exact hok.1
  have hbo:DQ g r=true:=by simp only [DH,Bool.and_eq_true] at hok;exact hok.2
  rw [hg] at hG
  rw [hbo] at hb
  have hrow:=I4 (BW r) szR rfl (by show 5<=1000;decide) (Ol hok)
  have fin0:∀ (L:List UInt8) (n:Nat) (es:List (List AV)),n=L.length->es=L.map EB->∀ (c:Ctx) (v:Value),Rd (.tp [.sl 1 n fun i=>es.getD i [], .v (.int .i64 0)]) c v->Rd (.tp [bA L, .v (.int .i64 0)]) c v:=fun L n es hn he c v h=>by
   subst he
   simp only [Rd,RdL] at h |-
   obtain⟨xs,rfl,y,ys,rfl,h1,h⟩:=h
   exact⟨_,rfl,y,ys,rfl,Rd.congr (u:=y) hn (fun i hi=>Bh (f:=EB) (l:=L) (d:=0) (hn ▸ hi)) (by simp only [Rd];exact h1),h⟩
  by_cases h1:r.kind=1
  ·have hI:B_ g r.img=true:=by
    rw [DQ,if_neg (by omega),if_pos h1] at hbo
    simp only [Bool.and_eq_true] at hbo
    exact hbo.2.2
   have hs:=Hv hI
   have e1:=I5 r
   have e2:(rowB [r.img.zone,CB r.img.what] [1,1]).length=2:=by rw [tot_rowB [r.img.zone,CB r.img.what] [1,1] rfl];rfl
   have hhead:=I4 [r.img.zone,CB r.img.what] [1,1] rfl (by show 2<=1000;decide) (OL hI)
   have hpart:=T7 r.img.bytes (by omega)
   rw [show G8 r = .ic 250 [.ag (D4 r.img)] by rw [G8,if_neg (by omega),if_pos h1]] at hb
   refine Fn.st Tryz.func131 rfl ?_
   conv=>whnf
   refine Fn.cl hb ?_
   conv=>whnf
   refine Fn.cl hG ?_
   conv=>whnf
   apply aDraw.treeK (0) tys_ok mixed (.one 0 (.one 1 (.one 2 (.one 3 (.one 4 (.one 5 (.one 6 (.one 7 (.one 8 (.one 9 (.two 10 (.one 11 (.one 12 (.one 13 (.one 14 (.one 15 (.one 16 (.one 17 .fin))))))) 11 (.one 10 (.one 12 (.one 13 (.one 14 (.one 15 (.one 16 (.one 17 .fin)))))))))))))))))) (by kernel_rfl)
   refine And.intro ?_ ?_
   conv=>whnf
   (refine ACalls.beside sizes_own rfl ?_;rintro _ _ ⟨rfl,rfl⟩)
   conv=>whnf
   (refine ACalls.shut hrow.go ?_;(conv=>whnf);refine And.intro rfl ?_;(conv=>whnf);refine And.intro rfl ?_;(conv=>whnf);refine ACalls.sub [iA (BW r),iA szR] ⟨(AT (l:=BW r) rfl).1,(AT (l:=szR) rfl).1,trivial⟩ ?_;refine ACalls.beside hrow rfl ?_;rintro _ _ ⟨rfl,rfl⟩)
   conv=>whnf
   rotate_left 1
   conv=>whnf
   (refine ACalls.beside sizes_own rfl ?_;rintro _ _ ⟨rfl,rfl⟩)
   conv=>whnf
   (refine ACalls.shut hrow.go ?_;(conv=>whnf);refine And.intro rfl ?_;(conv=>whnf);refine And.intro rfl ?_;(conv=>whnf);refine ACalls.sub [iA (BW r),iA szR] ⟨(AT (l:=BW r) rfl).1,(AT (l:=szR) rfl).1,trivial⟩ ?_;refine ACalls.beside hrow rfl ?_;rintro _ _ ⟨rfl,rfl⟩)
   conv=>whnf
   rotate_left 1
   all_goals
    refine aSeq.go ?_
    conv=>whnf
    refine Al (fun h2=>?_) (fun h2=>?_) <;> conv=>whnf
    ·have hz:CB r.img.what=254:=by rw [CB,if_pos h2]
     refine ACalls.shut hhead.go ?_
     refine⟨rfl,?_⟩
     refine⟨rfl,?_⟩
     conv=>whnf
     refine ACalls.sub [iA [r.img.zone,CB r.img.what],iA [1,1]] ⟨(AT (l:= [r.img.zone,CB r.img.what]) (by rw [hz];rfl)).1,(AT (l:= [1,1]) rfl).1,trivial⟩ ?_
     refine ACalls.beside hhead rfl ?_
     rintro _ _ ⟨rfl,rfl⟩
     conv=>whnf
     refine ACalls.beside (hpart) rfl ?_
     rintro _ _ ⟨rfl,rfl⟩
     refine⟨by simp,?_⟩
     refine⟨⟨by simp,by omega⟩,?_⟩
     refine⟨by simp,?_⟩
     conv=>whnf
     refine And.intro ⟨by simp,by simp only [Ai];omega⟩ ?_
     conv=>whnf
     refine And.intro (by simp;omega) ?_
     conv=>whnf
     exact⟨.tp [bA (D6 r), .v (.int .i64 0)],fin0 _ _ _ (by rw [D6,if_pos h1,GX];simp;omega) (by rw [D6,if_pos h1,GX];simp),rfl⟩
    ·have hz:CB r.img.what=r.img.what:=by rw [CB,if_neg h2]
     refine ACalls.shut hhead.go ?_
     refine⟨rfl,?_⟩
     refine⟨rfl,?_⟩
     conv=>whnf
     refine ACalls.sub [iA [r.img.zone,CB r.img.what],iA [1,1]] ⟨(AT (l:= [r.img.zone,CB r.img.what]) (by rw [hz];rfl)).1,(AT (l:= [1,1]) rfl).1,trivial⟩ ?_
     refine ACalls.beside hhead rfl ?_
     rintro _ _ ⟨rfl,rfl⟩
     conv=>whnf
     refine ACalls.beside (hpart) rfl ?_
     rintro _ _ ⟨rfl,rfl⟩
     refine⟨by simp,?_⟩
     refine⟨⟨by simp,by omega⟩,?_⟩
     refine⟨by simp,?_⟩
     conv=>whnf
     refine And.intro ⟨by simp,by simp only [Ai];omega⟩ ?_
     conv=>whnf
     refine And.intro (by simp;omega) ?_
     conv=>whnf
     exact⟨.tp [bA (D6 r), .v (.int .i64 0)],fin0 _ _ _ (by rw [D6,if_pos h1,GX];simp;omega) (by rw [D6,if_pos h1,GX];simp),rfl⟩
  have hk2:G8 r = .v .nilIface\/G8 r = .ic 247 [.ag []]:=by
   rcases hk with h | h | h
   ·exact .inl h
   ·exfalso
    unfold G8 at h
    rw [if_neg h1] at h
    split at h
    ·cases h
    ·split at h <;> simp at h
   ·exact .inr h
  rcases hk2 with hk | hk <;> rw [hk] at hb
  ·refine Fn.st Tryz.func131 rfl ?_
   conv=>whnf
   refine Fn.cl hb ?_
   conv=>whnf
   refine Fn.cl hG ?_
   conv=>whnf
   apply aDraw.treeK (0) tys_ok mixed (.one 0 (.one 1 (.one 2 (.one 3 (.one 4 (.one 5 (.one 6 (.one 7 (.one 8 (.one 9 (.two 10 (.one 11 (.one 12 (.one 13 (.one 14 (.one 15 (.one 16 (.one 17 .fin))))))) 11 (.one 10 (.one 12 (.one 13 (.one 14 (.one 15 (.one 16 (.one 17 .fin)))))))))))))))))) (by kernel_rfl)
   refine And.intro ?_ ?_
   conv=>whnf
   (refine ACalls.beside sizes_own rfl ?_;rintro _ _ ⟨rfl,rfl⟩)
   conv=>whnf
   (refine ACalls.shut hrow.go ?_;(conv=>whnf);refine And.intro rfl ?_;(conv=>whnf);refine And.intro rfl ?_;(conv=>whnf);refine ACalls.sub [iA (BW r),iA szR] ⟨(AT (l:=BW r) rfl).1,(AT (l:=szR) rfl).1,trivial⟩ ?_;refine ACalls.beside hrow rfl ?_;rintro _ _ ⟨rfl,rfl⟩)
   conv=>whnf
   rotate_left 1
   conv=>whnf
   (refine ACalls.beside sizes_own rfl ?_;rintro _ _ ⟨rfl,rfl⟩)
   conv=>whnf
   (refine ACalls.shut hrow.go ?_;(conv=>whnf);refine And.intro rfl ?_;(conv=>whnf);refine And.intro rfl ?_;(conv=>whnf);refine ACalls.sub [iA (BW r),iA szR] ⟨(AT (l:=BW r) rfl).1,(AT (l:=szR) rfl).1,trivial⟩ ?_;refine ACalls.beside hrow rfl ?_;rintro _ _ ⟨rfl,rfl⟩)
   conv=>whnf
   rotate_left 1
   all_goals
    refine⟨by simp,?_⟩
    conv=>whnf
    exact⟨.tp [bA (rowB (BW r) szR), .v (.int .i64 0)],fin0 _ _ _ rfl rfl,by simp only [D6,if_neg h1,List.append_nil,if_true];rfl⟩
  ·refine Fn.st Tryz.func131 rfl ?_
   conv=>whnf
   refine Fn.cl hb ?_
   conv=>whnf
   refine Fn.cl hG ?_
   conv=>whnf
   apply aDraw.treeK (0) tys_ok mixed (.one 0 (.one 1 (.one 2 (.one 3 (.one 4 (.one 5 (.one 6 (.one 7 (.one 8 (.one 9 (.two 10 (.one 11 (.one 12 (.one 13 (.one 14 (.one 15 (.one 16 (.one 17 .fin))))))) 11 (.one 10 (.one 12 (.one 13 (.one 14 (.one 15 (.one 16 (.one 17 .fin)))))))))))))))))) (by kernel_rfl)
   refine And.intro ?_ ?_
   conv=>whnf
   (refine ACalls.beside sizes_own rfl ?_;rintro _ _ ⟨rfl,rfl⟩)
   conv=>whnf
   (refine ACalls.shut hrow.go ?_;(conv=>whnf);refine And.intro rfl ?_;(conv=>whnf);refine And.intro rfl ?_;(conv=>whnf);refine ACalls.sub [iA (BW r),iA szR] ⟨(AT (l:=BW r) rfl).1,(AT (l:=szR) rfl).1,trivial⟩ ?_;refine ACalls.beside hrow rfl ?_;rintro _ _ ⟨rfl,rfl⟩)
   conv=>whnf
   rotate_left 1
   conv=>whnf
   (refine ACalls.beside sizes_own rfl ?_;rintro _ _ ⟨rfl,rfl⟩)
   conv=>whnf
   (refine ACalls.shut hrow.go ?_;(conv=>whnf);refine And.intro rfl ?_;(conv=>whnf);refine And.intro rfl ?_;(conv=>whnf);refine ACalls.sub [iA (BW r),iA szR] ⟨(AT (l:=BW r) rfl).1,(AT (l:=szR) rfl).1,trivial⟩ ?_;refine ACalls.beside hrow rfl ?_;rintro _ _ ⟨rfl,rfl⟩)
   conv=>whnf
   rotate_left 1
   all_goals
    refine⟨by simp,?_⟩
    conv=>whnf
    exact⟨.tp [bA (rowB (BW r) szR), .v (.int .i64 0)],fin0 _ _ _ rfl rfl,by simp only [D6,if_neg h1,List.append_nil,if_true];rfl⟩
theorem NN (b:List UInt8):∃ x y:Int,nums [1,1] b=[x,y]:=⟨_,_,rfl⟩
theorem Rx (b:List UInt8) (hl:b.length<=100000) (hs:ER b=true):Fn Tryz.prog 241 [bA b] fun r=>r = .tp [.ag (D4 (Ds b)), .v (.int .i64 0)]:=by
 simp only [ER,Bool.and_eq_true,decide_eq_true_eq] at hs
 have hu:=EC b [1,1] (fun s h=>by simp at h;exact .inl h) (by omega) (by show 2<=1000;decide) (show 2<=b.length from hs.1)
 have hp:=HP (b.drop (tot [1,1])) (by rw [Ac];omega) hs.2
 obtain⟨x,y,hxy⟩:=NN b
 have hi:Ds b=⟨x,Ek y,((b.drop 2).drop 1).take (BD (b.drop 2))⟩:=by rw [Ds,hxy];rfl
 rw [hxy] at hu
 rw [hi]
 refine Fn.st Tryz.func241 rfl ?_
 conv=>whnf
 refine ACalls.shut hu.go ?_
 refine⟨rfl,?_⟩
 conv=>whnf
 refine ACalls.sub [bA b,iA [1,1]] ⟨ri,(AT (l:= [1,1]) rfl).1,trivial⟩ ?_
 refine ACalls.beside (hu) rfl ?_
 rintro _ _ ⟨rfl,rfl⟩
 conv=>whnf
 refine Fn.cl hp ?_
 conv=>whnf
 refine aSeq.go ?_
 refine⟨⟨by decide,by decide⟩,?_⟩
 refine⟨⟨rfl,rfl,by decide⟩,?_⟩
 conv=>whnf
 refine Al (fun h=>?_) (fun h=>?_) <;> conv=>whnf
 ·rw [show Ek y = -1 by rw [Ek,if_pos h]]
  refine⟨⟨by decide,by decide⟩,?_⟩
  refine⟨⟨rfl,rfl,by decide⟩,?_⟩
  conv=>whnf
  refine aDraw.of tys_ok mixed [0,1,2,3,4,5,6,7,8,9,10] (by kernel_rfl) ?_
  refine⟨⟨by decide,by decide⟩,?_⟩
  refine⟨⟨rfl,rfl,by decide⟩,?_⟩
  refine⟨⟨by decide,by decide⟩,?_⟩
  refine⟨⟨rfl,rfl,by decide⟩,?_⟩
  exact⟨_,ri,rfl⟩
 ·rw [show Ek y=y by rw [Ek,if_neg h]]
  refine aDraw.of tys_ok mixed [0,1,2,3,4,5,6,7,8,9,10] (by kernel_rfl) ?_
  refine⟨⟨by decide,by decide⟩,?_⟩
  refine⟨⟨rfl,rfl,by decide⟩,?_⟩
  refine⟨⟨by decide,by decide⟩,?_⟩
  refine⟨⟨rfl,rfl,by decide⟩,?_⟩
  exact⟨_,ri,rfl⟩
theorem Nw (x y e:Int) (c:Ctx) (v:Value) (h:Rd (.tp [.ag [.v (.int .i64 x), .v (.int .i64 y), .v (.slice none 0 0)], .v (.int .i64 e)]) c v):Rd (.tp [.ag (D4 ⟨x,y, []⟩), .v (.int .i64 e)]) c v:=by
 simp only [D4,Rd,RdL] at h |-
 obtain⟨xs,rfl,a,as',rfl,⟨zs,rfl,p,ps,rfl,hp,q,qs,rfl,hq,r,rs,rfl,rfl,hr⟩,h⟩:=h
 exact⟨_,rfl,_,_,rfl,⟨_,rfl,_,_,rfl,hp,_,_,rfl,hq,_,_,rfl,AP 1 (fun i=> [.v (.int .u8 (([]:List UInt8).getD i 0).toNat)]) c (.slice none 0 0) (by simp [Rd]),hr⟩,h⟩
theorem Ta (b:List UInt8) (hl:b.length<=100000) (hs:ER b=false):∃ x:Img,x.bytes=[]/\Fn Tryz.prog 241 [bA b] fun r=>r = .tp [.ag (D4 x), .v (.int .i64 4)]:=by
 have hz:∀ s∈ [(1:Int),1],DX s:=fun s h=>by simp at h;exact .inl h
 by_cases h2:2<=b.length
 ·have hpo:E1 (b.drop 2)=false:=by simpa [ER,h2] using hs
  have hu:=EC b [1,1] hz (by omega) (by show 2<=1000;decide) (show 2<=b.length from h2)
  have hp:=LI (b.drop (tot [1,1])) hpo
  obtain⟨x,y,hxy⟩:=NN b
  rw [hxy] at hu
  refine⟨⟨x,Ek y, []⟩,rfl,?_⟩
  refine Fn.st Tryz.func241 rfl ?_
  conv=>whnf
  refine ACalls.shut hu.go ?_
  refine⟨rfl,?_⟩
  conv=>whnf
  refine ACalls.sub [bA b,iA [1,1]] ⟨ri,(AT (l:= [1,1]) rfl).1,trivial⟩ ?_
  refine ACalls.beside (hu) rfl ?_
  rintro _ _ ⟨rfl,rfl⟩
  conv=>whnf
  refine Fn.cl hp ?_
  conv=>whnf
  refine aSeq.go ?_
  refine⟨⟨by decide,by decide⟩,?_⟩
  refine⟨⟨rfl,rfl,by decide⟩,?_⟩
  conv=>whnf
  refine Al (fun h=>?_) (fun h=>?_) <;> conv=>whnf
  ·rw [show Ek y = -1 by rw [Ek,if_pos h]]
   refine⟨⟨by decide,by decide⟩,?_⟩
   refine⟨⟨rfl,rfl,by decide⟩,?_⟩
   conv=>whnf
   refine aDraw.of tys_ok mixed [0,1,2,3,4,5,6,7,8,9,10] (by kernel_rfl) ?_
   refine⟨⟨by decide,by decide⟩,?_⟩
   refine⟨⟨rfl,rfl,by decide⟩,?_⟩
   refine⟨⟨by decide,by decide⟩,?_⟩
   refine⟨⟨rfl,rfl,by decide⟩,?_⟩
   exact⟨_,Nw _ _ _,rfl⟩
  ·rw [show Ek y=y by rw [Ek,if_neg h]]
   refine aDraw.of tys_ok mixed [0,1,2,3,4,5,6,7,8,9,10] (by kernel_rfl) ?_
   refine⟨⟨by decide,by decide⟩,?_⟩
   refine⟨⟨rfl,rfl,by decide⟩,?_⟩
   refine⟨⟨by decide,by decide⟩,?_⟩
   refine⟨⟨rfl,rfl,by decide⟩,?_⟩
   exact⟨_,Nw _ _ _,rfl⟩
 ·have hu:=GA b [1,1] hz (by omega) (by show 2<=1000;decide) (show b.length<2 by omega)
  refine⟨⟨0,0, []⟩,rfl,?_⟩
  refine Fn.st Tryz.func241 rfl ?_
  conv=>whnf
  refine ACalls.shut hu.go ?_
  refine⟨rfl,?_⟩
  conv=>whnf
  refine ACalls.sub [bA b,iA [1,1]] ⟨ri,(AT (l:= [1,1]) rfl).1,trivial⟩ ?_
  refine Fn.cl hu ?_
  exact⟨_,Nw _ _ _,rfl⟩
theorem Ox (l:List Int) (j:Nat) (h:j<l.length):Nb (l.take (j+1))=Nb (l.take j) ++ leB 1 (l.getD j 0).toNat:=by
 have e:∀ n,n<=l.length->Nb (l.take n)=rowB (l.take n) ((EH l.length).take n):=fun n hn=>by
  rw [Nb,Ao,Co hn,EH,EH,List.take_replicate,Co hn]
 rw [e _ (by omega),e _ (by omega),rowB_step l (EH l.length) j h (by rw [IA];exact h)]
 simp [EH,List.getD_eq_getElem?_getD,List.getElem?_eq_getElem h]
theorem Kn (l:List Int):(Nb l).length=l.length:=by rw [Nb,tot_rowB _ _ (IA _).symm,tot_ones]
def FI (a:An) (k:Nat):List UInt8:=rowB (J6 a) szA ++ Gd a.label ++ ((a.homes.take k).map L5).flatten
theorem MG (a:An) (k:Nat) (h:k<a.homes.length):FI a (k+1)=FI a k ++ L5 (a.homes.getD k ⟨[],0,0⟩):=by
 rw [FI,FI,Ar h,Aq,List.flatten_append,List.append_assoc]
 simp only [Ay,By,Az,List.flatten_nil,List.append_nil,List.getD_eq_getElem?_getD,List.getElem?_eq_getElem h,Bj,List.append_assoc]
theorem Ps (a:An):FI a a.homes.length=Ir a:=by rw [FI,List.take_length,Ir]
theorem VY {g:Geo} {a:An} (hg:AS g=true) (ha:AY g a=true):∀ k (_:k<(J6 a).length) (_:k<szA.length),DX szA[k]/\0<=(J6 a)[k]/\(J6 a)[k]<CG szA[k]:=by
 obtain⟨g1,g2,g3,g4,g5⟩:=Am.1 hg
 simp only [AY,Bool.and_eq_true,decide_eq_true_eq,Bn,Ck,B7,AI,A4] at ha
 obtain⟨⟨q1,q2,q3,q4⟩,_,_,q5,q6,q7,q8⟩:=ha
 intro k p _
 have hk:k=0\/k=1\/k=2\/k=3\/k=4:=by simp [J6] at p;omega
 have l4:CG 4=4294967296:=rfl
 have l1:CG 1=256:=rfl
 rcases hk with rfl | rfl | rfl | rfl | rfl
 ·exact⟨.inr (.inr rfl),q1.1,by show a.gen<CG 4;omega⟩
 ·exact⟨.inr (.inr rfl),q2.1,by show a.epoch<CG 4;omega⟩
 ·exact⟨.inr (.inr rfl),q3.1,by show a.seq<CG 4;omega⟩
 ·exact⟨.inr (.inr rfl),q4.1,by show a.last<CG 4;omega⟩
 ·exact⟨.inl rfl,q5.1,by show a.pos<CG 1;omega⟩
theorem Db {g:Geo} {a:An} (hg:AS g=true) (ha:AY g a=true) (k:Nat) (hk:k<=a.homes.length):(FI a k).length<=200/\a.homes.length<=4/\C5 a.label.data.toList=0/\a.label.size<=24/\(∀ h∈a.homes,DV g h=true):=by
 obtain⟨g1,g2,g3,g4,g5⟩:=Am.1 hg
 simp only [AY,Bool.and_eq_true,decide_eq_true_eq,Bn,Ck,B7,AI,A4] at ha
 obtain⟨_,_,_,q5,q6,q7,q8⟩:=ha
 have h24:=Ge q6
 have hs:a.label.size=a.label.data.toList.length:=rfl
 have hr:(rowB (J6 a) szA).length=17:=tot_rowB _ _ rfl
 have hm:((a.homes.take k).map L5).flatten.length=(a.homes.take k).length*(g.d.toNat+6):=(Kq hg (a.homes.take k) fun h hh=>q8 h (Bw hh)).2
 have hk4:(a.homes.take k).length<=4:=by rw [Ao];omega
 have hmul:(a.homes.take k).length*(g.d.toNat+6)<=4*10:=CN hk4 (by omega)
 refine⟨?_,by omega,q6,by omega,q8⟩
 rw [FI,Ae,Ae,hr,F7,hm]
 omega
theorem L0 {L:List UInt8} {n:Nat} {es:List (List AV)} (hn:n=L.length) (he:es=L.map EB) (c:Ctx) (v:Value) (h:Rd (.sl 1 n fun i=>es.getD i []) c v):Rd (bA L) c v:=by
 subst he
 exact Rd.congr hn (fun i hi=>Bh (f:=EB) (l:=L) (d:=0) (hn ▸ hi)) h
theorem HZ {α:Type} {d:α} {β:Type} (f:α->β) (l:List α):(List.range l.length).map (fun i=>f (l.getD i d))=l.map f:=by
 refine List.ext_getElem (by simp) fun i h1 h2=>?_
 simp only [Ab,List.length_range] at h1
 simp [List.getD_eq_getElem?_getD,List.getElem?_eq_getElem h1]
theorem Pi (L:List UInt8):((List.range L.length).map fun i=> [AV.v (Value.int IntKind.u8 ((L.getD i 0).toNat:Int))])=L.map EB:=HZ (d:=0) EB L
theorem JB (g:Geo) (a:An) (hl:a.label.size<=1000000) (hh:a.homes.length<=1000000):Fn Tryz.prog 130 [.ag (A7 g), .ag (CE a)] fun r=>r = .tp [bA (if AS g&&AY g a then Ir a else []), .v (Ed (AS g&&AY g a))]:=by
 have hc:=Fs g a hl hh
 have no:∀ (c:Ctx) (v:Value),Rd (.tp [.v (.slice none 0 0), .v (.int .i64 1)]) c v->Rd (.tp [bA [], .v (.int .i64 1)]) c v:=fun c v h=>by
  simp only [Rd,RdL] at h |-
  obtain⟨xs,rfl,y,ys,rfl,rfl,h⟩:=h
  exact⟨_,rfl,_,_,rfl,AP 1 (fun i=> [.v (.int .u8 (([]:List UInt8).getD i 0).toNat)]) c (.slice none 0 0) (by simp [Rd]),h⟩
 cases hok:(AS g&&AY g a) with
 | false=>
  rw [hok] at hc
  refine Fn.st Tryz.func130 rfl ?_
  conv=>whnf
  refine Fn.cl hc ?_
  exact⟨_,no,rfl⟩
 | true=>
  rw [hok] at hc
  have hg:AS g=true:=by simp only [Bool.and_eq_true] at hok;exact hok.1
  have ha:AY g a=true:=by simp only [Bool.and_eq_true] at hok;exact hok.2
  obtain⟨q1,q2,q3,q4,q5⟩:=Db hg ha 0 (Ag _)
  have hrow:=I4 (J6 a) szA rfl (by show 5<=1000;decide) (VY hg ha)
  have hlb:=RZ a.label hl
  rw [if_pos q3,q3] at hlb
  refine Fn.st Tryz.func130 rfl ?_
  conv=>whnf
  refine Fn.cl hc ?_
  conv=>whnf
  refine ACalls.shut (hrow).go ?_
  refine⟨rfl,?_⟩
  refine⟨rfl,?_⟩
  conv=>whnf
  refine ACalls.sub [iA (J6 a),iA szA] ⟨(AT (l:=(J6 a)) rfl).1,(AT (l:=szA) rfl).1,trivial⟩ ?_
  refine ACalls.beside (hrow) rfl ?_
  rintro _ _ ⟨rfl,rfl⟩
  conv=>whnf
  refine Fn.cl hlb ?_
  conv=>whnf
  have hr17:(rowB (J6 a) szA).length=17:=tot_rowB _ _ rfl
  refine And.intro ⟨by simp,by rw [hr17,F7];omega⟩ ?_
  conv=>whnf
  have e0:(rowB (J6 a) szA).map EB ++ ((List.range (Gd a.label).length).map fun i=> [AV.v (Value.int IntKind.u8 (((Gd a.label).getD i 0).toNat:Int))])=(FI a 0).map EB:=by
   rw [Pi,<-Aq];simp [FI]
  have e1:(rowB (J6 a) szA).length+(Gd a.label).length=(FI a 0).length:=by simp [FI]
  refine aLoop.ruleR Nat (fun k=>([(2, .bp 0 0),(3, .bp 1 0),(7, .ow 4 (FI a k).length),(49,H4 a.homes),(50, .v (.int .i64 a.homes.length)),(51, .v (.int .i64 k))], [.box 23 (A7 g), .box 40 (CE a), .dead, .dead, .row 5 1 ((FI a k).map EB)])) (fun k=>k<=a.homes.length) (fun k=>a.homes.length - k) 0 (Ag _)
   (Wk.conv ⟨[],trivial,⟨rfl,rfl,congrArg (AV.ow 4) e1,rfl,rfl,rfl,trivial⟩,⟨rfl,rfl,congrArg (AB.row _ _) e0.symm,trivial⟩,rfl,rfl,rfl⟩) ?_
  intro k hk
  conv=>whnf
  refine Al (fun h6=>?_) (fun h6=>?_) <;> (repeat rw [Aa] at h6) <;> conv=>whnf
  ·refine⟨by first | omega | (refine⟨rfl,?_,?_⟩ <;> first | omega | (simp only [Ab];done) | (simp only [Ab];omega)) | (simp only [Ab];omega),?_⟩
   conv=>whnf
   have hk':k<a.homes.length:=by omega
   have hh4:=q5 _ (AE (d:=(⟨[],0,0⟩:Hm)) hk')
   obtain⟨f1,f2,f3,f4,f5⟩:=Le hg hh4
   have hst:=MG a k hk'
   have hB:=(Db hg ha k hk).1
   have hB2:=(Db hg ha (k+1) hk').1
   generalize hX:FI a k=X at hst hB |-
   rw [show a.homes.getD (k:Int).toNat ⟨[],0,0⟩=a.homes.getD k ⟨[],0,0⟩ by rw [Aa]]
   generalize a.homes.getD k ⟨[],0,0⟩=h at hh4 f1 f2 f3 f4 f5 hst |-
   rw [hst] at hB2
   have hlm:(L5 h).length=h.places.length+5:=by rw [IP,tot_rowB _ _ (by rw [Ae,EQ];rfl),EP]
   rw [Ae,hlm] at hB2
   refine aLoop.ruleR Nat (fun j=>([(2, .bp 0 0),(3, .bp 1 0),(7, .ow 4 (X ++ Nb (h.places.take j)).length),(12, .bp 5 0),(49,H4 a.homes),(50, .v (.int .i64 a.homes.length)),(51, .v (.int .i64 k)),(56,iA h.places),(57, .v (.int .i64 h.places.length)),(58, .v (.int .i64 j))], [.box 23 (A7 g), .box 40 (CE a), .dead, .dead, .row 5 1 ((X ++ Nb (h.places.take j)).map EB), .box 132 (H8 h)])) (fun j=>j<=h.places.length) (fun j=>h.places.length - j) 0 (Ag _)
    (Wk.conv ⟨[],trivial,⟨rfl,rfl,congrArg (fun l=>AV.ow 4 (List.length l)) (List.append_nil X).symm,rfl,rfl,rfl,rfl,rfl,rfl,rfl,trivial⟩,⟨rfl,rfl,congrArg (fun l=>AB.row _ _ (List.map EB l)) (List.append_nil X),rfl,trivial⟩,rfl,rfl,rfl⟩) ?_
   intro j hj
   conv=>whnf
   refine Al (fun h7=>?_) (fun h7=>?_) <;> (repeat rw [Aa] at h7) <;> conv=>whnf
   ·refine⟨by first | omega | (refine⟨rfl,?_,?_⟩ <;> first | omega | (simp only [Ab];done) | (simp only [Ab];omega)) | (simp only [Ab];omega),?_⟩
    conv=>whnf
    rw [Aa]
    have hj':j<h.places.length:=by omega
    have hp:=f2 _ (AE (d:=(0:Int)) hj')
    have hpl:=Kn (h.places.take j)
    have hps:=Ox h.places j hj'
    have hput:=Vs (X ++ Nb (h.places.take j)) (h.places.getD j 0) 1 (.inl rfl) (by rw [Ae,hpl,Ao];omega) hp.1 hp.2
    rw [show (1:Int).toNat=1 from rfl,List.append_assoc,<-hps] at hput
    refine ACalls.shut (hput).go ?_
    conv=>whnf
    repeat' (refine And.intro (by first | rfl | omega | (simp;done) | (simp only [Ab];omega) | (simp;omega)) ?_;conv=>whnf)
    refine ACalls.sub [bA (X ++ Nb (h.places.take j)), .v (.int .i64 (h.places.getD j 0)), .v (.int .i64 1)] ⟨L0 rfl rfl,ri,ri,trivial⟩ ?_
    refine ACalls.beside (hput) rfl ?_
    rintro _ _ ⟨rfl,rfl⟩
    refine⟨j+1,by omega,by omega,WkN.r (s:= [0,1,2,3,6,5]) ⟨⟨rfl,rfl,rfl,rfl,rfl,rfl,rfl,rfl,rfl,AA (by omega),trivial⟩,⟨rfl,rfl,trivial,trivial,rfl,rfl,trivial⟩,rfl,rfl,rfl,rfl,rfl⟩⟩
   ·have ej:j=h.places.length:=by omega
    subst ej
    have hr2:=I4 [h.next,h.root] [1,4] rfl (by show 2<=1000;decide) (Qz f3 ⟨f4,f5⟩)
    have l5:(rowB [h.next,h.root] [1,4]).length=5:=tot_rowB _ _ rfl
    have hpl:=Kn (h.places.take h.places.length)
    rw [List.take_length] at hpl |-
    refine ACalls.shut (hr2).go ?_
    refine⟨rfl,?_⟩
    refine⟨rfl,?_⟩
    conv=>whnf
    refine ACalls.sub [iA [h.next,h.root],iA [1,4]] ⟨(AT (l:= [h.next,h.root]) rfl).1,(AT (l:= [1,4]) rfl).1,trivial⟩ ?_
    refine ACalls.beside (hr2) rfl ?_
    rintro _ _ ⟨rfl,rfl⟩
    refine⟨by simp,?_⟩
    conv=>whnf
    refine And.intro ⟨by simp,by rw [l5,Ae,hpl];omega⟩ ?_
    conv=>whnf
    refine⟨k+1,hk',by omega,WkN.r (s:= [0,1,2,3,4]) ⟨⟨rfl,rfl,congrArg (AV.ow 4) (by rw [hst];simp [L5,CF]),rfl,rfl,AA (by omega),trivial⟩,⟨rfl,rfl,trivial,trivial,congrArg (fun l=>some (AB.row _ _ l)) (by rw [hst];simp [L5]),trivial⟩,rfl,rfl,rfl,rfl,rfl⟩⟩
  ·have ek:k=a.homes.length:=by omega
   subst ek
   rw [Ps]
   refine⟨by simp,?_⟩
   exact⟨.tp [bA (Ir a), .v (.int .i64 0)],fun c v h=>by
    simp only [Rd,RdL] at h |-
    obtain⟨xs,rfl,y,ys,rfl,h1,h⟩:=h
    exact⟨_,rfl,y,ys,rfl,L0 rfl rfl c y (by simp only [Rd];exact h1),h⟩,rfl⟩
section
variable {P:Program} {T:Tys} {w0:Fl} {M0:Ms} {n d0:Nat} {ce:Ctx} {l m:Nat}
theorem MT {row:String} {args:Array Value} {w:World} {R:Value->World->Prop} (h:Rows P row args w R):RowsIn (Fence.wide.inRound l) m P row args w R:=
 fun c cs _=>let ⟨v,w',r,s⟩:=h c cs;⟨v,w',r,stepsIn_wide.2 s⟩
theorem Ie {o:Oper} {a:Act} {w:World} {next:Act->World->Prop} {Q:Exit->Act->World->Prop} (hd:∀ c,o.op≠ .defer c) (h:o.wp P a w next Q):o.wpIn (Fence.wide.inRound l) m P a w next Q:=by
 refine⟨fun _ _=>trivial,?_⟩
 rw [show (Fence.wide.inRound l).round=some l from rfl,Oper.semAt_some l a.eval o hd]
 unfold Oper.wp at h
 revert h
 generalize (execOp a.eval o).run P w=r
 intro h
 cases r with
 | ok x w'=>
  cases x with
  | value v=>exact h
  | skip=>exact h
  | defer d=>exact h
  | enter f args=>exact⟨fun e=>(by cases e),CallsIn.inRound l (callsIn_wide.2 h)⟩
  | row r args=>exact⟨fun e=>(by cases e),MT h⟩
  | _=>exact h.elim
 | halt x w'=>
  cases x with
  | panic v=>exact h
  | _=>exact h.elim
def X6 (o:Oper):Bool:=match o.op with
 | .defer _=>false
 | _=>true
def roundOk:Code->Bool
 | .skip=>true
 | .exit _=>true
 | .ret=>true
 | .region _ ops draw=>!draw&&ops.toList.all X6
 | .seq a b=>roundOk a&&roundOk b
 | .cond _ a b=>roundOk a&&roundOk b
 | .block _ c=>roundOk c
 | _=>false
theorem WB {o:Oper} (h:X6 o=true):∀ c,o.op≠ .defer c:=by
 intro c e
 unfold X6 at h
 rw [e] at h
 cases h
theorem Ib (hT:TOk P T) {ops:Array Oper} {K:Fr->List AB->Prop} {Q:Exit->Act->World->Prop} (hq:∀ a w,DR w0 M0 ce n K a w->Q .normal a w) :
  ∀ (r:List Oper) (c:Ctx) (fr:Fr) (H:List AB) (a:Act),r.all X6=true->HS w0 M0 c H->FR w0 c n fr a->Ext ce c->Nd P T n ops.toList r fr H K->wpListIn (Fence.wide.inRound l) m P ops Q r a c.w
 | [],c,fr,H,a,_,hs,hf,he,h=>hq _ _ ⟨c,fr,H,rfl,h,hs,hf,he⟩
 | o::r,c,fr,H,a,hr,hs,hf,he,h=>by
  simp only [Bn,Bool.and_eq_true] at hr
  simp only [Nd] at h
  unfold wpListIn
  rcases Da (ops:=ops) hf h with ⟨hw,fr',hf',h⟩ | ⟨hw,fr',hf',h⟩
  ·rw [if_pos hw]
   refine Ie (WB hr.1) (EY hT hs hf' he h ?_)
   rintro a' w' ⟨c',fr2,H',rfl,h1,h2,h3,h4⟩ -
   exact Ib hT hq r c' fr2 H' a' hr.2 h2 h3 h4 h1
  ·rw [if_neg (by rw [hw];simp)]
   obtain⟨fr2,h1,h2⟩:=BV (v:=undef) hf' (by simp [Rd]) h
   exact⟨fun _ _=>trivial,Ib hT hq r c fr2 H _ hr.2 hs h2 he h1⟩
theorem BX (hT:TOk P T) (hd:ce.dom=d0):∀ (cd:Code) (Q:QA) (Q':Exit->Act->World->Prop) (c:Ctx) (fr:Fr) (H:List AB) (a:Act),roundOk cd=true->(∀ e a w,LiftQ w0 M0 ce n Q e a w->Q' e a w)->HS w0 M0 c H->FR w0 c n fr a->Ext ce c->
  Ca P T n d0 cd Q fr H->cd.wpIn (Fence.wide.inRound l) m P Q' a c.w
 | .skip,Q,Q',c,fr,H,a,_,hq,hs,hf,he,h=>wpIn_skip (hq .normal _ _ ⟨c,fr,H,rfl,h,hs,hf,he⟩)
 | .region id ops draw,Q,Q',c,fr,H,a,hr,hq,hs,hf,he,h=>by
  simp only [roundOk,Bool.and_eq_true,AO] at hr
  obtain⟨rfl,hr⟩:=hr
  simp only [Ca] at h
  exact wpIn_region_list (Ib hT (fun a w hl=>hq .normal a w hl) ops.toList c fr H a hr hs hf he h)
 | .seq x y,Q,Q',c,fr,H,a,hr,hq,hs,hf,he,h=>by
  simp only [roundOk,Bool.and_eq_true] at hr
  simp only [Ca] at h
  have plain:Ca P T n d0 x (EX.then (fun fr H=>Ca P T n d0 y Q fr H) Q) fr H->(Code.seq x y).wpIn (Fence.wide.inRound l) m P Q' a c.w:=by
   intro h
   refine wpIn_seq_k fun K hK=>BX hT hd x _ _ c fr H a hr.1 (LiftQ.mono_then ?_ hq) hs hf he h
   rintro a' w' ⟨c',fr',H',rfl,h1,h2,h3,h4⟩
   exact hK _ _ (BX hT hd y Q Q' c' fr' H' a' hr.2 hq h2 h3 h4 h1)
  split at h
  ·rcases h.ex with h | ⟨ι,st,I,h,hk⟩ | ⟨ι,st,I,h,hk⟩ | ⟨ι,st,I,h,hk⟩
   ·exact plain h
   ·refine wpIn_seq_k fun K hK=>BX hT hd x _ _ c fr H a hr.1 (LiftQ.mono_then ?_ hq) hs hf he h
    rintro a' w' ⟨c',fr',H',rfl,⟨z,hI,hw⟩,h2,h3,h4⟩
    obtain⟨c4,e4,hs4,hf4,he4⟩:=hw.sound hd h2 h3 h4
    rw [<-e4]
    exact hK _ _ (BX hT hd y Q Q' c4 _ _ a' hr.2 hq hs4 hf4 he4 (hk z hI))
   ·refine wpIn_seq_k fun K hK=>BX hT hd x _ _ c fr H a hr.1 (LiftQ.mono_then ?_ hq) hs hf he h
    rintro a' w' ⟨c',fr',H',rfl,⟨z,hI,hw⟩,h2,h3,h4⟩
    obtain⟨c4,e4,hs4,hf4,he4⟩:=hw.sound hd h2 h3 h4
    rw [<-e4]
    exact hK _ _ (BX hT hd y Q Q' c4 _ _ a' hr.2 hq hs4 hf4 he4 (hk z hI))
   ·refine wpIn_seq_k fun K hK=>BX hT hd x _ _ c fr H a hr.1 (LiftQ.mono_then ?_ hq) hs hf he h
    rintro a' w' ⟨c',fr',H',rfl,⟨z,hI,hw⟩,h2,h3,h4⟩
    obtain⟨c4,e4,hs4,hf4,he4⟩:=hw.sound hd h2 h3 h4
    rw [<-e4]
    exact hK _ _ (BX hT hd y Q Q' c4 _ _ a' hr.2 hq hs4 hf4 he4 (hk z hI))
  ·exact plain h
 | .cond x y z,Q,Q',c,fr,H,a,hr,hq,hs,hf,he,h=>by
  simp only [roundOk,Bool.and_eq_true] at hr
  simp only [Ca] at h
  split at h
  ·rename_i t ht
   have hrd:=hf.ev x
   rw [ht] at hrd
   simp only [Rd] at hrd
   obtain⟨h1,h2⟩:=Eu h
   refine wpIn_cond_split hrd (fun e=>?_) fun e=>?_
   ·exact BX hT hd y Q Q' c fr H a hr.1 hq hs hf he (h1 e)
   ·exact BX hT hd z Q Q' c fr H a hr.2 hq hs hf he (h2 e)
  ·exact h.elim
 | .block id x,Q,Q',c,fr,H,a,hr,hq,hs,hf,he,h=>by
  simp only [roundOk] at hr
  simp only [Ca] at h
  refine wpIn_block (BX hT hd x _ _ c fr H a hr ?_ hs hf he h)
  intro e a' w' hl
  cases e with
  | normal=>exact hq .normal _ _ hl
  | exit i=>
   simp only [Exit.inBlock]
   have hl:DR w0 M0 ce n (match Nat.beq i id with | true=>Q .normal | false=>Q (.exit i)) a' w':=by
    have e:(EX.inBlock id Q (EX.exit i))=(match Nat.beq i id with | true=>Q .normal | false=>Q (.exit i)):=by
     funext fr H
     simp only [EX.inBlock]
     cases Nat.beq i id <;> rfl
    rw [<-e]
    exact hl
   by_cases hi:i=id
   ·subst hi
    rw [if_pos rfl]
    rw [Nat.beq_refl] at hl
    exact hq .normal _ _ hl
   ·rw [if_neg hi]
    have hb:Nat.beq i id=false:=by
     cases hq:Nat.beq i id with
     | true=>exact absurd (Ah hq) hi
     | false=>rfl
    rw [hb] at hl
    exact hq (.exit i) _ _ hl
  | ret=>exact hq .ret _ _ hl
  | _=>exact hl.elim
 | .exit id,Q,Q',c,fr,H,a,_,hq,hs,hf,he,h=>wpIn_exit (hq (.exit id) _ _ ⟨c,fr,H,rfl,h,hs,hf,he⟩)
 | .ret,Q,Q',c,fr,H,a,_,hq,hs,hf,he,h=>wpIn_ret (hq .ret _ _ ⟨c,fr,H,rfl,h,hs,hf,he⟩)
 | .loop _,_,_,_,_,_,_,hr,_,_,_,_,_=>by simp [roundOk] at hr
 | .rangeFunc _ _ _ _,_,_,_,_,_,_,hr,_,_,_,_,_=>by simp [roundOk] at hr
 | .label _,_,_,_,_,_,_,hr,_,_,_,_,_=>by simp [roundOk] at hr
 | .goto _,_,_,_,_,_,_,hr,_,_,_,_,_=>by simp [roundOk] at hr
 | .scope _,_,_,_,_,_,_,hr,_,_,_,_,_=>by simp [roundOk] at hr
 | .refuse _,_,_,_,_,_,_,hr,_,_,_,_,_=>by simp [roundOk] at hr
end
def EA (n j:Nat):List Nat:=(List.range j).map fun i=>n - 1 - i
structure IsBack (P:Program) (gf:FuncId) (sz:Nat):Prop where
 enters:∀ args w,(callFunc gf args).run P w = .ok (.enter gf args) w
 seq:∀ (B:Nat) (a:Option Addr) (len cap:Nat) (X:Nat->List Value) (w:World),len<=1000000000->w.cell? ⟨B,0,none⟩=some (.slice a len cap)->(∀ j,(X j).length=sz)->
  (0<len->∃ b off,a=some ⟨b,off,none⟩/\b<w.heap.size/\∀ j,j<len->∀ (i:Nat) (u:Value),(X j)[i]? = some u->w.cell? ⟨b,off+j*sz+i,none⟩=some u)->
  SeqStopsK Fence.wide 4 P gf #[.pointer (some ⟨B,0,none⟩)] (fun x:Fin len=> #[Value.int .i64 x.val, .agg (X x.val).toArray]) (Below w.heap.size) (fun ys=>ys.map Fin.val=EA len len) (fun pre=>∃ k,k<=len/\pre.map Fin.val=EA len k) len w

section
variable {P:Program} {T:Tys} {w0:Fl} {M0:Ms} {n d0:Nat} {ce:Ctx}
theorem RdAt.raw:∀ (l:List AV) {c:Ctx} {b off:Nat},RdAt l c b off->RdL l c ((List.range' off l.length).map fun i=>(c.w.cell? ⟨b,i,none⟩).getD undef)
 | [],_,_,_,_=>by simp [RdL]
 | x::l,c,b,off,h=>by
  simp only [RdAt] at h
  obtain⟨⟨u,h1,_,h3⟩,h4⟩:=h
  simp only [Ai,List.range'_succ,Ay,RdL]
  exact⟨_,_,rfl,by rw [h1];exact h3,RdAt.raw l h4⟩
theorem RdAt.some:∀ (l:List AV) {c:Ctx} {b off:Nat},RdAt l c b off->∀ i,i<l.length->∃ u,c.w.cell? ⟨b,off+i,none⟩=some u
 | [],_,_,_,_,i,hi=>by simp at hi
 | x::l,c,b,off,h,i,hi=>by
  simp only [RdAt] at h
  obtain⟨⟨u,h1,_,h3⟩,h4⟩:=h
  cases i with
  | zero=>exact⟨u,h1⟩
  | succ i=>
   obtain⟨v,hv⟩:=RdAt.some l h4 i (by simpa using hi)
   exact⟨v,by rw [show off+(i+1)=off+1+i by omega];exact hv⟩
def noIter:List AB->Bool
 | []=>true
 | .iter _ _::_=>false
 | _::r=>noIter r
theorem noIter_get:∀ {H:List AB},noIter H=true->∀ (k:Nat) (s:ByteArray) (p:Nat),H[k]? ≠some (.iter s p)
 | [],_,_,_,_,h=>by simp at h
 | x::r,h,k,s,p,hk=>by
  cases k with
  | zero=>simp at hk;subst hk;simp [noIter] at h
  | succ k=>
   simp at hk
   refine noIter_get (H:=r) ?_ k s p hk
   cases x <;> first | exact h | (simp [noIter] at h)
theorem HS.cells {c:Ctx} {H:List AB} (h:HS w0 M0 c H) (hni:noIter H=true) {k:Nat} {x:AB} {g:Nat} (hk:H[k]? = some x) (hl:x.live=true) (hg:oB (c.rho k)=some g):∃ o:Obj,c.w.heap[g]? = some o/\o.isCells=true:=by
 have hx:=h.blk k x hk
 cases x with
 | dead=>cases hl
 | iter s p=>exact absurd hk (noIter_get hni k s p)
 | box t cs=>
  obtain⟨g',xs,h1,h2,_⟩:=hx
  rw [h1] at hg
  simp only [oB,Option.some.injEq] at hg
  subst hg
  exact⟨_,h2,rfl⟩
 | row t sz es=>
  obtain⟨_,_,_,xs,⟨_,h4⟩,_⟩:=hx
  rcases h4 with ⟨e,_⟩ | ⟨g',cap,cur,e,_,hh,_⟩
  ·rw [e] at hg;cases hg
  ·rw [e] at hg
   simp only [oB,Option.some.injEq] at hg
   subst hg
   exact⟨_,hh,rfl⟩
 | rowo t sz es m=>
  obtain⟨_,_,_,_,xs,⟨_,h4⟩,_⟩:=hx
  rcases h4 with ⟨e,_⟩ | ⟨g',cap,cur,e,_,hh,_⟩
  ·rw [e] at hg;cases hg
  ·rw [e] at hg
   simp only [oB,Option.some.injEq] at hg
   subst hg
   exact⟨_,hh,rfl⟩
theorem HS.turn {c:Ctx} {H:List AB} (h:HS w0 M0 c H) (hni:noIter H=true) {B0:Nat} (hB:w0.w.heap.size<=B0) {W':World} {row:Option Nat} (hg:c.w.grownBy W' row) (hr:∀ r,row=some r->B0<=r/\∃ o:Obj,c.w.heap[r]? = some o/\o.isCells=false) :
  HS w0 M0 { c with w:=W' } H/\Like c { c with w:=W' }:=by
 have hoth:∀ (g:Nat) (o:Obj),c.w.heap[g]? = some o->o.isCells=true->W'.heap[g]? = c.w.heap[g]? :=by
  intro g o ho hc
  refine hg.block g (Array.getElem?_eq_some_iff.1 ho).1 fun e=>?_
  obtain⟨_,o',ho',hc'⟩:=hr g e.symm
  rw [ho] at ho'
  cases ho'
  rw [hc] at hc'
  cases hc'
 have hl:Like c { c with w:=W' }:=by
  refine⟨rfl,hg.size,fun a u hu=>?_,rfl,rfl,rfl⟩
  obtain⟨o,ho,hc⟩:=cells_of_cell hu
  exact(World.cell?_of_block (hoth _ _ ho hc)).trans hu
 refine⟨⟨⟨hg.os.trans h.low.os,hg.tape.trans h.low.tape,hg.output.trans h.low.output,Bc h.low.size hg.size,fun b hb=>?_⟩,h.base,h.dom,h.foreign,fun b hm=>Ak (h.lt b hm) hg.size,fun k x hk=>?_,h.own,h.dis⟩,hl⟩
 ·rw [<-h.low.block b hb]
  have hb':=w0.lt b hb
  refine hg.block b (Ak hb' h.low.size) fun e=>?_
  have:=(hr b e.symm).1
  omega
 ·have hx:=h.blk k x hk
  cases x with
  | dead=>trivial
  | iter s p=>exact absurd hk (noIter_get hni k s p)
  | box t cs=>
   obtain⟨g,xs,h1,h2,h3,h4⟩:=hx
   exact⟨g,xs,h1,(hoth g _ h2 rfl).trans h2,RdL.like cs hl h3,h4⟩
  | row t sz es=>
   obtain⟨h1,h2,h3,xs,h4,h5,h6⟩:=hx
   refine⟨h1,h2,h3,xs,?_,RdL.like _ hl.closed h5,h6⟩
   refine⟨h4.1,h4.2.imp id ?_⟩
   rintro⟨g,cap,cur,q1,q2,q3,q4⟩
   exact⟨g,cap,cur,q1,q2,(hoth g _ q3 rfl).trans q3,q4⟩
  | rowo t sz es m=>
   obtain⟨h1,h2,h3,h3',xs,h4,h5,h6⟩:=hx
   refine⟨h1,h2,h3,h3',xs,?_,RdL.like _ hl h5,h6⟩
   refine⟨h4.1,h4.2.imp id ?_⟩
   rintro⟨g,cap,cur,q1,q2,q3,q4⟩
   exact⟨g,cap,cur,q1,q2,(hoth g _ q3 rfl).trans q3,q4⟩
theorem Ext.turn {c0 c:Ctx} (h:Ext c0 c) {B0:Nat} (hB:c0.w.heap.size<=B0) {W':World} {row:Option Nat} (hg:c.w.grownBy W' row) (hr:∀ r,row=some r->B0<=r/\∃ o:Obj,c.w.heap[r]? = some o/\o.isCells=false):Ext c0 { c with w:=W' }:=
 ⟨hg.os.trans h.os,hg.tape.trans h.tape,hg.output.trans h.output,Bc h.size hg.size,fun b hb hm=>⟨(h.keep b hb hm).1,(hg.block b (Ak hb h.size) fun e=>by have:=(hr b e.symm).1;omega).trans (h.keep b hb hm).2⟩,h.dom,h.len,h.rho,h.box⟩
def Ctx.slim (c:Ctx) (B0:Nat) (H:List AB):Ctx:={ c with M:=fun b=>c.M b/\(b<B0\/∃ (j:Nat) (y:AB),H[j]? = some y/\y.live=true/\oB (c.rho j)=some b) }
theorem HS.slim {c:Ctx} {H:List AB} (h:HS w0 M0 c H) {B0:Nat} (hB:w0.w.heap.size<=B0):HS w0 M0 (c.slim B0 H) H/\Ext c (c.slim B0 H):=by
 have he:Ext c (c.slim B0 H):=⟨rfl,rfl,rfl,Nat.le_refl _,fun b _ hm=>⟨fun h=>hm h.1,rfl⟩,Nat.le_refl _,fun _ _=>Nat.le_refl _,fun _ _ _=>rfl,fun _ _ _ h=>h⟩
 refine⟨⟨h.low,h.base,h.dom,fun b hb=>⟨fun hm=>(h.foreign b hb).1 hm.1,fun hm=>⟨(h.foreign b hb).2 hm, .inl (Ak (w0.lt b hb) hB)⟩⟩,fun b hm=>h.lt b hm.1,fun k x hk=>?_,fun k x g hk hl ho=>⟨⟨(h.own k x g hk hl ho).1, .inr ⟨k,x,hk,hl,ho⟩⟩,(h.own k x g hk hl ho).2⟩,h.dis⟩,he⟩
 have hx:=h.blk k x hk
 cases x with
 | dead=>trivial
 | iter s p=>exact hx
 | box t cs=>
  obtain⟨g,xs,h1,h2,h3,h4⟩:=hx
  exact⟨g,xs,h1,h2,RdL.ext cs he h3,h4⟩
 | row t sz es=>
  obtain⟨h1,h2,h3,xs,h4,h5,h6⟩:=hx
  exact⟨h1,h2,h3,xs,h4,RdL.ext _ he.closed h5,h6⟩
 | rowo t sz es m=>
  obtain⟨h1,h2,h3,h3',xs,h4,h5,h6⟩:=hx
  exact⟨h1,h2,h3,h3',xs,h4,RdL.ext _ he h5,h6⟩
theorem K3 {c:Ctx} {H:List AB} (h:HS w0 M0 c H) (hni:noIter H=true) {B0 b:Nat} (hb:B0<=b) (hm:(c.slim B0 H).M b):∃ o:Obj,c.w.heap[b]? = some o/\o.isCells=true:=by
 obtain⟨_,h1 | ⟨j,y,h1,h2,h3⟩⟩:=hm
 ·omega
 ·exact h.cells hni h1 h2 h3
def VV (T:Tys) (n:Nat):Code->Fr->List AB->(Fr->List AB->Prop)->Prop
 | .skip,fr,H,K=>K fr H
 | .region _ ops false,fr,H,K=>match ops.toList with
  | [o1,o2]=>match o1.op,o1.dst,o1.guard,o2.op,o2.dst,o2.guard with
   | .alloc t,some d,none, .store t' (.tmp d') (.tmp s),none,none=>match Nat.beq t t'&&Nat.beq d d'&&!Nat.beq s d&&Nat.blt d n with
    | true=>match tget T t with
     | some ty=>match ty.zero.all (·.oneCell')&&Nat.beq ty.zero.length ty.sz with
      | true=>D5 (fget fr s) fun x=>match cellsOk x&&Nat.beq (cells1 x).length ty.sz with
       | true=>snocK H (.box t (cells1 x)) 0 fun k H=>K ((d, .bp k 0)::fr) H
       | false=>False
      | false=>False
     | none=>False
    | false=>False
   | _,_,_,_,_,_=>False
  | _=>False
 | _,_,_,_=>False
theorem Nl (hT:TOk P T) {l m:Nat} {ops:Array Oper} {o1 o2:Oper} {t:TypeId} {d s:Nat} {ty:Ty} (h1:o1.op = .alloc t) (h1d:o1.dst=some d) (h1g:o1.guard=none) (h2:o2.op = .store t (.tmp d) (.tmp s)) (h2d:o2.dst=none) (h2g:o2.guard=none) (hne:s≠d) (hd:d<n)
  (ht:tget T t=some ty) (hz:ty.zero.all (·.oneCell')=true) (hzl:ty.zero.length=ty.sz) {K:Fr->List AB->Prop} {Q:Exit->Act->World->Prop} {c:Ctx} {fr:Fr} {H:List AB} {a:Act} (hs:HS w0 M0 c H) (hf:FR w0 c n fr a) (he:Ext ce c)
  (hok:(cellsOk (fget fr s)&&Nat.beq (cells1 (fget fr s)).length ty.sz)=true) (h:K ((d, .bp H.length 0)::fr) (H ++ [.box t (cells1 (fget fr s))])) (hq:∀ a w,DR w0 M0 ce n K a w->Old c.w w->Q .normal a w):wpListIn (Fence.wide.inRound l) m P ops Q [o1,o2] a c.w:=by
 simp only [Bool.and_eq_true] at hok
 have hsz:=Ah hok.2
 obtain⟨i,dd,z,hp⟩:=(hT.get ht).parts
 have hxl0:ty.zero.length=ty.sz:=hzl
 obtain⟨c1,e1,e2,e3,e4⟩:=hs.box t (cs:=ty.zero.map .v) (xs:=ty.zero) (Iu _) (fun u hu=>A4.1 hz u hu)
 have hrun:(execOp a.eval o1).run P c.w = .ok (.value (.pointer (some ⟨c.w.heap.size,0,none⟩))) c1.w:=by
  have hzc:z.cells=ty.zero.toArray:=Array.ext' (by simpa using hp.zc)
  simp [execOp,h1,Instr.alloc,zeroValue,typeInfo,hp.info,hp.zero,HU,e1,hzc]
 unfold wpListIn
 rw [if_pos (by simp [Region.wanted,h1g])]
 refine Ie (by intro c e;rw [h1] at e;cases e) ?_
 unfold Oper.wp
 rw [hrun,Oper.upon_value,h1d]
 unfold wpListIn
 rw [if_pos (by simp [Region.wanted,h2g])]
 refine Ie (by intro c e;rw [h2] at e;cases e) ?_
 have hf1:FR w0 c1 n ((d, .bp H.length 0)::fr) (a.put (some d) (.pointer (some ⟨c.w.heap.size,0,none⟩))):=(hf.ext e3).put hd e4
 have hfs:fget ((d, .bp H.length 0)::fr) s=fget fr s:=by
  show (bif Nat.beq d s then AV.bp H.length 0 else fget fr s)=fget fr s
  cases hb:Nat.beq d s with
  | true=>exact absurd (Ah hb).symm hne
  | false=>rfl
 have hev:Rd (fget fr s) c1 ((a.put (some d) (.pointer (some ⟨c.w.heap.size,0,none⟩))).eval (.tmp s)):=by
  rw [<-hfs]
  exact hf1.get s
 have hevd:(a.put (some d) (.pointer (some ⟨c.w.heap.size,0,none⟩))).eval (.tmp d) = .pointer (some ⟨c.w.heap.size,0,none⟩):=by
  have hsz':=hf.size
  simp only [Act.eval,Act.put]
  rw [Array.getD_eq_getD_getElem?,Array.getElem?_setIfInBounds_self_of_lt (by omega)]
  rfl
 generalize hav:a.put (some d) (.pointer (some ⟨c.w.heap.size,0,none⟩))=a1 at hf1 hev hevd |-
 obtain⟨hc1,hc2⟩:=Hz hev hok.1
 have hcl:=hc1.length
 have hcs:(a1.eval (.tmp s)).cells.size=ty.sz:=by rw [<-hsz,<-hcl];simp
 have hj:(H ++ [AB.box t (ty.zero.map .v)])[H.length]? = some (.box t (ty.zero.map .v)):=by simp
 obtain⟨g,xs,q1,q2,q3,q4⟩:=e2.blk _ _ hj
 have hg:g=c.w.heap.size:=by
  simp only [Rd] at e4
  obtain⟨_,g',hg',hu⟩:=e4
  rw [q1] at hg'
  cases hg'
  simpa using hu.symm
 subst hg
 have hxl:xs.length=ty.sz:=by rw [<-hxl0];have:=q3.length;simpa using this
 obtain⟨w',r1,r2,r3,r4,r5,r6,r7⟩:=DJ (P:=P) (a1.eval (.tmp s)).cells.toList (i:=0) (off:=0) q2 hc2 (by simp;omega)
 have hrun2:(execOp a1.eval o2).run P c1.w = .ok .skip w':=by
  have:=Fi (a:=⟨c.w.heap.size,0,none⟩) (hT.get ht) hcs r1
  simp [execOp,h2,Instr.storeAt,hevd,Instr.sureAddr,this]
 unfold Oper.wp
 rw [hrun2,Oper.upon_skip,h2d]
 have hE:Ext c1 { c1 with w:=w' }:=⟨r5,r6,r7,by simp [r4],fun b _ hm=>⟨hm,r3 b fun e=>hm (e ▸ (e2.own _ _ c.w.heap.size hj rfl (by rw [q1];rfl)).1)⟩,Nat.le_refl _,fun _ _=>Nat.le_refl _,fun _ _ _=>rfl,fun _ _ _ h=>h⟩
 have hset:=e2.set_ (y:= .box t (cells1 (fget fr s))) hj rfl rfl (g:=c.w.heap.size) (by rw [q1];rfl) r3 r4 r5 r6 r7 (by
  refine⟨c.w.heap.size,(a1.eval (.tmp s)).cells.toList,q1,?_,RdL.ext _ hE hc1,hc2⟩
  have hlen:(a1.eval (.tmp s)).cells.toList.length=xs.length:=by simp;omega
  rw [BL,List.take_zero,Bk,Ap,Av (by omega),List.append_nil] at r2
  exact r2)
 unfold wpListIn
 refine hq _ _ ⟨{ c1 with w:=w' },_,_,rfl,h,?_,hf1.ext hE,(he.trans e3).trans hE⟩ ?_
 ·have:=hset.1
  rwa [List.set_append_right _ _ (Nat.le_refl _),Dc,List.set_cons_zero] at this
 ·intro b hb
  rw [r3 b (by omega),e1]
  exact((Below.refl c.w.heap.size c.w).alloc (Nat.le_refl _) _).block b hb
theorem L2 (hT:TOk P T) {l m:Nat} {asg:Code} {K:Fr->List AB->Prop} {Q:Exit->Act->World->Prop} {c:Ctx} {fr:Fr} {H:List AB} {a:Act} (hs:HS w0 M0 c H) (hf:FR w0 c n fr a) (he:Ext ce c) (h:VV T n asg fr H K)
  (hq:∀ a w,DR w0 M0 ce n K a w->Old c.w w->Q .normal a w):asg.wpIn (Fence.wide.inRound l) m P Q a c.w:=by
 unfold VV at h
 split at h
 ·exact wpIn_skip (hq _ _ ⟨c,fr,H,rfl,h,hs,hf,he⟩ (Old.refl _))
 ·split at h
  ·rename_i o1 o2 hops
   split at h
   ·rename_i t d t' d' s h1 h1d h1g h2 h2d h2g
    split at h
    ·rename_i hb
     simp only [Bool.and_eq_true,AO] at hb
     obtain⟨⟨⟨hb1,hb2⟩,hb3⟩,hb4⟩:=hb
     have:=Ah hb1
     subst this
     have:=Ah hb2
     subst this
     have hne:s≠d:=fun e=>by subst e;rw [Nat.beq_refl] at hb3;cases hb3
     split at h
     ·rename_i ty ht
      split at h
      ·rename_i hz
       simp only [Bool.and_eq_true] at hz
       have h:=BA h
       split at h
       ·rename_i hok
        have h:=snocK_iff h
        rw [Ap] at h
        refine wpIn_region_list ?_
        rw [hops]
        exact Nl hT h1 h1d h1g h2 h2d h2g hne (by simpa using hb4) ht hz.1 (Ah hz.2) hs hf he hok h hq
       ·exact h.elim
      ·exact h.elim
     ·exact h.elim
    ·exact h.elim
   ·exact h.elim
  ·exact h.elim
 ·exact h.elim
def N4 (H:List AB) (x:AV) (sz len:Nat) (E:Nat->List AV):Prop:=
 match x with
 | .ow k n'=>n'=len/\∃ t es,hget H k=some (.row t sz es)/\es.length=len/\E=fun i=>es.getD i []
 | .sl sz' n' get=>sz'=sz/\n'=len/\E=get
 | .v (.slice none 0 0)=>len=0
 | _=>False
theorem LC {c:Ctx} {H:List AB} (hs:HS w0 M0 c H) {x:AV} {sz len:Nat} {E:Nat->List AV} (h:N4 H x sz len E) {u:Value} (hr:Rd x c u) :
  ∃ a cap,u = .slice a len cap/\(0<len->∃ b off,a=some ⟨b,off,none⟩/\b<c.w.heap.size/\∀ i,i<len->(E i).length=sz/\RdAt (E i) c.closed b (off+i*sz)):=by
 unfold N4 at h
 split at h
 ·obtain⟨rfl,t,es,hk,hl,rfl⟩:=h
  rename_i k n'
  rw [hget_eq] at hk
  obtain⟨h1,h2,h3,xs,h4,h5,h6⟩:=hs.blk _ _ hk
  simp only [Rd] at hr
  obtain⟨_,_,⟨a,p,rfl,ha⟩,he⟩:=hr
  refine⟨a,p,rfl,fun hp=>?_⟩
  have hrho:=he (by rw [h1,hl])
  obtain⟨g,rfl⟩:=ha (by omega)
  have hgl:g<c.w.heap.size:=by
   rcases h4.2 with ⟨e,_⟩ | ⟨g',cap,cur,e,_,hh,_⟩
   ·rw [<-hrho] at e;cases e
   ·rw [<-hrho] at e;cases e;exact(Array.getElem?_eq_some_iff.1 hh).1
  have hat:=RdAt.of (b:=g) (off:=0) h5 h6 fun j u hu=>by rw [Ap];exact Gn (hl ▸ h4) hrho.symm hu
  exact⟨g,0,rfl,hgl,fun i hi=>⟨h3 _ (by simp only [List.getD_eq_getElem?_getD];rw [List.getElem?_eq_getElem (by omega)];exact B5 _),by rw [Ap];exact H9 h3 hat (by omega)⟩⟩
 ·obtain⟨rfl,rfl,rfl⟩:=h
  simp only [Rd] at hr
  obtain⟨a,k,rfl,h1,h2,h3⟩:=hr
  refine⟨a,k,rfl,fun hp=>?_⟩
  rcases h3 with h3 | ⟨b,off,rfl,_,hb,hc⟩
  ·omega
  ·exact⟨b,off,rfl,hb,hc⟩
 ·subst h
  simp only [Rd] at hr
  subst hr
  exact⟨none,0,rfl,fun hp=>absurd hp (Nat.lt_irrefl _)⟩
 ·exact h.elim
end
section
variable {P:Program} {T:Tys} {w0:Fl} {M0:Ms} {n d0:Nat} {ce:Ctx}
def Fl.off (w0:Fl):Fl:=⟨w0.w,w0.old,w0.lt,w0.gl,False⟩
theorem HS.off {c:Ctx} {H:List AB} (h:HS w0 M0 c H):HS w0.off M0 c H:=⟨⟨h.low.os,h.low.tape,h.low.output,h.low.size,h.low.block⟩,h.base,h.dom,h.foreign,h.lt,h.blk,h.own,h.dis⟩
theorem HS.on {c:Ctx} {H:List AB} (h:HS w0.off M0 c H):HS w0 M0 c H:=⟨⟨h.low.os,h.low.tape,h.low.output,h.low.size,h.low.block⟩,h.base,h.dom,h.foreign,h.lt,h.blk,h.own,h.dis⟩
theorem FR.off {c:Ctx} {fr:Fr} {a:Act} (h1:a.tmps.size=n) (h2:∀ i,Rd (fget fr i) c (a.tmps.getD i undef)) (hc:¬w0.chk):FR w0 c n fr a:=⟨h1,DfOk.free hc,h2⟩
def frozen (fr:Fr) (H:List AB):Fr->Prop
 | []=>True
 | (i,x)::r=>((x.lt 0=true/\fget fr i=x)\/∃ kk tt cs,x = .rp cs/\AV.ltL cs 0=true/\fget fr i = .bp kk 0/\hget H kk=some (.box tt cs))/\frozen fr H r
def Ctx.calm (c:Ctx) (w:World):Ctx:=⟨w,0,fun _=>False,c.rho,c.len,0⟩
theorem M4 {c:Ctx} {H:List AB} (hs:HS w0 M0 c H) {fr:Fr} {us:Array Value} (hf:∀ i,Rd (fget fr i) c (us.getD i undef)):∀ {frz:Fr},frozen fr H frz->∀ i,Rd (fget frz i) (c.calm c.w) (us.getD i undef)
 | [],_,i=>by simp [fget,Rd]
 | (j,x)::r,h,i=>by
  have hcut:Cut c (c.calm c.w):=⟨⟨rfl,rfl,rfl,Nat.le_refl _,fun _ _ _=>⟨fun h=>h,rfl⟩,Nat.le_refl _,fun k hk=>absurd hk (Aj k),fun k hk=>absurd hk (Aj k),fun k _ hk=>absurd hk (Aj k)⟩,fun _ _=>⟨rfl,rfl⟩⟩
  unfold fget
  cases hb:Nat.beq j i with
  | false=>exact M4 hs hf h.2 i
  | true=>
   have:=Ah hb
   subst this
   simp only [cond_true]
   rcases h.1 with ⟨h1,h2⟩ | ⟨kk,tt,cs,rfl,h1,h2,h3⟩
   ·refine Rd.cut x hcut h1 ?_
    rw [<-h2]
    exact hf j
   ·have hr:=hf j
    rw [h2] at hr
    simp only [Rd] at hr
    obtain⟨_,g,hg,hu⟩:=hr
    rw [hget_eq] at h3
    obtain⟨g',xs,q1,q2,q3,q4⟩:=hs.blk _ _ h3
    rw [q1] at hg
    cases hg
    rw [hu]
    simp only [Rd]
    refine⟨g,0,rfl,fun h=>h,(Array.getElem?_eq_some_iff.1 q2).1,?_⟩
    exact RdAt.of (c:=(c.calm c.w).closed) (b:=g) (off:=0) (RdL.cut cs hcut h1 q3) q4 fun j u hu=>by rw [Ap];show c.w.cell? _=_;rw [cell_of_row _ g _ _ tt (0,0) q2];simpa using hu
def EX.code:EX->Code
 | .normal=> .skip
 | .exit id=> .exit id
 | .ret=> .ret
theorem Md {W W':World} {c:Ctx} (hB:c.w.heap.size<=W.heap.size) (ho:Old W W') (h1:W'.os=W.os) (h2:W'.tape=W.tape) (h3:W'.output=W.output) (h4:W.heap.size<=W'.heap.size):Below c.w.heap.size W W':=
 ⟨h1,h2,h3,h4,fun b hb=>ho b (Ak hb hB)⟩
theorem Ql {len k:Nat} (hk:k<=len) {pre:List Nat} {x:Nat} (h:pre ++ [x]=EA len k) {p:Nat->Prop} (hp:∀ y∈pre,p y):∀ j,x<j->j<len->p j:=by
 intro j hj hl
 have h1:k=pre.length+1:=by have:=congrArg List.length h;simpa [EA] using this.symm
 subst h1
 have hx:x=len - 1 - pre.length:=by
  have:=congrArg (fun l=>l[pre.length]?) h
  simp [EA] at this
  exact this
 have hi:len - 1 - j<pre.length:=by omega
 have h2:=congrArg (fun l=>l[len - 1 - j]?) h
 simp only [EA,List.getElem?_append_left hi,List.getElem?_map,List.getElem?_range (show len - 1 - j<pre.length+1 by omega),Option.map_some] at h2
 rw [show len - 1 - (len - 1 - j)=j by omega] at h2
 exact hp j (List.mem_of_getElem? h2)
theorem DfOk.lt {c:Ctx} (hc:w0.chk):∀ {l:List Deferred},DfOk w0 c l->∀ e∈l,∃ b,e.target = .collected b/\b<c.w.heap.size
 | d::r,h,e,he=>by
  rcases Bq.1 he with rfl | he
  ·obtain⟨b,rfl,_,_,h4,_⟩:=h.1 hc
   exact⟨b,rfl,(Array.getElem?_eq_some_iff.1 h4).1⟩
  ·exact DfOk.lt hc h.2 e he
theorem S1 {len:Nat} {i:Nat} (hi:i<len):i∈EA len len:=by
 rw [EA,AH]
 exact⟨len - 1 - i,by simp;omega,by omega⟩

theorem aRF.back (hT:TOk P T) {gf:FuncId} {sz:Nat} (hgf:IsBack P gf sz) {g:Operand} {p1 p2:Nat} {asg body:Code} {Q:QA} {fr:Fr} {H:List AB} {B len:Nat} {tb:TypeId} {x:AV} {E:Nat->List AV}
  (hg:ev fr g = .fn gf [.bp B 0]) (hB:hget H B=some (.box tb [x])) (hx:N4 H x sz len E) (hbig:len<=1000000000) (_hni:noIter H=true) (hp:p1<n/\p2<n) (hrb:roundOk body=true)
  (frz:Fr) (hfz:frozen fr H frz) (hit:Nat->Bool)
  (hskip:∀ i,i<len->hit i=false->VV T n asg ((p2, .ag (E i))::(p1, .v (.int .i64 i))::frz) [] fun fr' H'=>noIter H'=true/\Ca P T n 0 body (fun ex _ _=>ex = .normal) fr' H')
  (hhit:∀ i,i<len->hit i=true->VV T n asg ((p2, .ag (E i))::(p1, .v (.int .i64 i))::fr) H fun fr' H'=>noIter H'=true/\Ca P T n H.length body (fun ex _ H'=>ex≠ .normal/\noIter H'=true/\((∀ j,i<j->j<len->hit j=false)->Q ex fr H')) fr' H')
  (hdone:(∀ i,i<len->hit i=false)->Q .normal fr H):aRF P T n d0 g #[p1,p2] asg body Q fr H:=by
 refine⟨fun w0 M0 ce c a hs hf he hd Q' hQ=>?_⟩
 have hgv:=hf.ev g
 rw [hg] at hgv
 simp only [Rd,RdL] at hgv
 obtain⟨_,hgv,_,_,rfl,⟨hBd,gB,hgB,rfl⟩,rfl⟩:=hgv
 rw [hget_eq] at hB
 obtain⟨g',xs,q1,q2,q3,q4⟩:=hs.blk _ _ hB
 rw [hgB] at q1
 cases q1
 simp only [RdL] at q3
 obtain⟨u,_,rfl,hu,rfl⟩:=q3
 obtain⟨ad,cap,rfl,hel⟩:=LC hs hx hu
 have hcB:c.w.cell? ⟨gB,0,none⟩=some (.slice ad len cap):=by rw [cell_of_row _ gB _ _ tb (0,0) q2];rfl
 obtain⟨X,hXl,hXr,hXc⟩:∃ X:Nat->List Value,(∀ j,(X j).length=sz)/\(∀ i,i<len->RdL (E i) c.closed (X i))/\(0<len->∃ b off,ad=some ⟨b,off,none⟩/\b<c.w.heap.size/\∀ j,j<len->∀ (i:Nat) (u:Value),(X j)[i]? = some u->c.w.cell? ⟨b,off+j*sz+i,none⟩=some u):=by
  rcases Nat.eq_zero_or_pos len with h0 | h0
  ·exact⟨fun _=>List.replicate sz undef,by simp,fun i hi=>by omega,fun h=>by omega⟩
  ·obtain⟨b,off,h1,h2,h3⟩:=hel h0
   refine⟨fun j=>(List.range' (off+j*sz) sz).map fun i=>(c.w.cell? ⟨b,i,none⟩).getD undef,by simp,fun i hi=>?_,fun _=>⟨b,off,h1,h2,fun j hj i u hi=>?_⟩⟩
   ·have:=RdAt.raw _ (h3 i hi).2
    rw [(h3 i hi).1] at this
    exact this
   ·obtain⟨v,hv⟩:=RdAt.some _ (h3 j hj).2 i (by
     rw [(h3 j hj).1]
     have:=(List.getElem?_eq_some_iff.1 hi).1
     simpa using this)
    have hv':c.w.cell? ⟨b,off+j*sz+i,none⟩=some v:=hv
    rw [hv']
    have hil:i<sz:=by
     have:=(List.getElem?_eq_some_iff.1 hi).1
     simpa using this
    rw [List.getElem?_map,List.getElem?_range' hil] at hi
    simp only [Option.map_some,Nat.one_mul,Option.some.injEq] at hi
    rw [hv'] at hi
    simpa using hi
 have hseq:=hgf.seq gB ad len cap X c.w hbig hcB hXl hXc
 have hgl:=hs.glob
 have hlow:=hs.low.size
 -- the two memories of a round
 let wS:Fl:=(Fl.all c.w hgl).off
 have hskipHS:∀ W,Below c.w.heap.size c.w W->HS wS (fun _=>False) (c.calm W) []:=fun W hW=>
  ⟨⟨hW.os,hW.tape,hW.output,hW.size,fun b hb=>hW.block b hb⟩,rfl,rfl,fun _ _=>Iff.rfl,fun _ h=>h.elim,by simp,by simp,by simp⟩
 have hcalm:∀ W,Below c.w.heap.size c.w W->Ext (c.calm c.w) (c.calm W):=fun W hW=>
  ⟨hW.os,hW.tape,hW.output,hW.size,fun b hb _=>⟨fun h=>h,hW.block b hb⟩,Nat.le_refl _,fun k hk=>absurd hk (Aj k),fun k hk=>absurd hk (Aj k),fun k _ hk=>absurd hk (Aj k)⟩
 have hclcalm:Ext c.closed (c.calm c.w):=⟨rfl,rfl,rfl,Nat.le_refl _,fun _ _ _=>⟨fun h=>h,rfl⟩,Nat.le_refl _,fun k hk=>absurd hk (Aj k),fun k hk=>absurd hk (Aj k),fun k _ hk=>absurd hk (Aj k)⟩
 refine(wpIn_wide (n:=5)).1 ?_
 refine wpIn_rangeFunc_ownH (F:=Fence.wide) (n:=5) rfl (by omega) (gf:=gf) (lb:= #[.pointer (some ⟨gB,0,none⟩)]) hgv trivial hgf.enters hseq (fun h k=>h.trans k)
  (fun W l o o' hl ho _ _=>(Below.refl _ W).grown (grownBy_putObj' W l o') (Bc hl (Nat.le_of_lt (Array.getElem?_eq_some_iff.1 ho).1)) (fun k e=>by cases e;exact hl)) (Below.refl _ _) (fun _=>rfl)
  (fun pre W=>Below c.w.heap.size c.w W/\∀ y∈pre,hit y.val=false)
  (fun cd pre W=>∃ ex pr y c' H',pre=pr ++ [y]/\(∀ z∈pr,hit z.val=false)/\cd=ex.code/\ex≠ .normal/\((∀ j,y.val<j->j<len->hit j=false)->Q ex fr H')/\c'.w=W/\HS w0 M0 c' H'/\Ext c c'/\noIter H'=true/\(∀ b,c.w.heap.size<=b->c'.M b->∃ (j:Nat) (y:AB),H'[j]? = some y/\y.live=true/\oB (c'.rho j)=some b))
  ?hI ?hIx ⟨Below.refl _ _,by simp⟩
  (fun y a' W=>(hit y.val=false->∃ c' fr' H',c'.w=W/\HS wS (fun _=>False) c' H'/\noIter H'=true/\a'.tmps.size=n/\(∀ i,Rd (fget fr' i) c' (a'.tmps.getD i undef))/\(∀ b,c.w.heap.size<=b->c'.M b->∃ o:Obj,c'.w.heap[b]? = some o/\o.isCells=true)/\Ca P T n 0 body (fun ex _ _=>ex = .normal) fr' H'/\c'.dom=H'.length)/\
   (hit y.val=true->∃ c' fr' H',c'.w=W/\HS w0 M0 c' H'/\noIter H'=true/\a'.tmps.size=n/\(∀ i,Rd (fget fr' i) c' (a'.tmps.getD i undef))/\Ext c c'/\(∀ b,c.w.heap.size<=b->c'.M b->∃ o:Obj,c'.w.heap[b]? = some o/\o.isCells=true)/\Ca P T n H.length body (fun ex _ H'=>ex≠ .normal/\noIter H'=true/\((∀ j,y.val<j->j<len->hit j=false)->Q ex fr H')) fr' H'))
  ?hAx ?assign ?body ?done ?stop
 case hI=>exact OwnFrom.and (ownFrom_below (Nat.le_refl _) (Nat.le_refl _)) (ownFrom_pure _ _)
 case hIx=>
  rintro cd s W W' row ⟨ex,pr,y,c',H',h1,h2,h3,h4,h5,rfl,h6,h7,h8,h9⟩ hgr hrow
  obtain⟨k1,k2⟩:=h6.turn h8 hlow hgr hrow
  exact⟨ex,pr,y,_,H',h1,h2,h3,h4,h5,rfl,k1,h7.turn (Nat.le_refl _) hgr hrow,h8,h9⟩
 case hAx=>
  have keep:∀ (c':Ctx) {W':World} {row:Option Nat},c'.w.grownBy W' row->(∀ r,row=some r->c.w.heap.size<=r/\∃ o:Obj,c'.w.heap[r]? = some o/\o.isCells=false)->(∀ b,c.w.heap.size<=b->c'.M b->∃ o:Obj,c'.w.heap[b]? = some o/\o.isCells=true)->∀ b,c.w.heap.size<=b->c'.M b->∃ o:Obj,W'.heap[b]? = some o/\o.isCells=true:=by
   intro c' W' row hgr hrow h b hb hm
   obtain⟨o,h1,h2⟩:=h b hb hm
   refine⟨o,(hgr.block b (Array.getElem?_eq_some_iff.1 h1).1 fun e=>?_).trans h1,h2⟩
   obtain⟨_,o',h3,h4⟩:=hrow b e.symm
   rw [h1] at h3
   cases h3
   rw [h2] at h4
   cases h4
  rintro y a' s W W' row ⟨hA,hC⟩ hgr hrow
  refine⟨fun hh=>?_,fun hh=>?_⟩
  ·obtain⟨c',fr',H',rfl,h1,h2,h3,h4,h5,h6,h7⟩:=hA hh
   obtain⟨k1,k2⟩:=h1.turn h2 (Nat.le_refl _) hgr hrow
   exact⟨_,fr',H',rfl,k1,h2,h3,fun i=>Rd.like _ k2 (h4 i),keep c' hgr hrow h5,h6,h7⟩
  ·obtain⟨c',fr',H',rfl,h1,h2,h3,h4,h5,h6,h7⟩:=hC hh
   obtain⟨k1,k2⟩:=h1.turn h2 hlow hgr hrow
   exact⟨_,fr',H',rfl,k1,h2,h3,fun i=>Rd.like _ k2 (h4 i),h5.turn (Nat.le_refl _) hgr hrow,keep c' hgr hrow h6,h7⟩
 case assign=>
  rintro l pre y W K ⟨hW,hpre⟩ hK
  have hput:∀ (c1:Ctx) (fr1:Fr) (w1:Fl),¬w1.chk->(∀ i,Rd (fget fr1 i) c1 (a.tmps.getD i undef))->Rd (.ag (E y.val)) c1 (.agg (X y.val).toArray)->
    FR w1 c1 n ((p2, .ag (E y.val))::(p1, .v (.int .i64 (y.val:Nat)))::fr1) { tmps:=((#[p1,p2]:Array Tmp).zip #[Value.int .i64 y.val, .agg (X y.val).toArray]).foldl (fun t (p,v)=>t.setIfInBounds p v) a.tmps,defers:= [] }:=by
   intro c1 fr1 w1 hc hr1 hr2
   have h0:FR w1 c1 n fr1 { tmps:=a.tmps,defers:= [] }:=FR.off hf.size hr1 hc
   have h1:=h0.put (d:=p1) (x:= .v (.int .i64 (y.val:Nat))) (v:= .int .i64 (y.val:Nat)) hp.1 (by simp [Rd])
   have e:∀ (u v:Value),((#[p1,p2]:Array Tmp).zip #[u,v]).foldl (fun t (p,v)=>t.setIfInBounds p v) a.tmps=(a.tmps.setIfInBounds p1 u).setIfInBounds p2 v:=by intro u v;simp
   rw [e]
   exact h1.put (d:=p2) (x:= .ag (E y.val)) (v:= .agg (X y.val).toArray) hp.2 hr2
  have hWs:=hW.size
  cases hh:hit y.val with
  | false=>
   have hE:Rd (.ag (E y.val)) (c.calm W) (.agg (X y.val).toArray):=by
    simp only [Rd]
    exact⟨_,rfl,RdL.ext _ (hclcalm.trans (hcalm W hW)) (hXr y.val y.isLt)⟩
   have hfr:=hput (c.calm W) frz wS (fun h=>h) (fun i=>Rd.ext _ (hcalm W hW) (M4 hs hf.get hfz i)) hE
   refine L2 (w0:=wS) (M0:=fun _=>False) (ce:=c.calm W) hT (c:=c.calm W) (hskipHS W hW) hfr (Ext.refl _) (hskip y.val y.isLt hh) ?_
   rintro a' W' ⟨c',fr',H',rfl,⟨k1,k2⟩,k3,k4,k5⟩ hold
   have hb:=Md (c:=c) hWs hold k5.os k5.tape k5.output k5.size
   obtain⟨s1,s2⟩:=k3.slim (B0:=c.w.heap.size) (Nat.le_refl _)
   refine hK a' c'.w ⟨k5.size,fun k o _ h1 _=>(hold k (Array.getElem?_eq_some_iff.1 h1).1).trans h1⟩ hb ⟨hW.trans hb,hpre⟩ ⟨fun _=>⟨c'.slim c.w.heap.size H',fr',H',rfl,s1,k1,k4.size,(k4.ext s2).get,fun b hb' hm=>K3 k3 k1 hb' hm,k2,s1.dom⟩,fun e=>by rw [hh] at e;cases e⟩
  | true=>
   obtain⟨g1,g2⟩:=hs.grow hW
   have hE:Rd (.ag (E y.val)) { c with w:=W } (.agg (X y.val).toArray):=by
    simp only [Rd]
    exact⟨_,rfl,RdL.ext _ ((Ext.ofClosed c).trans g2) (hXr y.val y.isLt)⟩
   have hfr:=hput { c with w:=W } fr w0.off (fun h=>h) (fun i=>Rd.ext _ g2 (hf.get i)) hE
   refine L2 (w0:=w0.off) (M0:=M0) (ce:={ c with w:=W }) hT (c:={ c with w:=W }) g1.off hfr (Ext.refl _) (hhit y.val y.isLt hh) ?_
   rintro a' W' ⟨c',fr',H',rfl,⟨k1,k2⟩,k3,k4,k5⟩ hold
   have hb:=Md (c:=c) hWs hold k5.os k5.tape k5.output k5.size
   obtain⟨s1,s2⟩:=k3.slim (B0:=c.w.heap.size) hlow
   refine hK a' c'.w ⟨k5.size,fun k o _ h1 _=>(hold k (Array.getElem?_eq_some_iff.1 h1).1).trans h1⟩ hb ⟨hW.trans hb,hpre⟩ ⟨fun e=>(by rw [hh] at e;cases e),fun _=>⟨c'.slim c.w.heap.size H',fr',H',rfl,s1.on,k1,k4.size,(k4.ext s2).get,(g2.trans k5).trans s2,fun b hb' hm=>K3 k3 k1 hb' hm,k2⟩⟩
 case body=>
  rintro l pre y a' W hl hrec ⟨hW,hpre⟩ ⟨hA,hC⟩ hlt
  cases hh:hit y.val with
  | false=>
   obtain⟨c',fr',H',rfl,h1,h2,h3,h4,h5,h6,h7⟩:=hA hh
   refine BX (w0:=wS) (M0:=fun _=>False) (ce:={ c' with dom:=0 }) (d0:=0) hT rfl body _ _ c' fr' H' a' hrb ?_ h1 (FR.off h3 h4 fun h=>h) (Ext.ofClosed c') h6
   intro e a3 W3 hl3
   have go:∀ ex:EX,DR wS (fun _=>False) { c' with dom:=0 } n (fun _ _=>ex = .normal) a3 W3->ex = .normal/\KeepsFrom c.w.heap.size c'.w W3/\Below c.w.heap.size c'.w W3:=by
    rintro ex ⟨c3,fr3,H3,rfl,e1,e2,e3,e4⟩
    have hlw:=e2.low
    refine⟨e1,⟨e4.size,fun k o hk ho hc=>?_⟩,⟨e4.os,e4.tape,e4.output,e4.size,fun b hb=>(hlw.block b hb).trans (hW.block b hb).symm⟩⟩
    refine(e4.keep k (Array.getElem?_eq_some_iff.1 ho).1 fun hm=>?_).2.trans ho
    obtain⟨o',q1,q2⟩:=h5 k hk hm
    rw [ho] at q1
    cases q1
    rw [hc] at q2
    cases q2
   cases e with
   | normal=>
    obtain⟨_,k1,k2⟩:=go .normal hl3
    exact⟨k1,k2,hW.trans k2,fun z hz=>by
     rcases Ax.1 hz with h | h
     ·exact hpre z h
     ·simp at h;subst h;exact hh⟩
   | exit id=>exact absurd (go (.exit id) hl3).1 (by simp)
   | ret=>exact absurd (go .ret hl3).1 (by simp)
   | _=>exact hl3.elim
  | true=>
   obtain⟨c',fr',H',rfl,h1,h2,h3,h4,h5,h6,h7⟩:=hC hh
   have hce:Ext c { c' with dom:=H.length }:=⟨h5.os,h5.tape,h5.output,h5.size,h5.keep,by show c.dom<=H.length;rw [hs.dom];exact Nat.le_refl _,h5.len,h5.rho,h5.box⟩
   have hce2:Ext { c' with dom:=H.length } c':=⟨rfl,rfl,rfl,Nat.le_refl _,fun _ _ h=>⟨h,rfl⟩,by show H.length<=c'.dom;rw [<-hs.dom];exact h5.dom,fun _ _=>Nat.le_refl _,fun _ _ _=>rfl,fun _ _ _ h=>h⟩
   refine BX (w0:=w0.off) (M0:=M0) (ce:={ c' with dom:=H.length }) (d0:=H.length) hT rfl body _ _ c' fr' H' a' hrb ?_ h1.off (FR.off h3 h4 fun h=>h) hce2 h7
   intro e a3 W3 hl3
   have go:∀ ex:EX,DR w0.off M0 { c' with dom:=H.length } n (fun _ H'=>ex≠ .normal/\noIter H'=true/\((∀ j,y.val<j->j<len->hit j=false)->Q ex fr H')) a3 W3->ex≠ .normal/\KeepsFrom c.w.heap.size c'.w W3/\∃ c3 H3,c3.w=W3/\HS w0.off M0 c3 H3/\Ext { c' with dom:=H.length } c3/\noIter H3=true/\((∀ j,y.val<j->j<len->hit j=false)->Q ex fr H3):=by
    rintro ex ⟨c3,fr3,H3,rfl,⟨e0,e1,e5⟩,e2,e3,e4⟩
    refine⟨e0,⟨e4.size,fun k o hk ho hc=>?_⟩,c3,H3,rfl,e2,e4,e1,e5⟩
    refine(e4.keep k (Array.getElem?_eq_some_iff.1 ho).1 fun hm=>?_).2.trans ho
    obtain⟨o',q1,q2⟩:=h6 k hk hm
    rw [ho] at q1
    cases q1
    rw [hc] at q2
    cases q2
   have mk:∀ ex:EX,DR w0.off M0 { c' with dom:=H.length } n (fun _ H'=>ex≠ .normal/\noIter H'=true/\((∀ j,y.val<j->j<len->hit j=false)->Q ex fr H')) a3 W3->ex≠ .normal/\KeepsFrom c.w.heap.size c'.w W3/\∃ ex' pr y' c'' H'',pre ++ [y]=pr ++ [y']/\(∀ z∈pr,hit z.val=false)/\ex.code=ex'.code/\ex'≠ .normal/\((∀ j,y'.val<j->j<len->hit j=false)->Q ex' fr H'')/\c''.w=W3/\HS w0 M0 c'' H''/\Ext c c''/\noIter H''=true/\(∀ b,c.w.heap.size<=b->c''.M b->∃ (j:Nat) (y:AB),H''[j]? = some y/\y.live=true/\oB (c''.rho j)=some b):=by
    intro ex hl4
    obtain⟨k0,k1,c3,H3,rfl,k2,k3,k4,k5⟩:=go ex hl4
    obtain⟨s1,s2⟩:=k2.slim (B0:=c.w.heap.size) hlow
    exact⟨k0,k1,ex,pre,y,c3.slim c.w.heap.size H3,H3,rfl,hpre,rfl,k0,k5,rfl,s1.on,(hce.trans k3).trans s2,k4,fun b hb hm=>hm.2.resolve_left (by omega)⟩
   cases e with
   | normal=>exact absurd rfl (mk .normal hl3).1
   | exit id=>exact(mk (.exit id) hl3).2
   | ret=>exact(mk .ret hl3).2
   | _=>exact hl3.elim
 case done=>
  rintro D ys W hD hys ⟨hW,hpre⟩ hdef
  obtain⟨g1,g2⟩:=hs.grow hW
  have hall:∀ i,i<len->hit i=false:=by
   intro i hi
   have:=S1 hi
   rw [<-hys,AH] at this
   obtain⟨y,hy,rfl⟩:=this
   exact hpre y hy
  refine hQ .normal { c with w:=W } fr H _ (hdone hall) g1 ⟨hf.size,⟨fun _=>⟨D,rfl,Bc hlow hD,fun hm=>by have:=hs.lt D hm;omega,hdef,?_⟩,hf.defers.ext g2⟩,(hf.ext g2).get⟩ (he.trans g2)
  rename_i hck
  intro e he'
  obtain⟨b,hb,hlt⟩:=hf.defers.lt hck e he'
  rw [hb]
  intro e'
  injection e' with e'
  omega
 case stop=>
  rintro D cd pre W hD ⟨k,hk,hpre⟩ ⟨ex,pr,y,c',H',rfl,h2,rfl,h4,h5,rfl,h6,h7,h8,h9⟩ hdef
  have hq:Q ex fr H':=h5 (Ql hk (pre:=pr.map Fin.val) (x:=y.val) (by rw [<-hpre];simp) (p:=fun j=>hit j=false) (by
   intro z hz
   obtain⟨z',hz',rfl⟩:=AH.1 hz
   exact h2 z' hz'))
  have hM:¬c'.M D:=by
   intro hm
   obtain⟨j,y',q1,q2,q3⟩:=h9 D hD hm
   obtain⟨o,q4,q5⟩:=h6.cells h8 q1 q2 q3
   rw [hdef] at q4
   cases q4
   cases q5
  have hfr:FR w0 c' n fr { a with defers:={ target:= .collected D,args:= #[] }::a.defers }:=by
   refine⟨hf.size,⟨fun hck=>⟨D,rfl,Bc hlow hD,hM,hdef,?_⟩,hf.defers.ext h7⟩,(hf.ext h7).get⟩
   intro e he'
   obtain⟨b,hb,hlt⟩:=hf.defers.lt hck e he'
   rw [hb]
   intro e'
   injection e' with e'
   omega
  cases ex with
  | normal=>exact absurd rfl h4
  | exit id=>exact wpIn_exit (hQ (.exit id) c' fr H' _ hq h6 hfr (he.trans h7))
  | ret=>exact wpIn_ret (hQ .ret c' fr H' _ hq h6 hfr (he.trans h7))
end
end Go.Proofs.YtldngmdpiifamaaGreatDoor.A
end
section
namespace Go.Proofs.YtldngmdpiifamaaGreatDoor.A
open Go.RowKit Go.Shelf
attribute [local go_sem] Oper.semAt_some

theorem Lw (n j:Nat):EA n (j+1)=EA n j ++ [n - 1 - j]:=by simp [EA,Bo]
theorem N6 (n j:Nat):(EA n j).length=j:=by simp [EA]

theorem U9 (F:Fence) (n:Nat) (h7:F.fn 206) (hro:F.round=none) (hn:1<=n) (l Bs n₀ b off len cap:Nat) (X Y:Nat->Value) (hlen:len<=1000000000) (hb:b<n₀) (hBn:Bs<n₀) (J Jx:List Nat->World->Prop)
  (hY:∀ pre x W,J pre W->pre.length<len->x<len->YieldAt F (n - 1) Tryz.prog l #[.int .i64 (x:Nat), .agg #[X x,Y x]] W fun e W'=>
   (e = .returned (.bool true)/\J (pre ++ [x]) W'/\Below n₀ W W')\/(e = .returned (.bool false)/\Jx (pre ++ [x]) W'))
  (W:World) (hBs:W.cell? ⟨Bs,0,none⟩=some (.slice (some ⟨b,off,none⟩) len cap)) (hc0:∀ j,j<len->W.cell? ⟨b,off+j*2,none⟩=some (X j)) (hc1:∀ j,j<len->W.cell? ⟨b,off+j*2+1,none⟩=some (Y j)) (h0:J [] W) :
  CallsIn F n Tryz.prog 206 #[.func (.yield l) #[] #[], .pointer (some ⟨Bs,0,none⟩)] W fun e W'=>(∃ v,e = .returned v)/\
   ((∃ ys,ys=EA len len/\J ys W')\/(∃ pre,(∃ k,k<=len/\pre=EA len k)/\Jx pre W')):=by
 have Hc0:=Lib.hid hc0
 have Hc1:=Lib.hid hc1
 clear hc0 hc1
 refine callsIn_of_wp Tryz.func206 rfl h7 ?_ hro
 simp only [Tryz.ntmps206,Ci,Ai,AK,Nat.reduceAdd,Nat.reduceSub,Array.replicate_succ,Array.replicate_zero,List.push_toArray,List.append_toArray,Bk,Be]
 gi_wp2
 gi_loopw [3] (fun i wr=>∃ k:Nat,k<=len/\i = .int .i64 ((len:Int) - 1 - k)/\J (EA len k) wr/\Below n₀ W wr)
  (fun i _=>(intOf i+1).toNat)
 case atStart=>exact⟨0,Ag _,by simp,h0,Below.refl _ _⟩
 case round=>
  obtain⟨k,hk,rfl,hJs,hnx⟩:=hrel
  by_cases hlt:k<len
  ·obtain⟨m,hmk⟩:∃ m,len=k+1+m:=⟨len - (k+1),by omega⟩
   rw [show (len:Int) - 1 - k=(m:Int) by omega]
   obtain⟨fn,tmps,assign,body,hy,hR⟩:=hY _ m wr hJs (by rw [N6];exact hlt) (by omega)
   have e0:=(hnx.cell (p:=⟨b,off+m*2,none⟩) hb).trans (Hc0.out m (by omega))
   have e1:=(hnx.cell (p:=⟨b,off+m*2+1,none⟩) hb).trans (Hc1.out m (by omega))
   have eb:=(hnx.cell (p:=⟨Bs,0,none⟩) hBn).trans hBs
   have hm:(m:Int)<(len:Int):=by omega
   have Hm:=Lib.hid hmk
   clear hmk
   gi_wp2
   refine hR.mono ?_
   rintro e W3 (⟨rfl,hJ3,hk3⟩ | ⟨rfl,hJx3⟩)
   ·gi_wp2
    go_roundw
    case rel=>exact⟨k+1,by omega,congrArg (Value.int .i64) (by have:=Hm.out;omega),by rw [Lw,show len - 1 - k=m by have:=Hm.out;omega];exact hJ3,hnx.trans hk3⟩
    case measure=>simp [intOf]
   ·gi_wp2
    refine bodyPost_ret (results_none rfl _ _ _) rfl ?_
    exact⟨⟨_,rfl⟩, .inr ⟨_,⟨k+1,by omega,by rw [Lw,show len - 1 - k=m by have:=Hm.out;omega]⟩,hJx3⟩⟩
  ·obtain rfl:k=len:=by omega
   rw [show ((k:Nat):Int) - 1 - k = -1 by omega]
   gi_wp2
   go_end0
   exact⟨⟨_,rfl⟩, .inl ⟨_,rfl,hJs⟩⟩

theorem UA (F:Fence) (n:Nat) (h7:F.fn 206) (hro:F.round=none) (l Bs:Nat) (a:Option Addr) (cap:Nat) (J:List Nat->World->Prop) (W:World) (hBs:W.cell? ⟨Bs,0,none⟩=some (.slice a 0 cap)) (h0:J [] W) :
  CallsIn F n Tryz.prog 206 #[.func (.yield l) #[] #[], .pointer (some ⟨Bs,0,none⟩)] W fun e W'=>(∃ v,e = .returned v)/\J [] W':=by
 refine callsIn_of_wp Tryz.func206 rfl h7 ?_ hro
 simp only [Tryz.ntmps206,Ci,Ai,AK,Nat.reduceAdd,Nat.reduceSub,Array.replicate_succ,Array.replicate_zero,List.push_toArray,List.append_toArray,Bk,Be]
 gi_wp2
 gi_loopw [3] (fun i wr=>i = .int .i64 (-1)/\J [] wr) (fun _ _=>0)
 case atStart=>exact⟨rfl,h0⟩
 case round=>
  obtain⟨rfl,hJs⟩:=hrel
  gi_wp2
  go_end0
  exact⟨⟨_,rfl⟩,hJs⟩

theorem Qr (F:Fence) (n:Nat) (h7:F.fn 206) (hro:F.round=none) (hn:1<=n) (Bs n₀:Nat) (a:Option Addr) (len cap:Nat) (X Y:Nat->Value) (hlen:len<=1000000000) (w:World) (hBs:Bs<n₀) (hn₀:n₀<=w.heap.size)
  (hc:w.cell? ⟨Bs,0,none⟩=some (.slice a len cap)) (hI:0<len->∃ b off,a=some ⟨b,off,none⟩/\b<n₀/\∀ j,j<len->w.cell? ⟨b,off+j*2,none⟩=some (X j)/\w.cell? ⟨b,off+j*2+1,none⟩=some (Y j)) :
  SeqStopsK F n Tryz.prog 206 #[.pointer (some ⟨Bs,0,none⟩)] (fun x:Fin len=> #[Value.int .i64 x.val, .agg #[X x,Y x]]) (Below n₀) (fun ys=>ys.map Fin.val=EA len len) (fun pre=>∃ k,k<=len/\pre.map Fin.val=EA len k) len w:=fun l J Jx W hW _ _ hY h0=>by
 have hc':=(hW.cell (p:=⟨Bs,0,none⟩) (by show Bs<_;omega)).trans hc
 rcases Nat.eq_zero_or_pos len with rfl | hp
 ·exact(UA F n h7 hro l Bs a cap (fun _ W=>J [] W) W hc' h0).mono fun e W' ⟨he,hj⟩=>⟨he, .inl ⟨[],rfl,hj⟩⟩
 ·obtain⟨b,off,rfl,hb,hj⟩:=hI hp
  refine(U9 F n h7 hro hn l Bs n₀ b off len cap X Y hlen hb hBs (fun pre W=>∃ q:List (Fin len),q.map Fin.val=pre/\J q W) (fun pre W=>∃ q:List (Fin len),q.map Fin.val=pre/\Jx q W) ?_ W hc' (fun j h=>(hW.cell (p:=⟨b,off+j*2,none⟩) (by show b<_;omega)).trans (hj j h).1) (fun j h=>(hW.cell (p:=⟨b,off+j*2+1,none⟩) (by show b<_;omega)).trans (hj j h).2) ⟨[],rfl,h0⟩).mono ?_
  ·rintro pre x W1 ⟨q,hq,hJ⟩ hlt hx
   obtain⟨fn,tmps,assign,body,hy,hR⟩:=hY q ⟨x,hx⟩ W1 hJ (by rw [<-hq,Ab] at hlt;exact hlt)
   refine⟨fn,tmps,assign,body,hy,hR.mono ?_⟩
   rintro e W' (⟨he,h1,h2⟩ | ⟨he,h1⟩)
   ·exact .inl ⟨he,⟨_,by simp [hq],h1⟩,h2⟩
   ·exact .inr ⟨he,⟨_,by simp [hq],h1⟩⟩
  ·rintro e W' ⟨he,⟨ys,rfl,q,hq,hJ⟩ | ⟨pre,⟨k,hk,rfl⟩,q,hq,hJ⟩⟩
   ·exact⟨he, .inl ⟨q,hq,hJ⟩⟩
   ·exact⟨he, .inr ⟨q,⟨k,hk,hq⟩,hJ⟩⟩

theorem back_is:IsBack Tryz.prog 206 2:=by
 refine⟨enters_of Tryz.func206 (by kernel_rfl) rfl,fun B a len cap X w hlen hc hl hI=>?_⟩
 have e:(fun x:Fin len=>(#[Value.int .i64 x.val, .agg (X x.val).toArray]:Array Value))=fun x:Fin len=> #[Value.int .i64 x.val, .agg #[(X x.val).getD 0 undef,(X x.val).getD 1 undef]]:=by
  funext x
  have:=hl x.val
  match h:X x.val with
  | [u,v]=>rfl
  | []=>rw [h] at this;simp at this
  | [_]=>rw [h] at this;simp at this
  | _::_::_::_=>rw [h] at this;simp at this
 rw [e]
 refine Qr Fence.wide 4 trivial rfl (by omega) B w.heap.size a len cap (fun j=>(X j).getD 0 undef) (fun j=>(X j).getD 1 undef) hlen w (World.block_lt_of_cell? w _ hc) (Nat.le_refl _) hc fun hp=>?_
 obtain⟨b,off,h1,h2,h3⟩:=hI hp
 refine⟨b,off,h1,h2,fun j hj=>?_⟩
 have h4:=hl j
 match h:X j with
 | [u,v]=>exact⟨h3 j hj 0 u (by rw [h];rfl),h3 j hj 1 v (by rw [h];rfl)⟩
 | []=>rw [h] at h4;simp at h4
 | [_]=>rw [h] at h4;simp at h4
 | _::_::_::_=>rw [h] at h4;simp at h4
end Go.Proofs.YtldngmdpiifamaaGreatDoor.A
end
section
namespace Go.Proofs.YtldngmdpiifamaaGreatDoor.A
open Go.RowKit
structure Cel where
 state:Int
 bytes:List UInt8
 old:List UInt8
 deriving DecidableEq
def Bi (x:Cel):List AV:= [.v (.int .i64 x.state),bA x.bytes,bA x.old]
structure Dk where
 cells:List Cel
 cache:List Wr
 reqs:Int
 left:Int
 deriving DecidableEq
@[reducible] def Lx (x y:AV) (reqs left:Int):List AV:= [x,y, .v (.int .i64 reqs), .v (.int .i64 left)]
@[reducible] def dkH (d:Dk):List AB:= [.box 164 (Lx (.ow 1 d.cells.length) (.ow 2 d.cache.length) d.reqs d.left), .row 87 3 (d.cells.map Bi), .row 130 2 (d.cache.map DA)]
def Dk.req (d:Dk):Dk:={ d with reqs:=if 1048576<IntKind.i64.wrap (d.reqs+1) then 1048576 else IntKind.i64.wrap (d.reqs+1),left:=if d.left > 0 then d.left - 1 else d.left }

theorem Gp (d:Dk) (hl : -1<=d.left/\d.left<=1048576):ACalls Tryz.prog false 163 [.bp 0 0] (dkH d) fun r H=>r = .v (.bool (decide (d.left≠0)))/\H=dkH (if d.left=0 then d else d.req):=by
 refine ACalls.ofO tys_ok Tryz.func163 rfl rfl (by decide) ?_
 conv=>whnf
 refine Al (fun h=>?_) (fun h=>?_) <;> (repeat rw [Aa] at h) <;> conv=>whnf
 ·exact⟨_,dkH d,fun _ _ h=>h,⟨rfl,rfl,rfl,trivial⟩,rfl,⟨rfl,rfl⟩,by simp [h],by rw [if_pos h]⟩
 ·have hw:IntKind.i64.wrap (d.left - 1)=d.left - 1:=by rw [IntKind.wrap_i64];omega
  refine aSeq.go ?_
  conv=>whnf
  refine Al (fun h2=>?_) (fun h2=>?_) <;> (repeat rw [Aa] at h2) <;> conv=>whnf
  ·exact⟨_,dkH d.req,fun _ _ h=>h,⟨by simp [Dk.req,h2,hw],rfl,rfl,trivial⟩,rfl,⟨rfl,rfl⟩,by simp [h],by rw [if_neg h]⟩
  ·exact⟨_,dkH d.req,fun _ _ h=>h,⟨by simp [Dk.req];omega,rfl,rfl,trivial⟩,rfl,⟨rfl,rfl⟩,by simp [h],by rw [if_neg h]⟩

theorem U8 (a:Option Addr) (len cap:Nat) (w:World) :
  Calls Tryz.prog 164 #[.slice a len cap] w fun e w'=>e = .returned (.func (.func 206) #[] #[.pointer (some ⟨w.heap.size,0,none⟩)])/\w.alloc (.cells #[.slice a len cap] 30)=w':=by
 go_enter Tryz.func164,Tryz.ntmps164
 go_wp2
 go_ret
 exact⟨rfl,rfl⟩

theorem Pn (x:AV) (Hin:List AB) (hx:∀ c u,Rd x c u->∃ a len cap,u = .slice a len cap):ACalls Tryz.prog false 164 [x] Hin fun r H=>r = .fn 206 [.bp Hin.length 0]/\H=Hin ++ [.box 30 [x]]:=by
 refine⟨⟨_,Tryz.func164,rfl,by decide⟩,fun w0 M0 c us hs hr=>?_⟩
 have hr0:=hr
 simp only [RdL] at hr
 obtain⟨u,_,rfl,hu,rfl⟩:=hr
 obtain⟨a,len,cap,rfl⟩:=hx _ _ hu
 obtain⟨c',e1,e2,e3,e4⟩:=hs.box 30 hr0 (by simp [Value.oneCell'])
 refine(U8 a len cap c.w).mono ?_
 rintro e w' ⟨rfl,rfl⟩
 refine⟨_,c',_,_,rfl,by rw [e1],⟨rfl,rfl⟩,e2,e3,?_,fun e=>by cases e⟩
 simp only [Rd,RdL]
 exact⟨_,rfl,_,_,rfl,by simpa only [Rd] using e4,rfl⟩
def MB (l:List Cel):AV:= .sl 3 l.length fun i=>Bi (l.getD i ⟨0, [], []⟩)
theorem OQ (l:List Int) (hl:l.length<=1000000000):ACalls Tryz.prog false 118 [iA l] [] fun r H=>r = .ow 0 l.length/\H=[.row 3 1 (l.map Sj)]:=by
 refine ACalls.ofC tys_ok Tryz.func118 rfl rfl (by show 1<=_;decide) ?_
 refine And.intro (fun h=>?_) ?_
 ·conv=>whnf
  have h0:=AU.1 h
  subst h0
  exact⟨_, .ow 0 0, [.row 3 1 []],fun _ _ h=>h,Wk.conv ⟨[(0,3,1)],⟨rfl,rfl,trivial⟩,⟨rfl,trivial⟩,⟨rfl,trivial⟩,rfl,rfl,rfl⟩,rfl,rfl⟩
 ·refine⟨⟨rfl,by omega⟩,?_⟩
  exact⟨.ow 0 l.length, .ow 0 l.length, [.row 3 1 (l.map Sj)],fun _ _ h=>by rwa [Ap] at h,Wk.conv ⟨[],trivial,⟨rfl,trivial⟩,⟨(congrArg (AB.row _ _) (HZ (d:=0) Sj l)).symm,trivial⟩,rfl,rfl,rfl⟩,rfl,rfl⟩
theorem Sl (l:List Hm) (hl:l.length<=1000000000):ACalls Tryz.prog false 170 [H4 l] [] fun r H=>r = .ow 0 l.length/\H=[.row 132 3 (l.map H8)]:=by
 refine ACalls.ofC tys_ok Tryz.func170 rfl rfl (by show 1<=_;decide) ?_
 refine And.intro (fun h=>?_) ?_
 ·conv=>whnf
  have h0:=AU.1 h
  subst h0
  exact⟨_, .ow 0 0, [.row 132 3 []],fun _ _ h=>h,Wk.conv ⟨[(0,132,3)],⟨rfl,rfl,trivial⟩,⟨rfl,trivial⟩,⟨rfl,trivial⟩,rfl,rfl,rfl⟩,rfl,rfl⟩
 ·refine⟨⟨rfl,by omega⟩,?_⟩
  exact⟨.ow 0 l.length, .ow 0 l.length, [.row 132 3 (l.map H8)],fun _ _ h=>by rwa [Ap] at h,Wk.conv ⟨[],trivial,⟨rfl,trivial⟩,⟨(congrArg (AB.row _ _) (HZ (d:=⟨[],0,0⟩) H8 l)).symm,trivial⟩,rfl,rfl,rfl⟩,rfl,rfl⟩
theorem Rn (l:List Tx) (hl:l.length<=1000000000):ACalls Tryz.prog false 171 [DS l] [] fun r H=>r = .ow 0 l.length/\H=[.row 78 4 (l.map Hi)]:=by
 refine ACalls.ofC tys_ok Tryz.func171 rfl rfl (by show 1<=_;decide) ?_
 refine And.intro (fun h=>?_) ?_
 ·conv=>whnf
  have h0:=AU.1 h
  subst h0
  exact⟨_, .ow 0 0, [.row 78 4 []],fun _ _ h=>h,Wk.conv ⟨[(0,78,4)],⟨rfl,rfl,trivial⟩,⟨rfl,trivial⟩,⟨rfl,trivial⟩,rfl,rfl,rfl⟩,rfl,rfl⟩
 ·refine⟨⟨rfl,by omega⟩,?_⟩
  exact⟨.ow 0 l.length, .ow 0 l.length, [.row 78 4 (l.map Hi)],fun _ _ h=>by rwa [Ap] at h,Wk.conv ⟨[],trivial,⟨rfl,trivial⟩,⟨(congrArg (AB.row _ _) (HZ (d:=⟨0,0,0, []⟩) Hi l)).symm,trivial⟩,rfl,rfl,rfl⟩,rfl,rfl⟩
theorem Sh (l:List Img) (hl:l.length<=1000000000):ACalls Tryz.prog false 172 [Ff l] [] fun r H=>r = .ow 0 l.length/\H=[.row 83 3 (l.map D4)]:=by
 refine ACalls.ofC tys_ok Tryz.func172 rfl rfl (by show 1<=_;decide) ?_
 refine And.intro (fun h=>?_) ?_
 ·conv=>whnf
  have h0:=AU.1 h
  subst h0
  exact⟨_, .ow 0 0, [.row 83 3 []],fun _ _ h=>h,Wk.conv ⟨[(0,83,3)],⟨rfl,rfl,trivial⟩,⟨rfl,trivial⟩,⟨rfl,trivial⟩,rfl,rfl,rfl⟩,rfl,rfl⟩
 ·refine⟨⟨rfl,by omega⟩,?_⟩
  exact⟨.ow 0 l.length, .ow 0 l.length, [.row 83 3 (l.map D4)],fun _ _ h=>by rwa [Ap] at h,Wk.conv ⟨[],trivial,⟨rfl,trivial⟩,⟨(congrArg (AB.row _ _) (HZ (d:=⟨0,0, []⟩) D4 l)).symm,trivial⟩,rfl,rfl,rfl⟩,rfl,rfl⟩
theorem Lz (l:List Cel) (hl:l.length<=1000000000):ACalls Tryz.prog false 109 [MB l] [] fun r H=>r = .ow 0 l.length/\H=[.row 87 3 (l.map Bi)]:=by
 refine ACalls.ofC tys_ok Tryz.func109 rfl rfl (by show 1<=_;decide) ?_
 refine And.intro (fun h=>?_) ?_
 ·conv=>whnf
  have h0:=AU.1 h
  subst h0
  exact⟨_, .ow 0 0, [.row 87 3 []],fun _ _ h=>h,Wk.conv ⟨[(0,87,3)],⟨rfl,rfl,trivial⟩,⟨rfl,trivial⟩,⟨rfl,trivial⟩,rfl,rfl,rfl⟩,rfl,rfl⟩
 ·refine⟨⟨rfl,by omega⟩,?_⟩
  exact⟨.ow 0 l.length, .ow 0 l.length, [.row 87 3 (l.map Bi)],fun _ _ h=>by rwa [Ap] at h,Wk.conv ⟨[],trivial,⟨rfl,trivial⟩,⟨(congrArg (AB.row _ _) (HZ (d:=⟨0, [], []⟩) Bi l)).symm,trivial⟩,rfl,rfl,rfl⟩,rfl,rfl⟩
theorem LG (l:List Wr) (hl:l.length<=1000000000):ACalls Tryz.prog false 110 [FF l] [] fun r H=>r = .ow 0 l.length/\H=[.row 130 2 (l.map DA)]:=by
 refine ACalls.ofC tys_ok Tryz.func110 rfl rfl (by show 1<=_;decide) ?_
 refine And.intro (fun h=>?_) ?_
 ·conv=>whnf
  have h0:=AU.1 h
  subst h0
  exact⟨_, .ow 0 0, [.row 130 2 []],fun _ _ h=>h,Wk.conv ⟨[(0,130,2)],⟨rfl,rfl,trivial⟩,⟨rfl,trivial⟩,⟨rfl,trivial⟩,rfl,rfl,rfl⟩,rfl,rfl⟩
 ·refine⟨⟨rfl,by omega⟩,?_⟩
  exact⟨.ow 0 l.length, .ow 0 l.length, [.row 130 2 (l.map DA)],fun _ _ h=>by rwa [Ap] at h,Wk.conv ⟨[],trivial,⟨rfl,trivial⟩,⟨(congrArg (AB.row _ _) (HZ (d:=⟨0, []⟩) DA l)).symm,trivial⟩,rfl,rfl,rfl⟩,rfl,rfl⟩
theorem SubL.app:∀ {a b x y:List AV},SubL a b->SubL x y->SubL (a ++ x) (b ++ y)
 | [], [],_,_,_,k=>k
 | _::_,_::_,_,_,h,k=>⟨h.1,SubL.app h.2 k⟩
 | [],_::_,_,_,h,_=>h.elim
 | _::_, [],_,_,h,_=>h.elim
theorem SubL.flat:∀ {a b:List (List AV)},a.length=b.length->(∀ i,SubL (a.getD i []) (b.getD i []))->SubL a.flatten b.flatten
 | [], [],_,_=>trivial
 | x::a,y::b,hl,h=>by
  rw [Az,Az]
  exact SubL.app (h 0) (SubL.flat (by simpa using hl) fun i=>h (i+1))
 | [],_::_,hl,_=>by simp at hl
 | _::_, [],hl,_=>by simp at hl
theorem ConvH.subRow {H:List AB} {k:Nat} {t:TypeId} {sz:Nat} {es es':List (List AV)} (hk:H[k]? = some (.row t sz es)) (hl:es.length=es'.length) (h:∀ i,SubL (es.getD i []) (es'.getD i [])):ConvH H (H.set k (.row t sz es')):=fun _ _ c hs=>
 ⟨c,rfl,hs.recell hk rfl fun⟨h1,h2,h3,xs,h4,h5,h6⟩=>⟨h1.trans hl,h2,fun e he=>by
  obtain⟨i,hi,rfl⟩:=Df.1 he
  have:=(h i).len
  rw [List.getD_eq_getElem?_getD,List.getD_eq_getElem?_getD,List.getElem?_eq_getElem hi,List.getElem?_eq_getElem (by omega)] at this
  simp only [Bj] at this
  rw [<-this]
  exact h3 _ (B5 _),xs,by rw [<-hl];exact h4,(SubL.flat hl h).rdl h5,h6⟩,Ext.refl c⟩
theorem ConvH.subRowo {H:List AB} {k:Nat} {t:TypeId} {sz m m':Nat} {es es':List (List AV)} (hk:H[k]? = some (.rowo t sz es m)) (hl:es.length=es'.length) (h:∀ i,SubL (es.getD i []) (es'.getD i [])) (hm:AV.ltL es'.flatten m'=true):ConvH H (H.set k (.rowo t sz es' m')):=fun _ _ c hs=>
 ⟨c,rfl,hs.recell hk rfl fun⟨h1,h2,h3,h7,xs,h4,h5,h6⟩=>⟨h1.trans hl,h2,fun e he=>by
  obtain⟨i,hi,rfl⟩:=Df.1 he
  have:=(h i).len
  rw [List.getD_eq_getElem?_getD,List.getD_eq_getElem?_getD,List.getElem?_eq_getElem hi,List.getElem?_eq_getElem (by omega)] at this
  simp only [Bj] at this
  rw [<-this]
  exact h3 _ (B5 _),hm,xs,by rw [<-hl];exact h4,(SubL.flat hl h).rdl h5,h6⟩,Ext.refl c⟩
theorem NU {α:Type} {d x:α} {l:List α} {i k:Nat} (h:i≠k):(l.set i x).getD k d=l.getD k d:=by
 rw [List.getD_eq_getElem?_getD,List.getElem?_set_ne h,<-List.getD_eq_getElem?_getD]
theorem AR {α:Type} {d x:α} {l:List α} {i:Nat} (h:i<l.length):(l.set i x).getD i d=x:=by
 rw [List.getD_eq_getElem?_getD,List.getElem?_set_self h];rfl
theorem ConvH.last {H:List AB} (k:Nat) {t:TypeId} {sz:Nat} {es:List (List AV)} {e e':List AV} (hk:H[k]? = some (.row t sz (es ++ [e]))) (h:SubL e e'):ConvH H (H.set k (.row t sz (es ++ [e']))):=
 ConvH.subRow hk (by simp) fun i=>by
  by_cases hi:i<es.length
  ·rw [OT hi,OT hi];exact SubL.refl _
  ·rw [Mz (by omega),Mz (by omega)]
   cases h2:i - es.length with
   | zero=>exact h
   | succ j=>exact SubL.refl _
def AV.mv (k d:Nat):AV->AV
 | .ow j n=> .ow (bif Nat.beq j k then d else j) n
 | x=>x
theorem Rd.mv {c c':Ctx} {k:Nat} (e:Ext c c') (hd:c.dom<c'.dom) (hr:c'.rho c.dom=c.rho k) (hl:c'.len c.dom=c.len k):∀ (x:AV) {u:Value},Rd x c u->Rd (x.mv k c.dom) c' u
 | .ow j n,u,h=>by
  show Rd (.ow (bif Nat.beq j k then c.dom else j) n) c' u
  cases hb:Nat.beq j k with
  | true=>
   have:=Ah hb
   subst this
   simp only [Rd] at h
   simp only [cond_true,Rd]
   exact⟨hd,by rw [hl];exact h.2.1,h.2.2.1,fun e=>by rw [hr];exact h.2.2.2 (by rw [<-hl];exact e)⟩
  | false=>exact Rd.ext _ e h
 | .top,_,h=>Rd.ext _ e h
 | .v _,_,h=>Rd.ext _ e h
 | .sl _ _ _,_,h=>Rd.ext _ e h
 | .rp _,_,h=>Rd.ext _ e h
 | .bp _ _,_,h=>Rd.ext _ e h
 | .ep _ _ _ _ _,_,h=>Rd.ext _ e h
 | .ag _,_,h=>Rd.ext _ e h
 | .tp _,_,h=>Rd.ext _ e h
 | .fn _ _,_,h=>Rd.ext _ e h
 | .ic _ _,_,h=>Rd.ext _ e h
theorem RdL.mv {c c':Ctx} {k:Nat} (e:Ext c c') (hd:c.dom<c'.dom) (hr:c'.rho c.dom=c.rho k) (hl:c'.len c.dom=c.len k):∀ (l:List AV) {us:List Value},RdL l c us->RdL (l.map (AV.mv k c.dom)) c' us
 | [],_,h=>h
 | x::l,_,h=>by
  simp only [RdL] at h
  obtain⟨y,ys,rfl,h1,h2⟩:=h
  simp only [Ay,RdL]
  exact⟨y,ys,rfl,Rd.mv e hd hr hl x h1,RdL.mv e hd hr hl l h2⟩
theorem ConvH.move {H:List AB} (i k:Nat) {t ti:TypeId} {sz:Nat} {es:List (List AV)} {cs:List AV} (hik:i≠k) (hi:H[i]? = some (.box ti cs)) (hk:H[k]? = some (.row t sz es)) :
  ConvH H (((H.set k .dead).set i (.box ti (cs.map (AV.mv k H.length)))) ++ [.row t sz es]):=fun w0 M0 c hs=>by
 have hil:=(List.getElem?_eq_some_iff.1 hi).1
 have hkl:=(List.getElem?_eq_some_iff.1 hk).1
 have hdom:=hs.dom
 let c':Ctx:={ c with rho:=fun j=>if j=c.dom then c.rho k else c.rho j,len:=fun j=>if j=c.dom then c.len k else c.len j,dom:=c.dom+1 }
 have hn:∀ j,j<c.dom->c'.rho j=c.rho j/\c'.len j=c.len j:=fun j hj=>⟨if_neg (by omega),if_neg (by omega)⟩
 have e:Ext c c':=⟨rfl,rfl,rfl,Nat.le_refl _,fun _ _ h=>⟨h,rfl⟩,Nat.le_succ _,fun j hj=>by rw [(hn j hj).2];exact Nat.le_refl _,fun j hj _=>(hn j hj).1,fun j g hj h=>by rw [(hn j hj).1];exact h⟩
 have hr:c'.rho c.dom=c.rho k:=if_pos rfl
 have hl:c'.len c.dom=c.len k:=if_pos rfl
 have get:∀ j x,(((H.set k .dead).set i (.box ti (cs.map (AV.mv k H.length)))) ++ [.row t sz es])[j]? = some x->x.live=true->(j=c.dom/\x = .row t sz es)\/(j<c.dom/\j=i/\x = .box ti (cs.map (AV.mv k c.dom)))\/(j<c.dom/\j≠i/\j≠k/\H[j]? = some x):=fun j x hj hx=>by
  rw [hdom]
  by_cases h1:j<H.length
  ·rw [List.getElem?_append_left (by simpa using h1)] at hj
   by_cases h2:j=i
   ·subst h2
    rw [List.getElem?_set_self (by simpa using h1)] at hj
    exact .inr (.inl ⟨h1,rfl,(Option.some.inj hj).symm⟩)
   ·rw [List.getElem?_set_ne (Ne.symm h2)] at hj
    by_cases h3:j=k
    ·subst h3
     rw [List.getElem?_set_self h1] at hj
     rw [<-Option.some.inj hj] at hx
     cases hx
    ·rw [List.getElem?_set_ne (Ne.symm h3)] at hj
     exact .inr (.inr ⟨h1,h2,h3,hj⟩)
  ·rw [List.getElem?_append_right (by simpa using h1)] at hj
   simp only [Bl] at hj
   cases h2:j - H.length with
   | zero=>rw [h2] at hj;exact .inl ⟨by omega,(Option.some.inj hj).symm⟩
   | succ m=>rw [h2] at hj;simp at hj
 have org:∀ j x,(((H.set k .dead).set i (.box ti (cs.map (AV.mv k H.length)))) ++ [.row t sz es])[j]? = some x->x.live=true->∃ j' y,H[j']? = some y/\y.live=true/\c'.rho j=c.rho j'/\((j=c.dom/\j'=k)\/(j<c.dom/\j'=j/\j≠k)):=fun j x hj hx=>by
  rcases get j x hj hx with ⟨rfl,rfl⟩ | ⟨h1,rfl,rfl⟩ | ⟨h1,h2,h3,h4⟩
  ·exact⟨k,_,hk,rfl,hr, .inl ⟨rfl,rfl⟩⟩
  ·exact⟨j,_,hi,rfl,(hn j h1).1, .inr ⟨h1,rfl,hik⟩⟩
  ·exact⟨j,_,h4,hx,(hn j h1).1, .inr ⟨h1,rfl,h3⟩⟩
 refine⟨c',rfl,⟨hs.low,hs.base,by simp [c',hdom],hs.foreign,hs.lt,fun j x hj=>?_,fun j x g hj hx ho=>?_,fun j1 j2 x y g h1 h2 hx hy o1 o2=>?_⟩,e⟩
 ·cases hx:x.live with
  | false=>cases x <;> first | trivial | cases hx
  | true=>
   rcases get j x hj hx with ⟨rfl,rfl⟩ | ⟨h1,rfl,rfl⟩ | ⟨h1,h2,h3,h4⟩
   ·obtain⟨q1,q2,q3,xs,q4,q5,q6⟩:=hs.blk k _ hk
    exact⟨by rw [hl];exact q1,q2,q3,xs,by rw [hr];exact q4,RdL.ext _ e.closed q5,q6⟩
   ·obtain⟨g,xs,q1,q2,q3,q4⟩:=hs.blk j _ hi
    exact⟨g,xs,by rw [(hn j h1).1];exact q1,q2,RdL.mv e (Nat.lt_succ_self _) hr hl _ q3,q4⟩
   ·exact BlkOk.ext e rfl h1 (hn j h1).2 (fun _ _ _=>rfl) (hs.blk j x h4)
 ·obtain⟨j',y,h1,h2,h3,_⟩:=org j x hj hx
  exact hs.own j' y g h1 h2 (by rw [<-h3];exact ho)
 ·obtain⟨a,y1,p1,p2,p3,p4⟩:=org j1 x h1 hx
  obtain⟨b,y2,r1,r2,r3,r4⟩:=org j2 y h2 hy
  have:=hs.dis a b y1 y2 g p1 r1 p2 r2 (by rw [<-p3];exact o1) (by rw [<-r3];exact o2)
  omega

def Xt (T:Tys) (m:Nat) (rs:List ResultVar) (K:AV->List AB->Prop):QA:=fun ex fr H=>match ex with
 | .exit _=>False
 | _=>H0 T rs fr H fun x=>∃ y r H2,(∀ c v,Rd x c v->Rd y c v)/\WkR m [(0,y)] H [(0,r)] H2/\K r H2
theorem ACalls.ofR {P : Program} {T : Tys} (hT : TOk P T) {f : FuncId} {fn : Func} {body : Code} {args : List AV} {Hin : List AB} {K : AV → List AB → Prop} (hf : P.funcs[f]? = some fn) (hb : fn.body = some body) (hname : (fn.name == "runtime.NumGoroutine") = false) (hn : args.length ≤ fn.ntmps)
  (h:Ca P T fn.ntmps Hin.length body (Xt T Hin.length fn.results.toList K) (frOf 0 args) Hin):ACalls P false f args Hin K:=by
 refine⟨⟨fn,hf,by rw [hb];rfl,hname⟩,fun w0 M0 c0 us hs0 hr=>?_⟩
 have hlen:=hr.length
 have hFR:FR (w0.at c0.w hs0.low) c0 fn.ntmps (frOf 0 args) { tmps:=us.toArray ++ Array.replicate (fn.ntmps - us.toArray.size) undef,defers:= [] }:=by
  refine⟨by simp;omega,trivial,fun i=>?_⟩
  have:=G2 (c:=c0) (m:=fn.ntmps - us.length) (l:=args) (i:=0) (pre:= []) rfl hr i
  rw [Array.getD_eq_getD_getElem?]
  have e:(us.toArray ++ Array.replicate (fn.ntmps - us.toArray.size) undef)[i]? = ([] ++ us ++ List.replicate (fn.ntmps - us.length) undef)[i]? :=by
   have:(us.toArray ++ Array.replicate (fn.ntmps - us.toArray.size) undef)=([] ++ us ++ List.replicate (fn.ntmps - us.length) undef).toArray:=Array.ext' (by simp)
   rw [this];simp only [List.getElem?_toArray]
  rw [e]
  exact this
 have fin:∀ a w,DR (w0.at c0.w hs0.low) M0 c0 fn.ntmps (fun fr H=>H0 T fn.results.toList fr H fun x=>∃ y r H2,(∀ c v,Rd x c v->Rd y c v)/\WkR Hin.length [(0,y)] H [(0,r)] H2/\K r H2) a w->∃ v,(results fn a.tmps).run P w = .ok v w/\∃ v' c' r H',Ending.returned v = .returned v'/\c'.w=w/\K r H'/\HS w0 M0 c' H'/\Ext c0 c'/\Rd r c' v'/\(false=true->Old c0.w w):=by
  rintro a w ⟨c,fr,H,rfl,h1,h2,h3,h4⟩
  obtain⟨x,v,⟨y,r,H2,o1,o2,o3⟩,q2,q3⟩:=Eg hT h2 h3 h1
  have hfr:FR (w0.at c0.w hs0.low) c 1 [(0,y)] { tmps:= #[v],defers:= [] }:=by
   refine⟨rfl,trivial,fun i=>?_⟩
   unfold fget
   cases i with
   | zero=>exact o1 _ _ q2
   | succ i=>show Rd .top c _;simp [Rd]
  obtain⟨c',e1,e2,e3,e4⟩:=o2.sound hs0.dom h2 hfr h4
  have hr':=e3.get 0
  refine⟨v,q3,v,c',r,H2,rfl,e1,o3,⟨LowF.ofAt e2.low,e2.base,e2.dom,e2.foreign,e2.lt,e2.blk,e2.own,e2.dis⟩,e4,?_,fun e=>by cases e⟩
  simpa [fget] using hr'
 refine DP hf hb trivial (Nat.le_refl _) fin ?_
 refine Bg (w0:=w0.at c0.w hs0.low) (M0:=M0) (ce:=c0) hT hs0.dom body _ _ c0 _ Hin _ (EJ rfl rfl fun _ _ _ h=>h) hs0.toAt hFR (Ext.refl _) h
def II (l:List Wr) (a:Int):Option Wr:=l.foldl (fun r w=>if w.addr=a then some w else r) none
theorem R_ (a:Int):II [] a=none:=rfl
theorem KZ (l:List Wr) (w:Wr) (a:Int):II (l ++ [w]) a=if w.addr=a then some w else II l a:=by simp [II]
theorem Jy {a:Int}:∀ (n:Nat) (l:List Wr),l.length=n->∀ i,i<l.length->(l.getD i ⟨0, []⟩).addr=a->(∀ j,i<j->j<l.length->(l.getD j ⟨0, []⟩).addr≠a)->II l a=some (l.getD i ⟨0, []⟩)
 | 0,l,hn,i,hi,_,_=>by omega
 | n+1,l,hn,i,hi,h1,h2=>by
  rcases List.eq_nil_or_concat l with rfl | ⟨m,w,rfl⟩
  ·simp at hn
  ·simp only [List.concat_eq_append] at *
   simp at hn hi
   rw [KZ]
   by_cases he:i=m.length
   ·subst he
    simp only [List.getD_eq_getElem?_getD,List.getElem?_append_right (Nat.le_refl _),Dc,List.getElem?_cons_zero,Bj] at h1 |-
    rw [if_pos h1]
   ·have hm:∀ j,j<m.length->(m ++ [w]).getD j ⟨0, []⟩=m.getD j ⟨0, []⟩:=fun j hj=>by simp only [List.getD_eq_getElem?_getD,List.getElem?_append_left hj]
    have hw:=h2 m.length (by omega) (by simp)
    simp only [List.getD_eq_getElem?_getD,List.getElem?_append_right (Nat.le_refl _),Dc,List.getElem?_cons_zero,Bj] at hw
    rw [if_neg hw,hm i (by omega)]
    rw [hm i (by omega)] at h1
    exact Jy n m hn i (by omega) h1 fun j q1 q2=>by rw [<-hm j q2];exact h2 j q1 (by simp;omega)
theorem Ij {a:Int}:∀ (n:Nat) (l:List Wr),l.length=n->(∀ j,j<l.length->(l.getD j ⟨0, []⟩).addr≠a)->II l a=none
 | 0,l,hn,_=>by rw [AU.1 hn];rfl
 | n+1,l,hn,h=>by
  rcases List.eq_nil_or_concat l with rfl | ⟨m,w,rfl⟩
  ·rfl
  ·simp only [List.concat_eq_append] at *
   simp at hn
   rw [KZ]
   have hw:=h m.length (by simp)
   simp only [List.getD_eq_getElem?_getD,List.getElem?_append_right (Nat.le_refl _),Dc,List.getElem?_cons_zero,Bj] at hw
   rw [if_neg hw]
   exact Ij n m hn fun j q=>by
    have:=h j (by simp;omega)
    simpa only [List.getD_eq_getElem?_getD,List.getElem?_append_left q] using this
def Dk.got (d:Dk) (a:Int):List UInt8 × Int:=
 match II d.cache a with
 | some w=>(w.bytes,0)
 | none=>if (d.cells.getD a.toNat ⟨0, [], []⟩).state=0 then ((d.cells.getD a.toNat ⟨0, [], []⟩).bytes,0) else ([],6)
def Dk.read (d:Dk) (a:Int):Dk × List UInt8 × Int:=if d.left=0 then (d, [],8) else (d.req,d.got a)

theorem TG (e:Int) (c:Ctx) (v:Value) (h:Rd (.tp [.v (.slice none 0 0), .v (.int .i64 e)]) c v):Rd (.tp [bA [], .v (.int .i64 e)]) c v:=by
 simp only [Rd,RdL] at h |-
 obtain⟨xs,rfl,y,ys,rfl,rfl,h⟩:=h
 exact⟨_,rfl,_,_,rfl,AP 1 (fun i=> [.v (.int .u8 (([]:List UInt8).getD i 0).toNat)]) c (.slice none 0 0) (by simp [Rd]),h⟩
theorem Mm {m:Nat} (h:Nat.ble 3 m=true):∀ z∈ [0,1,2],z<m:=fun z hz=>by
 have:=Ad h
 simp at hz
 omega
theorem Ux (hcl:∀ b:List UInt8,b.length<=1000000000->Fn Tryz.prog 102 [bA b] fun r=>r=bA b) (d:Dk) (a:Int) (hl : -1<=d.left/\d.left<=1048576) (ha:0<=a/\a<d.cells.length) (hc:d.cache.length<=2000) (hb:∀ c∈d.cells,c.bytes.length<=100000) (hw:∀ w∈d.cache,w.bytes.length<=100000) :
  ACalls Tryz.prog false 103 [.bp 0 0, .v (.int .i64 a)] (dkH d) fun r H=>r = .tp [bA (d.read a).2.1, .v (.int .i64 (d.read a).2.2)]/\H=dkH (d.read a).1:=by
 refine ACalls.ofO tys_ok Tryz.func103 rfl rfl (by show 2<=_;decide) ?_
 have hq:=Gp d hl
 conv=>whnf
 by_cases h0:d.left=0
 ·rw [if_pos h0] at hq
  refine ACalls.frame [0,1,2] hq rfl rfl rfl rfl (by decide) (Mm rfl) ⟨rfl,rfl,rfl,trivial⟩ ?_
  rintro _ _ ⟨rfl,rfl⟩
  rw [show decide (d.left≠0)=false by simp [h0]]
  exact⟨.tp [bA [], .v (.int .i64 8)],dkH d,TG 8,⟨rfl,rfl,rfl,trivial⟩,rfl,⟨rfl,rfl⟩,by simp [Dk.read,h0],by simp [Dk.read,h0]⟩
 ·rw [if_neg h0] at hq
  refine ACalls.frame [0,1,2] hq rfl rfl rfl rfl (by decide) (Mm rfl) ⟨rfl,rfl,rfl,trivial⟩ ?_
  rintro _ _ ⟨rfl,rfl⟩
  rw [show decide (d.left≠0)=true by simp [h0]]
  conv=>whnf
  refine(Pn (.ow 2 d.req.cache.length) _ (fun c u hu=>by simp only [Rd] at hu;obtain⟨_,_,⟨a,p,h,_⟩,_⟩:=hu;exact⟨_,_,_,h⟩)).mono ?_
  rintro _ _ ⟨rfl,rfl⟩
  conv=>whnf
  have hE:∀ i,i<d.cache.length->(d.cache.map DA).getD i []=DA (d.cache.getD i ⟨0, []⟩):=fun i hi=>Bh hi
  refine aRF.back tys_ok back_is (B:=6) (len:=d.cache.length) (E:=fun i=>(d.cache.map DA).getD i []) rfl rfl ⟨rfl,_,_,rfl,by simp [Dk.req],rfl⟩ (by omega) rfl (by decide) rfl [(3, .rp [.v (.int .i64 a)])] ⟨.inr ⟨3,_,_,rfl,rfl,rfl,rfl⟩,trivial⟩ (fun i=>decide ((d.cache.getD i ⟨0, []⟩).addr=a)) ?_ ?_ ?_
  ·intro i hi hh
   rw [hE i hi]
   refine⟨rfl,?_⟩
   have hh':(d.cache.getD i ⟨0, []⟩).addr≠a:=by simpa using hh
   conv=>whnf
   refine Al (fun h1=>?_) (fun h1=>?_) <;> (repeat rw [Aa] at h1) <;> conv=>whnf
   ·exact absurd h1 hh'
  ·intro i hi hh
   rw [hE i hi]
   refine⟨rfl,?_⟩
   have hh':(d.cache.getD i ⟨0, []⟩).addr=a:=by simpa using hh
   have hcw:=hcl (d.cache.getD i ⟨0, []⟩).bytes (by have:=hw _ (AE (d:=⟨0, []⟩) hi);omega)
   conv=>whnf
   refine Al (fun h1=>?_) (fun h1=>?_) <;> (repeat rw [Aa] at h1) <;> conv=>whnf
   ·refine Fn.cl hcw ?_
    conv=>whnf
    refine⟨by simp,rfl,fun hord=>?_⟩
    conv=>whnf
    have hg:d.got a=((d.cache.getD i ⟨0, []⟩).bytes,0):=by
     unfold Dk.got
     rw [Jy _ _ rfl i hi hh' fun j q1 q2=>by simpa using hord j q1 q2]
    exact⟨_,dkH d.req,fun _ _ h=>h,⟨rfl,rfl,rfl,trivial⟩,rfl,⟨rfl,rfl⟩,by simp [Dk.read,h0,hg,bA],by simp [Dk.read,h0]⟩
   ·exact absurd hh' h1
  ·intro hh
   have hg:d.got a=if (d.cells.getD a.toNat ⟨0, [], []⟩).state=0 then ((d.cells.getD a.toNat ⟨0, [], []⟩).bytes,0) else ([],6):=by
    unfold Dk.got
    rw [Ij _ _ rfl fun j q=>by simpa using hh j q]
   have hgc:(d.cells.map Bi).getD a.toNat []=Bi (d.cells.getD a.toNat ⟨0, [], []⟩):=Bh (by omega)
   have hgc':(d.req.cells.map Bi).getD a.toNat []=Bi (d.cells.getD a.toNat ⟨0, [], []⟩):=hgc
   have hcb:=hcl (d.cells.getD a.toNat ⟨0, [], []⟩).bytes (by have:=hb _ (AE (d:=⟨0, [], []⟩) (show a.toNat<d.cells.length by omega));omega)
   conv=>whnf
   refine aDraw.of tys_ok mixed [0,1,2,3,4,5,6,7,8,9] (by kernel_rfl) ?_
   refine⟨ha,?_⟩
   refine⟨⟨rfl,(Ab _).symm,show a.toNat<d.cells.length by omega⟩,?_⟩
   conv=>whnf
   first | rw [hgc] | rw [hgc']
   conv=>whnf
   refine Al (fun h1=>?_) (fun h1=>?_) <;> (repeat rw [Aa] at h1) <;> conv=>whnf
   ·rw [if_neg h1] at hg
    exact⟨.tp [bA [], .v (.int .i64 6)],dkH d.req,TG 6,⟨rfl,rfl,rfl,trivial⟩,rfl,⟨rfl,rfl⟩,by simp only [Dk.read,if_neg h0,hg],by simp only [Dk.read,if_neg h0]⟩
   ·refine Fn.cl hcb ?_
    conv=>whnf
    conv=>whnf
    rw [if_pos h1] at hg
    exact⟨_,dkH d.req,fun _ _ h=>h,⟨rfl,rfl,rfl,trivial⟩,rfl,⟨rfl,rfl⟩,by simp only [Dk.read,if_neg h0,hg,bA],by simp only [Dk.read,if_neg h0]⟩
def Dk.write (d:Dk) (a:Int) (b:List UInt8):Dk × Int:=
 if d.left=0 then (d,8) else if (d.cells.getD a.toNat ⟨0, [], []⟩).state=2\/(2000:Int)<=d.cache.length then (d.req,7) else ({ d.req with cache:=d.cache ++ [⟨a,b⟩] },0)

theorem Sz (hcl:∀ b:List UInt8,b.length<=1000000000->Fn Tryz.prog 102 [bA b] fun r=>r=bA b) (d:Dk) (a:Int) (b:List UInt8) (hl : -1<=d.left/\d.left<=1048576) (ha:0<=a/\a<d.cells.length) (hc:d.cache.length<=2000) (hb:b.length<=100000) :
  ACalls Tryz.prog false 196 [.bp 0 0, .v (.int .i64 a),bA b] (dkH d) fun r H=>r = .v (.int .i64 (d.write a b).2)/\H=dkH (d.write a b).1:=by
 refine ACalls.ofO tys_ok Tryz.func196 rfl rfl (by show 3<=_;decide) ?_
 have hq:=Gp d hl
 have hcb:=hcl b (by omega)
 conv=>whnf
 by_cases h0:d.left=0
 ·rw [if_pos h0] at hq
  refine hq.mono ?_
  rintro _ _ ⟨rfl,rfl⟩
  rw [show decide (d.left≠0)=false by simp [h0]]
  exact⟨_,dkH d,fun _ _ h=>h,⟨rfl,rfl,rfl,trivial⟩,rfl,⟨rfl,rfl⟩,by simp only [Dk.write,if_pos h0],by simp only [Dk.write,if_pos h0]⟩
 ·rw [if_neg h0] at hq
  refine hq.mono ?_
  rintro _ _ ⟨rfl,rfl⟩
  rw [show decide (d.left≠0)=true by simp [h0]]
  have hgc:(d.cells.map Bi).getD a.toNat []=Bi (d.cells.getD a.toNat ⟨0, [], []⟩):=Bh (by omega)
  have hgc':(d.req.cells.map Bi).getD a.toNat []=Bi (d.cells.getD a.toNat ⟨0, [], []⟩):=hgc
  refine⟨ha,?_⟩
  refine⟨⟨rfl,(Ab _).symm,show a.toNat<d.cells.length by omega⟩,?_⟩
  conv=>whnf
  first | rw [hgc] | rw [hgc']
  conv=>whnf
  refine Al (fun h1=>?_) (fun h1=>?_) <;> (repeat rw [Aa] at h1) <;> conv=>whnf
  ·exact⟨_,dkH d.req,fun _ _ h=>h,⟨rfl,rfl,rfl,trivial⟩,rfl,⟨rfl,rfl⟩,by simp only [Dk.write,if_neg h0,if_pos (Or.inl h1)],by simp only [Dk.write,if_neg h0,if_pos (Or.inl h1)]⟩
  ·by_cases h2:(2000:Int)<=d.cache.length
   ·rw [show decide ((d.req.cache.length:Int)>=2000)=true from decide_eq_true h2]
    exact⟨_,dkH d.req,fun _ _ h=>h,⟨rfl,rfl,rfl,trivial⟩,rfl,⟨rfl,rfl⟩,by simp only [Dk.write,if_neg h0,if_pos (Or.inr h2)],by simp only [Dk.write,if_neg h0,if_pos (Or.inr h2)]⟩
   ·rw [show decide ((d.req.cache.length:Int)>=2000)=false from decide_eq_false h2]
    have hc':d.req.cache.length<=2000:=hc
    have h3:¬((d.cells.getD a.toNat ⟨0, [], []⟩).state=2\/(2000:Int)<=d.cache.length):=fun h=>h.elim h1 h2
    conv=>whnf
    apply aDraw.tree tys_ok mixed (.one 0 (.one 1 (.one 2 (.one 3 (.one 4 (.one 5 (.one 6 (.one 7 (.one 8 (.one 9 (.one 10 (.one 11 (.one 12 (.one 13 (.one 14 (.one 15 .fin)))))))))))))))) [31,32,33,34,35,36,37,38,39,40,41,42,43,44,45] (by kernel_rfl)
    ·conv=>whnf
     refine Fn.cl hcb ?_
     conv=>whnf
     try (refine And.intro (by first | rfl | omega) ?_;conv=>whnf)
     try (refine And.intro (by first | omega | exact⟨by first | rfl | (simp;done) | (simp;omega),by omega⟩) ?_;conv=>whnf)
     try (refine And.intro ⟨rfl,by first | rfl | (simp;done) | (simp;omega),by first | omega | (simp;omega)⟩ ?_;conv=>whnf)
     exact⟨rfl,rfl⟩
    conv=>whnf
    have e:dkH { d.req with cache:=d.cache ++ [⟨a,b⟩] }=[.box 164 (Lx (.ow 1 d.cells.length) (.ow 2 (d.cache.length+1)) d.req.reqs d.req.left), .row 87 3 (d.cells.map Bi), .row 130 2 (d.cache.map DA ++ [DA ⟨a,b⟩])]:=by
     unfold dkH
     simp only [Ae,List.length_singleton,Aq,Ay,By]
     rfl
    refine⟨_,dkH { d.req with cache:=d.cache ++ [⟨a,b⟩] },fun _ _ h=>h,?_,rfl,⟨rfl,rfl⟩,by simp only [Dk.write,if_neg h0,if_neg h3],by simp only [Dk.write,if_neg h0,if_neg h3]⟩
    rw [e]
    exact⟨rfl,rfl,rfl,trivial⟩
def cz:Cel:=⟨0, [], []⟩
def Dk.fin (d:Dk) (w:Wr):Dk:=
 if (d.cells.getD w.addr.toNat cz).state=2 then d else { d with cells:=d.cells.set w.addr.toNat ⟨0,w.bytes,(d.cells.getD w.addr.toNat cz).bytes⟩ }

theorem U1 (d:Dk) (w:Wr) (ha:0<=w.addr/\w.addr<d.cells.length) :
  ACalls Tryz.prog false 98 [.bp 0 0, .ag (DA w)] (dkH d) fun r H=>r = .tp []/\H=dkH (d.fin w):=by
 refine ACalls.ofO tys_ok Tryz.func98 rfl rfl (by show 2<=_;decide) ?_
 have hgc:(d.cells.map Bi).getD w.addr.toNat []=Bi (d.cells.getD w.addr.toNat cz):=Bh (by omega)
 conv=>whnf
 refine aDraw.of tys_ok mixed [0,1,2,3,4,5,6,7,8] (by kernel_rfl) ?_
 refine⟨(show 0<=w.addr/\w.addr<d.cells.length from ha),?_⟩
 refine⟨⟨rfl,(Ab _).symm,show w.addr.toNat<d.cells.length by omega⟩,?_⟩
 conv=>whnf
 rw [hgc]
 conv=>whnf
 refine Al (fun h1=>?_) (fun h1=>?_) <;> (repeat rw [Aa] at h1) <;> conv=>whnf
 ·refine aDraw.of tys_ok mixed [0,1,2,3,4,5,6,7,8,9] (by kernel_rfl) ?_
  refine⟨⟨rfl,(Ab _).symm,show w.addr.toNat<d.cells.length by omega⟩,?_⟩
  conv=>whnf
  rw [hgc]
  refine⟨⟨rfl,(Ab _).symm,show w.addr.toNat<d.cells.length by omega⟩,?_⟩
  conv=>whnf
  rw [hgc]
  conv=>whnf
  have hmem:w.addr.toNat<d.cells.length:=by omega
  refine⟨_,dkH { d with cells:=d.cells.set w.addr.toNat ⟨0,w.bytes,(d.cells.getD w.addr.toNat cz).bytes⟩ },fun _ _ h=>h,?_,rfl,⟨rfl,rfl⟩,rfl,by simp only [Dk.fin,if_neg h1]⟩
  have e:dkH { d with cells:=d.cells.set w.addr.toNat ⟨0,w.bytes,(d.cells.getD w.addr.toNat cz).bytes⟩ }=[.box 164 (Lx (.ow 1 d.cells.length) (.ow 2 d.cache.length) d.reqs d.left), .row 87 3 ((d.cells.map Bi).set w.addr.toNat (Bi ⟨0,w.bytes,(d.cells.getD w.addr.toNat cz).bytes⟩)), .row 130 2 (d.cache.map DA)]:=by
   unfold dkH
   simp only [Bl,List.map_set]
  rw [e]
  exact⟨rfl,rfl,rfl,trivial⟩
 ·refine⟨_,dkH d,fun _ _ h=>h,⟨rfl,rfl,rfl,trivial⟩,rfl,⟨rfl,rfl⟩,rfl,by simp only [Dk.fin,if_pos h1]⟩
@[reducible] def dkF (d:Dk):List AB:= [.box 164 (Lx (.ow 1 d.cells.length) (.ow 3 0) d.reqs d.left), .row 87 3 (d.cells.map Bi), .dead, .row 130 2 []]
def Dk.allFin (d:Dk) (l:List Wr):Dk:=l.foldl Dk.fin d
theorem VP (d:Dk) (w:Wr):(d.fin w).cells.length=d.cells.length:=by unfold Dk.fin;split <;> simp
theorem Su (d:Dk) (w:Wr):(d.fin w).cache=d.cache/\(d.fin w).reqs=d.reqs/\(d.fin w).left=d.left:=by unfold Dk.fin;split <;> simp
theorem Iq (l:List Wr):∀ (d:Dk),(d.allFin l).cells.length=d.cells.length/\(d.allFin l).cache=d.cache/\(d.allFin l).reqs=d.reqs/\(d.allFin l).left=d.left:=by
 induction l with
 | nil=>intro d;exact⟨rfl,rfl,rfl,rfl⟩
 | cons w r ih=>
  intro d
  obtain⟨h1,h2,h3,h4⟩:=ih (d.fin w)
  have:=Su d w
  exact⟨h1.trans (VP d w),h2.trans this.1,h3.trans this.2.1,h4.trans this.2.2⟩
theorem Kb (d:Dk) {l:List Wr} {k:Nat} (h:k<l.length):d.allFin (l.take (k+1))=(d.allFin (l.take k)).fin (l.getD k ⟨0, []⟩):=by
 unfold Dk.allFin
 rw [Ba,List.foldl_append,List.getElem?_eq_getElem h]
 simp [List.getD_eq_getElem?_getD,List.getElem?_eq_getElem h]
def Dk.flush (d:Dk):Dk:={ d.req.allFin d.cache with cache:= [] }

theorem Qm (d:Dk) (hl : -1<=d.left/\d.left<=1048576) (h0:d.left=0) :
  ACalls Tryz.prog false 146 [.bp 0 0] (dkH d) fun r H=>r = .v (.int .i64 8)/\H=dkH d:=by
 refine ACalls.ofW tys_ok Tryz.func146 rfl rfl (by show 1<=_;decide) ?_
 have hq:=Gp d hl
 rw [if_pos h0,show decide (d.left≠0)=false by simp [h0]] at hq
 conv=>whnf
 refine hq.mono ?_
 rintro _ _ ⟨rfl,rfl⟩
 exact⟨_,_,dkH d,fun _ _ h=>h,⟨[],trivial,⟨rfl,trivial⟩,⟨rfl,rfl,rfl,trivial⟩,rfl,rfl,rfl⟩,rfl,rfl⟩
theorem S2 (d:Dk) (hl : -1<=d.left/\d.left<=1048576) (h0:d.left≠0) (hc:d.cache.length<=2000) (ha:∀ w∈d.cache,0<=w.addr/\w.addr<d.cells.length) :
  ACalls Tryz.prog false 146 [.bp 0 0] (dkH d) fun r H=>r = .v (.int .i64 0)/\H=dkF d.flush:=by
 refine ACalls.ofW tys_ok Tryz.func146 rfl rfl (by show 1<=_;decide) ?_
 have hq:=Gp d hl
 rw [if_neg h0,show decide (d.left≠0)=true by simp [h0]] at hq
 conv=>whnf
 refine hq.mono ?_
 rintro _ _ ⟨rfl,rfl⟩
 conv=>whnf
 have hE:∀ i,i<d.cache.length->(d.cache.map DA).getD i []=DA (d.cache.getD i ⟨0, []⟩):=fun i hi=>Bh hi
 refine aLoop.rule Nat (fun k=>([(0, .bp 0 0),(12, .ow 2 d.cache.length),(13, .v (.int .i64 d.cache.length)),(14, .v (.int .i64 k)),(2, .v (.int .i64 0))],dkH (d.req.allFin (d.cache.take k)))) (fun k=>k<=d.cache.length) (fun k=>d.cache.length - k) 0 (Ag _) ⟨[],trivial,⟨rfl,rfl,rfl,rfl,rfl,trivial⟩,⟨rfl,rfl,rfl,trivial⟩,rfl,rfl,rfl⟩ ?_
 rintro k hk
 have hall:=Iq (d.cache.take k) d.req
 have hnext:k<d.cache.length->d.req.allFin (d.cache.take (k+1))=(d.req.allFin (d.cache.take k)).fin (d.cache.getD k ⟨0, []⟩):=fun h=>Kb d.req h
 have hlast:k=d.cache.length->d.flush={ d.req.allFin (d.cache.take k) with cache:= [] }:=fun h=>by rw [h,List.take_length];rfl
 generalize d.req.allFin (d.cache.take k)=X at hall hnext hlast |-
 obtain⟨xc,xw,xr,xl⟩:=X
 simp only at hall
 obtain⟨q1,q2,q3,q4⟩:=hall
 have q2:xw=d.cache:=q2
 subst q2
 have q1':xc.length=d.cells.length:=q1
 conv=>whnf
 refine Al (fun h=>?_) (fun h=>?_) <;> (repeat rw [Aa] at h) <;> conv=>whnf
 ·have hd:=U1 ⟨xc,d.cache,xr,xl⟩ (d.cache.getD k ⟨0, []⟩) (by have:=ha _ (AE (d:=⟨0, []⟩) (show k<d.cache.length by omega));show _/\_<((xc.length:Nat):Int);rw [q1'];exact this)
  refine⟨⟨by omega,by omega⟩,?_⟩
  refine⟨⟨rfl,(Ab _).symm,by simpa using h⟩,?_⟩
  conv=>whnf
  rw [show ((k:Int)).toNat=k from Aa k,hE k (by omega)]
  conv=>whnf
  refine ACalls.frame [0,1,2] hd rfl rfl rfl rfl (by decide) (Mm rfl) ⟨rfl,rfl,rfl,trivial⟩ ?_
  rintro _ _ ⟨rfl,rfl⟩
  refine⟨k+1,by omega,by omega, [],trivial,⟨rfl,rfl,rfl,AA (by omega),rfl,trivial⟩,?_,rfl,rfl,rfl⟩
  rw [hnext (by omega)]
  exact⟨rfl,rfl,rfl,trivial⟩
 ·conv=>whnf
  have ek:k=d.cache.length:=by omega
  rw [hlast ek]
  exact⟨.v (.int .i64 0), .v (.int .i64 0),dkF { cells:=xc,cache:= [],reqs:=xr,left:=xl },fun _ _ h=>h,⟨[(1000001,130,2)],⟨rfl,rfl,trivial⟩,⟨rfl,trivial⟩,⟨rfl,rfl,rfl,trivial⟩,rfl,rfl,rfl⟩,rfl,rfl⟩
theorem RO (N:Nat) (hr:N<4294967296):Fn Tryz.prog 227 [.v (.int .i64 N)] fun r=>r = .v (.int .i64 (Fy N:Nat)):=by
 refine Fn.st Tryz.func227 rfl ?_
 refine⟨by decide,?_⟩
 conv=>whnf
 have ht:(N:Int).tmod 2=((N % 2:Nat):Int):=by rw [As (by omega)];omega
 have hd:IntKind.i64.wrap ((N:Int).tdiv 2)=((N / 2:Nat):Int):=by rw [Int.tdiv_eq_ediv_of_nonneg (by omega),wi (by omega)];omega
 by_cases h2:N % 2=1
 ·have hs:Fy N=N / 2 ^^^ 2197175160:=by unfold Fy;rw [if_pos h2];rfl
  rw [ht,h2,show (((1:Nat):Int) == 1)=true from rfl]
  refine⟨by decide,?_⟩
  conv=>whnf
  rw [hd]
  exact⟨_,ri,by rw [hs,<-QX (N / 2) 2197175160 (by omega) (by omega)];rfl⟩
 ·have h0:N % 2=0:=by omega
  have hs:Fy N=N / 2:=by unfold Fy;rw [if_neg h2,Nat.xor_zero]
  rw [ht,h0,show (((0:Nat):Int) == 1)=false from rfl]
  refine⟨by decide,?_⟩
  exact⟨_,ri,by rw [hs,hd]⟩
theorem PJ (r:Nat) (hr:r<4294967296):Fn Tryz.prog 207 [.v (.int .i64 r)] fun q=>q = .v (.int .i64 (EL r:Nat)):=by
 refine Fn.st Tryz.func207 rfl ?_
 conv=>whnf
 refine aLoop.ruleRR Nat (fun k=>([(0, .v (.int .i64 (stepsC k r:Nat))),(3, .v (.int .i64 k))], [])) (fun k=>k<=8) (fun k=>8 - k) 0 (Ag _)
  (WkN.r (s:= []) ⟨⟨rfl,rfl,trivial⟩,trivial,rfl,rfl,rfl,rfl,rfl⟩) ?_
 intro k hk
 conv=>whnf
 refine Al (fun h6=>?_) (fun h6=>?_) <;> (repeat rw [Aa] at h6) <;> conv=>whnf
 ·have hdn:=RO (stepsC k r) (stepsC_lt k hr)
  refine Fn.cl hdn ?_
  exact⟨k+1,by omega,by omega,WkN.r (s:= []) ⟨⟨rfl,AA (by omega),trivial⟩,trivial,rfl,rfl,rfl,rfl,rfl⟩⟩
 ·have ek:k=8:=by omega
  subst ek
  exact⟨_,ri,rfl⟩
theorem RF (b:List UInt8) (hb:b.length<=1000000000):Fn Tryz.prog 165 [.v (.int .i64 0),bA b] fun r=>r = .v (.int .i64 (Fx b:Nat)):=by
 refine Fn.st Tryz.func165 rfl ?_
 conv=>whnf
 rw [show IntKind.i64.wrap (4294967295 - 0)=4294967295 by decide]
 refine aLoop.ruleRR Nat (fun k=>([(1,bA b),(5, .v (.int .i64 (FC 4294967295 (b.take k):Nat))),(6, .v (.int .i64 k))], [])) (fun k=>k<=b.length) (fun k=>b.length - k) 0 (Ag _)
  (WkN.r (s:= []) ⟨⟨rfl,rfl,rfl,trivial⟩,trivial,rfl,rfl,rfl,rfl,rfl⟩) ?_
 intro k hk
 conv=>whnf
 refine Al (fun h6=>?_) (fun h6=>?_) <;> (repeat rw [Aa] at h6) <;> conv=>whnf
 ·have hk':k<b.length:=by omega
  have hst:=Li (r:=4294967295) hk'
  have hlt:=foldC_lt (b.take k) (r:=4294967295) (by omega)
  refine⟨⟨by omega,by omega⟩,?_⟩
  conv=>whnf
  have hb':b.getD (k:Int).toNat 0=b[k]:=by rw [Aa,List.getD_eq_getElem?_getD,List.getElem?_eq_getElem hk'];rfl
  have hy:=b[k].toNat_lt
  have hx:IntKind.i64.wrap ((BitVec.ofInt IntKind.i64.bits ((FC 4294967295 (b.take k):Nat):Int) ^^^ BitVec.ofInt IntKind.i64.bits (IntKind.i64.wrap ((b.getD (k:Int).toNat 0).toNat:Int))).toNat:Int)=((FC 4294967295 (b.take k) ^^^ b[k].toNat:Nat):Int):=by
   rw [hb',wi (n:=((b[k].toNat:Nat):Int)) (by omega)]
   exact QX _ _ hlt (by omega)
  rw [hx]
  have h8:=PJ _ (Ku hlt (show b[k].toNat<4294967296 by omega))
  rw [<-hst] at h8
  refine Fn.cl h8 ?_
  exact⟨k+1,hk',by omega,WkN.r (s:= []) ⟨⟨rfl,rfl,AA (by omega),trivial⟩,trivial,rfl,rfl,rfl,rfl,rfl⟩⟩
 ·have ek:k=b.length:=by omega
  subst ek
  have hlt:=foldC_lt b (r:=4294967295) (by omega)
  exact⟨_,ri,congrArg (fun n=>AV.v (.int .i64 n)) (by rw [List.take_length];unfold Fx;rw [wi (by omega)];omega)⟩
theorem Oc (b:List UInt8) (hb:b.length<=1000000000):Fn Tryz.prog 105 [bA b] fun r=>r = .v (.int .i64 (Fx b:Nat)):=by
 have h:=RF b hb
 refine Fn.st Tryz.func105 rfl ?_
 conv=>whnf
 refine Fn.cl h ?_
 exact⟨_,ri,rfl⟩
theorem AJ {α:Type} {f:α->List AV} {d:α} {sz:Nat} {es:List (List AV)} {n:Nat} (l:List α) (hn:n=l.length) (he:es=l.map f) (c:Ctx) (u:Value) (h:Rd (.sl sz n fun i=>es.getD i []) c u):Rd (.sl sz l.length fun i=>f (l.getD i d)) c u:=
 Rd.congr hn (fun i hi=>by rw [he,Bh (d:=d) (by omega)]) h
theorem S8 {n:Nat} {es:List (List AV)} (l:List UInt8) (hn:n=l.length) (he:es=l.map fun x=> [.v (.int .u8 x.toNat)]) (c:Ctx) (u:Value) (hr:Rd (.sl 1 n fun i=>es.getD i []) c u):Rd (bA l) c u:=
 AJ (f:=fun x:UInt8=> [.v (.int .u8 x.toNat)]) l hn he c u hr
theorem QD (L:List UInt8):((List.range L.length).map fun i=> [AV.v (Value.int IntKind.u8 ((L.getD i 0).toNat:Int))])=L.map EB:=by
 apply List.ext_getElem
 ·simp
 ·intro i h1 h2
  simp only [Ab,List.length_range] at h1
  simp [EB,List.getD_eq_getElem?_getD,List.getElem?_eq_getElem h1]
theorem Q2 {L:List UInt8} {n:Nat} {es:List (List AV)} (hn:n=L.length) (he:es=L.map EB) (c:Ctx) (v:Value) (h:Rd (.sl 1 n fun i=>es.getD i []) c v):Rd (bA L) c v:=AJ (f:=EB) L hn he c v h
theorem Rq (b:List UInt8) (hb:b.length<=1000000000):ACalls Tryz.prog false 62 [bA b] [] fun r H=>r = .ow 0 b.length/\H=[.row 5 1 (b.map EB)]:=by
 refine ACalls.ofC tys_ok Tryz.func62 rfl rfl (Ad rfl) ?_
 refine⟨hb,?_⟩
 exact⟨.ow 0 b.length, .ow 0 b.length, [.row 5 1 (b.map EB)],fun _ _ h=>h,Wk.conv ⟨[],trivial,⟨rfl,trivial⟩,⟨congrArg (AB.row 5 1) (QD b).symm,trivial⟩,rfl,rfl,rfl⟩,rfl,rfl⟩
theorem GK (l:List UInt8) (n:Int) (m:Nat) (hl:l.length<=1000000) (hn:0<=n/\n<=4294967295) (hm:m<=4):ACalls Tryz.prog false 148 [bA l, .v (.int .i64 n), .v (.int .i64 m)] [] fun r H=>r = .ow 0 (l ++ leB m n.toNat).length/\H=[.row 5 1 ((l ++ leB m n.toNat).map EB)]:=by
 have htw:=Rq l (by omega)
 obtain⟨q,rfl⟩:∃ q:Nat,n=q:=⟨n.toNat,by omega⟩
 rw [Aa]
 refine ACalls.ofC tys_ok Tryz.func148 rfl rfl (Ad rfl) ?_
 conv=>whnf
 refine ACalls.beside (htw) rfl ?_
 rintro _ _ ⟨rfl,rfl⟩
 conv=>whnf
 refine aLoop.ruleRR Nat (fun k=>([(1, .v (.int .i64 (q / 256 ^ k:Nat))),(2, .v (.int .i64 m)),(7, .ow 0 (l ++ leB k q).length),(8, .v (.int .i64 k))], [.row 5 1 ((l ++ leB k q).map EB)])) (fun k=>k<=m) (fun k=>m - k) 0 (Ag _)
  (WkN.r (s:= [0]) ⟨⟨congrArg (fun n:Nat=>AV.v (.int .i64 n)) (show q=q / 256 ^ 0 by simp),rfl,congrArg (fun n:Nat=>AV.ow 0 n) (show l.length=(l ++ leB 0 q).length by simp [leB]),rfl,trivial⟩,⟨show some (AB.row 5 1 (l.map EB))=some (AB.row 5 1 ((l ++ leB 0 q).map EB)) by simp [leB],trivial⟩,rfl,rfl,rfl,rfl,rfl⟩) ?_
 intro k hk
 have hstep:=leB_step k q
 have hq:q / 256 ^ k<=4294967295:=Bc (Nat.div_le_self _ _) (by omega)
 have hdiv:q / 256 ^ k / 256=q / 256 ^ (k+1):=by rw [Nat.div_div_eq_div_mul,Nat.pow_succ]
 have hlen:(l ++ leB k q).length<=1000004:=by rw [Ae,leB_len];omega
 generalize q / 256 ^ k=Q at hstep hq hdiv
 conv=>whnf
 refine Al (fun h6=>?_) (fun h6=>?_) <;> (repeat rw [Aa] at h6) <;> conv=>whnf
 ·refine⟨rfl,?_⟩
  refine⟨⟨by rw [Ab],by omega⟩,?_⟩
  refine⟨by decide,?_⟩
  conv=>whnf
  have htd:IntKind.i64.wrap ((Q:Int).tdiv 256)=((Q / 256:Nat):Int):=by rw [Int.tdiv_eq_ediv_of_nonneg (by omega),wi (by omega)];omega
  have hU : [[AV.v (Value.int IntKind.u8 (IntKind.u8.wrap (Q:Int)))]]=[UInt8.ofNat (Q % 256)].map EB:=by
   show _=[[AV.v (.int .u8 ((UInt8.ofNat (Q % 256)).toNat:Nat))]]
   rw [Bp (show Q % 256<256 by omega),IntKind.wrap_u8]
   rfl
  refine⟨k+1,by omega,by omega,WkN.r (s:= [0]) ⟨⟨congrArg (fun n:Int=>AV.v (.int .i64 n)) (by rw [htd,hdiv]),rfl,congrArg (fun n:Nat=>AV.ow 0 n) (show (l ++ leB k q).length+1=(l ++ leB (k+1) q).length by rw [hstep];simp;omega),AA (by omega),trivial⟩,⟨?_,trivial⟩,rfl,rfl,rfl,rfl,rfl⟩⟩
  rw [hstep,<-List.append_assoc,Aq,<-hU]
  rfl
 ·have ek:k=m:=by omega
  subst ek
  exact⟨.ow 0 (l ++ leB k q).length, .ow 0 (l ++ leB k q).length, [.row 5 1 ((l ++ leB k q).map EB)],fun _ _ h=>h,Wk.conv ⟨[],trivial,⟨rfl,trivial⟩,⟨rfl,trivial⟩,rfl,rfl,rfl⟩,rfl,rfl⟩
theorem MQ (l:List UInt8) (n m:Nat) (hl:l.length<=1000000) (hn:n<=4294967295) (hm:m<=4):Fn Tryz.prog 148 [bA l, .v (.int .i64 n), .v (.int .i64 m)] fun r=>r=bA (l ++ leB m n):=by
 refine ACalls.fn (GK l n m hl (by omega) hm) ?_
 rintro _ _ ⟨rfl,rfl⟩
 refine⟨_,ConvH.refl _,?_⟩
 refine And.intro (Ab _).symm ?_
 exact⟨bA (l ++ leB m n),Q2 rfl rfl,rfl⟩
theorem Eb (l:List UInt8) (n:Int) (m:Nat) (hl:l.length<=1000000) (hn:0<=n/\n<=4294967295) (hm:m<=4):Fn Tryz.prog 148 [bA l, .v (.int .i64 n), .v (.int .i64 m)] fun r=>r=bA (l ++ leB m n.toNat):=by
 have:=MQ l n.toNat m hl (by omega) hm
 rwa [B9 hn.1] at this
theorem KA (l:List UInt8) (hl:l.length<=255):ACalls Tryz.prog false 157 [bA l] [] fun r H=>r = .ow 0 (UInt8.ofNat l.length::l).length/\H=[.row 5 1 ((UInt8.ofNat l.length::l).map EB)]:=by
 refine ACalls.ofC tys_ok Tryz.func157 rfl rfl (Ad rfl) ?_
 refine⟨⟨rfl,by omega⟩,?_⟩
 conv=>whnf
 have e : [[AV.v (Value.int IntKind.u8 (IntKind.u8.wrap (l.length:Int)))]] ++ (List.range l.length).map (fun i=> [AV.v (Value.int IntKind.u8 ((l.getD i 0).toNat:Int))])=(UInt8.ofNat l.length::l).map EB:=by
  rw [QD,Ay,List.singleton_append,EB,Bp (show l.length<256 by omega),IntKind.wrap_u8]
  congr 4
  omega
 exact⟨.ow 0 (1+l.length), .ow 0 (1+l.length), [.row 5 1 ((UInt8.ofNat l.length::l).map EB)],fun _ _ h=>h,Wk.conv ⟨[],trivial,⟨rfl,trivial⟩,⟨congrArg (AB.row 5 1) e.symm,trivial⟩,rfl,rfl,rfl⟩,congrArg (AV.ow 0) (by rw [Ai];omega),rfl⟩
theorem R9 (addr stamp:Int) (p:List UInt8) (hok:WD addr stamp p):Fn Tryz.prog 150 [.ag [.v (.int .i64 addr), .v (.int .i64 stamp),bA p]] fun r=>r=bA (CD addr stamp p):=by
 obtain⟨q1,q2,q3,q4,q5⟩:=hok
 have hp:=KA p (by omega)
 have a1:=Eb (UInt8.ofNat p.length::p) addr 2 (by simp;omega) (by omega) (by decide)
 have a2:=Eb ((UInt8.ofNat p.length::p) ++ leB 2 addr.toNat) stamp 4 (by simp [leB_len];omega) (by omega) (by decide)
 have a3:=Oc ((UInt8.ofNat p.length::p) ++ leB 2 addr.toNat ++ leB 4 stamp.toNat) (by simp [leB_len];omega)
 have a4:=MQ ((UInt8.ofNat p.length::p) ++ leB 2 addr.toNat ++ leB 4 stamp.toNat) (Fx ((UInt8.ofNat p.length::p) ++ leB 2 addr.toNat ++ leB 4 stamp.toNat)) 4 (by simp [leB_len];omega) (by unfold Fx;omega) (by decide)
 have e:CD addr stamp p=(((UInt8.ofNat p.length::p) ++ leB 2 addr.toNat) ++ leB 4 stamp.toNat) ++ leB 4 (Fx (((UInt8.ofNat p.length::p) ++ leB 2 addr.toNat) ++ leB 4 stamp.toNat)):=rfl
 rw [e]
 refine Fn.st Tryz.func150 rfl ?_
 conv=>whnf
 apply aDraw.treeM (0) tys_ok mixed (.one 0 (.one 1 (.one 3 (.one 4 (.one 6 (.one 7 (.one 2 (.one 5 (.one 8 (.one 9 .fin)))))))))) [3,4,5,6,7,8,9,10,11,12] (by kernel_rfl)
 ·conv=>whnf
  (refine ACalls.beside hp rfl ?_;rintro _ _ ⟨rfl,rfl⟩)
  conv=>whnf
  (refine ACalls.shut a1.go ?_;(conv=>whnf);refine And.intro (Ab _).symm ?_;(conv=>whnf);refine ACalls.sub [bA (UInt8.ofNat p.length::p), .v (.int .i64 addr), .v (.int .i64 2)] ⟨Q2 rfl rfl,ri,ri,trivial⟩ ?_;refine Fn.cl a1 ?_)
  conv=>whnf
  refine Fn.cl a2 ?_
  exact⟨rfl,rfl⟩
 conv=>whnf
 conv=>whnf
 refine ACalls.sub [bA (UInt8.ofNat p.length::p ++ leB 2 addr.toNat ++ leB 4 stamp.toNat)] ⟨ri,trivial⟩ ?_
 refine Fn.cl a3 ?_
 conv=>whnf
 refine Fn.cl a4 ?_
 exact⟨_,ri,rfl⟩
theorem Hr (addr stamp:Int) (p:List UInt8) (hok:WD addr stamp p):Fn Tryz.prog 84 [.v (.int .i64 addr), .v (.int .i64 stamp),bA p] fun r=>r=bA (CD addr stamp p):=by
 have h:=R9 addr stamp p hok
 refine Fn.st Tryz.func84 rfl ?_
 conv=>whnf
 refine Fn.cl h ?_
 exact⟨_,ri,rfl⟩
end Go.Proofs.YtldngmdpiifamaaGreatDoor.A
end
section
namespace Go.Proofs.YtldngmdpiifamaaGreatDoor
open Go.RowKit
def Cv (b:List UInt8):Int:=
 if b.length<11\/107<b.length then 4
 else if leN (b.drop (b.length - 4))≠Fx (b.take (b.length - 4)) then 5
 else if E1 b=true/\BD b=b.length - 11 then 0 else 4
def CX (b:List UInt8):Int:=(leN ((b.drop (b.length - 10)).take 2):Nat)
def Cq (b:List UInt8):Int:=(leN ((b.drop (b.length - 8)).take 4):Nat)
def BU (b:List UInt8):List UInt8:=(b.drop 1).take (b.length - 11)
end Go.Proofs.YtldngmdpiifamaaGreatDoor
end
section
namespace Go.Proofs.YtldngmdpiifamaaGreatDoor.A
open Go.RowKit
def C_ (r:Rc) (a:An) (seq at_ of_ left:Int):Bool:=decide (r.kind≠0/\r.seq=seq/\r.at_=at_/\(of_=0->r.of_<=left)/\(of_≠0->r.of_=of_)/\(r.epoch=a.epoch\/seq<=a.last/\r.epoch<=a.epoch))
theorem Wg (r:Rc) (a:An) (seq at_ of_ left:Int):Fn Tryz.prog 238 [.ag (EE r), .ag (CE a), .v (.int .i64 seq), .v (.int .i64 at_), .v (.int .i64 of_), .v (.int .i64 left)] fun x=>x = .v (.bool (C_ r a seq at_ of_ left)):=by
 by_cases h1:(r.kind≠0/\r.seq=seq/\r.at_=at_/\(of_=0->r.of_<=left)/\(of_≠0->r.of_=of_)/\(r.epoch=a.epoch\/seq<=a.last/\r.epoch<=a.epoch))
 ·have e:C_ r a seq at_ of_ left=true:=decide_eq_true h1
  rw [e]
  refine Fn.st Tryz.func238 rfl ?_
  conv=>whnf
  repeat' (refine Af (fun h=>?_) (fun h=>?_) <;> simp at h <;> conv=>whnf)
  all_goals first | (exfalso;omega) | exact⟨_,ri,rfl⟩ | exact⟨_,ri,by simp;omega⟩
 ·have e:C_ r a seq at_ of_ left=false:=decide_eq_false h1
  rw [e]
  refine Fn.st Tryz.func238 rfl ?_
  conv=>whnf
  repeat' (refine Af (fun h=>?_) (fun h=>?_) <;> simp at h <;> conv=>whnf)
  all_goals first | (exfalso;omega) | exact⟨_,ri,rfl⟩ | exact⟨_,ri,by simp;omega⟩
theorem QE (r:Rc) (a:An) (seq at_ of_ left:Int):Fn Tryz.prog 214 [.ag (EE r), .ag (CE a), .v (.int .i64 seq), .v (.int .i64 at_), .v (.int .i64 of_), .v (.int .i64 left)] fun x=>x = .v (.bool (C_ r a seq at_ of_ left)):=by
 by_cases h1:(r.kind≠0/\r.seq=seq/\r.at_=at_/\(of_=0->r.of_<=left)/\(of_≠0->r.of_=of_)/\(r.epoch=a.epoch\/seq<=a.last/\r.epoch<=a.epoch))
 ·have e:C_ r a seq at_ of_ left=true:=decide_eq_true h1
  rw [e]
  refine Fn.st Tryz.func214 rfl ?_
  conv=>whnf
  repeat' (refine Af (fun h=>?_) (fun h=>?_) <;> simp at h <;> conv=>whnf)
  all_goals first | (exfalso;omega) | exact⟨_,ri,rfl⟩ | exact⟨_,ri,by simp;omega⟩
 ·have e:C_ r a seq at_ of_ left=false:=decide_eq_false h1
  rw [e]
  refine Fn.st Tryz.func214 rfl ?_
  conv=>whnf
  repeat' (refine Af (fun h=>?_) (fun h=>?_) <;> simp at h <;> conv=>whnf)
  all_goals first | (exfalso;omega) | exact⟨_,ri,rfl⟩ | exact⟨_,ri,by simp;omega⟩
theorem NQ (b:List UInt8):Fn Tryz.prog 132 [bA b] fun r=>r = .v (.int .i64 (Fx b:Nat)):=by
 refine⟨⟨_,Tryz.func132,rfl,by decide⟩,fun c0 us hd hM _ hr=>?_⟩
 obtain⟨u1,rfl,h1⟩:=Xd hr
 refine(LN u1 b c0.w c0.M (Gk h1)).mono ?_
 rintro e w' ⟨rfl,rfl⟩
 exact⟨_,_,rfl,rfl,Below.refl _ _,PR _⟩
theorem E5 {b:List UInt8} {n k:Nat} (hn:n=k) (hk:k<=b.length) (c:Ctx) (u:Value) (h:Rd (.sl 1 n fun i=> [.v (.int .u8 (b.getD (i+0) 0).toNat)]) c u):Rd (bA (b.take k)) c u:=
 Rd.congr (by rw [Ao];omega) (fun i hi=>by rw [List.getD_eq_getElem?_getD,List.getD_eq_getElem?_getD,List.getElem?_take_of_lt (by omega),BL]) h
theorem I0 (e:Int) (c:Ctx) (v:Value) (h:Rd (.tp [.ag [.v (.int .i64 0), .v (.int .i64 0), .v (.slice none 0 0)], .v (.int .i64 e)]) c v):Rd (.tp [.ag (ML ⟨0,0, []⟩), .v (.int .i64 e)]) c v:=by
 have e1:SubL [.ag [.v (.int .i64 0), .v (.int .i64 0), .v (.slice none 0 0)], .v (.int .i64 e)] [.ag (ML ⟨0,0, []⟩), .v (.int .i64 e)]:=⟨AG ⟨ri,ri,fun c u h=>AP 1 _ c u h,trivial⟩,ri,trivial⟩
 simp only [Rd] at h |-
 obtain⟨xs,rfl,h⟩:=h
 exact⟨_,rfl,e1.rdl (c:=c) (xs:=xs) (by simpa only [RdL,Rd] using h)⟩
theorem NR (b:List UInt8) (hl:b.length<=100000):Fn Tryz.prog 208 [bA b] fun r=>r = .tp [.ag (if Cv b=0 then ML ⟨CX b,Cq b,BU b⟩ else ML ⟨0,0, []⟩), .v (.int .i64 (Cv b))]:=by
 have e4:IntKind.i64.wrap ((b.length:Int) - 4)=(b.length:Int) - 4:=IntWalk.i64_in _ (by omega)
 have e11:IntKind.i64.wrap ((b.length:Int) - 11)=(b.length:Int) - 11:=IntWalk.i64_in _ (by omega)
 have em:((b.length:Int) - 4).toNat=b.length - 4:=by omega
 by_cases hB:b.length<11\/107<b.length
 ·have hE:Cv b=4:=by rw [Cv,if_pos hB]
  rw [hE,if_neg (by decide)]
  refine Fn.st Tryz.func208 rfl ?_
  conv=>whnf
  refine Al (fun h=>?_) (fun h=>?_) <;> conv=>whnf
  ·exact⟨_,I0 4,rfl⟩
  refine Al (fun h2=>?_) (fun h2=>?_) <;> conv=>whnf
  ·exact⟨_,I0 4,rfl⟩
  ·exfalso;omega
 have hg:=Ny (b.drop (b.length - 4)) 4 (.inr (.inr rfl)) (by rw [Ac];omega) (by rw [Ac];omega)
 rw [show (b.drop (b.length - 4)).take (4:Int).toNat=b.drop (b.length - 4) from List.take_of_length_le (by rw [Ac];show _<=4;omega)] at hg
 have hs:=NQ (b.take (b.length - 4))
 by_cases hS:leN (b.drop (b.length - 4))=Fx (b.take (b.length - 4))
 ·cases hp:E1 b with
  | false=>
   have hE:Cv b=4:=by rw [Cv,if_neg hB,if_neg (fun h=>h hS),hp];rfl
   rw [hE,if_neg (by decide)]
   refine Fn.st Tryz.func208 rfl ?_
   conv=>whnf
   refine Al (fun h=>?_) (fun h=>?_) <;> conv=>whnf
   ·exfalso;omega
   refine Al (fun h=>?_) (fun h=>?_) <;> conv=>whnf
   ·exfalso;omega
   rw [e4]
   refine⟨by omega,?_⟩
   conv=>whnf
   rw [em]
   refine ACalls.sub [bA (b.drop (b.length - 4)), .v (.int .i64 4)] ⟨A6 (by omega),ri,trivial⟩ ?_
   refine Fn.cl hg ?_
   refine⟨by omega,?_⟩
   conv=>whnf
   rw [em]
   refine ACalls.sub [bA (b.take (b.length - 4))] ⟨E5 (by omega) (by omega),trivial⟩ ?_
   refine Fn.cl hs ?_
   conv=>whnf
   refine Al (fun h=>?_) (fun h=>?_) <;> conv=>whnf
   ·exfalso;omega
   refine Fn.cl (LI b hp) ?_
   exact⟨_,I0 4,rfl⟩
  | true=>
   have hpp:=hp
   simp only [E1,decide_eq_true_eq] at hpp
   have hlen:((b.drop 1).take (BD b)).length=BD b:=by rw [Ao,Ac];omega
   by_cases hn:BD b=b.length - 11
   ·have hE:Cv b=0:=by rw [Cv,if_neg hB,if_neg (fun h=>h hS),if_pos ⟨hp,hn⟩]
    have hu:=EC (b.drop (1+BD b)) [2,4] (fun s h=>by simp at h;rcases h with rfl | rfl;exact .inr (.inl rfl);exact .inr (.inr rfl)) (by rw [Ac];omega) (by show 2<=1000;decide) (by rw [Ac];show 6<=_;omega)
    have hnum:nums [2,4] (b.drop (1+BD b))=[CX b,Cq b]:=by
     rw [CX,Cq,show b.length - 10=1+BD b by omega,show b.length - 8=(1+BD b)+2 by omega,show b.drop ((1+BD b)+2)=(b.drop (1+BD b)).drop 2 by rw [Aw]]
     rfl
    rw [hnum] at hu
    have hpay:BU b=(b.drop 1).take (BD b):=by rw [BU,hn]
    rw [hE,if_pos rfl,hpay]
    refine Fn.st Tryz.func208 rfl ?_
    conv=>whnf
    refine Al (fun h=>?_) (fun h=>?_) <;> conv=>whnf
    ·exfalso;omega
    refine Al (fun h=>?_) (fun h=>?_) <;> conv=>whnf
    ·exfalso;omega
    rw [e4]
    refine⟨by omega,?_⟩
    conv=>whnf
    rw [em]
    refine ACalls.sub [bA (b.drop (b.length - 4)), .v (.int .i64 4)] ⟨A6 (by omega),ri,trivial⟩ ?_
    refine Fn.cl hg ?_
    refine⟨by omega,?_⟩
    conv=>whnf
    rw [em]
    refine ACalls.sub [bA (b.take (b.length - 4))] ⟨E5 (by omega) (by omega),trivial⟩ ?_
    refine Fn.cl hs ?_
    conv=>whnf
    refine Al (fun h=>?_) (fun h=>?_) <;> conv=>whnf
    ·exfalso;omega
    refine Fn.cl (HP b (by omega) hp) ?_
    conv=>whnf
    rw [e11]
    refine Al (fun h=>?_) (fun h=>?_) <;> conv=>whnf
    ·exfalso;omega
    refine ACalls.shut hu.go ?_
    refine⟨rfl,?_⟩
    conv=>whnf
    refine ACalls.sub [bA (b.drop (1+BD b)),iA [2,4]] ⟨ri,(AT (l:= [2,4]) rfl).1,trivial⟩ ?_
    refine ACalls.beside (hu) rfl ?_
    rintro _ _ ⟨rfl,rfl⟩
    conv=>whnf
    refine aDraw.of tys_ok mixed [0,1,2,3,4,5,6,7,8,9] (by kernel_rfl) ?_
    refine⟨⟨by decide,by decide⟩,?_⟩
    refine⟨⟨rfl,rfl,by decide⟩,?_⟩
    refine⟨⟨by decide,by decide⟩,?_⟩
    refine⟨⟨rfl,rfl,by decide⟩,?_⟩
    exact⟨_,ri,rfl⟩
   ·have hE:Cv b=4:=by rw [Cv,if_neg hB,if_neg (fun h=>h hS),if_neg (fun h=>hn h.2)]
    rw [hE,if_neg (by decide)]
    refine Fn.st Tryz.func208 rfl ?_
    conv=>whnf
    refine Al (fun h=>?_) (fun h=>?_) <;> conv=>whnf
    ·exfalso;omega
    refine Al (fun h=>?_) (fun h=>?_) <;> conv=>whnf
    ·exfalso;omega
    rw [e4]
    refine⟨by omega,?_⟩
    conv=>whnf
    rw [em]
    refine ACalls.sub [bA (b.drop (b.length - 4)), .v (.int .i64 4)] ⟨A6 (by omega),ri,trivial⟩ ?_
    refine Fn.cl hg ?_
    refine⟨by omega,?_⟩
    conv=>whnf
    rw [em]
    refine ACalls.sub [bA (b.take (b.length - 4))] ⟨E5 (by omega) (by omega),trivial⟩ ?_
    refine Fn.cl hs ?_
    conv=>whnf
    refine Al (fun h=>?_) (fun h=>?_) <;> conv=>whnf
    ·exfalso;omega
    refine Fn.cl (HP b (by omega) hp) ?_
    conv=>whnf
    rw [e11]
    refine Al (fun h=>?_) (fun h=>?_) <;> conv=>whnf
    ·exact⟨_,I0 4,rfl⟩
    ·exfalso;omega
 ·have hE:Cv b=5:=by rw [Cv,if_neg hB,if_pos hS]
  rw [hE,if_neg (by decide)]
  refine Fn.st Tryz.func208 rfl ?_
  conv=>whnf
  refine Al (fun h=>?_) (fun h=>?_) <;> conv=>whnf
  ·exfalso;omega
  refine Al (fun h=>?_) (fun h=>?_) <;> conv=>whnf
  ·exfalso;omega
  rw [e4]
  refine⟨by omega,?_⟩
  conv=>whnf
  rw [em]
  refine ACalls.sub [bA (b.drop (b.length - 4)), .v (.int .i64 4)] ⟨A6 (by omega),ri,trivial⟩ ?_
  refine Fn.cl hg ?_
  refine⟨by omega,?_⟩
  conv=>whnf
  rw [em]
  refine ACalls.sub [bA (b.take (b.length - 4))] ⟨E5 (by omega) (by omega),trivial⟩ ?_
  refine Fn.cl hs ?_
  conv=>whnf
  refine Al (fun h=>?_) (fun h=>?_) <;> conv=>whnf
  ·exact⟨_,I0 5,rfl⟩
  ·exfalso;omega
theorem GO (k s e a o z w err:Int) (c:Ctx) (v:Value) (h:Rd (.tp [.ag [.v (.int .i64 k), .v (.int .i64 s), .v (.int .i64 e), .v (.int .i64 a), .v (.int .i64 o), .v (.int .i64 z), .v (.int .i64 w), .v (.slice none 0 0)], .v (.int .i64 err)]) c v) :
  Rd (.tp [.ag (EE ⟨k,s,e,a,o,⟨z,w, []⟩⟩), .v (.int .i64 err)]) c v:=by
 have e1:SubL [.ag [.v (.int .i64 k), .v (.int .i64 s), .v (.int .i64 e), .v (.int .i64 a), .v (.int .i64 o), .v (.int .i64 z), .v (.int .i64 w), .v (.slice none 0 0)], .v (.int .i64 err)] [.ag (EE ⟨k,s,e,a,o,⟨z,w, []⟩⟩), .v (.int .i64 err)]:=
  ⟨AG ⟨ri,ri,ri,ri,ri,ri,ri,fun c u h=>AP 1 _ c u h,trivial⟩,ri,trivial⟩
 simp only [Rd] at h |-
 obtain⟨xs,rfl,h⟩:=h
 have:=e1.rdl (c:=c) (xs:=xs) (by simpa only [RdL,Rd] using h)
 exact⟨_,rfl,this⟩
theorem szR_ok:∀ s∈szR,DX s:=by decide
theorem PK (g:Geo) (b:List UInt8) (hl:b.length<=100000):Fn Tryz.prog 240 [.ag (A7 g),bA b] fun r=>r = .tp [.ag (EE (if AS g then (C4 g b).getD zeroC else zeroC)), .v (.int .i64 (DK g b))]:=by
 have hG:Fn Tryz.prog 46 [.ag (A7 g)] fun r=>r = .v (Ed (AS g)):=Ct g.z g.d g.sp g.sl g.an
 cases hg:AS g with
 | false=>
  rw [hg] at hG
  rw [show DK g b=1 by rw [DK,if_pos hg]]
  refine Fn.st Tryz.func240 rfl ?_
  conv=>whnf
  refine Fn.cl hG ?_
  exact⟨_,GO _ _ _ _ _ _ _ _,rfl⟩
 | true=>
  rw [hg] at hG
  by_cases h11:11<=b.length
  ·have hu:=EC b szR szR_ok (by omega) (by show 5<=1000;decide) (show 11<=b.length from h11)
   obtain⟨K,S,E,A,O,hn,hP⟩:=TB b
   rw [hn] at hu
   refine Fn.st Tryz.func240 rfl ?_
   conv=>whnf
   refine Fn.cl hG ?_
   conv=>whnf
   refine ACalls.beside (sizes_own) rfl ?_
   rintro _ _ ⟨rfl,rfl⟩
   conv=>whnf
   refine ACalls.shut hu.go ?_
   refine⟨rfl,?_⟩
   conv=>whnf
   refine ACalls.sub [bA b,iA szR] ⟨ri,(AT (l:=szR) rfl).1,trivial⟩ ?_
   refine ACalls.beside (hu) rfl ?_
   rintro _ _ ⟨rfl,rfl⟩
   conv=>whnf
   refine aDraw.of tys_ok mixed [0,1,2,3,4,5,6,7,8,9,10,11,12,13,14,15,16,17] (by kernel_rfl) ?_
   refine⟨⟨by decide,by decide⟩,?_⟩
   refine⟨⟨rfl,rfl,by decide⟩,?_⟩
   refine⟨⟨by decide,by decide⟩,?_⟩
   refine⟨⟨rfl,rfl,by decide⟩,?_⟩
   refine⟨⟨by decide,by decide⟩,?_⟩
   refine⟨⟨rfl,rfl,by decide⟩,?_⟩
   refine⟨⟨by decide,by decide⟩,?_⟩
   refine⟨⟨rfl,rfl,by decide⟩,?_⟩
   refine⟨⟨by decide,by decide⟩,?_⟩
   refine⟨⟨rfl,rfl,by decide⟩,?_⟩
   conv=>whnf
   refine aSeq.go ?_
   conv=>whnf
   refine Al (fun h=>?_) (fun h=>?_) <;> conv=>whnf
   ·have hP1:CV b=⟨K,S,E,A,O,Ds (b.drop 11)⟩:=by rw [hP,if_pos h]
    cases hs:ER (b.drop 11) with
    | true=>
     have hb:=Hs g ⟨K,S,E,A,O,Ds (b.drop 11)⟩ (by have:=Sg (b.drop 11);rw [Ac] at this;show (Ds (b.drop 11)).bytes.length<=_;omega)
     have hq:=I_ (D6 ⟨K,S,E,A,O,Ds (b.drop 11)⟩) b
     have hRR:C4 g b=if DH g ⟨K,S,E,A,O,Ds (b.drop 11)⟩=true/\D6 ⟨K,S,E,A,O,Ds (b.drop 11)⟩=b then some ⟨K,S,E,A,O,Ds (b.drop 11)⟩ else none:=by
      rw [C4,hP1];simp [h11,hs]
     refine Fn.cl (Rx (b.drop 11) (by rw [Ac];omega) hs) ?_
     conv=>whnf
     cases hok:DH g ⟨K,S,E,A,O,Ds (b.drop 11)⟩ with
     | false=>
      rw [hok] at hb
      have hN:C4 g b=none:=by rw [hRR,if_neg (fun h=>by rw [hok] at h;cases h.1)]
      rw [show DK g b=4 by rw [DK,if_neg (by rw [hg];decide),hN];rfl,hN]
      refine Fn.cl hb ?_
      exact⟨_,GO _ _ _ _ _ _ _ _,rfl⟩
     | true=>
      rw [hok] at hb
      by_cases he:D6 ⟨K,S,E,A,O,Ds (b.drop 11)⟩=b
      ·have hN:C4 g b=some ⟨K,S,E,A,O,Ds (b.drop 11)⟩:=by rw [hRR,if_pos ⟨hok,he⟩]
       rw [show DK g b=0 by rw [DK,if_neg (by rw [hg];decide),hN];rfl,hN]
       rw [decide_eq_true he] at hq
       refine Fn.cl hb ?_
       conv=>whnf
       refine Fn.cl hq ?_
       exact⟨_,ri,rfl⟩
      ·have hN:C4 g b=none:=by rw [hRR,if_neg (fun h=>he h.2)]
       rw [show DK g b=4 by rw [DK,if_neg (by rw [hg];decide),hN];rfl,hN]
       rw [decide_eq_false he] at hq
       refine Fn.cl hb ?_
       conv=>whnf
       refine Fn.cl hq ?_
       exact⟨_,GO _ _ _ _ _ _ _ _,rfl⟩
    | false=>
     obtain⟨x,hx,hf⟩:=Ta (b.drop 11) (by rw [Ac];omega) hs
     have hN:C4 g b=none:=by rw [C4,if_neg (fun hh=>by have:=hh.2.1 (by rw [hP1];exact h);rw [hs] at this;cases this)]
     rw [show DK g b=4 by rw [DK,if_neg (by rw [hg];decide),hN];rfl,hN]
     have hb:=Hs g ⟨K,S,E,A,O,x⟩ (by show x.bytes.length<=_;rw [hx];decide)
     cases hok:DH g ⟨K,S,E,A,O,x⟩ <;> rw [hok] at hb
     all_goals
      refine Fn.cl hf ?_
      conv=>whnf
      refine Fn.cl hb ?_
      exact⟨_,GO _ _ _ _ _ _ _ _,rfl⟩
   ·have hP1:CV b=⟨K,S,E,A,O,noImg⟩:=by rw [hP,if_neg h]
    have hb:=Hs g ⟨K,S,E,A,O,noImg⟩ (by show 0<=100000;decide)
    have hq:=I_ (D6 ⟨K,S,E,A,O,noImg⟩) b
    have hRR:C4 g b=if DH g ⟨K,S,E,A,O,noImg⟩=true/\D6 ⟨K,S,E,A,O,noImg⟩=b then some ⟨K,S,E,A,O,noImg⟩ else none:=by
     rw [C4,hP1];simp [h11,h]
    refine ACalls.sub [.ag (A7 g), .ag (EE ⟨K,S,E,A,O,noImg⟩)] ⟨ri,AG ⟨ri,ri,ri,ri,ri,ri,ri,fun c u h=>AP 1 _ c u h,trivial⟩,trivial⟩ ?_
    cases hok:DH g ⟨K,S,E,A,O,noImg⟩ with
    | false=>
     rw [hok] at hb
     have hN:C4 g b=none:=by rw [hRR,if_neg (fun h=>by rw [hok] at h;cases h.1)]
     rw [show DK g b=4 by rw [DK,if_neg (by rw [hg];decide),hN];rfl,hN]
     refine Fn.cl hb ?_
     exact⟨_,GO _ _ _ _ _ _ _ _,rfl⟩
    | true=>
     rw [hok] at hb
     by_cases he:D6 ⟨K,S,E,A,O,noImg⟩=b
     ·have hN:C4 g b=some ⟨K,S,E,A,O,noImg⟩:=by rw [hRR,if_pos ⟨hok,he⟩]
      rw [show DK g b=0 by rw [DK,if_neg (by rw [hg];decide),hN];rfl,hN]
      rw [decide_eq_true he] at hq
      refine Fn.cl hb ?_
      conv=>whnf
      refine Fn.cl hq ?_
      exact⟨_,GO _ _ _ _ _ _ _ _,rfl⟩
     ·have hN:C4 g b=none:=by rw [hRR,if_neg (fun h=>he h.2)]
      rw [show DK g b=4 by rw [DK,if_neg (by rw [hg];decide),hN];rfl,hN]
      rw [decide_eq_false he] at hq
      refine Fn.cl hb ?_
      conv=>whnf
      refine Fn.cl hq ?_
      exact⟨_,GO _ _ _ _ _ _ _ _,rfl⟩
  ·have hu:=GA b szR szR_ok (by omega) (by show 5<=1000;decide) (show b.length<11 by omega)
   have hr:C4 g b=none:=by rw [C4,if_neg (fun h=>h11 h.1)]
   rw [show DK g b=4 by rw [DK,if_neg (by rw [hg];decide),hr];rfl,hr]
   refine Fn.st Tryz.func240 rfl ?_
   conv=>whnf
   refine Fn.cl hG ?_
   conv=>whnf
   refine ACalls.beside (sizes_own) rfl ?_
   rintro _ _ ⟨rfl,rfl⟩
   conv=>whnf
   refine ACalls.shut hu.go ?_
   refine⟨rfl,?_⟩
   conv=>whnf
   refine ACalls.sub [bA b,iA szR] ⟨ri,(AT (l:=szR) rfl).1,trivial⟩ ?_
   refine Fn.cl hu ?_
   exact⟨_,GO _ _ _ _ _ _ _ _,rfl⟩
theorem In (n lo hi:Int):Fn Tryz.prog 108 [.v (.int .i64 n), .v (.int .i64 lo), .v (.int .i64 hi)] fun r=>r = .v (.bool (BP n lo hi)):=by
 refine Fn.st Tryz.func108 rfl ?_
 conv=>whnf
 repeat' (first | (refine Af (fun h=>?_) (fun h=>?_) <;> (try simp at h) <;> conv=>whnf) | (refine aDraw.seq tys_ok mixed (by kernel_rfl) ?_;conv=>whnf) | (refine aSeq.go ?_;conv=>whnf) | (refine And.intro (by omega) ?_;conv=>whnf))
 all_goals exact⟨_,ri,by simp [BP, *] <;> omega⟩
theorem Hj (g:Geo) (n:Int) (b:Bool):Fn Tryz.prog 128 [.ag (A7 g), .v (.int .i64 n), .v (.bool b)] fun r=>r = .tp [.v (.int .i64 (if AS g&&b then n else 0)), .v (.int .i64 (if AS g&&b then 0 else 1))]:=by
 have s1:Fn Tryz.prog 46 [.ag (A7 g)] fun r=>r = .v (Ed (AS g)):=Ct g.z g.d g.sp g.sl g.an
 cases hg:AS g <;> cases b
 all_goals
  rw [hg] at s1
  refine Fn.st Tryz.func128 rfl ?_
  conv=>whnf
  refine Fn.cl s1 ?_
  exact⟨_,ri,rfl⟩
theorem Nq (g:Geo) (copy slot:Int):Fn Tryz.prog 68 [.ag (A7 g), .v (.int .i64 copy), .v (.int .i64 slot)] fun r=>r = .tp [.v (.int .i64 (if AS g&&Gh g copy slot then AN g copy slot else 0)), .v (.int .i64 (if AS g&&Gh g copy slot then 0 else 1))]:=by
 refine Fn.st Tryz.func68 rfl ?_
 conv=>whnf
 refine aDraw.of tys_ok mixed [0,1,2,3,4,5,6,7,8,9,10,11,12,13,14,15,16,17,18,19,20,21,22,23] (by kernel_rfl) ?_
 conv=>whnf
 refine Fn.cl (In _ _ _) ?_
 conv=>whnf
 refine Af (fun t1=>?_) (fun t1=>?_) <;> conv=>whnf
 ·refine Fn.cl (In _ _ _) ?_
  conv=>whnf
  refine Fn.cl (Hj g _ _) ?_
  refine⟨_,fun _ _ h=>h,?_⟩
  cases hg:AS g with
  | false=>rfl
  | true=>
   obtain⟨h1,h2,h3,h4,h5⟩:=Am.1 hg
   rw [wi (n:=g.sl - 1) (by omega)]
   have e:Gh g copy slot=BP slot 0 (g.sl - 1):=by rw [Gh,t1];rfl
   rw [e]
   cases hb:BP slot 0 (g.sl - 1) with
   | false=>rfl
   | true=>
    obtain⟨c1,c2⟩:=AI.1 t1
    obtain⟨b1,b2⟩:=AI.1 hb
    have hm:0<=copy*g.sl/\copy*g.sl<=30:=by
     rcases(show copy=0\/copy=1 by omega) with rfl | rfl
     ·omega
     ·omega
    rw [wi (n:=copy*g.sl) (by omega),wi (n:=g.an+copy*g.sl) (by omega),wi (n:=g.an+copy*g.sl+slot) (by omega)]
    rfl
 ·refine Fn.cl (Hj g _ _) ?_
  refine⟨_,fun _ _ h=>h,?_⟩
  have e:Gh g copy slot=false:=by rw [Gh,t1];rfl
  rw [e]
  cases AS g <;> rfl
def Cc (g:Geo) (x:Gt) (copy slot:Int):Option Rc:=
 if AS g&&Gh g copy slot&&decide (x.err=0)&&decide (Cv x.bytes=0)&&decide (CX x.bytes=AN g copy slot) then
  match C4 g (BU x.bytes) with
  | some r=>if r.seq=Cq x.bytes then some r else none
  | none=>none
 else none
theorem Bu {l m:List AV} (h:SubL l m) (c:Ctx) (u:Value) (hr:Rd (.tp l) c u):Rd (.tp m) c u:=by
 simp only [Rd] at hr |-
 obtain⟨xs,rfl,h1⟩:=hr
 exact⟨xs,rfl,h.rdl h1⟩
theorem DZ (c:Ctx) (u:Value) (b:Bool) (h:Rd (.tp [.ag [.v (.int .i64 0), .v (.int .i64 0), .v (.int .i64 0), .v (.int .i64 0), .v (.int .i64 0), .v (.int .i64 0), .v (.int .i64 0), .v (.slice none 0 0)], .v (.bool b)]) c u):Rd (.tp [.ag (EE zeroC), .v (.bool b)]) c u:=by
 refine Bu ?_ c u h
 exact⟨AG ⟨ri,ri,ri,ri,ri,ri,ri,AP _ _,trivial⟩,ri,trivial⟩
theorem Q6 (g:Geo) (x:Gt) (copy slot:Int) (hl:x.bytes.length<=100000):Fn Tryz.prog 237 [.ag (A7 g), .ag (BB x), .v (.int .i64 copy), .v (.int .i64 slot)] fun r=>r = .tp [.ag (EE ((Cc g x copy slot).getD zeroC)), .v (.bool (Cc g x copy slot).isSome)]:=by
 have s1:=Nq g copy slot
 have s2:=NR x.bytes hl
 cases hQ:AS g&&Gh g copy slot with
 | false=>
  have e:Cc g x copy slot=none:=by rw [Cc,hQ];rfl
  rw [hQ] at s1
  rw [e]
  refine Fn.st Tryz.func237 rfl ?_
  conv=>whnf
  refine Fn.cl s1 ?_
  exact⟨_,fun c v h=>DZ c v false h,rfl⟩
 | true=>
  rw [hQ] at s1
  have hg:AS g=true:=by simp at hQ;exact hQ.1
  by_cases hO:Cv x.bytes=0
  ·rw [if_pos hO,hO] at s2
   have s3:=PK g (BU x.bytes) (by simp [BU];omega)
   rw [hg,if_pos rfl] at s3
   refine Fn.st Tryz.func237 rfl ?_
   conv=>whnf
   refine Fn.cl s1 ?_
   conv=>whnf
   refine Af (fun t1=>?_) (fun t1=>?_) <;> simp only [bne_iff_ne,ne_eq,bne_eq_false_iff_eq] at t1 <;> conv=>whnf
   ·have e:Cc g x copy slot=none:=by rw [Cc,decide_eq_false t1];simp
    exact⟨_,fun c v h=>DZ c v false h,by rw [e];rfl⟩
   refine Fn.cl s2 ?_
   conv=>whnf
   refine Af (fun t2=>?_) (fun t2=>?_) <;> simp only [bne_iff_ne,ne_eq,bne_eq_false_iff_eq,if_true] at t2 <;> conv=>whnf
   ·have e:Cc g x copy slot=none:=by rw [Cc,decide_eq_false (p:=CX x.bytes=AN g copy slot) t2];simp
    exact⟨_,fun c v h=>DZ c v false h,by rw [e];rfl⟩
   have es:Cc g x copy slot=match C4 g (BU x.bytes) with | some r=>if r.seq=Cq x.bytes then some r else none | none=>none:=by
    rw [Cc,hQ,decide_eq_true t1,decide_eq_true hO,decide_eq_true (p:=CX x.bytes=AN g copy slot) t2];rfl
   cases hR:C4 g (BU x.bytes) with
   | none=>
    rw [hR] at s3 es
    have e4:DK g (BU x.bytes)=4:=by simp [DK,hg,hR]
    rw [e4] at s3
    refine Fn.cl s3 ?_
    conv=>whnf
    exact⟨_,fun c v h=>DZ c v false h,by rw [es];rfl⟩
   | some r=>
    rw [hR] at s3 es
    have e4:DK g (BU x.bytes)=0:=by simp [DK,hg,hR]
    rw [e4] at s3
    refine Fn.cl s3 ?_
    conv=>whnf
    refine Af (fun t3=>?_) (fun t3=>?_) <;> simp only [bne_iff_ne,ne_eq,bne_eq_false_iff_eq,Bj] at t3 <;> conv=>whnf
    ·exact⟨_,fun c v h=>DZ c v false h,by rw [es];simp only [if_neg t3];rfl⟩
    ·exact⟨_,ri,by rw [es];simp only [if_pos t3];rfl⟩
  ·have e:Cc g x copy slot=none:=by rw [Cc,decide_eq_false hO];simp
   rw [if_neg hO] at s2
   rw [e]
   refine Fn.st Tryz.func237 rfl ?_
   conv=>whnf
   refine Fn.cl s1 ?_
   conv=>whnf
   refine Af (fun t1=>?_) (fun t1=>?_) <;> conv=>whnf
   ·exact⟨_,fun c v h=>DZ c v false h,rfl⟩
   refine Fn.cl s2 ?_
   conv=>whnf
   refine Af (fun t2=>?_) (fun t2=>?_) <;> simp only [bne_iff_ne,ne_eq,bne_eq_false_iff_eq] at t2 <;> conv=>whnf
   ·exact⟨_,fun c v h=>DZ c v false h,rfl⟩
   ·exact absurd t2 hO
theorem Iz (addr stamp:Int) (p:List UInt8) (hok:WD addr stamp p):Fn Tryz.prog 73 [.ag [.v (.int .i64 addr), .v (.int .i64 stamp),bA p]] fun r=>r = .tp [bA (CD addr stamp p), .v (.int .i64 0)]:=by
 refine⟨⟨_,Tryz.func73,rfl,by decide⟩,fun c0 us hd hM _ hr=>?_⟩
 obtain⟨u,rfl,h⟩:=Xd hr
 simp only [Rd,RdL] at h
 obtain⟨xs,rfl,a,_,rfl,rfl,b,_,rfl,rfl,d,_,rfl,h3,rfl⟩:=h
 refine(TK addr stamp d p c0.w c0.M (Gk (by simpa only [Rd,bA] using h3)) hok).mono ?_
 rintro e w' ⟨q,rfl,ho,hB⟩
 exact⟨_,_,rfl,rfl,hB,Nj (TA ho hM) (PR _)⟩
theorem Ot (g:Geo) (x:Rc) (copy slot:Int) (hl:x.img.bytes.length<=100000):Fn Tryz.prog 69 [.ag (A7 g), .ag (EE x), .v (.int .i64 copy), .v (.int .i64 slot)] fun r=>r = .tp [bA (if DH g x&&Gh g copy slot then C6 g x copy slot else []), .v (Ed (DH g x&&Gh g copy slot))]:=by
 have hb:=Hs g x hl
 have hL:=Nq g copy slot
 have no:∀ (c:Ctx) (v:Value),Rd (.tp [.v (.slice none 0 0), .v (.int .i64 1)]) c v->Rd (.tp [bA [], .v (.int .i64 1)]) c v:=fun c v h=>by
  simp only [Rd,RdL] at h |-
  obtain⟨xs,rfl,y,ys,rfl,rfl,h⟩:=h
  exact⟨_,rfl,_,_,rfl,AP 1 (fun i=> [.v (.int .u8 (([]:List UInt8).getD i 0).toNat)]) c (.slice none 0 0) (by simp [Rd]),h⟩
 cases hok:DH g x with
 | false=>
  rw [hok] at hb
  refine Fn.st Tryz.func69 rfl ?_
  conv=>whnf
  refine Fn.cl hb ?_
  exact⟨_,no,rfl⟩
 | true=>
  have hg:AS g=true:=by simp only [DH,Bool.and_eq_true] at hok;exact hok.1
  rw [hok] at hb
  rw [hg] at hL
  cases hl2:Gh g copy slot with
  | false=>
   rw [hl2] at hL
   refine Fn.st Tryz.func69 rfl ?_
   conv=>whnf
   refine Fn.cl hb ?_
   conv=>whnf
   refine Fn.cl hL ?_
   exact⟨_,no,rfl⟩
  | true=>
   rw [hl2] at hL
   have h1:=Gx hg hl2
   have h2:=Ng hok
   have h3:=Eh hok
   have hm:=Iz (AN g copy slot) x.seq (D6 x) ⟨h1.1,h1.2,h2.1,h2.2,by omega⟩
   refine Fn.st Tryz.func69 rfl ?_
   conv=>whnf
   refine Fn.cl hb ?_
   conv=>whnf
   refine Fn.cl hL ?_
   conv=>whnf
   refine Fn.cl hm ?_
   exact⟨_,ri,rfl⟩
def Cs (g:Geo):Int:=g.d+1+g.sp
def A0 (g:Geo):Int:=g.an+2*g.sl+2*g.z+g.z*Cs g
def CC (g:Geo) (z k:Int):Int:=g.an+2*g.sl+2*z+k
def BI (g:Geo) (z s:Int):Int:=g.an+2*g.sl+2*g.z+z*Cs g+s
theorem GP {g:Geo} (hg:AS g=true):2<=Cs g/\Cs g<=7:=by
 obtain⟨h1,h2,h3,h4,h5⟩:=Am.1 hg
 unfold Cs;omega
theorem It {g:Geo} (hg:AS g=true) {z:Int} (hz:0<=z/\z<=4):0<=z*Cs g/\z*Cs g<=28:=by
 obtain⟨p1,p2⟩:=GP hg
 rcases(show z=0\/z=1\/z=2\/z=3\/z=4 by omega) with rfl | rfl | rfl | rfl | rfl <;> omega
theorem Pf {g:Geo} (hg:AS g=true):32<=A0 g/\A0 g<=99:=by
 obtain⟨h1,h2,h3,h4,h5⟩:=Am.1 hg
 obtain⟨p1,p2⟩:=GP hg
 have:=It hg (z:=g.z) (by omega)
 unfold A0
 rcases(show g.z=1\/g.z=2\/g.z=3\/g.z=4 by omega) with h | h | h | h <;> rw [h] at this |- <;> omega
theorem Lf (g:Geo) (hg:AS g=true):Fn Tryz.prog 136 [.ag (A7 g)] fun r=>r = .v (.int .i64 (g.an+2*g.sl)):=by
 obtain⟨h1,h2,h3,h4,h5⟩:=Am.1 hg
 refine Fn.st Tryz.func136 rfl ?_
 exact⟨_,ri,by rw [wi (n:=2*g.sl) (by omega),wi (by omega)]⟩
theorem Hx (g:Geo) (hg:AS g=true):Fn Tryz.prog 74 [.ag (A7 g)] fun r=>r = .v (.int .i64 (Cs g)):=by
 obtain⟨h1,h2,h3,h4,h5⟩:=Am.1 hg
 refine Fn.st Tryz.func74 rfl ?_
 conv=>whnf
 exact⟨_,ri,by rw [wi (n:=g.d+1) (by omega),wi (by omega)];rfl⟩
theorem Lg (g:Geo) (hg:AS g=true):Fn Tryz.prog 139 [.ag (A7 g)] fun r=>r = .v (.int .i64 (g.an+2*g.sl+2*g.z)):=by
 obtain⟨h1,h2,h3,h4,h5⟩:=Am.1 hg
 refine Fn.st Tryz.func139 rfl ?_
 conv=>whnf
 apply aDraw.tree tys_ok mixed (.one 0 (.one 2 (.one 3 (.one 4 (.one 1 (.one 5 (.one 6 .fin))))))) [2,3,4,5,6,7,8] (by kernel_rfl)
 ·conv=>whnf
  refine Fn.cl (Lf g hg) ?_
  exact⟨rfl,rfl⟩
 exact⟨_,ri,by rw [wi (n:=2*g.z) (by omega),wi (by omega)]⟩
theorem Qf (g:Geo) (hg:AS g=true):Fn Tryz.prog 129 [.ag (A7 g)] fun r=>r = .v (.int .i64 (A0 g)):=by
 obtain⟨h1,h2,h3,h4,h5⟩:=Am.1 hg
 have hz:=It hg (z:=g.z) (by omega)
 have hc:=Pf hg
 refine Fn.st Tryz.func129 rfl ?_
 conv=>whnf
 apply aDraw.tree tys_ok mixed (.one 0 (.one 2 (.one 3 (.one 4 (.one 1 (.one 5 (.one 6 (.one 7 (.one 8 .fin))))))))) [2,3,4,5,6,7,8,9,10] (by kernel_rfl)
 ·conv=>whnf
  refine Fn.cl (Lg g hg) ?_
  conv=>whnf
  refine Fn.cl (Hx g hg) ?_
  exact⟨rfl,rfl⟩
 conv=>whnf
 exact⟨_,ri,by rw [wi (n:=g.z*Cs g) (by omega),wi (by omega)];rfl⟩
theorem M3 (g:Geo) (hg:AS g=true):Fn Tryz.prog 64 [.ag (A7 g)] fun r=>r = .tp [.v (.int .i64 (A0 g)), .v (.int .i64 0)]:=by
 have ht:=Hj g (A0 g) true
 rw [hg] at ht
 refine Fn.st Tryz.func64 rfl ?_
 conv=>whnf
 apply aDraw.tree tys_ok mixed (.one 0 (.one 1 (.one 2 (.one 3 (.one 4 (.one 5 (.one 6 (.one 7 .fin)))))))) [2,3,4,5,6,7,8,9] (by kernel_rfl)
 ·conv=>whnf
  refine Fn.cl (Qf g hg) ?_
  conv=>whnf
  refine Fn.cl ht ?_
  exact⟨rfl,rfl⟩
 exact⟨_,ri,rfl⟩
theorem FB (g:Geo) (i:Int) (hg:AS g=true) (hi:0<=i/\i<g.an):Fn Tryz.prog 66 [.ag (A7 g), .v (.int .i64 i)] fun r=>r = .tp [.v (.int .i64 i), .v (.int .i64 0)]:=by
 obtain⟨h1,h2,h3,h4,h5⟩:=Am.1 hg
 have ht:=Hj g i true
 rw [hg] at ht
 have hw:IntKind.i64.wrap (g.an - 1)=g.an - 1:=wi (by omega)
 have hn:=In i 0 (IntKind.i64.wrap (g.an - 1))
 rw [show BP i 0 (IntKind.i64.wrap (g.an - 1))=true from AI.2 (by rw [hw];omega)] at hn
 refine Fn.st Tryz.func66 rfl ?_
 conv=>whnf
 apply aDraw.tree tys_ok mixed (.one 0 (.one 1 (.one 2 (.one 3 (.one 4 (.one 5 (.one 6 (.one 7 (.one 8 (.one 9 (.one 10 (.one 11 .fin)))))))))))) [4,5,6,7,8,9,10,11,12,13,14,15] (by kernel_rfl)
 ·conv=>whnf
  refine Fn.cl hn ?_
  conv=>whnf
  refine Fn.cl ht ?_
  exact⟨rfl,rfl⟩
 exact⟨_,ri,rfl⟩
theorem Sp (g:Geo) (z k:Int) (hg:AS g=true) (hz:0<=z/\z<g.z) (hk:0<=k/\k<=1):Fn Tryz.prog 72 [.ag (A7 g), .v (.int .i64 z), .v (.int .i64 k)] fun r=>r = .tp [.v (.int .i64 (CC g z k)), .v (.int .i64 0)]:=by
 obtain⟨h1,h2,h3,h4,h5⟩:=Am.1 hg
 have e:IntKind.i64.wrap (IntKind.i64.wrap (g.an+2*g.sl+IntKind.i64.wrap (2*z))+k)=CC g z k:=by
  rw [wi (n:=2*z) (by omega),wi (n:=g.an+2*g.sl+2*z) (by omega),wi (by omega)];rfl
 have ht:=Hj g (IntKind.i64.wrap (IntKind.i64.wrap (g.an+2*g.sl+IntKind.i64.wrap (2*z))+k)) true
 rw [hg] at ht
 have hw:IntKind.i64.wrap (g.z - 1)=g.z - 1:=wi (by omega)
 have hn:=In z 0 (IntKind.i64.wrap (g.z - 1))
 rw [show BP z 0 (IntKind.i64.wrap (g.z - 1))=true from AI.2 (by rw [hw];omega)] at hn
 have hn2:=In k 0 1
 rw [show BP k 0 1=true from AI.2 hk] at hn2
 refine Fn.st Tryz.func72 rfl ?_
 conv=>whnf
 apply aDraw.tree tys_ok mixed (.one 0 (.one 1 (.one 3 (.one 4 (.one 6 (.one 8 (.one 9 (.one 10 (.one 11 (.one 2 (.one 5 (.one 7 (.one 12 (.one 13 (.one 14 (.one 15 (.one 16 (.one 17 (.one 18 (.one 19 (.one 20 (.one 21 .fin)))))))))))))))))))))) [6,7,8,9,10,11,12,13,14,15,16,17,18,19,20,21,22,23,24,25,26,27] (by kernel_rfl)
 ·conv=>whnf
  refine Fn.cl (Lf g hg) ?_
  conv=>whnf
  refine Fn.cl hn ?_
  conv=>whnf
  refine Fn.cl hn2 ?_
  conv=>whnf
  refine Fn.cl ht ?_
  exact⟨rfl,rfl⟩
 conv=>whnf
 exact⟨_,ri,by simp only [Bool.and_self,if_true];rw [e]⟩
theorem Ud (g:Geo) (z s:Int) (hg:AS g=true) (hz:0<=z/\z<g.z) (hs:0<=s/\s<Cs g):Fn Tryz.prog 75 [.ag (A7 g), .v (.int .i64 z), .v (.int .i64 s)] fun r=>r = .tp [.v (.int .i64 (BI g z s)), .v (.int .i64 0)]:=by
 obtain⟨h1,h2,h3,h4,h5⟩:=Am.1 hg
 have hzp:=It hg (z:=z) (by omega)
 have hp:=GP hg
 have e:IntKind.i64.wrap (IntKind.i64.wrap (g.an+2*g.sl+2*g.z+IntKind.i64.wrap (z*Cs g))+s)=BI g z s:=by
  rw [wi (n:=z*Cs g) (by omega),wi (n:=g.an+2*g.sl+2*g.z+z*Cs g) (by omega),wi (by omega)];rfl
 have ht:=Hj g (IntKind.i64.wrap (IntKind.i64.wrap (g.an+2*g.sl+2*g.z+IntKind.i64.wrap (z*Cs g))+s)) true
 rw [hg] at ht
 have hw:IntKind.i64.wrap (g.z - 1)=g.z - 1:=wi (by omega)
 have hn:=In z 0 (IntKind.i64.wrap (g.z - 1))
 rw [show BP z 0 (IntKind.i64.wrap (g.z - 1))=true from AI.2 (by rw [hw];omega)] at hn
 have hw2:IntKind.i64.wrap (Cs g - 1)=Cs g - 1:=wi (by omega)
 have hn2:=In s 0 (IntKind.i64.wrap (Cs g - 1))
 rw [show BP s 0 (IntKind.i64.wrap (Cs g - 1))=true from AI.2 (by rw [hw2];omega)] at hn2
 refine Fn.st Tryz.func75 rfl ?_
 conv=>whnf
 apply aDraw.tree tys_ok mixed (.one 0 (.one 1 (.one 3 (.one 4 (.one 8 (.one 10 (.one 11 (.one 12 (.one 13 (.one 2 (.one 5 (.one 6 (.one 7 (.one 9 (.one 14 (.one 15 (.one 16 (.one 17 (.one 18 (.one 19 (.one 20 (.one 21 (.one 22 (.one 23 (.one 24 (.one 25 (.one 26 .fin))))))))))))))))))))))))))) [6,7,8,9,10,11,12,13,14,15,16,17,18,19,20,21,22,23,24,25,26,27,28,29,30,31,32] (by kernel_rfl)
 ·conv=>whnf
  refine Fn.cl (Lg g hg) ?_
  conv=>whnf
  refine Fn.cl (Hx g hg) ?_
  conv=>whnf
  refine Fn.cl hn ?_
  conv=>whnf
  refine Fn.cl (Hx g hg) ?_
  conv=>whnf
  refine Fn.cl hn2 ?_
  conv=>whnf
  refine Fn.cl ht ?_
  exact⟨rfl,rfl⟩
 conv=>whnf
 exact⟨_,ri,by simp only [Bool.and_self,if_true];rw [e]⟩
theorem MR (g:Geo) (hg:AS g=true):Fn Tryz.prog 85 [.ag (A7 g)] fun r=>r = .v (.int .i64 (Cs g)):=by
 obtain⟨h1,h2,h3,h4,h5⟩:=Am.1 hg
 refine Fn.st Tryz.func85 rfl ?_
 conv=>whnf
 exact⟨_,ri,by rw [wi (n:=g.d+1) (by omega),wi (by omega)];rfl⟩
theorem KI (g:Geo) (hg:AS g=true):Fn Tryz.prog 79 [.ag (A7 g)] fun r=>r = .v (.int .i64 (A0 g)):=by
 obtain⟨h1,h2,h3,h4,h5⟩:=Am.1 hg
 have hz:=It hg (z:=g.z) (by omega)
 have hc:=Pf hg
 refine Fn.st Tryz.func79 rfl ?_
 conv=>whnf
 apply aDraw.tree tys_ok mixed (.one 0 (.one 1 (.one 2 (.one 3 (.one 4 (.one 5 (.one 6 (.one 7 (.one 8 (.one 9 (.one 10 (.one 11 (.one 12 (.one 13 (.one 14 (.one 15 (.one 16 .fin))))))))))))))))) [2,3,4,5,6,7,8,9,10,11,12,13,14,15,16,17,18] (by kernel_rfl)
 ·conv=>whnf
  refine Fn.cl (MR g hg) ?_
  exact⟨rfl,rfl⟩
 conv=>whnf
 exact⟨_,ri,by rw [wi (n:=g.z*Cs g) (by omega),wi (n:=2*g.sl) (by omega),wi (n:=2*g.z) (by omega),wi (n:=g.an+2*g.sl) (by omega),wi (n:=g.an+2*g.sl+2*g.z) (by omega),wi (by omega)];rfl⟩
theorem R7 (g:Geo) (z k:Int) (hg:AS g=true) (hz:0<=z/\z<g.z) (hk:0<=k/\k<=1):Fn Tryz.prog 83 [.ag (A7 g), .v (.int .i64 z), .v (.int .i64 k)] fun r=>r = .v (.int .i64 (CC g z k)):=by
 obtain⟨h1,h2,h3,h4,h5⟩:=Am.1 hg
 refine Fn.st Tryz.func83 rfl ?_
 conv=>whnf
 exact⟨_,ri,by rw [wi (n:=2*g.sl) (by omega),wi (n:=2*z) (by omega),wi (n:=g.an+2*g.sl) (by omega),wi (n:=g.an+2*g.sl+2*z) (by omega),wi (by omega)];rfl⟩
theorem Tj (g:Geo) (z s:Int) (hg:AS g=true) (hz:0<=z/\z<g.z) (hs:0<=s/\s<Cs g):Fn Tryz.prog 86 [.ag (A7 g), .v (.int .i64 z), .v (.int .i64 s)] fun r=>r = .v (.int .i64 (BI g z s)):=by
 obtain⟨h1,h2,h3,h4,h5⟩:=Am.1 hg
 have hzp:=It hg (z:=z) (by omega)
 have hp:=GP hg
 refine Fn.st Tryz.func86 rfl ?_
 conv=>whnf
 apply aDraw.tree tys_ok mixed (.one 0 (.one 1 (.one 2 (.one 3 (.one 4 (.one 5 (.one 6 (.one 7 (.one 8 (.one 9 (.one 10 (.one 11 (.one 15 (.one 12 (.one 13 (.one 14 (.one 16 (.one 17 .fin)))))))))))))))))) [6,7,8,9,10,11,12,13,14,15,16,17,18,19,20,21,22,23] (by kernel_rfl)
 ·conv=>whnf
  refine Fn.cl (MR g hg) ?_
  exact⟨rfl,rfl⟩
 conv=>whnf
 exact⟨_,ri,by rw [wi (n:=z*Cs g) (by omega),wi (n:=2*g.sl) (by omega),wi (n:=2*g.z) (by omega),wi (n:=g.an+2*g.sl) (by omega),wi (n:=g.an+2*g.sl+2*g.z) (by omega),wi (n:=g.an+2*g.sl+2*g.z+z*Cs g) (by omega),wi (by omega)];rfl⟩
theorem UF (a:An):rowB (J6 a) szA=leB 4 a.gen.toNat ++ (leB 4 a.epoch.toNat ++ (leB 4 a.seq.toNat ++ (leB 4 a.last.toNat ++ leB 1 a.pos.toNat))):=by
 simp [rowB,J6,szA]
theorem Vr (g:Geo) (a:An) (hg:AS g=true) (ha:AY g a=true):Fn Tryz.prog 147 [.ag (CE a)] fun r=>r=bA (Ir a):=by
 obtain⟨g1,g2,g3,g4,g5⟩:=Am.1 hg
 obtain⟨q1,q2,q3,q4,q5⟩:=Db hg ha 0 (Ag _)
 have ha0:=ha
 simp only [AY,Bool.and_eq_true,decide_eq_true_eq,Bn,Ck,B7,AI,A4] at ha
 obtain⟨⟨w1,w2,w3,w4⟩,_,_,w5,_,_,_⟩:=ha
 have p1:=Eb [] a.gen 4 (by simp) w1 (by decide)
 have p2:=Eb (leB 4 a.gen.toNat) a.epoch 4 (by rw [leB_len];decide) w2 (by decide)
 have p3:=Eb (leB 4 a.gen.toNat ++ leB 4 a.epoch.toNat) a.seq 4 (by simp [leB_len]) w3 (by decide)
 have p4:=Eb (leB 4 a.gen.toNat ++ leB 4 a.epoch.toNat ++ leB 4 a.seq.toNat) a.last 4 (by simp [leB_len]) w4 (by decide)
 have p5:=GK (leB 4 a.gen.toNat ++ leB 4 a.epoch.toNat ++ leB 4 a.seq.toNat ++ leB 4 a.last.toNat) a.pos 1 (by simp [leB_len]) (by omega) (by decide)
 have hlb:=Ts a.label (by omega)
 refine Fn.st Tryz.func147 rfl ?_
 conv=>whnf
 refine ACalls.sub [bA [], .v (.int .i64 a.gen), .v (.int .i64 4)] ⟨AP 1 _,ri,ri,trivial⟩ ?_
 refine Fn.cl p1 ?_
 conv=>whnf
 refine Fn.cl p2 ?_
 conv=>whnf
 refine Fn.cl p3 ?_
 conv=>whnf
 refine Fn.cl p4 ?_
 conv=>whnf
 apply aDraw.treeK (0) tys_ok mixed (.one 0 (.one 1 (.one 2 (.one 4 (.one 5 (.one 3 (.one 6 (.one 7 (.one 8 .fin))))))))) (by kernel_rfl)
 conv=>whnf
 (refine ACalls.beside p5 rfl ?_;rintro _ _ ⟨rfl,rfl⟩)
 conv=>whnf
 refine Fn.cl hlb ?_
 conv=>whnf
 try (refine And.intro (by first | rfl | omega) ?_;conv=>whnf)
 try (refine And.intro (by first | omega | exact⟨by first | rfl | (simp;done) | (simp;omega),by omega⟩) ?_;conv=>whnf)
 have eR:leB 4 a.gen.toNat ++ leB 4 a.epoch.toNat ++ leB 4 a.seq.toNat ++ leB 4 a.last.toNat ++ leB 1 a.pos.toNat=rowB (J6 a) szA:=by rw [UF];simp
 rw [eR]
 have hr17:(rowB (J6 a) szA).length=17:=tot_rowB _ _ rfl
 refine And.intro ⟨by simp,by rw [hr17,F7];omega⟩ ?_
 conv=>whnf
 have e0:(rowB (J6 a) szA).map EB ++ ((List.range (Gd a.label).length).map fun i=> [AV.v (Value.int IntKind.u8 (((Gd a.label).getD i 0).toNat:Int))])=(FI a 0).map EB:=by
  rw [Pi,<-Aq];simp [FI]
 have e1:(rowB (J6 a) szA).length+(Gd a.label).length=(FI a 0).length:=by simp [FI]
 refine aLoop.ruleR Nat (fun k=>([(1, .bp 0 0),(3, .ow 1 (FI a k).length),(4, .v (.int .i64 k))], [.box 40 (CE a), .row 5 1 ((FI a k).map EB)])) (fun k=>k<=a.homes.length) (fun k=>a.homes.length - k) 0 (Ag _)
  (Wk.conv ⟨[],trivial,⟨rfl,congrArg (AV.ow 1) e1,rfl,trivial⟩,⟨rfl,congrArg (AB.row _ _) e0.symm,trivial⟩,rfl,rfl,rfl⟩) ?_
 intro k hk
 conv=>whnf
 refine Al (fun h6=>?_) (fun h6=>?_) <;> (repeat rw [Aa] at h6) <;> conv=>whnf
 ·have hk':k<a.homes.length:=by omega
  have hh4:=q5 _ (AE (d:=(⟨[],0,0⟩:Hm)) hk')
  obtain⟨f1,f2,f3,f4,f5⟩:=Le hg hh4
  have hst:=MG a k hk'
  have hB:=(Db hg ha0 k hk).1
  have hB2:=(Db hg ha0 (k+1) hk').1
  obtain⟨h,hh⟩:∃ h,h=a.homes.getD k ⟨[],0,0⟩:=⟨_,rfl⟩
  rw [<-hh] at hh4 f1 f2 f3 f4 f5 hst
  generalize hX:FI a k=X at hst hB |-
  have hlm:(L5 h).length=h.places.length+5:=by rw [IP,tot_rowB _ _ (by rw [Ae,EQ];rfl),EP]
  rw [hst,Ae,hlm] at hB2
  refine aLoop.ruleR Nat (fun j=>([(1, .bp 0 0),(3, .ow 1 (X ++ Nb (h.places.take j)).length),(4, .v (.int .i64 k)),(5, .v (.int .i64 j))], [.box 40 (CE a), .row 5 1 ((X ++ Nb (h.places.take j)).map EB)])) (fun j=>j<=h.places.length) (fun j=>h.places.length - j) 0 (Ag _)
   (Wk.conv ⟨[],trivial,⟨rfl,congrArg (fun l=>AV.ow 1 (List.length l)) (List.append_nil X).symm,rfl,rfl,trivial⟩,⟨rfl,congrArg (fun l=>AB.row _ _ (List.map EB l)) (List.append_nil X),trivial⟩,rfl,rfl,rfl⟩) ?_
  intro j hj
  conv=>whnf
  have hgk:a.homes.getD (k:Int).toNat ⟨[],0,0⟩=h:=by rw [Aa,hh]
  refine⟨by first | omega | (refine⟨rfl,?_,?_⟩ <;> first | omega | (simp only [Ab];done) | (simp only [Ab];omega)) | (simp only [Ab];omega),?_⟩
  conv=>whnf
  rw [hgk]
  refine Al (fun h7=>?_) (fun h7=>?_) <;> (repeat rw [Aa] at h7) <;> conv=>whnf
  ·refine⟨by first | omega | (refine⟨rfl,?_,?_⟩ <;> first | omega | (simp only [Ab];done) | (simp only [Ab];omega)) | (simp only [Ab];omega),?_⟩
   conv=>whnf
   rw [hgk]
   refine⟨by first | omega | (refine⟨rfl,?_,?_⟩ <;> first | omega | (simp only [Ab];done) | (simp only [Ab];omega)) | (simp only [Ab];omega),?_⟩
   conv=>whnf
   rw [Aa]
   have hj':j<h.places.length:=by omega
   have hp:=f2 _ (AE (d:=(0:Int)) hj')
   have hpl:=Kn (h.places.take j)
   have hps:=Ox h.places j hj'
   have hput:=GK (X ++ Nb (h.places.take j)) (h.places.getD j 0) 1 (by rw [Ae,hpl,Ao];omega) (by omega) (by decide)
   rw [List.append_assoc,<-hps] at hput
   refine ACalls.shut (hput).go ?_
   conv=>whnf
   repeat' (refine And.intro (by first | rfl | omega | (simp;done) | (simp only [Ab];omega) | (simp;omega)) ?_;conv=>whnf)
   refine ACalls.sub [bA (X ++ Nb (h.places.take j)), .v (.int .i64 (h.places.getD j 0)), .v (.int .i64 1)] ⟨L0 rfl rfl,ri,ri,trivial⟩ ?_
   refine ACalls.beside (hput) rfl ?_
   rintro _ _ ⟨rfl,rfl⟩
   refine⟨j+1,by omega,by omega,WkN.r (s:= [0,2]) ⟨⟨rfl,rfl,rfl,AA (by omega),trivial⟩,⟨rfl,rfl,trivial⟩,rfl,rfl,rfl,rfl,rfl⟩⟩
  ·have ej:j=h.places.length:=by omega
   subst ej
   have hpl:=Kn (h.places.take h.places.length)
   rw [List.take_length] at hpl |-
   have hp1:=Eb (X ++ Nb h.places) h.next 1 (by rw [Ae,hpl];omega) (by omega) (by decide)
   have hp2:=GK (X ++ Nb h.places ++ leB 1 h.next.toNat) h.root 4 (by rw [Ae,Ae,hpl,leB_len];omega) (by omega) (by decide)
   have eY:X ++ Nb h.places ++ leB 1 h.next.toNat ++ leB 4 h.root.toNat=X ++ L5 h:=by simp [L5,rowB]
   rw [eY] at hp2
   apply aDraw.treeK (0) tys_ok mixed (.one 0 (.one 1 (.one 2 (.one 3 (.one 4 (.one 5 (.one 6 (.one 8 (.one 9 (.one 10 (.one 11 (.one 12 (.one 13 (.one 7 (.one 14 (.one 15 .fin)))))))))))))))) (by kernel_rfl)
   conv=>whnf
   try (refine And.intro (by first | omega | (simp;done)) ?_;conv=>whnf)
   try (refine And.intro (by first | omega | (simp;done)) ?_;conv=>whnf)
   (rw [hgk];refine ACalls.shut hp1.go ?_;(conv=>whnf);refine And.intro (by simp) ?_;(conv=>whnf);refine ACalls.sub [bA (X ++ Nb h.places), .v (.int .i64 h.next), .v (.int .i64 1)] ⟨L0 rfl rfl,ri,ri,trivial⟩ ?_;refine Fn.cl hp1 ?_)
   conv=>whnf
   (refine ACalls.beside hp2 rfl ?_;rintro _ _ ⟨rfl,rfl⟩)
   refine⟨k+1,hk',by omega,WkN.r (s:= [0,2]) ⟨⟨rfl,congrArg (AV.ow 2) (by rw [hst]),AA (by omega),trivial⟩,⟨rfl,congrArg (fun l=>some (AB.row _ _ l)) (by rw [hst]),trivial⟩,rfl,rfl,rfl,rfl,rfl⟩⟩
 ·have ek:k=a.homes.length:=by omega
  subst ek
  rw [Ps]
  refine⟨by simp,?_⟩
  exact⟨bA (Ir a),L0 rfl rfl,rfl⟩
def Cw (a:An) (i:Int):List UInt8:=CD i a.gen (Ir a)
theorem J8 {g:Geo} {a:An} (hg:AS g=true) (ha:AY g a=true):(Ir a).length<=82:=by
 obtain⟨g1,g2,g3,g4,g5⟩:=Am.1 hg
 have hz:=ha
 simp only [AY,Bool.and_eq_true,decide_eq_true_eq,Bn,Ck,B7,AI,A4] at hz
 obtain⟨_,_,_,_,q6,q7,q8⟩:=hz
 have h24:=Ge q6
 have hs:a.label.size=a.label.data.toList.length:=rfl
 have hr:(rowB (J6 a) szA).length=17:=tot_rowB _ _ rfl
 have hm:=(Kq hg a.homes q8).2
 have hmul:a.homes.length*(g.d.toNat+6)<=4*10:=CN (by omega) (by omega)
 rw [Ir,Ae,Ae,hr,F7,hm]
 omega
theorem Pr {g:Geo} {a:An} (ha:AY g a=true):0<=a.gen/\a.gen<=4294967295:=by
 simp only [AY,Bool.and_eq_true,decide_eq_true_eq,Bn,Ck,B7,AI,A4] at ha
 exact ha.1.1
theorem J7 {g:Geo} {a:An} (hg:AS g=true) (ha:AY g a=true) {i:Int} (hi:0<=i/\i<=65535):WD i a.gen (Ir a):=
 ⟨hi.1,hi.2,(Pr ha).1,(Pr ha).2,by have:=J8 hg ha;omega⟩
theorem KJ (g:Geo) (a:An) (i:Int) (hg:AS g=true) (ha:AY g a=true) (hi:0<=i/\i<=65535):Fn Tryz.prog 80 [.ag (CE a), .v (.int .i64 i)] fun r=>r=bA (Cw a i):=by
 have h1:=Vr g a hg ha
 have h2:=Hr i a.gen (Ir a) (J7 hg ha hi)
 refine Fn.st Tryz.func80 rfl ?_
 conv=>whnf
 apply aDraw.tree tys_ok mixed (.one 0 (.one 1 (.one 2 (.one 3 (.one 4 (.one 5 (.one 6 .fin))))))) [4,5,6,7,8,9,10] (by kernel_rfl)
 ·conv=>whnf
  refine Fn.cl h1 ?_
  conv=>whnf
  refine Fn.cl h2 ?_
  exact⟨rfl,rfl⟩
 exact⟨_,ri,rfl⟩
theorem O8 (g:Geo) (a:An) (i:Int) (hg:AS g=true) (ha:AY g a=true) (hi:0<=i/\i<g.an):Fn Tryz.prog 67 [.ag (A7 g), .ag (CE a), .v (.int .i64 i)] fun r=>r = .tp [bA (Cw a i), .v (.int .i64 0)]:=by
 obtain⟨g1,g2,g3,g4,g5⟩:=Am.1 hg
 obtain⟨q1,q2,q3,q4,q5⟩:=Db hg ha 0 (Ag _)
 have h1:=JB g a (by omega) (by omega)
 rw [hg,ha] at h1
 have h2:=FB g i hg hi
 have h3:=Iz i a.gen (Ir a) (J7 hg ha (by omega))
 refine Fn.st Tryz.func67 rfl ?_
 conv=>whnf
 refine Fn.cl h1 ?_
 conv=>whnf
 refine Fn.cl h2 ?_
 conv=>whnf
 refine Fn.cl h3 ?_
 exact⟨_,ri,rfl⟩
end Go.Proofs.YtldngmdpiifamaaGreatDoor.A
end
section
namespace Go.Proofs.YtldngmdpiifamaaGreatDoor
open Go.RowKit
theorem Gm {P:Program} (w:World) (dT sT ty elem:TypeId) (g o dLen dCap:Nat) (a:Addr) (sLen sCap:Nat) (cur:Array Value) (t:TypeId) (cs:List Value) (sz:Nat)
  (hu:P.underlying dT=some (.slice elem)) (hs:(P.info? elem).map (·.size)=some sz)
  (hg:w.heap[g]? = some (.cells cur t (0,0))) (hn:cs.length=Nat.min sLen dLen*sz)
  (hsrc:∀ j v,cs[j]? = some v->w.cell? (a.add j)=some v) (hfit:o+cs.length<=cur.size) (h1:∀ v∈cs,v.oneCell'=true) :
  (Builtin.copy_ #[dT,sT] ty #[.slice (some ⟨g,o,none⟩) dLen dCap, .slice (some a) sLen sCap]).run P w =
   .ok (goInt (Nat.min sLen dLen)) (w.setRow g (cur.toList.take o ++ cs ++ cur.toList.drop (o+cs.length)).toArray):=by
 have hl:=run_loadCells_list (P:=P) w a cs hsrc
 have hst:=run_storeCells_at P g o t cs 0 cur w hg (by simpa using hfit) h1
 cases hq:P.info? elem with
 | none=>simp [hq] at hs
 | some i=>
  have hi:i.size=sz:=by simpa [hq] using hs
  have e':Nat.min sLen dLen*sz=cs.length:=hn.symm
  simp [Builtin.copy_,run_underlying hu,Builtin.lenOf,Builtin.firstCells,sizeOf,typeInfo,hq,hi,e',hl,hst]
theorem JI {P:Program} {ops:Array Oper} {o:Oper} {a:Act} {w:World} {K:Act->World->Prop} {Q:Exit->Act->World->Prop} {E:Prop}
  (hg:o.guard=none) (d x:Operand) (dT sT:TypeId) (hop:o.op=Op.call { callee:=Callee.builtin Builtin.copy,args:= #[d,x],argTypes:= #[dT,sT] })
  {v u:Value} (hd:a.eval d=v) (hx:a.eval x=u) {v':Value} {w':World} (hr:(Builtin.copy_ #[dT,sT] o.type #[v,u]).run P w = .ok v' w') (hK:K (a.put o.dst v') w') :
  if Region.wanted o (yielded ops a.tmps)=true then Oper.wp P o a w K Q else E:=by
 have hw:Region.wanted o (yielded ops a.tmps)=true:=by simp [Region.wanted,hg]
 rw [if_pos hw]
 unfold Oper.wp
 simp [execOp,hop,resolve,invoke,builtin,hd,hx,hr,Result.andThen]
 exact hK
theorem Fh {w:World} {g:Nat} {cs:Array Value} {row:Option Nat} (h:row=some g):w.grownBy (w.setRow g cs) row:=
 ⟨rfl,rfl,rfl,by simp [World.setRow],fun k _ hne=>setRow_other w g k cs (fun e=>hne (by rw [h,e]))⟩
def Cd (xs zs:List Value) (k m:Nat):List Value:=(List.replicate k xs).flatten ++ (List.replicate m zs).flatten
theorem MX {α:Type} (a b:Nat) (x:α):List.replicate (a+b) x=List.replicate a x ++ List.replicate b x:=(List.replicate_append_replicate).symm
theorem Ln {n:Nat} {xs:List Value}:(List.replicate n xs).flatten.length=n*xs.length:=by simp
theorem Hn {xs zs:List Value} {k m j:Nat} (h:xs.length=zs.length) (hm:j<=m) :
  (Cd xs zs k m).take (k*xs.length) ++ (List.replicate j xs).flatten ++ (Cd xs zs k m).drop (k*xs.length+(List.replicate j xs).flatten.length)=Cd xs zs (k+j) (m - j):=by
 have e1:(Cd xs zs k m).take (k*xs.length)=(List.replicate k xs).flatten:=by
  unfold Cd;rw [List.take_left' (by simp)]
 have e2:(Cd xs zs k m).drop (k*xs.length+(List.replicate j xs).flatten.length)=(List.replicate (m - j) zs).flatten:=by
  unfold Cd
  rw [<-Aw,List.drop_left' (by simp),Ln,h,show m=j+(m - j) by omega,MX,List.flatten_append,List.drop_left' (by simp),show j+(m - j) - j=m - j by omega]
 rw [e1,e2]
 unfold Cd
 rw [MX,List.flatten_append]
theorem Ok {xs zs:List Value} {k m j i:Nat} {v:Value} (hj:j<=k) (hv:(List.replicate j xs).flatten[i]? = some v):(Cd xs zs k m)[i]? = some v:=by
 have e:Cd xs zs k m=(List.replicate j xs).flatten ++ ((List.replicate (k - j) xs).flatten ++ (List.replicate m zs).flatten):=by
  unfold Cd;rw [<-List.append_assoc,<-List.flatten_append (L₁:=List.replicate j xs),<-MX,show j+(k - j)=k by omega]
 rw [e,List.getElem?_append_left (List.getElem?_eq_some_iff.1 hv).1,hv]
end Go.Proofs.YtldngmdpiifamaaGreatDoor
end
