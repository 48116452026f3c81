/-
Several texts in one.
-/
import Derived.Test.YtldngmdpiifamaaGreatDoorPPB4P1
import Derived.Test.YtldngmdpiifamaaGreatDoorPPB4P0
import Derived.RangeFuncNested
import Derived.RangeFuncBound
import Derived.RangeFuncCalls
import Derived.RangeFuncLeaves
import Derived.RangeFuncBox
import Derived.TacticsIn
import Derived.Shelf.Abstract
import Derived.Shelf.RegionOpen
import Derived.OwnWalkIn
import Derived.TacticsInMore
import Derived.LoopNIn
import Derived.LoopIn
section
namespace Go.Proofs.YtldngmdpiifamaaGreatDoor.A
open Go.RowKit
def open0 (x:AV) (H R:List AB) (k:AV→List AB→List AB→Prop):Prop:=
 match x with
 | .v u=>k (.v u) H R
 | .sl sz n get=>k (.sl sz n get) H R
 | .ow j n=>match hget H j with
  | some (.row t sz es)=>setK j .dead H fun H=>snocK R (.row t sz es) 0 fun i R=>k (.ow i n) H R
  | _=>False
 | _=>False
def openC:List AV→List AB→List AB→(List AV→List AB→List AB→Prop)→Prop
 | [],H,R,k=>k [] H R
 | x::l,H,R,k=>open0 x H R fun x H R=>openC l H R fun l H R=>k (x::l) H R
def open1 (x:AV) (H R:List AB) (k:AV→List AB→List AB→Prop):Prop:=
 match x with
 | .ag cs=>openC cs H R fun cs H R=>k (.ag cs) H R
 | x=>open0 x H R k
def openL:List AV→List AB→List AB→(List AV→List AB→List AB→Prop)→Prop
 | [],H,R,k=>k [] H R
 | x::l,H,R,k=>open1 x H R fun x H R=>openL l H R fun l H R=>k (x::l) H R
def openR (x:AV) (H:List AB) (k:AV→List AB→Prop):Prop:=
 match x with
 | .tp l=>openL l H [] fun l _ R=>k (.tp l) R
 | x=>open1 x H [] fun x _ R=>k x R

section
variable {w0:Fl} {M0:Ms} {c cr:Ctx} {H R:List AB}
theorem HS.kill (h:HS w0 M0 c H) (k:Nat):HS w0 M0 c (H.set k .dead):=by
 have hget:∀ j y,(H.set k .dead)[j]? = some y→y.live=true→j≠k∧H[j]? = some y:=by
  intro j y hj hl
  by_cases hjk:j=k
  ·subst hjk
   by_cases hlt:j<H.length
   ·rw [List.getElem?_set_self hlt] at hj
    cases hj;cases hl
   ·rw [List.getElem?_eq_none (by simp;omega)] at hj;cases hj
  ·rw [List.getElem?_set_ne (Ne.symm hjk)] at hj
   exact⟨hjk,hj⟩
 refine⟨h.low,h.base,by simp [h.dom],h.foreign,h.lt,fun j y hj=>?_,fun j y g hj hl ho=>?_,fun i j y z g hi hj hly hlz hoi hoj=>?_⟩
 ·cases hy:y.live with
  | false=>cases y <;> simp [AB.live] at hy;trivial
  | true=>exact h.blk j y (hget j y hj hy).2
 ·exact h.own j y g (hget j y hj hl).2 hl ho
 ·exact h.dis i j y z g (hget i y hi hly).2 (hget j z hj hlz).2 hly hlz hoi hoj

structure OpenSt (w0:Fl) (M0:Ms) (c:Ctx) (H:List AB) (cr:Ctx) (R:List AB):Prop where
 hs:HS w0 M0 c H
 hr:HS w0 M0 cr R
 w:cr.w=c.w
 M:cr.M=c.M
 dis:∀ i k x y g,R[i]? = some x→H[k]? = some y→x.live=true→y.live=true→oB (cr.rho i)=some g→oB (c.rho k)=some g→False
 rows:∀ x∈R,∃ t sz es,x = .row t sz es
theorem OpenSt.ext (h:OpenSt w0 M0 c H cr R):Ext c.closed cr:=
 ⟨by simp [Ctx.closed,h.w],by simp [Ctx.closed,h.w],by simp [Ctx.closed,h.w],by simp [Ctx.closed,h.w],fun b _ hm=>⟨by rw [h.M];exact hm,by simp [Ctx.closed,h.w]⟩,Nat.zero_le _,fun k hk=>absurd hk (Nat.not_lt_zero k),fun k hk=>absurd hk (Nat.not_lt_zero k),fun k _ hk=>absurd hk (Nat.not_lt_zero k)⟩
theorem OpenSt.take (h:OpenSt w0 M0 c H cr R) {j:Nat} {t:TypeId} {sz:Nat} {es:List (List AV)} (hj:H[j]? = some (.row t sz es)) :
  ∃ cr',OpenSt w0 M0 c (H.set j .dead) cr' (R ++ [.row t sz es])∧Ext cr cr'∧∀ n u,Rd (.ow j n) c u→Rd (.ow R.length n) cr' u:=by
 let cr':Ctx:={ cr with dom:=cr.dom+1,rho:=fun k=>if k=cr.dom then c.rho j else cr.rho k,len:=fun k=>if k=cr.dom then c.len j else cr.len k }
 have hrho:∀ k,k<cr.dom→cr'.rho k=cr.rho k:=fun k hk=>by simp only [cr'];rw [if_neg (by omega)]
 have hlen:∀ k,k<cr.dom→cr'.len k=cr.len k:=fun k hk=>by simp only [cr'];rw [if_neg (by omega)]
 have hrd:cr'.rho cr.dom=c.rho j:=by simp [cr']
 have hrl:cr'.len cr.dom=c.len j:=by simp [cr']
 have e:Ext cr cr':=⟨rfl,rfl,rfl,Nat.le_refl _,fun _ _ hm=>⟨hm,rfl⟩,Nat.le_succ _,fun k hk=>by rw [hlen k hk];exact Nat.le_refl _,fun k hk _=>hrho k hk,fun k g hk hg=>by rw [hrho k hk];exact hg⟩
 have hget:∀ k y,(R ++ [AB.row t sz es])[k]? = some y→(k<cr.dom∧R[k]? = some y)∨(k=cr.dom∧y = .row t sz es):=by
  intro k y hk
  rw [h.hr.dom]
  rcases Nat.lt_trichotomy k R.length with hlt | rfl | hgt
  ·rw [List.getElem?_append_left hlt] at hk;exact .inl ⟨hlt,hk⟩
  ·simp at hk;exact .inr ⟨rfl,hk.symm⟩
  ·rw [List.getElem?_eq_none (by simp;omega)] at hk;cases hk
 have hset:∀ k y,(H.set j .dead)[k]? = some y→y.live=true→k≠j∧H[k]? = some y:=by
  intro k y hk hl
  by_cases hjk:k=j
  ·subst hjk
   rw [List.getElem?_set_self (List.getElem?_eq_some_iff.1 hj).1] at hk
   cases hk;cases hl
  ·rw [List.getElem?_set_ne (Ne.symm hjk)] at hk
   exact⟨hjk,hk⟩
 have hcl:Ext c.closed cr'.closed:=⟨by simp [Ctx.closed,cr',h.w],by simp [Ctx.closed,cr',h.w],by simp [Ctx.closed,cr',h.w],by simp [Ctx.closed,cr',h.w],fun b _ hm=>⟨by simp only [Ctx.closed,cr'];rw [h.M];exact hm,by simp [Ctx.closed,cr',h.w]⟩,Nat.zero_le _,fun k hk=>absurd hk (Nat.not_lt_zero k),fun k hk=>absurd hk (Nat.not_lt_zero k),fun k _ hk=>absurd hk (Nat.not_lt_zero k)⟩
 refine⟨cr',⟨h.hs.kill j,⟨h.hr.low,h.hr.base,by simp [cr',h.hr.dom],h.hr.foreign,h.hr.lt,fun k y hk=>?_,fun k y g hk hl ho=>?_,fun i k y z g hi hk hly hlz hoi hok=>?_⟩,h.w,h.M,fun i k x y g hi hk hlx hly hoi hok=>?_,fun x hx=>?_⟩,e,fun n u hu=>?_⟩
 ·rcases hget k y hk with ⟨hlt,hk'⟩ | ⟨rfl,rfl⟩
  ·exact BlkOk.ext e rfl hlt (hlen k hlt) (fun _ _ _=>rfl) (h.hr.blk k y hk')
  ·obtain⟨h1,h2,h3,xs,h4,h5,h6⟩:=h.hs.blk j _ hj
   refine⟨by rw [hrl];exact h1,h2,h3,xs,?_,RdL.ext _ hcl h5,h6⟩
   rw [hrd,show cr'.w=c.w from h.w,show cr'.base=c.base from h.hr.base.trans h.hs.base.symm]
   exact h4
 ·rcases hget k y hk with ⟨hlt,hk'⟩ | ⟨rfl,rfl⟩
  ·rw [hrho k hlt] at ho
   exact h.hr.own k y g hk' hl ho
  ·rw [hrd] at ho
   have:=h.hs.own j _ g hj rfl ho
   exact⟨by show cr.M g;rw [h.M];exact this.1,this.2⟩
 ·rcases hget i y hi with ⟨hlt,hi'⟩ | ⟨rfl,rfl⟩ <;> rcases hget k z hk with ⟨hlt2,hk'⟩ | ⟨rfl,rfl⟩
  ·rw [hrho i hlt] at hoi
   rw [hrho k hlt2] at hok
   exact h.hr.dis i k y z g hi' hk' hly hlz hoi hok
  ·rw [hrho i hlt] at hoi
   rw [hrd] at hok
   exact(h.dis i j y _ g hi' hj hly rfl hoi hok).elim
  ·rw [hrd] at hoi
   rw [hrho k hlt2] at hok
   exact(h.dis k j z _ g hk' hj hlz rfl hok hoi).elim
  ·rfl
 ·obtain⟨hkj,hk'⟩:=hset k y hk hly
  rcases hget i x hi with ⟨hlt,hi'⟩ | ⟨rfl,rfl⟩
  ·rw [hrho i hlt] at hoi
   exact h.dis i k x y g hi' hk' hlx hly hoi hok
  ·rw [hrd] at hoi
   exact hkj (h.hs.dis k j y _ g hk' hj hly rfl hok hoi)
 ·rcases List.mem_append.1 hx with hx | hx
  ·exact h.rows x hx
  ·exact⟨t,sz,es,by simpa using hx⟩
 ·simp only [Rd] at hu ⊢
  obtain⟨_,q2,q3,q4⟩:=hu
  rw [←h.hr.dom]
  exact⟨Nat.lt_succ_self _,by rw [hrl];exact q2,q3,by rw [hrl,hrd];exact q4⟩
theorem open0_sound (h:OpenSt w0 M0 c H cr R) {x:AV} {u:Value} (hr:Rd x c u) {k:AV→List AB→List AB→Prop} (hk:open0 x H R k) :
  ∃ x' H' cr' R',k x' H' R'∧OpenSt w0 M0 c H' cr' R'∧Ext cr cr'∧Rd x' cr' u:=by
 unfold open0 at hk
 split at hk
 ·exact⟨_,H,cr,R,hk,h,Ext.refl _,by simpa [Rd] using hr⟩
 ·refine⟨_,H,cr,R,hk,h,Ext.refl _,Rd.ext _ h.ext ?_⟩
  simp only [Rd] at hr ⊢
  exact hr
 ·rename_i j n
  rw [hget_eq] at hk
  split at hk
  ·rename_i t sz es hj
   have hk:=snocK_iff (setK_iff hk)
   rw [Nat.zero_add] at hk
   obtain⟨cr',q1,q2,q3⟩:=h.take hj
   exact⟨_,_,cr',_,hk,q1,q2,q3 n u hr⟩
  ·exact hk.elim
 ·exact hk.elim
theorem openC_sound:∀ {l:List AV} {H R:List AB} {cr:Ctx} (_:OpenSt w0 M0 c H cr R) {us:List Value} (_:RdL l c us) {k:List AV→List AB→List AB→Prop} (_:openC l H R k),
  ∃ l' H' cr' R',k l' H' R'∧OpenSt w0 M0 c H' cr' R'∧Ext cr cr'∧RdL l' cr' us
 | [],H,R,cr,h,us,hr,k,hk=>⟨[],H,cr,R,hk,h,Ext.refl _,by simp only [RdL] at hr ⊢;exact hr⟩
 | x::l,H,R,cr,h,us,hr,k,hk=>by
  simp only [RdL] at hr
  obtain⟨u,us,rfl,h1,h2⟩:=hr
  simp only [openC] at hk
  obtain⟨x',H1,c1,R1,q1,q2,q3,q4⟩:=open0_sound h h1 hk
  obtain⟨l',H2,c2,R2,p1,p2,p3,p4⟩:=openC_sound q2 h2 q1
  exact⟨_,H2,c2,R2,p1,p2,q3.trans p3,by simp only [RdL];exact⟨u,us,rfl,Rd.ext _ p3 q4,p4⟩⟩
theorem open1_sound (h:OpenSt w0 M0 c H cr R) {x:AV} {u:Value} (hr:Rd x c u) {k:AV→List AB→List AB→Prop} (hk:open1 x H R k) :
  ∃ x' H' cr' R',k x' H' R'∧OpenSt w0 M0 c H' cr' R'∧Ext cr cr'∧Rd x' cr' u:=by
 unfold open1 at hk
 split at hk
 ·simp only [Rd] at hr
  obtain⟨xs,rfl,hx⟩:=hr
  obtain⟨l',H2,c2,R2,p1,p2,p3,p4⟩:=openC_sound h hx hk
  exact⟨_,H2,c2,R2,p1,p2,p3,by simp only [Rd];exact⟨xs,rfl,p4⟩⟩
 ·exact open0_sound h hr hk
theorem openL_sound:∀ {l:List AV} {H R:List AB} {cr:Ctx} (_:OpenSt w0 M0 c H cr R) {us:List Value} (_:RdL l c us) {k:List AV→List AB→List AB→Prop} (_:openL l H R k),
  ∃ l' H' cr' R',k l' H' R'∧OpenSt w0 M0 c H' cr' R'∧Ext cr cr'∧RdL l' cr' us
 | [],H,R,cr,h,us,hr,k,hk=>⟨[],H,cr,R,hk,h,Ext.refl _,by simp only [RdL] at hr ⊢;exact hr⟩
 | x::l,H,R,cr,h,us,hr,k,hk=>by
  simp only [RdL] at hr
  obtain⟨u,us,rfl,h1,h2⟩:=hr
  simp only [openL] at hk
  obtain⟨x',H1,c1,R1,q1,q2,q3,q4⟩:=open1_sound h h1 hk
  obtain⟨l',H2,c2,R2,p1,p2,p3,p4⟩:=openL_sound q2 h2 q1
  exact⟨_,H2,c2,R2,p1,p2,q3.trans p3,by simp only [RdL];exact⟨u,us,rfl,Rd.ext _ p3 q4,p4⟩⟩
def ctxR (c:Ctx):Ctx:={ c with dom:=0 }
theorem OpenSt.begin (h:HS w0 M0 c H):OpenSt w0 M0 c H (ctxR c) []:=
 ⟨h,⟨h.low,h.base,rfl,h.foreign,h.lt,by simp,by simp,by simp⟩,rfl,rfl,by simp,by simp⟩
theorem openR_sound (h:HS w0 M0 c H) {x:AV} {u:Value} (hr:Rd x c u) {k:AV→List AB→Prop} (hk:openR x H k) :
  ∃ x' cr R,k x' R∧cr.w=c.w∧HS w0 M0 cr R∧Rd x' cr u∧∀ y∈R,∃ t sz es,y = .row t sz es:=by
 unfold openR at hk
 split at hk
 ·simp only [Rd] at hr
  obtain⟨xs,rfl,hx⟩:=hr
  obtain⟨l',H2,c2,R2,p1,p2,p3,p4⟩:=openL_sound (OpenSt.begin h) hx hk
  exact⟨_,c2,R2,p1,p2.w,p2.hr,by simp only [Rd];exact⟨xs,rfl,p4⟩,p2.rows⟩
 ·obtain⟨x',H2,c2,R2,p1,p2,p3,p4⟩:=open1_sound (OpenSt.begin h) hr hk
  exact⟨_,c2,R2,p1,p2.w,p2.hr,p4,p2.rows⟩
end

structure FnO (P:Program) (f:FuncId) (args:List AV) (K:AV→List AB→Prop):Prop where
 go:IsGo P f
 calls:∀ (c0:Ctx) (us:List Value) (hg:globOk c0.w),c0.dom=0→(∀ b,c0.M b→b<c0.w.heap.size)→RdL args c0 us→
  Calls P f us.toArray c0.w fun e w'=>∃ v r c' R,e = .returned v∧K r R∧c'.w=w'∧HS (Fl.all c0.w hg) c0.M c' R∧Rd r c' v∧∀ y∈R,∃ t sz es,y = .row t sz es
theorem FnO.mono {P:Program} {f:FuncId} {args:List AV} {K K':AV→List AB→Prop} (h:FnO P f args K) (hk:∀ r R,K r R→K' r R):FnO P f args K':=
 ⟨h.1,fun c0 us hg h1 h2 h3=>(h.2 c0 us hg h1 h2 h3).mono fun _ _ ⟨v,r,c',R,h4,h5,h6⟩=>⟨v,r,c',R,h4,hk _ _ h5,h6⟩⟩
def finO (T:Tys) (rs:List ResultVar) (K:AV→List AB→Prop):QA:=fun ex fr H=>match ex with
 | .exit _=>False
 | _=>retK T rs fr H fun x=>openR x H K
theorem FnO.of {P : Program} {T : Tys} (hT : TOk P T) {f : FuncId} {fn : Func} {body : Code} {args : List AV} {K : AV → List AB → Prop} (hf : P.funcs[f]? = some fn) (hb : fn.body = some body) (hname : (fn.name == "runtime.NumGoroutine") = false) (hn : args.length ≤ fn.ntmps)
  (h:aCode P T fn.ntmps 0 body (finO T fn.results.toList K) (frOf 0 args) []):FnO P f args K:=by
 refine⟨⟨fn,hf,by rw [hb];rfl,hname⟩,fun c0 us hg hd hM hr=>?_⟩
 let ce:Ctx:={ c0 with base:=0 }
 have hce:Ext c0 ce:=⟨rfl,rfl,rfl,Nat.le_refl _,fun _ _ h=>⟨h,rfl⟩,Nat.le_refl _,fun _ _=>Nat.le_refl _,fun _ _ _=>rfl,fun _ _ _ h=>h⟩
 have hHS:HS (Fl.all c0.w hg) c0.M ce []:=⟨LowF.refl _ hg,rfl,hd,fun _ _=>Iff.rfl,hM,by simp,by simp,by simp⟩
 have hlen:=hr.length
 have hFR:FR (Fl.all c0.w hg) ce fn.ntmps (frOf 0 args) { tmps:=us.toArray ++ Array.replicate (fn.ntmps - us.toArray.size) undef,defers:= [] }:=by
  refine⟨by simp;omega,trivial,fun i=>?_⟩
  have:=frOf_rd (c:=ce) (m:=fn.ntmps - us.length) (l:=args) (i:=0) (pre:= []) rfl (RdL.ext _ hce hr) i
  rw [Array.getD_eq_getD_getElem?]
  have e:(us.toArray ++ Array.replicate (fn.ntmps - us.toArray.size) undef)[i]? = ([] ++ us ++ List.replicate (fn.ntmps - us.length) undef)[i]? :=by
   have:(us.toArray ++ Array.replicate (fn.ntmps - us.toArray.size) undef)=([] ++ us ++ List.replicate (fn.ntmps - us.length) undef).toArray:=Array.ext' (by simp)
   rw [this];simp only [List.getElem?_toArray]
  rw [e]
  exact this
 have fin:∀ a w,Lift (Fl.all c0.w hg) c0.M ce fn.ntmps (fun fr H=>retK T fn.results.toList fr H fun x=>openR x H K) a w→∃ v,(results fn a.tmps).run P w = .ok v w∧∃ v' r c' R,Ending.returned v = .returned v'∧K r R∧c'.w=w∧HS (Fl.all c0.w hg) c0.M c' R∧Rd r c' v'∧∀ y∈R,∃ t sz es,y = .row t sz es:=by
  rintro a w ⟨c,fr,H,rfl,h1,h2,h3,h4⟩
  obtain⟨x,v,q1,q2,q3⟩:=retK_sound hT h2 h3 h1
  obtain⟨r,cr,R,p1,p2,p3,p4,p5⟩:=openR_sound h2 q2 q1
  exact⟨v,q3,v,r,cr,R,rfl,p1,p2,p3,p4,p5⟩
 refine calls_marks hf hb trivial (Nat.le_refl _) fin ?_
 refine aCode_sound (w0:=Fl.all c0.w hg) (M0:=c0.M) (ce:=ce) hT hd body _ _ ce _ [] _ (lift_ends rfl rfl fun _ _ _ h=>h) hHS hFR (Ext.refl _) h

mutual
def AV.shift (d:Nat):AV→AV
 | .ow k n=> .ow (k+d) n
 | .bp k o=> .bp (k+d) o
 | .ep k n i sz off=> .ep (k+d) n i sz off
 | .ag l=> .ag (AV.shiftL d l)
 | .tp l=> .tp (AV.shiftL d l)
 | .fn f l=> .fn f (AV.shiftL d l)
 | .ic f l=> .ic f (AV.shiftL d l)
 | .top=> .top
 | .v x=> .v x
 | .sl sz n get=> .sl sz n get
 | .rp cs=> .rp cs
def AV.shiftL (d:Nat):List AV→List AV
 | []=> []
 | x::l=>x.shift d::AV.shiftL d l
end
def Ctx.beside (c c':Ctx):Ctx:={ w:=c'.w,base:=c.base,M:=c'.M,dom:=c.dom+c'.dom,rho:=fun k=>if k<c.dom then c.rho k else c'.rho (k - c.dom),len:=fun k=>if k<c.dom then c.len k else c'.len (k - c.dom) }
theorem Ext.closedBeside (c c':Ctx):Ext c'.closed (c.beside c').closed:=⟨rfl,rfl,rfl,Nat.le_refl _,fun _ _ h=>⟨h,rfl⟩,Nat.zero_le _,fun k hk=>absurd hk (Nat.not_lt_zero k),fun k hk=>absurd hk (Nat.not_lt_zero k),fun k _ hk=>absurd hk (Nat.not_lt_zero k)⟩
mutual
theorem Rd.shift:∀ (x:AV) {c c':Ctx} {u:Value},Rd x c' u→Rd (x.shift c.dom) (c.beside c') u
 | .top,_,_,_,_=>by simp [AV.shift,Rd]
 | .v _,_,_,_,h=>by simpa [AV.shift,Rd] using h
 | .sl sz n get,c,c',u,h=>by
  simp only [AV.shift,Rd] at h ⊢
  obtain⟨a,k,rfl,h1,h2,h3⟩:=h
  refine⟨a,k,rfl,h1,h2,h3.imp id ?_⟩
  rintro⟨b,off,rfl,hm,hb,hc⟩
  exact⟨b,off,rfl,hm,hb,fun i hi=>⟨(hc i hi).1,RdAt.ext (get i) (Ext.closedBeside c c') hb hm (hc i hi).2⟩⟩
 | .rp cs,c,c',u,h=>by
  simp only [AV.shift,Rd] at h ⊢
  obtain⟨b,off,rfl,hm,hb,hc⟩:=h
  exact⟨b,off,rfl,hm,hb,RdAt.ext cs (Ext.closedBeside c c') hb hm hc⟩
 | .bp k off,c,c',u,h=>by
  simp only [AV.shift,Rd] at h ⊢
  obtain⟨h1,g,h2,h3⟩:=h
  refine⟨by simp only [Ctx.beside];omega,g,?_,h3⟩
  simp only [Ctx.beside]
  rw [if_neg (by omega),Nat.add_sub_cancel]
  exact h2
 | .ow k n,c,c',u,h=>by
  simp only [AV.shift,Rd] at h ⊢
  obtain⟨h1,h2,h3,h4⟩:=h
  have e1:(c.beside c').len (k+c.dom)=c'.len k:=by simp only [Ctx.beside];rw [if_neg (by omega),Nat.add_sub_cancel]
  have e2:(c.beside c').rho (k+c.dom)=c'.rho k:=by simp only [Ctx.beside];rw [if_neg (by omega),Nat.add_sub_cancel]
  rw [e1,e2]
  exact⟨by simp only [Ctx.beside];omega,h2,h3,h4⟩
 | .ep k n i sz off,c,c',u,h=>by
  simp only [AV.shift,Rd] at h ⊢
  obtain⟨h1,h2,h3⟩:=h
  have e1:(c.beside c').len (k+c.dom)=c'.len k:=by simp only [Ctx.beside];rw [if_neg (by omega),Nat.add_sub_cancel]
  have e2:(c.beside c').rho (k+c.dom)=c'.rho k:=by simp only [Ctx.beside];rw [if_neg (by omega),Nat.add_sub_cancel]
  rw [e1,e2]
  exact⟨by simp only [Ctx.beside];omega,h2,h3⟩
 | .ag l,c,c',u,h=>by
  simp only [AV.shift,Rd] at h ⊢
  obtain⟨xs,rfl,h1⟩:=h
  exact⟨xs,rfl,RdL.shift l h1⟩
 | .tp l,c,c',u,h=>by
  simp only [AV.shift,Rd] at h ⊢
  obtain⟨xs,rfl,h1⟩:=h
  exact⟨xs,rfl,RdL.shift l h1⟩
 | .fn f l,c,c',u,h=>by
  simp only [AV.shift,Rd] at h ⊢
  obtain⟨xs,rfl,h1⟩:=h
  exact⟨xs,rfl,RdL.shift l h1⟩
 | .ic f l,c,c',u,h=>by
  simp only [AV.shift,Rd] at h ⊢
  obtain⟨xs,rfl,h1⟩:=h
  exact⟨xs,rfl,RdL.shift l h1⟩
theorem RdL.shift:∀ (l:List AV) {c c':Ctx} {us:List Value},RdL l c' us→RdL (AV.shiftL c.dom l) (c.beside c') us
 | [],_,_,_,h=>by simp only [AV.shiftL,RdL] at h ⊢;exact h
 | x::l,c,c',us,h=>by
  simp only [AV.shiftL,RdL] at h ⊢
  obtain⟨u,us,rfl,h1,h2⟩:=h
  exact⟨u,us,rfl,Rd.shift x h1,RdL.shift l h2⟩
end
theorem HS.beside {w0:Fl} {M0:Ms} {c c':Ctx} {H R:List AB} (h:HS w0 M0 c H) {hg:globOk c.w} (k:HS (Fl.all c.w hg) c.M c' R) (hR:∀ y∈R,∃ t sz es,y = .row t sz es) :
  HS w0 M0 (c.beside c') (H ++ R)∧Ext c (c.beside c'):=by
 have hsz:=h.low.size
 have e:Ext c (c.beside c'):=by
  refine⟨k.low.os,k.low.tape,k.low.output,k.low.size,fun b hb hm=>⟨fun hm'=>hm ((k.foreign b hb).1 hm'),k.low.block b hb⟩,Nat.le_add_right _ _,fun i hi=>?_,fun i hi _=>?_,fun i g hi hg=>?_⟩
  ·simp only [Ctx.beside];rw [if_pos hi];exact Nat.le_refl _
  ·simp only [Ctx.beside];rw [if_pos hi]
  ·simp only [Ctx.beside];rw [if_pos hi];exact hg
 have hrho:∀ i,i<c.dom→(c.beside c').rho i=c.rho i:=fun i hi=>by simp only [Ctx.beside];rw [if_pos hi]
 have hrho2:∀ i,¬i<c.dom→(c.beside c').rho i=c'.rho (i - c.dom):=fun i hi=>by simp only [Ctx.beside];rw [if_neg hi]
 have hget:∀ i y,(H ++ R)[i]? = some y→(i<c.dom∧H[i]? = some y)∨(¬i<c.dom∧R[i - c.dom]? = some y):=by
  intro i y hi
  rw [h.dom]
  by_cases hlt:i<H.length
  ·rw [List.getElem?_append_left hlt] at hi;exact .inl ⟨hlt,hi⟩
  ·rw [List.getElem?_append_right (by omega)] at hi;exact .inr ⟨hlt,hi⟩
 refine⟨⟨h.low.trans k.low.below,h.base,by simp [Ctx.beside,h.dom,k.dom],fun b hb=>?_,k.lt,fun i y hi=>?_,fun i y g hi hl ho=>?_,fun i j y z g hi hj hly hlz hoi hoj=>?_⟩,e⟩
 ·exact(k.foreign b (Nat.lt_of_lt_of_le (w0.lt b hb) hsz)).trans (h.foreign b hb)
 ·rcases hget i y hi with ⟨hlt,hi'⟩ | ⟨hge,hi'⟩
  ·exact BlkOk.ext e rfl hlt (by simp only [Ctx.beside];rw [if_pos hlt]) (fun g hl ho=>k.low.block g (h.sub hi' hl ho)) (h.blk i y hi')
  ·obtain⟨t,sz,es,rfl⟩:=hR y (List.mem_of_getElem? hi')
   obtain⟨h1,h2,h3,xs,h4,h5,h6⟩:=k.blk _ _ hi'
   refine⟨by simp only [Ctx.beside];rw [if_neg hge];exact h1,h2,h3,xs,?_,RdL.ext _ (Ext.closedBeside c c') h5,h6⟩
   rw [hrho2 i hge]
   refine⟨h4.1,h4.2.imp id ?_⟩
   rintro⟨g,cap,cur,q1,q2,q3⟩
   refine⟨g,cap,cur,q1,?_,q3⟩
   show c.base≤g
   rw [h.base];exact Nat.zero_le _
 ·rcases hget i y hi with ⟨hlt,hi'⟩ | ⟨hge,hi'⟩
  ·rw [hrho i hlt] at ho
   have:=h.own i y g hi' hl ho
   exact⟨(k.foreign g (h.lt g this.1)).2 this.1,this.2⟩
  ·rw [hrho2 i hge] at ho
   have:=k.own _ y g hi' hl ho
   exact⟨this.1,fun ho=>this.2 (Nat.lt_of_lt_of_le (w0.lt g ho) hsz)⟩
 ·rcases hget i y hi with ⟨hlt,hi'⟩ | ⟨hge,hi'⟩ <;> rcases hget j z hj with ⟨hlt2,hj'⟩ | ⟨hge2,hj'⟩
  ·rw [hrho i hlt] at hoi
   rw [hrho j hlt2] at hoj
   exact h.dis i j y z g hi' hj' hly hlz hoi hoj
  ·rw [hrho i hlt] at hoi
   rw [hrho2 j hge2] at hoj
   have h1:=h.sub hi' hly hoi
   exact((k.own _ z g hj' hlz hoj).2 h1).elim
  ·rw [hrho2 i hge] at hoi
   rw [hrho j hlt2] at hoj
   have h1:=h.sub hj' hlz hoj
   exact((k.own _ y g hi' hly hoi).2 h1).elim
  ·rw [hrho2 i hge] at hoi
   rw [hrho2 j hge2] at hoj
   have:=k.dis _ _ y z g hi' hj' hly hlz hoi hoj
   omega
def appK:List AB→List AB→Nat→(Nat→List AB→Prop)→Prop
 | [],R,n,k=>k n R
 | y::r,R,n,k=>appK r R (n+1) fun m l=>k m (y::l)
theorem appK_iff:∀ {H R:List AB} {n:Nat} {k:Nat→List AB→Prop},appK H R n k→k (n+H.length) (H ++ R)
 | [],_,_,_,h=>h
 | y::r,R,n,k,h=>by
  simp only [appK] at h
  have:=appK_iff h
  rw [List.length_cons,show n+(r.length+1)=n+1+r.length by omega]
  exact this
theorem FnO.call {P:Program} {f:FuncId} {args:List AV} {H:List AB} {K:AV→List AB→Prop} {q:Bool} {k:AV→List AB→Prop} (h:FnO P f args K) (hc:AV.ltL args 0=true) (hk:∀ r R,K r R→appK H R 0 fun d H=>forceK (r.shift d) fun r=>k r H):ACalls P q f args H k:=by
 refine⟨h.go,fun w0 M0 c us hs0 hr=>?_⟩
 have hcut:Cut c c.closed:=⟨Ext.refl _,fun k hk=>absurd hk (Nat.not_lt_zero k)⟩
 refine(h.calls c.closed us hs0.glob rfl hs0.lt (RdL.cut args hcut hc hr)).mono ?_
 rintro e w' ⟨v,r,c',R,rfl,q1,rfl,q2,q3,q4⟩
 obtain⟨p1,p2⟩:=hs0.beside (c':=c') q2 q4
 have h1:=forceK_iff (appK_iff (hk r R q1))
 rw [Nat.zero_add,←hs0.dom] at h1
 exact⟨v,c.beside c',_,_,rfl,rfl,h1,p1,p2,Rd.shift r q3,fun _=>q2.low.below.old⟩
theorem FnO.fn1 {P:Program} {f:FuncId} {args:List AV} {t:TypeId} {sz n:Nat} {es:List (List AV)} (h:FnO P f args fun r R=>r = .ow 0 n∧R=[.row t sz es]∧n=es.length):Fn P f args fun r=>r = .sl sz n fun i=>es.getD i []:=by
 refine⟨h.go,fun c0 us hd hM hg hr=>(h.calls c0 us hg hd hM hr).mono ?_⟩
 rintro e w' ⟨v,r,c',R,rfl,⟨rfl,rfl,rfl⟩,rfl,q2,q3,q4⟩
 obtain⟨c2,e1,e2,e3,e4⟩:=q2.freeze (k:=0) rfl
 refine⟨v,_,rfl,rfl,q2.low.below,?_⟩
 have hE:Ext c2.closed { c0 with w:=c'.w }:=by
  refine⟨by simp [Ctx.closed,e1],by simp [Ctx.closed,e1],by simp [Ctx.closed,e1],by simp [Ctx.closed,e1],fun b hb hm=>⟨fun h=>hm ?_,by simp [Ctx.closed,e1]⟩,Nat.zero_le _,fun k hk=>absurd hk (Nat.not_lt_zero k),fun k hk=>absurd hk (Nat.not_lt_zero k),fun k _ hk=>absurd hk (Nat.not_lt_zero k)⟩
  exact(e2.foreign b (hM b h)).2 h
 refine Rd.ext _ hE ?_
 have:=e4 v q3
 simp only [Rd] at this ⊢
 exact this
def ixm:List Nat→Nat→Nat→Nat
 | [],d,i=>d+i
 | x::_,_,0=>x
 | _::r,d,i+1=>ixm r d i
theorem ixm_or:∀ (s:List Nat) (d i:Nat),(i<s.length∧ixm s d i∈s)∨(s.length≤i∧ixm s d i=d+(i - s.length))
 | [],d,i=> .inr ⟨Nat.zero_le _,by simp [ixm]⟩
 | x::r,d,0=> .inl ⟨by simp,by simp [ixm]⟩
 | x::r,d,i+1=>by
  rcases ixm_or r d i with ⟨h1,h2⟩ | ⟨h1,h2⟩
  ·exact .inl ⟨by simp;omega,by simp only [ixm];exact List.mem_cons_of_mem _ h2⟩
  ·exact .inr ⟨by simp;omega,by simp only [ixm,h2,List.length_cons];omega⟩
theorem ixm_inj:∀ {s:List Nat} {d i j:Nat},s.Nodup→(∀ x∈s,x<d)→ixm s d i=ixm s d j→i=j
 | [],d,i,j,_,_,h=>by simp only [ixm] at h;omega
 | x::r,d,0,0,_,_,_=>rfl
 | x::r,d,0,j+1,hn,hb,h=>by
  simp only [ixm] at h
  have hx:=hb x (by simp)
  rcases ixm_or r d j with ⟨_,h2⟩ | ⟨_,h2⟩
  ·rw [←h] at h2;exact((List.nodup_cons.1 hn).1 h2).elim
  ·omega
 | x::r,d,i+1,0,hn,hb,h=>by
  simp only [ixm] at h
  have hx:=hb x (by simp)
  rcases ixm_or r d i with ⟨_,h2⟩ | ⟨_,h2⟩
  ·rw [h] at h2;exact((List.nodup_cons.1 hn).1 h2).elim
  ·omega
 | x::r,d,i+1,j+1,hn,hb,h=>by
  simp only [ixm] at h
  rw [ixm_inj (List.nodup_cons.1 hn).2 (fun y hy=>hb y (List.mem_cons_of_mem _ hy)) h]
def mergeH (f:Nat→Nat):List Nat→List AB→List AB→List AB
 | [],R,H=>H ++ R.map (AB.ren f)
 | x::s,y::R,H=>mergeH f s R (H.set x (y.ren f))
 | _::_, [],H=>H
theorem mergeH_len (f:Nat→Nat):∀ {s:List Nat} {R H:List AB},s.length≤R.length→(mergeH f s R H).length=H.length+(R.length - s.length)
 | [],R,H,_=>by simp [mergeH]
 | x::s,y::R,H,h=>by simp only [mergeH];rw [mergeH_len f (by simpa using h)];simp
 | _::_, [],_,h=>by simp at h
theorem mergeH_get (f:Nat→Nat):∀ {s:List Nat} {R H:List AB},s.length≤R.length→∀ {k:Nat} {y:AB},(mergeH f s R H)[k]? = some y→
  (∃ j x,R[j]? = some x∧y=x.ren f∧k=ixm s H.length j)∨(k<H.length∧k ∉ s∧H[k]? = some y)
 | [],R,H,_,k,y,h=>by
  simp only [mergeH] at h
  by_cases hk:k<H.length
  ·rw [List.getElem?_append_left hk] at h
   exact .inr ⟨hk,by simp,h⟩
  ·rw [List.getElem?_append_right (by omega),List.getElem?_map] at h
   cases hx:R[k - H.length]? with
   | none=>rw [hx] at h;simp at h
   | some x=>
    rw [hx] at h
    simp at h
    exact .inl ⟨k - H.length,x,hx,h.symm,by simp only [ixm];omega⟩
 | x::s,y0::R,H,hl,k,y,h=>by
  simp only [mergeH] at h
  rcases mergeH_get f (by simpa using hl) h with ⟨j,z,h1,h2,h3⟩ | ⟨h1,h2,h3⟩
  ·exact .inl ⟨j+1,z,by simpa using h1,h2,by simpa [ixm] using h3⟩
  ·rw [List.length_set] at h1
   by_cases hkx:k=x
   ·subst hkx
    rw [List.getElem?_set_self h1] at h3
    cases h3
    exact .inl ⟨0,y0,rfl,rfl,rfl⟩
   ·rw [List.getElem?_set_ne (Ne.symm hkx)] at h3
    exact .inr ⟨h1,by simp only [List.mem_cons,not_or];exact⟨hkx,h2⟩,h3⟩
 | _::_, [],_,hl,_,_,_=>by simp at hl
def putH (f:Nat→Nat):List Nat→List AB→List AB→(List AB→Prop)→Prop
 | [],R,H,k=>appK H (R.map (AB.ren f)) 0 fun _ H=>k H
 | x::s,y::R,H,k=>setK x (y.ren f) H fun H=>putH f s R H k
 | _::_, [],_,_=>False
theorem putH_iff {f:Nat→Nat}:∀ {s:List Nat} {R H:List AB} {k:List AB→Prop},putH f s R H k→s.length≤R.length∧k (mergeH f s R H)
 | [],R,H,k,h=>⟨Nat.zero_le _,appK_iff (k:=fun _ H=>k H) h⟩
 | x::s,y::R,H,k,h=>by
  simp only [putH] at h
  obtain⟨h1,h2⟩:=putH_iff (setK_iff h)
  exact⟨by simpa using h1,h2⟩
 | _::_, [],_,_,h=>h.elim
def cntK:List AB→Nat→(Nat→Prop)→Prop
 | [],n,k=>k n
 | _::r,n,k=>cntK r (n+1) k
theorem cntK_iff:∀ {H:List AB} {n:Nat} {k:Nat→Prop},cntK H n k→k (n+H.length)
 | [],_,_,h=>h
 | _::r,n,k,h=>by
  have:=cntK_iff (H:=r) h
  rw [List.length_cons,show n+(r.length+1)=n+1+r.length by omega]
  exact this
def SelOk (H:List AB) (f:Nat→Nat):List AB→Nat→Prop
 | [],_=>True
 | x::r,i=>hget H (f i)=some (x.ren f)∧SelOk H f r (i+1)
theorem SelOk.get {H:List AB} {f:Nat→Nat}:∀ {R:List AB} {i j:Nat} {x:AB},SelOk H f R i→R[j]? = some x→H[f (i+j)]? = some (x.ren f)
 | [],_,_,_,_,h=>by simp at h
 | y::r,i,0,x,h,hx=>by
  simp at hx;subst hx
  have:=h.1
  rwa [hget_eq] at this
 | y::r,i,j+1,x,h,hx=>by
  have:=SelOk.get (j:=j) h.2 (by simpa using hx)
  rwa [show i+1+j=i+(j+1) by omega] at this

open Classical in
noncomputable def Ctx.after (c c':Ctx) (f:Nat→Nat) (n:Nat):Ctx:=
  { w:=c'.w,base:=c.base,M:=c'.M,dom:=n,
    rho:=fun k=>if h:∃ i,i<c'.dom∧f i=k then c'.rho h.choose else c.rho k,
    len:=fun k=>if h:∃ i,i<c'.dom∧f i=k then c'.len h.choose else c.len k }
def noO:List AB→Bool
 | []=>true
 | .rowo _ _ _ _::_=>false
 | _::r=>noO r
theorem noO_get:∀ {H:List AB},noO H=true→∀ {k:Nat} {t:TypeId} {sz:Nat} {es:List (List AV)} {m:Nat},H[k]? = some (.rowo t sz es m)→False
 | [],_,k,_,_,_,_,h=>by simp at h
 | x::r,h,k,t,sz,es,m,hk=>by
  cases k with
  | zero=>simp at hk;subst hk;simp [noO] at h
  | succ k=>
   simp at hk
   refine noO_get (H:=r) ?_ hk
   cases x <;> simp only [noO] at h <;> first | exact h | cases h
theorem ACalls.frame {P:Program} {q:Bool} {f:FuncId} {args:List AV} {H:List AB} {k:AV→List AB→Prop} (s:List Nat) {args':List AV} {Hin:List AB} {K:AV→List AB→Prop} (h:ACalls P q f args' Hin K)
  (ha:args=AV.renL (ixm s H.length) args') (hlt:AV.ltL args' Hin.length=true) (hin:okH Hin.length Hin=true) (hs:s.length=Hin.length) (hn:s.Nodup) (hb:∀ x∈s,x<H.length) (hsel:SelOk H (ixm s H.length) Hin 0)
  (hk:∀ r R,K r R→cntK H 0 fun d=>putH (ixm s d) s R H fun H=>forceK (r.ren (ixm s d)) fun r=>k r H) (hnr:noO Hin=true:=by rfl):ACalls P q f args H k:=by
 refine⟨h.go,fun w0 M0 c us hs0 hr=>?_⟩
 let g:=ixm s H.length
 have hginj:∀ {i j:Nat},g i=g j→i=j:=fun e=>ixm_inj hn hb e
 have hget0:∀ {i:Nat} {x:AB},Hin[i]? = some x→H[g i]? = some (x.ren g):=fun hx=>by have:=hsel.get hx;rwa [Nat.zero_add] at this
 have hlow:∀ {i:Nat},i<Hin.length→g i∈s:=fun hi=>by
  rcases ixm_or s H.length _ with ⟨_,h2⟩ | ⟨h1,_⟩
  ·exact h2
  ·omega
 have hhigh:∀ {i:Nat},g i<H.length→i<Hin.length:=fun {i} hi=>by
  rcases ixm_or s H.length i with ⟨h1,_⟩ | ⟨h1,h2⟩
  ·omega
  ·simp only [g] at hi;omega
 let cl:Ctx:={ w:=c.w,base:=c.base,M:=c.M,dom:=Hin.length,rho:=fun i=>c.rho (g i),len:=fun i=>c.len (g i) }
 let w1:Fl:=⟨c.w,fun b=>b<c.w.heap.size∧∀ i x,Hin[i]? = some x→x.live=true→oB (c.rho (g i))≠some b,fun _ h=>h.1,fun w' h1 h2=>w0.gl w' (Nat.le_trans hs0.low.size h1) fun b hb'=>(h2 b ⟨Nat.lt_of_lt_of_le (w0.lt b hb') hs0.low.size,fun i x hx hl ho=>(hs0.own _ _ _ (hget0 hx) (by rw [AB.ren_live];exact hl) ho).2 hb'⟩).trans (hs0.low.block b hb'),True⟩
 have hcl:Ext c.closed cl.closed:=⟨rfl,rfl,rfl,Nat.le_refl _,fun _ _ h=>⟨h,rfl⟩,Nat.zero_le _,fun k hk=>absurd hk (Nat.not_lt_zero k),fun k hk=>absurd hk (Nat.not_lt_zero k),fun k _ hk=>absurd hk (Nat.not_lt_zero k)⟩
 have hun:∀ k,k<cl.dom→cl.rho k=c.rho (g k)∧cl.len k=c.len (g k):=fun _ _=>⟨rfl,rfl⟩
 have hown:∀ {i:Nat} {x:AB} {b:Nat},Hin[i]? = some x→x.live=true→oB (c.rho (g i))=some b→c.M b∧¬w0.old b:=fun hx hl ho=>hs0.own _ _ _ (hget0 hx) (by rw [AB.ren_live];exact hl) ho
 have hHS:HS w1 c.M cl Hin:=by
  refine⟨⟨rfl,rfl,rfl,Nat.le_refl _,fun _ _=>rfl⟩,hs0.base,rfl,fun _ _=>Iff.rfl,hs0.lt,fun i x hx=>?_,fun i x b hx hl ho=>⟨(hown hx hl ho).1,fun hold=>hold.2 i x hx hl ho⟩,fun i j x y b hi hj hx hy ho ho'=>?_⟩
  ·have hbk:=hs0.blk _ _ (hget0 hx)
   cases x with
   | dead=>trivial
   | box t cs=>
    obtain⟨b,xs,h1,h2,h3,h4⟩:=hbk
    exact⟨b,xs,h1,h2,RdL.unren hun hcl cs (okH_get hin i t cs hx) h3,h4⟩
   | iter s pos=>
    obtain⟨b,h1,h2⟩:=hbk
    exact⟨b,h1,h2⟩
   | row t sz es=>
    obtain⟨h1,h2,h3,xs,h4,h5,h6⟩:=hbk
    exact⟨h1,h2,h3,xs,h4,RdL.ext _ hcl h5,h6⟩
   | rowo t sz es m=>
    obtain⟨h1,h2,h3,h3',xs,h4,h5,h6⟩:=hbk
    exact(noO_get hnr hx).elim
  ·exact hginj (hs0.dis _ _ _ _ b (hget0 hi) (hget0 hj) (by rw [AB.ren_live];exact hx) (by rw [AB.ren_live];exact hy) ho ho')
 refine(h.calls w1 c.M cl us hHS (RdL.unren hun hcl args' hlt (by rw [←ha];exact hr))).mono ?_
 rintro e w' ⟨v,c',r,R,rfl,rfl,q1,q2,q3,q4,q5⟩
 have h1:=cntK_iff (hk r R q1)
 rw [Nat.zero_add] at h1
 obtain⟨hlen,h1⟩:=putH_iff h1
 have h1:=forceK_iff h1
 have hdom:c'.dom=R.length:=q2.dom
 have hmR:Hin.length≤R.length:=by omega
 let n:=H.length+(R.length - s.length)
 have hgn:∀ {i:Nat},i<R.length→g i<n:=fun {i} hi=>by
  rcases ixm_or s H.length i with ⟨_,h2⟩ | ⟨h2,h3⟩
  ·have:=hb _ h2;simp only [g,n];omega
  ·simp only [g,n,h3];omega
 let cj:=c.after c' g n
 have hrho:∀ {i:Nat},i<c'.dom→cj.rho (g i)=c'.rho i∧cj.len (g i)=c'.len i:=fun {i} hi=>by
  have hex:∃ j,j<c'.dom∧g j=g i:=⟨i,hi,rfl⟩
  have:=hginj hex.choose_spec.2
  simp only [cj,Ctx.after]
  rw [dif_pos hex,dif_pos hex,this]
  exact⟨rfl,rfl⟩
 have hrho2:∀ {k:Nat},k<H.length→k ∉ s→cj.rho k=c.rho k∧cj.len k=c.len k:=fun {k} hk hks=>by
  have hex:¬∃ j,j<c'.dom∧g j=k:=by
   rintro⟨j,_,rfl⟩
   exact hks (hlow (hhigh hk))
  simp only [cj,Ctx.after]
  rw [dif_neg hex,dif_neg hex]
  exact⟨rfl,rfl⟩
 have hmem:∀ {k:Nat},k∈s→∃ i,i<Hin.length∧g i=k:=by
  have:∀ (s:List Nat) (d k:Nat),k∈s→∃ i,i<s.length∧ixm s d i=k:=by
   intro s d k hk
   induction s with
   | nil=>simp at hk
   | cons x r ih=>
    rcases List.mem_cons.1 hk with rfl | hk
    ·exact⟨0,by simp,rfl⟩
    ·obtain⟨i,h1,h2⟩:=ih hk
     exact⟨i+1,by simp;omega,h2⟩
  intro k hk
  obtain⟨i,h1,h2⟩:=this s H.length k hk
  exact⟨i,by omega,h2⟩
 have hold:∀ {b:Nat},w0.old b→w1.old b:=fun {b} hb'=>⟨Nat.lt_of_lt_of_le (w0.lt b hb') hs0.low.size,fun i x hx hl ho=>(hown hx hl ho).2 hb'⟩
 have hold2:∀ {b:Nat},b<c.w.heap.size→¬c.M b→w1.old b:=fun {b} hb' hm=>⟨hb',fun i x hx hl ho=>hm (hown hx hl ho).1⟩
 have hold3:∀ {k:Nat} {y:AB} {b:Nat},k ∉ s→H[k]? = some y→y.live=true→oB (c.rho k)=some b→w1.old b:=fun {k y b} hks hy hl ho=>
  ⟨hs0.sub hy hl ho,fun i x hx hl' ho'=>by
   have:=hs0.dis k (g i) y _ b hy (hget0 hx) hl (by rw [AB.ren_live];exact hl') ho ho'
   exact hks (this ▸ hlow (List.getElem?_eq_some_iff.1 hx).1)⟩
 have hcj:Ext c'.closed cj.closed:=⟨rfl,rfl,rfl,Nat.le_refl _,fun _ _ h=>⟨h,rfl⟩,Nat.zero_le _,fun k hk=>absurd hk (Nat.not_lt_zero k),fun k hk=>absurd hk (Nat.not_lt_zero k),fun k _ hk=>absurd hk (Nat.not_lt_zero k)⟩
 have hren:∀ k,k<c'.dom→g k<cj.dom∧cj.rho (g k)=c'.rho k∧cj.len (g k)=c'.len k:=fun k hk=>⟨hgn (by omega),hrho hk⟩
 have hE:Ext c cj:=by
  refine⟨q2.low.os,q2.low.tape,q2.low.output,q2.low.size,fun b hb' hm=>?_,?_,fun k hk=>?_,fun k hk hl=>?_,fun k b hk hg=>?_⟩
  ·have ho:=hold2 hb' hm
   exact⟨fun hm'=>hm ((q2.foreign b ho).1 hm'),q2.low.block b ho⟩
  ·show c.dom≤n;rw [hs0.dom];exact Nat.le_add_right _ _
  ·rw [hs0.dom] at hk
   by_cases hks:k∈s
   ·obtain⟨i,hi,rfl⟩:=hmem hks
    rw [(hrho (by omega:i<c'.dom)).2]
    exact q3.len i hi
   ·rw [(hrho2 hk hks).2];exact Nat.le_refl _
  ·rw [hs0.dom] at hk
   by_cases hks:k∈s
   ·obtain⟨i,hi,rfl⟩:=hmem hks
    rw [(hrho (by omega:i<c'.dom)).2] at hl
    rw [(hrho (by omega:i<c'.dom)).1]
    exact q3.rho i hi hl
   ·exact(hrho2 hk hks).1
  ·rw [hs0.dom] at hk
   by_cases hks:k∈s
   ·obtain⟨i,hi,rfl⟩:=hmem hks
    rw [(hrho (by omega:i<c'.dom)).1]
    exact q3.box i b hi hg
   ·rw [(hrho2 hk hks).1];exact hg
 refine⟨v,cj,r.ren g,_,rfl,rfl,h1,?_,hE,Rd.ren hren hcj r q4,q5⟩
 have hdj:∀ {j:Nat} {x:AB},R[j]? = some x→j<c'.dom:=fun hx=>by rw [hdom];exact(List.getElem?_eq_some_iff.1 hx).1
 refine⟨⟨q2.low.os.trans hs0.low.os,q2.low.tape.trans hs0.low.tape,q2.low.output.trans hs0.low.output,Nat.le_trans hs0.low.size q2.low.size,fun b hb'=>(q2.low.block b (hold hb')).trans (hs0.low.block b hb')⟩,hs0.base,(mergeH_len _ hlen).symm,fun b hb'=>(q2.foreign b (hold hb')).trans (hs0.foreign b hb'),q2.lt,fun k y hy=>?_,fun k y b hy hl ho=>?_,fun i k y z b hi hk' hy hz hoi hok=>?_⟩
 ·rcases mergeH_get _ hlen hy with ⟨j,x,h2,rfl,rfl⟩ | ⟨h2,h3,h4⟩
  ·have hbk:=q2.blk j x h2
   have hj:=hrho (hdj h2)
   cases x with
   | dead=>trivial
   | box t cs=>
    obtain⟨b,xs,h5,h6,h7,h8⟩:=hbk
    exact⟨b,xs,hj.1.trans h5,h6,RdL.ren hren hcj cs h7,h8⟩
   | iter s pos=>
    obtain⟨b,h5,h6⟩:=hbk
    exact⟨b,hj.1.trans h5,h6⟩
   | row t sz es=>
    obtain⟨h5,h6,h7,xs,h8,h9,h10⟩:=hbk
    refine⟨hj.2.trans h5,h6,h7,xs,?_,RdL.ext _ hcj h9,h10⟩
    have eb:cj.base=c'.base:=hs0.base.trans q2.base.symm
    show c'.w.ownsRow cj.base t sz (cj.rho (g j)) es.length xs
    rw [hj.1,eb]
    exact h8
   | rowo t sz es m=>
    obtain⟨h5,h6,h7,h7',xs,h8,h9,h10⟩:=hbk
    refine⟨by rw [List.length_map];exact hj.2.trans h5,h6,fun e he=>?_,?_,xs,?_,?_,h10⟩
    ·obtain⟨e0,he0,rfl⟩:=List.mem_map.1 he
     rw [AV.renL_len];exact h7 e0 he0
    ·rw [AV.renL_flat];exact AV.renL_lt _ h7'
    ·have eb:cj.base=c'.base:=hs0.base.trans q2.base.symm
     show c'.w.ownsRow cj.base t sz (cj.rho (g j)) (es.map (AV.renL g)).length xs
     rw [hj.1,eb,List.length_map]
     exact h8
    ·rw [AV.renL_flat];exact RdL.ren hren hcj _ h9
  ·have hkd:k<c.dom:=by rw [hs0.dom];exact h2
   exact BlkOk.ext hE rfl hkd (hrho2 h2 h3).2 (fun b hl ho=>q2.low.block b (hold3 h3 h4 hl ho)) (hs0.blk k y h4)
 ·rcases mergeH_get _ hlen hy with ⟨j,x,h2,rfl,rfl⟩ | ⟨h2,h3,h4⟩
  ·have ho':oB (cj.rho (g j))=some b:=ho
   rw [(hrho (hdj h2)).1] at ho'
   have:=q2.own j x b h2 (by rw [AB.ren_live] at hl;exact hl) ho'
   exact⟨this.1,fun hb'=>this.2 (hold hb')⟩
  ·rw [(hrho2 h2 h3).1] at ho
   have ho2:=hold3 h3 h4 hl ho
   have:=hs0.own k y b h4 hl ho
   exact⟨(q2.foreign b ho2).2 this.1,this.2⟩
 ·rcases mergeH_get _ hlen hi with ⟨j,x,h2,rfl,rfl⟩ | ⟨h2,h3,h4⟩ <;> rcases mergeH_get _ hlen hk' with ⟨j',x',h2',rfl,rfl⟩ | ⟨h2',h3',h4'⟩
  ·have e1:oB (cj.rho (g j))=some b:=hoi
   have e2:oB (cj.rho (g j'))=some b:=hok
   rw [(hrho (hdj h2)).1] at e1
   rw [(hrho (hdj h2')).1] at e2
   rw [AB.ren_live] at hy hz
   rw [q2.dis j j' x x' b h2 h2' hy hz e1 e2]
  ·have e1:oB (cj.rho (g j))=some b:=hoi
   rw [(hrho (hdj h2)).1] at e1
   rw [(hrho2 h2' h3').1] at hok
   rw [AB.ren_live] at hy
   exact((q2.own j x b h2 hy e1).2 (hold3 h3' h4' hz hok)).elim
  ·have e2:oB (cj.rho (g j'))=some b:=hok
   rw [(hrho (hdj h2')).1] at e2
   rw [(hrho2 h2 h3).1] at hoi
   rw [AB.ren_live] at hz
   exact((q2.own j' x' b h2' hz e2).2 (hold3 h3 h4 hy hoi)).elim
  ·rw [(hrho2 h2 h3).1] at hoi
   rw [(hrho2 h2' h3').1] at hok
   exact hs0.dis i k y z b h4 h4' hy hz hoi hok

def sealH (x:AV) (H:List AB) (k:AV→List AB→Prop):Prop:=
 match x with
 | .tp l=>sealA l H fun l H=>k (.tp l) H
 | x=>seal1 x H k
def finG (T:Tys) (m:Nat) (rs:List ResultVar) (K:AV→List AB→Prop):QA:=fun ex fr H=>match ex with
 | .exit _=>False
 | _=>retK T rs fr H fun x=>sealH x H fun x H=>∃ r H2,(∀ c v,Rd x c v→Rd r c v)∧wkH H2 H∧okH H2.length H2=true∧Nat.ble m H2.length=true∧K r H2
theorem sealH_sound {w0:Fl} {M0:Ms} {c:Ctx} {H:List AB} {x:AV} {u:Value} {k:AV→List AB→Prop} (hs:HS w0 M0 c H) (hr:Rd x c u) (h:sealH x H k) :
  ∃ r H' c',k r H'∧c'.w=c.w∧HS w0 M0 c' H'∧Ext c c'∧Rd r c'.closed u:=by
 unfold sealH at h
 split at h
 ·simp only [Rd] at hr
  obtain⟨xs,rfl,hx⟩:=hr
  obtain⟨l',H',c',q1,q2,q3,q4,q5,q6⟩:=sealA_sound hs hx h
  exact⟨_,H',c',q1,q2,q3,q4,by simp only [Rd];exact⟨xs,rfl,q5⟩⟩
 ·obtain⟨r,H',c',q1,q2,q3,q4,q5,_⟩:=seal1_sound hs hr h
  exact⟨r,H',c',q1,q2,q3,q4,q5⟩
theorem ACalls.of {P : Program} {T : Tys} (hT : TOk P T) {f : FuncId} {fn : Func} {body : Code} {args : List AV} {Hin : List AB} {K : AV → List AB → Prop} (hf : P.funcs[f]? = some fn) (hb : fn.body = some body) (hname : (fn.name == "runtime.NumGoroutine") = false) (hn : args.length ≤ fn.ntmps)
  (h:aCode P T fn.ntmps Hin.length body (finG T Hin.length fn.results.toList K) (frOf 0 args) Hin):ACalls P false f args Hin K:=by
 refine⟨⟨fn,hf,by rw [hb];rfl,hname⟩,fun w0 M0 c0 us hs0 hr=>?_⟩
 have hlen:=hr.length
 have hFR:FR (w0.at c0.w hs0.low) c0 fn.ntmps (frOf 0 args) { tmps:=us.toArray ++ Array.replicate (fn.ntmps - us.toArray.size) undef,defers:= [] }:=by
  refine⟨by simp;omega,trivial,fun i=>?_⟩
  have:=frOf_rd (c:=c0) (m:=fn.ntmps - us.length) (l:=args) (i:=0) (pre:= []) rfl hr i
  rw [Array.getD_eq_getD_getElem?]
  have e:(us.toArray ++ Array.replicate (fn.ntmps - us.toArray.size) undef)[i]? = ([] ++ us ++ List.replicate (fn.ntmps - us.length) undef)[i]? :=by
   have:(us.toArray ++ Array.replicate (fn.ntmps - us.toArray.size) undef)=([] ++ us ++ List.replicate (fn.ntmps - us.length) undef).toArray:=Array.ext' (by simp)
   rw [this];simp only [List.getElem?_toArray]
  rw [e]
  exact this
 have fin:∀ a w,Lift (w0.at c0.w hs0.low) M0 c0 fn.ntmps (fun fr H=>retK T fn.results.toList fr H fun x=>sealH x H fun x H=>∃ r H2,(∀ c v,Rd x c v→Rd r c v)∧wkH H2 H∧okH H2.length H2=true∧Nat.ble Hin.length H2.length=true∧K r H2) a w→∃ v,(results fn a.tmps).run P w = .ok v w∧∃ v' c' r H',Ending.returned v = .returned v'∧c'.w=w∧K r H'∧HS w0 M0 c' H'∧Ext c0 c'∧Rd r c' v'∧(false=true→Old c0.w w):=by
  rintro a w ⟨c,fr,H,rfl,h1,h2,h3,h4⟩
  obtain⟨x,v,q1,q2,q3⟩:=retK_sound hT h2 h3 h1
  obtain⟨x',H',c1,⟨r,H2,o1,o2,o3,o4,o5⟩,p2,p3,p4,p5⟩:=sealH_sound h2 q2 q1
  have hcut:Cut c1 { c1 with dom:=H2.length }:=⟨⟨rfl,rfl,rfl,Nat.le_refl _,fun _ _ h=>⟨h,rfl⟩,Nat.le_refl _,fun k hk=>absurd hk (Nat.not_lt_zero k),fun k hk=>absurd hk (Nat.not_lt_zero k),fun k _ hk=>absurd hk (Nat.not_lt_zero k)⟩,fun _ _=>⟨rfl,rfl⟩⟩
  have hml:=Nat.le_of_ble_eq_true o4
  have he:=h4.trans p4
  refine⟨v,q3,v,{ c1 with dom:=H2.length },r,H2,rfl,p2,o5,⟨LowF.ofAt p3.low,p3.base,rfl,p3.foreign,p3.lt,fun k y hk=>?_,fun k y g hk hl ho=>p3.own k y g (wkH_get o2 k y hk hl) hl ho,fun j k y z g hj hk hy hz ho ho'=>p3.dis j k y z g (wkH_get o2 j y hj hy) (wkH_get o2 k z hk hz) hy hz ho ho'⟩,⟨he.os,he.tape,he.output,he.size,he.keep,by show c0.dom≤H2.length;rw [hs0.dom];exact hml,he.len,he.rho,he.box⟩,o1 _ _ (Rd.ext (c:=c1.closed) (c':={ c1 with dom:=H2.length }) _ ⟨rfl,rfl,rfl,Nat.le_refl _,fun _ _ h=>⟨h,rfl⟩,Nat.zero_le _,fun k hk=>absurd hk (Nat.not_lt_zero k),fun k hk=>absurd hk (Nat.not_lt_zero k),fun k _ hk=>absurd hk (Nat.not_lt_zero k)⟩ p5),fun e=>by cases e⟩
  cases y with
  | dead=>trivial
  | box t cs=>
   obtain⟨g,xs,h1,h2,h3,h4⟩:=p3.blk k _ (wkH_get o2 k _ hk rfl)
   exact⟨g,xs,h1,h2,RdL.cut cs hcut (okH_get o3 k t cs hk) h3,h4⟩
  | iter s pos=>
   obtain⟨g,h1,h2⟩:=p3.blk k _ (wkH_get o2 k _ hk rfl)
   exact⟨g,h1,h2⟩
  | row t sz es=>
   obtain⟨h1,h2,h3,xs,h4,h5,h6⟩:=p3.blk k _ (wkH_get o2 k _ hk rfl)
   exact⟨h1,h2,h3,xs,h4,h5,h6⟩
  | rowo t sz es m=>
   obtain⟨h1,h2,h3,h3',xs,h4,h5,h6⟩:=p3.blk k _ (wkH_get o2 k _ hk rfl)
   exact⟨h1,h2,h3,h3',xs,h4,RdL.cut _ hcut (okH_rowo o3 hk h3') h5,h6⟩
 refine calls_marks hf hb trivial (Nat.le_refl _) fin ?_
 refine aCode_sound (w0:=w0.at c0.w hs0.low) (M0:=M0) (ce:=c0) hT hs0.dom body _ _ c0 _ Hin _ (lift_ends rfl rfl fun _ _ _ h=>h) hs0.toAt hFR (Ext.refl _) h
def finGO (T:Tys) (m:Nat) (rs:List ResultVar) (K:AV→List AB→Prop):QA:=fun ex fr H=>match ex with
 | .exit _=>False
 | _=>retK T rs fr H fun x=>∃ r H2,(∀ c v,Rd x c v→Rd r c v)∧wkH H2 H∧okH H2.length H2=true∧(Nat.ble m H2.length=true∧r.lt H2.length=true)∧K r H2
theorem ACalls.ofO {P : Program} {T : Tys} (hT : TOk P T) {f : FuncId} {fn : Func} {body : Code} {args : List AV} {Hin : List AB} {K : AV → List AB → Prop} (hf : P.funcs[f]? = some fn) (hb : fn.body = some body) (hname : (fn.name == "runtime.NumGoroutine") = false) (hn : args.length ≤ fn.ntmps)
  (h:aCode P T fn.ntmps Hin.length body (finGO T Hin.length fn.results.toList K) (frOf 0 args) Hin):ACalls P false f args Hin K:=by
 refine⟨⟨fn,hf,by rw [hb];rfl,hname⟩,fun w0 M0 c0 us hs0 hr=>?_⟩
 have hlen:=hr.length
 have hFR:FR (w0.at c0.w hs0.low) c0 fn.ntmps (frOf 0 args) { tmps:=us.toArray ++ Array.replicate (fn.ntmps - us.toArray.size) undef,defers:= [] }:=by
  refine⟨by simp;omega,trivial,fun i=>?_⟩
  have:=frOf_rd (c:=c0) (m:=fn.ntmps - us.length) (l:=args) (i:=0) (pre:= []) rfl hr i
  rw [Array.getD_eq_getD_getElem?]
  have e:(us.toArray ++ Array.replicate (fn.ntmps - us.toArray.size) undef)[i]? = ([] ++ us ++ List.replicate (fn.ntmps - us.length) undef)[i]? :=by
   have:(us.toArray ++ Array.replicate (fn.ntmps - us.toArray.size) undef)=([] ++ us ++ List.replicate (fn.ntmps - us.length) undef).toArray:=Array.ext' (by simp)
   rw [this];simp only [List.getElem?_toArray]
  rw [e]
  exact this
 have fin:∀ a w,Lift (w0.at c0.w hs0.low) M0 c0 fn.ntmps (fun fr H=>retK T fn.results.toList fr H fun x=>∃ r H2,(∀ c v,Rd x c v→Rd r c v)∧wkH H2 H∧okH H2.length H2=true∧(Nat.ble Hin.length H2.length=true∧r.lt H2.length=true)∧K r H2) a w→∃ v,(results fn a.tmps).run P w = .ok v w∧∃ v' c' r H',Ending.returned v = .returned v'∧c'.w=w∧K r H'∧HS w0 M0 c' H'∧Ext c0 c'∧Rd r c' v'∧(false=true→Old c0.w w):=by
  rintro a w ⟨c,fr,H,rfl,h1,h2,h3,h4⟩
  obtain⟨x,v,⟨r,H2,o1,o2,o3,⟨o4,o6⟩,o5⟩,q2,q3⟩:=retK_sound hT h2 h3 h1
  obtain⟨c1,p3,hcc⟩:∃ c1:Ctx,HS (w0.at c0.w hs0.low) M0 c1 H∧c1=c:=⟨c,h2,rfl⟩
  subst hcc
  have hcut:Cut c1 { c1 with dom:=H2.length }:=⟨⟨rfl,rfl,rfl,Nat.le_refl _,fun _ _ h=>⟨h,rfl⟩,Nat.le_refl _,fun k hk=>absurd hk (Nat.not_lt_zero k),fun k hk=>absurd hk (Nat.not_lt_zero k),fun k _ hk=>absurd hk (Nat.not_lt_zero k)⟩,fun _ _=>⟨rfl,rfl⟩⟩
  have hml:=Nat.le_of_ble_eq_true o4
  have he:=h4
  refine⟨v,q3,v,{ c1 with dom:=H2.length },r,H2,rfl,rfl,o5,⟨LowF.ofAt p3.low,p3.base,rfl,p3.foreign,p3.lt,fun k y hk=>?_,fun k y g hk hl ho=>p3.own k y g (wkH_get o2 k y hk hl) hl ho,fun j k y z g hj hk hy hz ho ho'=>p3.dis j k y z g (wkH_get o2 j y hj hy) (wkH_get o2 k z hk hz) hy hz ho ho'⟩,⟨he.os,he.tape,he.output,he.size,he.keep,by show c0.dom≤H2.length;rw [hs0.dom];exact hml,he.len,he.rho,he.box⟩,Rd.cut r hcut o6 (o1 _ _ q2),fun e=>by cases e⟩
  cases y with
  | dead=>trivial
  | box t cs=>
   obtain⟨g,xs,h1,h2,h3,h4⟩:=p3.blk k _ (wkH_get o2 k _ hk rfl)
   exact⟨g,xs,h1,h2,RdL.cut cs hcut (okH_get o3 k t cs hk) h3,h4⟩
  | iter s pos=>
   obtain⟨g,h1,h2⟩:=p3.blk k _ (wkH_get o2 k _ hk rfl)
   exact⟨g,h1,h2⟩
  | row t sz es=>
   obtain⟨h1,h2,h3,xs,h4,h5,h6⟩:=p3.blk k _ (wkH_get o2 k _ hk rfl)
   exact⟨h1,h2,h3,xs,h4,h5,h6⟩
  | rowo t sz es m=>
   obtain⟨h1,h2,h3,h3',xs,h4,h5,h6⟩:=p3.blk k _ (wkH_get o2 k _ hk rfl)
   exact⟨h1,h2,h3,h3',xs,h4,RdL.cut _ hcut (okH_rowo o3 hk h3') h5,h6⟩
 refine calls_marks hf hb trivial (Nat.le_refl _) fin ?_
 refine aCode_sound (w0:=w0.at c0.w hs0.low) (M0:=M0) (ce:=c0) hT hs0.dom body _ _ c0 _ Hin _ (lift_ends rfl rfl fun _ _ _ h=>h) hs0.toAt hFR (Ext.refl _) h
def finGW (T:Tys) (m:Nat) (rs:List ResultVar) (K:AV→List AB→Prop):QA:=fun ex fr H=>match ex with
 | .exit _=>False
 | _=>retK T rs fr H fun x=>∃ y r H2,(∀ c v,Rd x c v→Rd y c v)∧Wk m [(0,y)] H [(0,r)] H2∧K r H2
theorem ACalls.ofW {P : Program} {T : Tys} (hT : TOk P T) {f : FuncId} {fn : Func} {body : Code} {args : List AV} {Hin : List AB} {K : AV → List AB → Prop} (hf : P.funcs[f]? = some fn) (hb : fn.body = some body) (hname : (fn.name == "runtime.NumGoroutine") = false) (hn : args.length ≤ fn.ntmps)
  (h:aCode P T fn.ntmps Hin.length body (finGW T Hin.length fn.results.toList K) (frOf 0 args) Hin):ACalls P false f args Hin K:=by
 refine⟨⟨fn,hf,by rw [hb];rfl,hname⟩,fun w0 M0 c0 us hs0 hr=>?_⟩
 have hlen:=hr.length
 have hFR:FR (w0.at c0.w hs0.low) c0 fn.ntmps (frOf 0 args) { tmps:=us.toArray ++ Array.replicate (fn.ntmps - us.toArray.size) undef,defers:= [] }:=by
  refine⟨by simp;omega,trivial,fun i=>?_⟩
  have:=frOf_rd (c:=c0) (m:=fn.ntmps - us.length) (l:=args) (i:=0) (pre:= []) rfl hr i
  rw [Array.getD_eq_getD_getElem?]
  have e:(us.toArray ++ Array.replicate (fn.ntmps - us.toArray.size) undef)[i]? = ([] ++ us ++ List.replicate (fn.ntmps - us.length) undef)[i]? :=by
   have:(us.toArray ++ Array.replicate (fn.ntmps - us.toArray.size) undef)=([] ++ us ++ List.replicate (fn.ntmps - us.length) undef).toArray:=Array.ext' (by simp)
   rw [this];simp only [List.getElem?_toArray]
  rw [e]
  exact this
 have fin:∀ a w,Lift (w0.at c0.w hs0.low) M0 c0 fn.ntmps (fun fr H=>retK T fn.results.toList fr H fun x=>∃ y r H2,(∀ c v,Rd x c v→Rd y c v)∧Wk Hin.length [(0,y)] H [(0,r)] H2∧K r H2) a w→∃ v,(results fn a.tmps).run P w = .ok v w∧∃ v' c' r H',Ending.returned v = .returned v'∧c'.w=w∧K r H'∧HS w0 M0 c' H'∧Ext c0 c'∧Rd r c' v'∧(false=true→Old c0.w w):=by
  rintro a w ⟨c,fr,H,rfl,h1,h2,h3,h4⟩
  obtain⟨x,v,⟨y,r,H2,o1,o2,o3⟩,q2,q3⟩:=retK_sound hT h2 h3 h1
  have hfr:FR (w0.at c0.w hs0.low) c 1 [(0,y)] { tmps:= #[v],defers:= [] }:=by
   refine⟨rfl,trivial,fun i=>?_⟩
   unfold fget
   cases i with
   | zero=>exact o1 _ _ q2
   | succ i=>show Rd .top c _;simp [Rd]
  obtain⟨c',e1,e2,e3,e4⟩:=o2.sound hs0.dom h2 hfr h4
  have hr':=e3.get 0
  refine⟨v,q3,v,c',r,H2,rfl,e1,o3,⟨LowF.ofAt e2.low,e2.base,e2.dom,e2.foreign,e2.lt,e2.blk,e2.own,e2.dis⟩,e4,?_,fun e=>by cases e⟩
  simpa [fget] using hr'
 refine calls_marks hf hb trivial (Nat.le_refl _) fin ?_
 refine aCode_sound (w0:=w0.at c0.w hs0.low) (M0:=M0) (ce:=c0) hT hs0.dom body _ _ c0 _ Hin _ (lift_ends rfl rfl fun _ _ _ h=>h) hs0.toAt hFR (Ext.refl _) h
theorem aLoop.ruleC {d0:Nat} {body:QA→Fr→List AB→Prop} {Q:QA} {fr:Fr} {H:List AB} (ι:Type) (st:ι→Fr × List AB) (I:ι→Prop) (μ:ι→Nat) (x0:ι) (h0:I x0) (hw:WkC d0 fr H (st x0).1 (st x0).2)
  (round:∀ x,I x→body (fun ex fr' H'=>match ex with | .normal=>∃ x',I x'∧μ x'<μ x∧WkC d0 fr' H' (st x').1 (st x').2 | e=>Q e fr' H') (st x).1 (st x).2):aLoop d0 body Q fr H:=
 ⟨.inr (.inr (.inl ⟨ι,st,I,μ,⟨x0,h0,hw⟩,round⟩))⟩
theorem aLoop.ruleR {d0:Nat} {body:QA→Fr→List AB→Prop} {Q:QA} {fr:Fr} {H:List AB} (ι:Type) (st:ι→Fr × List AB) (I:ι→Prop) (μ:ι→Nat) (x0:ι) (h0:I x0) (hw:WkC d0 fr H (st x0).1 (st x0).2)
  (round:∀ x,I x→body (fun ex fr' H'=>match ex with | .normal=>∃ x',I x'∧μ x'<μ x∧WkR d0 fr' H' (st x').1 (st x').2 | e=>Q e fr' H') (st x).1 (st x).2):aLoop d0 body Q fr H:=
 ⟨.inr (.inr (.inr ⟨ι,st,I,μ,⟨x0,h0, .inl hw⟩,round⟩))⟩
theorem aLoop.ruleRR {d0:Nat} {body:QA→Fr→List AB→Prop} {Q:QA} {fr:Fr} {H:List AB} (ι:Type) (st:ι→Fr × List AB) (I:ι→Prop) (μ:ι→Nat) (x0:ι) (h0:I x0) (hw:WkR d0 fr H (st x0).1 (st x0).2)
  (round:∀ x,I x→body (fun ex fr' H'=>match ex with | .normal=>∃ x',I x'∧μ x'<μ x∧WkR d0 fr' H' (st x').1 (st x').2 | e=>Q e fr' H') (st x).1 (st x).2):aLoop d0 body Q fr H:=
 ⟨.inr (.inr (.inr ⟨ι,st,I,μ,⟨x0,h0, .inr hw⟩,round⟩))⟩

theorem ConvH.rowo {H:List AB} {k:Nat} {t:TypeId} {sz:Nat} {es:List (List AV)} (hk:H[k]? = some (.row t sz es)):ConvH H (H.set k (.rowo t sz es 0)):=fun _ _ c hs=>
 ⟨c,rfl,hs.recell hk rfl fun⟨h1,h2,h3,xs,h4,h5,h6⟩=>⟨h1,h2,h3,RdL.lt_dom _ h5,xs,h4,RdL.ext _ (Ext.ofClosed c) h5,h6⟩,Ext.refl c⟩
theorem ConvH.row {H:List AB} {k:Nat} {t:TypeId} {sz m:Nat} {es:List (List AV)} (hk:H[k]? = some (.rowo t sz es m)) (hl:AV.ltL es.flatten 0=true):ConvH H (H.set k (.row t sz es)):=fun _ _ c hs=>
 ⟨c,rfl,hs.recell hk rfl fun⟨h1,h2,h3,_,xs,h4,h5,h6⟩=>⟨h1,h2,h3,xs,h4,RdL.cut (c:=c) (c':=c.closed) _ ⟨Ext.refl c.closed,fun k hk=>absurd hk (Nat.not_lt_zero k)⟩ hl h5,h6⟩,Ext.refl c⟩
def AV.slIn (k n:Nat) (s:AV) (x:AV):AV:=match x with
 | .ow j m=>if j=k then (if m=n then s else .top) else .ow j m
 | x=>x
theorem slIn_lt {k n:Nat} {y:AV} (hs:y.lt 0=true) {m:Nat} {x:AV} (h:x.lt m=true):(AV.slIn k n y x).lt m=true:=by
 unfold AV.slIn
 split
 ·split
  ·split
   ·exact AV.lt_mono y (Nat.zero_le _) hs
   ·rfl
  ·exact h
 ·exact h
theorem ConvH.sealIn {H:List AB} (j k:Nat) {t t':TypeId} {sz sz' m:Nat} {es es' es2:List (List AV)} (hj:H[j]? = some (.rowo t sz es m)) (hk:H[k]? = some (.row t' sz' es'))
  (he:es.map (List.map (AV.slIn k es'.length (.sl sz' es'.length fun i=>es'.getD i [])))=es2):ConvH H ((H.set k .dead).set j (.rowo t sz es2 m)):=by
 intro w0 M0 c hs
 subst he
 have hjk:j≠k:=by rintro rfl;rw [hj] at hk;cases hk
 obtain⟨c1,e1,s1,x1,r1⟩:=hs.freeze hk
 have hj1:(H.set k .dead)[j]? = some (.rowo t sz es m):=by rw [List.getElem?_set_ne (Ne.symm hjk)];exact hj
 refine⟨c1,e1,s1.recell hj1 rfl ?_,x1⟩
 rintro⟨h1,h2,h3,h4,_⟩
 obtain⟨q0,_,_,_,ys,q1,q2,q3⟩:=hs.blk j _ hj
 have hrho:=x1.rho j (hs.klt hj) (by omega)
 have hbase:c1.base=c.base:=s1.base.trans hs.base.symm
 refine⟨by rw [List.length_map];exact h1,h2,fun e he=>?_,?_,ys,by rw [List.length_map,e1,hrho,hbase];exact q1,?_,q3⟩
 ·obtain⟨e0,h8,rfl⟩:=List.mem_map.1 he
  rw [List.length_map]
  exact h3 e0 h8
 ·rw [←List.map_flatten,ltL_iff]
  intro x hx
  obtain⟨y,hy,rfl⟩:=List.mem_map.1 hx
  exact slIn_lt rfl (ltL_iff.1 h4 y hy)
 ·rw [←List.map_flatten]
  have h8:∀ (l:List AV) (us:List Value),RdL l c us→RdL (l.map (AV.slIn k es'.length (.sl sz' es'.length fun i=>es'.getD i []))) c1 us:=by
   intro l
   induction l with
   | nil=>intro us h;simp only [RdL] at h;subst h;simp [RdL]
   | cons x l ih=>
    intro us h
    simp only [RdL] at h
    obtain⟨u,vs,rfl,a1,a2⟩:=h
    simp only [List.map_cons,RdL]
    refine⟨u,vs,rfl,?_,ih vs a2⟩
    unfold AV.slIn
    split
    ·rename_i i n
     split
     ·rename_i hik
      subst hik
      split
      ·rename_i hn
       subst hn
       exact r1 u a1
      ·simp [Rd]
     ·exact Rd.ext _ x1 a1
    ·exact Rd.ext _ x1 a1
  exact h8 _ _ q2

def finGC (T:Tys) (m:Nat) (rs:List ResultVar) (K:AV→List AB→Prop):QA:=fun ex fr H=>match ex with
 | .exit _=>False
 | _=>retK T rs fr H fun x=>∃ y r H2,(∀ c v,Rd x c v→Rd y c v)∧WkC m [(0,y)] H [(0,r)] H2∧K r H2
theorem ACalls.ofC {P : Program} {T : Tys} (hT : TOk P T) {f : FuncId} {fn : Func} {body : Code} {args : List AV} {Hin : List AB} {K : AV → List AB → Prop} (hf : P.funcs[f]? = some fn) (hb : fn.body = some body) (hname : (fn.name == "runtime.NumGoroutine") = false) (hn : args.length ≤ fn.ntmps)
  (h:aCode P T fn.ntmps Hin.length body (finGC T Hin.length fn.results.toList K) (frOf 0 args) Hin):ACalls P false f args Hin K:=by
 refine⟨⟨fn,hf,by rw [hb];rfl,hname⟩,fun w0 M0 c0 us hs0 hr=>?_⟩
 have hlen:=hr.length
 have hFR:FR (w0.at c0.w hs0.low) c0 fn.ntmps (frOf 0 args) { tmps:=us.toArray ++ Array.replicate (fn.ntmps - us.toArray.size) undef,defers:= [] }:=by
  refine⟨by simp;omega,trivial,fun i=>?_⟩
  have:=frOf_rd (c:=c0) (m:=fn.ntmps - us.length) (l:=args) (i:=0) (pre:= []) rfl hr i
  rw [Array.getD_eq_getD_getElem?]
  have e:(us.toArray ++ Array.replicate (fn.ntmps - us.toArray.size) undef)[i]? = ([] ++ us ++ List.replicate (fn.ntmps - us.length) undef)[i]? :=by
   have:(us.toArray ++ Array.replicate (fn.ntmps - us.toArray.size) undef)=([] ++ us ++ List.replicate (fn.ntmps - us.length) undef).toArray:=Array.ext' (by simp)
   rw [this];simp only [List.getElem?_toArray]
  rw [e]
  exact this
 have fin:∀ a w,Lift (w0.at c0.w hs0.low) M0 c0 fn.ntmps (fun fr H=>retK T fn.results.toList fr H fun x=>∃ y r H2,(∀ c v,Rd x c v→Rd y c v)∧WkC Hin.length [(0,y)] H [(0,r)] H2∧K r H2) a w→∃ v,(results fn a.tmps).run P w = .ok v w∧∃ v' c' r H',Ending.returned v = .returned v'∧c'.w=w∧K r H'∧HS w0 M0 c' H'∧Ext c0 c'∧Rd r c' v'∧(false=true→Old c0.w w):=by
  rintro a w ⟨c,fr,H,rfl,h1,h2,h3,h4⟩
  obtain⟨x,v,⟨y,r,H2,o1,o2,o3⟩,q2,q3⟩:=retK_sound hT h2 h3 h1
  have hfr:FR (w0.at c0.w hs0.low) c 1 [(0,y)] { tmps:= #[v],defers:= [] }:=by
   refine⟨rfl,trivial,fun i=>?_⟩
   unfold fget
   cases i with
   | zero=>exact o1 _ _ q2
   | succ i=>show Rd .top c _;simp [Rd]
  obtain⟨c',e1,e2,e3,e4⟩:=o2.sound hs0.dom h2 hfr h4
  have hr':=e3.get 0
  refine⟨v,q3,v,c',r,H2,rfl,e1,o3,⟨LowF.ofAt e2.low,e2.base,e2.dom,e2.foreign,e2.lt,e2.blk,e2.own,e2.dis⟩,e4,?_,fun e=>by cases e⟩
  simpa [fget] using hr'
 refine calls_marks hf hb trivial (Nat.le_refl _) fin ?_
 refine aCode_sound (w0:=w0.at c0.w hs0.low) (M0:=M0) (ce:=c0) hT hs0.dom body _ _ c0 _ Hin _ (lift_ends rfl rfl fun _ _ _ h=>h) hs0.toAt hFR (Ext.refl _) h

theorem ACalls.fn {P:Program} {q:Bool} {f:FuncId} {args:List AV} {K:AV→List AB→Prop} {K':AV→Prop} (h:ACalls P q f args [] K) (hk:∀ r H,K r H→∃ Hc,ConvH H Hc∧sealR r Hc fun x=>∃ y,(∀ c v,Rd x c v→Rd y c v)∧K' y):Fn P f args K':=by
 refine⟨h.go,fun c0 us hd hM hg hr=>?_⟩
 let ce:Ctx:={ c0 with base:=0 }
 have hce:Ext c0 ce:=⟨rfl,rfl,rfl,Nat.le_refl _,fun _ _ h=>⟨h,rfl⟩,Nat.le_refl _,fun _ _=>Nat.le_refl _,fun _ _ _=>rfl,fun _ _ _ h=>h⟩
 have hHS:HS (Fl.all c0.w hg) c0.M ce []:=⟨LowF.refl _ hg,rfl,hd,fun _ _=>Iff.rfl,hM,by simp,by simp,by simp⟩
 refine(h.calls (Fl.all c0.w hg) c0.M ce us hHS (RdL.ext _ hce hr)).mono ?_
 rintro e w' ⟨v,c',r,H',rfl,rfl,q1,q2,q3,q4,_⟩
 obtain⟨Hc,o1,o2⟩:=hk r H' q1
 obtain⟨c1,e1,s1,x1⟩:=o1 _ _ c' q2
 obtain⟨x,H2,c2,⟨y,p0,p1⟩,p2,p3,p4,p5⟩:=sealR_sound s1 (Rd.ext _ x1 q4) o2
 refine⟨v,y,rfl,p1,q2.low.below,p0 _ _ ?_⟩
 have e2:c2.w=c'.w:=p2.trans e1
 have hE:Ext c2.closed { c0 with w:=c'.w }:=by
  refine⟨by simp [Ctx.closed,e2],by simp [Ctx.closed,e2],by simp [Ctx.closed,e2],by simp [Ctx.closed,e2],fun b hb hm=>⟨fun h=>hm ?_,by simp [Ctx.closed,e2]⟩,Nat.zero_le _,fun k hk=>absurd hk (Nat.not_lt_zero k),fun k hk=>absurd hk (Nat.not_lt_zero k),fun k _ hk=>absurd hk (Nat.not_lt_zero k)⟩
  exact(p3.foreign b (hM b h)).2 h
 exact Rd.ext _ hE p5
theorem ACalls.conv {P:Program} {q:Bool} {f:FuncId} {args:List AV} {H:List AB} {K K':AV→List AB→Prop} (h:ACalls P q f args H K) (hk:∀ r H',K r H'→∃ H'',ConvH H' H''∧K' r H''):ACalls P q f args H K':=by
 refine⟨h.go,fun w0 M0 c us hs hr=>(h.calls w0 M0 c us hs hr).mono ?_⟩
 rintro e w' ⟨v,c',r,H',rfl,rfl,q1,q2,q3,q4,q5⟩
 obtain⟨H'',o1,o2⟩:=hk r H' q1
 obtain⟨c1,e1,s1,x1⟩:=o1 _ _ c' q2
 exact⟨v,c1,r,H'',rfl,e1,o2,s1,q3.trans x1,Rd.ext _ x1 q4,q5⟩
mutual
theorem AV.ren_id {f:Nat→Nat}:∀ (x:AV),x.lt 0=true→x.ren f=x
 | .top,_=>rfl
 | .v _,_=>rfl
 | .sl _ _ _,_=>rfl
 | .rp _,_=>rfl
 | .bp k _,h=>by simp [AV.lt,Nat.blt] at h
 | .ow k _,h=>by simp [AV.lt,Nat.blt] at h
 | .ep k _ _ _ _,h=>by simp [AV.lt,Nat.blt] at h
 | .ag cs,h=>by simp only [AV.lt] at h;simp only [AV.ren,AV.renL_id cs h]
 | .tp cs,h=>by simp only [AV.lt] at h;simp only [AV.ren,AV.renL_id cs h]
 | .fn _ cs,h=>by simp only [AV.lt] at h;simp only [AV.ren,AV.renL_id cs h]
 | .ic _ cs,h=>by simp only [AV.lt] at h;simp only [AV.ren,AV.renL_id cs h]
theorem AV.renL_id {f:Nat→Nat}:∀ (l:List AV),AV.ltL l 0=true→AV.renL f l=l
 | [],_=>rfl
 | x::l,h=>by
  simp only [AV.ltL,Bool.and_eq_true] at h
  simp only [AV.renL,AV.ren_id x h.1,AV.renL_id l h.2]
end
theorem ACalls.quiet {P:Program} {q q':Bool} {f:FuncId} {args:List AV} {K:AV→List AB→Prop} (h:ACalls P q f args [] K):ACalls P q' f args [] K:=by
 refine⟨h.go,fun w0 M0 c us hs hr=>?_⟩
 have hs1:HS (Fl.all c.w hs.glob) c.M c []:=⟨LowF.refl _ _,hs.base,hs.dom,fun _ _=>Iff.rfl,hs.lt,by simp,by simp,by simp⟩
 refine(h.calls _ c.M c us hs1 hr).mono ?_
 rintro e w' ⟨v,c',r,H',rfl,rfl,q1,q2,q3,q4,_⟩
 have hlt:∀ b,w0.old b→b<c.w.heap.size:=fun b hb=>Nat.lt_of_lt_of_le (w0.lt b hb) hs.low.size
 exact⟨v,c',r,H',rfl,rfl,q1,⟨hs.low.trans q2.low.below,q2.base,q2.dom,fun b hb=>(q2.foreign b (hlt b hb)).trans (hs.foreign b hb),q2.lt,q2.blk,fun k x g hk hl ho=>⟨(q2.own k x g hk hl ho).1,fun hb=>(q2.own k x g hk hl ho).2 (hlt g hb)⟩,q2.dis⟩,q3,q4,fun _=>q2.low.below.old⟩
theorem ACalls.beside {P:Program} {q q':Bool} {f:FuncId} {args:List AV} {H:List AB} {k K:AV→List AB→Prop} (h:ACalls P q' f args [] K) (hc:AV.ltL args 0=true)
  (hk:∀ r R,K r R→cntK H 0 fun d=>putH (ixm [] d) [] R H fun H=>forceK (r.ren (ixm [] d)) fun r=>k r H):ACalls P q f args H k:=
 ACalls.frame [] (h.quiet (q':=q)) (AV.renL_id args hc).symm hc rfl rfl List.nodup_nil (fun _ h=>by cases h) trivial hk
def flatV:AV→Bool
 | .v _=>true
 | .tp l=>l.all fun x=>match x with | .v _=>true | _=>false
 | _=>false
theorem flatV_rd {x:AV} (h:flatV x=true) {c c':Ctx} {v:Value} (hr:Rd x c v):Rd x c' v:=by
 unfold flatV at h
 split at h
 ·simpa [Rd] using hr
 ·rename_i l
  simp only [Rd] at hr ⊢
  obtain⟨xs,rfl,hx⟩:=hr
  refine⟨xs,rfl,?_⟩
  induction l generalizing xs with
  | nil=>simpa [RdL] using hx
  | cons x l ih=>
   simp only [List.all_cons,Bool.and_eq_true] at h
   simp only [RdL] at hx ⊢
   obtain⟨u,us,rfl,h1,h2⟩:=hx
   refine⟨u,us,rfl,?_,ih h.2 us h2⟩
   cases x <;> simp at h
   simpa [Rd] using h1
 ·cases h
theorem Fn.lend {P:Program} {f:FuncId} {args args':List AV} {H:List AB} {K:AV→Prop} {q:Bool} {k:AV→List AB→Prop} (h:Fn P f args' K) (hs:sealA args H fun a _=>a=args') (hk:∀ r,K r→flatV r=true∧k r H):ACalls P q f args H k:=by
 refine⟨h.1,fun w0 M0 c us hs0 hr=>?_⟩
 obtain⟨l',H',c',rfl,h2,h3,h4,h5,_⟩:=sealA_sound hs0 hr hs
 have:=h.2 c'.closed us rfl h3.lt h3.glob h5
 rw [show c'.closed.w=c.w from h2] at this
 refine this.mono ?_
 rintro e w' ⟨v,r,rfl,q1,q2,q3⟩
 obtain⟨p1,p2⟩:=hs0.grow q2
 obtain⟨p3,p4⟩:=hk r q1
 exact⟨v,_,r,H,rfl,rfl,p4,p1,p2,flatV_rd p3 q3,fun _=>q2.old⟩
def by1 (x:UInt8):List AV:= [.v (.int .u8 x.toNat)]
def ic1 (x:Int):List AV:= [.v (.int .i64 x)]
theorem elems_u8 {w:World} {M:Ms}:∀ {l:List UInt8} {xs:List Value},Elems (Rp.sz UInt8) (Rp.E w M) xs l→xs=l.map fun x=> .int .u8 x.toNat
 | [],_,h=>h
 | x::l,_,h=>by
  obtain⟨cs,ys,rfl,_,h2,h3⟩:=h
  have h2:cs=[.int .u8 x.toNat]:=h2
  rw [h2,elems_u8 h3]
  rfl
theorem rdl_by1 (c:Ctx):∀ l:List UInt8,RdL (l.map by1).flatten c (l.map fun x=> .int .u8 x.toNat)
 | []=>by simp [RdL]
 | x::l=>by
  simp only [List.map_cons,List.flatten_cons,by1,List.cons_append,List.nil_append,RdL]
  exact⟨_,_,rfl,by simp [Rd],rdl_by1 c l⟩
theorem HS.bytes {w0:Fl} {M0:Ms} {c:Ctx} {H:List AB} (h:HS w0 M0 c H) {w':World} (hb:Below c.w.heap.size c.w w') {M:Ms} {v:Value} {l:List UInt8} (ho:OwR w' M c.w.heap.size 5 v l) :
  ∃ c',c'.w=w'∧HS w0 M0 c' (H ++ [.row 5 1 (l.map by1)])∧Ext c c'∧Rd (.ow H.length l.length) c' v:=by
 obtain⟨xs,h1,h2⟩:=ho
 have hx:=elems_u8 h2
 subst hx
 obtain⟨a,b,d⟩:=h.newrow (es:=l.map by1) (t:=5) (sz:=1) hb (by omega) (fun e he=>by obtain⟨x,_,rfl⟩:=List.mem_map.1 he;rfl) (by rw [List.length_map];exact h1) (fun u hu=>by obtain⟨x,_,rfl⟩:=List.mem_map.1 hu;rfl) (rdl_by1 _ l)
 rw [List.length_map] at a b d
 exact⟨_,rfl,a,b,d⟩
theorem ACalls.ofBytes {P:Program} {f:FuncId} {args:List AV} {l:List UInt8} (hg:IsGo P f)
  (h:∀ (c:Ctx) (us:List Value),RdL args c us→Calls P f us.toArray c.w fun e w'=>∃ r,e = .returned (.tuple #[r, .int .i64 0])∧OwR w' noM c.w.heap.size 5 r l∧Below c.w.heap.size c.w w') :
  ACalls P false f args [] fun r H=>r = .tp [.ow 0 l.length, .v (.int .i64 0)]∧H=[.row 5 1 (l.map by1)]:=by
 refine⟨hg,fun w0 M0 c us hs hr=>(h c us hr).mono ?_⟩
 rintro e w' ⟨r,rfl,ho,hB⟩
 obtain⟨c',e1,e2,e3,e4⟩:=hs.bytes hB ho
 exact⟨_,c',_,_,rfl,e1,⟨rfl,rfl⟩,e2,e3,of_tp2 e4 (rd_v _),fun h=>by cases h⟩
theorem toInts {c:Ctx} {u:Value} {b:List Int} (h:Rd (iA b) c u):SlR c.w c.M u b:=by
 simp only [iA,Rd] at h
 obtain⟨a,k,rfl,h1,h2,h3⟩:=h
 refine⟨a,k,b.map fun x=> .int .i64 x,rfl,h1,h2,?_,fun hne=>?_⟩
 ·refine Elems.of_get (by simp [Rp.sz]) fun i x hx=>⟨[.int .i64 x],rfl,rfl,fun j hj=>?_⟩
  have hj:j<1:=hj
  obtain rfl:j=0:=by omega
  simp [Rp.sz,hx]
 ·rcases h3 with h3 | ⟨bl,off,rfl,hm,hb,hc⟩
  ·exact absurd (List.eq_nil_of_length_eq_zero h3) hne
  ·refine⟨bl,off,rfl,hm,fun j u hu=>?_⟩
   rw [List.getElem?_map] at hu
   cases hq:b[j]? with
   | none=>rw [hq] at hu;simp at hu
   | some x=>
    rw [hq] at hu
    simp at hu
    subst hu
    have hlt:=(List.getElem?_eq_some_iff.1 hq).1
    have:=(hc j hlt).2
    simp only [RdAt,Rd] at this
    obtain⟨⟨u,e1,_,rfl⟩,_⟩:=this
    rw [Nat.mul_one] at e1
    rw [show b.getD j 0=x by rw [List.getD_eq_getElem?_getD,hq];rfl] at e1
    exact e1
theorem row_own (ns ss:List Int) (hl:ns.length=ss.length) (hn:ns.length≤1000) (hf:∀ k (a:k<ns.length) (b:k<ss.length),szOk ss[k]∧0≤ns[k]∧ns[k]<limS ss[k]) :
  ACalls Tryz.prog false 135 [iA ns,iA ss] [] fun r H=>r = .tp [.ow 0 (rowB ns ss).length, .v (.int .i64 0)]∧H=[.row 5 1 ((rowB ns ss).map by1)]:=by
 refine ACalls.ofBytes ⟨_,Tryz.func135,rfl,by decide⟩ fun c us hr=>?_
 obtain⟨u1,u2,rfl,h1,h2⟩:=rd2 hr
 exact row_any u1 u2 ns ss c.w noM c.M c.M (toInts h1) (toInts h2) hl hn hf
theorem part_own (l:List UInt8) (hl:l.length≤255):ACalls Tryz.prog false 137 [bA l] [] fun r H=>r = .tp [.ow 0 (UInt8.ofNat l.length::l).length, .v (.int .i64 0)]∧H=[.row 5 1 ((UInt8.ofNat l.length::l).map by1)]:=by
 refine ACalls.ofBytes ⟨_,Tryz.func137,rfl,by decide⟩ fun c us hr=>?_
 obtain⟨u1,rfl,h1⟩:=rd1 hr
 exact part_any u1 l c.w noM c.M (toBytes h1) hl
theorem put_own (l:List UInt8) (n size:Int) (hs:szOk size) (hl:l.length≤1000000) (h0:0≤n) (h1:n<limS size):ACalls Tryz.prog false 138 [bA l, .v (.int .i64 n), .v (.int .i64 size)] [] fun r H=>r = .tp [.ow 0 (l ++ leB size.toNat n.toNat).length, .v (.int .i64 0)]∧H=[.row 5 1 ((l ++ leB size.toNat n.toNat).map by1)]:=by
 refine ACalls.ofBytes ⟨_,Tryz.func138,rfl,by decide⟩ fun c us hr=>?_
 simp only [RdL] at hr
 obtain⟨u1,_,rfl,h1',u2,_,rfl,h2',u3,_,rfl,h3',rfl⟩:=hr
 simp only [Rd] at h2' h3'
 subst h2' h3'
 exact put_any u1 l n size c.w noM c.M (toBytes h1') hs hl h0 h1
inductive TrM where
 | fin
 | one (i:Nat) (r:TrM)
 | two (i:Nat) (a:TrM) (j:Nat) (b:TrM)
 | three (i:Nat) (a:TrM) (j:Nat) (b:TrM) (k:Nat) (d:TrM)
def TrM.depth:TrM→Nat
 | .fin=>0
 | .one _ r=>r.depth+1
 | .two _ a _ b=>max a.depth b.depth+1
 | .three _ a _ b _ d=>max a.depth (max b.depth d.depth)+1
def mayM (ops:Array Oper) (B:List Nat) (mk:Nat) (j:Nat):Bool:=
 (List.range ops.size).any fun i=>!(((ops[i]?).map fun o=>isEff o.op || pureOp o.op).getD true)&&!mk.testBit i&&i != j&&!(B.getD j 0).testBit i&&!(B.getD i 0).testBit j
section
variable {P:Program} {ops:Array Oper} {B:List Nat} {Q:Exit→Act→World→Prop} {mk:Nat}
def HeldM (P:Program) (ops:Array Oper) (B:List Nat) (mk:Nat) (Q:Exit→Act→World→Prop):Nat→Array Bool→Act→World→Prop
 | 0,l,a,w=>Region.ready .any ops l=[]∧Q .normal a w
 | n+1,l,a,w=>(Region.ready .any ops l=[]→Q .normal a w)∧
   ∀ i∈Region.ready .any ops l,wpOp P ops Q i (fun a' w'=>(mayM ops B mk i=true→Old w w')∧HeldM P ops B mk Q n (l.setIfInBounds i true) a' w') a w
theorem HeldM.any:∀ (n:Nat) (l:Array Bool) (a:Act) (w:World),HeldM P ops B mk Q n l a w→wpAny P .any ops Q n l a w
 | 0,_,_,_,h=>h
 | n+1,_,_,_,h=>⟨h.1,fun i hi=>wpOp_mono (fun a' w' h'=>HeldM.any n _ a' w' h'.2) (h.2 i hi)⟩
theorem HeldM.first (hB:befOk ops B=true) {i:Nat} {oi:Oper} {v:Value} (hi:ops[i]? = some oi) (hmk:mk.testBit i=false) (hdet:isEff oi.op=false)
  (hsel:∀ (j:Nat) (o:Oper) cs b,ops[j]? = some o→o.op≠ .select cs b)
  (hQ:∀ c a w,Q (.panic c) (a.put oi.dst v) w→Q (.panic c) a w) {S:World→Prop} (hk:∀ w w',S w→(pureOp oi.op=false→Old w w')→S w'):∀ (n:Nat) (l:Array Bool) (a:Act) (w:World),Cl ops l→
   (∀ j oj,ops[j]? = some oj→j≠i→l.getD j true=false→(∀ e∈oj.after,Region.binds .any e=true→e.on≠i)→oi.apart ops oj=true)→
   i∈Region.ready .any ops l→YieldsIf P ops S oi v a→S w→HeldM P ops B mk Q n (l.setIfInBounds i true) (a.put oi.dst v) w→HeldM P ops B mk Q (n+1) l a w:=by
 intro n
 induction n with
 | zero=>
  intro l a w _ _ hr hy hS H
  refine⟨fun h=>(by rw [h] at hr;cases hr),fun j hj=>?_⟩
  by_cases hji:j=i
  ·subst hji;exact hy.wpOp hi hS ⟨fun _=>Old.refl _,H⟩
  ·have h1:=ready_mono hj hji
   rw [H.1] at h1
   cases h1
 | succ n ih=>
  intro l a w hcl hfree hr hy hS H
  refine⟨fun h=>(by rw [h] at hr;cases hr),fun j hj=>?_⟩
  by_cases hji:j=i
  ·subst hji;exact hy.wpOp hi hS ⟨fun _=>Old.refl _,H⟩
  have h1:=H.2 j (ready_mono hj hji)
  obtain⟨hjun,oj,hoj,hall⟩:=mem_ready.1 hj
  obtain⟨hiun,oi',hoi',halli⟩:=mem_ready.1 hr
  rw [hi] at hoi'
  cases hoi'
  have unl:∀ k,l.getD k true=false→l.getD k false=true→False:=by
   intro k h1 h2
   rcases Nat.lt_or_ge k l.size with h' | h'
   ·simp [h'] at h1 h2;rw [h1] at h2;cases h2
   ·simp [Array.getElem?_eq_none h'] at h2
  have hnot:∀ e∈oj.after,Region.binds .any e=true→e.on≠i:=fun e he hb heq=>unl i hiun (heq ▸ hall e he hb)
  have hmay:pureOp oi.op=false→mayM ops B mk j=true:=by
   intro hpu
   refine List.any_eq_true.2 ⟨i,List.mem_range.2 (Array.getElem?_eq_some_iff.1 hi).1,?_⟩
   have hne:(i != j)=true:=by rw [bne_iff_ne];exact fun h=>hji h.symm
   have b1:(B.getD j 0).testBit i=false:=by
    rw [←Bool.not_eq_true];exact fun h=>unl i hiun (anc hB hcl j oj hoj hall i h)
   have b2:(B.getD i 0).testBit j=false:=by
    rw [←Bool.not_eq_true];exact fun h=>unl j hjun (anc hB hcl i oi hi halli j h)
   simp only [hi,Option.map_some,Option.getD_some,hdet,hpu,hne,b1,b2,hmk,Bool.or_false,Bool.not_false,Bool.and_true]
  have h2:=wpOp_putIf hoj (hfree j oj hoj hji hjun hnot) (fun cs b=>hsel i oi cs b hi) (fun cs b=>hsel j oj cs b hoj) hQ hy h1
  refine wpOp_mono (fun a' w' h3=>⟨h3.2.1,ih (l.setIfInBounds j true) a' w' (hcl.set hj) (fun k ok hk hki hun hno=>?_) (ready_mono hr (Ne.symm hji)) h3.1 (hk _ _ hS fun hp=>h3.2.1 (hmay hp)) ?_⟩) h2
  ·refine hfree k ok hk hki ?_ hno
   by_cases hjk:j=k
   ·subst hjk;exact hjun
   ·rw [getD_set_ne true hjk] at hun;exact hun
  ·rw [Array.setIfInBounds_comm _ _ hji]
   exact h3.2.2

theorem HeldM.first1 (hB:befOk ops B=true) {i:Nat} {oi:Oper} {v:Value} (hi:ops[i]? = some oi) (hmk:mk.testBit i=false) (hdet:isEff oi.op=false)
  (hsel:∀ (j:Nat) (o:Oper) cs b,ops[j]? = some o→o.op≠ .select cs b)
  (hQ:∀ c a w,Q (.panic c) (a.put oi.dst v) w→Q (.panic c) a w) (n:Nat) (l:Array Bool) (a:Act) (w:World) (hcl:Cl ops l)
  (hfree:∀ j oj,ops[j]? = some oj→j≠i→l.getD j true=false→(∀ e∈oj.after,Region.binds .any e=true→e.on≠i)→oi.apart ops oj=true)
  (hr:i∈Region.ready .any ops l) (hy:YieldsIf P ops (Old w) oi v a) (H:HeldM P ops B mk Q n (l.setIfInBounds i true) (a.put oi.dst v) w):HeldM P ops B mk Q (n+1) l a w:=by
 cases hp:pureOp oi.op with
 | true=>
  refine HeldM.first hB hi hmk hdet hsel hQ (S:=fun _=>True) (fun _ _ _ _=>trivial) n l a w hcl hfree hr ?_ trivial H
  rcases hy with ⟨h1,h2⟩ | h
  ·exact .inl ⟨h1,fun w' _=>pureRun hp (h2 w (Old.refl w)) w'⟩
  ·exact .inr h
 | false=>
  exact HeldM.first hB hi hmk hdet hsel hQ (S:=Old w) (fun _ _ h1 h2=>h1.trans (h2 hp)) n l a w hcl hfree hr hy (Old.refl w) H

def qM (mk:Nat) (i:Nat) (o:Op):Bool:=qOf o&&!mk.testBit (i+128)
def stepTM (P:Program) (T:Tys) (n mk:Nat) (ops:Array Oper) (i:Nat) (fr:Fr) (H:List AB) (K:Fr→List AB→Prop):Prop:=
 match lget ops.toList i with
 | none=>False
 | some o=>guardK ops.toList o fr (fun fr=>stepK P T n (qM mk i o.op) o fr H K) fun fr=>putK n o.dst (.v undef) fr fun fr=>K fr H
def effM (ops:Array Oper) (B:List Nat) (mk:Nat) (i:Nat):Bool:=match ops[i]? with | some o=>(qM mk i o.op || !mayM ops B mk i) | none=>false
def treeM (ops:Array Oper) (B:List Nat) (mk:Nat):TrM→Array Bool→Bool
 | .fin,l=>(Region.ready .any ops l).isEmpty
 | .one i r,l=>(match ops[i]? with
   | none=>false
   | some o=>match isEff o.op with
    | true=>(match Region.ready .any ops l with | [j]=>Nat.beq i j | _=>false)&&(qM mk i o.op || !mayM ops B mk i)
    | false=>match mk.testBit i with
     | true=>(match Region.ready .any ops l with | [j]=>Nat.beq i j | _=>false)&&(qM mk i o.op || !mayM ops B mk i)
     | false=>Region.free .any ops l i&&(Region.ready .any ops l).contains i)&&treeM ops B mk r (l.setIfInBounds i true)
 | .two i a j b,l=>(match Region.ready .any ops l with | [x,y]=>Nat.beq x i&&Nat.beq y j | _=>false)&&effM ops B mk i&&effM ops B mk j&&treeM ops B mk a (l.setIfInBounds i true)&&treeM ops B mk b (l.setIfInBounds j true)
 | .three i a j b k d,l=>(match Region.ready .any ops l with | [x,y,z]=>Nat.beq x i&&Nat.beq y j&&Nat.beq z k | _=>false)&&effM ops B mk i&&effM ops B mk j&&effM ops B mk k&&treeM ops B mk a (l.setIfInBounds i true)&&treeM ops B mk b (l.setIfInBounds j true)&&treeM ops B mk d (l.setIfInBounds k true)
def opsM (P:Program) (T:Tys) (n mk:Nat) (ops:Array Oper):TrM→Fr→List AB→(Fr→List AB→Prop)→Prop
 | .fin,fr,H,K=>K fr H
 | .one i r,fr,H,K=>stepTM P T n mk ops i fr H fun fr H=>opsM P T n mk ops r fr H K
 | .two i a j b,fr,H,K=>(stepTM P T n mk ops i fr H fun fr H=>opsM P T n mk ops a fr H K)∧(stepTM P T n mk ops j fr H fun fr H=>opsM P T n mk ops b fr H K)
 | .three i a j b k d,fr,H,K=>(stepTM P T n mk ops i fr H fun fr H=>opsM P T n mk ops a fr H K)∧(stepTM P T n mk ops j fr H fun fr H=>opsM P T n mk ops b fr H K)∧(stepTM P T n mk ops k fr H fun fr H=>opsM P T n mk ops d fr H K)
variable {T:Tys} {w0:Fl} {M0:Ms} {n d0:Nat} {ce:Ctx}
theorem effM_sound (hT:TOk P T) {i:Nat} {o:Oper} (ho:ops[i]? = some o) {m:Nat} {l:Array Bool} (hmq:(qM mk i o.op || !mayM ops B mk i)=true) {c:Ctx} {fr:Fr} {H:List AB} {a:Act} (hs:HS w0 M0 c H) (hf:FR w0 c n fr a) (he:Ext ce c) {K:Fr→List AB→Prop}
  (hk:∀ (c':Ctx) (fr':Fr) (H':List AB) (a':Act),HS w0 M0 c' H'→FR w0 c' n fr' a'→Ext ce c'→K fr' H'→HeldM P ops B mk Q m (l.setIfInBounds i true) a' c'.w)
  (h:stepTM P T n mk ops i fr H K):wpOp P ops Q i (fun a' w'=>(mayM ops B mk i=true→Old c.w w')∧HeldM P ops B mk Q m (l.setIfInBounds i true) a' w') a c.w:=by
 simp only [stepTM,lget_eq] at h
 rw [show ops.toList[i]? = some o by simpa using ho] at h
 simp only at h
 refine wpOp_step ho fun KK hK=>?_
 rcases guardK_sound hf h with ⟨hw,fr',hf',h⟩ | ⟨hw,fr',hf',h⟩
 ·rw [if_pos hw]
  refine stepK_sound hT hs hf' he h ?_
  rintro a' w' ⟨c',fr2,H',rfl,h1,h2,h3,h4⟩ hold
  refine hK _ _ ⟨fun hmay=>hold ?_,hk c' fr2 H' a' h2 h3 h4 h1⟩
  rw [hmay] at hmq
  simpa using hmq
 ·rw [if_neg (by rw [hw];simp)]
  obtain⟨fr2,h1,h2⟩:=putK_sound (v:=undef) hf' (by simp [Rd]) h
  exact hK _ _ ⟨fun _=>Old.refl _,hk c fr2 H _ hs h2 he h1⟩
theorem opsM_sound (hT:TOk P T) (hB:befOk ops B=true) (hns:Region.noSelect ops=true) {K:Fr→List AB→Prop} (hq:∀ a w,Lift w0 M0 ce n K a w→Q .normal a w) (hpan:∀ c a w,¬Q (.panic c) a w) :
  ∀ (r:TrM) (m:Nat) (l:Array Bool) (c:Ctx) (fr:Fr) (H:List AB) (a:Act),r.depth≤m→Cl ops l→treeM ops B mk r l=true→HS w0 M0 c H→FR w0 c n fr a→Ext ce c→opsM P T n mk ops r fr H K→HeldM P ops B mk Q m l a c.w
 | .fin,m,l,c,fr,H,a,hm,hcl,hd,hs,hf,he,h=>by
  simp only [treeM,List.isEmpty_iff] at hd
  cases m with
  | zero=>exact⟨hd,hq _ _ ⟨c,fr,H,rfl,h,hs,hf,he⟩⟩
  | succ m=>exact⟨fun _=>hq _ _ ⟨c,fr,H,rfl,h,hs,hf,he⟩,by rw [hd];simp⟩
 | .two i x j y,m,l,c,fr,H,a,hm,hcl,hd,hs,hf,he,h=>by
  cases m with
  | zero=>simp [TrM.depth] at hm
  | succ m=>
   simp only [TrM.depth] at hm
   simp only [treeM,Bool.and_eq_true] at hd
   obtain⟨⟨⟨⟨hr,hi⟩,hj⟩,hx⟩,hy⟩:=hd
   have hr':Region.ready .any ops l=[i,j]:=by
    split at hr
    ·rename_i p q hpq
     simp only [Bool.and_eq_true] at hr
     rw [hpq,Nat.eq_of_beq_eq_true hr.1,Nat.eq_of_beq_eq_true hr.2]
    ·cases hr
   obtain⟨h1,h2⟩:=h
   have go:∀ k r,effM ops B mk k=true→r.depth≤m→k∈Region.ready .any ops l→treeM ops B mk r (l.setIfInBounds k true)=true→(stepTM P T n mk ops k fr H fun fr H=>opsM P T n mk ops r fr H K)→(∀ (c:Ctx) (fr:Fr) (H:List AB) (a:Act),HS w0 M0 c H→FR w0 c n fr a→Ext ce c→opsM P T n mk ops r fr H K→HeldM P ops B mk Q m (l.setIfInBounds k true) a c.w)→
     wpOp P ops Q k (fun a' w'=>(mayM ops B mk k=true→Old c.w w')∧HeldM P ops B mk Q m (l.setIfInBounds k true) a' w') a c.w:=by
    intro k r hk _ _ _ hst hrec
    unfold effM at hk
    split at hk
    ·rename_i o ho
     exact effM_sound hT ho hk hs hf he hrec hst
    ·cases hk
   refine⟨fun h0=>(by rw [hr'] at h0;cases h0),fun k hk=>?_⟩
   have hi':i∈Region.ready .any ops l:=by rw [hr'];simp
   have hj':j∈Region.ready .any ops l:=by rw [hr'];simp
   rw [hr',List.mem_cons,List.mem_singleton] at hk
   rcases hk with rfl | rfl
   ·exact go k x hi (by omega) hi' hx h1 fun c' fr' H' a' q1 q2 q3 q4=>opsM_sound hT hB hns hq hpan x m _ c' fr' H' a' (by omega) (hcl.set hi') hx q1 q2 q3 q4
   ·exact go k y hj (by omega) hj' hy h2 fun c' fr' H' a' q1 q2 q3 q4=>opsM_sound hT hB hns hq hpan y m _ c' fr' H' a' (by omega) (hcl.set hj') hy q1 q2 q3 q4
 | .three i x j y k0 z,m,l,c,fr,H,a,hm,hcl,hd,hs,hf,he,h=>by
  cases m with
  | zero=>simp [TrM.depth] at hm
  | succ m=>
   simp only [TrM.depth] at hm
   simp only [treeM,Bool.and_eq_true] at hd
   obtain⟨⟨⟨⟨⟨⟨hr,hi⟩,hj⟩,hk0⟩,hx⟩,hy⟩,hz⟩:=hd
   have hr':Region.ready .any ops l=[i,j,k0]:=by
    split at hr
    ·rename_i p q u hpq
     simp only [Bool.and_eq_true] at hr
     rw [hpq,Nat.eq_of_beq_eq_true hr.1.1,Nat.eq_of_beq_eq_true hr.1.2,Nat.eq_of_beq_eq_true hr.2]
    ·cases hr
   obtain⟨h1,h2,h3⟩:=h
   have go:∀ k r,effM ops B mk k=true→r.depth≤m→k∈Region.ready .any ops l→treeM ops B mk r (l.setIfInBounds k true)=true→(stepTM P T n mk ops k fr H fun fr H=>opsM P T n mk ops r fr H K)→(∀ (c:Ctx) (fr:Fr) (H:List AB) (a:Act),HS w0 M0 c H→FR w0 c n fr a→Ext ce c→opsM P T n mk ops r fr H K→HeldM P ops B mk Q m (l.setIfInBounds k true) a c.w)→
     wpOp P ops Q k (fun a' w'=>(mayM ops B mk k=true→Old c.w w')∧HeldM P ops B mk Q m (l.setIfInBounds k true) a' w') a c.w:=by
    intro k r hk _ _ _ hst hrec
    unfold effM at hk
    split at hk
    ·rename_i o ho
     exact effM_sound hT ho hk hs hf he hrec hst
    ·cases hk
   refine⟨fun h0=>(by rw [hr'] at h0;cases h0),fun k hk=>?_⟩
   have hi':i∈Region.ready .any ops l:=by rw [hr'];simp
   have hj':j∈Region.ready .any ops l:=by rw [hr'];simp
   have hk':k0∈Region.ready .any ops l:=by rw [hr'];simp
   rw [hr',List.mem_cons,List.mem_cons,List.mem_singleton] at hk
   rcases hk with rfl | rfl | rfl
   ·exact go k x hi (by omega) hi' hx h1 fun c' fr' H' a' q1 q2 q3 q4=>opsM_sound hT hB hns hq hpan x m _ c' fr' H' a' (by omega) (hcl.set hi') hx q1 q2 q3 q4
   ·exact go k y hj (by omega) hj' hy h2 fun c' fr' H' a' q1 q2 q3 q4=>opsM_sound hT hB hns hq hpan y m _ c' fr' H' a' (by omega) (hcl.set hj') hy q1 q2 q3 q4
   ·exact go k z hk0 (by omega) hk' hz h3 fun c' fr' H' a' q1 q2 q3 q4=>opsM_sound hT hB hns hq hpan z m _ c' fr' H' a' (by omega) (hcl.set hk') hz q1 q2 q3 q4
 | .one i r,m,l,c,fr,H,a,hm,hcl,hd,hs,hf,he,h=>by
  cases m with
  | zero=>simp [TrM.depth] at hm
  | succ m=>
   simp only [TrM.depth,Nat.add_le_add_iff_right] at hm
   simp only [treeM,Bool.and_eq_true] at hd
   obtain⟨hd1,hd2⟩:=hd
   simp only [opsM] at h
   cases ho:ops[i]? with
   | none=>rw [ho] at hd1;simp at hd1
   | some o=>
    rw [ho] at hd1
    simp only at hd1
    cases hE:isEff o.op with
    | true=>
     rw [hE] at hd1
     simp only [Bool.and_eq_true] at hd1
     obtain⟨hr,hmq⟩:=hd1
     have hr':Region.ready .any ops l=[i]:=by
      split at hr
      ·rename_i j hj;rw [hj,Nat.eq_of_beq_eq_true hr]
      ·cases hr
     have hri:i∈Region.ready .any ops l:=by rw [hr'];simp
     refine⟨fun h0=>(by rw [hr'] at h0;cases h0),fun j hj=>?_⟩
     rw [hr',List.mem_singleton] at hj
     subst hj
     exact effM_sound hT ho hmq hs hf he (fun c' fr' H' a' q1 q2 q3 q4=>opsM_sound hT hB hns hq hpan r m _ c' fr' H' a' hm (hcl.set hri) hd2 q1 q2 q3 q4) h
    | false=>
     rw [hE] at hd1
     dsimp only at hd1
     cases hM:mk.testBit i with
     | true=>
      rw [hM] at hd1
      simp only [Bool.and_eq_true] at hd1
      obtain⟨hr,hmq⟩:=hd1
      have hr':Region.ready .any ops l=[i]:=by
       split at hr
       ·rename_i j hj;rw [hj,Nat.eq_of_beq_eq_true hr]
       ·cases hr
      have hri:i∈Region.ready .any ops l:=by rw [hr'];simp
      refine⟨fun h0=>(by rw [hr'] at h0;cases h0),fun j hj=>?_⟩
      rw [hr',List.mem_singleton] at hj
      subst hj
      exact effM_sound hT ho hmq hs hf he (fun c' fr' H' a' q1 q2 q3 q4=>opsM_sound hT hB hns hq hpan r m _ c' fr' H' a' hm (hcl.set hri) hd2 q1 q2 q3 q4) h
     | false=>
     rw [hM] at hd1
     simp only [Bool.and_eq_true] at hd1
     obtain⟨hfree,hr⟩:=hd1
     have hri:i∈Region.ready .any ops l:=by simpa using hr
     simp only [stepTM,lget_eq] at h
     rw [show ops.toList[i]? = some o by simpa using ho] at h
     simp only at h
     have step:∀ v fr2,YieldsIf P ops (Old c.w) o v a→FR w0 c n fr2 (a.put o.dst v)→opsM P T n mk ops r fr2 H K→HeldM P ops B mk Q (m+1) l a c.w:=by
      intro v fr2 hy hf2 h2
      exact HeldM.first1 hB ho hM hE (Region.noSelect_spec hns) (fun c a w h=>(hpan _ _ _ h).elim) m l a c.w hcl (Region.free_spec ho hfree) hri hy
       (opsM_sound hT hB hns hq hpan r m _ c fr2 H _ hm (hcl.set hri) hd2 hs hf2 he h2)
     rcases guardK_sound hf h with ⟨hw,fr',hf',h⟩ | ⟨hw,fr',hf',h⟩
     ·unfold stepK at h
      rw [hE] at h
      obtain⟨rr,v,h1,h2,h3⟩:=(det_sound hT hs hf' h).y
      obtain⟨fr2,h4,h5⟩:=putK_sound hf' h3 h1
      exact step v fr2 (.inl ⟨hw,h2⟩) h5 h4
     ·obtain⟨fr2,h4,h5⟩:=putK_sound (v:=undef) hf' (by simp [Rd]) h
      exact step undef fr2 (.inr ⟨hw,rfl⟩) h5 h4
def treeAllM (ops:Array Oper) (mk:Nat) (tr:TrM):Bool:=befOk ops (befC ops)&&Region.noSelect ops&&Nat.ble tr.depth ops.size&&treeM ops (befC ops) mk tr (Array.replicate ops.size false)
theorem aDraw.treeM (mk:Nat) (hT:TOk P T) (hm:P.follows .mixedOrders=true) {id:Nat} {K:Fr→List AB→Prop} {fr:Fr} {H:List AB} (tr:TrM) (ds:List Nat) {F:Fr} {H2:List AB} (hok:treeAllM ops mk tr=true)
  (h:opsM P T n mk ops tr fr H fun fr' H'=>canonK (ds ++ slots fr) fr' fun l=>l=F∧H'=H2) (hk:K F H2):aDraw P T n d0 id ops K fr H:=by
 simp only [treeAllM,Bool.and_eq_true] at hok
 obtain⟨⟨⟨hB,hns⟩,hlen⟩,hok⟩:=hok
 refine⟨fun w0 M0 ce c a hs hf he hd Q hQ=>?_⟩
 refine wp_mono (Q:=fun e a w=>e = .normal∧Lift w0 M0 ce n (fun fr' H'=>canonK (ds ++ slots fr) fr' fun l=>l=F∧H'=H2) a w) ?_ ?_
 ·refine wp_region_any hm (HeldM.any (B:=befC ops) (mk:=mk) _ _ _ _ ?_)
  have hb:=(Below.refl c.w.heap.size c.w).drew
  obtain⟨h1,h2⟩:=hs.grow hb
  refine opsM_sound (w0:=w0) (M0:=M0) (ce:=ce) hT hB hns (fun a w hl=>⟨rfl,hl⟩) (fun c a w h=>by cases h.1) tr _ _ { c with w:=c.w.drew } fr H a (Nat.le_of_ble_eq_true hlen) ?_ hok h1 (hf.ext h2) (he.trans h2) h
  intro j o hj hlj
  rcases Nat.lt_or_ge j ops.size with h' | h'
  ·simp [h'] at hlj
  ·simp [Array.getElem?_eq_none h'] at hj
 ·rintro e a w ⟨rfl,c',fr',H',rfl,h1,h2,h3,h4⟩
  obtain⟨e1,rfl⟩:=canonK_iff h1
  exact hQ c' F H' a hk h2 (e1 ▸ h3.canon _) h4
theorem aDraw.treeK (mk:Nat) (hT:TOk P T) (hm:P.follows .mixedOrders=true) {id:Nat} {K:Fr→List AB→Prop} {fr:Fr} {H:List AB} (tr:TrM) (hok:treeAllM ops mk tr=true)
  (h:opsM P T n mk ops tr fr H K):aDraw P T n d0 id ops K fr H:=by
 simp only [treeAllM,Bool.and_eq_true] at hok
 obtain⟨⟨⟨hB,hns⟩,hlen⟩,hok⟩:=hok
 refine⟨fun w0 M0 ce c a hs hf he hd Q hQ=>?_⟩
 refine wp_mono (Q:=fun e a w=>e = .normal∧Lift w0 M0 ce n K a w) ?_ ?_
 ·refine wp_region_any hm (HeldM.any (B:=befC ops) (mk:=mk) _ _ _ _ ?_)
  have hb:=(Below.refl c.w.heap.size c.w).drew
  obtain⟨h1,h2⟩:=hs.grow hb
  refine opsM_sound (w0:=w0) (M0:=M0) (ce:=ce) hT hB hns (fun a w hl=>⟨rfl,hl⟩) (fun c a w h=>by cases h.1) tr _ _ { c with w:=c.w.drew } fr H a (Nat.le_of_ble_eq_true hlen) ?_ hok h1 (hf.ext h2) (he.trans h2) h
  intro j o hj hlj
  rcases Nat.lt_or_ge j ops.size with h' | h'
  ·simp [h'] at hlj
  ·simp [Array.getElem?_eq_none h'] at hj
 ·rintro e a w ⟨rfl,c',fr',H',rfl,h1,h2,h3,h4⟩
  exact hQ c' fr' H' a h1 h2 h3 h4
end
set_option maxRecDepth 100000 in
theorem bclone_fn (b:List UInt8) (hb:b.length≤1000000000):Fn Tryz.prog 102 [bA b] fun r=>r=bA b:=by
 refine Fn.of tys_ok Tryz.func102 rfl rfl (Nat.le_of_ble_eq_true rfl) ?_
 conv=>whnf
 refine And.intro (fun h=>?_) ?_
 ·conv=>whnf
  exact⟨bA b,fun c v hv=>by rw [List.length_eq_zero_iff.1 h];exact nil_sl 1 _ c v hv,rfl⟩
 ·conv=>whnf
  refine And.intro ⟨rfl,by omega⟩ ?_
  conv=>whnf
  refine And.intro (by simp) ?_
  conv=>whnf
  exact⟨bA b,fun c v hv=>Rd.congr (by omega) (fun i hi=>getD_range (by omega)) hv,rfl⟩
theorem get_stepA {l:List UInt8} {k:Nat} (hk:k<l.length) (h4:k<4):IntKind.i64.wrap ((BitVec.ofInt IntKind.i64.bits ((leN (l.take k):Nat):Int) ||| BitVec.ofInt IntKind.i64.bits (IntKind.i64.wrap (IntKind.i64.wrap ((l.getD k 0).toNat:Int)*2 ^ min (IntKind.i64.wrap (8*(k:Int))).toNat IntKind.i64.bits))).toNat:Int)=((leN (l.take (k+1)):Nat):Int):=by
 have h:=get_step hk h4
 have e1:IntKind.i64.wrap (8*(k:Int))=8*(k:Int):=IntWalk.i64_in _ (by omega)
 have e2:IntKind.i64.wrap ((l.getD k 0).toNat:Int)=((l.getD k 0).toNat:Int):=IntWalk.i64_in _ (by have:=(l.getD k 0).toNat_lt;omega)
 have e3:l.getD k 0=l[k]:=by rw [List.getD_eq_getElem?_getD,List.getElem?_eq_getElem hk];rfl
 rw [e1,e2,show (8*(k:Int)).toNat=8*k by omega,Nat.min_eq_left (by show 8*k≤64;omega),e3]
 have e4:∀ n:Int,wrap64 n=IntKind.i64.wrap n:=fun n=>by rw [IntKind.wrap_i64,wrap64]
 rw [e4] at h
 exact h
theorem drop_sub {b:List UInt8} {n m:Nat} (hn:n=b.length - m) (c:Ctx) (u:Value) (h:Rd (.sl 1 n fun i=> [.v (.int .u8 (b.getD (i+m) 0).toNat)]) c u):Rd (bA (b.drop m)) c u:=
 Rd.congr (by rw [List.length_drop];exact hn) (fun i _=>by rw [List.getD_eq_getElem?_getD,List.getD_eq_getElem?_getD,List.getElem?_drop,Nat.add_comm]) h
set_option maxRecDepth 100000 in
theorem get_yes (b:List UInt8) (m:Int) (hs:szOk m) (hm:m≤b.length) (hl:b.length≤1000000):Fn Tryz.prog 228 [bA b, .v (.int .i64 m)] fun r=>r = .tp [.v (.int .i64 (leN (b.take m.toNat):Nat)),bA (b.drop m.toNat), .v (.int .i64 0)]:=by
 rcases hs with rfl | rfl | rfl
 ·refine Fn.of tys_ok Tryz.func228 rfl rfl (Nat.le_of_ble_eq_true rfl) ?_
  conv=>whnf
  refine boolI (fun h=>?_) (fun h=>?_) <;> conv=>whnf
  ·exfalso;omega
  refine And.intro (by omega) ?_
  conv=>whnf
  refine aLoop.rule Nat (fun k=>([(0,bA b),(1, .v (.int .i64 1)),(4, .v (.int .i64 (leN (b.take k):Nat))),(27, .sl 1 1 fun i=> [.v (.int .u8 (b.getD i 0).toNat)]),(28, .v (.int .i64 1)),(29, .v (.int .i64 k))], [])) (fun k=>k≤1) (fun k=>1 - k) 0 (Nat.zero_le _) ⟨[],trivial,⟨rfl,rfl,rfl,rfl,rfl,rfl,trivial⟩,trivial,rfl,rfl,rfl⟩ ?_
  rintro k hk
  conv=>whnf
  refine boolI (fun h2=>?_) (fun h2=>?_) <;> conv=>whnf
  ·have hs:=get_stepA (l:=b) (k:=k) (by omega) (by omega)
   refine And.intro (by omega) ?_
   conv=>whnf
   refine And.intro (by rw [IntWalk.i64_in _ (by omega)];omega) ?_
   conv=>whnf
   refine⟨k+1,by omega,by omega, [],trivial,⟨rfl,rfl,?_,rfl,rfl,wsucc (by omega),trivial⟩,trivial,rfl,rfl,rfl⟩
   rw [Int.toNat_natCast]
   exact congrArg (fun x=>AV.v (.int .i64 x)) hs
  ·have hk2:k=1:=by omega
   subst hk2
   refine And.intro (by omega) ?_
   conv=>whnf
   refine ACalls.sub [bA (b.drop 1)] ⟨drop_sub (by omega),trivial⟩ ?_
   refine Fn.closed (bclone_fn (b.drop 1) (by rw [List.length_drop];omega)) rfl ?_
   rintro _ rfl
   conv=>whnf
   exact⟨_,fun _ _ h=>h,rfl⟩
 ·refine Fn.of tys_ok Tryz.func228 rfl rfl (Nat.le_of_ble_eq_true rfl) ?_
  conv=>whnf
  refine boolI (fun h=>?_) (fun h=>?_) <;> conv=>whnf
  ·exfalso;omega
  refine And.intro (by omega) ?_
  conv=>whnf
  refine aLoop.rule Nat (fun k=>([(0,bA b),(1, .v (.int .i64 2)),(4, .v (.int .i64 (leN (b.take k):Nat))),(27, .sl 1 2 fun i=> [.v (.int .u8 (b.getD i 0).toNat)]),(28, .v (.int .i64 2)),(29, .v (.int .i64 k))], [])) (fun k=>k≤2) (fun k=>2 - k) 0 (Nat.zero_le _) ⟨[],trivial,⟨rfl,rfl,rfl,rfl,rfl,rfl,trivial⟩,trivial,rfl,rfl,rfl⟩ ?_
  rintro k hk
  conv=>whnf
  refine boolI (fun h2=>?_) (fun h2=>?_) <;> conv=>whnf
  ·have hs:=get_stepA (l:=b) (k:=k) (by omega) (by omega)
   refine And.intro (by omega) ?_
   conv=>whnf
   refine And.intro (by rw [IntWalk.i64_in _ (by omega)];omega) ?_
   conv=>whnf
   refine⟨k+1,by omega,by omega, [],trivial,⟨rfl,rfl,?_,rfl,rfl,wsucc (by omega),trivial⟩,trivial,rfl,rfl,rfl⟩
   rw [Int.toNat_natCast]
   exact congrArg (fun x=>AV.v (.int .i64 x)) hs
  ·have hk2:k=2:=by omega
   subst hk2
   refine And.intro (by omega) ?_
   conv=>whnf
   refine ACalls.sub [bA (b.drop 2)] ⟨drop_sub (by omega),trivial⟩ ?_
   refine Fn.closed (bclone_fn (b.drop 2) (by rw [List.length_drop];omega)) rfl ?_
   rintro _ rfl
   conv=>whnf
   exact⟨_,fun _ _ h=>h,rfl⟩
 ·refine Fn.of tys_ok Tryz.func228 rfl rfl (Nat.le_of_ble_eq_true rfl) ?_
  conv=>whnf
  refine boolI (fun h=>?_) (fun h=>?_) <;> conv=>whnf
  ·exfalso;omega
  refine And.intro (by omega) ?_
  conv=>whnf
  refine aLoop.rule Nat (fun k=>([(0,bA b),(1, .v (.int .i64 4)),(4, .v (.int .i64 (leN (b.take k):Nat))),(27, .sl 1 4 fun i=> [.v (.int .u8 (b.getD i 0).toNat)]),(28, .v (.int .i64 4)),(29, .v (.int .i64 k))], [])) (fun k=>k≤4) (fun k=>4 - k) 0 (Nat.zero_le _) ⟨[],trivial,⟨rfl,rfl,rfl,rfl,rfl,rfl,trivial⟩,trivial,rfl,rfl,rfl⟩ ?_
  rintro k hk
  conv=>whnf
  refine boolI (fun h2=>?_) (fun h2=>?_) <;> conv=>whnf
  ·have hs:=get_stepA (l:=b) (k:=k) (by omega) (by omega)
   refine And.intro (by omega) ?_
   conv=>whnf
   refine And.intro (by rw [IntWalk.i64_in _ (by omega)];omega) ?_
   conv=>whnf
   refine⟨k+1,by omega,by omega, [],trivial,⟨rfl,rfl,?_,rfl,rfl,wsucc (by omega),trivial⟩,trivial,rfl,rfl,rfl⟩
   rw [Int.toNat_natCast]
   exact congrArg (fun x=>AV.v (.int .i64 x)) hs
  ·have hk2:k=4:=by omega
   subst hk2
   refine And.intro (by omega) ?_
   conv=>whnf
   refine ACalls.sub [bA (b.drop 4)] ⟨drop_sub (by omega),trivial⟩ ?_
   refine Fn.closed (bclone_fn (b.drop 4) (by rw [List.length_drop];omega)) rfl ?_
   rintro _ rfl
   conv=>whnf
   exact⟨_,fun _ _ h=>h,rfl⟩
theorem nil_two {e:Int} (c:Ctx) (v:Value) (h:Rd (.tp [.v (.int .i64 0), .v (.slice none 0 0), .v (.int .i64 e)]) c v):Rd (.tp [.v (.int .i64 0),bA [], .v (.int .i64 e)]) c v:=by
 simp only [Rd,RdL] at h ⊢
 obtain⟨xs,rfl,x,xs,rfl,hx,y,ys,rfl,rfl,h⟩:=h
 exact⟨_,rfl,_,_,rfl,hx,_,_,rfl,nil_sl 1 (fun i=> [.v (.int .u8 (([]:List UInt8).getD i 0).toNat)]) c (.slice none 0 0) (by simp [Rd]),h⟩
theorem get_no (b:List UInt8) (m:Int) (hs:szOk m) (hm:b.length<m):Fn Tryz.prog 228 [bA b, .v (.int .i64 m)] fun r=>r = .tp [.v (.int .i64 0),bA [], .v (.int .i64 4)]:=by
 rcases hs with rfl | rfl | rfl
 all_goals
  refine Fn.of tys_ok Tryz.func228 rfl rfl (Nat.le_of_ble_eq_true rfl) ?_
  conv=>whnf
  refine boolI (fun h=>?_) (fun h=>?_) <;> conv=>whnf
  ·exact⟨_,nil_two,rfl⟩
  ·exfalso;omega
theorem unrow_yes (b:List UInt8) (ss:List Int) (hss:∀ s∈ss,szOk s) (hl:b.length≤1000000) (hn:ss.length≤1000) (ht:tot ss≤b.length) :
  ACalls Tryz.prog false 215 [bA b,iA ss] [] fun r H=>r = .tp [.ow 0 ss.length,bA (b.drop (tot ss)), .v (.int .i64 0)]∧H=[.row 3 1 ((nums ss b).map ic1)]:=by
 refine ACalls.ofC tys_ok Tryz.func215 rfl rfl (Nat.le_of_ble_eq_true rfl) ?_
 conv=>whnf
 refine Fn.closed (bclone_fn b (by omega)) rfl ?_
 rintro _ rfl
 conv=>whnf
 refine aLoop.ruleC Nat (fun k=>([(4, .ow 0 k),(5,bA (b.drop (tot (ss.take k)))),(14,iA ss),(15, .v (.int .i64 ss.length)),(16, .v (.int .i64 k))], [.row 3 1 ((nums (ss.take k) b).map ic1)])) (fun k=>k≤ss.length) (fun k=>ss.length - k) 0 (Nat.zero_le _) (Wk.conv ⟨[(4,3,1)],⟨rfl,rfl,trivial⟩,⟨rfl,rfl,rfl,rfl,rfl,trivial⟩,⟨rfl,trivial⟩,rfl,rfl,rfl⟩) ?_
 rintro k hk
 conv=>whnf
 refine boolI (fun h2=>?_) (fun h2=>?_) <;> (repeat rw [Int.toNat_natCast] at h2) <;> conv=>whnf
 ·have hk':k<ss.length:=by omega
  have h5:=tot_step ss k hk'
  have h6:=tot_take_le ss (k+1)
  have h7:=nums_step ss b k hk'
  have h8:szOk ss[k]:=hss _ (List.getElem_mem hk')
  have h9:ss.getD k 0=ss[k]:=by rw [List.getD_eq_getElem?_getD,List.getElem?_eq_getElem hk'];rfl
  have h10:ss[k]=(ss[k].toNat:Int):=by rcases h8 with h | h | h <;> rw [h] <;> rfl
  have hg:=get_yes (b.drop (tot (ss.take k))) ss[k] h8 (by rw [List.length_drop];omega) (by rw [List.length_drop];omega)
  refine And.intro (by omega) ?_
  conv=>whnf
  rw [Int.toNat_natCast,h9]
  refine Fn.closed (hg) rfl ?_
  rintro _ rfl
  conv=>whnf
  have h11:(nums (ss.take k) b).length=k:=by rw [nums_len,List.length_take];omega
  refine And.intro rfl ?_
  conv=>whnf
  refine And.intro ⟨by rw [List.length_map];exact h11.symm,by omega⟩ ?_
  conv=>whnf
  refine⟨k+1,by omega,by omega,Wk.conv ⟨[],trivial,⟨rfl,?_,rfl,rfl,wsucc (by omega),trivial⟩,⟨?_,trivial⟩,rfl,rfl,rfl⟩⟩
  ·rw [h5,←List.drop_drop]
   rfl
  ·rw [h7,List.map_append]
   rfl
 ·have hk2:k=ss.length:=by omega
  subst hk2
  rw [List.take_length]
  conv=>whnf
  exact⟨.tp [.ow 0 ss.length,bA (b.drop (tot ss)), .v (.int .i64 0)],_, [.row 3 1 ((nums ss b).map ic1)],fun _ _ h=>h,Wk.conv ⟨[],trivial,⟨rfl,trivial⟩,⟨rfl,trivial⟩,rfl,rfl,rfl⟩,rfl,rfl⟩
theorem unrow_no (b:List UInt8) (ss:List Int) (hss:∀ s∈ss,szOk s) (hl:b.length≤1000000) (hn:ss.length≤1000) (ht:b.length<tot ss) :
  Fn Tryz.prog 215 [bA b,iA ss] fun r=>r = .tp [.v (.slice none 0 0), .v (.slice none 0 0), .v (.int .i64 4)]:=by
 refine Fn.of tys_ok Tryz.func215 rfl rfl (Nat.le_of_ble_eq_true rfl) ?_
 conv=>whnf
 refine Fn.closed (bclone_fn b (by omega)) rfl ?_
 rintro _ rfl
 conv=>whnf
 refine aLoop.ruleC Nat (fun k=>([(4, .ow 0 k),(5,bA (b.drop (tot (ss.take k)))),(14,iA ss),(15, .v (.int .i64 ss.length)),(16, .v (.int .i64 k))], [.row 3 1 ((nums (ss.take k) b).map ic1)])) (fun k=>k≤ss.length∧tot (ss.take k)≤b.length) (fun k=>ss.length - k) 0 ⟨Nat.zero_le _,by simp [tot]⟩ (Wk.conv ⟨[(4,3,1)],⟨rfl,rfl,trivial⟩,⟨rfl,rfl,rfl,rfl,rfl,trivial⟩,⟨rfl,trivial⟩,rfl,rfl,rfl⟩) ?_
 rintro k ⟨hk,hkt⟩
 conv=>whnf
 refine boolI (fun h2=>?_) (fun h2=>?_) <;> (repeat rw [Int.toNat_natCast] at h2) <;> conv=>whnf
 ·have hk':k<ss.length:=by omega
  have h5:=tot_step ss k hk'
  have h7:=nums_step ss b k hk'
  have h8:szOk ss[k]:=hss _ (List.getElem_mem hk')
  have h9:ss.getD k 0=ss[k]:=by rw [List.getD_eq_getElem?_getD,List.getElem?_eq_getElem hk'];rfl
  have h10:ss[k]=(ss[k].toNat:Int):=by rcases h8 with h | h | h <;> rw [h] <;> rfl
  by_cases hlt:tot (ss.take (k+1))≤b.length
  ·have hg:=get_yes (b.drop (tot (ss.take k))) ss[k] h8 (by rw [List.length_drop];omega) (by rw [List.length_drop];omega)
   refine And.intro (by omega) ?_
   conv=>whnf
   rw [Int.toNat_natCast,h9]
   refine Fn.closed (hg) rfl ?_
   rintro _ rfl
   conv=>whnf
   have h11:(nums (ss.take k) b).length=k:=by rw [nums_len,List.length_take];omega
   refine And.intro rfl ?_
   conv=>whnf
   refine And.intro ⟨by rw [List.length_map];exact h11.symm,by omega⟩ ?_
   conv=>whnf
   refine⟨k+1,⟨by omega,hlt⟩,by omega,Wk.conv ⟨[],trivial,⟨rfl,?_,rfl,rfl,wsucc (by omega),trivial⟩,⟨?_,trivial⟩,rfl,rfl,rfl⟩⟩
   ·rw [h5,←List.drop_drop]
    rfl
   ·rw [h7,List.map_append]
    rfl
  ·have hg:=get_no (b.drop (tot (ss.take k))) ss[k] h8 (by rw [List.length_drop];omega)
   refine And.intro (by omega) ?_
   conv=>whnf
   rw [Int.toNat_natCast,h9]
   refine Fn.closed (hg) rfl ?_
   rintro _ rfl
   conv=>whnf
   exact⟨_,fun _ _ h=>h,rfl⟩
 ·have hk2:k=ss.length:=by omega
  subst hk2
  rw [List.take_length] at hkt
  omega
theorem cut_sub {b:List UInt8} {n m k:Nat} (hn:n=k) (hk:m+k≤b.length) (c:Ctx) (u:Value) (h:Rd (.sl 1 n fun i=> [.v (.int .u8 (b.getD (i+m) 0).toNat)]) c u):Rd (bA ((b.drop m).take k)) c u:=
 Rd.congr (by rw [List.length_take,List.length_drop];omega) (fun i hi=>by rw [List.getD_eq_getElem?_getD,List.getD_eq_getElem?_getD,List.getElem?_take_of_lt (by omega),List.getElem?_drop,Nat.add_comm]) h
set_option maxRecDepth 100000 in
theorem unpart_yes (b:List UInt8) (hl:b.length≤1000000) (hp:partOk b=true):Fn Tryz.prog 229 [bA b] fun r=>r = .tp [bA ((b.drop 1).take (partN b)),bA (b.drop (1+partN b)), .v (.int .i64 0)]:=by
 simp only [partOk,decide_eq_true_eq] at hp
 have h0:(b.getD 0 0).toNat=partN b:=by cases b <;> rfl
 have hlt:=(b.getD 0 0).toNat_lt
 have e1:IntKind.i64.wrap ((b.getD 0 0).toNat:Int)=(partN b:Int):=by rw [IntWalk.i64_in _ (by omega),h0]
 have e2:IntKind.i64.wrap (1+(partN b:Int))=((1+partN b:Nat):Int):=by rw [IntWalk.i64_in _ (by omega)];omega
 refine Fn.of tys_ok Tryz.func229 rfl rfl (Nat.le_of_ble_eq_true rfl) ?_
 conv=>whnf
 refine boolI (fun h=>?_) (fun h=>?_) <;> conv=>whnf
 ·exfalso;omega
 refine And.intro (by omega) ?_
 conv=>whnf
 rw [show Int.toNat 0=0 from rfl,e1,e2]
 refine boolI (fun h2=>?_) (fun h2=>?_) <;> conv=>whnf
 ·exfalso;omega
 refine And.intro (by omega) ?_
 conv=>whnf
 rw [show Int.toNat 0=0 from rfl,e1,e2]
 apply aDraw.tree tys_ok mixed (.one 0 (.one 1 (.one 2 (.one 4 (.one 5 (.one 6 (.one 3 (.one 7 (.one 8 (.one 9 (.one 10 .fin))))))))))) [2,3,4,24,25,26,27,28,29,30,31] (by kernel_rfl)
 ·conv=>whnf
  try (refine And.intro (by first | omega | (simp;done)) ?_;conv=>whnf)
  try (refine And.intro (by first | omega | (simp;done)) ?_;conv=>whnf)
  (refine ACalls.sub [bA ((b.drop 1).take (partN b))] ⟨cut_sub (by omega) (by omega),trivial⟩ ?_;refine Fn.closed (bclone_fn _ (by rw [List.length_take];omega)) rfl ?_;rintro _ rfl)
  conv=>whnf
  (refine ACalls.sub [bA (b.drop (1+partN b))] ⟨drop_sub (by omega),trivial⟩ ?_;refine Fn.closed (bclone_fn _ (by rw [List.length_drop];omega)) rfl ?_;rintro _ rfl)
  conv=>whnf
  exact⟨rfl,rfl⟩
 conv=>whnf
 exact⟨_,fun _ _ h=>h,rfl⟩
theorem unpart_no (b:List UInt8) (hp:partOk b=false):Fn Tryz.prog 229 [bA b] fun r=>r = .tp [.v (.slice none 0 0), .v (.slice none 0 0), .v (.int .i64 4)]:=by
 simp only [partOk,decide_eq_false_iff_not] at hp
 have h0:(b.getD 0 0).toNat=partN b:=by cases b <;> rfl
 have hlt:=(b.getD 0 0).toNat_lt
 have e1:IntKind.i64.wrap ((b.getD 0 0).toNat:Int)=(partN b:Int):=by rw [IntWalk.i64_in _ (by omega),h0]
 have e2:IntKind.i64.wrap (1+(partN b:Int))=((1+partN b:Nat):Int):=by rw [IntWalk.i64_in _ (by omega)];omega
 refine Fn.of tys_ok Tryz.func229 rfl rfl (Nat.le_of_ble_eq_true rfl) ?_
 conv=>whnf
 refine boolI (fun h=>?_) (fun h=>?_) <;> conv=>whnf
 ·exact⟨_,fun _ _ h=>h,rfl⟩
 refine And.intro (by omega) ?_
 conv=>whnf
 rw [show Int.toNat 0=0 from rfl,e1,e2]
 refine boolI (fun h2=>?_) (fun h2=>?_) <;> conv=>whnf
 ·exact⟨_,fun _ _ h=>h,rfl⟩
 ·exfalso;omega
theorem equal_fn (a b:List UInt8):Fn Tryz.prog 216 [bA a,bA b] fun r=>r = .v (.bool (decide (a=b))):=by
 refine⟨⟨_,Tryz.func216,rfl,by decide⟩,fun c0 us hd hM _ hr=>?_⟩
 obtain⟨u1,u2,rfl,h1,h2⟩:=rd2 hr
 refine(equal_any u1 u2 a b c0.w c0.M c0.M (toBytes h1) (toBytes h2)).mono ?_
 rintro e w' ⟨rfl,rfl⟩
 exact⟨_,_,rfl,rfl,Below.refl _ _,rd_v _⟩
def ixI {α:Type} (p:α→Bool) (l:List α):Int:=if l.any p then ((l.findIdx p:Nat):Int) else -1
theorem ixI_hit {α:Type} {p:α→Bool} {l:List α} {k:Nat} {d:α} (hk:k<l.length) (h:(l.take k).any p=false) (hp:p (l.getD k d)=true):ixI p l=k:=by
 rw [List.getD_eq_getElem?_getD,List.getElem?_eq_getElem hk] at hp
 have hp:p l[k]=true:=hp
 unfold ixI
 rw [List.any_eq_true.2 ⟨l[k],List.getElem_mem hk,hp⟩]
 simp only [if_true,Int.natCast_inj]
 refine(List.findIdx_eq hk).2 ⟨hp,fun j hj=>?_⟩
 rw [List.any_eq_false] at h
 have:=h l[j] (List.mem_take_iff_getElem.2 ⟨j,by omega,rfl⟩)
 simpa using this
theorem ixI_none {α:Type} {p:α→Bool} {l:List α} (h:l.any p=false):ixI p l = -1:=by
 unfold ixI;rw [h];rfl
theorem ixI_ge {α:Type} {p:α→Bool} {l:List α}:decide (0≤ixI p l)=l.any p:=by
 unfold ixI
 cases h:l.any p with
 | true=>simp
 | false=>rfl
theorem any_take_succ {α:Type} {p:α→Bool} {l:List α} {k:Nat} {d:α} (hk:k<l.length) (h:(l.take k).any p=false) (hp:p (l.getD k d)=false):(l.take (k+1)).any p=false:=by
 rw [List.take_succ_eq_append_getElem hk,List.any_append,h]
 rw [List.getD_eq_getElem?_getD,List.getElem?_eq_getElem hk] at hp
 simpa using hp
def entC (x:Ent):List AV:= [.v (.int .i64 x.stamp), .v (.int .i64 x.sum), .v (.bool x.lost)]
def entsA (l:List Ent):AV:= .sl 3 l.length fun i=>entC (l.getD i ⟨0,0,false⟩)
theorem tnum_fn (n:Int):Fn Tryz.prog 187 [.v (.int .i64 n)] fun r=>r = .v (.bool (num32 n)):=by
 refine Fn.of tys_ok Tryz.func187 rfl rfl (Nat.le_of_ble_eq_true rfl) ?_
 conv=>whnf
 repeat' (first | (refine boolK_intro (fun h=>?_) (fun h=>?_) <;> (try simp at h) <;> conv=>whnf) | (refine aDraw.seq tys_ok mixed (by kernel_rfl) ?_;conv=>whnf) | (refine aSeq.go ?_;conv=>whnf) | (refine And.intro (by omega) ?_;conv=>whnf))
 all_goals exact⟨_,fun _ _ h=>h,by simp [num32,inB, *] <;> omega⟩
theorem wrong_fn (x:Ent):Fn Tryz.prog 186 [.ag (entC x)] fun r=>r = .v (.bool (!entOk x)):=by
 refine Fn.of tys_ok Tryz.func186 rfl rfl (Nat.le_of_ble_eq_true rfl) ?_
 conv=>whnf
 repeat' (first | (refine boolK_intro (fun h=>?_) (fun h=>?_) <;> (try simp at h) <;> conv=>whnf) | (refine aDraw.seq tys_ok mixed (by kernel_rfl) ?_;conv=>whnf) | (refine aSeq.go ?_;conv=>whnf) | (refine Fn.closed (tnum_fn _) rfl ?_;rintro _ rfl;conv=>whnf) | (refine And.intro (by omega) ?_;conv=>whnf))
 all_goals exact⟨_,fun _ _ h=>h,by simp [entOk, *]⟩
theorem wr_ix (l:List Ent)  (hl:l.length≤1000000):Fn Tryz.prog 222 [entsA l, .v (.func (.func 186) #[] #[])] fun r=>r = .v (.int .i64 (ixI (fun x=>!entOk x) l)):=by
 refine Fn.of tys_ok Tryz.func222 rfl rfl (Nat.le_of_ble_eq_true rfl) ?_
 conv=>whnf
 refine aLoop.rule Nat (fun k=>([(0,entsA l),(1, .v (.func (.func 186) #[] #[])),(7, .v (.int .i64 l.length)),(8, .v (.int .i64 k))], [])) (fun k=>k≤l.length∧(l.take k).any (fun x=>!entOk x)=false) (fun k=>l.length - k) 0 ⟨Nat.zero_le _,by simp⟩ ⟨[],trivial,⟨rfl,rfl,rfl,rfl,trivial⟩,trivial,rfl,rfl,rfl⟩ ?_
 rintro k ⟨hk,hI⟩
 conv=>whnf
 refine boolK_intro (fun h2=>?_) (fun h2=>?_) <;> simp at h2 <;> conv=>whnf
 ·refine⟨by first | omega | (refine⟨rfl,?_,?_⟩ <;> first | omega | (simp only [List.length_map];done) | (simp only [List.length_map];omega)) | (simp only [List.length_map];omega),?_⟩
  conv=>whnf
  refine Fn.closed (wrong_fn (l.getD k ⟨0,0,false⟩)) rfl ?_
  rintro _ rfl
  conv=>whnf
  refine boolK_intro (fun h3=>?_) (fun h3=>?_) <;> conv=>whnf
  ·exact⟨_,fun _ _ h=>h,by rw [ixI_hit (d:=⟨0,0,false⟩) h2 hI (by first | exact h3 | (rw [Int.toNat_natCast] at h3;exact h3) | simpa using h3)]⟩
  ·refine⟨k+1,⟨by omega,any_take_succ (d:=⟨0,0,false⟩) h2 hI (by first | exact h3 | (rw [Int.toNat_natCast] at h3;exact h3) | simpa using h3)⟩,by omega, [],trivial,⟨rfl,rfl,rfl,wsucc (by omega),trivial⟩,trivial,rfl,rfl,rfl⟩
 ·exact⟨_,fun _ _ h=>h,by rw [List.take_of_length_le h2] at hI;rw [ixI_none hI]⟩
theorem wr_cf (l:List Ent)  (hl:l.length≤1000000):Fn Tryz.prog 188 [entsA l, .v (.func (.func 186) #[] #[])] fun r=>r = .v (.bool (l.any (fun x=>!entOk x))):=by
 refine Fn.of tys_ok Tryz.func188 rfl rfl (Nat.le_of_ble_eq_true rfl) ?_
 conv=>whnf
 refine Fn.closed (wr_ix l  hl) rfl ?_
 rintro _ rfl
 conv=>whnf
 exact⟨_,fun _ _ h=>h,by rw [ixI_ge]⟩

theorem tcheck_fn (g:Geo) (l:List Ent) (hl:l.length≤1000000):Fn Tryz.prog 134 [.ag (geoC g), .ag [entsA l]] fun r=>r = .v (errV (okT g l)):=by
 have hG:Fn Tryz.prog 46 [.ag (geoC g)] fun r=>r = .v (errV (okG g)):=gcheck_fn g.z g.d g.sp g.sl g.an
 cases hg:okG g with
 | false=>
  rw [hg] at hG
  rw [show okT g l=false by simp [okT,hg]]
  refine Fn.of tys_ok Tryz.func134 rfl rfl (Nat.le_of_ble_eq_true rfl) ?_
  conv=>whnf
  refine Fn.closed (hG) rfl ?_
  rintro _ rfl
  conv=>whnf
  exact⟨_,fun _ _ h=>h,rfl⟩
 | true=>
  rw [hg] at hG
  obtain⟨h1,h2,h3,h4,h5⟩:=okG_iff.1 hg
  have hw:IntKind.i64.wrap (g.d+1)=g.d+1:=IntWalk.i64_in _ (by omega)
  by_cases hn:(l.length:Int)=g.d+1
  ·have hc:=wr_cf l hl
   cases ha:l.any (fun x=>!entOk x) with
   | true=>
    rw [ha] at hc
    rw [show okT g l=false by rw [okT];simp only [Bool.and_eq_false_iff];refine .inl (.inr ?_);rw [List.all_eq_not_any_not,ha];rfl]
    refine Fn.of tys_ok Tryz.func134 rfl rfl (Nat.le_of_ble_eq_true rfl) ?_
    conv=>whnf
    refine Fn.closed (hG) rfl ?_
    rintro _ rfl
    conv=>whnf
    rw [hw,show ((l.length:Int) != g.d+1)=false by rw [hn];exact bne_self_eq_false _]
    conv=>whnf
    refine Fn.closed (hc) rfl ?_
    rintro _ rfl
    conv=>whnf
    exact⟨_,fun _ _ h=>h,rfl⟩
   | false=>
    rw [ha] at hc
    have hal:l.all entOk=true:=by rw [List.all_eq_not_any_not,ha];rfl
    have hlo:lostAt l g.d.toNat=(l.getD g.d.toNat ⟨0,0,false⟩).lost:=by
     rw [lostAt,List.getD_eq_getElem?_getD,List.getElem?_eq_getElem (by omega)];rfl
    rw [show okT g l = !(l.getD g.d.toNat ⟨0,0,false⟩).lost by rw [okT,hg,hal,decide_eq_true hn,hlo];rfl]
    refine Fn.of tys_ok Tryz.func134 rfl rfl (Nat.le_of_ble_eq_true rfl) ?_
    conv=>whnf
    refine Fn.closed (hG) rfl ?_
    rintro _ rfl
    conv=>whnf
    rw [hw,show ((l.length:Int) != g.d+1)=false by rw [hn];exact bne_self_eq_false _]
    conv=>whnf
    refine Fn.closed (hc) rfl ?_
    rintro _ rfl
    conv=>whnf
    refine And.intro (by omega) ?_
    conv=>whnf
    refine boolK_intro (fun h=>?_) (fun h=>?_) <;> conv=>whnf
    ·exact⟨_,fun _ _ h=>h,by rw [h];rfl⟩
    ·exact⟨_,fun _ _ h=>h,by rw [h];rfl⟩
  ·rw [show okT g l=false by simp [okT,hn]]
   refine Fn.of tys_ok Tryz.func134 rfl rfl (Nat.le_of_ble_eq_true rfl) ?_
   conv=>whnf
   refine Fn.closed (hG) rfl ?_
   rintro _ rfl
   conv=>whnf
   rw [hw,show ((l.length:Int) != g.d+1)=true from bne_iff_ne.2 hn]
   conv=>whnf
   exact⟨_,fun _ _ h=>h,rfl⟩
set_option maxRecDepth 100000 in
theorem tbytes_fn (g:Geo) (l:List Ent) (hl:l.length≤1000):Fn Tryz.prog 71 [.ag (geoC g), .ag [entsA l]] fun r=>r = .tp [bA (if okT g l then tblB l else []), .v (errV (okT g l))]:=by
 have hc:=tcheck_fn g l (by omega)
 cases hok:okT g l with
 | false=>
  rw [hok] at hc
  refine Fn.of tys_ok Tryz.func71 rfl rfl (Nat.le_of_ble_eq_true rfl) ?_
  conv=>whnf
  refine Fn.closed (hc) rfl ?_
  rintro _ rfl
  conv=>whnf
  exact⟨.tp [bA [], .v (.int .i64 1)],fun c v h=>by
   simp only [Rd,RdL] at h ⊢
   obtain⟨xs,rfl,y,ys,rfl,rfl,h⟩:=h
   exact⟨_,rfl,_,_,rfl,nil_sl 1 (fun i=> [.v (.int .u8 (([]:List UInt8).getD i 0).toNat)]) c (.slice none 0 0) (by simp [Rd]),h⟩,rfl⟩
 | true=>
  rw [hok] at hc
  have hall:∀ x∈l,entOk x=true:=by
   simp only [okT,Bool.and_eq_true] at hok
   exact fun x hx=>List.all_eq_true.1 hok.1.2 x hx
  refine Fn.of tys_ok Tryz.func71 rfl rfl (Nat.le_of_ble_eq_true rfl) ?_
  conv=>whnf
  refine Fn.closed (hc) rfl ?_
  rintro _ rfl
  conv=>whnf
  refine aLoop.ruleC Nat (fun k=>([(7, .ow 2 (tblB (l.take k)).length),(20,entsA l),(21, .v (.int .i64 l.length)),(22, .v (.int .i64 k))], [.dead, .dead, .row 5 1 ((tblB (l.take k)).map by1)])) (fun k=>k≤l.length) (fun k=>l.length - k) 0 (Nat.zero_le _) (Wk.conv ⟨[(7,5,1)],⟨rfl,rfl,trivial⟩,⟨rfl,rfl,rfl,rfl,trivial⟩,⟨rfl,trivial⟩,rfl,rfl,rfl⟩) ?_
  rintro k hk
  conv=>whnf
  refine boolI (fun h2=>?_) (fun h2=>?_) <;> (repeat rw [Int.toNat_natCast] at h2) <;> conv=>whnf
  ·have hk':k<l.length:=by omega
   have hx:=hall _ (getD_mem (d:=⟨0,0,false⟩) hk')
   have hst:=tblB_step hk'
   have e9:l.getD k ⟨0,0,false⟩=l[k]:=by rw [List.getD_eq_getElem?_getD,List.getElem?_eq_getElem hk'];rfl
   rw [←e9] at hst
   have hr:=row_own [(l.getD k ⟨0,0,false⟩).stamp,(l.getD k ⟨0,0,false⟩).sum,lostN (l.getD k ⟨0,0,false⟩).lost] [4,4,1] rfl (by show 3≤1000;decide) (ent_fits hx)
   refine aSeq.go ?_
   conv=>whnf
   refine And.intro (by omega) ?_
   conv=>whnf
   rw [Int.toNat_natCast]
   refine aSeq.go ?_
   conv=>whnf
   refine boolK_intro (fun hx2=>?_) (fun hx2=>?_) <;> conv=>whnf
   ·rw [hx2] at hr
    refine ACalls.shut hr.go ?_
    conv=>whnf
    refine And.intro rfl ?_
    conv=>whnf
    refine And.intro rfl ?_
    conv=>whnf
    refine ACalls.sub [iA [(l.getD k ⟨0,0,false⟩).stamp,(l.getD k ⟨0,0,false⟩).sum,lostN true],iA [4,4,1]] ⟨(lit_ints (l:= [(l.getD k ⟨0,0,false⟩).stamp,(l.getD k ⟨0,0,false⟩).sum,lostN true]) rfl).1,(lit_ints (l:= [4,4,1]) rfl).1,trivial⟩ ?_
    refine ACalls.beside hr rfl ?_
    rintro _ _ ⟨rfl,rfl⟩
    conv=>whnf
    refine And.intro (by simp) ?_
    conv=>whnf
    refine And.intro ⟨by simp,by rw [tblB_len,tot_rowB [(l.getD k ⟨0,0,false⟩).stamp,(l.getD k ⟨0,0,false⟩).sum,lostN true] [4,4,1] rfl];simp [tot];omega⟩ ?_
    conv=>whnf
    have he:entB (l.getD k ⟨0,0,false⟩)=rowB [(l.getD k ⟨0,0,false⟩).stamp,(l.getD k ⟨0,0,false⟩).sum,lostN true] [4,4,1]:=by rw [entB,hx2]
    refine⟨k+1,by omega,by omega,Wk.conv ⟨[],trivial,⟨?_,rfl,rfl,wsucc (by omega),trivial⟩,⟨?_,trivial⟩,rfl,rfl,rfl⟩⟩
    ·rw [hst,he,List.length_append];rfl
    ·rw [hst,he,List.map_append]
   ·rw [hx2] at hr
    refine ACalls.shut hr.go ?_
    conv=>whnf
    refine And.intro rfl ?_
    conv=>whnf
    refine And.intro rfl ?_
    conv=>whnf
    refine ACalls.sub [iA [(l.getD k ⟨0,0,false⟩).stamp,(l.getD k ⟨0,0,false⟩).sum,lostN false],iA [4,4,1]] ⟨(lit_ints (l:= [(l.getD k ⟨0,0,false⟩).stamp,(l.getD k ⟨0,0,false⟩).sum,lostN false]) rfl).1,(lit_ints (l:= [4,4,1]) rfl).1,trivial⟩ ?_
    refine ACalls.beside hr rfl ?_
    rintro _ _ ⟨rfl,rfl⟩
    conv=>whnf
    refine And.intro (by simp) ?_
    conv=>whnf
    refine And.intro ⟨by simp,by rw [tblB_len,tot_rowB [(l.getD k ⟨0,0,false⟩).stamp,(l.getD k ⟨0,0,false⟩).sum,lostN false] [4,4,1] rfl];simp [tot];omega⟩ ?_
    conv=>whnf
    have he:entB (l.getD k ⟨0,0,false⟩)=rowB [(l.getD k ⟨0,0,false⟩).stamp,(l.getD k ⟨0,0,false⟩).sum,lostN false] [4,4,1]:=by rw [entB,hx2]
    refine⟨k+1,by omega,by omega,Wk.conv ⟨[],trivial,⟨?_,rfl,rfl,wsucc (by omega),trivial⟩,⟨?_,trivial⟩,rfl,rfl,rfl⟩⟩
    ·rw [hst,he,List.length_append];rfl
    ·rw [hst,he,List.map_append]
  ·have hk2:k=l.length:=by omega
   subst hk2
   rw [List.take_length]
   conv=>whnf
   refine And.intro (by simp) ?_
   conv=>whnf
   exact⟨.tp [bA (tblB l), .v (.int .i64 0)],fun c v h=>by
    simp only [Rd,RdL] at h ⊢
    obtain⟨xs,rfl,y,ys,rfl,h1,h⟩:=h
    exact⟨_,rfl,y,ys,rfl,Rd.congr (u:=y) rfl (fun i hi=>map_getD (f:=by1) (l:=tblB l) (d:=0) hi) (by simp only [Rd];exact h1),h⟩,rfl⟩
theorem ConvH.sealBox {H:List AB} (j k:Nat) {t t':TypeId} {sz':Nat} {cs cs2:List AV} {es':List (List AV)} (hj:H[j]? = some (.box t cs)) (hk:H[k]? = some (.row t' sz' es'))
  (he:cs.map (AV.slIn k es'.length (.sl sz' es'.length fun i=>es'.getD i []))=cs2):ConvH H ((H.set k .dead).set j (.box t cs2)):=by
 intro w0 M0 c hs
 subst he
 have hjk:j≠k:=by rintro rfl;rw [hj] at hk;cases hk
 obtain⟨c1,e1,s1,x1,r1⟩:=hs.freeze hk
 have hj1:(H.set k .dead)[j]? = some (.box t cs):=by rw [List.getElem?_set_ne (Ne.symm hjk)];exact hj
 refine⟨c1,e1,s1.recell hj1 rfl ?_,x1⟩
 rintro⟨g,xs,h1,h2,_,h4⟩
 obtain⟨g0,ys,q1,q2,q3,_⟩:=hs.blk j _ hj
 have hg:=x1.box j _ (hs.klt hj) q1
 rw [h1] at hg
 injection hg with hg
 injection hg with hg
 injection hg with hg
 subst hg
 rw [e1,q2] at h2
 injection h2 with h2
 have hxy:ys.toArray=xs.toArray:=by injection h2
 have hxy:ys=xs:=by simpa using hxy
 subst hxy
 refine⟨g,ys,h1,by rw [e1];exact q2,?_,h4⟩
 have h8:∀ (l:List AV) (us:List Value),RdL l c us→RdL (l.map (AV.slIn k es'.length (.sl sz' es'.length fun i=>es'.getD i []))) c1 us:=by
  intro l
  induction l with
  | nil=>intro us h;simp only [RdL] at h;subst h;simp [RdL]
  | cons x l ih=>
   intro us h
   simp only [RdL] at h
   obtain⟨u,vs,rfl,a1,a2⟩:=h
   simp only [List.map_cons,RdL]
   refine⟨u,vs,rfl,?_,ih vs a2⟩
   unfold AV.slIn
   split
   ·rename_i i n
    split
    ·rename_i hik
     subst hik
     split
     ·rename_i hn
      subst hn
      exact r1 u a1
     ·simp [Rd]
    ·exact Rd.ext _ x1 a1
   ·exact Rd.ext _ x1 a1
 exact h8 _ _ q3
def treadE (g:Geo) (b:List UInt8):Int:=if okG g=false then 1 else if (readT g b).isSome then 0 else 4
theorem tab_nil (e:Int) (c:Ctx) (v:Value) (h:Rd (.tp [.ag [.v (.slice none 0 0)], .v (.int .i64 e)]) c v):Rd (.tp [.ag [entsA []], .v (.int .i64 e)]) c v:=by
 have e1:SubL [.ag [.v (.slice none 0 0)], .v (.int .i64 e)] [.ag [entsA []], .v (.int .i64 e)]:=⟨ag_sub ⟨fun c u h=>nil_sl 3 _ c u h,trivial⟩,fun _ _ h=>h,trivial⟩
 simp only [Rd] at h ⊢
 obtain⟨xs,rfl,h⟩:=h
 exact⟨_,rfl,e1.rdl (c:=c) (xs:=xs) (by simpa only [RdL,Rd] using h)⟩
def trH (g:Geo) (b:List UInt8) (k:Nat):Bool→List AB
 | false=> [.box 23 (geoC g), .box 147 [.v (.slice none 0 0)], .box 147 [.ow 3 k], .row 200 3 ((entsOf k b).map entC)]
 | true=> [.box 23 (geoC g), .box 147 [.v (.slice none 0 0)], .box 147 [.sl 3 ((entsOf k b).map entC).length fun i=>((entsOf k b).map entC).getD i []], .dead]
set_option maxRecDepth 100000 in
theorem tread_fn (g:Geo) (b:List UInt8) (hl:b.length≤100000):Fn Tryz.prog 177 [.ag (geoC g),bA b] fun r=>r = .tp [.ag [entsA (if okG g then (readT g b).getD [] else [])], .v (.int .i64 (treadE g b))]:=by
 have hG:Fn Tryz.prog 46 [.ag (geoC g)] fun r=>r = .v (errV (okG g)):=gcheck_fn g.z g.d g.sp g.sl g.an
 cases hg:okG g with
 | false=>
  rw [hg] at hG
  rw [show treadE g b=1 by rw [treadE,if_pos hg]]
  refine Fn.of tys_ok Tryz.func177 rfl rfl (Nat.le_of_ble_eq_true rfl) ?_
  conv=>whnf
  refine Fn.closed (hG) rfl ?_
  rintro _ rfl
  conv=>whnf
  exact⟨_,tab_nil 1,rfl⟩
 | true=>
  rw [hg] at hG
  obtain⟨h1,h2,h3,h4,h5⟩:=okG_iff.1 hg
  obtain⟨n,hn⟩:∃ n:Nat,g.d+1=n:=⟨(g.d+1).toNat,by omega⟩
  have hnn:(g.d+1).toNat=n:=by omega
  have hw:IntKind.i64.wrap (g.d+1)=(n:Int):=by rw [IntWalk.i64_in _ (by omega),hn]
  by_cases hs:9*n≤b.length
  ·refine Fn.of tys_ok Tryz.func177 rfl rfl (Nat.le_of_ble_eq_true rfl) ?_
   conv=>whnf
   refine Fn.closed (hG) rfl ?_
   rintro _ rfl
   conv=>whnf
   refine aLoop.ruleC (Nat × Bool) (fun s=>([(1,bA b),(2, .bp 0 0),(4, .bp 1 0),(5, .v (.int .i64 0)),(6, .bp 2 0),(7,bA (b.drop (9*s.1))),(20, .v (.int .i64 n)),(21, .v (.int .i64 s.1))],trH g b s.1 s.2)) (fun s=>s.1≤n∧(s.2=false→s.1<n)∧(s.2=true→s.1=n)) (fun s=>n - s.1) (0,false) ⟨Nat.zero_le _,fun _=>by show 0<n;omega,fun h=>by cases h⟩ (Wk.conv ⟨[(1002000,200,3)],⟨rfl,rfl,trivial⟩,⟨rfl,rfl,rfl,rfl,rfl,rfl,congrArg (fun x=>AV.v (.int .i64 x)) hw,rfl,trivial⟩,⟨rfl,rfl,rfl,rfl,trivial⟩,rfl,rfl,rfl⟩) ?_
   rintro⟨k,sd⟩ ⟨hk,hf,ht⟩
   simp only at hk hf ht
   cases sd with
   | false=>
    have hk1:=hf rfl
    obtain⟨x,y,z,hxy,hen⟩:=nums3 (b.drop (9*k))
    have hu:=unrow_yes (b.drop (9*k)) [4,4,1] (by decide) (by rw [List.length_drop];omega) (by show 3≤1000;decide) (by rw [List.length_drop];show 9≤_;omega)
    rw [hxy] at hu
    have hst:=entsOf_step k b
    have hel:=entsOf_len k b
    conv=>whnf
    refine boolI (fun h6=>?_) (fun h6=>?_) <;> (repeat rw [Int.toNat_natCast] at h6) <;> conv=>whnf
    ·refine ACalls.shut hu.go ?_
     conv=>whnf
     refine And.intro rfl ?_
     conv=>whnf
     refine ACalls.sub [bA (b.drop (9*k)),iA [4,4,1]] ⟨fun _ _ h=>h,(lit_ints (l:= [4,4,1]) rfl).1,trivial⟩ ?_
     refine ACalls.beside (hu) rfl ?_
     rintro _ _ ⟨rfl,rfl⟩
     conv=>whnf
     apply aDraw.treeM (0) tys_ok mixed (.one 0 (.one 1 (.one 2 (.one 3 (.one 4 (.one 5 (.one 6 (.one 7 (.one 8 (.one 9 (.one 10 (.one 11 (.one 12 (.one 13 (.one 14 (.one 15 (.one 16 .fin))))))))))))))))) [33,34,35,36,37,38,39,40,41,42,43,44,45,46,47,48] (by kernel_rfl)
     ·conv=>whnf
      try (first | (refine And.intro ⟨by decide,by decide⟩ ?_;(conv=>whnf);refine And.intro ⟨rfl,rfl,by decide⟩ ?_;(conv=>whnf)) | skip;conv=>whnf)
      try (refine And.intro (by first | omega | (simp;done)) ?_;conv=>whnf)
      try (first | (refine And.intro ⟨by decide,by decide⟩ ?_;(conv=>whnf);refine And.intro ⟨rfl,rfl,by decide⟩ ?_;(conv=>whnf)) | skip;conv=>whnf)
      try (refine And.intro (by first | omega | (simp;done)) ?_;conv=>whnf)
      try (first | (refine And.intro ⟨by decide,by decide⟩ ?_;(conv=>whnf);refine And.intro ⟨rfl,rfl,by decide⟩ ?_;(conv=>whnf)) | skip;conv=>whnf)
      try (refine And.intro (by first | omega | (simp;done)) ?_;conv=>whnf)
      try (first | (refine And.intro ⟨by decide,by decide⟩ ?_;(conv=>whnf);refine And.intro ⟨rfl,rfl,by decide⟩ ?_;(conv=>whnf)) | skip;conv=>whnf)
      try (refine And.intro (by first | rfl | omega) ?_;conv=>whnf)
      try (refine And.intro (by first | omega | exact⟨by first | rfl | (simp;done) | (simp;omega),by omega⟩) ?_;conv=>whnf)
      try (refine And.intro ⟨rfl,by first | rfl | (simp;done) | (simp;omega),by first | omega | (simp;omega)⟩ ?_;conv=>whnf)
      (skip)
      conv=>whnf
      exact⟨rfl,rfl⟩
     conv=>whnf
     have hes:(entsOf k b).map entC ++ [[.v (.int .i64 x), .v (.int .i64 y), .v (.bool (z == 1))]]=(entsOf (k+1) b).map entC:=by rw [hst,List.map_append,hen];rfl
     have hdr:bA ((b.drop (9*k)).drop 9)=bA (b.drop (9*(k+1))):=by rw [List.drop_drop];rfl
     by_cases hlast:k+1<n
     ·exact⟨(k+1,false),⟨by show k+1≤n;omega,fun _=>hlast,fun h=>by cases h⟩,by show n - (k+1)<n - k;omega,Wk.conv ⟨[],trivial,⟨rfl,rfl,rfl,rfl,rfl,hdr,rfl,wsucc (by omega),trivial⟩,⟨rfl,rfl,rfl,congrArg (AB.row _ _) hes.symm,trivial⟩,rfl,rfl,rfl⟩⟩
     ·refine⟨(k+1,true),⟨by show k+1≤n;omega,(fun h=>by cases h),fun _=>by show k+1=n;omega⟩,by show n - (k+1)<n - k;omega,_,ConvH.sealBox 2 3 (es':=(entsOf (k+1) b).map entC) (cs2:= [.sl 3 ((entsOf (k+1) b).map entC).length fun i=>((entsOf (k+1) b).map entC).getD i []]) rfl (congrArg (fun e=>some (AB.row _ _ e)) hes) ?_, [],trivial,⟨rfl,rfl,rfl,rfl,rfl,hdr,rfl,wsucc (by omega),trivial⟩,⟨rfl,rfl,rfl,trivial⟩,rfl,rfl,rfl⟩
      have hel2:k+1=((entsOf (k+1) b).map entC).length:=by rw [List.length_map,entsOf_len]
      show [AV.slIn 3 _ _ (.ow 3 (k+1))]=_
      rw [AV.slIn,if_pos rfl,if_pos hel2]
    ·exfalso;omega
   | true=>
    have hk1:=ht rfl
    subst hk1
    have hlen:=entsOf_len k b
    have esub:∀ (c:Ctx) (u:Value),Rd (.sl 3 ((entsOf k b).map entC).length fun i=>((entsOf k b).map entC).getD i []) c u→Rd (entsA (entsOf k b)) c u:=fun c u h=>
     Rd.congr (by rw [List.length_map]) (fun i hi=>map_getD (f:=entC) (d:=⟨0,0,false⟩) (by rw [List.length_map] at hi;exact hi)) h
    have hb:=tbytes_fn g (entsOf k b) (by omega)
    have hq:=equal_fn (tblB (entsOf k b)) b
    have hRR:readT g b=if okT g (entsOf k b)=true∧tblB (entsOf k b)=b then some (entsOf k b) else none:=by rw [readT,hnn]
    conv=>whnf
    refine boolI (fun h6=>?_) (fun h6=>?_) <;> (repeat rw [Int.toNat_natCast] at h6) <;> conv=>whnf
    ·exfalso;omega
    ·refine ACalls.sub [.ag (geoC g), .ag [entsA (entsOf k b)]] ⟨fun _ _ h=>h,ag_sub ⟨esub,trivial⟩,trivial⟩ ?_
     cases hok:okT g (entsOf k b) with
     | false=>
      rw [hok] at hb
      have hN:readT g b=none:=by rw [hRR,if_neg (fun h=>by rw [hok] at h;cases h.1)]
      rw [show treadE g b=4 by rw [treadE,if_neg (by rw [hg];decide),hN];rfl,hN]
      refine Fn.closed (hb) rfl ?_
      rintro _ rfl
      conv=>whnf
      exact⟨_,tab_nil 4,rfl⟩
     | true=>
      rw [hok] at hb
      by_cases he:tblB (entsOf k b)=b
      ·have hN:readT g b=some (entsOf k b):=by rw [hRR,if_pos ⟨hok,he⟩]
       rw [show treadE g b=0 by rw [treadE,if_neg (by rw [hg];decide),hN];rfl,hN]
       rw [decide_eq_true he] at hq
       refine Fn.closed (hb) rfl ?_
       rintro _ rfl
       conv=>whnf
       refine Fn.closed (hq) rfl ?_
       rintro _ rfl
       conv=>whnf
       exact⟨.tp [.ag [entsA (entsOf k b)], .v (.int .i64 0)],fun c v h=>by
        have e1:SubL [.ag [.sl 3 ((entsOf k b).map entC).length fun i=>((entsOf k b).map entC).getD i []], .v (.int .i64 0)] [.ag [entsA (entsOf k b)], .v (.int .i64 0)]:=⟨ag_sub ⟨esub,trivial⟩,fun _ _ h=>h,trivial⟩
        simp only [Rd] at h ⊢
        obtain⟨xs,rfl,h⟩:=h
        exact⟨_,rfl,e1.rdl (c:=c) (xs:=xs) (by simpa only [RdL,Rd] using h)⟩,rfl⟩
      ·have hN:readT g b=none:=by rw [hRR,if_neg (fun h=>he h.2)]
       rw [show treadE g b=4 by rw [treadE,if_neg (by rw [hg];decide),hN];rfl,hN]
       rw [decide_eq_false he] at hq
       refine Fn.closed (hb) rfl ?_
       rintro _ rfl
       conv=>whnf
       refine Fn.closed (hq) rfl ?_
       rintro _ rfl
       conv=>whnf
       exact⟨_,tab_nil 4,rfl⟩
  ·have hN:readT g b=none:=readT_short (by rw [hnn];omega)
   rw [show treadE g b=4 by rw [treadE,if_neg (by rw [hg];decide),hN];rfl,hN]
   refine Fn.of tys_ok Tryz.func177 rfl rfl (Nat.le_of_ble_eq_true rfl) ?_
   conv=>whnf
   refine Fn.closed (hG) rfl ?_
   rintro _ rfl
   conv=>whnf
   refine aLoop.ruleC Nat (fun k=>([(1,bA b),(2, .bp 0 0),(4, .bp 1 0),(5, .v (.int .i64 0)),(6, .bp 2 0),(7,bA (b.drop (9*k))),(20, .v (.int .i64 n)),(21, .v (.int .i64 k))],trH g b k false)) (fun k=>k≤n∧9*k≤b.length) (fun k=>n - k) 0 ⟨Nat.zero_le _,Nat.zero_le _⟩ (Wk.conv ⟨[(1002000,200,3)],⟨rfl,rfl,trivial⟩,⟨rfl,rfl,rfl,rfl,rfl,rfl,congrArg (fun x=>AV.v (.int .i64 x)) hw,rfl,trivial⟩,⟨rfl,rfl,rfl,rfl,trivial⟩,rfl,rfl,rfl⟩) ?_
   rintro k ⟨hk,hkb⟩
   conv=>whnf
   refine boolI (fun h6=>?_) (fun h6=>?_) <;> (repeat rw [Int.toNat_natCast] at h6) <;> conv=>whnf
   ·by_cases h9:9*(k+1)≤b.length
    ·obtain⟨x,y,z,hxy,hen⟩:=nums3 (b.drop (9*k))
     have hu:=unrow_yes (b.drop (9*k)) [4,4,1] (by decide) (by rw [List.length_drop];omega) (by show 3≤1000;decide) (by rw [List.length_drop];show 9≤_;omega)
     rw [hxy] at hu
     have hst:=entsOf_step k b
     have hel:=entsOf_len k b
     refine ACalls.shut hu.go ?_
     conv=>whnf
     refine And.intro rfl ?_
     conv=>whnf
     refine ACalls.sub [bA (b.drop (9*k)),iA [4,4,1]] ⟨fun _ _ h=>h,(lit_ints (l:= [4,4,1]) rfl).1,trivial⟩ ?_
     refine ACalls.beside (hu) rfl ?_
     rintro _ _ ⟨rfl,rfl⟩
     conv=>whnf
     apply aDraw.treeM (0) tys_ok mixed (.one 0 (.one 1 (.one 2 (.one 3 (.one 4 (.one 5 (.one 6 (.one 7 (.one 8 (.one 9 (.one 10 (.one 11 (.one 12 (.one 13 (.one 14 (.one 15 (.one 16 .fin))))))))))))))))) [33,34,35,36,37,38,39,40,41,42,43,44,45,46,47,48] (by kernel_rfl)
     ·conv=>whnf
      try (first | (refine And.intro ⟨by decide,by decide⟩ ?_;(conv=>whnf);refine And.intro ⟨rfl,rfl,by decide⟩ ?_;(conv=>whnf)) | skip;conv=>whnf)
      try (refine And.intro (by first | omega | (simp;done)) ?_;conv=>whnf)
      try (first | (refine And.intro ⟨by decide,by decide⟩ ?_;(conv=>whnf);refine And.intro ⟨rfl,rfl,by decide⟩ ?_;(conv=>whnf)) | skip;conv=>whnf)
      try (refine And.intro (by first | omega | (simp;done)) ?_;conv=>whnf)
      try (first | (refine And.intro ⟨by decide,by decide⟩ ?_;(conv=>whnf);refine And.intro ⟨rfl,rfl,by decide⟩ ?_;(conv=>whnf)) | skip;conv=>whnf)
      try (refine And.intro (by first | omega | (simp;done)) ?_;conv=>whnf)
      try (first | (refine And.intro ⟨by decide,by decide⟩ ?_;(conv=>whnf);refine And.intro ⟨rfl,rfl,by decide⟩ ?_;(conv=>whnf)) | skip;conv=>whnf)
      try (refine And.intro (by first | rfl | omega) ?_;conv=>whnf)
      try (refine And.intro (by first | omega | exact⟨by first | rfl | (simp;done) | (simp;omega),by omega⟩) ?_;conv=>whnf)
      try (refine And.intro ⟨rfl,by first | rfl | (simp;done) | (simp;omega),by first | omega | (simp;omega)⟩ ?_;conv=>whnf)
      (skip)
      conv=>whnf
      exact⟨rfl,rfl⟩
     conv=>whnf
     have hes:(entsOf k b).map entC ++ [[.v (.int .i64 x), .v (.int .i64 y), .v (.bool (z == 1))]]=(entsOf (k+1) b).map entC:=by rw [hst,List.map_append,hen];rfl
     have hdr:bA ((b.drop (9*k)).drop 9)=bA (b.drop (9*(k+1))):=by rw [List.drop_drop];rfl
     exact⟨k+1,⟨by omega,h9⟩,by omega,Wk.conv ⟨[],trivial,⟨rfl,rfl,rfl,rfl,rfl,hdr,rfl,wsucc (by omega),trivial⟩,⟨rfl,rfl,rfl,congrArg (AB.row _ _) hes.symm,trivial⟩,rfl,rfl,rfl⟩⟩
    ·have hu:=unrow_no (b.drop (9*k)) [4,4,1] (by decide) (by rw [List.length_drop];omega) (by show 3≤1000;decide) (by rw [List.length_drop];show _<9;omega)
     refine ACalls.shut hu.go ?_
     conv=>whnf
     refine And.intro rfl ?_
     conv=>whnf
     refine ACalls.sub [bA (b.drop (9*k)),iA [4,4,1]] ⟨fun _ _ h=>h,(lit_ints (l:= [4,4,1]) rfl).1,trivial⟩ ?_
     refine Fn.closed (hu) rfl ?_
     rintro _ rfl
     conv=>whnf
     exact⟨_,tab_nil 4,rfl⟩
   ·exfalso
    have:k=n:=by omega
    subst this
    omega
theorem imageN_fn (g:Geo) (x:Img) (hl:x.bytes.length≤100000):Fn Tryz.prog 125 [.ag (geoC g), .ag (imgC x)] fun r=>r = .v (errV (imgOk g x)):=by
 have hG:Fn Tryz.prog 46 [.ag (geoC g)] fun r=>r = .v (errV (okG g)):=gcheck_fn g.z g.d g.sp g.sl g.an
 have ht:=tread_fn g x.bytes hl
 cases hg:okG g with
 | false=>
  rw [hg] at hG
  rw [show imgOk g x=false by simp [imgOk,hg]]
  refine Fn.of tys_ok Tryz.func125 rfl rfl (Nat.le_of_ble_eq_true rfl) ?_
  conv=>whnf
  refine Fn.closed (hG) rfl ?_
  rintro _ rfl
  conv=>whnf
  exact⟨_,fun _ _ h=>h,rfl⟩
 | true=>
  rw [hg] at hG ht
  obtain⟨h1,h2,h3,h4,h5⟩:=okG_iff.1 hg
  have hwz:IntKind.i64.wrap (g.z - 1)=g.z - 1:=IntWalk.i64_in _ (by omega)
  have hwd:IntKind.i64.wrap (g.d - 1)=g.d - 1:=IntWalk.i64_in _ (by omega)
  have hi1:=rin_fn x.zone 0 (g.z - 1)
  have hi2:=rin_fn x.what (-1) (g.d - 1)
  have hE:imgOk g x=(inB x.zone 0 (g.z - 1)&&(if x.what=255 then (readT g x.bytes).isSome else inB x.what (-1) (g.d - 1)&&decide (x.bytes.length=8))):=by rw [imgOk,hg];rfl
  rw [hE]
  cases hz:inB x.zone 0 (g.z - 1) with
  | false=>
   rw [hz] at hi1
   refine Fn.of tys_ok Tryz.func125 rfl rfl (Nat.le_of_ble_eq_true rfl) ?_
   conv=>whnf
   refine Fn.closed (hG) rfl ?_
   rintro _ rfl
   conv=>whnf
   rw [hwz]
   refine Fn.closed (hi1) rfl ?_
   rintro _ rfl
   conv=>whnf
   exact⟨_,fun _ _ h=>h,rfl⟩
  | true=>
   rw [hz] at hi1
   by_cases hw:x.what=255
   ·rw [if_pos hw]
    cases hr:readT g x.bytes with
    | none=>
     rw [show treadE g x.bytes=4 by rw [treadE,if_neg (by rw [hg];decide),hr];rfl] at ht
     refine Fn.of tys_ok Tryz.func125 rfl rfl (Nat.le_of_ble_eq_true rfl) ?_
     conv=>whnf
     refine Fn.closed (hG) rfl ?_
     rintro _ rfl
     conv=>whnf
     rw [hwz]
     refine Fn.closed (hi1) rfl ?_
     rintro _ rfl
     conv=>whnf
     refine boolI (fun h=>?_) (fun h=>?_) <;> conv=>whnf
     ·refine Fn.closed (ht) rfl ?_
      rintro _ rfl
      conv=>whnf
      exact⟨_,fun _ _ h=>h,rfl⟩
     ·exact absurd hw h
    | some l=>
     rw [show treadE g x.bytes=0 by rw [treadE,if_neg (by rw [hg];decide),hr];rfl] at ht
     refine Fn.of tys_ok Tryz.func125 rfl rfl (Nat.le_of_ble_eq_true rfl) ?_
     conv=>whnf
     refine Fn.closed (hG) rfl ?_
     rintro _ rfl
     conv=>whnf
     rw [hwz]
     refine Fn.closed (hi1) rfl ?_
     rintro _ rfl
     conv=>whnf
     refine boolI (fun h=>?_) (fun h=>?_) <;> conv=>whnf
     ·refine Fn.closed (ht) rfl ?_
      rintro _ rfl
      conv=>whnf
      exact⟨_,fun _ _ h=>h,rfl⟩
     ·exact absurd hw h
   ·rw [if_neg hw]
    cases hh:inB x.what (-1) (g.d - 1) with
    | false=>
     rw [hh] at hi2
     refine Fn.of tys_ok Tryz.func125 rfl rfl (Nat.le_of_ble_eq_true rfl) ?_
     conv=>whnf
     refine Fn.closed (hG) rfl ?_
     rintro _ rfl
     conv=>whnf
     rw [hwz]
     refine Fn.closed (hi1) rfl ?_
     rintro _ rfl
     conv=>whnf
     refine boolI (fun h=>?_) (fun h=>?_) <;> conv=>whnf
     ·exact absurd h hw
     rw [hwd]
     refine Fn.closed (hi2) rfl ?_
     rintro _ rfl
     conv=>whnf
     exact⟨_,fun _ _ h=>h,rfl⟩
    | true=>
     rw [hh] at hi2
     refine Fn.of tys_ok Tryz.func125 rfl rfl (Nat.le_of_ble_eq_true rfl) ?_
     conv=>whnf
     refine Fn.closed (hG) rfl ?_
     rintro _ rfl
     conv=>whnf
     rw [hwz]
     refine Fn.closed (hi1) rfl ?_
     rintro _ rfl
     conv=>whnf
     refine boolI (fun h=>?_) (fun h=>?_) <;> conv=>whnf
     ·exact absurd h hw
     rw [hwd]
     refine Fn.closed (hi2) rfl ?_
     rintro _ rfl
     conv=>whnf
     refine boolI (fun h=>?_) (fun h=>?_) <;> conv=>whnf
     ·exact⟨_,fun _ _ h=>h,by rw [decide_eq_false (by omega)];rfl⟩
     ·exact⟨_,fun _ _ h=>h,by rw [decide_eq_true (by omega)];rfl⟩
theorem none_fn (x:Img):Fn Tryz.prog 218 [.ag (imgC x)] fun r=>r = .v (.bool (noneB x)):=by
 refine Fn.of tys_ok Tryz.func218 rfl rfl (Nat.le_of_ble_eq_true rfl) ?_
 conv=>whnf
 repeat' (first | (refine boolK_intro (fun h=>?_) (fun h=>?_) <;> (try simp at h) <;> conv=>whnf) | (refine aDraw.seq tys_ok mixed (by kernel_rfl) ?_;conv=>whnf) | (refine aSeq.go ?_;conv=>whnf) | (refine And.intro (by omega) ?_;conv=>whnf))
 all_goals exact⟨_,fun _ _ h=>h,by simp [noneB, *]⟩
def behA (r:Rc):AV:=if r.kind=0 then .v .nilIface else if r.kind=1 then .ic 250 [.ag (imgC r.img)] else if r.kind=2 then .ic 247 [.ag []] else .v .nilIface
theorem behind_fn (g:Geo) (r:Rc) (hl:r.img.bytes.length≤100000):Fn Tryz.prog 182 [.ag (geoC g), .ag (rcC r)] fun x=>x = .tp [behA r, .v (.bool (behOk g r))]:=by
 have hi:=imageN_fn g r.img hl
 have hn:=none_fn r.img
 have hw:inB r.of_ 2 30=true→IntKind.i64.wrap (r.of_ - 2)=r.of_ - 2∧IntKind.i64.wrap (r.of_ - 1)=r.of_ - 1:=fun h=>by
  have:=inB_iff.1 h;rw [IntKind.wrap_i64,IntKind.wrap_i64];omega
 by_cases h0:r.kind=0
 ·rw [show behA r = .v .nilIface by rw [behA,if_pos h0],behOk,if_pos h0]
  refine Fn.of tys_ok Tryz.func182 rfl rfl (Nat.le_of_ble_eq_true rfl) ?_
  conv=>whnf
  repeat' (first | (refine boolK_intro (fun h=>?_) (fun h=>?_) <;> (try simp at h) <;> conv=>whnf) | (refine aDraw.seq tys_ok mixed (by kernel_rfl) ?_;conv=>whnf) | (refine aSeq.go ?_;conv=>whnf) | (refine Fn.closed (hn) rfl ?_;rintro _ rfl;conv=>whnf) | (refine And.intro (by omega) ?_;conv=>whnf))
  all_goals first | (exfalso;simp_all;done) | (refine⟨_,fun _ _ h=>h,?_⟩;simp [*];done)
 by_cases h1:r.kind=1
 ·rw [show behA r = .ic 250 [.ag (imgC r.img)] by rw [behA,if_neg h0,if_pos h1],behOk,if_neg h0,if_pos h1]
  cases hI:imgOk g r.img <;> rw [hI] at hi
  all_goals
   refine Fn.of tys_ok Tryz.func182 rfl rfl (Nat.le_of_ble_eq_true rfl) ?_
   conv=>whnf
   repeat' (first | (refine boolK_intro (fun h=>?_) (fun h=>?_) <;> (try simp at h) <;> conv=>whnf) | (refine aDraw.seq tys_ok mixed (by kernel_rfl) ?_;conv=>whnf) | (refine aSeq.go ?_;conv=>whnf) | (refine Fn.closed (rin_fn _ _ _) rfl ?_;rintro _ rfl;conv=>whnf) | (refine Fn.closed (hi) rfl ?_;rintro _ rfl;conv=>whnf) | (refine And.intro (by omega) ?_;conv=>whnf))
   all_goals first | (exfalso;simp_all;done) | (refine⟨.tp [.ic 250 [.ag (imgC r.img)], .v (.bool _)],fun _ _ h=>h,?_⟩;simp_all [numsB];done) | trace_state
 by_cases h2:r.kind=2
 ·rw [show behA r = .ic 247 [.ag []] by rw [behA,if_neg h0,if_neg h1,if_pos h2],behOk,if_neg h0,if_neg h1,if_pos h2]
  refine Fn.of tys_ok Tryz.func182 rfl rfl (Nat.le_of_ble_eq_true rfl) ?_
  conv=>whnf
  repeat' (first | (refine boolK_intro (fun h=>?_) (fun h=>?_) <;> (try simp at h) <;> conv=>whnf) | (refine aDraw.seq tys_ok mixed (by kernel_rfl) ?_;conv=>whnf) | (refine aSeq.go ?_;conv=>whnf) | (refine Fn.closed (rin_fn _ _ _) rfl ?_;rintro _ rfl;conv=>whnf) | (refine Fn.closed (hn) rfl ?_;rintro _ rfl;conv=>whnf) | (refine And.intro (by omega) ?_;conv=>whnf))
  all_goals first | (exfalso;simp_all;done) | (refine⟨.tp [.ic 247 [.ag []], .v (.bool _)],fun _ _ h=>h,?_⟩;simp_all [numsB];done) | trace_state
 ·rw [show behA r = .v .nilIface by rw [behA,if_neg h0,if_neg h1,if_neg h2],behOk,if_neg h0,if_neg h1,if_neg h2]
  refine Fn.of tys_ok Tryz.func182 rfl rfl (Nat.le_of_ble_eq_true rfl) ?_
  conv=>whnf
  repeat' (first | (refine boolK_intro (fun h=>?_) (fun h=>?_) <;> (try simp at h) <;> conv=>whnf) | (refine aDraw.seq tys_ok mixed (by kernel_rfl) ?_;conv=>whnf) | (refine aSeq.go ?_;conv=>whnf) | (refine Fn.closed (rin_fn _ _ _) rfl ?_;rintro _ rfl;conv=>whnf) | (refine Fn.closed (hn) rfl ?_;rintro _ rfl;conv=>whnf) | (refine And.intro (by omega) ?_;conv=>whnf))
  all_goals first | (exfalso;simp_all;done) | (refine⟨_,fun _ _ h=>h,?_⟩;rfl)
theorem sizes_own:ACalls Tryz.prog false 183 [] [] fun r H=>r = .ow 0 5∧H=[.row 3 1 (szR.map ic1)]:=by
 refine ACalls.ofC tys_ok Tryz.func183 rfl rfl (Nat.le_of_ble_eq_true rfl) ?_
 conv=>whnf
 exact⟨.ow 0 5,_, [.row 3 1 (szR.map ic1)],fun _ _ h=>h,Wk.conv ⟨[],trivial,⟨rfl,trivial⟩,⟨rfl,trivial⟩,rfl,rfl,rfl⟩,rfl,rfl⟩
set_option maxRecDepth 100000 in
theorem rbytes_fn (g:Geo) (r:Rc) (hl:r.img.bytes.length≤100000):Fn Tryz.prog 131 [.ag (geoC g), .ag (rcC r)] fun x=>x = .tp [bA (if okR g r then recB r else []), .v (errV (okR g r))]:=by
 have hb:=behind_fn g r hl
 have hG:Fn Tryz.prog 46 [.ag (geoC g)] fun r=>r = .v (errV (okG g)):=gcheck_fn g.z g.d g.sp g.sl g.an
 have no:∀ (c:Ctx) (v:Value),Rd (.tp [.v (.slice none 0 0), .v (.int .i64 1)]) c v→Rd (.tp [bA [], .v (.int .i64 1)]) c v:=fun c v h=>by
  simp only [Rd,RdL] at h ⊢
  obtain⟨xs,rfl,y,ys,rfl,rfl,h⟩:=h
  exact⟨_,rfl,_,_,rfl,nil_sl 1 (fun i=> [.v (.int .u8 (([]:List UInt8).getD i 0).toNat)]) c (.slice none 0 0) (by simp [Rd]),h⟩
 have hk:behA r = .v .nilIface∨behA r = .ic 250 [.ag (imgC r.img)]∨behA r = .ic 247 [.ag []]:=by
  unfold behA
  split
  ·exact .inl rfl
  ·split
   ·exact .inr (.inl rfl)
   ·split
    ·exact .inr (.inr rfl)
    ·exact .inl rfl
 cases hok:okR g r with
 | false=>
  cases hg:okG g with
  | false=>
   rw [hg] at hG
   rcases hk with hk | hk | hk <;> rw [hk] at hb
   all_goals
    refine Fn.of tys_ok Tryz.func131 rfl rfl (Nat.le_of_ble_eq_true rfl) ?_
    conv=>whnf
    refine Fn.closed (hb) rfl ?_
    rintro _ rfl
    conv=>whnf
    refine Fn.closed (hG) rfl ?_
    rintro _ rfl
    conv=>whnf
    exact⟨_,no,rfl⟩
  | true=>
   rw [hg] at hG
   have hbo:behOk g r=false:=by simpa [okR,hg] using hok
   rw [hbo] at hb
   rcases hk with hk | hk | hk <;> rw [hk] at hb
   all_goals
    refine Fn.of tys_ok Tryz.func131 rfl rfl (Nat.le_of_ble_eq_true rfl) ?_
    conv=>whnf
    refine Fn.closed (hb) rfl ?_
    rintro _ rfl
    conv=>whnf
    refine Fn.closed (hG) rfl ?_
    rintro _ rfl
    conv=>whnf
    exact⟨_,no,rfl⟩
 | true=>
  have hg:okG g=true:=by simp only [okR,Bool.and_eq_true] at hok;exact hok.1
  have hbo:behOk g r=true:=by simp only [okR,Bool.and_eq_true] at hok;exact hok.2
  rw [hg] at hG
  rw [hbo] at hb
  have hrow:=row_own (numsOf r) szR rfl (by show 5≤1000;decide) (rec_fits hok)
  have fin0:∀ (L:List UInt8) (n:Nat) (es:List (List AV)),n=L.length→es=L.map by1→∀ (c:Ctx) (v:Value),Rd (.tp [.sl 1 n fun i=>es.getD i [], .v (.int .i64 0)]) c v→Rd (.tp [bA L, .v (.int .i64 0)]) c v:=fun L n es hn he c v h=>by
   subst he
   simp only [Rd,RdL] at h ⊢
   obtain⟨xs,rfl,y,ys,rfl,h1,h⟩:=h
   exact⟨_,rfl,y,ys,rfl,Rd.congr (u:=y) hn (fun i hi=>map_getD (f:=by1) (l:=L) (d:=0) (hn ▸ hi)) (by simp only [Rd];exact h1),h⟩
  by_cases h1:r.kind=1
  ·have hI:imgOk g r.img=true:=by
    rw [behOk,if_neg (by omega),if_pos h1] at hbo
    simp only [Bool.and_eq_true] at hbo
    exact hbo.2.2
   have hs:=img_short hI
   have e1:=rowR_len r
   have e2:(rowB [r.img.zone,whatB r.img.what] [1,1]).length=2:=by rw [tot_rowB [r.img.zone,whatB r.img.what] [1,1] rfl];rfl
   have hhead:=row_own [r.img.zone,whatB r.img.what] [1,1] rfl (by show 2≤1000;decide) (img_fits hI)
   have hpart:=part_own r.img.bytes (by omega)
   rw [show behA r = .ic 250 [.ag (imgC r.img)] by rw [behA,if_neg (by omega),if_pos h1]] at hb
   refine Fn.of tys_ok Tryz.func131 rfl rfl (Nat.le_of_ble_eq_true rfl) ?_
   conv=>whnf
   refine Fn.closed (hb) rfl ?_
   rintro _ rfl
   conv=>whnf
   refine Fn.closed (hG) rfl ?_
   rintro _ rfl
   conv=>whnf
   apply aDraw.treeK (0) tys_ok mixed (.one 0 (.one 1 (.one 2 (.one 3 (.one 4 (.one 5 (.one 6 (.one 7 (.one 8 (.one 9 (.two 10 (.one 11 (.one 12 (.one 13 (.one 14 (.one 15 (.one 16 (.one 17 .fin))))))) 11 (.one 10 (.one 12 (.one 13 (.one 14 (.one 15 (.one 16 (.one 17 .fin)))))))))))))))))) (by kernel_rfl)
   conv=>whnf
   refine And.intro ?_ ?_
   conv=>whnf
   (refine ACalls.beside sizes_own rfl ?_;rintro _ _ ⟨rfl,rfl⟩)
   conv=>whnf
   (refine ACalls.shut hrow.go ?_;(conv=>whnf);refine And.intro rfl ?_;(conv=>whnf);refine And.intro rfl ?_;(conv=>whnf);refine ACalls.sub [iA (numsOf r),iA szR] ⟨(lit_ints (l:=numsOf r) rfl).1,(lit_ints (l:=szR) rfl).1,trivial⟩ ?_;refine ACalls.beside hrow rfl ?_;rintro _ _ ⟨rfl,rfl⟩)
   conv=>whnf
   rotate_left 1
   conv=>whnf
   (refine ACalls.beside sizes_own rfl ?_;rintro _ _ ⟨rfl,rfl⟩)
   conv=>whnf
   (refine ACalls.shut hrow.go ?_;(conv=>whnf);refine And.intro rfl ?_;(conv=>whnf);refine And.intro rfl ?_;(conv=>whnf);refine ACalls.sub [iA (numsOf r),iA szR] ⟨(lit_ints (l:=numsOf r) rfl).1,(lit_ints (l:=szR) rfl).1,trivial⟩ ?_;refine ACalls.beside hrow rfl ?_;rintro _ _ ⟨rfl,rfl⟩)
   conv=>whnf
   rotate_left 1
   all_goals
    refine aSeq.go ?_
    conv=>whnf
    refine boolI (fun h2=>?_) (fun h2=>?_) <;> conv=>whnf
    ·have hz:whatB r.img.what=254:=by rw [whatB,if_pos h2]
     refine ACalls.shut hhead.go ?_
     conv=>whnf
     refine And.intro rfl ?_
     conv=>whnf
     refine And.intro rfl ?_
     conv=>whnf
     refine ACalls.sub [iA [r.img.zone,whatB r.img.what],iA [1,1]] ⟨(lit_ints (l:= [r.img.zone,whatB r.img.what]) (by rw [hz];rfl)).1,(lit_ints (l:= [1,1]) rfl).1,trivial⟩ ?_
     refine ACalls.beside hhead rfl ?_
     rintro _ _ ⟨rfl,rfl⟩
     conv=>whnf
     refine ACalls.beside (hpart) rfl ?_
     rintro _ _ ⟨rfl,rfl⟩
     conv=>whnf
     refine And.intro (by simp) ?_
     conv=>whnf
     refine And.intro ⟨by simp,by omega⟩ ?_
     conv=>whnf
     refine And.intro (by simp) ?_
     conv=>whnf
     refine And.intro ⟨by simp,by simp only [List.length_cons];omega⟩ ?_
     conv=>whnf
     refine And.intro (by simp;omega) ?_
     conv=>whnf
     exact⟨.tp [bA (recB r), .v (.int .i64 0)],fin0 _ _ _ (by rw [recB,if_pos h1,imgB];simp;omega) (by rw [recB,if_pos h1,imgB];simp),rfl⟩
    ·have hz:whatB r.img.what=r.img.what:=by rw [whatB,if_neg h2]
     refine ACalls.shut hhead.go ?_
     conv=>whnf
     refine And.intro rfl ?_
     conv=>whnf
     refine And.intro rfl ?_
     conv=>whnf
     refine ACalls.sub [iA [r.img.zone,whatB r.img.what],iA [1,1]] ⟨(lit_ints (l:= [r.img.zone,whatB r.img.what]) (by rw [hz];rfl)).1,(lit_ints (l:= [1,1]) rfl).1,trivial⟩ ?_
     refine ACalls.beside hhead rfl ?_
     rintro _ _ ⟨rfl,rfl⟩
     conv=>whnf
     refine ACalls.beside (hpart) rfl ?_
     rintro _ _ ⟨rfl,rfl⟩
     conv=>whnf
     refine And.intro (by simp) ?_
     conv=>whnf
     refine And.intro ⟨by simp,by omega⟩ ?_
     conv=>whnf
     refine And.intro (by simp) ?_
     conv=>whnf
     refine And.intro ⟨by simp,by simp only [List.length_cons];omega⟩ ?_
     conv=>whnf
     refine And.intro (by simp;omega) ?_
     conv=>whnf
     exact⟨.tp [bA (recB r), .v (.int .i64 0)],fin0 _ _ _ (by rw [recB,if_pos h1,imgB];simp;omega) (by rw [recB,if_pos h1,imgB];simp),rfl⟩
  have hk2:behA r = .v .nilIface∨behA r = .ic 247 [.ag []]:=by
   rcases hk with h | h | h
   ·exact .inl h
   ·exfalso
    unfold behA at h
    rw [if_neg h1] at h
    split at h
    ·cases h
    ·split at h <;> simp at h
   ·exact .inr h
  rcases hk2 with hk | hk <;> rw [hk] at hb
  ·refine Fn.of tys_ok Tryz.func131 rfl rfl (Nat.le_of_ble_eq_true rfl) ?_
   conv=>whnf
   refine Fn.closed (hb) rfl ?_
   rintro _ rfl
   conv=>whnf
   refine Fn.closed (hG) rfl ?_
   rintro _ rfl
   conv=>whnf
   apply aDraw.treeK (0) tys_ok mixed (.one 0 (.one 1 (.one 2 (.one 3 (.one 4 (.one 5 (.one 6 (.one 7 (.one 8 (.one 9 (.two 10 (.one 11 (.one 12 (.one 13 (.one 14 (.one 15 (.one 16 (.one 17 .fin))))))) 11 (.one 10 (.one 12 (.one 13 (.one 14 (.one 15 (.one 16 (.one 17 .fin)))))))))))))))))) (by kernel_rfl)
   conv=>whnf
   refine And.intro ?_ ?_
   conv=>whnf
   (refine ACalls.beside sizes_own rfl ?_;rintro _ _ ⟨rfl,rfl⟩)
   conv=>whnf
   (refine ACalls.shut hrow.go ?_;(conv=>whnf);refine And.intro rfl ?_;(conv=>whnf);refine And.intro rfl ?_;(conv=>whnf);refine ACalls.sub [iA (numsOf r),iA szR] ⟨(lit_ints (l:=numsOf r) rfl).1,(lit_ints (l:=szR) rfl).1,trivial⟩ ?_;refine ACalls.beside hrow rfl ?_;rintro _ _ ⟨rfl,rfl⟩)
   conv=>whnf
   rotate_left 1
   conv=>whnf
   (refine ACalls.beside sizes_own rfl ?_;rintro _ _ ⟨rfl,rfl⟩)
   conv=>whnf
   (refine ACalls.shut hrow.go ?_;(conv=>whnf);refine And.intro rfl ?_;(conv=>whnf);refine And.intro rfl ?_;(conv=>whnf);refine ACalls.sub [iA (numsOf r),iA szR] ⟨(lit_ints (l:=numsOf r) rfl).1,(lit_ints (l:=szR) rfl).1,trivial⟩ ?_;refine ACalls.beside hrow rfl ?_;rintro _ _ ⟨rfl,rfl⟩)
   conv=>whnf
   rotate_left 1
   all_goals
    refine And.intro (by simp) ?_
    conv=>whnf
    exact⟨.tp [bA (rowB (numsOf r) szR), .v (.int .i64 0)],fin0 _ _ _ rfl rfl,by simp only [recB,if_neg h1,List.append_nil,if_true];rfl⟩
  ·refine Fn.of tys_ok Tryz.func131 rfl rfl (Nat.le_of_ble_eq_true rfl) ?_
   conv=>whnf
   refine Fn.closed (hb) rfl ?_
   rintro _ rfl
   conv=>whnf
   refine Fn.closed (hG) rfl ?_
   rintro _ rfl
   conv=>whnf
   apply aDraw.treeK (0) tys_ok mixed (.one 0 (.one 1 (.one 2 (.one 3 (.one 4 (.one 5 (.one 6 (.one 7 (.one 8 (.one 9 (.two 10 (.one 11 (.one 12 (.one 13 (.one 14 (.one 15 (.one 16 (.one 17 .fin))))))) 11 (.one 10 (.one 12 (.one 13 (.one 14 (.one 15 (.one 16 (.one 17 .fin)))))))))))))))))) (by kernel_rfl)
   conv=>whnf
   refine And.intro ?_ ?_
   conv=>whnf
   (refine ACalls.beside sizes_own rfl ?_;rintro _ _ ⟨rfl,rfl⟩)
   conv=>whnf
   (refine ACalls.shut hrow.go ?_;(conv=>whnf);refine And.intro rfl ?_;(conv=>whnf);refine And.intro rfl ?_;(conv=>whnf);refine ACalls.sub [iA (numsOf r),iA szR] ⟨(lit_ints (l:=numsOf r) rfl).1,(lit_ints (l:=szR) rfl).1,trivial⟩ ?_;refine ACalls.beside hrow rfl ?_;rintro _ _ ⟨rfl,rfl⟩)
   conv=>whnf
   rotate_left 1
   conv=>whnf
   (refine ACalls.beside sizes_own rfl ?_;rintro _ _ ⟨rfl,rfl⟩)
   conv=>whnf
   (refine ACalls.shut hrow.go ?_;(conv=>whnf);refine And.intro rfl ?_;(conv=>whnf);refine And.intro rfl ?_;(conv=>whnf);refine ACalls.sub [iA (numsOf r),iA szR] ⟨(lit_ints (l:=numsOf r) rfl).1,(lit_ints (l:=szR) rfl).1,trivial⟩ ?_;refine ACalls.beside hrow rfl ?_;rintro _ _ ⟨rfl,rfl⟩)
   conv=>whnf
   rotate_left 1
   all_goals
    refine And.intro (by simp) ?_
    conv=>whnf
    exact⟨.tp [bA (rowB (numsOf r) szR), .v (.int .i64 0)],fin0 _ _ _ rfl rfl,by simp only [recB,if_neg h1,List.append_nil,if_true];rfl⟩
theorem two_nums (b:List UInt8):∃ x y:Int,nums [1,1] b=[x,y]:=⟨_,_,rfl⟩
set_option maxRecDepth 100000 in
theorem shown_yes (b:List UInt8) (hl:b.length≤100000) (hs:shownOk b=true):Fn Tryz.prog 241 [bA b] fun r=>r = .tp [.ag (imgC (imgOf b)), .v (.int .i64 0)]:=by
 simp only [shownOk,Bool.and_eq_true,decide_eq_true_eq] at hs
 have hu:=unrow_yes b [1,1] (fun s h=>by simp at h;exact .inl h) (by omega) (by show 2≤1000;decide) (show 2≤b.length from hs.1)
 have hp:=unpart_yes (b.drop (tot [1,1])) (by rw [List.length_drop];omega) hs.2
 obtain⟨x,y,hxy⟩:=two_nums b
 have hi:imgOf b=⟨x,whatN y,((b.drop 2).drop 1).take (partN (b.drop 2))⟩:=by rw [imgOf,hxy];rfl
 rw [hxy] at hu
 rw [hi]
 refine Fn.of tys_ok Tryz.func241 rfl rfl (Nat.le_of_ble_eq_true rfl) ?_
 conv=>whnf
 refine ACalls.shut hu.go ?_
 conv=>whnf
 refine And.intro rfl ?_
 conv=>whnf
 refine ACalls.sub [bA b,iA [1,1]] ⟨fun _ _ h=>h,(lit_ints (l:= [1,1]) rfl).1,trivial⟩ ?_
 refine ACalls.beside (hu) rfl ?_
 rintro _ _ ⟨rfl,rfl⟩
 conv=>whnf
 refine Fn.closed (hp) rfl ?_
 rintro _ rfl
 conv=>whnf
 refine aSeq.go ?_
 conv=>whnf
 refine And.intro ⟨by decide,by decide⟩ ?_
 conv=>whnf
 refine And.intro ⟨rfl,rfl,by decide⟩ ?_
 conv=>whnf
 refine boolI (fun h=>?_) (fun h=>?_) <;> conv=>whnf
 ·rw [show whatN y = -1 by rw [whatN,if_pos h]]
  refine And.intro ⟨by decide,by decide⟩ ?_
  conv=>whnf
  refine And.intro ⟨rfl,rfl,by decide⟩ ?_
  conv=>whnf
  refine aDraw.of tys_ok mixed [0,1,2,3,4,5,6,7,8,9,10] (by kernel_rfl) ?_
  conv=>whnf
  refine And.intro ⟨by decide,by decide⟩ ?_
  conv=>whnf
  refine And.intro ⟨rfl,rfl,by decide⟩ ?_
  conv=>whnf
  refine And.intro ⟨by decide,by decide⟩ ?_
  conv=>whnf
  refine And.intro ⟨rfl,rfl,by decide⟩ ?_
  conv=>whnf
  exact⟨_,fun _ _ h=>h,rfl⟩
 ·rw [show whatN y=y by rw [whatN,if_neg h]]
  refine aDraw.of tys_ok mixed [0,1,2,3,4,5,6,7,8,9,10] (by kernel_rfl) ?_
  conv=>whnf
  refine And.intro ⟨by decide,by decide⟩ ?_
  conv=>whnf
  refine And.intro ⟨rfl,rfl,by decide⟩ ?_
  conv=>whnf
  refine And.intro ⟨by decide,by decide⟩ ?_
  conv=>whnf
  refine And.intro ⟨rfl,rfl,by decide⟩ ?_
  conv=>whnf
  exact⟨_,fun _ _ h=>h,rfl⟩
theorem img_nil (x y e:Int) (c:Ctx) (v:Value) (h:Rd (.tp [.ag [.v (.int .i64 x), .v (.int .i64 y), .v (.slice none 0 0)], .v (.int .i64 e)]) c v):Rd (.tp [.ag (imgC ⟨x,y, []⟩), .v (.int .i64 e)]) c v:=by
 simp only [imgC,Rd,RdL] at h ⊢
 obtain⟨xs,rfl,a,as',rfl,⟨zs,rfl,p,ps,rfl,hp,q,qs,rfl,hq,r,rs,rfl,rfl,hr⟩,h⟩:=h
 exact⟨_,rfl,_,_,rfl,⟨_,rfl,_,_,rfl,hp,_,_,rfl,hq,_,_,rfl,nil_sl 1 (fun i=> [.v (.int .u8 (([]:List UInt8).getD i 0).toNat)]) c (.slice none 0 0) (by simp [Rd]),hr⟩,h⟩
set_option maxRecDepth 100000 in
theorem shown_no (b:List UInt8) (hl:b.length≤100000) (hs:shownOk b=false):∃ x:Img,x.bytes=[]∧Fn Tryz.prog 241 [bA b] fun r=>r = .tp [.ag (imgC x), .v (.int .i64 4)]:=by
 have hz:∀ s∈ [(1:Int),1],szOk s:=fun s h=>by simp at h;exact .inl h
 by_cases h2:2≤b.length
 ·have hpo:partOk (b.drop 2)=false:=by simpa [shownOk,h2] using hs
  have hu:=unrow_yes b [1,1] hz (by omega) (by show 2≤1000;decide) (show 2≤b.length from h2)
  have hp:=unpart_no (b.drop (tot [1,1])) hpo
  obtain⟨x,y,hxy⟩:=two_nums b
  rw [hxy] at hu
  refine⟨⟨x,whatN y, []⟩,rfl,?_⟩
  refine Fn.of tys_ok Tryz.func241 rfl rfl (Nat.le_of_ble_eq_true rfl) ?_
  conv=>whnf
  refine ACalls.shut hu.go ?_
  conv=>whnf
  refine And.intro rfl ?_
  conv=>whnf
  refine ACalls.sub [bA b,iA [1,1]] ⟨fun _ _ h=>h,(lit_ints (l:= [1,1]) rfl).1,trivial⟩ ?_
  refine ACalls.beside (hu) rfl ?_
  rintro _ _ ⟨rfl,rfl⟩
  conv=>whnf
  refine Fn.closed (hp) rfl ?_
  rintro _ rfl
  conv=>whnf
  refine aSeq.go ?_
  conv=>whnf
  refine And.intro ⟨by decide,by decide⟩ ?_
  conv=>whnf
  refine And.intro ⟨rfl,rfl,by decide⟩ ?_
  conv=>whnf
  refine boolI (fun h=>?_) (fun h=>?_) <;> conv=>whnf
  ·rw [show whatN y = -1 by rw [whatN,if_pos h]]
   refine And.intro ⟨by decide,by decide⟩ ?_
   conv=>whnf
   refine And.intro ⟨rfl,rfl,by decide⟩ ?_
   conv=>whnf
   refine aDraw.of tys_ok mixed [0,1,2,3,4,5,6,7,8,9,10] (by kernel_rfl) ?_
   conv=>whnf
   refine And.intro ⟨by decide,by decide⟩ ?_
   conv=>whnf
   refine And.intro ⟨rfl,rfl,by decide⟩ ?_
   conv=>whnf
   refine And.intro ⟨by decide,by decide⟩ ?_
   conv=>whnf
   refine And.intro ⟨rfl,rfl,by decide⟩ ?_
   conv=>whnf
   exact⟨_,img_nil _ _ _,rfl⟩
  ·rw [show whatN y=y by rw [whatN,if_neg h]]
   refine aDraw.of tys_ok mixed [0,1,2,3,4,5,6,7,8,9,10] (by kernel_rfl) ?_
   conv=>whnf
   refine And.intro ⟨by decide,by decide⟩ ?_
   conv=>whnf
   refine And.intro ⟨rfl,rfl,by decide⟩ ?_
   conv=>whnf
   refine And.intro ⟨by decide,by decide⟩ ?_
   conv=>whnf
   refine And.intro ⟨rfl,rfl,by decide⟩ ?_
   conv=>whnf
   exact⟨_,img_nil _ _ _,rfl⟩
 ·have hu:=unrow_no b [1,1] hz (by omega) (by show 2≤1000;decide) (show b.length<2 by omega)
  refine⟨⟨0,0, []⟩,rfl,?_⟩
  refine Fn.of tys_ok Tryz.func241 rfl rfl (Nat.le_of_ble_eq_true rfl) ?_
  conv=>whnf
  refine ACalls.shut hu.go ?_
  conv=>whnf
  refine And.intro rfl ?_
  conv=>whnf
  refine ACalls.sub [bA b,iA [1,1]] ⟨fun _ _ h=>h,(lit_ints (l:= [1,1]) rfl).1,trivial⟩ ?_
  refine Fn.closed (hu) rfl ?_
  rintro _ rfl
  conv=>whnf
  exact⟨_,img_nil _ _ _,rfl⟩
theorem plB_step (l:List Int) (j:Nat) (h:j<l.length):plB (l.take (j+1))=plB (l.take j) ++ leB 1 (l.getD j 0).toNat:=by
 have e:∀ n,n≤l.length→plB (l.take n)=rowB (l.take n) ((ones l.length).take n):=fun n hn=>by
  rw [plB,List.length_take,Nat.min_eq_left hn,ones,ones,List.take_replicate,Nat.min_eq_left hn]
 rw [e _ (by omega),e _ (by omega),rowB_step l (ones l.length) j h (by rw [ones_len];exact h)]
 simp [ones,List.getD_eq_getElem?_getD,List.getElem?_eq_getElem h]
theorem plB_len (l:List Int):(plB l).length=l.length:=by rw [plB,tot_rowB _ _ (ones_len _).symm,tot_ones]
def anBk (a:An) (k:Nat):List UInt8:=rowB (anN a) szA ++ lblB a.label ++ ((a.homes.take k).map hmB).flatten
theorem anBk_step (a:An) (k:Nat) (h:k<a.homes.length):anBk a (k+1)=anBk a k ++ hmB (a.homes.getD k ⟨[],0,0⟩):=by
 rw [anBk,anBk,List.take_succ_eq_append_getElem h,List.map_append,List.flatten_append,List.append_assoc]
 simp only [List.map_cons,List.map_nil,List.flatten_cons,List.flatten_nil,List.append_nil,List.getD_eq_getElem?_getD,List.getElem?_eq_getElem h,Option.getD_some,List.append_assoc]
theorem anBk_all (a:An):anBk a a.homes.length=anB a:=by rw [anBk,List.take_length,anB]
theorem anN_fit {g:Geo} {a:An} (hg:okG g=true) (ha:anOk g a=true):∀ k (_:k<(anN a).length) (_:k<szA.length),szOk szA[k]∧0≤(anN a)[k]∧(anN a)[k]<limS szA[k]:=by
 obtain⟨g1,g2,g3,g4,g5⟩:=okG_iff.1 hg
 simp only [anOk,Bool.and_eq_true,decide_eq_true_eq,List.all_cons,List.all_nil,Bool.and_true,inB_iff,List.all_eq_true] at ha
 obtain⟨⟨q1,q2,q3,q4⟩,_,_,q5,q6,q7,q8⟩:=ha
 intro k p _
 have hk:k=0∨k=1∨k=2∨k=3∨k=4:=by simp [anN] at p;omega
 have l4:limS 4=4294967296:=rfl
 have l1:limS 1=256:=rfl
 rcases hk with rfl | rfl | rfl | rfl | rfl
 ·exact⟨.inr (.inr rfl),q1.1,by show a.gen<limS 4;omega⟩
 ·exact⟨.inr (.inr rfl),q2.1,by show a.epoch<limS 4;omega⟩
 ·exact⟨.inr (.inr rfl),q3.1,by show a.seq<limS 4;omega⟩
 ·exact⟨.inr (.inr rfl),q4.1,by show a.last<limS 4;omega⟩
 ·exact⟨.inl rfl,q5.1,by show a.pos<limS 1;omega⟩
theorem anBk_len {g:Geo} {a:An} (hg:okG g=true) (ha:anOk g a=true) (k:Nat) (hk:k≤a.homes.length):(anBk a k).length≤200∧a.homes.length≤4∧labE a.label.data.toList=0∧a.label.size≤24∧(∀ h∈a.homes,hmOk g h=true):=by
 obtain⟨g1,g2,g3,g4,g5⟩:=okG_iff.1 hg
 simp only [anOk,Bool.and_eq_true,decide_eq_true_eq,List.all_cons,List.all_nil,Bool.and_true,inB_iff,List.all_eq_true] at ha
 obtain⟨_,_,_,q5,q6,q7,q8⟩:=ha
 have h24:=labE_len q6
 have hs:a.label.size=a.label.data.toList.length:=rfl
 have hr:(rowB (anN a) szA).length=17:=tot_rowB _ _ rfl
 have hm:((a.homes.take k).map hmB).flatten.length=(a.homes.take k).length*(g.d.toNat+6):=(hmsOf_B hg (a.homes.take k) fun h hh=>q8 h (List.mem_of_mem_take hh)).2
 have hk4:(a.homes.take k).length≤4:=by rw [List.length_take];omega
 have hmul:(a.homes.take k).length*(g.d.toNat+6)≤4*10:=Nat.mul_le_mul hk4 (by omega)
 refine⟨?_,by omega,q6,by omega,q8⟩
 rw [anBk,List.length_append,List.length_append,hr,lblB_len,hm]
 omega
theorem by_sub {L:List UInt8} {n:Nat} {es:List (List AV)} (hn:n=L.length) (he:es=L.map by1) (c:Ctx) (v:Value) (h:Rd (.sl 1 n fun i=>es.getD i []) c v):Rd (bA L) c v:=by
 subst he
 exact Rd.congr hn (fun i hi=>map_getD (f:=by1) (l:=L) (d:=0) (hn ▸ hi)) h
theorem rangeF {α:Type} {d:α} {β:Type} (f:α→β) (l:List α):(List.range l.length).map (fun i=>f (l.getD i d))=l.map f:=by
 refine List.ext_getElem (by simp) fun i h1 h2=>?_
 simp only [List.length_map,List.length_range] at h1
 simp [List.getD_eq_getElem?_getD,List.getElem?_eq_getElem h1]
theorem by_range (L:List UInt8):((List.range L.length).map fun i=> [AV.v (Value.int IntKind.u8 ((L.getD i 0).toNat:Int))])=L.map by1:=rangeF (d:=0) by1 L
set_option maxRecDepth 100000 in
theorem abytes_fn (g:Geo) (a:An) (hl:a.label.size≤1000000) (hh:a.homes.length≤1000000):Fn Tryz.prog 130 [.ag (geoC g), .ag (anC a)] fun r=>r = .tp [bA (if okG g&&anOk g a then anB a else []), .v (errV (okG g&&anOk g a))]:=by
 have hc:=acheck_fn g a hl hh
 have no:∀ (c:Ctx) (v:Value),Rd (.tp [.v (.slice none 0 0), .v (.int .i64 1)]) c v→Rd (.tp [bA [], .v (.int .i64 1)]) c v:=fun c v h=>by
  simp only [Rd,RdL] at h ⊢
  obtain⟨xs,rfl,y,ys,rfl,rfl,h⟩:=h
  exact⟨_,rfl,_,_,rfl,nil_sl 1 (fun i=> [.v (.int .u8 (([]:List UInt8).getD i 0).toNat)]) c (.slice none 0 0) (by simp [Rd]),h⟩
 cases hok:(okG g&&anOk g a) with
 | false=>
  rw [hok] at hc
  refine Fn.of tys_ok Tryz.func130 rfl rfl (Nat.le_of_ble_eq_true rfl) ?_
  conv=>whnf
  refine Fn.closed (hc) rfl ?_
  rintro _ rfl
  conv=>whnf
  exact⟨_,no,rfl⟩
 | true=>
  rw [hok] at hc
  have hg:okG g=true:=by simp only [Bool.and_eq_true] at hok;exact hok.1
  have ha:anOk g a=true:=by simp only [Bool.and_eq_true] at hok;exact hok.2
  obtain⟨q1,q2,q3,q4,q5⟩:=anBk_len hg ha 0 (Nat.zero_le _)
  have hrow:=row_own (anN a) szA rfl (by show 5≤1000;decide) (anN_fit hg ha)
  have hlb:=lbytes_fn a.label hl
  rw [if_pos q3,q3] at hlb
  refine Fn.of tys_ok Tryz.func130 rfl rfl (Nat.le_of_ble_eq_true rfl) ?_
  conv=>whnf
  refine Fn.closed (hc) rfl ?_
  rintro _ rfl
  conv=>whnf
  refine ACalls.shut (hrow).go ?_
  conv=>whnf
  refine And.intro rfl ?_
  conv=>whnf
  refine And.intro rfl ?_
  conv=>whnf
  refine ACalls.sub [iA (anN a),iA szA] ⟨(lit_ints (l:=(anN a)) rfl).1,(lit_ints (l:=szA) rfl).1,trivial⟩ ?_
  refine ACalls.beside (hrow) rfl ?_
  rintro _ _ ⟨rfl,rfl⟩
  conv=>whnf
  refine Fn.closed (hlb) rfl ?_
  rintro _ rfl
  conv=>whnf
  have hr17:(rowB (anN a) szA).length=17:=tot_rowB _ _ rfl
  refine And.intro ⟨by simp,by rw [hr17,lblB_len];omega⟩ ?_
  conv=>whnf
  have e0:(rowB (anN a) szA).map by1 ++ ((List.range (lblB a.label).length).map fun i=> [AV.v (Value.int IntKind.u8 (((lblB a.label).getD i 0).toNat:Int))])=(anBk a 0).map by1:=by
   rw [by_range,←List.map_append];simp [anBk]
  have e1:(rowB (anN a) szA).length+(lblB a.label).length=(anBk a 0).length:=by simp [anBk]
  refine aLoop.ruleR Nat (fun k=>([(2, .bp 0 0),(3, .bp 1 0),(7, .ow 4 (anBk a k).length),(49,hmsA a.homes),(50, .v (.int .i64 a.homes.length)),(51, .v (.int .i64 k))], [.box 23 (geoC g), .box 40 (anC a), .dead, .dead, .row 5 1 ((anBk a k).map by1)])) (fun k=>k≤a.homes.length) (fun k=>a.homes.length - k) 0 (Nat.zero_le _)
   (Wk.conv ⟨[],trivial,⟨rfl,rfl,congrArg (AV.ow 4) e1,rfl,rfl,rfl,trivial⟩,⟨rfl,rfl,congrArg (AB.row _ _) e0.symm,trivial⟩,rfl,rfl,rfl⟩) ?_
  intro k hk
  conv=>whnf
  refine boolI (fun h6=>?_) (fun h6=>?_) <;> (repeat rw [Int.toNat_natCast] at h6) <;> conv=>whnf
  ·refine⟨by first | omega | (refine⟨rfl,?_,?_⟩ <;> first | omega | (simp only [List.length_map];done) | (simp only [List.length_map];omega)) | (simp only [List.length_map];omega),?_⟩
   conv=>whnf
   have hk':k<a.homes.length:=by omega
   have hh4:=q5 _ (getD_mem (d:=(⟨[],0,0⟩:Hm)) hk')
   obtain⟨f1,f2,f3,f4,f5⟩:=hm_fit hg hh4
   have hst:=anBk_step a k hk'
   have hB:=(anBk_len hg ha k hk).1
   have hB2:=(anBk_len hg ha (k+1) hk').1
   generalize hX:anBk a k=X at hst hB ⊢
   rw [show a.homes.getD (k:Int).toNat ⟨[],0,0⟩=a.homes.getD k ⟨[],0,0⟩ by rw [Int.toNat_natCast]]
   generalize a.homes.getD k ⟨[],0,0⟩=h at hh4 f1 f2 f3 f4 f5 hst ⊢
   rw [hst] at hB2
   have hlm:(hmB h).length=h.places.length+5:=by rw [hmB_row,tot_rowB _ _ (by rw [List.length_append,szH_len];rfl),tot_szH]
   rw [List.length_append,hlm] at hB2
   refine aLoop.ruleR Nat (fun j=>([(2, .bp 0 0),(3, .bp 1 0),(7, .ow 4 (X ++ plB (h.places.take j)).length),(12, .bp 5 0),(49,hmsA a.homes),(50, .v (.int .i64 a.homes.length)),(51, .v (.int .i64 k)),(56,iA h.places),(57, .v (.int .i64 h.places.length)),(58, .v (.int .i64 j))], [.box 23 (geoC g), .box 40 (anC a), .dead, .dead, .row 5 1 ((X ++ plB (h.places.take j)).map by1), .box 132 (hmC h)])) (fun j=>j≤h.places.length) (fun j=>h.places.length - j) 0 (Nat.zero_le _)
    (Wk.conv ⟨[],trivial,⟨rfl,rfl,congrArg (fun l=>AV.ow 4 (List.length l)) (List.append_nil X).symm,rfl,rfl,rfl,rfl,rfl,rfl,rfl,trivial⟩,⟨rfl,rfl,congrArg (fun l=>AB.row _ _ (List.map by1 l)) (List.append_nil X),rfl,trivial⟩,rfl,rfl,rfl⟩) ?_
   intro j hj
   conv=>whnf
   refine boolI (fun h7=>?_) (fun h7=>?_) <;> (repeat rw [Int.toNat_natCast] at h7) <;> conv=>whnf
   ·refine⟨by first | omega | (refine⟨rfl,?_,?_⟩ <;> first | omega | (simp only [List.length_map];done) | (simp only [List.length_map];omega)) | (simp only [List.length_map];omega),?_⟩
    conv=>whnf
    rw [Int.toNat_natCast]
    have hj':j<h.places.length:=by omega
    have hp:=f2 _ (getD_mem (d:=(0:Int)) hj')
    have hpl:=plB_len (h.places.take j)
    have hps:=plB_step h.places j hj'
    have hput:=put_own (X ++ plB (h.places.take j)) (h.places.getD j 0) 1 (.inl rfl) (by rw [List.length_append,hpl,List.length_take];omega) hp.1 hp.2
    rw [show (1:Int).toNat=1 from rfl,List.append_assoc,←hps] at hput
    refine ACalls.shut (hput).go ?_
    conv=>whnf
    repeat' (refine And.intro (by first | rfl | omega | (simp;done) | (simp only [List.length_map];omega) | (simp;omega)) ?_;conv=>whnf)
    refine ACalls.sub [bA (X ++ plB (h.places.take j)), .v (.int .i64 (h.places.getD j 0)), .v (.int .i64 1)] ⟨by_sub rfl rfl,fun _ _ h=>h,fun _ _ h=>h,trivial⟩ ?_
    refine ACalls.beside (hput) rfl ?_
    rintro _ _ ⟨rfl,rfl⟩
    conv=>whnf
    refine⟨j+1,by omega,by omega,WkN.r (s:= [0,1,2,3,6,5]) ⟨⟨rfl,rfl,rfl,rfl,rfl,rfl,rfl,rfl,rfl,wsucc (by omega),trivial⟩,⟨rfl,rfl,trivial,trivial,rfl,rfl,trivial⟩,rfl,rfl,rfl,rfl,rfl⟩⟩
   ·have ej:j=h.places.length:=by omega
    subst ej
    have hr2:=row_own [h.next,h.root] [1,4] rfl (by show 2≤1000;decide) (two_fit f3 ⟨f4,f5⟩)
    have l5:(rowB [h.next,h.root] [1,4]).length=5:=tot_rowB _ _ rfl
    have hpl:=plB_len (h.places.take h.places.length)
    rw [List.take_length] at hpl ⊢
    refine ACalls.shut (hr2).go ?_
    conv=>whnf
    refine And.intro rfl ?_
    conv=>whnf
    refine And.intro rfl ?_
    conv=>whnf
    refine ACalls.sub [iA [h.next,h.root],iA [1,4]] ⟨(lit_ints (l:= [h.next,h.root]) rfl).1,(lit_ints (l:= [1,4]) rfl).1,trivial⟩ ?_
    refine ACalls.beside (hr2) rfl ?_
    rintro _ _ ⟨rfl,rfl⟩
    conv=>whnf
    refine And.intro (by simp) ?_
    conv=>whnf
    refine And.intro ⟨by simp,by rw [l5,List.length_append,hpl];omega⟩ ?_
    conv=>whnf
    refine⟨k+1,hk',by omega,WkN.r (s:= [0,1,2,3,4]) ⟨⟨rfl,rfl,congrArg (AV.ow 4) (by rw [hst];simp [hmB,Nat.add_assoc]),rfl,rfl,wsucc (by omega),trivial⟩,⟨rfl,rfl,trivial,trivial,congrArg (fun l=>some (AB.row _ _ l)) (by rw [hst];simp [hmB]),trivial⟩,rfl,rfl,rfl,rfl,rfl⟩⟩
  ·have ek:k=a.homes.length:=by omega
   subst ek
   rw [anBk_all]
   refine And.intro (by simp) ?_
   conv=>whnf
   exact⟨.tp [bA (anB a), .v (.int .i64 0)],fun c v h=>by
    simp only [Rd,RdL] at h ⊢
    obtain⟨xs,rfl,y,ys,rfl,h1,h⟩:=h
    exact⟨_,rfl,y,ys,rfl,by_sub rfl rfl c y (by simp only [Rd];exact h1),h⟩,rfl⟩
section
variable {P:Program} {T:Tys} {w0:Fl} {M0:Ms} {n d0:Nat} {ce:Ctx} {l m:Nat}
theorem rows_inRound {row:String} {args:Array Value} {w:World} {R:Value→World→Prop} (h:Rows P row args w R):RowsIn (Fence.wide.inRound l) m P row args w R:=
 fun c cs _=>let ⟨v,w',r,s⟩:=h c cs;⟨v,w',r,stepsIn_wide.2 s⟩
theorem op_inRound {o:Oper} {a:Act} {w:World} {next:Act→World→Prop} {Q:Exit→Act→World→Prop} (hd:∀ c,o.op≠ .defer c) (h:o.wp P a w next Q):o.wpIn (Fence.wide.inRound l) m P a w next Q:=by
 refine⟨fun _ _=>trivial,?_⟩
 rw [show (Fence.wide.inRound l).round=some l from rfl,Oper.semAt_some l a.eval o hd]
 unfold Oper.wp at h
 revert h
 generalize (execOp a.eval o).run P w=r
 intro h
 cases r with
 | ok x w'=>
  cases x with
  | value v=>exact h
  | skip=>exact h
  | defer d=>exact h
  | enter f args=>exact⟨fun e=>(by cases e),CallsIn.inRound l (callsIn_wide.2 h)⟩
  | row r args=>exact⟨fun e=>(by cases e),rows_inRound h⟩
  | _=>exact h.elim
 | halt x w'=>
  cases x with
  | panic v=>exact h
  | _=>exact h.elim
def opR (o:Oper):Bool:=match o.op with
 | .defer _=>false
 | _=>true
def roundOk:Code→Bool
 | .skip=>true
 | .exit _=>true
 | .ret=>true
 | .region _ ops draw=>!draw&&ops.toList.all opR
 | .seq a b=>roundOk a&&roundOk b
 | .cond _ a b=>roundOk a&&roundOk b
 | .block _ c=>roundOk c
 | _=>false
theorem opR_ne {o:Oper} (h:opR o=true):∀ c,o.op≠ .defer c:=by
 intro c e
 unfold opR at h
 rw [e] at h
 cases h
theorem opsR_sound (hT:TOk P T) {ops:Array Oper} {K:Fr→List AB→Prop} {Q:Exit→Act→World→Prop} (hq:∀ a w,Lift w0 M0 ce n K a w→Q .normal a w) :
  ∀ (r:List Oper) (c:Ctx) (fr:Fr) (H:List AB) (a:Act),r.all opR=true→HS w0 M0 c H→FR w0 c n fr a→Ext ce c→opsK P T n ops.toList r fr H K→wpListIn (Fence.wide.inRound l) m P ops Q r a c.w
 | [],c,fr,H,a,_,hs,hf,he,h=>hq _ _ ⟨c,fr,H,rfl,h,hs,hf,he⟩
 | o::r,c,fr,H,a,hr,hs,hf,he,h=>by
  simp only [List.all_cons,Bool.and_eq_true] at hr
  simp only [opsK] at h
  unfold wpListIn
  rcases guardK_sound (ops:=ops) hf h with ⟨hw,fr',hf',h⟩ | ⟨hw,fr',hf',h⟩
  ·rw [if_pos hw]
   refine op_inRound (opR_ne hr.1) (stepK_sound hT hs hf' he h ?_)
   rintro a' w' ⟨c',fr2,H',rfl,h1,h2,h3,h4⟩ -
   exact opsR_sound hT hq r c' fr2 H' a' hr.2 h2 h3 h4 h1
  ·rw [if_neg (by rw [hw];simp)]
   obtain⟨fr2,h1,h2⟩:=putK_sound (v:=undef) hf' (by simp [Rd]) h
   exact⟨fun _ _=>trivial,opsR_sound hT hq r c fr2 H _ hr.2 hs h2 he h1⟩
theorem rCode_sound (hT:TOk P T) (hd:ce.dom=d0):∀ (cd:Code) (Q:QA) (Q':Exit→Act→World→Prop) (c:Ctx) (fr:Fr) (H:List AB) (a:Act),roundOk cd=true→(∀ e a w,LiftQ w0 M0 ce n Q e a w→Q' e a w)→HS w0 M0 c H→FR w0 c n fr a→Ext ce c→
  aCode P T n d0 cd Q fr H→cd.wpIn (Fence.wide.inRound l) m P Q' a c.w
 | .skip,Q,Q',c,fr,H,a,_,hq,hs,hf,he,h=>wpIn_skip (hq .normal _ _ ⟨c,fr,H,rfl,h,hs,hf,he⟩)
 | .region id ops draw,Q,Q',c,fr,H,a,hr,hq,hs,hf,he,h=>by
  simp only [roundOk,Bool.and_eq_true,Bool.not_eq_true'] at hr
  obtain⟨rfl,hr⟩:=hr
  simp only [aCode] at h
  exact wpIn_region_list (opsR_sound hT (fun a w hl=>hq .normal a w hl) ops.toList c fr H a hr hs hf he h)
 | .seq x y,Q,Q',c,fr,H,a,hr,hq,hs,hf,he,h=>by
  simp only [roundOk,Bool.and_eq_true] at hr
  simp only [aCode] at h
  have plain:aCode P T n d0 x (EX.then (fun fr H=>aCode P T n d0 y Q fr H) Q) fr H→(Code.seq x y).wpIn (Fence.wide.inRound l) m P Q' a c.w:=by
   intro h
   refine wpIn_seq_k fun K hK=>rCode_sound hT hd x _ _ c fr H a hr.1 (LiftQ.mono_then ?_ hq) hs hf he h
   rintro a' w' ⟨c',fr',H',rfl,h1,h2,h3,h4⟩
   exact hK _ _ (rCode_sound hT hd y Q Q' c' fr' H' a' hr.2 hq h2 h3 h4 h1)
  split at h
  ·rcases h.ex with h | ⟨ι,st,I,h,hk⟩ | ⟨ι,st,I,h,hk⟩ | ⟨ι,st,I,h,hk⟩
   ·exact plain h
   ·refine wpIn_seq_k fun K hK=>rCode_sound hT hd x _ _ c fr H a hr.1 (LiftQ.mono_then ?_ hq) hs hf he h
    rintro a' w' ⟨c',fr',H',rfl,⟨z,hI,hw⟩,h2,h3,h4⟩
    obtain⟨c4,e4,hs4,hf4,he4⟩:=hw.sound hd h2 h3 h4
    rw [←e4]
    exact hK _ _ (rCode_sound hT hd y Q Q' c4 _ _ a' hr.2 hq hs4 hf4 he4 (hk z hI))
   ·refine wpIn_seq_k fun K hK=>rCode_sound hT hd x _ _ c fr H a hr.1 (LiftQ.mono_then ?_ hq) hs hf he h
    rintro a' w' ⟨c',fr',H',rfl,⟨z,hI,hw⟩,h2,h3,h4⟩
    obtain⟨c4,e4,hs4,hf4,he4⟩:=hw.sound hd h2 h3 h4
    rw [←e4]
    exact hK _ _ (rCode_sound hT hd y Q Q' c4 _ _ a' hr.2 hq hs4 hf4 he4 (hk z hI))
   ·refine wpIn_seq_k fun K hK=>rCode_sound hT hd x _ _ c fr H a hr.1 (LiftQ.mono_then ?_ hq) hs hf he h
    rintro a' w' ⟨c',fr',H',rfl,⟨z,hI,hw⟩,h2,h3,h4⟩
    obtain⟨c4,e4,hs4,hf4,he4⟩:=hw.sound hd h2 h3 h4
    rw [←e4]
    exact hK _ _ (rCode_sound hT hd y Q Q' c4 _ _ a' hr.2 hq hs4 hf4 he4 (hk z hI))
  ·exact plain h
 | .cond x y z,Q,Q',c,fr,H,a,hr,hq,hs,hf,he,h=>by
  simp only [roundOk,Bool.and_eq_true] at hr
  simp only [aCode] at h
  split at h
  ·rename_i t ht
   have hrd:=hf.ev x
   rw [ht] at hrd
   simp only [Rd] at hrd
   obtain⟨h1,h2⟩:=boolK_iff h
   refine wpIn_cond_split hrd (fun e=>?_) fun e=>?_
   ·exact rCode_sound hT hd y Q Q' c fr H a hr.1 hq hs hf he (h1 e)
   ·exact rCode_sound hT hd z Q Q' c fr H a hr.2 hq hs hf he (h2 e)
  ·exact h.elim
 | .block id x,Q,Q',c,fr,H,a,hr,hq,hs,hf,he,h=>by
  simp only [roundOk] at hr
  simp only [aCode] at h
  refine wpIn_block (rCode_sound hT hd x _ _ c fr H a hr ?_ hs hf he h)
  intro e a' w' hl
  cases e with
  | normal=>exact hq .normal _ _ hl
  | exit i=>
   simp only [Exit.inBlock]
   have hl:Lift w0 M0 ce n (match Nat.beq i id with | true=>Q .normal | false=>Q (.exit i)) a' w':=by
    have e:(EX.inBlock id Q (EX.exit i))=(match Nat.beq i id with | true=>Q .normal | false=>Q (.exit i)):=by
     funext fr H
     simp only [EX.inBlock]
     cases Nat.beq i id <;> rfl
    rw [←e]
    exact hl
   by_cases hi:i=id
   ·subst hi
    rw [if_pos rfl]
    rw [Nat.beq_refl] at hl
    exact hq .normal _ _ hl
   ·rw [if_neg hi]
    have hb:Nat.beq i id=false:=by
     cases hq:Nat.beq i id with
     | true=>exact absurd (Nat.eq_of_beq_eq_true hq) hi
     | false=>rfl
    rw [hb] at hl
    exact hq (.exit i) _ _ hl
  | ret=>exact hq .ret _ _ hl
  | _=>exact hl.elim
 | .exit id,Q,Q',c,fr,H,a,_,hq,hs,hf,he,h=>wpIn_exit (hq (.exit id) _ _ ⟨c,fr,H,rfl,h,hs,hf,he⟩)
 | .ret,Q,Q',c,fr,H,a,_,hq,hs,hf,he,h=>wpIn_ret (hq .ret _ _ ⟨c,fr,H,rfl,h,hs,hf,he⟩)
 | .loop _,_,_,_,_,_,_,hr,_,_,_,_,_=>by simp [roundOk] at hr
 | .rangeFunc _ _ _ _,_,_,_,_,_,_,hr,_,_,_,_,_=>by simp [roundOk] at hr
 | .label _,_,_,_,_,_,_,hr,_,_,_,_,_=>by simp [roundOk] at hr
 | .goto _,_,_,_,_,_,_,hr,_,_,_,_,_=>by simp [roundOk] at hr
 | .scope _,_,_,_,_,_,_,hr,_,_,_,_,_=>by simp [roundOk] at hr
 | .refuse _,_,_,_,_,_,_,hr,_,_,_,_,_=>by simp [roundOk] at hr
end
def downL (n j:Nat):List Nat:=(List.range j).map fun i=>n - 1 - i
structure IsBack (P:Program) (gf:FuncId) (sz:Nat):Prop where
 enters:∀ args w,(callFunc gf args).run P w = .ok (.enter gf args) w
 seq:∀ (B:Nat) (a:Option Addr) (len cap:Nat) (X:Nat→List Value) (w:World),len≤1000000000→w.cell? ⟨B,0,none⟩=some (.slice a len cap)→(∀ j,(X j).length=sz)→
  (0<len→∃ b off,a=some ⟨b,off,none⟩∧b<w.heap.size∧∀ j,j<len→∀ (i:Nat) (u:Value),(X j)[i]? = some u→w.cell? ⟨b,off+j*sz+i,none⟩=some u)→
  SeqStopsK Fence.wide 4 P gf #[.pointer (some ⟨B,0,none⟩)] (fun x:Fin len=> #[Value.int .i64 x.val, .agg (X x.val).toArray]) (Below w.heap.size) (fun ys=>ys.map Fin.val=downL len len) (fun pre=>∃ k,k≤len∧pre.map Fin.val=downL len k) len w

section
variable {P:Program} {T:Tys} {w0:Fl} {M0:Ms} {n d0:Nat} {ce:Ctx}
theorem RdAt.raw:∀ (l:List AV) {c:Ctx} {b off:Nat},RdAt l c b off→RdL l c ((List.range' off l.length).map fun i=>(c.w.cell? ⟨b,i,none⟩).getD undef)
 | [],_,_,_,_=>by simp [RdL]
 | x::l,c,b,off,h=>by
  simp only [RdAt] at h
  obtain⟨⟨u,h1,_,h3⟩,h4⟩:=h
  simp only [List.length_cons,List.range'_succ,List.map_cons,RdL]
  exact⟨_,_,rfl,by rw [h1];exact h3,RdAt.raw l h4⟩
theorem RdAt.some:∀ (l:List AV) {c:Ctx} {b off:Nat},RdAt l c b off→∀ i,i<l.length→∃ u,c.w.cell? ⟨b,off+i,none⟩=some u
 | [],_,_,_,_,i,hi=>by simp at hi
 | x::l,c,b,off,h,i,hi=>by
  simp only [RdAt] at h
  obtain⟨⟨u,h1,_,h3⟩,h4⟩:=h
  cases i with
  | zero=>exact⟨u,h1⟩
  | succ i=>
   obtain⟨v,hv⟩:=RdAt.some l h4 i (by simpa using hi)
   exact⟨v,by rw [show off+(i+1)=off+1+i by omega];exact hv⟩
def noIter:List AB→Bool
 | []=>true
 | .iter _ _::_=>false
 | _::r=>noIter r
theorem noIter_get:∀ {H:List AB},noIter H=true→∀ (k:Nat) (s:ByteArray) (p:Nat),H[k]? ≠some (.iter s p)
 | [],_,_,_,_,h=>by simp at h
 | x::r,h,k,s,p,hk=>by
  cases k with
  | zero=>simp at hk;subst hk;simp [noIter] at h
  | succ k=>
   simp at hk
   refine noIter_get (H:=r) ?_ k s p hk
   cases x <;> first | exact h | (simp [noIter] at h)
theorem HS.cells {c:Ctx} {H:List AB} (h:HS w0 M0 c H) (hni:noIter H=true) {k:Nat} {x:AB} {g:Nat} (hk:H[k]? = some x) (hl:x.live=true) (hg:oB (c.rho k)=some g):∃ o:Obj,c.w.heap[g]? = some o∧o.isCells=true:=by
 have hx:=h.blk k x hk
 cases x with
 | dead=>cases hl
 | iter s p=>exact absurd hk (noIter_get hni k s p)
 | box t cs=>
  obtain⟨g',xs,h1,h2,_⟩:=hx
  rw [h1] at hg
  simp only [oB,Option.some.injEq] at hg
  subst hg
  exact⟨_,h2,rfl⟩
 | row t sz es=>
  obtain⟨_,_,_,xs,⟨_,h4⟩,_⟩:=hx
  rcases h4 with ⟨e,_⟩ | ⟨g',cap,cur,e,_,hh,_⟩
  ·rw [e] at hg;cases hg
  ·rw [e] at hg
   simp only [oB,Option.some.injEq] at hg
   subst hg
   exact⟨_,hh,rfl⟩
 | rowo t sz es m=>
  obtain⟨_,_,_,_,xs,⟨_,h4⟩,_⟩:=hx
  rcases h4 with ⟨e,_⟩ | ⟨g',cap,cur,e,_,hh,_⟩
  ·rw [e] at hg;cases hg
  ·rw [e] at hg
   simp only [oB,Option.some.injEq] at hg
   subst hg
   exact⟨_,hh,rfl⟩
theorem HS.turn {c:Ctx} {H:List AB} (h:HS w0 M0 c H) (hni:noIter H=true) {B0:Nat} (hB:w0.w.heap.size≤B0) {W':World} {row:Option Nat} (hg:c.w.grownBy W' row) (hr:∀ r,row=some r→B0≤r∧∃ o:Obj,c.w.heap[r]? = some o∧o.isCells=false) :
  HS w0 M0 { c with w:=W' } H∧Like c { c with w:=W' }:=by
 have hoth:∀ (g:Nat) (o:Obj),c.w.heap[g]? = some o→o.isCells=true→W'.heap[g]? = c.w.heap[g]? :=by
  intro g o ho hc
  refine hg.block g (Array.getElem?_eq_some_iff.1 ho).1 fun e=>?_
  obtain⟨_,o',ho',hc'⟩:=hr g e.symm
  rw [ho] at ho'
  cases ho'
  rw [hc] at hc'
  cases hc'
 have hl:Like c { c with w:=W' }:=by
  refine⟨rfl,hg.size,fun a u hu=>?_,rfl,rfl,rfl⟩
  obtain⟨o,ho,hc⟩:=cells_of_cell hu
  exact(World.cell?_of_block (hoth _ _ ho hc)).trans hu
 refine⟨⟨⟨hg.os.trans h.low.os,hg.tape.trans h.low.tape,hg.output.trans h.low.output,Nat.le_trans h.low.size hg.size,fun b hb=>?_⟩,h.base,h.dom,h.foreign,fun b hm=>Nat.lt_of_lt_of_le (h.lt b hm) hg.size,fun k x hk=>?_,h.own,h.dis⟩,hl⟩
 ·rw [←h.low.block b hb]
  have hb':=w0.lt b hb
  refine hg.block b (Nat.lt_of_lt_of_le hb' h.low.size) fun e=>?_
  have:=(hr b e.symm).1
  omega
 ·have hx:=h.blk k x hk
  cases x with
  | dead=>trivial
  | iter s p=>exact absurd hk (noIter_get hni k s p)
  | box t cs=>
   obtain⟨g,xs,h1,h2,h3,h4⟩:=hx
   exact⟨g,xs,h1,(hoth g _ h2 rfl).trans h2,RdL.like cs hl h3,h4⟩
  | row t sz es=>
   obtain⟨h1,h2,h3,xs,h4,h5,h6⟩:=hx
   refine⟨h1,h2,h3,xs,?_,RdL.like _ hl.closed h5,h6⟩
   refine⟨h4.1,h4.2.imp id ?_⟩
   rintro⟨g,cap,cur,q1,q2,q3,q4⟩
   exact⟨g,cap,cur,q1,q2,(hoth g _ q3 rfl).trans q3,q4⟩
  | rowo t sz es m=>
   obtain⟨h1,h2,h3,h3',xs,h4,h5,h6⟩:=hx
   refine⟨h1,h2,h3,h3',xs,?_,RdL.like _ hl h5,h6⟩
   refine⟨h4.1,h4.2.imp id ?_⟩
   rintro⟨g,cap,cur,q1,q2,q3,q4⟩
   exact⟨g,cap,cur,q1,q2,(hoth g _ q3 rfl).trans q3,q4⟩
theorem Ext.turn {c0 c:Ctx} (h:Ext c0 c) {B0:Nat} (hB:c0.w.heap.size≤B0) {W':World} {row:Option Nat} (hg:c.w.grownBy W' row) (hr:∀ r,row=some r→B0≤r∧∃ o:Obj,c.w.heap[r]? = some o∧o.isCells=false):Ext c0 { c with w:=W' }:=
 ⟨hg.os.trans h.os,hg.tape.trans h.tape,hg.output.trans h.output,Nat.le_trans h.size hg.size,fun b hb hm=>⟨(h.keep b hb hm).1,(hg.block b (Nat.lt_of_lt_of_le hb h.size) fun e=>by have:=(hr b e.symm).1;omega).trans (h.keep b hb hm).2⟩,h.dom,h.len,h.rho,h.box⟩
def Ctx.slim (c:Ctx) (B0:Nat) (H:List AB):Ctx:={ c with M:=fun b=>c.M b∧(b<B0∨∃ (j:Nat) (y:AB),H[j]? = some y∧y.live=true∧oB (c.rho j)=some b) }
theorem HS.slim {c:Ctx} {H:List AB} (h:HS w0 M0 c H) {B0:Nat} (hB:w0.w.heap.size≤B0):HS w0 M0 (c.slim B0 H) H∧Ext c (c.slim B0 H):=by
 have he:Ext c (c.slim B0 H):=⟨rfl,rfl,rfl,Nat.le_refl _,fun b _ hm=>⟨fun h=>hm h.1,rfl⟩,Nat.le_refl _,fun _ _=>Nat.le_refl _,fun _ _ _=>rfl,fun _ _ _ h=>h⟩
 refine⟨⟨h.low,h.base,h.dom,fun b hb=>⟨fun hm=>(h.foreign b hb).1 hm.1,fun hm=>⟨(h.foreign b hb).2 hm, .inl (Nat.lt_of_lt_of_le (w0.lt b hb) hB)⟩⟩,fun b hm=>h.lt b hm.1,fun k x hk=>?_,fun k x g hk hl ho=>⟨⟨(h.own k x g hk hl ho).1, .inr ⟨k,x,hk,hl,ho⟩⟩,(h.own k x g hk hl ho).2⟩,h.dis⟩,he⟩
 have hx:=h.blk k x hk
 cases x with
 | dead=>trivial
 | iter s p=>exact hx
 | box t cs=>
  obtain⟨g,xs,h1,h2,h3,h4⟩:=hx
  exact⟨g,xs,h1,h2,RdL.ext cs he h3,h4⟩
 | row t sz es=>
  obtain⟨h1,h2,h3,xs,h4,h5,h6⟩:=hx
  exact⟨h1,h2,h3,xs,h4,RdL.ext _ he.closed h5,h6⟩
 | rowo t sz es m=>
  obtain⟨h1,h2,h3,h3',xs,h4,h5,h6⟩:=hx
  exact⟨h1,h2,h3,h3',xs,h4,RdL.ext _ he h5,h6⟩
theorem slim_cells {c:Ctx} {H:List AB} (h:HS w0 M0 c H) (hni:noIter H=true) {B0 b:Nat} (hb:B0≤b) (hm:(c.slim B0 H).M b):∃ o:Obj,c.w.heap[b]? = some o∧o.isCells=true:=by
 obtain⟨_,h1 | ⟨j,y,h1,h2,h3⟩⟩:=hm
 ·omega
 ·exact h.cells hni h1 h2 h3
def asgK (T:Tys) (n:Nat):Code→Fr→List AB→(Fr→List AB→Prop)→Prop
 | .skip,fr,H,K=>K fr H
 | .region _ ops false,fr,H,K=>match ops.toList with
  | [o1,o2]=>match o1.op,o1.dst,o1.guard,o2.op,o2.dst,o2.guard with
   | .alloc t,some d,none, .store t' (.tmp d') (.tmp s),none,none=>match Nat.beq t t'&&Nat.beq d d'&&!Nat.beq s d&&Nat.blt d n with
    | true=>match tget T t with
     | some ty=>match ty.zero.all (·.oneCell')&&Nat.beq ty.zero.length ty.sz with
      | true=>forceK (fget fr s) fun x=>match cellsOk x&&Nat.beq (cells1 x).length ty.sz with
       | true=>snocK H (.box t (cells1 x)) 0 fun k H=>K ((d, .bp k 0)::fr) H
       | false=>False
      | false=>False
     | none=>False
    | false=>False
   | _,_,_,_,_,_=>False
  | _=>False
 | _,_,_,_=>False
theorem newbox_sound (hT:TOk P T) {l m:Nat} {ops:Array Oper} {o1 o2:Oper} {t:TypeId} {d s:Nat} {ty:Ty} (h1:o1.op = .alloc t) (h1d:o1.dst=some d) (h1g:o1.guard=none) (h2:o2.op = .store t (.tmp d) (.tmp s)) (h2d:o2.dst=none) (h2g:o2.guard=none) (hne:s≠d) (hd:d<n)
  (ht:tget T t=some ty) (hz:ty.zero.all (·.oneCell')=true) (hzl:ty.zero.length=ty.sz) {K:Fr→List AB→Prop} {Q:Exit→Act→World→Prop} {c:Ctx} {fr:Fr} {H:List AB} {a:Act} (hs:HS w0 M0 c H) (hf:FR w0 c n fr a) (he:Ext ce c)
  (hok:(cellsOk (fget fr s)&&Nat.beq (cells1 (fget fr s)).length ty.sz)=true) (h:K ((d, .bp H.length 0)::fr) (H ++ [.box t (cells1 (fget fr s))])) (hq:∀ a w,Lift w0 M0 ce n K a w→Old c.w w→Q .normal a w):wpListIn (Fence.wide.inRound l) m P ops Q [o1,o2] a c.w:=by
 simp only [Bool.and_eq_true] at hok
 have hsz:=Nat.eq_of_beq_eq_true hok.2
 obtain⟨i,dd,z,hp⟩:=(hT.get ht).parts
 have hxl0:ty.zero.length=ty.sz:=hzl
 obtain⟨c1,e1,e2,e3,e4⟩:=hs.box t (cs:=ty.zero.map .v) (xs:=ty.zero) (zero_rd _) (fun u hu=>List.all_eq_true.1 hz u hu)
 have hrun:(execOp a.eval o1).run P c.w = .ok (.value (.pointer (some ⟨c.w.heap.size,0,none⟩))) c1.w:=by
  have hzc:z.cells=ty.zero.toArray:=Array.ext' (by simpa using hp.zc)
  simp [execOp,h1,Instr.alloc,zeroValue,typeInfo,hp.info,hp.zero,run_newVar,e1,hzc]
 unfold wpListIn
 rw [if_pos (by simp [Region.wanted,h1g])]
 refine op_inRound (by intro c e;rw [h1] at e;cases e) ?_
 unfold Oper.wp
 rw [hrun,Oper.upon_value,h1d]
 unfold wpListIn
 rw [if_pos (by simp [Region.wanted,h2g])]
 refine op_inRound (by intro c e;rw [h2] at e;cases e) ?_
 have hf1:FR w0 c1 n ((d, .bp H.length 0)::fr) (a.put (some d) (.pointer (some ⟨c.w.heap.size,0,none⟩))):=(hf.ext e3).put hd e4
 have hfs:fget ((d, .bp H.length 0)::fr) s=fget fr s:=by
  show (bif Nat.beq d s then AV.bp H.length 0 else fget fr s)=fget fr s
  cases hb:Nat.beq d s with
  | true=>exact absurd (Nat.eq_of_beq_eq_true hb).symm hne
  | false=>rfl
 have hev:Rd (fget fr s) c1 ((a.put (some d) (.pointer (some ⟨c.w.heap.size,0,none⟩))).eval (.tmp s)):=by
  rw [←hfs]
  exact hf1.get s
 have hevd:(a.put (some d) (.pointer (some ⟨c.w.heap.size,0,none⟩))).eval (.tmp d) = .pointer (some ⟨c.w.heap.size,0,none⟩):=by
  have hsz':=hf.size
  simp only [Act.eval,Act.put]
  rw [Array.getD_eq_getD_getElem?,Array.getElem?_setIfInBounds_self_of_lt (by omega)]
  rfl
 generalize hav:a.put (some d) (.pointer (some ⟨c.w.heap.size,0,none⟩))=a1 at hf1 hev hevd ⊢
 obtain⟨hc1,hc2⟩:=cells1_rd hev hok.1
 have hcl:=hc1.length
 have hcs:(a1.eval (.tmp s)).cells.size=ty.sz:=by rw [←hsz,←hcl];simp
 have hj:(H ++ [AB.box t (ty.zero.map .v)])[H.length]? = some (.box t (ty.zero.map .v)):=by simp
 obtain⟨g,xs,q1,q2,q3,q4⟩:=e2.blk _ _ hj
 have hg:g=c.w.heap.size:=by
  simp only [Rd] at e4
  obtain⟨_,g',hg',hu⟩:=e4
  rw [q1] at hg'
  cases hg'
  simpa using hu.symm
 subst hg
 have hxl:xs.length=ty.sz:=by rw [←hxl0];have:=q3.length;simpa using this
 obtain⟨w',r1,r2,r3,r4,r5,r6,r7⟩:=run_storeCells (P:=P) (a1.eval (.tmp s)).cells.toList (i:=0) (off:=0) q2 hc2 (by simp;omega)
 have hrun2:(execOp a1.eval o2).run P c1.w = .ok .skip w':=by
  have:=run_storeVar (a:=⟨c.w.heap.size,0,none⟩) (hT.get ht) hcs r1
  simp [execOp,h2,Instr.storeAt,hevd,Instr.sureAddr,this]
 unfold Oper.wp
 rw [hrun2,Oper.upon_skip,h2d]
 have hE:Ext c1 { c1 with w:=w' }:=⟨r5,r6,r7,by simp [r4],fun b _ hm=>⟨hm,r3 b fun e=>hm (e ▸ (e2.own _ _ c.w.heap.size hj rfl (by rw [q1];rfl)).1)⟩,Nat.le_refl _,fun _ _=>Nat.le_refl _,fun _ _ _=>rfl,fun _ _ _ h=>h⟩
 have hset:=e2.set_ (y:= .box t (cells1 (fget fr s))) hj rfl rfl (g:=c.w.heap.size) (by rw [q1];rfl) r3 r4 r5 r6 r7 (by
  refine⟨c.w.heap.size,(a1.eval (.tmp s)).cells.toList,q1,?_,RdL.ext _ hE hc1,hc2⟩
  have hlen:(a1.eval (.tmp s)).cells.toList.length=xs.length:=by simp;omega
  rw [Nat.add_zero,List.take_zero,List.nil_append,Nat.zero_add,List.drop_eq_nil_of_le (by omega),List.append_nil] at r2
  exact r2)
 unfold wpListIn
 refine hq _ _ ⟨{ c1 with w:=w' },_,_,rfl,h,?_,hf1.ext hE,(he.trans e3).trans hE⟩ ?_
 ·have:=hset.1
  rwa [List.set_append_right _ _ (Nat.le_refl _),Nat.sub_self,List.set_cons_zero] at this
 ·intro b hb
  rw [r3 b (by omega),e1]
  exact((Below.refl c.w.heap.size c.w).alloc (Nat.le_refl _) _).block b hb
theorem asgK_sound (hT:TOk P T) {l m:Nat} {asg:Code} {K:Fr→List AB→Prop} {Q:Exit→Act→World→Prop} {c:Ctx} {fr:Fr} {H:List AB} {a:Act} (hs:HS w0 M0 c H) (hf:FR w0 c n fr a) (he:Ext ce c) (h:asgK T n asg fr H K)
  (hq:∀ a w,Lift w0 M0 ce n K a w→Old c.w w→Q .normal a w):asg.wpIn (Fence.wide.inRound l) m P Q a c.w:=by
 unfold asgK at h
 split at h
 ·exact wpIn_skip (hq _ _ ⟨c,fr,H,rfl,h,hs,hf,he⟩ (Old.refl _))
 ·split at h
  ·rename_i o1 o2 hops
   split at h
   ·rename_i t d t' d' s h1 h1d h1g h2 h2d h2g
    split at h
    ·rename_i hb
     simp only [Bool.and_eq_true,Bool.not_eq_true'] at hb
     obtain⟨⟨⟨hb1,hb2⟩,hb3⟩,hb4⟩:=hb
     have:=Nat.eq_of_beq_eq_true hb1
     subst this
     have:=Nat.eq_of_beq_eq_true hb2
     subst this
     have hne:s≠d:=fun e=>by subst e;rw [Nat.beq_refl] at hb3;cases hb3
     split at h
     ·rename_i ty ht
      split at h
      ·rename_i hz
       simp only [Bool.and_eq_true] at hz
       have h:=forceK_iff h
       split at h
       ·rename_i hok
        have h:=snocK_iff h
        rw [Nat.zero_add] at h
        refine wpIn_region_list ?_
        rw [hops]
        exact newbox_sound hT h1 h1d h1g h2 h2d h2g hne (by simpa using hb4) ht hz.1 (Nat.eq_of_beq_eq_true hz.2) hs hf he hok h hq
       ·exact h.elim
      ·exact h.elim
     ·exact h.elim
    ·exact h.elim
   ·exact h.elim
  ·exact h.elim
 ·exact h.elim
def elemsOf (H:List AB) (x:AV) (sz len:Nat) (E:Nat→List AV):Prop:=
 match x with
 | .ow k n'=>n'=len∧∃ t es,hget H k=some (.row t sz es)∧es.length=len∧E=fun i=>es.getD i []
 | .sl sz' n' get=>sz'=sz∧n'=len∧E=get
 | .v (.slice none 0 0)=>len=0
 | _=>False
theorem elemsOf_sound {c:Ctx} {H:List AB} (hs:HS w0 M0 c H) {x:AV} {sz len:Nat} {E:Nat→List AV} (h:elemsOf H x sz len E) {u:Value} (hr:Rd x c u) :
  ∃ a cap,u = .slice a len cap∧(0<len→∃ b off,a=some ⟨b,off,none⟩∧b<c.w.heap.size∧∀ i,i<len→(E i).length=sz∧RdAt (E i) c.closed b (off+i*sz)):=by
 unfold elemsOf at h
 split at h
 ·obtain⟨rfl,t,es,hk,hl,rfl⟩:=h
  rename_i k n'
  rw [hget_eq] at hk
  obtain⟨h1,h2,h3,xs,h4,h5,h6⟩:=hs.blk _ _ hk
  simp only [Rd] at hr
  obtain⟨_,_,⟨a,p,rfl,ha⟩,he⟩:=hr
  refine⟨a,p,rfl,fun hp=>?_⟩
  have hrho:=he (by rw [h1,hl])
  obtain⟨g,rfl⟩:=ha (by omega)
  have hgl:g<c.w.heap.size:=by
   rcases h4.2 with ⟨e,_⟩ | ⟨g',cap,cur,e,_,hh,_⟩
   ·rw [←hrho] at e;cases e
   ·rw [←hrho] at e;cases e;exact(Array.getElem?_eq_some_iff.1 hh).1
  have hat:=RdAt.of (b:=g) (off:=0) h5 h6 fun j u hu=>by rw [Nat.zero_add];exact row_at (hl ▸ h4) hrho.symm hu
  exact⟨g,0,rfl,hgl,fun i hi=>⟨h3 _ (by simp only [List.getD_eq_getElem?_getD];rw [List.getElem?_eq_getElem (by omega)];exact List.getElem_mem _),by rw [Nat.zero_add];exact flat_take_get h3 hat (by omega)⟩⟩
 ·obtain⟨rfl,rfl,rfl⟩:=h
  simp only [Rd] at hr
  obtain⟨a,k,rfl,h1,h2,h3⟩:=hr
  refine⟨a,k,rfl,fun hp=>?_⟩
  rcases h3 with h3 | ⟨b,off,rfl,_,hb,hc⟩
  ·omega
  ·exact⟨b,off,rfl,hb,hc⟩
 ·subst h
  simp only [Rd] at hr
  subst hr
  exact⟨none,0,rfl,fun hp=>absurd hp (Nat.lt_irrefl _)⟩
 ·exact h.elim
end
section
variable {P:Program} {T:Tys} {w0:Fl} {M0:Ms} {n d0:Nat} {ce:Ctx}
def Fl.off (w0:Fl):Fl:=⟨w0.w,w0.old,w0.lt,w0.gl,False⟩
theorem HS.off {c:Ctx} {H:List AB} (h:HS w0 M0 c H):HS w0.off M0 c H:=⟨⟨h.low.os,h.low.tape,h.low.output,h.low.size,h.low.block⟩,h.base,h.dom,h.foreign,h.lt,h.blk,h.own,h.dis⟩
theorem HS.on {c:Ctx} {H:List AB} (h:HS w0.off M0 c H):HS w0 M0 c H:=⟨⟨h.low.os,h.low.tape,h.low.output,h.low.size,h.low.block⟩,h.base,h.dom,h.foreign,h.lt,h.blk,h.own,h.dis⟩
theorem FR.off {c:Ctx} {fr:Fr} {a:Act} (h1:a.tmps.size=n) (h2:∀ i,Rd (fget fr i) c (a.tmps.getD i undef)) (hc:¬w0.chk):FR w0 c n fr a:=⟨h1,DfOk.free hc,h2⟩
def frozen (fr:Fr) (H:List AB):Fr→Prop
 | []=>True
 | (i,x)::r=>((x.lt 0=true∧fget fr i=x)∨∃ kk tt cs,x = .rp cs∧AV.ltL cs 0=true∧fget fr i = .bp kk 0∧hget H kk=some (.box tt cs))∧frozen fr H r
def Ctx.calm (c:Ctx) (w:World):Ctx:=⟨w,0,fun _=>False,c.rho,c.len,0⟩
theorem frozen_rd {c:Ctx} {H:List AB} (hs:HS w0 M0 c H) {fr:Fr} {us:Array Value} (hf:∀ i,Rd (fget fr i) c (us.getD i undef)):∀ {frz:Fr},frozen fr H frz→∀ i,Rd (fget frz i) (c.calm c.w) (us.getD i undef)
 | [],_,i=>by simp [fget,Rd]
 | (j,x)::r,h,i=>by
  have hcut:Cut c (c.calm c.w):=⟨⟨rfl,rfl,rfl,Nat.le_refl _,fun _ _ _=>⟨fun h=>h,rfl⟩,Nat.le_refl _,fun k hk=>absurd hk (Nat.not_lt_zero k),fun k hk=>absurd hk (Nat.not_lt_zero k),fun k _ hk=>absurd hk (Nat.not_lt_zero k)⟩,fun _ _=>⟨rfl,rfl⟩⟩
  unfold fget
  cases hb:Nat.beq j i with
  | false=>exact frozen_rd hs hf h.2 i
  | true=>
   have:=Nat.eq_of_beq_eq_true hb
   subst this
   simp only [cond_true]
   rcases h.1 with ⟨h1,h2⟩ | ⟨kk,tt,cs,rfl,h1,h2,h3⟩
   ·refine Rd.cut x hcut h1 ?_
    rw [←h2]
    exact hf j
   ·have hr:=hf j
    rw [h2] at hr
    simp only [Rd] at hr
    obtain⟨_,g,hg,hu⟩:=hr
    rw [hget_eq] at h3
    obtain⟨g',xs,q1,q2,q3,q4⟩:=hs.blk _ _ h3
    rw [q1] at hg
    cases hg
    rw [hu]
    simp only [Rd]
    refine⟨g,0,rfl,fun h=>h,(Array.getElem?_eq_some_iff.1 q2).1,?_⟩
    exact RdAt.of (c:=(c.calm c.w).closed) (b:=g) (off:=0) (RdL.cut cs hcut h1 q3) q4 fun j u hu=>by rw [Nat.zero_add];show c.w.cell? _=_;rw [cell_of_row _ g _ _ tt (0,0) q2];simpa using hu
def EX.code:EX→Code
 | .normal=> .skip
 | .exit id=> .exit id
 | .ret=> .ret
theorem old_below {W W':World} {c:Ctx} (hB:c.w.heap.size≤W.heap.size) (ho:Old W W') (h1:W'.os=W.os) (h2:W'.tape=W.tape) (h3:W'.output=W.output) (h4:W.heap.size≤W'.heap.size):Below c.w.heap.size W W':=
 ⟨h1,h2,h3,h4,fun b hb=>ho b (Nat.lt_of_lt_of_le hb hB)⟩
theorem downL_last {len k:Nat} (hk:k≤len) {pre:List Nat} {x:Nat} (h:pre ++ [x]=downL len k) {p:Nat→Prop} (hp:∀ y∈pre,p y):∀ j,x<j→j<len→p j:=by
 intro j hj hl
 have h1:k=pre.length+1:=by have:=congrArg List.length h;simpa [downL] using this.symm
 subst h1
 have hx:x=len - 1 - pre.length:=by
  have:=congrArg (fun l=>l[pre.length]?) h
  simp [downL] at this
  exact this
 have hi:len - 1 - j<pre.length:=by omega
 have h2:=congrArg (fun l=>l[len - 1 - j]?) h
 simp only [downL,List.getElem?_append_left hi,List.getElem?_map,List.getElem?_range (show len - 1 - j<pre.length+1 by omega),Option.map_some] at h2
 rw [show len - 1 - (len - 1 - j)=j by omega] at h2
 exact hp j (List.mem_of_getElem? h2)
theorem DfOk.lt {c:Ctx} (hc:w0.chk):∀ {l:List Deferred},DfOk w0 c l→∀ e∈l,∃ b,e.target = .collected b∧b<c.w.heap.size
 | d::r,h,e,he=>by
  rcases List.mem_cons.1 he with rfl | he
  ·obtain⟨b,rfl,_,_,h4,_⟩:=h.1 hc
   exact⟨b,rfl,(Array.getElem?_eq_some_iff.1 h4).1⟩
  ·exact DfOk.lt hc h.2 e he
theorem downL_mem {len:Nat} {i:Nat} (hi:i<len):i∈downL len len:=by
 rw [downL,List.mem_map]
 exact⟨len - 1 - i,by simp;omega,by omega⟩

set_option maxHeartbeats 1000000 in
theorem aRF.back (hT:TOk P T) {gf:FuncId} {sz:Nat} (hgf:IsBack P gf sz) {g:Operand} {p1 p2:Nat} {asg body:Code} {Q:QA} {fr:Fr} {H:List AB} {B len:Nat} {tb:TypeId} {x:AV} {E:Nat→List AV}
  (hg:ev fr g = .fn gf [.bp B 0]) (hB:hget H B=some (.box tb [x])) (hx:elemsOf H x sz len E) (hbig:len≤1000000000) (_hni:noIter H=true) (hp:p1<n∧p2<n) (hrb:roundOk body=true)
  (frz:Fr) (hfz:frozen fr H frz) (hit:Nat→Bool)
  (hskip:∀ i,i<len→hit i=false→asgK T n asg ((p2, .ag (E i))::(p1, .v (.int .i64 i))::frz) [] fun fr' H'=>noIter H'=true∧aCode P T n 0 body (fun ex _ _=>ex = .normal) fr' H')
  (hhit:∀ i,i<len→hit i=true→asgK T n asg ((p2, .ag (E i))::(p1, .v (.int .i64 i))::fr) H fun fr' H'=>noIter H'=true∧aCode P T n H.length body (fun ex _ H'=>ex≠ .normal∧noIter H'=true∧((∀ j,i<j→j<len→hit j=false)→Q ex fr H')) fr' H')
  (hdone:(∀ i,i<len→hit i=false)→Q .normal fr H):aRF P T n d0 g #[p1,p2] asg body Q fr H:=by
 refine⟨fun w0 M0 ce c a hs hf he hd Q' hQ=>?_⟩
 have hgv:=hf.ev g
 rw [hg] at hgv
 simp only [Rd,RdL] at hgv
 obtain⟨_,hgv,_,_,rfl,⟨hBd,gB,hgB,rfl⟩,rfl⟩:=hgv
 rw [hget_eq] at hB
 obtain⟨g',xs,q1,q2,q3,q4⟩:=hs.blk _ _ hB
 rw [hgB] at q1
 cases q1
 simp only [RdL] at q3
 obtain⟨u,_,rfl,hu,rfl⟩:=q3
 obtain⟨ad,cap,rfl,hel⟩:=elemsOf_sound hs hx hu
 have hcB:c.w.cell? ⟨gB,0,none⟩=some (.slice ad len cap):=by rw [cell_of_row _ gB _ _ tb (0,0) q2];rfl
 obtain⟨X,hXl,hXr,hXc⟩:∃ X:Nat→List Value,(∀ j,(X j).length=sz)∧(∀ i,i<len→RdL (E i) c.closed (X i))∧(0<len→∃ b off,ad=some ⟨b,off,none⟩∧b<c.w.heap.size∧∀ j,j<len→∀ (i:Nat) (u:Value),(X j)[i]? = some u→c.w.cell? ⟨b,off+j*sz+i,none⟩=some u):=by
  rcases Nat.eq_zero_or_pos len with h0 | h0
  ·exact⟨fun _=>List.replicate sz undef,by simp,fun i hi=>by omega,fun h=>by omega⟩
  ·obtain⟨b,off,h1,h2,h3⟩:=hel h0
   refine⟨fun j=>(List.range' (off+j*sz) sz).map fun i=>(c.w.cell? ⟨b,i,none⟩).getD undef,by simp,fun i hi=>?_,fun _=>⟨b,off,h1,h2,fun j hj i u hi=>?_⟩⟩
   ·have:=RdAt.raw _ (h3 i hi).2
    rw [(h3 i hi).1] at this
    exact this
   ·obtain⟨v,hv⟩:=RdAt.some _ (h3 j hj).2 i (by
     rw [(h3 j hj).1]
     have:=(List.getElem?_eq_some_iff.1 hi).1
     simpa using this)
    have hv':c.w.cell? ⟨b,off+j*sz+i,none⟩=some v:=hv
    rw [hv']
    have hil:i<sz:=by
     have:=(List.getElem?_eq_some_iff.1 hi).1
     simpa using this
    rw [List.getElem?_map,List.getElem?_range' hil] at hi
    simp only [Option.map_some,Nat.one_mul,Option.some.injEq] at hi
    rw [hv'] at hi
    simpa using hi
 have hseq:=hgf.seq gB ad len cap X c.w hbig hcB hXl hXc
 have hgl:=hs.glob
 have hlow:=hs.low.size
 -- the two memories of a round
 let wS:Fl:=(Fl.all c.w hgl).off
 have hskipHS:∀ W,Below c.w.heap.size c.w W→HS wS (fun _=>False) (c.calm W) []:=fun W hW=>
  ⟨⟨hW.os,hW.tape,hW.output,hW.size,fun b hb=>hW.block b hb⟩,rfl,rfl,fun _ _=>Iff.rfl,fun _ h=>h.elim,by simp,by simp,by simp⟩
 have hcalm:∀ W,Below c.w.heap.size c.w W→Ext (c.calm c.w) (c.calm W):=fun W hW=>
  ⟨hW.os,hW.tape,hW.output,hW.size,fun b hb _=>⟨fun h=>h,hW.block b hb⟩,Nat.le_refl _,fun k hk=>absurd hk (Nat.not_lt_zero k),fun k hk=>absurd hk (Nat.not_lt_zero k),fun k _ hk=>absurd hk (Nat.not_lt_zero k)⟩
 have hclcalm:Ext c.closed (c.calm c.w):=⟨rfl,rfl,rfl,Nat.le_refl _,fun _ _ _=>⟨fun h=>h,rfl⟩,Nat.le_refl _,fun k hk=>absurd hk (Nat.not_lt_zero k),fun k hk=>absurd hk (Nat.not_lt_zero k),fun k _ hk=>absurd hk (Nat.not_lt_zero k)⟩
 refine(wpIn_wide (n:=5)).1 ?_
 refine wpIn_rangeFunc_ownH (F:=Fence.wide) (n:=5) rfl (by omega) (gf:=gf) (lb:= #[.pointer (some ⟨gB,0,none⟩)]) hgv trivial hgf.enters hseq (fun h k=>h.trans k)
  (fun W l o o' hl ho _ _=>(Below.refl _ W).grown (grownBy_putObj' W l o') (Nat.le_trans hl (Nat.le_of_lt (Array.getElem?_eq_some_iff.1 ho).1)) (fun k e=>by cases e;exact hl)) (Below.refl _ _) (fun _=>rfl)
  (fun pre W=>Below c.w.heap.size c.w W∧∀ y∈pre,hit y.val=false)
  (fun cd pre W=>∃ ex pr y c' H',pre=pr ++ [y]∧(∀ z∈pr,hit z.val=false)∧cd=ex.code∧ex≠ .normal∧((∀ j,y.val<j→j<len→hit j=false)→Q ex fr H')∧c'.w=W∧HS w0 M0 c' H'∧Ext c c'∧noIter H'=true∧(∀ b,c.w.heap.size≤b→c'.M b→∃ (j:Nat) (y:AB),H'[j]? = some y∧y.live=true∧oB (c'.rho j)=some b))
  ?hI ?hIx ⟨Below.refl _ _,by simp⟩
  (fun y a' W=>(hit y.val=false→∃ c' fr' H',c'.w=W∧HS wS (fun _=>False) c' H'∧noIter H'=true∧a'.tmps.size=n∧(∀ i,Rd (fget fr' i) c' (a'.tmps.getD i undef))∧(∀ b,c.w.heap.size≤b→c'.M b→∃ o:Obj,c'.w.heap[b]? = some o∧o.isCells=true)∧aCode P T n 0 body (fun ex _ _=>ex = .normal) fr' H'∧c'.dom=H'.length)∧
   (hit y.val=true→∃ c' fr' H',c'.w=W∧HS w0 M0 c' H'∧noIter H'=true∧a'.tmps.size=n∧(∀ i,Rd (fget fr' i) c' (a'.tmps.getD i undef))∧Ext c c'∧(∀ b,c.w.heap.size≤b→c'.M b→∃ o:Obj,c'.w.heap[b]? = some o∧o.isCells=true)∧aCode P T n H.length body (fun ex _ H'=>ex≠ .normal∧noIter H'=true∧((∀ j,y.val<j→j<len→hit j=false)→Q ex fr H')) fr' H'))
  ?hAx ?assign ?body ?done ?stop
 case hI=>exact OwnFrom.and (ownFrom_below (Nat.le_refl _) (Nat.le_refl _)) (ownFrom_pure _ _)
 case hIx=>
  rintro cd s W W' row ⟨ex,pr,y,c',H',h1,h2,h3,h4,h5,rfl,h6,h7,h8,h9⟩ hgr hrow
  obtain⟨k1,k2⟩:=h6.turn h8 hlow hgr hrow
  exact⟨ex,pr,y,_,H',h1,h2,h3,h4,h5,rfl,k1,h7.turn (Nat.le_refl _) hgr hrow,h8,h9⟩
 case hAx=>
  have keep:∀ (c':Ctx) {W':World} {row:Option Nat},c'.w.grownBy W' row→(∀ r,row=some r→c.w.heap.size≤r∧∃ o:Obj,c'.w.heap[r]? = some o∧o.isCells=false)→(∀ b,c.w.heap.size≤b→c'.M b→∃ o:Obj,c'.w.heap[b]? = some o∧o.isCells=true)→∀ b,c.w.heap.size≤b→c'.M b→∃ o:Obj,W'.heap[b]? = some o∧o.isCells=true:=by
   intro c' W' row hgr hrow h b hb hm
   obtain⟨o,h1,h2⟩:=h b hb hm
   refine⟨o,(hgr.block b (Array.getElem?_eq_some_iff.1 h1).1 fun e=>?_).trans h1,h2⟩
   obtain⟨_,o',h3,h4⟩:=hrow b e.symm
   rw [h1] at h3
   cases h3
   rw [h2] at h4
   cases h4
  rintro y a' s W W' row ⟨hA,hC⟩ hgr hrow
  refine⟨fun hh=>?_,fun hh=>?_⟩
  ·obtain⟨c',fr',H',rfl,h1,h2,h3,h4,h5,h6,h7⟩:=hA hh
   obtain⟨k1,k2⟩:=h1.turn h2 (Nat.le_refl _) hgr hrow
   exact⟨_,fr',H',rfl,k1,h2,h3,fun i=>Rd.like _ k2 (h4 i),keep c' hgr hrow h5,h6,h7⟩
  ·obtain⟨c',fr',H',rfl,h1,h2,h3,h4,h5,h6,h7⟩:=hC hh
   obtain⟨k1,k2⟩:=h1.turn h2 hlow hgr hrow
   exact⟨_,fr',H',rfl,k1,h2,h3,fun i=>Rd.like _ k2 (h4 i),h5.turn (Nat.le_refl _) hgr hrow,keep c' hgr hrow h6,h7⟩
 case assign=>
  rintro l pre y W K ⟨hW,hpre⟩ hK
  have hput:∀ (c1:Ctx) (fr1:Fr) (w1:Fl),¬w1.chk→(∀ i,Rd (fget fr1 i) c1 (a.tmps.getD i undef))→Rd (.ag (E y.val)) c1 (.agg (X y.val).toArray)→
    FR w1 c1 n ((p2, .ag (E y.val))::(p1, .v (.int .i64 (y.val:Nat)))::fr1) { tmps:=((#[p1,p2]:Array Tmp).zip #[Value.int .i64 y.val, .agg (X y.val).toArray]).foldl (fun t (p,v)=>t.setIfInBounds p v) a.tmps,defers:= [] }:=by
   intro c1 fr1 w1 hc hr1 hr2
   have h0:FR w1 c1 n fr1 { tmps:=a.tmps,defers:= [] }:=FR.off hf.size hr1 hc
   have h1:=h0.put (d:=p1) (x:= .v (.int .i64 (y.val:Nat))) (v:= .int .i64 (y.val:Nat)) hp.1 (by simp [Rd])
   have e:∀ (u v:Value),((#[p1,p2]:Array Tmp).zip #[u,v]).foldl (fun t (p,v)=>t.setIfInBounds p v) a.tmps=(a.tmps.setIfInBounds p1 u).setIfInBounds p2 v:=by intro u v;simp
   rw [e]
   exact h1.put (d:=p2) (x:= .ag (E y.val)) (v:= .agg (X y.val).toArray) hp.2 hr2
  have hWs:=hW.size
  cases hh:hit y.val with
  | false=>
   have hE:Rd (.ag (E y.val)) (c.calm W) (.agg (X y.val).toArray):=by
    simp only [Rd]
    exact⟨_,rfl,RdL.ext _ (hclcalm.trans (hcalm W hW)) (hXr y.val y.isLt)⟩
   have hfr:=hput (c.calm W) frz wS (fun h=>h) (fun i=>Rd.ext _ (hcalm W hW) (frozen_rd hs hf.get hfz i)) hE
   refine asgK_sound (w0:=wS) (M0:=fun _=>False) (ce:=c.calm W) hT (c:=c.calm W) (hskipHS W hW) hfr (Ext.refl _) (hskip y.val y.isLt hh) ?_
   rintro a' W' ⟨c',fr',H',rfl,⟨k1,k2⟩,k3,k4,k5⟩ hold
   have hb:=old_below (c:=c) hWs hold k5.os k5.tape k5.output k5.size
   obtain⟨s1,s2⟩:=k3.slim (B0:=c.w.heap.size) (Nat.le_refl _)
   refine hK a' c'.w ⟨k5.size,fun k o _ h1 _=>(hold k (Array.getElem?_eq_some_iff.1 h1).1).trans h1⟩ hb ⟨hW.trans hb,hpre⟩ ⟨fun _=>⟨c'.slim c.w.heap.size H',fr',H',rfl,s1,k1,k4.size,(k4.ext s2).get,fun b hb' hm=>slim_cells k3 k1 hb' hm,k2,s1.dom⟩,fun e=>by rw [hh] at e;cases e⟩
  | true=>
   obtain⟨g1,g2⟩:=hs.grow hW
   have hE:Rd (.ag (E y.val)) { c with w:=W } (.agg (X y.val).toArray):=by
    simp only [Rd]
    exact⟨_,rfl,RdL.ext _ ((Ext.ofClosed c).trans g2) (hXr y.val y.isLt)⟩
   have hfr:=hput { c with w:=W } fr w0.off (fun h=>h) (fun i=>Rd.ext _ g2 (hf.get i)) hE
   refine asgK_sound (w0:=w0.off) (M0:=M0) (ce:={ c with w:=W }) hT (c:={ c with w:=W }) g1.off hfr (Ext.refl _) (hhit y.val y.isLt hh) ?_
   rintro a' W' ⟨c',fr',H',rfl,⟨k1,k2⟩,k3,k4,k5⟩ hold
   have hb:=old_below (c:=c) hWs hold k5.os k5.tape k5.output k5.size
   obtain⟨s1,s2⟩:=k3.slim (B0:=c.w.heap.size) hlow
   refine hK a' c'.w ⟨k5.size,fun k o _ h1 _=>(hold k (Array.getElem?_eq_some_iff.1 h1).1).trans h1⟩ hb ⟨hW.trans hb,hpre⟩ ⟨fun e=>(by rw [hh] at e;cases e),fun _=>⟨c'.slim c.w.heap.size H',fr',H',rfl,s1.on,k1,k4.size,(k4.ext s2).get,(g2.trans k5).trans s2,fun b hb' hm=>slim_cells k3 k1 hb' hm,k2⟩⟩
 case body=>
  rintro l pre y a' W hl hrec ⟨hW,hpre⟩ ⟨hA,hC⟩ hlt
  cases hh:hit y.val with
  | false=>
   obtain⟨c',fr',H',rfl,h1,h2,h3,h4,h5,h6,h7⟩:=hA hh
   refine rCode_sound (w0:=wS) (M0:=fun _=>False) (ce:={ c' with dom:=0 }) (d0:=0) hT rfl body _ _ c' fr' H' a' hrb ?_ h1 (FR.off h3 h4 fun h=>h) (Ext.ofClosed c') h6
   intro e a3 W3 hl3
   have go:∀ ex:EX,Lift wS (fun _=>False) { c' with dom:=0 } n (fun _ _=>ex = .normal) a3 W3→ex = .normal∧KeepsFrom c.w.heap.size c'.w W3∧Below c.w.heap.size c'.w W3:=by
    rintro ex ⟨c3,fr3,H3,rfl,e1,e2,e3,e4⟩
    have hlw:=e2.low
    refine⟨e1,⟨e4.size,fun k o hk ho hc=>?_⟩,⟨e4.os,e4.tape,e4.output,e4.size,fun b hb=>(hlw.block b hb).trans (hW.block b hb).symm⟩⟩
    refine(e4.keep k (Array.getElem?_eq_some_iff.1 ho).1 fun hm=>?_).2.trans ho
    obtain⟨o',q1,q2⟩:=h5 k hk hm
    rw [ho] at q1
    cases q1
    rw [hc] at q2
    cases q2
   cases e with
   | normal=>
    obtain⟨_,k1,k2⟩:=go .normal hl3
    exact⟨k1,k2,hW.trans k2,fun z hz=>by
     rcases List.mem_append.1 hz with h | h
     ·exact hpre z h
     ·simp at h;subst h;exact hh⟩
   | exit id=>exact absurd (go (.exit id) hl3).1 (by simp)
   | ret=>exact absurd (go .ret hl3).1 (by simp)
   | _=>exact hl3.elim
  | true=>
   obtain⟨c',fr',H',rfl,h1,h2,h3,h4,h5,h6,h7⟩:=hC hh
   have hce:Ext c { c' with dom:=H.length }:=⟨h5.os,h5.tape,h5.output,h5.size,h5.keep,by show c.dom≤H.length;rw [hs.dom];exact Nat.le_refl _,h5.len,h5.rho,h5.box⟩
   have hce2:Ext { c' with dom:=H.length } c':=⟨rfl,rfl,rfl,Nat.le_refl _,fun _ _ h=>⟨h,rfl⟩,by show H.length≤c'.dom;rw [←hs.dom];exact h5.dom,fun _ _=>Nat.le_refl _,fun _ _ _=>rfl,fun _ _ _ h=>h⟩
   refine rCode_sound (w0:=w0.off) (M0:=M0) (ce:={ c' with dom:=H.length }) (d0:=H.length) hT rfl body _ _ c' fr' H' a' hrb ?_ h1.off (FR.off h3 h4 fun h=>h) hce2 h7
   intro e a3 W3 hl3
   have go:∀ ex:EX,Lift w0.off M0 { c' with dom:=H.length } n (fun _ H'=>ex≠ .normal∧noIter H'=true∧((∀ j,y.val<j→j<len→hit j=false)→Q ex fr H')) a3 W3→ex≠ .normal∧KeepsFrom c.w.heap.size c'.w W3∧∃ c3 H3,c3.w=W3∧HS w0.off M0 c3 H3∧Ext { c' with dom:=H.length } c3∧noIter H3=true∧((∀ j,y.val<j→j<len→hit j=false)→Q ex fr H3):=by
    rintro ex ⟨c3,fr3,H3,rfl,⟨e0,e1,e5⟩,e2,e3,e4⟩
    refine⟨e0,⟨e4.size,fun k o hk ho hc=>?_⟩,c3,H3,rfl,e2,e4,e1,e5⟩
    refine(e4.keep k (Array.getElem?_eq_some_iff.1 ho).1 fun hm=>?_).2.trans ho
    obtain⟨o',q1,q2⟩:=h6 k hk hm
    rw [ho] at q1
    cases q1
    rw [hc] at q2
    cases q2
   have mk:∀ ex:EX,Lift w0.off M0 { c' with dom:=H.length } n (fun _ H'=>ex≠ .normal∧noIter H'=true∧((∀ j,y.val<j→j<len→hit j=false)→Q ex fr H')) a3 W3→ex≠ .normal∧KeepsFrom c.w.heap.size c'.w W3∧∃ ex' pr y' c'' H'',pre ++ [y]=pr ++ [y']∧(∀ z∈pr,hit z.val=false)∧ex.code=ex'.code∧ex'≠ .normal∧((∀ j,y'.val<j→j<len→hit j=false)→Q ex' fr H'')∧c''.w=W3∧HS w0 M0 c'' H''∧Ext c c''∧noIter H''=true∧(∀ b,c.w.heap.size≤b→c''.M b→∃ (j:Nat) (y:AB),H''[j]? = some y∧y.live=true∧oB (c''.rho j)=some b):=by
    intro ex hl4
    obtain⟨k0,k1,c3,H3,rfl,k2,k3,k4,k5⟩:=go ex hl4
    obtain⟨s1,s2⟩:=k2.slim (B0:=c.w.heap.size) hlow
    exact⟨k0,k1,ex,pre,y,c3.slim c.w.heap.size H3,H3,rfl,hpre,rfl,k0,k5,rfl,s1.on,(hce.trans k3).trans s2,k4,fun b hb hm=>hm.2.resolve_left (by omega)⟩
   cases e with
   | normal=>exact absurd rfl (mk .normal hl3).1
   | exit id=>exact(mk (.exit id) hl3).2
   | ret=>exact(mk .ret hl3).2
   | _=>exact hl3.elim
 case done=>
  rintro D ys W hD hys ⟨hW,hpre⟩ hdef
  obtain⟨g1,g2⟩:=hs.grow hW
  have hall:∀ i,i<len→hit i=false:=by
   intro i hi
   have:=downL_mem hi
   rw [←hys,List.mem_map] at this
   obtain⟨y,hy,rfl⟩:=this
   exact hpre y hy
  refine hQ .normal { c with w:=W } fr H _ (hdone hall) g1 ⟨hf.size,⟨fun _=>⟨D,rfl,Nat.le_trans hlow hD,fun hm=>by have:=hs.lt D hm;omega,hdef,?_⟩,hf.defers.ext g2⟩,(hf.ext g2).get⟩ (he.trans g2)
  rename_i hck
  intro e he'
  obtain⟨b,hb,hlt⟩:=hf.defers.lt hck e he'
  rw [hb]
  intro e'
  injection e' with e'
  omega
 case stop=>
  rintro D cd pre W hD ⟨k,hk,hpre⟩ ⟨ex,pr,y,c',H',rfl,h2,rfl,h4,h5,rfl,h6,h7,h8,h9⟩ hdef
  have hq:Q ex fr H':=h5 (downL_last hk (pre:=pr.map Fin.val) (x:=y.val) (by rw [←hpre];simp) (p:=fun j=>hit j=false) (by
   intro z hz
   obtain⟨z',hz',rfl⟩:=List.mem_map.1 hz
   exact h2 z' hz'))
  have hM:¬c'.M D:=by
   intro hm
   obtain⟨j,y',q1,q2,q3⟩:=h9 D hD hm
   obtain⟨o,q4,q5⟩:=h6.cells h8 q1 q2 q3
   rw [hdef] at q4
   cases q4
   cases q5
  have hfr:FR w0 c' n fr { a with defers:={ target:= .collected D,args:= #[] }::a.defers }:=by
   refine⟨hf.size,⟨fun hck=>⟨D,rfl,Nat.le_trans hlow hD,hM,hdef,?_⟩,hf.defers.ext h7⟩,(hf.ext h7).get⟩
   intro e he'
   obtain⟨b,hb,hlt⟩:=hf.defers.lt hck e he'
   rw [hb]
   intro e'
   injection e' with e'
   omega
  cases ex with
  | normal=>exact absurd rfl h4
  | exit id=>exact wpIn_exit (hQ (.exit id) c' fr H' _ hq h6 hfr (he.trans h7))
  | ret=>exact wpIn_ret (hQ .ret c' fr H' _ hq h6 hfr (he.trans h7))
end
end Go.Proofs.YtldngmdpiifamaaGreatDoor.A
end
section
namespace Go.Proofs.YtldngmdpiifamaaGreatDoor.A
open Go.RowKit Go.Shelf
attribute [local go_sem] Oper.semAt_some

theorem downL_succ (n j:Nat):downL n (j+1)=downL n j ++ [n - 1 - j]:=by simp [downL,List.range_succ]
theorem downL_length (n j:Nat):(downL n j).length=j:=by simp [downL]

set_option maxRecDepth 100000 in
set_option maxHeartbeats 2000000 in
theorem back1_in (F:Fence) (n:Nat) (h7:F.fn 206) (hro:F.round=none) (hn:1≤n) (l Bs n₀ b off len cap:Nat) (X Y:Nat→Value) (hlen:len≤1000000000) (hb:b<n₀) (hBn:Bs<n₀) (J Jx:List Nat→World→Prop)
  (hY:∀ pre x W,J pre W→pre.length<len→x<len→YieldAt F (n - 1) Tryz.prog l #[.int .i64 (x:Nat), .agg #[X x,Y x]] W fun e W'=>
   (e = .returned (.bool true)∧J (pre ++ [x]) W'∧Below n₀ W W')∨(e = .returned (.bool false)∧Jx (pre ++ [x]) W'))
  (W:World) (hBs:W.cell? ⟨Bs,0,none⟩=some (.slice (some ⟨b,off,none⟩) len cap)) (hc0:∀ j,j<len→W.cell? ⟨b,off+j*2,none⟩=some (X j)) (hc1:∀ j,j<len→W.cell? ⟨b,off+j*2+1,none⟩=some (Y j)) (h0:J [] W) :
  CallsIn F n Tryz.prog 206 #[.func (.yield l) #[] #[], .pointer (some ⟨Bs,0,none⟩)] W fun e W'=>(∃ v,e = .returned v)∧
   ((∃ ys,ys=downL len len∧J ys W')∨(∃ pre,(∃ k,k≤len∧pre=downL len k)∧Jx pre W')):=by
 have Hc0:=Lib.hid hc0
 have Hc1:=Lib.hid hc1
 clear hc0 hc1
 refine callsIn_of_wp Tryz.func206 rfl h7 ?_ hro
 simp only [Tryz.ntmps206,List.size_toArray,List.length_cons,List.length_nil,Nat.reduceAdd,Nat.reduceSub,Array.replicate_succ,Array.replicate_zero,List.push_toArray,List.append_toArray,List.nil_append,List.cons_append]
 gi_wp2
 gi_loopw [3] (fun i wr=>∃ k:Nat,k≤len∧i = .int .i64 ((len:Int) - 1 - k)∧J (downL len k) wr∧Below n₀ W wr)
  (fun i _=>(intOf i+1).toNat)
 case atStart=>exact⟨0,Nat.zero_le _,by simp,h0,Below.refl _ _⟩
 case round=>
  obtain⟨k,hk,rfl,hJs,hnx⟩:=hrel
  by_cases hlt:k<len
  ·obtain⟨m,hmk⟩:∃ m,len=k+1+m:=⟨len - (k+1),by omega⟩
   rw [show (len:Int) - 1 - k=(m:Int) by omega]
   obtain⟨fn,tmps,assign,body,hy,hR⟩:=hY _ m wr hJs (by rw [downL_length];exact hlt) (by omega)
   have e0:=(hnx.cell (p:=⟨b,off+m*2,none⟩) hb).trans (Hc0.out m (by omega))
   have e1:=(hnx.cell (p:=⟨b,off+m*2+1,none⟩) hb).trans (Hc1.out m (by omega))
   have eb:=(hnx.cell (p:=⟨Bs,0,none⟩) hBn).trans hBs
   have hm:(m:Int)<(len:Int):=by omega
   have Hm:=Lib.hid hmk
   clear hmk
   gi_wp2
   refine hR.mono ?_
   rintro e W3 (⟨rfl,hJ3,hk3⟩ | ⟨rfl,hJx3⟩)
   ·gi_wp2
    go_roundw
    case rel=>exact⟨k+1,by omega,congrArg (Value.int .i64) (by have:=Hm.out;omega),by rw [downL_succ,show len - 1 - k=m by have:=Hm.out;omega];exact hJ3,hnx.trans hk3⟩
    case measure=>simp [intOf]
   ·gi_wp2
    refine bodyPost_ret (results_none rfl _ _ _) rfl ?_
    exact⟨⟨_,rfl⟩, .inr ⟨_,⟨k+1,by omega,by rw [downL_succ,show len - 1 - k=m by have:=Hm.out;omega]⟩,hJx3⟩⟩
  ·obtain rfl:k=len:=by omega
   rw [show ((k:Nat):Int) - 1 - k = -1 by omega]
   gi_wp2
   go_end0
   exact⟨⟨_,rfl⟩, .inl ⟨_,rfl,hJs⟩⟩

set_option maxRecDepth 100000 in
set_option maxHeartbeats 1000000 in
theorem back0_in (F:Fence) (n:Nat) (h7:F.fn 206) (hro:F.round=none) (l Bs:Nat) (a:Option Addr) (cap:Nat) (J:List Nat→World→Prop) (W:World) (hBs:W.cell? ⟨Bs,0,none⟩=some (.slice a 0 cap)) (h0:J [] W) :
  CallsIn F n Tryz.prog 206 #[.func (.yield l) #[] #[], .pointer (some ⟨Bs,0,none⟩)] W fun e W'=>(∃ v,e = .returned v)∧J [] W':=by
 refine callsIn_of_wp Tryz.func206 rfl h7 ?_ hro
 simp only [Tryz.ntmps206,List.size_toArray,List.length_cons,List.length_nil,Nat.reduceAdd,Nat.reduceSub,Array.replicate_succ,Array.replicate_zero,List.push_toArray,List.append_toArray,List.nil_append,List.cons_append]
 gi_wp2
 gi_loopw [3] (fun i wr=>i = .int .i64 (-1)∧J [] wr) (fun _ _=>0)
 case atStart=>exact⟨rfl,h0⟩
 case round=>
  obtain⟨rfl,hJs⟩:=hrel
  gi_wp2
  go_end0
  exact⟨⟨_,rfl⟩,hJs⟩

theorem back_stops (F:Fence) (n:Nat) (h7:F.fn 206) (hro:F.round=none) (hn:1≤n) (Bs n₀:Nat) (a:Option Addr) (len cap:Nat) (X Y:Nat→Value) (hlen:len≤1000000000) (w:World) (hBs:Bs<n₀) (hn₀:n₀≤w.heap.size)
  (hc:w.cell? ⟨Bs,0,none⟩=some (.slice a len cap)) (hI:0<len→∃ b off,a=some ⟨b,off,none⟩∧b<n₀∧∀ j,j<len→w.cell? ⟨b,off+j*2,none⟩=some (X j)∧w.cell? ⟨b,off+j*2+1,none⟩=some (Y j)) :
  SeqStopsK F n Tryz.prog 206 #[.pointer (some ⟨Bs,0,none⟩)] (fun x:Fin len=> #[Value.int .i64 x.val, .agg #[X x,Y x]]) (Below n₀) (fun ys=>ys.map Fin.val=downL len len) (fun pre=>∃ k,k≤len∧pre.map Fin.val=downL len k) len w:=fun l J Jx W hW _ _ hY h0=>by
 have hc':=(hW.cell (p:=⟨Bs,0,none⟩) (by show Bs<_;omega)).trans hc
 rcases Nat.eq_zero_or_pos len with rfl | hp
 ·exact(back0_in F n h7 hro l Bs a cap (fun _ W=>J [] W) W hc' h0).mono fun e W' ⟨he,hj⟩=>⟨he, .inl ⟨[],rfl,hj⟩⟩
 ·obtain⟨b,off,rfl,hb,hj⟩:=hI hp
  refine(back1_in F n h7 hro hn l Bs n₀ b off len cap X Y hlen hb hBs (fun pre W=>∃ q:List (Fin len),q.map Fin.val=pre∧J q W) (fun pre W=>∃ q:List (Fin len),q.map Fin.val=pre∧Jx q W) ?_ W hc' (fun j h=>(hW.cell (p:=⟨b,off+j*2,none⟩) (by show b<_;omega)).trans (hj j h).1) (fun j h=>(hW.cell (p:=⟨b,off+j*2+1,none⟩) (by show b<_;omega)).trans (hj j h).2) ⟨[],rfl,h0⟩).mono ?_
  ·rintro pre x W1 ⟨q,hq,hJ⟩ hlt hx
   obtain⟨fn,tmps,assign,body,hy,hR⟩:=hY q ⟨x,hx⟩ W1 hJ (by rw [←hq,List.length_map] at hlt;exact hlt)
   refine⟨fn,tmps,assign,body,hy,hR.mono ?_⟩
   rintro e W' (⟨he,h1,h2⟩ | ⟨he,h1⟩)
   ·exact .inl ⟨he,⟨_,by simp [hq],h1⟩,h2⟩
   ·exact .inr ⟨he,⟨_,by simp [hq],h1⟩⟩
  ·rintro e W' ⟨he,⟨ys,rfl,q,hq,hJ⟩ | ⟨pre,⟨k,hk,rfl⟩,q,hq,hJ⟩⟩
   ·exact⟨he, .inl ⟨q,hq,hJ⟩⟩
   ·exact⟨he, .inr ⟨q,⟨k,hk,hq⟩,hJ⟩⟩

theorem back_is:IsBack Tryz.prog 206 2:=by
 refine⟨enters_of Tryz.func206 (by kernel_rfl) rfl,fun B a len cap X w hlen hc hl hI=>?_⟩
 have e:(fun x:Fin len=>(#[Value.int .i64 x.val, .agg (X x.val).toArray]:Array Value))=fun x:Fin len=> #[Value.int .i64 x.val, .agg #[(X x.val).getD 0 undef,(X x.val).getD 1 undef]]:=by
  funext x
  have:=hl x.val
  match h:X x.val with
  | [u,v]=>rfl
  | []=>rw [h] at this;simp at this
  | [_]=>rw [h] at this;simp at this
  | _::_::_::_=>rw [h] at this;simp at this
 rw [e]
 refine back_stops Fence.wide 4 trivial rfl (by omega) B w.heap.size a len cap (fun j=>(X j).getD 0 undef) (fun j=>(X j).getD 1 undef) hlen w (World.block_lt_of_cell? w _ hc) (Nat.le_refl _) hc fun hp=>?_
 obtain⟨b,off,h1,h2,h3⟩:=hI hp
 refine⟨b,off,h1,h2,fun j hj=>?_⟩
 have h4:=hl j
 match h:X j with
 | [u,v]=>exact⟨h3 j hj 0 u (by rw [h];rfl),h3 j hj 1 v (by rw [h];rfl)⟩
 | []=>rw [h] at h4;simp at h4
 | [_]=>rw [h] at h4;simp at h4
 | _::_::_::_=>rw [h] at h4;simp at h4
end Go.Proofs.YtldngmdpiifamaaGreatDoor.A
end
section
namespace Go.Proofs.YtldngmdpiifamaaGreatDoor.A
open Go.RowKit
structure Cel where
 state:Int
 bytes:List UInt8
 old:List UInt8
 deriving DecidableEq
def celC (x:Cel):List AV:= [.v (.int .i64 x.state),bA x.bytes,bA x.old]
structure Dk where
 cells:List Cel
 cache:List Wr
 reqs:Int
 left:Int
 deriving DecidableEq
@[reducible] def dkX (x y:AV) (reqs left:Int):List AV:= [x,y, .v (.int .i64 reqs), .v (.int .i64 left)]
@[reducible] def dkH (d:Dk):List AB:= [.box 164 (dkX (.ow 1 d.cells.length) (.ow 2 d.cache.length) d.reqs d.left), .row 87 3 (d.cells.map celC), .row 130 2 (d.cache.map wrC)]
def Dk.req (d:Dk):Dk:={ d with reqs:=if 1048576<IntKind.i64.wrap (d.reqs+1) then 1048576 else IntKind.i64.wrap (d.reqs+1),left:=if d.left > 0 then d.left - 1 else d.left }

set_option maxRecDepth 100000 in
theorem request_fn (d:Dk) (hl : -1≤d.left∧d.left≤1048576):ACalls Tryz.prog false 163 [.bp 0 0] (dkH d) fun r H=>r = .v (.bool (decide (d.left≠0)))∧H=dkH (if d.left=0 then d else d.req):=by
 refine ACalls.ofO tys_ok Tryz.func163 rfl rfl (by decide) ?_
 conv=>whnf
 refine boolI (fun h=>?_) (fun h=>?_) <;> (repeat rw [Int.toNat_natCast] at h) <;> conv=>whnf
 ·exact⟨_,dkH d,fun _ _ h=>h,⟨rfl,rfl,rfl,trivial⟩,rfl,⟨rfl,rfl⟩,by simp [h],by rw [if_pos h]⟩
 ·have hw:IntKind.i64.wrap (d.left - 1)=d.left - 1:=by rw [IntKind.wrap_i64];omega
  refine aSeq.go ?_
  conv=>whnf
  refine boolI (fun h2=>?_) (fun h2=>?_) <;> (repeat rw [Int.toNat_natCast] at h2) <;> conv=>whnf
  ·exact⟨_,dkH d.req,fun _ _ h=>h,⟨by simp [Dk.req,h2,hw],rfl,rfl,trivial⟩,rfl,⟨rfl,rfl⟩,by simp [h],by rw [if_neg h]⟩
  ·exact⟨_,dkH d.req,fun _ _ h=>h,⟨by simp [Dk.req];omega,rfl,rfl,trivial⟩,rfl,⟨rfl,rfl⟩,by simp [h],by rw [if_neg h]⟩

set_option maxHeartbeats 1000000 in
theorem back_any (a:Option Addr) (len cap:Nat) (w:World) :
  Calls Tryz.prog 164 #[.slice a len cap] w fun e w'=>e = .returned (.func (.func 206) #[] #[.pointer (some ⟨w.heap.size,0,none⟩)])∧w.alloc (.cells #[.slice a len cap] 30)=w':=by
 go_enter Tryz.func164,Tryz.ntmps164
 go_wp2
 go_ret
 exact⟨rfl,rfl⟩

theorem backward_fn (x:AV) (Hin:List AB) (hx:∀ c u,Rd x c u→∃ a len cap,u = .slice a len cap):ACalls Tryz.prog false 164 [x] Hin fun r H=>r = .fn 206 [.bp Hin.length 0]∧H=Hin ++ [.box 30 [x]]:=by
 refine⟨⟨_,Tryz.func164,rfl,by decide⟩,fun w0 M0 c us hs hr=>?_⟩
 have hr0:=hr
 simp only [RdL] at hr
 obtain⟨u,_,rfl,hu,rfl⟩:=hr
 obtain⟨a,len,cap,rfl⟩:=hx _ _ hu
 obtain⟨c',e1,e2,e3,e4⟩:=hs.box 30 hr0 (by simp [Value.oneCell'])
 refine(back_any a len cap c.w).mono ?_
 rintro e w' ⟨rfl,rfl⟩
 refine⟨_,c',_,_,rfl,by rw [e1],⟨rfl,rfl⟩,e2,e3,?_,fun e=>by cases e⟩
 simp only [Rd,RdL]
 exact⟨_,rfl,_,_,rfl,by simpa only [Rd] using e4,rfl⟩
def celsA (l:List Cel):AV:= .sl 3 l.length fun i=>celC (l.getD i ⟨0, [], []⟩)
set_option maxRecDepth 100000 in
theorem iclo_own (l:List Int) (hl:l.length≤1000000000):ACalls Tryz.prog false 118 [iA l] [] fun r H=>r = .ow 0 l.length∧H=[.row 3 1 (l.map ic1)]:=by
 refine ACalls.ofC tys_ok Tryz.func118 rfl rfl (by show 1≤_;decide) ?_
 conv=>whnf
 refine And.intro (fun h=>?_) ?_
 ·conv=>whnf
  have h0:=List.length_eq_zero_iff.1 h
  subst h0
  exact⟨_, .ow 0 0, [.row 3 1 []],fun _ _ h=>h,Wk.conv ⟨[(0,3,1)],⟨rfl,rfl,trivial⟩,⟨rfl,trivial⟩,⟨rfl,trivial⟩,rfl,rfl,rfl⟩,rfl,rfl⟩
 ·conv=>whnf
  refine And.intro ⟨rfl,by omega⟩ ?_
  conv=>whnf
  exact⟨.ow 0 l.length, .ow 0 l.length, [.row 3 1 (l.map ic1)],fun _ _ h=>by rwa [Nat.zero_add] at h,Wk.conv ⟨[],trivial,⟨rfl,trivial⟩,⟨(congrArg (AB.row _ _) (rangeF (d:=0) ic1 l)).symm,trivial⟩,rfl,rfl,rfl⟩,rfl,rfl⟩
set_option maxRecDepth 100000 in
theorem hmclo_own (l:List Hm) (hl:l.length≤1000000000):ACalls Tryz.prog false 170 [hmsA l] [] fun r H=>r = .ow 0 l.length∧H=[.row 132 3 (l.map hmC)]:=by
 refine ACalls.ofC tys_ok Tryz.func170 rfl rfl (by show 1≤_;decide) ?_
 conv=>whnf
 refine And.intro (fun h=>?_) ?_
 ·conv=>whnf
  have h0:=List.length_eq_zero_iff.1 h
  subst h0
  exact⟨_, .ow 0 0, [.row 132 3 []],fun _ _ h=>h,Wk.conv ⟨[(0,132,3)],⟨rfl,rfl,trivial⟩,⟨rfl,trivial⟩,⟨rfl,trivial⟩,rfl,rfl,rfl⟩,rfl,rfl⟩
 ·conv=>whnf
  refine And.intro ⟨rfl,by omega⟩ ?_
  conv=>whnf
  exact⟨.ow 0 l.length, .ow 0 l.length, [.row 132 3 (l.map hmC)],fun _ _ h=>by rwa [Nat.zero_add] at h,Wk.conv ⟨[],trivial,⟨rfl,trivial⟩,⟨(congrArg (AB.row _ _) (rangeF (d:=⟨[],0,0⟩) hmC l)).symm,trivial⟩,rfl,rfl,rfl⟩,rfl,rfl⟩
set_option maxRecDepth 100000 in
theorem txclo_own (l:List Tx) (hl:l.length≤1000000000):ACalls Tryz.prog false 171 [txsA l] [] fun r H=>r = .ow 0 l.length∧H=[.row 78 4 (l.map txC)]:=by
 refine ACalls.ofC tys_ok Tryz.func171 rfl rfl (by show 1≤_;decide) ?_
 conv=>whnf
 refine And.intro (fun h=>?_) ?_
 ·conv=>whnf
  have h0:=List.length_eq_zero_iff.1 h
  subst h0
  exact⟨_, .ow 0 0, [.row 78 4 []],fun _ _ h=>h,Wk.conv ⟨[(0,78,4)],⟨rfl,rfl,trivial⟩,⟨rfl,trivial⟩,⟨rfl,trivial⟩,rfl,rfl,rfl⟩,rfl,rfl⟩
 ·conv=>whnf
  refine And.intro ⟨rfl,by omega⟩ ?_
  conv=>whnf
  exact⟨.ow 0 l.length, .ow 0 l.length, [.row 78 4 (l.map txC)],fun _ _ h=>by rwa [Nat.zero_add] at h,Wk.conv ⟨[],trivial,⟨rfl,trivial⟩,⟨(congrArg (AB.row _ _) (rangeF (d:=⟨0,0,0, []⟩) txC l)).symm,trivial⟩,rfl,rfl,rfl⟩,rfl,rfl⟩
set_option maxRecDepth 100000 in
theorem imclo_own (l:List Img) (hl:l.length≤1000000000):ACalls Tryz.prog false 172 [imgsA l] [] fun r H=>r = .ow 0 l.length∧H=[.row 83 3 (l.map imgC)]:=by
 refine ACalls.ofC tys_ok Tryz.func172 rfl rfl (by show 1≤_;decide) ?_
 conv=>whnf
 refine And.intro (fun h=>?_) ?_
 ·conv=>whnf
  have h0:=List.length_eq_zero_iff.1 h
  subst h0
  exact⟨_, .ow 0 0, [.row 83 3 []],fun _ _ h=>h,Wk.conv ⟨[(0,83,3)],⟨rfl,rfl,trivial⟩,⟨rfl,trivial⟩,⟨rfl,trivial⟩,rfl,rfl,rfl⟩,rfl,rfl⟩
 ·conv=>whnf
  refine And.intro ⟨rfl,by omega⟩ ?_
  conv=>whnf
  exact⟨.ow 0 l.length, .ow 0 l.length, [.row 83 3 (l.map imgC)],fun _ _ h=>by rwa [Nat.zero_add] at h,Wk.conv ⟨[],trivial,⟨rfl,trivial⟩,⟨(congrArg (AB.row _ _) (rangeF (d:=⟨0,0, []⟩) imgC l)).symm,trivial⟩,rfl,rfl,rfl⟩,rfl,rfl⟩
set_option maxRecDepth 100000 in
theorem celclo_own (l:List Cel) (hl:l.length≤1000000000):ACalls Tryz.prog false 109 [celsA l] [] fun r H=>r = .ow 0 l.length∧H=[.row 87 3 (l.map celC)]:=by
 refine ACalls.ofC tys_ok Tryz.func109 rfl rfl (by show 1≤_;decide) ?_
 conv=>whnf
 refine And.intro (fun h=>?_) ?_
 ·conv=>whnf
  have h0:=List.length_eq_zero_iff.1 h
  subst h0
  exact⟨_, .ow 0 0, [.row 87 3 []],fun _ _ h=>h,Wk.conv ⟨[(0,87,3)],⟨rfl,rfl,trivial⟩,⟨rfl,trivial⟩,⟨rfl,trivial⟩,rfl,rfl,rfl⟩,rfl,rfl⟩
 ·conv=>whnf
  refine And.intro ⟨rfl,by omega⟩ ?_
  conv=>whnf
  exact⟨.ow 0 l.length, .ow 0 l.length, [.row 87 3 (l.map celC)],fun _ _ h=>by rwa [Nat.zero_add] at h,Wk.conv ⟨[],trivial,⟨rfl,trivial⟩,⟨(congrArg (AB.row _ _) (rangeF (d:=⟨0, [], []⟩) celC l)).symm,trivial⟩,rfl,rfl,rfl⟩,rfl,rfl⟩
set_option maxRecDepth 100000 in
theorem wrclo_own (l:List Wr) (hl:l.length≤1000000000):ACalls Tryz.prog false 110 [wrsA l] [] fun r H=>r = .ow 0 l.length∧H=[.row 130 2 (l.map wrC)]:=by
 refine ACalls.ofC tys_ok Tryz.func110 rfl rfl (by show 1≤_;decide) ?_
 conv=>whnf
 refine And.intro (fun h=>?_) ?_
 ·conv=>whnf
  have h0:=List.length_eq_zero_iff.1 h
  subst h0
  exact⟨_, .ow 0 0, [.row 130 2 []],fun _ _ h=>h,Wk.conv ⟨[(0,130,2)],⟨rfl,rfl,trivial⟩,⟨rfl,trivial⟩,⟨rfl,trivial⟩,rfl,rfl,rfl⟩,rfl,rfl⟩
 ·conv=>whnf
  refine And.intro ⟨rfl,by omega⟩ ?_
  conv=>whnf
  exact⟨.ow 0 l.length, .ow 0 l.length, [.row 130 2 (l.map wrC)],fun _ _ h=>by rwa [Nat.zero_add] at h,Wk.conv ⟨[],trivial,⟨rfl,trivial⟩,⟨(congrArg (AB.row _ _) (rangeF (d:=⟨0, []⟩) wrC l)).symm,trivial⟩,rfl,rfl,rfl⟩,rfl,rfl⟩
theorem SubL.app:∀ {a b x y:List AV},SubL a b→SubL x y→SubL (a ++ x) (b ++ y)
 | [], [],_,_,_,k=>k
 | _::_,_::_,_,_,h,k=>⟨h.1,SubL.app h.2 k⟩
 | [],_::_,_,_,h,_=>h.elim
 | _::_, [],_,_,h,_=>h.elim
theorem SubL.flat:∀ {a b:List (List AV)},a.length=b.length→(∀ i,SubL (a.getD i []) (b.getD i []))→SubL a.flatten b.flatten
 | [], [],_,_=>trivial
 | x::a,y::b,hl,h=>by
  rw [List.flatten_cons,List.flatten_cons]
  exact SubL.app (h 0) (SubL.flat (by simpa using hl) fun i=>h (i+1))
 | [],_::_,hl,_=>by simp at hl
 | _::_, [],hl,_=>by simp at hl
theorem ConvH.subRow {H:List AB} {k:Nat} {t:TypeId} {sz:Nat} {es es':List (List AV)} (hk:H[k]? = some (.row t sz es)) (hl:es.length=es'.length) (h:∀ i,SubL (es.getD i []) (es'.getD i [])):ConvH H (H.set k (.row t sz es')):=fun _ _ c hs=>
 ⟨c,rfl,hs.recell hk rfl fun⟨h1,h2,h3,xs,h4,h5,h6⟩=>⟨h1.trans hl,h2,fun e he=>by
  obtain⟨i,hi,rfl⟩:=List.mem_iff_getElem.1 he
  have:=(h i).len
  rw [List.getD_eq_getElem?_getD,List.getD_eq_getElem?_getD,List.getElem?_eq_getElem hi,List.getElem?_eq_getElem (by omega)] at this
  simp only [Option.getD_some] at this
  rw [←this]
  exact h3 _ (List.getElem_mem _),xs,by rw [←hl];exact h4,(SubL.flat hl h).rdl h5,h6⟩,Ext.refl c⟩
theorem ConvH.subRowo {H:List AB} {k:Nat} {t:TypeId} {sz m m':Nat} {es es':List (List AV)} (hk:H[k]? = some (.rowo t sz es m)) (hl:es.length=es'.length) (h:∀ i,SubL (es.getD i []) (es'.getD i [])) (hm:AV.ltL es'.flatten m'=true):ConvH H (H.set k (.rowo t sz es' m')):=fun _ _ c hs=>
 ⟨c,rfl,hs.recell hk rfl fun⟨h1,h2,h3,h7,xs,h4,h5,h6⟩=>⟨h1.trans hl,h2,fun e he=>by
  obtain⟨i,hi,rfl⟩:=List.mem_iff_getElem.1 he
  have:=(h i).len
  rw [List.getD_eq_getElem?_getD,List.getD_eq_getElem?_getD,List.getElem?_eq_getElem hi,List.getElem?_eq_getElem (by omega)] at this
  simp only [Option.getD_some] at this
  rw [←this]
  exact h3 _ (List.getElem_mem _),hm,xs,by rw [←hl];exact h4,(SubL.flat hl h).rdl h5,h6⟩,Ext.refl c⟩
theorem set_getD_ne {α:Type} {d x:α} {l:List α} {i k:Nat} (h:i≠k):(l.set i x).getD k d=l.getD k d:=by
 rw [List.getD_eq_getElem?_getD,List.getElem?_set_ne h,←List.getD_eq_getElem?_getD]
theorem set_getD_eq {α:Type} {d x:α} {l:List α} {i:Nat} (h:i<l.length):(l.set i x).getD i d=x:=by
 rw [List.getD_eq_getElem?_getD,List.getElem?_set_self h];rfl
theorem ConvH.last {H:List AB} (k:Nat) {t:TypeId} {sz:Nat} {es:List (List AV)} {e e':List AV} (hk:H[k]? = some (.row t sz (es ++ [e]))) (h:SubL e e'):ConvH H (H.set k (.row t sz (es ++ [e']))):=
 ConvH.subRow hk (by simp) fun i=>by
  by_cases hi:i<es.length
  ·rw [getD_app hi,getD_app hi];exact SubL.refl _
  ·rw [getD_appR (by omega),getD_appR (by omega)]
   cases h2:i - es.length with
   | zero=>exact h
   | succ j=>exact SubL.refl _
def AV.mv (k d:Nat):AV→AV
 | .ow j n=> .ow (bif Nat.beq j k then d else j) n
 | x=>x
theorem Rd.mv {c c':Ctx} {k:Nat} (e:Ext c c') (hd:c.dom<c'.dom) (hr:c'.rho c.dom=c.rho k) (hl:c'.len c.dom=c.len k):∀ (x:AV) {u:Value},Rd x c u→Rd (x.mv k c.dom) c' u
 | .ow j n,u,h=>by
  show Rd (.ow (bif Nat.beq j k then c.dom else j) n) c' u
  cases hb:Nat.beq j k with
  | true=>
   have:=Nat.eq_of_beq_eq_true hb
   subst this
   simp only [Rd] at h
   simp only [cond_true,Rd]
   exact⟨hd,by rw [hl];exact h.2.1,h.2.2.1,fun e=>by rw [hr];exact h.2.2.2 (by rw [←hl];exact e)⟩
  | false=>exact Rd.ext _ e h
 | .top,_,h=>Rd.ext _ e h
 | .v _,_,h=>Rd.ext _ e h
 | .sl _ _ _,_,h=>Rd.ext _ e h
 | .rp _,_,h=>Rd.ext _ e h
 | .bp _ _,_,h=>Rd.ext _ e h
 | .ep _ _ _ _ _,_,h=>Rd.ext _ e h
 | .ag _,_,h=>Rd.ext _ e h
 | .tp _,_,h=>Rd.ext _ e h
 | .fn _ _,_,h=>Rd.ext _ e h
 | .ic _ _,_,h=>Rd.ext _ e h
theorem RdL.mv {c c':Ctx} {k:Nat} (e:Ext c c') (hd:c.dom<c'.dom) (hr:c'.rho c.dom=c.rho k) (hl:c'.len c.dom=c.len k):∀ (l:List AV) {us:List Value},RdL l c us→RdL (l.map (AV.mv k c.dom)) c' us
 | [],_,h=>h
 | x::l,_,h=>by
  simp only [RdL] at h
  obtain⟨y,ys,rfl,h1,h2⟩:=h
  simp only [List.map_cons,RdL]
  exact⟨y,ys,rfl,Rd.mv e hd hr hl x h1,RdL.mv e hd hr hl l h2⟩
theorem ConvH.move {H:List AB} (i k:Nat) {t ti:TypeId} {sz:Nat} {es:List (List AV)} {cs:List AV} (hik:i≠k) (hi:H[i]? = some (.box ti cs)) (hk:H[k]? = some (.row t sz es)) :
  ConvH H (((H.set k .dead).set i (.box ti (cs.map (AV.mv k H.length)))) ++ [.row t sz es]):=fun w0 M0 c hs=>by
 have hil:=(List.getElem?_eq_some_iff.1 hi).1
 have hkl:=(List.getElem?_eq_some_iff.1 hk).1
 have hdom:=hs.dom
 let c':Ctx:={ c with rho:=fun j=>if j=c.dom then c.rho k else c.rho j,len:=fun j=>if j=c.dom then c.len k else c.len j,dom:=c.dom+1 }
 have hn:∀ j,j<c.dom→c'.rho j=c.rho j∧c'.len j=c.len j:=fun j hj=>⟨if_neg (by omega),if_neg (by omega)⟩
 have e:Ext c c':=⟨rfl,rfl,rfl,Nat.le_refl _,fun _ _ h=>⟨h,rfl⟩,Nat.le_succ _,fun j hj=>by rw [(hn j hj).2];exact Nat.le_refl _,fun j hj _=>(hn j hj).1,fun j g hj h=>by rw [(hn j hj).1];exact h⟩
 have hr:c'.rho c.dom=c.rho k:=if_pos rfl
 have hl:c'.len c.dom=c.len k:=if_pos rfl
 have get:∀ j x,(((H.set k .dead).set i (.box ti (cs.map (AV.mv k H.length)))) ++ [.row t sz es])[j]? = some x→x.live=true→(j=c.dom∧x = .row t sz es)∨(j<c.dom∧j=i∧x = .box ti (cs.map (AV.mv k c.dom)))∨(j<c.dom∧j≠i∧j≠k∧H[j]? = some x):=fun j x hj hx=>by
  rw [hdom]
  by_cases h1:j<H.length
  ·rw [List.getElem?_append_left (by simpa using h1)] at hj
   by_cases h2:j=i
   ·subst h2
    rw [List.getElem?_set_self (by simpa using h1)] at hj
    exact .inr (.inl ⟨h1,rfl,(Option.some.inj hj).symm⟩)
   ·rw [List.getElem?_set_ne (Ne.symm h2)] at hj
    by_cases h3:j=k
    ·subst h3
     rw [List.getElem?_set_self h1] at hj
     rw [←Option.some.inj hj] at hx
     cases hx
    ·rw [List.getElem?_set_ne (Ne.symm h3)] at hj
     exact .inr (.inr ⟨h1,h2,h3,hj⟩)
  ·rw [List.getElem?_append_right (by simpa using h1)] at hj
   simp only [List.length_set] at hj
   cases h2:j - H.length with
   | zero=>rw [h2] at hj;exact .inl ⟨by omega,(Option.some.inj hj).symm⟩
   | succ m=>rw [h2] at hj;simp at hj
 have org:∀ j x,(((H.set k .dead).set i (.box ti (cs.map (AV.mv k H.length)))) ++ [.row t sz es])[j]? = some x→x.live=true→∃ j' y,H[j']? = some y∧y.live=true∧c'.rho j=c.rho j'∧((j=c.dom∧j'=k)∨(j<c.dom∧j'=j∧j≠k)):=fun j x hj hx=>by
  rcases get j x hj hx with ⟨rfl,rfl⟩ | ⟨h1,rfl,rfl⟩ | ⟨h1,h2,h3,h4⟩
  ·exact⟨k,_,hk,rfl,hr, .inl ⟨rfl,rfl⟩⟩
  ·exact⟨j,_,hi,rfl,(hn j h1).1, .inr ⟨h1,rfl,hik⟩⟩
  ·exact⟨j,_,h4,hx,(hn j h1).1, .inr ⟨h1,rfl,h3⟩⟩
 refine⟨c',rfl,⟨hs.low,hs.base,by simp [c',hdom],hs.foreign,hs.lt,fun j x hj=>?_,fun j x g hj hx ho=>?_,fun j1 j2 x y g h1 h2 hx hy o1 o2=>?_⟩,e⟩
 ·cases hx:x.live with
  | false=>cases x <;> first | trivial | cases hx
  | true=>
   rcases get j x hj hx with ⟨rfl,rfl⟩ | ⟨h1,rfl,rfl⟩ | ⟨h1,h2,h3,h4⟩
   ·obtain⟨q1,q2,q3,xs,q4,q5,q6⟩:=hs.blk k _ hk
    exact⟨by rw [hl];exact q1,q2,q3,xs,by rw [hr];exact q4,RdL.ext _ e.closed q5,q6⟩
   ·obtain⟨g,xs,q1,q2,q3,q4⟩:=hs.blk j _ hi
    exact⟨g,xs,by rw [(hn j h1).1];exact q1,q2,RdL.mv e (Nat.lt_succ_self _) hr hl _ q3,q4⟩
   ·exact BlkOk.ext e rfl h1 (hn j h1).2 (fun _ _ _=>rfl) (hs.blk j x h4)
 ·obtain⟨j',y,h1,h2,h3,_⟩:=org j x hj hx
  exact hs.own j' y g h1 h2 (by rw [←h3];exact ho)
 ·obtain⟨a,y1,p1,p2,p3,p4⟩:=org j1 x h1 hx
  obtain⟨b,y2,r1,r2,r3,r4⟩:=org j2 y h2 hy
  have:=hs.dis a b y1 y2 g p1 r1 p2 r2 (by rw [←p3];exact o1) (by rw [←r3];exact o2)
  omega

def finGR (T:Tys) (m:Nat) (rs:List ResultVar) (K:AV→List AB→Prop):QA:=fun ex fr H=>match ex with
 | .exit _=>False
 | _=>retK T rs fr H fun x=>∃ y r H2,(∀ c v,Rd x c v→Rd y c v)∧WkR m [(0,y)] H [(0,r)] H2∧K r H2
theorem ACalls.ofR {P : Program} {T : Tys} (hT : TOk P T) {f : FuncId} {fn : Func} {body : Code} {args : List AV} {Hin : List AB} {K : AV → List AB → Prop} (hf : P.funcs[f]? = some fn) (hb : fn.body = some body) (hname : (fn.name == "runtime.NumGoroutine") = false) (hn : args.length ≤ fn.ntmps)
  (h:aCode P T fn.ntmps Hin.length body (finGR T Hin.length fn.results.toList K) (frOf 0 args) Hin):ACalls P false f args Hin K:=by
 refine⟨⟨fn,hf,by rw [hb];rfl,hname⟩,fun w0 M0 c0 us hs0 hr=>?_⟩
 have hlen:=hr.length
 have hFR:FR (w0.at c0.w hs0.low) c0 fn.ntmps (frOf 0 args) { tmps:=us.toArray ++ Array.replicate (fn.ntmps - us.toArray.size) undef,defers:= [] }:=by
  refine⟨by simp;omega,trivial,fun i=>?_⟩
  have:=frOf_rd (c:=c0) (m:=fn.ntmps - us.length) (l:=args) (i:=0) (pre:= []) rfl hr i
  rw [Array.getD_eq_getD_getElem?]
  have e:(us.toArray ++ Array.replicate (fn.ntmps - us.toArray.size) undef)[i]? = ([] ++ us ++ List.replicate (fn.ntmps - us.length) undef)[i]? :=by
   have:(us.toArray ++ Array.replicate (fn.ntmps - us.toArray.size) undef)=([] ++ us ++ List.replicate (fn.ntmps - us.length) undef).toArray:=Array.ext' (by simp)
   rw [this];simp only [List.getElem?_toArray]
  rw [e]
  exact this
 have fin:∀ a w,Lift (w0.at c0.w hs0.low) M0 c0 fn.ntmps (fun fr H=>retK T fn.results.toList fr H fun x=>∃ y r H2,(∀ c v,Rd x c v→Rd y c v)∧WkR Hin.length [(0,y)] H [(0,r)] H2∧K r H2) a w→∃ v,(results fn a.tmps).run P w = .ok v w∧∃ v' c' r H',Ending.returned v = .returned v'∧c'.w=w∧K r H'∧HS w0 M0 c' H'∧Ext c0 c'∧Rd r c' v'∧(false=true→Old c0.w w):=by
  rintro a w ⟨c,fr,H,rfl,h1,h2,h3,h4⟩
  obtain⟨x,v,⟨y,r,H2,o1,o2,o3⟩,q2,q3⟩:=retK_sound hT h2 h3 h1
  have hfr:FR (w0.at c0.w hs0.low) c 1 [(0,y)] { tmps:= #[v],defers:= [] }:=by
   refine⟨rfl,trivial,fun i=>?_⟩
   unfold fget
   cases i with
   | zero=>exact o1 _ _ q2
   | succ i=>show Rd .top c _;simp [Rd]
  obtain⟨c',e1,e2,e3,e4⟩:=o2.sound hs0.dom h2 hfr h4
  have hr':=e3.get 0
  refine⟨v,q3,v,c',r,H2,rfl,e1,o3,⟨LowF.ofAt e2.low,e2.base,e2.dom,e2.foreign,e2.lt,e2.blk,e2.own,e2.dis⟩,e4,?_,fun e=>by cases e⟩
  simpa [fget] using hr'
 refine calls_marks hf hb trivial (Nat.le_refl _) fin ?_
 refine aCode_sound (w0:=w0.at c0.w hs0.low) (M0:=M0) (ce:=c0) hT hs0.dom body _ _ c0 _ Hin _ (lift_ends rfl rfl fun _ _ _ h=>h) hs0.toAt hFR (Ext.refl _) h
def lastW (l:List Wr) (a:Int):Option Wr:=l.foldl (fun r w=>if w.addr=a then some w else r) none
theorem lastW_nil (a:Int):lastW [] a=none:=rfl
theorem lastW_snoc (l:List Wr) (w:Wr) (a:Int):lastW (l ++ [w]) a=if w.addr=a then some w else lastW l a:=by simp [lastW]
theorem lastW_hit {a:Int}:∀ (n:Nat) (l:List Wr),l.length=n→∀ i,i<l.length→(l.getD i ⟨0, []⟩).addr=a→(∀ j,i<j→j<l.length→(l.getD j ⟨0, []⟩).addr≠a)→lastW l a=some (l.getD i ⟨0, []⟩)
 | 0,l,hn,i,hi,_,_=>by omega
 | n+1,l,hn,i,hi,h1,h2=>by
  rcases List.eq_nil_or_concat l with rfl | ⟨m,w,rfl⟩
  ·simp at hn
  ·simp only [List.concat_eq_append] at *
   simp at hn hi
   rw [lastW_snoc]
   by_cases he:i=m.length
   ·subst he
    simp only [List.getD_eq_getElem?_getD,List.getElem?_append_right (Nat.le_refl _),Nat.sub_self,List.getElem?_cons_zero,Option.getD_some] at h1 ⊢
    rw [if_pos h1]
   ·have hm:∀ j,j<m.length→(m ++ [w]).getD j ⟨0, []⟩=m.getD j ⟨0, []⟩:=fun j hj=>by simp only [List.getD_eq_getElem?_getD,List.getElem?_append_left hj]
    have hw:=h2 m.length (by omega) (by simp)
    simp only [List.getD_eq_getElem?_getD,List.getElem?_append_right (Nat.le_refl _),Nat.sub_self,List.getElem?_cons_zero,Option.getD_some] at hw
    rw [if_neg hw,hm i (by omega)]
    rw [hm i (by omega)] at h1
    exact lastW_hit n m hn i (by omega) h1 fun j q1 q2=>by rw [←hm j q2];exact h2 j q1 (by simp;omega)
theorem lastW_none {a:Int}:∀ (n:Nat) (l:List Wr),l.length=n→(∀ j,j<l.length→(l.getD j ⟨0, []⟩).addr≠a)→lastW l a=none
 | 0,l,hn,_=>by rw [List.length_eq_zero_iff.1 hn];rfl
 | n+1,l,hn,h=>by
  rcases List.eq_nil_or_concat l with rfl | ⟨m,w,rfl⟩
  ·rfl
  ·simp only [List.concat_eq_append] at *
   simp at hn
   rw [lastW_snoc]
   have hw:=h m.length (by simp)
   simp only [List.getD_eq_getElem?_getD,List.getElem?_append_right (Nat.le_refl _),Nat.sub_self,List.getElem?_cons_zero,Option.getD_some] at hw
   rw [if_neg hw]
   exact lastW_none n m hn fun j q=>by
    have:=h j (by simp;omega)
    simpa only [List.getD_eq_getElem?_getD,List.getElem?_append_left q] using this
def Dk.got (d:Dk) (a:Int):List UInt8 × Int:=
 match lastW d.cache a with
 | some w=>(w.bytes,0)
 | none=>if (d.cells.getD a.toNat ⟨0, [], []⟩).state=0 then ((d.cells.getD a.toNat ⟨0, [], []⟩).bytes,0) else ([],6)
def Dk.read (d:Dk) (a:Int):Dk × List UInt8 × Int:=if d.left=0 then (d, [],8) else (d.req,d.got a)

theorem nil_tp (e:Int) (c:Ctx) (v:Value) (h:Rd (.tp [.v (.slice none 0 0), .v (.int .i64 e)]) c v):Rd (.tp [bA [], .v (.int .i64 e)]) c v:=by
 simp only [Rd,RdL] at h ⊢
 obtain⟨xs,rfl,y,ys,rfl,rfl,h⟩:=h
 exact⟨_,rfl,_,_,rfl,nil_sl 1 (fun i=> [.v (.int .u8 (([]:List UInt8).getD i 0).toNat)]) c (.slice none 0 0) (by simp [Rd]),h⟩
theorem lt012 {m:Nat} (h:Nat.ble 3 m=true):∀ z∈ [0,1,2],z<m:=fun z hz=>by
 have:=Nat.le_of_ble_eq_true h
 simp at hz
 omega
set_option maxRecDepth 100000 in
theorem dread_fn (hcl:∀ b:List UInt8,b.length≤1000000000→Fn Tryz.prog 102 [bA b] fun r=>r=bA b) (d:Dk) (a:Int) (hl : -1≤d.left∧d.left≤1048576) (ha:0≤a∧a<d.cells.length) (hc:d.cache.length≤2000) (hb:∀ c∈d.cells,c.bytes.length≤100000) (hw:∀ w∈d.cache,w.bytes.length≤100000) :
  ACalls Tryz.prog false 103 [.bp 0 0, .v (.int .i64 a)] (dkH d) fun r H=>r = .tp [bA (d.read a).2.1, .v (.int .i64 (d.read a).2.2)]∧H=dkH (d.read a).1:=by
 refine ACalls.ofO tys_ok Tryz.func103 rfl rfl (by show 2≤_;decide) ?_
 have hq:=request_fn d hl
 conv=>whnf
 by_cases h0:d.left=0
 ·rw [if_pos h0] at hq
  refine ACalls.frame [0,1,2] hq rfl rfl rfl rfl (by decide) (lt012 rfl) ⟨rfl,rfl,rfl,trivial⟩ ?_
  rintro _ _ ⟨rfl,rfl⟩
  rw [show decide (d.left≠0)=false by simp [h0]]
  conv=>whnf
  exact⟨.tp [bA [], .v (.int .i64 8)],dkH d,nil_tp 8,⟨rfl,rfl,rfl,trivial⟩,rfl,⟨rfl,rfl⟩,by simp [Dk.read,h0],by simp [Dk.read,h0]⟩
 ·rw [if_neg h0] at hq
  refine ACalls.frame [0,1,2] hq rfl rfl rfl rfl (by decide) (lt012 rfl) ⟨rfl,rfl,rfl,trivial⟩ ?_
  rintro _ _ ⟨rfl,rfl⟩
  rw [show decide (d.left≠0)=true by simp [h0]]
  conv=>whnf
  refine(backward_fn (.ow 2 d.req.cache.length) _ (fun c u hu=>by simp only [Rd] at hu;obtain⟨_,_,⟨a,p,h,_⟩,_⟩:=hu;exact⟨_,_,_,h⟩)).mono ?_
  rintro _ _ ⟨rfl,rfl⟩
  conv=>whnf
  have hE:∀ i,i<d.cache.length→(d.cache.map wrC).getD i []=wrC (d.cache.getD i ⟨0, []⟩):=fun i hi=>map_getD hi
  refine aRF.back tys_ok back_is (B:=6) (len:=d.cache.length) (E:=fun i=>(d.cache.map wrC).getD i []) rfl rfl ⟨rfl,_,_,rfl,by simp [Dk.req],rfl⟩ (by omega) rfl (by decide) rfl [(3, .rp [.v (.int .i64 a)])] ⟨.inr ⟨3,_,_,rfl,rfl,rfl,rfl⟩,trivial⟩ (fun i=>decide ((d.cache.getD i ⟨0, []⟩).addr=a)) ?_ ?_ ?_
  ·intro i hi hh
   rw [hE i hi]
   conv=>whnf
   refine⟨rfl,?_⟩
   have hh':(d.cache.getD i ⟨0, []⟩).addr≠a:=by simpa using hh
   conv=>whnf
   refine boolI (fun h1=>?_) (fun h1=>?_) <;> (repeat rw [Int.toNat_natCast] at h1) <;> conv=>whnf
   ·exact absurd h1 hh'
  ·intro i hi hh
   rw [hE i hi]
   conv=>whnf
   refine⟨rfl,?_⟩
   have hh':(d.cache.getD i ⟨0, []⟩).addr=a:=by simpa using hh
   have hcw:=hcl (d.cache.getD i ⟨0, []⟩).bytes (by have:=hw _ (getD_mem (d:=⟨0, []⟩) hi);omega)
   conv=>whnf
   refine boolI (fun h1=>?_) (fun h1=>?_) <;> (repeat rw [Int.toNat_natCast] at h1) <;> conv=>whnf
   ·refine Fn.closed (hcw) rfl ?_
    rintro _ rfl
    conv=>whnf
    conv=>whnf
    refine⟨by simp,rfl,fun hord=>?_⟩
    conv=>whnf
    have hg:d.got a=((d.cache.getD i ⟨0, []⟩).bytes,0):=by
     unfold Dk.got
     rw [lastW_hit _ _ rfl i hi hh' fun j q1 q2=>by simpa using hord j q1 q2]
    exact⟨_,dkH d.req,fun _ _ h=>h,⟨rfl,rfl,rfl,trivial⟩,rfl,⟨rfl,rfl⟩,by simp [Dk.read,h0,hg,bA],by simp [Dk.read,h0]⟩
   ·exact absurd hh' h1
  ·intro hh
   have hg:d.got a=if (d.cells.getD a.toNat ⟨0, [], []⟩).state=0 then ((d.cells.getD a.toNat ⟨0, [], []⟩).bytes,0) else ([],6):=by
    unfold Dk.got
    rw [lastW_none _ _ rfl fun j q=>by simpa using hh j q]
   have hgc:(d.cells.map celC).getD a.toNat []=celC (d.cells.getD a.toNat ⟨0, [], []⟩):=map_getD (by omega)
   have hgc':(d.req.cells.map celC).getD a.toNat []=celC (d.cells.getD a.toNat ⟨0, [], []⟩):=hgc
   have hcb:=hcl (d.cells.getD a.toNat ⟨0, [], []⟩).bytes (by have:=hb _ (getD_mem (d:=⟨0, [], []⟩) (show a.toNat<d.cells.length by omega));omega)
   conv=>whnf
   refine aDraw.of tys_ok mixed [0,1,2,3,4,5,6,7,8,9] (by kernel_rfl) ?_
   conv=>whnf
   refine And.intro ha ?_
   conv=>whnf
   refine And.intro ⟨rfl,(List.length_map _).symm,show a.toNat<d.cells.length by omega⟩ ?_
   conv=>whnf
   first | rw [hgc] | rw [hgc']
   conv=>whnf
   refine boolI (fun h1=>?_) (fun h1=>?_) <;> (repeat rw [Int.toNat_natCast] at h1) <;> conv=>whnf
   ·rw [if_neg h1] at hg
    exact⟨.tp [bA [], .v (.int .i64 6)],dkH d.req,nil_tp 6,⟨rfl,rfl,rfl,trivial⟩,rfl,⟨rfl,rfl⟩,by simp only [Dk.read,if_neg h0,hg],by simp only [Dk.read,if_neg h0]⟩
   ·refine Fn.closed (hcb) rfl ?_
    rintro _ rfl
    conv=>whnf
    conv=>whnf
    rw [if_pos h1] at hg
    exact⟨_,dkH d.req,fun _ _ h=>h,⟨rfl,rfl,rfl,trivial⟩,rfl,⟨rfl,rfl⟩,by simp only [Dk.read,if_neg h0,hg,bA],by simp only [Dk.read,if_neg h0]⟩
def Dk.write (d:Dk) (a:Int) (b:List UInt8):Dk × Int:=
 if d.left=0 then (d,8) else if (d.cells.getD a.toNat ⟨0, [], []⟩).state=2∨(2000:Int)≤d.cache.length then (d.req,7) else ({ d.req with cache:=d.cache ++ [⟨a,b⟩] },0)

set_option maxRecDepth 100000 in
theorem dwrite_fn (hcl:∀ b:List UInt8,b.length≤1000000000→Fn Tryz.prog 102 [bA b] fun r=>r=bA b) (d:Dk) (a:Int) (b:List UInt8) (hl : -1≤d.left∧d.left≤1048576) (ha:0≤a∧a<d.cells.length) (hc:d.cache.length≤2000) (hb:b.length≤100000) :
  ACalls Tryz.prog false 196 [.bp 0 0, .v (.int .i64 a),bA b] (dkH d) fun r H=>r = .v (.int .i64 (d.write a b).2)∧H=dkH (d.write a b).1:=by
 refine ACalls.ofO tys_ok Tryz.func196 rfl rfl (by show 3≤_;decide) ?_
 have hq:=request_fn d hl
 have hcb:=hcl b (by omega)
 conv=>whnf
 by_cases h0:d.left=0
 ·rw [if_pos h0] at hq
  refine hq.mono ?_
  rintro _ _ ⟨rfl,rfl⟩
  rw [show decide (d.left≠0)=false by simp [h0]]
  conv=>whnf
  exact⟨_,dkH d,fun _ _ h=>h,⟨rfl,rfl,rfl,trivial⟩,rfl,⟨rfl,rfl⟩,by simp only [Dk.write,if_pos h0],by simp only [Dk.write,if_pos h0]⟩
 ·rw [if_neg h0] at hq
  refine hq.mono ?_
  rintro _ _ ⟨rfl,rfl⟩
  rw [show decide (d.left≠0)=true by simp [h0]]
  have hgc:(d.cells.map celC).getD a.toNat []=celC (d.cells.getD a.toNat ⟨0, [], []⟩):=map_getD (by omega)
  have hgc':(d.req.cells.map celC).getD a.toNat []=celC (d.cells.getD a.toNat ⟨0, [], []⟩):=hgc
  conv=>whnf
  refine And.intro ha ?_
  conv=>whnf
  refine And.intro ⟨rfl,(List.length_map _).symm,show a.toNat<d.cells.length by omega⟩ ?_
  conv=>whnf
  first | rw [hgc] | rw [hgc']
  conv=>whnf
  refine boolI (fun h1=>?_) (fun h1=>?_) <;> (repeat rw [Int.toNat_natCast] at h1) <;> conv=>whnf
  ·exact⟨_,dkH d.req,fun _ _ h=>h,⟨rfl,rfl,rfl,trivial⟩,rfl,⟨rfl,rfl⟩,by simp only [Dk.write,if_neg h0,if_pos (Or.inl h1)],by simp only [Dk.write,if_neg h0,if_pos (Or.inl h1)]⟩
  ·by_cases h2:(2000:Int)≤d.cache.length
   ·rw [show decide ((d.req.cache.length:Int)≥2000)=true from decide_eq_true h2]
    conv=>whnf
    exact⟨_,dkH d.req,fun _ _ h=>h,⟨rfl,rfl,rfl,trivial⟩,rfl,⟨rfl,rfl⟩,by simp only [Dk.write,if_neg h0,if_pos (Or.inr h2)],by simp only [Dk.write,if_neg h0,if_pos (Or.inr h2)]⟩
   ·rw [show decide ((d.req.cache.length:Int)≥2000)=false from decide_eq_false h2]
    have hc':d.req.cache.length≤2000:=hc
    have h3:¬((d.cells.getD a.toNat ⟨0, [], []⟩).state=2∨(2000:Int)≤d.cache.length):=fun h=>h.elim h1 h2
    conv=>whnf
    apply aDraw.tree tys_ok mixed (.one 0 (.one 1 (.one 2 (.one 3 (.one 4 (.one 5 (.one 6 (.one 7 (.one 8 (.one 9 (.one 10 (.one 11 (.one 12 (.one 13 (.one 14 (.one 15 .fin)))))))))))))))) [31,32,33,34,35,36,37,38,39,40,41,42,43,44,45] (by kernel_rfl)
    ·conv=>whnf
     refine Fn.closed (hcb) rfl ?_
     rintro _ rfl
     conv=>whnf
     try (refine And.intro (by first | rfl | omega) ?_;conv=>whnf)
     try (refine And.intro (by first | omega | exact⟨by first | rfl | (simp;done) | (simp;omega),by omega⟩) ?_;conv=>whnf)
     try (refine And.intro ⟨rfl,by first | rfl | (simp;done) | (simp;omega),by first | omega | (simp;omega)⟩ ?_;conv=>whnf)
     exact⟨rfl,rfl⟩
    conv=>whnf
    have e:dkH { d.req with cache:=d.cache ++ [⟨a,b⟩] }=[.box 164 (dkX (.ow 1 d.cells.length) (.ow 2 (d.cache.length+1)) d.req.reqs d.req.left), .row 87 3 (d.cells.map celC), .row 130 2 (d.cache.map wrC ++ [wrC ⟨a,b⟩])]:=by
     unfold dkH
     simp only [List.length_append,List.length_singleton,List.map_append,List.map_cons,List.map_nil]
     rfl
    refine⟨_,dkH { d.req with cache:=d.cache ++ [⟨a,b⟩] },fun _ _ h=>h,?_,rfl,⟨rfl,rfl⟩,by simp only [Dk.write,if_neg h0,if_neg h3],by simp only [Dk.write,if_neg h0,if_neg h3]⟩
    rw [e]
    exact⟨rfl,rfl,rfl,trivial⟩
def cz:Cel:=⟨0, [], []⟩
def Dk.fin (d:Dk) (w:Wr):Dk:=
 if (d.cells.getD w.addr.toNat cz).state=2 then d else { d with cells:=d.cells.set w.addr.toNat ⟨0,w.bytes,(d.cells.getD w.addr.toNat cz).bytes⟩ }

set_option maxRecDepth 100000 in
theorem ddone_fn (d:Dk) (w:Wr) (ha:0≤w.addr∧w.addr<d.cells.length) :
  ACalls Tryz.prog false 98 [.bp 0 0, .ag (wrC w)] (dkH d) fun r H=>r = .tp []∧H=dkH (d.fin w):=by
 refine ACalls.ofO tys_ok Tryz.func98 rfl rfl (by show 2≤_;decide) ?_
 have hgc:(d.cells.map celC).getD w.addr.toNat []=celC (d.cells.getD w.addr.toNat cz):=map_getD (by omega)
 conv=>whnf
 refine aDraw.of tys_ok mixed [0,1,2,3,4,5,6,7,8] (by kernel_rfl) ?_
 conv=>whnf
 refine And.intro (show 0≤w.addr∧w.addr<d.cells.length from ha) ?_
 conv=>whnf
 refine And.intro ⟨rfl,(List.length_map _).symm,show w.addr.toNat<d.cells.length by omega⟩ ?_
 conv=>whnf
 rw [hgc]
 conv=>whnf
 refine boolI (fun h1=>?_) (fun h1=>?_) <;> (repeat rw [Int.toNat_natCast] at h1) <;> conv=>whnf
 ·refine aDraw.of tys_ok mixed [0,1,2,3,4,5,6,7,8,9] (by kernel_rfl) ?_
  conv=>whnf
  refine And.intro ⟨rfl,(List.length_map _).symm,show w.addr.toNat<d.cells.length by omega⟩ ?_
  conv=>whnf
  rw [hgc]
  conv=>whnf
  refine And.intro ⟨rfl,(List.length_map _).symm,show w.addr.toNat<d.cells.length by omega⟩ ?_
  conv=>whnf
  rw [hgc]
  conv=>whnf
  have hmem:w.addr.toNat<d.cells.length:=by omega
  refine⟨_,dkH { d with cells:=d.cells.set w.addr.toNat ⟨0,w.bytes,(d.cells.getD w.addr.toNat cz).bytes⟩ },fun _ _ h=>h,?_,rfl,⟨rfl,rfl⟩,rfl,by simp only [Dk.fin,if_neg h1]⟩
  have e:dkH { d with cells:=d.cells.set w.addr.toNat ⟨0,w.bytes,(d.cells.getD w.addr.toNat cz).bytes⟩ }=[.box 164 (dkX (.ow 1 d.cells.length) (.ow 2 d.cache.length) d.reqs d.left), .row 87 3 ((d.cells.map celC).set w.addr.toNat (celC ⟨0,w.bytes,(d.cells.getD w.addr.toNat cz).bytes⟩)), .row 130 2 (d.cache.map wrC)]:=by
   unfold dkH
   simp only [List.length_set,List.map_set]
  rw [e]
  exact⟨rfl,rfl,rfl,trivial⟩
 ·refine⟨_,dkH d,fun _ _ h=>h,⟨rfl,rfl,rfl,trivial⟩,rfl,⟨rfl,rfl⟩,rfl,by simp only [Dk.fin,if_pos h1]⟩
@[reducible] def dkF (d:Dk):List AB:= [.box 164 (dkX (.ow 1 d.cells.length) (.ow 3 0) d.reqs d.left), .row 87 3 (d.cells.map celC), .dead, .row 130 2 []]
def Dk.allFin (d:Dk) (l:List Wr):Dk:=l.foldl Dk.fin d
theorem fin_len (d:Dk) (w:Wr):(d.fin w).cells.length=d.cells.length:=by unfold Dk.fin;split <;> simp
theorem fin_cache (d:Dk) (w:Wr):(d.fin w).cache=d.cache∧(d.fin w).reqs=d.reqs∧(d.fin w).left=d.left:=by unfold Dk.fin;split <;> simp
theorem allFin_len (l:List Wr):∀ (d:Dk),(d.allFin l).cells.length=d.cells.length∧(d.allFin l).cache=d.cache∧(d.allFin l).reqs=d.reqs∧(d.allFin l).left=d.left:=by
 induction l with
 | nil=>intro d;exact⟨rfl,rfl,rfl,rfl⟩
 | cons w r ih=>
  intro d
  obtain⟨h1,h2,h3,h4⟩:=ih (d.fin w)
  have:=fin_cache d w
  exact⟨h1.trans (fin_len d w),h2.trans this.1,h3.trans this.2.1,h4.trans this.2.2⟩
theorem allFin_take (d:Dk) {l:List Wr} {k:Nat} (h:k<l.length):d.allFin (l.take (k+1))=(d.allFin (l.take k)).fin (l.getD k ⟨0, []⟩):=by
 unfold Dk.allFin
 rw [List.take_add_one,List.foldl_append,List.getElem?_eq_getElem h]
 simp [List.getD_eq_getElem?_getD,List.getElem?_eq_getElem h]
def Dk.flush (d:Dk):Dk:={ d.req.allFin d.cache with cache:= [] }

set_option maxRecDepth 100000 in
theorem dflush0_fn (d:Dk) (hl : -1≤d.left∧d.left≤1048576) (h0:d.left=0) :
  ACalls Tryz.prog false 146 [.bp 0 0] (dkH d) fun r H=>r = .v (.int .i64 8)∧H=dkH d:=by
 refine ACalls.ofW tys_ok Tryz.func146 rfl rfl (by show 1≤_;decide) ?_
 have hq:=request_fn d hl
 rw [if_pos h0,show decide (d.left≠0)=false by simp [h0]] at hq
 conv=>whnf
 refine hq.mono ?_
 rintro _ _ ⟨rfl,rfl⟩
 conv=>whnf
 exact⟨_,_,dkH d,fun _ _ h=>h,⟨[],trivial,⟨rfl,trivial⟩,⟨rfl,rfl,rfl,trivial⟩,rfl,rfl,rfl⟩,rfl,rfl⟩
set_option maxRecDepth 100000 in
theorem dflush_fn (d:Dk) (hl : -1≤d.left∧d.left≤1048576) (h0:d.left≠0) (hc:d.cache.length≤2000) (ha:∀ w∈d.cache,0≤w.addr∧w.addr<d.cells.length) :
  ACalls Tryz.prog false 146 [.bp 0 0] (dkH d) fun r H=>r = .v (.int .i64 0)∧H=dkF d.flush:=by
 refine ACalls.ofW tys_ok Tryz.func146 rfl rfl (by show 1≤_;decide) ?_
 have hq:=request_fn d hl
 rw [if_neg h0,show decide (d.left≠0)=true by simp [h0]] at hq
 conv=>whnf
 refine hq.mono ?_
 rintro _ _ ⟨rfl,rfl⟩
 conv=>whnf
 have hE:∀ i,i<d.cache.length→(d.cache.map wrC).getD i []=wrC (d.cache.getD i ⟨0, []⟩):=fun i hi=>map_getD hi
 refine aLoop.rule Nat (fun k=>([(0, .bp 0 0),(12, .ow 2 d.cache.length),(13, .v (.int .i64 d.cache.length)),(14, .v (.int .i64 k)),(2, .v (.int .i64 0))],dkH (d.req.allFin (d.cache.take k)))) (fun k=>k≤d.cache.length) (fun k=>d.cache.length - k) 0 (Nat.zero_le _) ⟨[],trivial,⟨rfl,rfl,rfl,rfl,rfl,trivial⟩,⟨rfl,rfl,rfl,trivial⟩,rfl,rfl,rfl⟩ ?_
 rintro k hk
 have hall:=allFin_len (d.cache.take k) d.req
 have hnext:k<d.cache.length→d.req.allFin (d.cache.take (k+1))=(d.req.allFin (d.cache.take k)).fin (d.cache.getD k ⟨0, []⟩):=fun h=>allFin_take d.req h
 have hlast:k=d.cache.length→d.flush={ d.req.allFin (d.cache.take k) with cache:= [] }:=fun h=>by rw [h,List.take_length];rfl
 generalize d.req.allFin (d.cache.take k)=X at hall hnext hlast ⊢
 obtain⟨xc,xw,xr,xl⟩:=X
 simp only at hall
 obtain⟨q1,q2,q3,q4⟩:=hall
 have q2:xw=d.cache:=q2
 subst q2
 have q1':xc.length=d.cells.length:=q1
 conv=>whnf
 refine boolI (fun h=>?_) (fun h=>?_) <;> (repeat rw [Int.toNat_natCast] at h) <;> conv=>whnf
 ·have hd:=ddone_fn ⟨xc,d.cache,xr,xl⟩ (d.cache.getD k ⟨0, []⟩) (by have:=ha _ (getD_mem (d:=⟨0, []⟩) (show k<d.cache.length by omega));show _∧_<((xc.length:Nat):Int);rw [q1'];exact this)
  refine And.intro ⟨by omega,by omega⟩ ?_
  conv=>whnf
  refine And.intro ⟨rfl,(List.length_map _).symm,by simpa using h⟩ ?_
  conv=>whnf
  rw [show ((k:Int)).toNat=k from Int.toNat_natCast k,hE k (by omega)]
  conv=>whnf
  refine ACalls.frame [0,1,2] hd rfl rfl rfl rfl (by decide) (lt012 rfl) ⟨rfl,rfl,rfl,trivial⟩ ?_
  rintro _ _ ⟨rfl,rfl⟩
  conv=>whnf
  refine⟨k+1,by omega,by omega, [],trivial,⟨rfl,rfl,rfl,wsucc (by omega),rfl,trivial⟩,?_,rfl,rfl,rfl⟩
  rw [hnext (by omega)]
  exact⟨rfl,rfl,rfl,trivial⟩
 ·conv=>whnf
  have ek:k=d.cache.length:=by omega
  rw [hlast ek]
  exact⟨.v (.int .i64 0), .v (.int .i64 0),dkF { cells:=xc,cache:= [],reqs:=xr,left:=xl },fun _ _ h=>h,⟨[(1000001,130,2)],⟨rfl,rfl,trivial⟩,⟨rfl,trivial⟩,⟨rfl,rfl,rfl,trivial⟩,rfl,rfl,rfl⟩,rfl,rfl⟩
theorem rput_br (l:List UInt8) (n m:Nat) (hl:l.length≤1000000) (hn:n≤4294967295) (hm:m≤4):Fn Tryz.prog 148 [bA l, .v (.int .i64 n), .v (.int .i64 m)] fun r=>r=bA (l ++ leB m n):=by
 refine⟨⟨_,Tryz.func148,rfl,by decide⟩,fun c0 us hd hM _ hr=>?_⟩
 simp only [RdL] at hr
 obtain⟨u1,_,rfl,h1,u2,_,rfl,h2,u3,_,rfl,h3,rfl⟩:=hr
 simp only [Rd] at h2 h3
 subst h2 h3
 refine(rput_any u1 l n m c0.w c0.M (toBytes h1) hl hn hm).mono ?_
 rintro e w' ⟨q,rfl,ho,hB⟩
 exact⟨_,_,rfl,rfl,hB,ofOwn ho hM⟩
theorem rput_int (l:List UInt8) (n:Int) (m:Nat) (hl:l.length≤1000000) (hn:0≤n∧n≤4294967295) (hm:m≤4):Fn Tryz.prog 148 [bA l, .v (.int .i64 n), .v (.int .i64 m)] fun r=>r=bA (l ++ leB m n.toNat):=by
 have:=rput_br l n.toNat m hl (by omega) hm
 rwa [Int.toNat_of_nonneg hn.1] at this
theorem ACalls.ofBytes1 {P:Program} {f:FuncId} {args:List AV} {l:List UInt8} (hg:IsGo P f)
  (h:∀ (c:Ctx) (us:List Value),RdL args c us→Calls P f us.toArray c.w fun e w'=>∃ r,e = .returned r∧OwR w' noM c.w.heap.size 5 r l∧Below c.w.heap.size c.w w') :
  ACalls P false f args [] fun r H=>r = .ow 0 l.length∧H=[.row 5 1 (l.map by1)]:=by
 refine⟨hg,fun w0 M0 c us hs hr=>(h c us hr).mono ?_⟩
 rintro e w' ⟨r,rfl,ho,hB⟩
 obtain⟨c',e1,e2,e3,e4⟩:=hs.bytes hB ho
 exact⟨_,c',_,_,rfl,e1,⟨rfl,rfl⟩,e2,e3,e4,fun h=>by cases h⟩
theorem rput_own (l:List UInt8) (n:Int) (m:Nat) (hl:l.length≤1000000) (hn:0≤n∧n≤4294967295) (hm:m≤4):ACalls Tryz.prog false 148 [bA l, .v (.int .i64 n), .v (.int .i64 m)] [] fun r H=>r = .ow 0 (l ++ leB m n.toNat).length∧H=[.row 5 1 ((l ++ leB m n.toNat).map by1)]:=by
 refine ACalls.ofBytes1 ⟨_,Tryz.func148,rfl,by decide⟩ fun c us hr=>?_
 simp only [RdL] at hr
 obtain⟨u1,_,rfl,h1,u2,_,rfl,h2,u3,_,rfl,h3,rfl⟩:=hr
 simp only [Rd] at h2 h3
 subst h2 h3
 have:=rput_any u1 l n.toNat m c.w c.M (toBytes h1) hl (by omega) hm
 rwa [Int.toNat_of_nonneg hn.1] at this
theorem rcellB_fn (addr stamp:Int) (p:List UInt8) (hok:okS addr stamp p):Fn Tryz.prog 84 [.v (.int .i64 addr), .v (.int .i64 stamp),bA p] fun r=>r=bA (sealB addr stamp p):=by
 obtain⟨q1,q2,q3,q4,q5⟩:=hok
 refine⟨⟨_,Tryz.func84,rfl,by decide⟩,fun c0 us hd hM _ hr=>?_⟩
 simp only [RdL] at hr
 obtain⟨u1,_,rfl,h1,u2,_,rfl,h2,u3,_,rfl,h3,rfl⟩:=hr
 simp only [Rd] at h1 h2
 subst h1 h2
 have h:=rcellB_any addr.toNat stamp.toNat u3 p c0.w c0.M (toBytes h3) (by omega) (by omega) q5
 rw [Int.toNat_of_nonneg q1,Int.toNat_of_nonneg q3] at h
 refine h.mono ?_
 rintro e w' ⟨q,rfl,ho,hB⟩
 exact⟨_,_,rfl,rfl,hB,ofOwn ho hM⟩
end Go.Proofs.YtldngmdpiifamaaGreatDoor.A
end
section
namespace Go.Proofs.YtldngmdpiifamaaGreatDoor
open Go.RowKit
attribute [local go_sem ↓] Go.wp_at_zero Go.wp_at_succ

def openE (b:List UInt8):Int:=
 if b.length<11∨107<b.length then 4
 else if leN (b.drop (b.length - 4))≠sumC (b.take (b.length - 4)) then 5
 else if partOk b=true∧partN b=b.length - 11 then 0 else 4
def secAddr (b:List UInt8):Int:=(leN ((b.drop (b.length - 10)).take 2):Nat)
def secStamp (b:List UInt8):Int:=(leN ((b.drop (b.length - 8)).take 4):Nat)
def secPay (b:List UInt8):List UInt8:=(b.drop 1).take (b.length - 11)
end Go.Proofs.YtldngmdpiifamaaGreatDoor
end
section
namespace Go.Proofs.YtldngmdpiifamaaGreatDoor.A
open Go.RowKit
def isOne (r:Rc) (a:An) (seq at_ of_ left:Int):Bool:=decide (r.kind≠0∧r.seq=seq∧r.at_=at_∧(of_=0→r.of_≤left)∧(of_≠0→r.of_=of_)∧(r.epoch=a.epoch∨seq≤a.last∧r.epoch≤a.epoch))
theorem is_fn (r:Rc) (a:An) (seq at_ of_ left:Int):Fn Tryz.prog 238 [.ag (rcC r), .ag (anC a), .v (.int .i64 seq), .v (.int .i64 at_), .v (.int .i64 of_), .v (.int .i64 left)] fun x=>x = .v (.bool (isOne r a seq at_ of_ left)):=by
 by_cases h1:(r.kind≠0∧r.seq=seq∧r.at_=at_∧(of_=0→r.of_≤left)∧(of_≠0→r.of_=of_)∧(r.epoch=a.epoch∨seq≤a.last∧r.epoch≤a.epoch))
 ·have e:isOne r a seq at_ of_ left=true:=decide_eq_true h1
  rw [e]
  refine Fn.of tys_ok Tryz.func238 rfl rfl (Nat.le_of_ble_eq_true rfl) ?_
  conv=>whnf
  repeat' (refine boolK_intro (fun h=>?_) (fun h=>?_) <;> simp at h <;> conv=>whnf)
  all_goals first | (exfalso;omega) | exact⟨_,fun _ _ h=>h,rfl⟩ | exact⟨_,fun _ _ h=>h,by simp;omega⟩
 ·have e:isOne r a seq at_ of_ left=false:=decide_eq_false h1
  rw [e]
  refine Fn.of tys_ok Tryz.func238 rfl rfl (Nat.le_of_ble_eq_true rfl) ?_
  conv=>whnf
  repeat' (refine boolK_intro (fun h=>?_) (fun h=>?_) <;> simp at h <;> conv=>whnf)
  all_goals first | (exfalso;omega) | exact⟨_,fun _ _ h=>h,rfl⟩ | exact⟨_,fun _ _ h=>h,by simp;omega⟩
theorem sumOf_fn (b:List UInt8):Fn Tryz.prog 132 [bA b] fun r=>r = .v (.int .i64 (sumC b:Nat)):=by
 refine⟨⟨_,Tryz.func132,rfl,by decide⟩,fun c0 us hd hM _ hr=>?_⟩
 obtain⟨u1,rfl,h1⟩:=rd1 hr
 refine(sumOf_any u1 b c0.w c0.M (toBytes h1)).mono ?_
 rintro e w' ⟨rfl,rfl⟩
 exact⟨_,_,rfl,rfl,Below.refl _ _,rd_v _⟩
theorem bytes_take_sub {b:List UInt8} {n k:Nat} (hn:n=k) (hk:k≤b.length) (c:Ctx) (u:Value) (h:Rd (.sl 1 n fun i=> [.v (.int .u8 (b.getD (i+0) 0).toNat)]) c u):Rd (bA (b.take k)) c u:=
 Rd.congr (by rw [List.length_take];omega) (fun i hi=>by rw [List.getD_eq_getElem?_getD,List.getD_eq_getElem?_getD,List.getElem?_take_of_lt (by omega),Nat.add_zero]) h
theorem sec_nil (e:Int) (c:Ctx) (v:Value) (h:Rd (.tp [.ag [.v (.int .i64 0), .v (.int .i64 0), .v (.slice none 0 0)], .v (.int .i64 e)]) c v):Rd (.tp [.ag (secC ⟨0,0, []⟩), .v (.int .i64 e)]) c v:=by
 have e1:SubL [.ag [.v (.int .i64 0), .v (.int .i64 0), .v (.slice none 0 0)], .v (.int .i64 e)] [.ag (secC ⟨0,0, []⟩), .v (.int .i64 e)]:=⟨ag_sub ⟨fun _ _ h=>h,fun _ _ h=>h,fun c u h=>nil_sl 1 _ c u h,trivial⟩,fun _ _ h=>h,trivial⟩
 simp only [Rd] at h ⊢
 obtain⟨xs,rfl,h⟩:=h
 exact⟨_,rfl,e1.rdl (c:=c) (xs:=xs) (by simpa only [RdL,Rd] using h)⟩
set_option maxRecDepth 100000 in
theorem sopen_fn (b:List UInt8) (hl:b.length≤100000):Fn Tryz.prog 208 [bA b] fun r=>r = .tp [.ag (if openE b=0 then secC ⟨secAddr b,secStamp b,secPay b⟩ else secC ⟨0,0, []⟩), .v (.int .i64 (openE b))]:=by
 have e4:IntKind.i64.wrap ((b.length:Int) - 4)=(b.length:Int) - 4:=IntWalk.i64_in _ (by omega)
 have e11:IntKind.i64.wrap ((b.length:Int) - 11)=(b.length:Int) - 11:=IntWalk.i64_in _ (by omega)
 have em:((b.length:Int) - 4).toNat=b.length - 4:=by omega
 by_cases hB:b.length<11∨107<b.length
 ·have hE:openE b=4:=by rw [openE,if_pos hB]
  rw [hE,if_neg (by decide)]
  refine Fn.of tys_ok Tryz.func208 rfl rfl (Nat.le_of_ble_eq_true rfl) ?_
  conv=>whnf
  refine boolI (fun h=>?_) (fun h=>?_) <;> conv=>whnf
  ·exact⟨_,sec_nil 4,rfl⟩
  refine boolI (fun h2=>?_) (fun h2=>?_) <;> conv=>whnf
  ·exact⟨_,sec_nil 4,rfl⟩
  ·exfalso;omega
 have hg:=get_yes (b.drop (b.length - 4)) 4 (.inr (.inr rfl)) (by rw [List.length_drop];omega) (by rw [List.length_drop];omega)
 rw [show (b.drop (b.length - 4)).take (4:Int).toNat=b.drop (b.length - 4) from List.take_of_length_le (by rw [List.length_drop];show _≤4;omega)] at hg
 have hs:=sumOf_fn (b.take (b.length - 4))
 by_cases hS:leN (b.drop (b.length - 4))=sumC (b.take (b.length - 4))
 ·cases hp:partOk b with
  | false=>
   have hE:openE b=4:=by rw [openE,if_neg hB,if_neg (fun h=>h hS),hp];rfl
   rw [hE,if_neg (by decide)]
   refine Fn.of tys_ok Tryz.func208 rfl rfl (Nat.le_of_ble_eq_true rfl) ?_
   conv=>whnf
   refine boolI (fun h=>?_) (fun h=>?_) <;> conv=>whnf
   ·exfalso;omega
   refine boolI (fun h=>?_) (fun h=>?_) <;> conv=>whnf
   ·exfalso;omega
   rw [e4]
   conv=>whnf
   refine And.intro (by omega) ?_
   conv=>whnf
   rw [em]
   refine ACalls.sub [bA (b.drop (b.length - 4)), .v (.int .i64 4)] ⟨drop_sub (by omega),fun _ _ h=>h,trivial⟩ ?_
   refine Fn.closed (hg) rfl ?_
   rintro _ rfl
   conv=>whnf
   refine And.intro (by omega) ?_
   conv=>whnf
   rw [em]
   refine ACalls.sub [bA (b.take (b.length - 4))] ⟨bytes_take_sub (by omega) (by omega),trivial⟩ ?_
   refine Fn.closed (hs) rfl ?_
   rintro _ rfl
   conv=>whnf
   refine boolI (fun h=>?_) (fun h=>?_) <;> conv=>whnf
   ·exfalso;omega
   refine Fn.closed (unpart_no b hp) rfl ?_
   rintro _ rfl
   conv=>whnf
   exact⟨_,sec_nil 4,rfl⟩
  | true=>
   have hpp:=hp
   simp only [partOk,decide_eq_true_eq] at hpp
   have hlen:((b.drop 1).take (partN b)).length=partN b:=by rw [List.length_take,List.length_drop];omega
   by_cases hn:partN b=b.length - 11
   ·have hE:openE b=0:=by rw [openE,if_neg hB,if_neg (fun h=>h hS),if_pos ⟨hp,hn⟩]
    have hu:=unrow_yes (b.drop (1+partN b)) [2,4] (fun s h=>by simp at h;rcases h with rfl | rfl;exact .inr (.inl rfl);exact .inr (.inr rfl)) (by rw [List.length_drop];omega) (by show 2≤1000;decide) (by rw [List.length_drop];show 6≤_;omega)
    have hnum:nums [2,4] (b.drop (1+partN b))=[secAddr b,secStamp b]:=by
     rw [secAddr,secStamp,show b.length - 10=1+partN b by omega,show b.length - 8=(1+partN b)+2 by omega,show b.drop ((1+partN b)+2)=(b.drop (1+partN b)).drop 2 by rw [List.drop_drop]]
     rfl
    rw [hnum] at hu
    have hpay:secPay b=(b.drop 1).take (partN b):=by rw [secPay,hn]
    rw [hE,if_pos rfl,hpay]
    refine Fn.of tys_ok Tryz.func208 rfl rfl (Nat.le_of_ble_eq_true rfl) ?_
    conv=>whnf
    refine boolI (fun h=>?_) (fun h=>?_) <;> conv=>whnf
    ·exfalso;omega
    refine boolI (fun h=>?_) (fun h=>?_) <;> conv=>whnf
    ·exfalso;omega
    rw [e4]
    conv=>whnf
    refine And.intro (by omega) ?_
    conv=>whnf
    rw [em]
    refine ACalls.sub [bA (b.drop (b.length - 4)), .v (.int .i64 4)] ⟨drop_sub (by omega),fun _ _ h=>h,trivial⟩ ?_
    refine Fn.closed (hg) rfl ?_
    rintro _ rfl
    conv=>whnf
    refine And.intro (by omega) ?_
    conv=>whnf
    rw [em]
    refine ACalls.sub [bA (b.take (b.length - 4))] ⟨bytes_take_sub (by omega) (by omega),trivial⟩ ?_
    refine Fn.closed (hs) rfl ?_
    rintro _ rfl
    conv=>whnf
    refine boolI (fun h=>?_) (fun h=>?_) <;> conv=>whnf
    ·exfalso;omega
    refine Fn.closed (unpart_yes b (by omega) hp) rfl ?_
    rintro _ rfl
    conv=>whnf
    rw [e11]
    refine boolI (fun h=>?_) (fun h=>?_) <;> conv=>whnf
    ·exfalso;omega
    refine ACalls.shut hu.go ?_
    conv=>whnf
    refine And.intro rfl ?_
    conv=>whnf
    refine ACalls.sub [bA (b.drop (1+partN b)),iA [2,4]] ⟨fun _ _ h=>h,(lit_ints (l:= [2,4]) rfl).1,trivial⟩ ?_
    refine ACalls.beside (hu) rfl ?_
    rintro _ _ ⟨rfl,rfl⟩
    conv=>whnf
    refine aDraw.of tys_ok mixed [0,1,2,3,4,5,6,7,8,9] (by kernel_rfl) ?_
    conv=>whnf
    refine And.intro ⟨by decide,by decide⟩ ?_
    conv=>whnf
    refine And.intro ⟨rfl,rfl,by decide⟩ ?_
    conv=>whnf
    refine And.intro ⟨by decide,by decide⟩ ?_
    conv=>whnf
    refine And.intro ⟨rfl,rfl,by decide⟩ ?_
    conv=>whnf
    exact⟨_,fun _ _ h=>h,rfl⟩
   ·have hE:openE b=4:=by rw [openE,if_neg hB,if_neg (fun h=>h hS),if_neg (fun h=>hn h.2)]
    rw [hE,if_neg (by decide)]
    refine Fn.of tys_ok Tryz.func208 rfl rfl (Nat.le_of_ble_eq_true rfl) ?_
    conv=>whnf
    refine boolI (fun h=>?_) (fun h=>?_) <;> conv=>whnf
    ·exfalso;omega
    refine boolI (fun h=>?_) (fun h=>?_) <;> conv=>whnf
    ·exfalso;omega
    rw [e4]
    conv=>whnf
    refine And.intro (by omega) ?_
    conv=>whnf
    rw [em]
    refine ACalls.sub [bA (b.drop (b.length - 4)), .v (.int .i64 4)] ⟨drop_sub (by omega),fun _ _ h=>h,trivial⟩ ?_
    refine Fn.closed (hg) rfl ?_
    rintro _ rfl
    conv=>whnf
    refine And.intro (by omega) ?_
    conv=>whnf
    rw [em]
    refine ACalls.sub [bA (b.take (b.length - 4))] ⟨bytes_take_sub (by omega) (by omega),trivial⟩ ?_
    refine Fn.closed (hs) rfl ?_
    rintro _ rfl
    conv=>whnf
    refine boolI (fun h=>?_) (fun h=>?_) <;> conv=>whnf
    ·exfalso;omega
    refine Fn.closed (unpart_yes b (by omega) hp) rfl ?_
    rintro _ rfl
    conv=>whnf
    rw [e11]
    refine boolI (fun h=>?_) (fun h=>?_) <;> conv=>whnf
    ·exact⟨_,sec_nil 4,rfl⟩
    ·exfalso;omega
 ·have hE:openE b=5:=by rw [openE,if_neg hB,if_pos hS]
  rw [hE,if_neg (by decide)]
  refine Fn.of tys_ok Tryz.func208 rfl rfl (Nat.le_of_ble_eq_true rfl) ?_
  conv=>whnf
  refine boolI (fun h=>?_) (fun h=>?_) <;> conv=>whnf
  ·exfalso;omega
  refine boolI (fun h=>?_) (fun h=>?_) <;> conv=>whnf
  ·exfalso;omega
  rw [e4]
  conv=>whnf
  refine And.intro (by omega) ?_
  conv=>whnf
  rw [em]
  refine ACalls.sub [bA (b.drop (b.length - 4)), .v (.int .i64 4)] ⟨drop_sub (by omega),fun _ _ h=>h,trivial⟩ ?_
  refine Fn.closed (hg) rfl ?_
  rintro _ rfl
  conv=>whnf
  refine And.intro (by omega) ?_
  conv=>whnf
  rw [em]
  refine ACalls.sub [bA (b.take (b.length - 4))] ⟨bytes_take_sub (by omega) (by omega),trivial⟩ ?_
  refine Fn.closed (hs) rfl ?_
  rintro _ rfl
  conv=>whnf
  refine boolI (fun h=>?_) (fun h=>?_) <;> conv=>whnf
  ·exact⟨_,sec_nil 5,rfl⟩
  ·exfalso;omega
theorem rc_nil (k s e a o z w err:Int) (c:Ctx) (v:Value) (h:Rd (.tp [.ag [.v (.int .i64 k), .v (.int .i64 s), .v (.int .i64 e), .v (.int .i64 a), .v (.int .i64 o), .v (.int .i64 z), .v (.int .i64 w), .v (.slice none 0 0)], .v (.int .i64 err)]) c v) :
  Rd (.tp [.ag (rcC ⟨k,s,e,a,o,⟨z,w, []⟩⟩), .v (.int .i64 err)]) c v:=by
 have e1:SubL [.ag [.v (.int .i64 k), .v (.int .i64 s), .v (.int .i64 e), .v (.int .i64 a), .v (.int .i64 o), .v (.int .i64 z), .v (.int .i64 w), .v (.slice none 0 0)], .v (.int .i64 err)] [.ag (rcC ⟨k,s,e,a,o,⟨z,w, []⟩⟩), .v (.int .i64 err)]:=
  ⟨ag_sub ⟨fun _ _ h=>h,fun _ _ h=>h,fun _ _ h=>h,fun _ _ h=>h,fun _ _ h=>h,fun _ _ h=>h,fun _ _ h=>h,fun c u h=>nil_sl 1 _ c u h,trivial⟩,fun _ _ h=>h,trivial⟩
 simp only [Rd] at h ⊢
 obtain⟨xs,rfl,h⟩:=h
 have:=e1.rdl (c:=c) (xs:=xs) (by simpa only [RdL,Rd] using h)
 exact⟨_,rfl,this⟩
theorem szR_ok:∀ s∈szR,szOk s:=by decide
set_option maxRecDepth 100000 in
theorem recread_fn (g:Geo) (b:List UInt8) (hl:b.length≤100000):Fn Tryz.prog 240 [.ag (geoC g),bA b] fun r=>r = .tp [.ag (rcC (if okG g then (readR g b).getD zeroC else zeroC)), .v (.int .i64 (readE g b))]:=by
 have hG:Fn Tryz.prog 46 [.ag (geoC g)] fun r=>r = .v (errV (okG g)):=gcheck_fn g.z g.d g.sp g.sl g.an
 cases hg:okG g with
 | false=>
  rw [hg] at hG
  rw [show readE g b=1 by rw [readE,if_pos hg]]
  refine Fn.of tys_ok Tryz.func240 rfl rfl (Nat.le_of_ble_eq_true rfl) ?_
  conv=>whnf
  refine Fn.closed (hG) rfl ?_
  rintro _ rfl
  conv=>whnf
  exact⟨_,rc_nil _ _ _ _ _ _ _ _,rfl⟩
 | true=>
  rw [hg] at hG
  by_cases h11:11≤b.length
  ·have hu:=unrow_yes b szR szR_ok (by omega) (by show 5≤1000;decide) (show 11≤b.length from h11)
   obtain⟨K,S,E,A,O,hn,hP⟩:=nums5 b
   rw [hn] at hu
   refine Fn.of tys_ok Tryz.func240 rfl rfl (Nat.le_of_ble_eq_true rfl) ?_
   conv=>whnf
   refine Fn.closed (hG) rfl ?_
   rintro _ rfl
   conv=>whnf
   refine ACalls.beside (sizes_own) rfl ?_
   rintro _ _ ⟨rfl,rfl⟩
   conv=>whnf
   refine ACalls.shut hu.go ?_
   conv=>whnf
   refine And.intro rfl ?_
   conv=>whnf
   refine ACalls.sub [bA b,iA szR] ⟨fun _ _ h=>h,(lit_ints (l:=szR) rfl).1,trivial⟩ ?_
   refine ACalls.beside (hu) rfl ?_
   rintro _ _ ⟨rfl,rfl⟩
   conv=>whnf
   refine aDraw.of tys_ok mixed [0,1,2,3,4,5,6,7,8,9,10,11,12,13,14,15,16,17] (by kernel_rfl) ?_
   conv=>whnf
   refine And.intro ⟨by decide,by decide⟩ ?_
   conv=>whnf
   refine And.intro ⟨rfl,rfl,by decide⟩ ?_
   conv=>whnf
   refine And.intro ⟨by decide,by decide⟩ ?_
   conv=>whnf
   refine And.intro ⟨rfl,rfl,by decide⟩ ?_
   conv=>whnf
   refine And.intro ⟨by decide,by decide⟩ ?_
   conv=>whnf
   refine And.intro ⟨rfl,rfl,by decide⟩ ?_
   conv=>whnf
   refine And.intro ⟨by decide,by decide⟩ ?_
   conv=>whnf
   refine And.intro ⟨rfl,rfl,by decide⟩ ?_
   conv=>whnf
   refine And.intro ⟨by decide,by decide⟩ ?_
   conv=>whnf
   refine And.intro ⟨rfl,rfl,by decide⟩ ?_
   conv=>whnf
   refine aSeq.go ?_
   conv=>whnf
   refine boolI (fun h=>?_) (fun h=>?_) <;> conv=>whnf
   ·have hP1:parseR b=⟨K,S,E,A,O,imgOf (b.drop 11)⟩:=by rw [hP,if_pos h]
    cases hs:shownOk (b.drop 11) with
    | true=>
     have hb:=rbytes_fn g ⟨K,S,E,A,O,imgOf (b.drop 11)⟩ (by have:=imgOf_len (b.drop 11);rw [List.length_drop] at this;show (imgOf (b.drop 11)).bytes.length≤_;omega)
     have hq:=equal_fn (recB ⟨K,S,E,A,O,imgOf (b.drop 11)⟩) b
     have hRR:readR g b=if okR g ⟨K,S,E,A,O,imgOf (b.drop 11)⟩=true∧recB ⟨K,S,E,A,O,imgOf (b.drop 11)⟩=b then some ⟨K,S,E,A,O,imgOf (b.drop 11)⟩ else none:=by
      rw [readR,hP1];simp [h11,hs]
     refine Fn.closed (shown_yes (b.drop 11) (by rw [List.length_drop];omega) hs) rfl ?_
     rintro _ rfl
     conv=>whnf
     cases hok:okR g ⟨K,S,E,A,O,imgOf (b.drop 11)⟩ with
     | false=>
      rw [hok] at hb
      have hN:readR g b=none:=by rw [hRR,if_neg (fun h=>by rw [hok] at h;cases h.1)]
      rw [show readE g b=4 by rw [readE,if_neg (by rw [hg];decide),hN];rfl,hN]
      refine Fn.closed (hb) rfl ?_
      rintro _ rfl
      conv=>whnf
      exact⟨_,rc_nil _ _ _ _ _ _ _ _,rfl⟩
     | true=>
      rw [hok] at hb
      by_cases he:recB ⟨K,S,E,A,O,imgOf (b.drop 11)⟩=b
      ·have hN:readR g b=some ⟨K,S,E,A,O,imgOf (b.drop 11)⟩:=by rw [hRR,if_pos ⟨hok,he⟩]
       rw [show readE g b=0 by rw [readE,if_neg (by rw [hg];decide),hN];rfl,hN]
       rw [decide_eq_true he] at hq
       refine Fn.closed (hb) rfl ?_
       rintro _ rfl
       conv=>whnf
       refine Fn.closed (hq) rfl ?_
       rintro _ rfl
       conv=>whnf
       exact⟨_,fun _ _ h=>h,rfl⟩
      ·have hN:readR g b=none:=by rw [hRR,if_neg (fun h=>he h.2)]
       rw [show readE g b=4 by rw [readE,if_neg (by rw [hg];decide),hN];rfl,hN]
       rw [decide_eq_false he] at hq
       refine Fn.closed (hb) rfl ?_
       rintro _ rfl
       conv=>whnf
       refine Fn.closed (hq) rfl ?_
       rintro _ rfl
       conv=>whnf
       exact⟨_,rc_nil _ _ _ _ _ _ _ _,rfl⟩
    | false=>
     obtain⟨x,hx,hf⟩:=shown_no (b.drop 11) (by rw [List.length_drop];omega) hs
     have hN:readR g b=none:=by rw [readR,if_neg (fun hh=>by have:=hh.2.1 (by rw [hP1];exact h);rw [hs] at this;cases this)]
     rw [show readE g b=4 by rw [readE,if_neg (by rw [hg];decide),hN];rfl,hN]
     have hb:=rbytes_fn g ⟨K,S,E,A,O,x⟩ (by show x.bytes.length≤_;rw [hx];decide)
     cases hok:okR g ⟨K,S,E,A,O,x⟩ <;> rw [hok] at hb
     all_goals
      refine Fn.closed (hf) rfl ?_
      rintro _ rfl
      conv=>whnf
      refine Fn.closed (hb) rfl ?_
      rintro _ rfl
      conv=>whnf
      exact⟨_,rc_nil _ _ _ _ _ _ _ _,rfl⟩
   ·have hP1:parseR b=⟨K,S,E,A,O,noImg⟩:=by rw [hP,if_neg h]
    have hb:=rbytes_fn g ⟨K,S,E,A,O,noImg⟩ (by show 0≤100000;decide)
    have hq:=equal_fn (recB ⟨K,S,E,A,O,noImg⟩) b
    have hRR:readR g b=if okR g ⟨K,S,E,A,O,noImg⟩=true∧recB ⟨K,S,E,A,O,noImg⟩=b then some ⟨K,S,E,A,O,noImg⟩ else none:=by
     rw [readR,hP1];simp [h11,h]
    refine ACalls.sub [.ag (geoC g), .ag (rcC ⟨K,S,E,A,O,noImg⟩)] ⟨fun _ _ h=>h,ag_sub ⟨fun _ _ h=>h,fun _ _ h=>h,fun _ _ h=>h,fun _ _ h=>h,fun _ _ h=>h,fun _ _ h=>h,fun _ _ h=>h,fun c u h=>nil_sl 1 _ c u h,trivial⟩,trivial⟩ ?_
    cases hok:okR g ⟨K,S,E,A,O,noImg⟩ with
    | false=>
     rw [hok] at hb
     have hN:readR g b=none:=by rw [hRR,if_neg (fun h=>by rw [hok] at h;cases h.1)]
     rw [show readE g b=4 by rw [readE,if_neg (by rw [hg];decide),hN];rfl,hN]
     refine Fn.closed (hb) rfl ?_
     rintro _ rfl
     conv=>whnf
     exact⟨_,rc_nil _ _ _ _ _ _ _ _,rfl⟩
    | true=>
     rw [hok] at hb
     by_cases he:recB ⟨K,S,E,A,O,noImg⟩=b
     ·have hN:readR g b=some ⟨K,S,E,A,O,noImg⟩:=by rw [hRR,if_pos ⟨hok,he⟩]
      rw [show readE g b=0 by rw [readE,if_neg (by rw [hg];decide),hN];rfl,hN]
      rw [decide_eq_true he] at hq
      refine Fn.closed (hb) rfl ?_
      rintro _ rfl
      conv=>whnf
      refine Fn.closed (hq) rfl ?_
      rintro _ rfl
      conv=>whnf
      exact⟨_,rc_nil _ _ _ _ _ _ _ _,rfl⟩
     ·have hN:readR g b=none:=by rw [hRR,if_neg (fun h=>he h.2)]
      rw [show readE g b=4 by rw [readE,if_neg (by rw [hg];decide),hN];rfl,hN]
      rw [decide_eq_false he] at hq
      refine Fn.closed (hb) rfl ?_
      rintro _ rfl
      conv=>whnf
      refine Fn.closed (hq) rfl ?_
      rintro _ rfl
      conv=>whnf
      exact⟨_,rc_nil _ _ _ _ _ _ _ _,rfl⟩
  ·have hu:=unrow_no b szR szR_ok (by omega) (by show 5≤1000;decide) (show b.length<11 by omega)
   have hr:readR g b=none:=by rw [readR,if_neg (fun h=>h11 h.1)]
   rw [show readE g b=4 by rw [readE,if_neg (by rw [hg];decide),hr];rfl,hr]
   refine Fn.of tys_ok Tryz.func240 rfl rfl (Nat.le_of_ble_eq_true rfl) ?_
   conv=>whnf
   refine Fn.closed (hG) rfl ?_
   rintro _ rfl
   conv=>whnf
   refine ACalls.beside (sizes_own) rfl ?_
   rintro _ _ ⟨rfl,rfl⟩
   conv=>whnf
   refine ACalls.shut hu.go ?_
   conv=>whnf
   refine And.intro rfl ?_
   conv=>whnf
   refine ACalls.sub [bA b,iA szR] ⟨fun _ _ h=>h,(lit_ints (l:=szR) rfl).1,trivial⟩ ?_
   refine Fn.closed (hu) rfl ?_
   rintro _ rfl
   conv=>whnf
   exact⟨_,rc_nil _ _ _ _ _ _ _ _,rfl⟩
theorem gin_fn (n lo hi:Int):Fn Tryz.prog 108 [.v (.int .i64 n), .v (.int .i64 lo), .v (.int .i64 hi)] fun r=>r = .v (.bool (inB n lo hi)):=by
 refine Fn.of tys_ok Tryz.func108 rfl rfl (Nat.le_of_ble_eq_true rfl) ?_
 conv=>whnf
 repeat' (first | (refine boolK_intro (fun h=>?_) (fun h=>?_) <;> (try simp at h) <;> conv=>whnf) | (refine aDraw.seq tys_ok mixed (by kernel_rfl) ?_;conv=>whnf) | (refine aSeq.go ?_;conv=>whnf) | (refine And.intro (by omega) ?_;conv=>whnf))
 all_goals exact⟨_,fun _ _ h=>h,by simp [inB, *] <;> omega⟩
theorem told_fn (g:Geo) (n:Int) (b:Bool):Fn Tryz.prog 128 [.ag (geoC g), .v (.int .i64 n), .v (.bool b)] fun r=>r = .tp [.v (.int .i64 (if okG g&&b then n else 0)), .v (.int .i64 (if okG g&&b then 0 else 1))]:=by
 have s1:Fn Tryz.prog 46 [.ag (geoC g)] fun r=>r = .v (errV (okG g)):=gcheck_fn g.z g.d g.sp g.sl g.an
 cases hg:okG g <;> cases b
 all_goals
  rw [hg] at s1
  refine Fn.of tys_ok Tryz.func128 rfl rfl (Nat.le_of_ble_eq_true rfl) ?_
  conv=>whnf
  refine Fn.closed (s1) rfl ?_
  rintro _ rfl
  conv=>whnf
  exact⟨_,fun _ _ h=>h,rfl⟩
theorem log_fn (g:Geo) (copy slot:Int):Fn Tryz.prog 68 [.ag (geoC g), .v (.int .i64 copy), .v (.int .i64 slot)] fun r=>r = .tp [.v (.int .i64 (if okG g&&okL g copy slot then logAt g copy slot else 0)), .v (.int .i64 (if okG g&&okL g copy slot then 0 else 1))]:=by
 refine Fn.of tys_ok Tryz.func68 rfl rfl (Nat.le_of_ble_eq_true rfl) ?_
 conv=>whnf
 refine aDraw.of tys_ok mixed [0,1,2,3,4,5,6,7,8,9,10,11,12,13,14,15,16,17,18,19,20,21,22,23] (by kernel_rfl) ?_
 conv=>whnf
 refine Fn.closed (gin_fn _ _ _) rfl ?_
 rintro _ rfl
 conv=>whnf
 refine boolK_intro (fun t1=>?_) (fun t1=>?_) <;> conv=>whnf
 ·refine Fn.closed (gin_fn _ _ _) rfl ?_
  rintro _ rfl
  conv=>whnf
  refine Fn.closed (told_fn g _ _) rfl ?_
  rintro _ rfl
  conv=>whnf
  refine⟨_,fun _ _ h=>h,?_⟩
  cases hg:okG g with
  | false=>rfl
  | true=>
   obtain⟨h1,h2,h3,h4,h5⟩:=okG_iff.1 hg
   rw [wi (n:=g.sl - 1) (by omega)]
   have e:okL g copy slot=inB slot 0 (g.sl - 1):=by rw [okL,t1];rfl
   rw [e]
   cases hb:inB slot 0 (g.sl - 1) with
   | false=>rfl
   | true=>
    obtain⟨c1,c2⟩:=inB_iff.1 t1
    obtain⟨b1,b2⟩:=inB_iff.1 hb
    have hm:0≤copy*g.sl∧copy*g.sl≤30:=by
     rcases(show copy=0∨copy=1 by omega) with rfl | rfl
     ·omega
     ·omega
    rw [wi (n:=copy*g.sl) (by omega),wi (n:=g.an+copy*g.sl) (by omega),wi (n:=g.an+copy*g.sl+slot) (by omega)]
    rfl
 ·refine Fn.closed (told_fn g _ _) rfl ?_
  rintro _ rfl
  conv=>whnf
  refine⟨_,fun _ _ h=>h,?_⟩
  have e:okL g copy slot=false:=by rw [okL,t1];rfl
  rw [e]
  cases okG g <;> rfl
def saysR (g:Geo) (x:Gt) (copy slot:Int):Option Rc:=
 if okG g&&okL g copy slot&&decide (x.err=0)&&decide (openE x.bytes=0)&&decide (secAddr x.bytes=logAt g copy slot) then
  match readR g (secPay x.bytes) with
  | some r=>if r.seq=secStamp x.bytes then some r else none
  | none=>none
 else none
theorem tp_sub {l m:List AV} (h:SubL l m) (c:Ctx) (u:Value) (hr:Rd (.tp l) c u):Rd (.tp m) c u:=by
 simp only [Rd] at hr ⊢
 obtain⟨xs,rfl,h1⟩:=hr
 exact⟨xs,rfl,h.rdl h1⟩
theorem zrec_sub (c:Ctx) (u:Value) (b:Bool) (h:Rd (.tp [.ag [.v (.int .i64 0), .v (.int .i64 0), .v (.int .i64 0), .v (.int .i64 0), .v (.int .i64 0), .v (.int .i64 0), .v (.int .i64 0), .v (.slice none 0 0)], .v (.bool b)]) c u):Rd (.tp [.ag (rcC zeroC), .v (.bool b)]) c u:=by
 refine tp_sub ?_ c u h
 exact⟨ag_sub ⟨fun _ _ h=>h,fun _ _ h=>h,fun _ _ h=>h,fun _ _ h=>h,fun _ _ h=>h,fun _ _ h=>h,fun _ _ h=>h,nil_sl _ _,trivial⟩,fun _ _ h=>h,trivial⟩
theorem says_fn (g:Geo) (x:Gt) (copy slot:Int) (hl:x.bytes.length≤100000):Fn Tryz.prog 237 [.ag (geoC g), .ag (gotC x), .v (.int .i64 copy), .v (.int .i64 slot)] fun r=>r = .tp [.ag (rcC ((saysR g x copy slot).getD zeroC)), .v (.bool (saysR g x copy slot).isSome)]:=by
 have s1:=log_fn g copy slot
 have s2:=sopen_fn x.bytes hl
 cases hQ:okG g&&okL g copy slot with
 | false=>
  have e:saysR g x copy slot=none:=by rw [saysR,hQ];rfl
  rw [hQ] at s1
  rw [e]
  refine Fn.of tys_ok Tryz.func237 rfl rfl (Nat.le_of_ble_eq_true rfl) ?_
  conv=>whnf
  refine Fn.closed (s1) rfl ?_
  rintro _ rfl
  conv=>whnf
  exact⟨_,fun c v h=>zrec_sub c v false h,rfl⟩
 | true=>
  rw [hQ] at s1
  have hg:okG g=true:=by simp at hQ;exact hQ.1
  by_cases hO:openE x.bytes=0
  ·rw [if_pos hO,hO] at s2
   have s3:=recread_fn g (secPay x.bytes) (by simp [secPay];omega)
   rw [hg,if_pos rfl] at s3
   refine Fn.of tys_ok Tryz.func237 rfl rfl (Nat.le_of_ble_eq_true rfl) ?_
   conv=>whnf
   refine Fn.closed (s1) rfl ?_
   rintro _ rfl
   conv=>whnf
   refine boolK_intro (fun t1=>?_) (fun t1=>?_) <;> simp only [bne_iff_ne,ne_eq,bne_eq_false_iff_eq] at t1 <;> conv=>whnf
   ·have e:saysR g x copy slot=none:=by rw [saysR,decide_eq_false t1];simp
    exact⟨_,fun c v h=>zrec_sub c v false h,by rw [e];rfl⟩
   refine Fn.closed (s2) rfl ?_
   rintro _ rfl
   conv=>whnf
   refine boolK_intro (fun t2=>?_) (fun t2=>?_) <;> simp only [bne_iff_ne,ne_eq,bne_eq_false_iff_eq,if_true] at t2 <;> conv=>whnf
   ·have e:saysR g x copy slot=none:=by rw [saysR,decide_eq_false (p:=secAddr x.bytes=logAt g copy slot) t2];simp
    exact⟨_,fun c v h=>zrec_sub c v false h,by rw [e];rfl⟩
   have es:saysR g x copy slot=match readR g (secPay x.bytes) with | some r=>if r.seq=secStamp x.bytes then some r else none | none=>none:=by
    rw [saysR,hQ,decide_eq_true t1,decide_eq_true hO,decide_eq_true (p:=secAddr x.bytes=logAt g copy slot) t2];rfl
   cases hR:readR g (secPay x.bytes) with
   | none=>
    rw [hR] at s3 es
    have e4:readE g (secPay x.bytes)=4:=by simp [readE,hg,hR]
    rw [e4] at s3
    refine Fn.closed (s3) rfl ?_
    rintro _ rfl
    conv=>whnf
    exact⟨_,fun c v h=>zrec_sub c v false h,by rw [es];rfl⟩
   | some r=>
    rw [hR] at s3 es
    have e4:readE g (secPay x.bytes)=0:=by simp [readE,hg,hR]
    rw [e4] at s3
    refine Fn.closed (s3) rfl ?_
    rintro _ rfl
    conv=>whnf
    refine boolK_intro (fun t3=>?_) (fun t3=>?_) <;> simp only [bne_iff_ne,ne_eq,bne_eq_false_iff_eq,Option.getD_some] at t3 <;> conv=>whnf
    ·exact⟨_,fun c v h=>zrec_sub c v false h,by rw [es];simp only [if_neg t3];rfl⟩
    ·exact⟨_,fun _ _ h=>h,by rw [es];simp only [if_pos t3];rfl⟩
  ·have e:saysR g x copy slot=none:=by rw [saysR,decide_eq_false hO];simp
   rw [if_neg hO] at s2
   rw [e]
   refine Fn.of tys_ok Tryz.func237 rfl rfl (Nat.le_of_ble_eq_true rfl) ?_
   conv=>whnf
   refine Fn.closed (s1) rfl ?_
   rintro _ rfl
   conv=>whnf
   refine boolK_intro (fun t1=>?_) (fun t1=>?_) <;> conv=>whnf
   ·exact⟨_,fun c v h=>zrec_sub c v false h,rfl⟩
   refine Fn.closed (s2) rfl ?_
   rintro _ rfl
   conv=>whnf
   refine boolK_intro (fun t2=>?_) (fun t2=>?_) <;> simp only [bne_iff_ne,ne_eq,bne_eq_false_iff_eq] at t2 <;> conv=>whnf
   ·exact⟨_,fun c v h=>zrec_sub c v false h,rfl⟩
   ·exact absurd t2 hO
theorem smake_fn (addr stamp:Int) (p:List UInt8) (hok:okS addr stamp p):Fn Tryz.prog 73 [.ag [.v (.int .i64 addr), .v (.int .i64 stamp),bA p]] fun r=>r = .tp [bA (sealB addr stamp p), .v (.int .i64 0)]:=by
 refine⟨⟨_,Tryz.func73,rfl,by decide⟩,fun c0 us hd hM _ hr=>?_⟩
 obtain⟨u,rfl,h⟩:=rd1 hr
 simp only [Rd,RdL] at h
 obtain⟨xs,rfl,a,_,rfl,rfl,b,_,rfl,rfl,d,_,rfl,h3,rfl⟩:=h
 refine(make_any addr stamp d p c0.w c0.M (toBytes (by simpa only [Rd,bA] using h3)) hok).mono ?_
 rintro e w' ⟨q,rfl,ho,hB⟩
 exact⟨_,_,rfl,rfl,hB,of_tp2 (ofOwn ho hM) (rd_v _)⟩
set_option maxRecDepth 100000 in
theorem rcell_fn (g:Geo) (x:Rc) (copy slot:Int) (hl:x.img.bytes.length≤100000):Fn Tryz.prog 69 [.ag (geoC g), .ag (rcC x), .v (.int .i64 copy), .v (.int .i64 slot)] fun r=>r = .tp [bA (if okR g x&&okL g copy slot then cellB g x copy slot else []), .v (errV (okR g x&&okL g copy slot))]:=by
 have hb:=rbytes_fn g x hl
 have hL:=log_fn g copy slot
 have no:∀ (c:Ctx) (v:Value),Rd (.tp [.v (.slice none 0 0), .v (.int .i64 1)]) c v→Rd (.tp [bA [], .v (.int .i64 1)]) c v:=fun c v h=>by
  simp only [Rd,RdL] at h ⊢
  obtain⟨xs,rfl,y,ys,rfl,rfl,h⟩:=h
  exact⟨_,rfl,_,_,rfl,nil_sl 1 (fun i=> [.v (.int .u8 (([]:List UInt8).getD i 0).toNat)]) c (.slice none 0 0) (by simp [Rd]),h⟩
 cases hok:okR g x with
 | false=>
  rw [hok] at hb
  refine Fn.of tys_ok Tryz.func69 rfl rfl (Nat.le_of_ble_eq_true rfl) ?_
  conv=>whnf
  refine Fn.closed (hb) rfl ?_
  rintro _ rfl
  conv=>whnf
  exact⟨_,no,rfl⟩
 | true=>
  have hg:okG g=true:=by simp only [okR,Bool.and_eq_true] at hok;exact hok.1
  rw [hok] at hb
  rw [hg] at hL
  cases hl2:okL g copy slot with
  | false=>
   rw [hl2] at hL
   refine Fn.of tys_ok Tryz.func69 rfl rfl (Nat.le_of_ble_eq_true rfl) ?_
   conv=>whnf
   refine Fn.closed (hb) rfl ?_
   rintro _ rfl
   conv=>whnf
   refine Fn.closed (hL) rfl ?_
   rintro _ rfl
   conv=>whnf
   exact⟨_,no,rfl⟩
  | true=>
   rw [hl2] at hL
   have h1:=logAt_bounds hg hl2
   have h2:=okR_seq hok
   have h3:=recB_short hok
   have hm:=smake_fn (logAt g copy slot) x.seq (recB x) ⟨h1.1,h1.2,h2.1,h2.2,by omega⟩
   refine Fn.of tys_ok Tryz.func69 rfl rfl (Nat.le_of_ble_eq_true rfl) ?_
   conv=>whnf
   refine Fn.closed (hb) rfl ?_
   rintro _ rfl
   conv=>whnf
   refine Fn.closed (hL) rfl ?_
   rintro _ rfl
   conv=>whnf
   refine Fn.closed (hm) rfl ?_
   rintro _ rfl
   conv=>whnf
   exact⟨_,fun _ _ h=>h,rfl⟩
end Go.Proofs.YtldngmdpiifamaaGreatDoor.A
end
