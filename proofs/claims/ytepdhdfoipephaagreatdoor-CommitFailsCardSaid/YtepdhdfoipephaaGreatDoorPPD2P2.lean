/-
Several texts in one.
-/
import Derived.Test.YtepdhdfoipephaaGreatDoorPPD2P1
import Derived.RangeFuncNested
import Derived.RangeFuncBound
import Derived.RangeFuncCalls
import Derived.RangeFuncLeaves
import Derived.RangeFuncBox
import Derived.TacticsIn
import Derived.Shelf.Abstract
import Derived.Shelf.RegionOpen
import Derived.OwnWalkIn
import Derived.TacticsInMore
import Derived.LoopNIn
import Derived.LoopIn
import Derived.Test.YtepdhdfoipephaaGreatDoorPPD2P0
import Derived.Lib.Overlaps
import Derived.Laws.Externs
set_option linter.defProp false
set_option maxRecDepth 100000
set_option maxHeartbeats 8000000
set_option linter.unusedSimpArgs false
set_option linter.unusedVariables false
set_option linter.deprecated false
namespace Go.Proofs.YtepdhdfoipephaaGreatDoor.A
section
open Go.RowKit
inductive TrM where
 | fin
 | one (i:Nat) (r:TrM)
 | two (i:Nat) (a:TrM) (j:Nat) (b:TrM)
 | three (i:Nat) (a:TrM) (j:Nat) (b:TrM) (k:Nat) (d:TrM)
def TrM.o (l:List Nat) (t:TrM):TrM:=l.foldr .one t
def TrM.depth:TrM->Nat
 | .fin=>0
 | .one _ r=>r.depth+1
 | .two _ a _ b=>max a.depth b.depth+1
 | .three _ a _ b _ d=>max a.depth (max b.depth d.depth)+1
def IY (ops:Array Oper) (B:List Nat) (mk:Nat) (j:Nat):Bool:=
 (List.range ops.size).any fun i=>!(((ops[i]?).map fun o=>isEff o.op || pureOp o.op).getD true)&&!mk.testBit i&&i != j&&!(B.getD j 0).testBit i&&!(B.getD i 0).testBit j
section
variable {P:Program} {ops:Array Oper} {B:List Nat} {Q:Exit->Act->World->Prop} {mk:Nat}
def HeldM (P:Program) (ops:Array Oper) (B:List Nat) (mk:Nat) (Q:Exit->Act->World->Prop):Nat->Array Bool->Act->World->Prop
 | 0,l,a,w=>Region.ready .any ops l=[]/\Q .normal a w
 | n+1,l,a,w=>(Region.ready .any ops l=[]->Q .normal a w)/\
   ∀ i∈Region.ready .any ops l,wpOp P ops Q i (fun a' w'=>(IY ops B mk i=true->Old w w')/\HeldM P ops B mk Q n (l.setIfInBounds i true) a' w') a w
theorem HeldM.any:∀ (n:Nat) (l:Array Bool) (a:Act) (w:World),HeldM P ops B mk Q n l a w->wpAny P .any ops Q n l a w
 | 0,_,_,_,h=>h
 | n+1,_,_,_,h=>⟨h.1,fun i hi=>wpOp_mono (fun a' w' h'=>HeldM.any n _ a' w' h'.2) (h.2 i hi)⟩
theorem HeldM.first (hB:F_ ops B=true) {i:Nat} {oi:Oper} {v:Value} (hi:ops[i]? = some oi) (hmk:mk.testBit i=false) (hdet:isEff oi.op=false)
  (hsel:∀ (j:Nat) (o:Oper) cs b,ops[j]? = some o->o.op≠ .select cs b)
  (hQ:∀ c a w,Q (.panic c) (a.put oi.dst v) w->Q (.panic c) a w) {S:World->Prop} (hk:∀ w w',S w->(pureOp oi.op=false->Old w w')->S w'):∀ (n:Nat) (l:Array Bool) (a:Act) (w:World),Cl ops l->
   (∀ j oj,ops[j]? = some oj->j≠i->l.getD j true=false->(∀ e∈oj.after,Region.binds .any e=true->e.on≠i)->oi.apart ops oj=true)->
   i∈Region.ready .any ops l->YieldsIf P ops S oi v a->S w->HeldM P ops B mk Q n (l.setIfInBounds i true) (a.put oi.dst v) w->HeldM P ops B mk Q (n+1) l a w:=by
 intro n;induction n with
 | zero=>
  intro l a w _ _ hr hy hS H;refine⟨fun h=>(by rw [h] at hr;cases hr),fun j hj=>?_⟩;by_cases hji:j=i
  ·subst hji;exact hy.wpOp hi hS ⟨fun _=>zy _,H⟩
  ·have h1:=ready_mono hj hji;rw [H.1] at h1;cases h1
 | succ n ih=>
  intro l a w hcl hfree hr hy hS H;refine⟨fun h=>(by rw [h] at hr;cases hr),fun j hj=>?_⟩;by_cases hji:j=i
  ·subst hji;exact hy.wpOp hi hS ⟨fun _=>zy _,H⟩
  have h1:=H.2 j (ready_mono hj hji);obtain⟨hjun,oj,hoj,hall⟩:=mem_ready.1 hj;obtain⟨hiun,oi',hoi',halli⟩:=mem_ready.1 hr;rw [hi] at hoi';cases hoi';have unl:∀ k,l.getD k true=false->l.getD k false=true->False:=by
   intro k h1 h2;rcases BU k l.size with h' | h'
   ·simp [h'] at h1 h2;rw [h1] at h2;cases h2
   ·simp [BH h'] at h2
  have hnot:∀ e∈oj.after,Region.binds .any e=true->e.on≠i:=fun e he hb heq=>unl i hiun (heq ▸ hall e he hb)
  have hmay:pureOp oi.op=false->IY ops B mk j=true:=by
   intro hpu;refine De.2 ⟨i,AO.2 (Au.1 hi).1,?_⟩;have hne:(i != j)=true:=by rw [bne_iff_ne];exact fun h=>hji h.symm
   have b1:(B.getD j 0).testBit i=false:=by
    rw [<-BF];exact fun h=>unl i hiun (Z2 hB hcl j oj hoj hall i h)
   have b2:(B.getD i 0).testBit j=false:=by
    rw [<-BF];exact fun h=>unl j hjun (Z2 hB hcl i oi hi halli j h)
   simp only [hi,Dq,BE,hdet,hpu,hne,b1,b2,hmk,Bool.or_false,Bool.not_false,Bx]
  have h2:=wpOp_putIf hoj (hfree j oj hoj hji hjun hnot) (fun cs b=>hsel i oi cs b hi) (fun cs b=>hsel j oj cs b hoj) hQ hy h1;refine wpOp_mono (fun a' w' h3=>⟨h3.2.1,ih (l.setIfInBounds j true) a' w' (hcl.set hj) (fun k ok hk hki hun hno=>?_) (ready_mono hr (Ne.symm hji)) h3.1 (hk _ _ hS fun hp=>h3.2.1 (hmay hp)) ?_⟩) h2
  ·refine hfree k ok hk hki ?_ hno;by_cases hjk:j=k
   ·subst hjk;exact hjun
   ·rw [getD_set_ne true hjk] at hun;exact hun
  ·rw [Array.setIfInBounds_comm _ _ hji];exact h3.2.2

theorem HeldM.first1 (hB:F_ ops B=true) {i:Nat} {oi:Oper} {v:Value} (hi:ops[i]? = some oi) (hmk:mk.testBit i=false) (hdet:isEff oi.op=false)
  (hsel:∀ (j:Nat) (o:Oper) cs b,ops[j]? = some o->o.op≠ .select cs b)
  (hQ:∀ c a w,Q (.panic c) (a.put oi.dst v) w->Q (.panic c) a w) (n:Nat) (l:Array Bool) (a:Act) (w:World) (hcl:Cl ops l)
  (hfree:∀ j oj,ops[j]? = some oj->j≠i->l.getD j true=false->(∀ e∈oj.after,Region.binds .any e=true->e.on≠i)->oi.apart ops oj=true)
  (hr:i∈Region.ready .any ops l) (hy:YieldsIf P ops (fun w'=>pureOp oi.op=true\/Old w w') oi v a) (H:HeldM P ops B mk Q n (l.setIfInBounds i true) (a.put oi.dst v) w):HeldM P ops B mk Q (n+1) l a w:=by
 refine HeldM.first hB hi hmk hdet hsel hQ (S:=fun w'=>pureOp oi.op=true\/Old w w') (fun _ _ h1 h2=>?_) n l a w hcl hfree hr hy (.inr (zy w)) H;rcases h1 with h1 | h1
 ·exact .inl h1
 ·cases hp:pureOp oi.op with
  | true=>exact .inl rfl
  | false=>exact .inr (h1.trans (h2 hp))

def qM (mk:Nat) (i:Nat) (o:Op):Bool:=qOf o&&!mk.testBit (i+128)
def E5 (P:Program) (T:Tys) (n mk:Nat) (ops:Array Oper) (i:Nat) (fr:Fr) (H:List AB) (K:Fr->List AB->Prop):Prop:=
 match JD ops.toList i with
 | none=>False
 | some o=>Iy ops.toList o fr (fun fr=>Hf P T n (qM mk i o.op) o fr H K) fun fr=>NM n o.dst (.v undef) fr fun fr=>K fr H
def Kw (ops:Array Oper) (B:List Nat) (mk:Nat) (i:Nat):Bool:=match ops[i]? with | some o=>(qM mk i o.op || !IY ops B mk i) | none=>false
def treeM (ops:Array Oper) (B:List Nat) (mk:Nat):TrM->Array Bool->Bool
 | .fin,l=>(Region.ready .any ops l).isEmpty
 | .one i r,l=>(match ops[i]? with
   | none=>false
   | some o=>match isEff o.op with
    | true=>(match Region.ready .any ops l with | [j]=>Nat.beq i j | _=>false)&&(qM mk i o.op || !IY ops B mk i)
    | false=>match mk.testBit i with
     | true=>(match Region.ready .any ops l with | [j]=>Nat.beq i j | _=>false)&&(qM mk i o.op || !IY ops B mk i)
     | false=>Region.free .any ops l i&&(Region.ready .any ops l).contains i)&&treeM ops B mk r (l.setIfInBounds i true)
 | .two i a j b,l=>(match Region.ready .any ops l with | [x,y]=>Nat.beq x i&&Nat.beq y j | _=>false)&&Kw ops B mk i&&Kw ops B mk j&&treeM ops B mk a (l.setIfInBounds i true)&&treeM ops B mk b (l.setIfInBounds j true)
 | .three i a j b k d,l=>(match Region.ready .any ops l with | [x,y,z]=>Nat.beq x i&&Nat.beq y j&&Nat.beq z k | _=>false)&&Kw ops B mk i&&Kw ops B mk j&&Kw ops B mk k&&treeM ops B mk a (l.setIfInBounds i true)&&treeM ops B mk b (l.setIfInBounds j true)&&treeM ops B mk d (l.setIfInBounds k true)
def Ip (P:Program) (T:Tys) (n mk:Nat) (ops:Array Oper):TrM->Fr->List AB->(Fr->List AB->Prop)->Prop
 | .fin,fr,H,K=>K fr H
 | .one i r,fr,H,K=>E5 P T n mk ops i fr H fun fr H=>Ip P T n mk ops r fr H K
 | .two i a j b,fr,H,K=>(E5 P T n mk ops i fr H fun fr H=>Ip P T n mk ops a fr H K)/\(E5 P T n mk ops j fr H fun fr H=>Ip P T n mk ops b fr H K)
 | .three i a j b k d,fr,H,K=>(E5 P T n mk ops i fr H fun fr H=>Ip P T n mk ops a fr H K)/\(E5 P T n mk ops j fr H fun fr H=>Ip P T n mk ops b fr H K)/\(E5 P T n mk ops k fr H fun fr H=>Ip P T n mk ops d fr H K)
variable {T:Tys} {w0:Fl} {M0:Ms} {n d0:Nat} {ce:Ctx}
theorem Fd (hT:TOk P T) {i:Nat} {o:Oper} (ho:ops[i]? = some o) {m:Nat} {l:Array Bool} (hmq:(qM mk i o.op || !IY ops B mk i)=true) {c:Ctx} {fr:Fr} {H:List AB} {a:Act} (hs:HS w0 M0 c H) (hf:FR w0 c n fr a) (he:Ext ce c) {K:Fr->List AB->Prop}
  (hk:∀ (c':Ctx) (fr':Fr) (H':List AB) (a':Act),HS w0 M0 c' H'->FR w0 c' n fr' a'->Ext ce c'->K fr' H'->HeldM P ops B mk Q m (l.setIfInBounds i true) a' c'.w)
  (h:E5 P T n mk ops i fr H K):wpOp P ops Q i (fun a' w'=>(IY ops B mk i=true->Old c.w w')/\HeldM P ops B mk Q m (l.setIfInBounds i true) a' w') a c.w:=by
 simp only [E5,Ec] at h;rw [show ops.toList[i]? = some o by simpa using ho] at h;simp only at h;refine wpOp_step ho fun KK hK=>?_
 rcases Dw hf h with ⟨hw,fr',hf',h⟩ | ⟨hw,fr',hf',h⟩
 ·rw [if_pos hw];refine Fm hT hs hf' he h ?_;rintro a' w' ⟨c',fr2,H',rfl,h1,h2,h3,h4⟩ hold;refine hK _ _ ⟨fun hmay=>hold ?_,hk c' fr2 H' a' h2 h3 h4 h1⟩;rw [hmay] at hmq;simpa using hmq
 ·rw [if_neg (by rw [hw];simp)];obtain⟨fr2,h1,h2⟩:=Ct (v:=undef) hf' (by simp [Rd]) h;exact hK _ _ ⟨fun _=>zy _,hk c fr2 H _ hs h2 he h1⟩
theorem D4 (hT:TOk P T) (hB:F_ ops B=true) (hns:Region.noSelect ops=true) {K:Fr->List AB->Prop} (hq:∀ a w,DQ w0 M0 ce n K a w->Q .normal a w) (hpan:∀ c a w,¬Q (.panic c) a w) :
  ∀ (r:TrM) (m:Nat) (l:Array Bool) (c:Ctx) (fr:Fr) (H:List AB) (a:Act),r.depth<=m->Cl ops l->treeM ops B mk r l=true->HS w0 M0 c H->FR w0 c n fr a->Ext ce c->Ip P T n mk ops r fr H K->HeldM P ops B mk Q m l a c.w
 | .fin,m,l,c,fr,H,a,hm,hcl,hd,hs,hf,he,h=>by
  simp only [treeM,List.isEmpty_iff] at hd;cases m with
  | zero=>exact⟨hd,hq _ _ ⟨c,fr,H,rfl,h,hs,hf,he⟩⟩
  | succ m=>exact⟨fun _=>hq _ _ ⟨c,fr,H,rfl,h,hs,hf,he⟩,by rw [hd];simp⟩
 | .two i x j y,m,l,c,fr,H,a,hm,hcl,hd,hs,hf,he,h=>by
  cases m with
  | zero=>simp [TrM.depth] at hm
  | succ m=>
   simp only [TrM.depth] at hm;simp only [treeM,Ad] at hd;obtain⟨⟨⟨⟨hr,hi⟩,hj⟩,hx⟩,hy⟩:=hd;have hr':Region.ready .any ops l=[i,j]:=by
    split at hr
    ·rename_i p q hpq;simp only [Ad] at hr;rw [hpq,Al hr.1,Al hr.2]
    ·cases hr
   obtain⟨h1,h2⟩:=h;have go:∀ k r,Kw ops B mk k=true->r.depth<=m->k∈Region.ready .any ops l->treeM ops B mk r (l.setIfInBounds k true)=true->(E5 P T n mk ops k fr H fun fr H=>Ip P T n mk ops r fr H K)->(∀ (c:Ctx) (fr:Fr) (H:List AB) (a:Act),HS w0 M0 c H->FR w0 c n fr a->Ext ce c->Ip P T n mk ops r fr H K->HeldM P ops B mk Q m (l.setIfInBounds k true) a c.w)->
     wpOp P ops Q k (fun a' w'=>(IY ops B mk k=true->Old c.w w')/\HeldM P ops B mk Q m (l.setIfInBounds k true) a' w') a c.w:=by
    intro k r hk _ _ _ hst hrec;unfold Kw at hk;split at hk
    ·rename_i o ho;exact Fd hT ho hk hs hf he hrec hst
    ·cases hk
   refine⟨fun h0=>(by rw [hr'] at h0;cases h0),fun k hk=>?_⟩;have hi':i∈Region.ready .any ops l:=by rw [hr'];simp
   have hj':j∈Region.ready .any ops l:=by rw [hr'];simp
   rw [hr',Bb,AF] at hk;rcases hk with rfl | rfl
   ·exact go k x hi (by omega) hi' hx h1 fun c' fr' H' a' q1 q2 q3 q4=>D4 hT hB hns hq hpan x m _ c' fr' H' a' (by omega) (hcl.set hi') hx q1 q2 q3 q4
   ·exact go k y hj (by omega) hj' hy h2 fun c' fr' H' a' q1 q2 q3 q4=>D4 hT hB hns hq hpan y m _ c' fr' H' a' (by omega) (hcl.set hj') hy q1 q2 q3 q4
 | .three i x j y k0 z,m,l,c,fr,H,a,hm,hcl,hd,hs,hf,he,h=>by
  cases m with
  | zero=>simp [TrM.depth] at hm
  | succ m=>
   simp only [TrM.depth] at hm;simp only [treeM,Ad] at hd;obtain⟨⟨⟨⟨⟨⟨hr,hi⟩,hj⟩,hk0⟩,hx⟩,hy⟩,hz⟩:=hd;have hr':Region.ready .any ops l=[i,j,k0]:=by
    split at hr
    ·rename_i p q u hpq;simp only [Ad] at hr;rw [hpq,Al hr.1.1,Al hr.1.2,Al hr.2]
    ·cases hr
   obtain⟨h1,h2,h3⟩:=h;have go:∀ k r,Kw ops B mk k=true->r.depth<=m->k∈Region.ready .any ops l->treeM ops B mk r (l.setIfInBounds k true)=true->(E5 P T n mk ops k fr H fun fr H=>Ip P T n mk ops r fr H K)->(∀ (c:Ctx) (fr:Fr) (H:List AB) (a:Act),HS w0 M0 c H->FR w0 c n fr a->Ext ce c->Ip P T n mk ops r fr H K->HeldM P ops B mk Q m (l.setIfInBounds k true) a c.w)->
     wpOp P ops Q k (fun a' w'=>(IY ops B mk k=true->Old c.w w')/\HeldM P ops B mk Q m (l.setIfInBounds k true) a' w') a c.w:=by
    intro k r hk _ _ _ hst hrec;unfold Kw at hk;split at hk
    ·rename_i o ho;exact Fd hT ho hk hs hf he hrec hst
    ·cases hk
   refine⟨fun h0=>(by rw [hr'] at h0;cases h0),fun k hk=>?_⟩;have hi':i∈Region.ready .any ops l:=by rw [hr'];simp
   have hj':j∈Region.ready .any ops l:=by rw [hr'];simp
   have hk':k0∈Region.ready .any ops l:=by rw [hr'];simp
   rw [hr',Bb,Bb,AF] at hk;rcases hk with rfl | rfl | rfl
   ·exact go k x hi (by omega) hi' hx h1 fun c' fr' H' a' q1 q2 q3 q4=>D4 hT hB hns hq hpan x m _ c' fr' H' a' (by omega) (hcl.set hi') hx q1 q2 q3 q4
   ·exact go k y hj (by omega) hj' hy h2 fun c' fr' H' a' q1 q2 q3 q4=>D4 hT hB hns hq hpan y m _ c' fr' H' a' (by omega) (hcl.set hj') hy q1 q2 q3 q4
   ·exact go k z hk0 (by omega) hk' hz h3 fun c' fr' H' a' q1 q2 q3 q4=>D4 hT hB hns hq hpan z m _ c' fr' H' a' (by omega) (hcl.set hk') hz q1 q2 q3 q4
 | .one i r,m,l,c,fr,H,a,hm,hcl,hd,hs,hf,he,h=>by
  cases m with
  | zero=>simp [TrM.depth] at hm
  | succ m=>
   simp only [TrM.depth,Nat.add_le_add_iff_right] at hm;simp only [treeM,Ad] at hd;obtain⟨hd1,hd2⟩:=hd;simp only [Ip] at h;cases ho:ops[i]? with
   | none=>rw [ho] at hd1;simp at hd1
   | some o=>
    rw [ho] at hd1;simp only at hd1;cases hE:isEff o.op with
    | true=>
     rw [hE] at hd1;simp only [Ad] at hd1;obtain⟨hr,hmq⟩:=hd1;have hr':Region.ready .any ops l=[i]:=by
      split at hr
      ·rename_i j hj;rw [hj,Al hr]
      ·cases hr
     have hri:i∈Region.ready .any ops l:=by rw [hr'];simp
     refine⟨fun h0=>(by rw [hr'] at h0;cases h0),fun j hj=>?_⟩;rw [hr',AF] at hj;subst hj;exact Fd hT ho hmq hs hf he (fun c' fr' H' a' q1 q2 q3 q4=>D4 hT hB hns hq hpan r m _ c' fr' H' a' hm (hcl.set hri) hd2 q1 q2 q3 q4) h
    | false=>
     rw [hE] at hd1;dsimp only at hd1;cases hM:mk.testBit i with
     | true=>
      rw [hM] at hd1;simp only [Ad] at hd1;obtain⟨hr,hmq⟩:=hd1;have hr':Region.ready .any ops l=[i]:=by
       split at hr
       ·rename_i j hj;rw [hj,Al hr]
       ·cases hr
      have hri:i∈Region.ready .any ops l:=by rw [hr'];simp
      refine⟨fun h0=>(by rw [hr'] at h0;cases h0),fun j hj=>?_⟩;rw [hr',AF] at hj;subst hj;exact Fd hT ho hmq hs hf he (fun c' fr' H' a' q1 q2 q3 q4=>D4 hT hB hns hq hpan r m _ c' fr' H' a' hm (hcl.set hri) hd2 q1 q2 q3 q4) h
     | false=>
     rw [hM] at hd1;simp only [Ad] at hd1;obtain⟨hfree,hr⟩:=hd1;have hri:i∈Region.ready .any ops l:=by simpa using hr
     simp only [E5,Ec] at h;rw [show ops.toList[i]? = some o by simpa using ho] at h;simp only at h;have step:∀ v fr2,YieldsIf P ops (fun w'=>pureOp o.op=true\/Old c.w w') o v a->FR w0 c n fr2 (a.put o.dst v)->Ip P T n mk ops r fr2 H K->HeldM P ops B mk Q (m+1) l a c.w:=by
      intro v fr2 hy hf2 h2;exact HeldM.first1 hB ho hM hE (Region.noSelect_spec hns) (fun c a w h=>(hpan _ _ _ h).elim) m l a c.w hcl (Region.free_spec ho hfree) hri hy
       (D4 hT hB hns hq hpan r m _ c fr2 H _ hm (hcl.set hri) hd2 hs hf2 he h2)
     rcases Dw hf h with ⟨hw,fr',hf',h⟩ | ⟨hw,fr',hf',h⟩
     ·unfold Hf at h;rw [hE] at h;obtain⟨rr,v,h1,h2,h3⟩:=(G2 hT hs hf' h).y;obtain⟨fr2,h4,h5⟩:=Ct hf' h3 h1;exact step v fr2 (.inl ⟨hw,h2⟩) h5 h4
     ·obtain⟨fr2,h4,h5⟩:=Ct (v:=undef) hf' (by simp [Rd]) h;exact step undef fr2 (.inr ⟨hw,rfl⟩) h5 h4
def ID (ops:Array Oper) (mk:Nat) (tr:TrM):Bool:=F_ ops (JO ops)&&Region.noSelect ops&&Nat.ble tr.depth ops.size&&treeM ops (JO ops) mk tr (Array.replicate ops.size false)
theorem aDraw.treeM (mk:Nat) (hT:TOk P T) (hm:P.follows .mixedOrders=true) {id:Nat} {K:Fr->List AB->Prop} {fr:Fr} {H:List AB} (tr:TrM) (ds:List Nat) {F:Fr} {H2:List AB} (hok:ID ops mk tr=true)
  (h:Ip P T n mk ops tr fr H fun fr' H'=>canonK (ds ++ slots fr) fr' fun l=>l=F/\H'=H2) (hk:K F H2):aDraw P T n d0 id ops K fr H:=by
 simp only [ID,Ad] at hok;obtain⟨⟨⟨hB,hns⟩,hlen⟩,hok⟩:=hok;refine⟨fun w0 M0 ce c a hs hf he hd Q hQ=>?_⟩;refine wp_mono (Q:=fun e a w=>e = .normal/\DQ w0 M0 ce n (fun fr' H'=>canonK (ds ++ slots fr) fr' fun l=>l=F/\H'=H2) a w) ?_ ?_
 ·refine wp_region_any hm (HeldM.any (B:=JO ops) (mk:=mk) _ _ _ _ ?_);have hb:=(Below.refl c.w.heap.size c.w).drew;obtain⟨h1,h2⟩:=hs.grow hb;refine D4 (w0:=w0) (M0:=M0) (ce:=ce) hT hB hns (fun a w hl=>⟨rfl,hl⟩) (fun c a w h=>by cases h.1) tr _ _ { c with w:=c.w.drew } fr H a (Ag hlen) ?_ hok h1 (hf.ext h2) (he.trans h2) h;intro j o hj hlj;rcases BU j ops.size with h' | h'
  ·simp [h'] at hlj
  ·simp [BH h'] at hj
 ·rintro e a w ⟨rfl,c',fr',H',rfl,h1,h2,h3,h4⟩;obtain⟨e1,rfl⟩:=canonK_iff h1;exact hQ c' F H' a hk h2 (e1 ▸ h3.canon _) h4
def zz:=@aDraw.treeM
theorem aDraw.treeK (mk:Nat) (hT:TOk P T) (hm:P.follows .mixedOrders=true) {id:Nat} {K:Fr->List AB->Prop} {fr:Fr} {H:List AB} (tr:TrM) (hok:ID ops mk tr=true)
  (h:Ip P T n mk ops tr fr H K):aDraw P T n d0 id ops K fr H:=by
 simp only [ID,Ad] at hok;obtain⟨⟨⟨hB,hns⟩,hlen⟩,hok⟩:=hok;refine⟨fun w0 M0 ce c a hs hf he hd Q hQ=>?_⟩;refine wp_mono (Q:=fun e a w=>e = .normal/\DQ w0 M0 ce n K a w) ?_ ?_
 ·refine wp_region_any hm (HeldM.any (B:=JO ops) (mk:=mk) _ _ _ _ ?_);have hb:=(Below.refl c.w.heap.size c.w).drew;obtain⟨h1,h2⟩:=hs.grow hb;refine D4 (w0:=w0) (M0:=M0) (ce:=ce) hT hB hns (fun a w hl=>⟨rfl,hl⟩) (fun c a w h=>by cases h.1) tr _ _ { c with w:=c.w.drew } fr H a (Ag hlen) ?_ hok h1 (hf.ext h2) (he.trans h2) h;intro j o hj hlj;rcases BU j ops.size with h' | h'
  ·simp [h'] at hlj
  ·simp [BH h'] at hj
 ·rintro e a w ⟨rfl,c',fr',H',rfl,h1,h2,h3,h4⟩;exact hQ c' fr' H' a h1 h2 h3 h4
def zV:=@aDraw.treeK
end
theorem BK (b:List UInt8) (hb:b.length<=1000000000):Fn Tryz.prog 96 [bA b] fun r=>r=bA b:=by
 refine zT Tryz.func96 rfl ?_;refine Af (fun h=>?_) ?_
 ·conv=>whnf
  exact⟨bA b,fun c v hv=>by rw [AQ.1 h];exact Bn 1 _ c v hv,rfl⟩
 ·refine⟨⟨rfl,by omega⟩,?_⟩;refine⟨by simp,?_⟩;exact⟨bA b,fun c v hv=>zH (by omega) (fun i hi=>Eu (by omega)) hv,rfl⟩
theorem JJ {l:List UInt8} {k:Nat} (hk:k<l.length) (h4:k<4):IntKind.i64.wrap ((BitVec.ofInt IntKind.i64.bits ((leN (l.take k):Nat):Int) ||| BitVec.ofInt IntKind.i64.bits (IntKind.i64.wrap (IntKind.i64.wrap ((l.getD k 0).toNat:Int)*2 ^ min (IntKind.i64.wrap (8*(k:Int))).toNat IntKind.i64.bits))).toNat:Int)=((leN (l.take (k+1)):Nat):Int):=by
 have h:=V8 hk h4;have e1:IntKind.i64.wrap (8*(k:Int))=8*(k:Int):=IntWalk.i64_in _ (by omega);have e2:IntKind.i64.wrap ((l.getD k 0).toNat:Int)=((l.getD k 0).toNat:Int):=IntWalk.i64_in _ (by have:=(l.getD k 0).toNat_lt;omega);have e3:l.getD k 0=l[k]:=by rw [Ab,Ae hk];try rfl
 rw [e1,e2,show (8*(k:Int)).toNat=8*k by omega,Dr (by show 8*k<=64;omega),e3];have e4:∀ n:Int,wrap64 n=IntKind.i64.wrap n:=fun n=>by rw [IntKind.wrap_i64,wrap64]
 rw [e4] at h;exact h
theorem AS {b:List UInt8} {n m:Nat} (hn:n=b.length - m) (c:Ctx) (u:Value) (h:Rd (.sl 1 n fun i=> [.v (.int .u8 (b.getD (i+m) 0).toNat)]) c u):Rd (bA (b.drop m)) c u:=
 zH (by rw [Ak];exact hn) (fun i _=>by rw [Ab,Ab,BB,CJ]) h
theorem NY (b:List UInt8) (m:Int) (hs:EK m) (hm:m<=b.length) (hl:b.length<=1000000):Fn Tryz.prog 250 [bA b,iv m] fun r=>r = .tp [iv (leN (b.take m.toNat):Nat),bA (b.drop m.toNat),iv 0]:=by
 rcases hs with rfl | rfl | rfl
 ·refine zT Tryz.func250 rfl ?_;conv=>whnf
  refine A6 (fun h=>?_) (fun h=>?_) <;> conv=>whnf
  ·exfalso;omega
  refine⟨by omega,?_⟩;conv=>whnf
  refine zP Nat (fun k=>([(0,bA b),(1,iv 1),(4,iv (leN (b.take k):Nat)),(27, .sl 1 1 fun i=> [.v (.int .u8 (b.getD i 0).toNat)]),(28,iv 1),(29,iv k)], [])) (fun k=>k<=1) (fun k=>1 - k) 0 (Aj _) ⟨[],tv,tA,tv,rfl,rfl,rfl⟩ ?_;rintro k hk;conv=>whnf
  refine A6 (fun h2=>?_) (fun h2=>?_) <;> conv=>whnf
  ·have hs:=JJ (l:=b) (k:=k) (by omega) (by omega);refine⟨by omega,?_⟩;conv=>whnf
   refine Af (by rw [IntWalk.i64_in _ (by omega)];omega) ?_;refine⟨k+1,by omega,by omega, [],tv,⟨rfl,rfl,?_,rfl,rfl,AR (by omega),tv⟩,tv,rfl,rfl,rfl⟩;rw [Aa];exact congrArg (fun x=>AV.v (.int .i64 x)) hs
  ·have hk2:k=1:=by omega
   subst hk2;refine⟨by omega,?_⟩;conv=>whnf
   refine zY [bA (b.drop 1)] ⟨AS (by omega),tv⟩ ?_;refine z_ (BK (b.drop 1) (by rw [Ak];omega)) ?_;exact⟨_,ri,rfl⟩
 ·refine zT Tryz.func250 rfl ?_;conv=>whnf
  refine A6 (fun h=>?_) (fun h=>?_) <;> conv=>whnf
  ·exfalso;omega
  refine⟨by omega,?_⟩;conv=>whnf
  refine zP Nat (fun k=>([(0,bA b),(1,iv 2),(4,iv (leN (b.take k):Nat)),(27, .sl 1 2 fun i=> [.v (.int .u8 (b.getD i 0).toNat)]),(28,iv 2),(29,iv k)], [])) (fun k=>k<=2) (fun k=>2 - k) 0 (Aj _) ⟨[],tv,tA,tv,rfl,rfl,rfl⟩ ?_;rintro k hk;conv=>whnf
  refine A6 (fun h2=>?_) (fun h2=>?_) <;> conv=>whnf
  ·have hs:=JJ (l:=b) (k:=k) (by omega) (by omega);refine⟨by omega,?_⟩;conv=>whnf
   refine Af (by rw [IntWalk.i64_in _ (by omega)];omega) ?_;refine⟨k+1,by omega,by omega, [],tv,⟨rfl,rfl,?_,rfl,rfl,AR (by omega),tv⟩,tv,rfl,rfl,rfl⟩;rw [Aa];exact congrArg (fun x=>AV.v (.int .i64 x)) hs
  ·have hk2:k=2:=by omega
   subst hk2;refine⟨by omega,?_⟩;conv=>whnf
   refine zY [bA (b.drop 2)] ⟨AS (by omega),tv⟩ ?_;refine z_ (BK (b.drop 2) (by rw [Ak];omega)) ?_;exact⟨_,ri,rfl⟩
 ·refine zT Tryz.func250 rfl ?_;conv=>whnf
  refine A6 (fun h=>?_) (fun h=>?_) <;> conv=>whnf
  ·exfalso;omega
  refine⟨by omega,?_⟩;conv=>whnf
  refine zP Nat (fun k=>([(0,bA b),(1,iv 4),(4,iv (leN (b.take k):Nat)),(27, .sl 1 4 fun i=> [.v (.int .u8 (b.getD i 0).toNat)]),(28,iv 4),(29,iv k)], [])) (fun k=>k<=4) (fun k=>4 - k) 0 (Aj _) ⟨[],tv,tA,tv,rfl,rfl,rfl⟩ ?_;rintro k hk;conv=>whnf
  refine A6 (fun h2=>?_) (fun h2=>?_) <;> conv=>whnf
  ·have hs:=JJ (l:=b) (k:=k) (by omega) (by omega);refine⟨by omega,?_⟩;conv=>whnf
   refine Af (by rw [IntWalk.i64_in _ (by omega)];omega) ?_;refine⟨k+1,by omega,by omega, [],tv,⟨rfl,rfl,?_,rfl,rfl,AR (by omega),tv⟩,tv,rfl,rfl,rfl⟩;rw [Aa];exact congrArg (fun x=>AV.v (.int .i64 x)) hs
  ·have hk2:k=4:=by omega
   subst hk2;refine⟨by omega,?_⟩;conv=>whnf
   refine zY [bA (b.drop 4)] ⟨AS (by omega),tv⟩ ?_;refine z_ (BK (b.drop 4) (by rw [Ak];omega)) ?_;exact⟨_,ri,rfl⟩
theorem Xo {e:Int} (c:Ctx) (v:Value) (h:Rd (.tp [iv 0, .v (.slice none 0 0),iv e]) c v):Rd (.tp [iv 0,bA [],iv e]) c v:=by
 simp only [Rd,RdL] at h |-
 obtain⟨xs,rfl,x,xs,rfl,hx,y,ys,rfl,rfl,h⟩:=h;exact⟨_,rfl,_,_,rfl,hx,_,_,rfl,Bn 1 (fun i=> [.v (.int .u8 (([]:List UInt8).getD i 0).toNat)]) c (.slice none 0 0) (by simp [Rd]),h⟩
theorem YA (b:List UInt8) (m:Int) (hs:EK m) (hm:b.length<m):Fn Tryz.prog 250 [bA b,iv m] fun r=>r = .tp [iv 0,bA [],iv 4]:=by
 rcases hs with rfl | rfl | rfl
 all_goals
  refine zT Tryz.func250 rfl ?_;conv=>whnf
  refine A6 (fun h=>?_) (fun h=>?_) <;> conv=>whnf
  ·exact⟨_,Xo,rfl⟩
  ·exfalso;omega
theorem Jt (b:List UInt8) (ss:List Int) (hss:∀ s∈ss,EK s) (hl:b.length<=1000000) (hn:ss.length<=1000) (ht:tot ss<=b.length) :
  ACalls Tryz.prog false 204 [bA b,iA ss] [] fun r H=>r = .tp [.ow 0 ss.length,bA (b.drop (tot ss)),iv 0]/\H=[.row 3 1 ((nums ss b).map On)]:=by
 refine z7 tys_ok Tryz.func204 rfl rfl (Ag rfl) ?_;conv=>whnf
 refine z_ (BK b (by omega)) ?_;conv=>whnf
 refine zq Nat (fun k=>([(4, .ow 0 k),(5,bA (b.drop (tot (ss.take k)))),(14,iA ss),(15,iv ss.length),(16,iv k)], [.row 3 1 ((nums (ss.take k) b).map On)])) (fun k=>k<=ss.length) (fun k=>ss.length - k) 0 (Aj _) (zI ⟨[(4,3,1)],tA,tA,tA,rfl,rfl,rfl⟩) ?_;rintro k hk;conv=>whnf
 refine A6 (fun h2=>?_) (fun h2=>?_) <;> (repeat rw [Aa] at h2) <;> conv=>whnf
 ·have hk':k<ss.length:=by omega
  have h5:=tot_step ss k hk';have h6:=tot_take_le ss (k+1);have h7:=nums_step ss b k hk';have h8:EK ss[k]:=hss _ (Cy hk');have h9:ss.getD k 0=ss[k]:=by rw [Ab,Ae hk'];try rfl
  have h10:ss[k]=(ss[k].toNat:Int):=by rcases h8 with h | h | h <;> rw [h] <;> rfl
  have hg:=NY (b.drop (tot (ss.take k))) ss[k] h8 (by rw [Ak];omega) (by rw [Ak];omega);refine⟨by omega,?_⟩;conv=>whnf
  rw [Aa,h9];refine z_ hg ?_;conv=>whnf
  have h11:(nums (ss.take k) b).length=k:=by rw [nums_len,As];omega
  refine⟨rfl,?_⟩;conv=>whnf
  refine Af ⟨by rw [Ac];exact h11.symm,by omega⟩ ?_;refine⟨k+1,by omega,by omega,zI ⟨[],tv,⟨rfl,?_,rfl,rfl,AR (by omega),tv⟩,⟨?_,tv⟩,rfl,rfl,rfl⟩⟩
  ·rw [h5,<-AT];try rfl
  ·rw [h7,A0];try rfl
 ·have hk2:k=ss.length:=by omega
  subst hk2;rw [Ay];exact⟨.tp [.ow 0 ss.length,bA (b.drop (tot ss)),iv 0],_, [.row 3 1 ((nums ss b).map On)],fun _ _ h=>h,zI ⟨[],tv,tA,tA,rfl,rfl,rfl⟩,rfl,rfl⟩
theorem Ut (b:List UInt8) (ss:List Int) (hss:∀ s∈ss,EK s) (hl:b.length<=1000000) (hn:ss.length<=1000) (ht:b.length<tot ss) :
  Fn Tryz.prog 204 [bA b,iA ss] fun r=>r = .tp [.v (.slice none 0 0), .v (.slice none 0 0),iv 4]:=by
 refine zT Tryz.func204 rfl ?_;conv=>whnf
 refine z_ (BK b (by omega)) ?_;conv=>whnf
 refine zq Nat (fun k=>([(4, .ow 0 k),(5,bA (b.drop (tot (ss.take k)))),(14,iA ss),(15,iv ss.length),(16,iv k)], [.row 3 1 ((nums (ss.take k) b).map On)])) (fun k=>k<=ss.length/\tot (ss.take k)<=b.length) (fun k=>ss.length - k) 0 ⟨Aj _,by simp [tot]⟩ (zI ⟨[(4,3,1)],tA,tA,tA,rfl,rfl,rfl⟩) ?_;rintro k ⟨hk,hkt⟩;conv=>whnf
 refine A6 (fun h2=>?_) (fun h2=>?_) <;> (repeat rw [Aa] at h2) <;> conv=>whnf
 ·have hk':k<ss.length:=by omega
  have h5:=tot_step ss k hk';have h7:=nums_step ss b k hk';have h8:EK ss[k]:=hss _ (Cy hk');have h9:ss.getD k 0=ss[k]:=by rw [Ab,Ae hk'];try rfl
  have h10:ss[k]=(ss[k].toNat:Int):=by rcases h8 with h | h | h <;> rw [h] <;> rfl
  by_cases hlt:tot (ss.take (k+1))<=b.length
  ·have hg:=NY (b.drop (tot (ss.take k))) ss[k] h8 (by rw [Ak];omega) (by rw [Ak];omega);refine⟨by omega,?_⟩;conv=>whnf
   rw [Aa,h9];refine z_ hg ?_;conv=>whnf
   have h11:(nums (ss.take k) b).length=k:=by rw [nums_len,As];omega
   refine⟨rfl,?_⟩;conv=>whnf
   refine Af ⟨by rw [Ac];exact h11.symm,by omega⟩ ?_;refine⟨k+1,⟨by omega,hlt⟩,by omega,zI ⟨[],tv,⟨rfl,?_,rfl,rfl,AR (by omega),tv⟩,⟨?_,tv⟩,rfl,rfl,rfl⟩⟩
   ·rw [h5,<-AT];try rfl
   ·rw [h7,A0];try rfl
  ·have hg:=YA (b.drop (tot (ss.take k))) ss[k] h8 (by rw [Ak];omega);refine⟨by omega,?_⟩;conv=>whnf
   rw [Aa,h9];refine z_ hg ?_;exact⟨_,ri,rfl⟩
 ·have hk2:k=ss.length:=by omega
  subst hk2;rw [Ay] at hkt;omega
theorem XF {b:List UInt8} {n m k:Nat} (hn:n=k) (hk:m+k<=b.length) (c:Ctx) (u:Value) (h:Rd (.sl 1 n fun i=> [.v (.int .u8 (b.getD (i+m) 0).toNat)]) c u):Rd (bA ((b.drop m).take k)) c u:=
 zH (by rw [As,Ak];omega) (fun i hi=>by rw [Ab,Ab,BJ (by omega),BB,CJ]) h
theorem KL (b:List UInt8) (hl:b.length<=1000000) (hp:ES b=true):Fn Tryz.prog 275 [bA b] fun r=>r = .tp [bA ((b.drop 1).take (Cg b)),bA (b.drop (1+Cg b)),iv 0]:=by
 simp only [ES,decide_eq_true_eq] at hp;have h0:(b.getD 0 0).toNat=Cg b:=by cases b <;> rfl
 have hlt:=(b.getD 0 0).toNat_lt;have e1:IntKind.i64.wrap ((b.getD 0 0).toNat:Int)=(Cg b:Int):=by rw [IntWalk.i64_in _ (by omega),h0]
 have e2:IntKind.i64.wrap (1+(Cg b:Int))=((1+Cg b:Nat):Int):=by rw [IntWalk.i64_in _ (by omega)];omega
 refine zT Tryz.func275 rfl ?_;conv=>whnf
 refine A6 (fun h=>?_) (fun h=>?_) <;> conv=>whnf
 ·exfalso;omega
 refine⟨by omega,?_⟩;conv=>whnf
 rw [show Int.toNat 0=0 from rfl,e1,e2];refine A6 (fun h2=>?_) (fun h2=>?_) <;> conv=>whnf
 ·exfalso;omega
 refine⟨by omega,?_⟩;conv=>whnf
 rw [show Int.toNat 0=0 from rfl,e1,e2];apply zL tys_ok mixed (.o [0,1,2,4,5,6,3,7,8,9,10] .fin) [2,3,4,24,25,26,27,28,29,30,31] (by kernel_rfl)
 ·conv=>whnf
  try (refine Af (by first | omega | exact ixA | exact ixB | (simp;done)) ?_;conv=>whnf)
  try (refine Af (by first | omega | exact ixA | exact ixB | (simp;done)) ?_;conv=>whnf)
  (refine zY [bA ((b.drop 1).take (Cg b))] ⟨XF (by omega) (by omega),tv⟩ ?_;refine z_ (BK _ (by rw [As];omega)) ?_)
  conv=>whnf
  (refine zY [bA (b.drop (1+Cg b))] ⟨AS (by omega),tv⟩ ?_;refine z_ (BK _ (by rw [Ak];omega)) ?_)
  exact tA
 exact⟨_,ri,rfl⟩
theorem Sp (b:List UInt8) (hp:ES b=false):Fn Tryz.prog 275 [bA b] fun r=>r = .tp [.v (.slice none 0 0), .v (.slice none 0 0),iv 4]:=by
 simp only [ES,decide_eq_false_iff_not] at hp;have h0:(b.getD 0 0).toNat=Cg b:=by cases b <;> rfl
 have hlt:=(b.getD 0 0).toNat_lt;have e1:IntKind.i64.wrap ((b.getD 0 0).toNat:Int)=(Cg b:Int):=by rw [IntWalk.i64_in _ (by omega),h0]
 have e2:IntKind.i64.wrap (1+(Cg b:Int))=((1+Cg b:Nat):Int):=by rw [IntWalk.i64_in _ (by omega)];omega
 refine zT Tryz.func275 rfl ?_;conv=>whnf
 refine A6 (fun h=>?_) (fun h=>?_) <;> conv=>whnf
 ·exact⟨_,ri,rfl⟩
 refine⟨by omega,?_⟩;conv=>whnf
 rw [show Int.toNat 0=0 from rfl,e1,e2];refine A6 (fun h2=>?_) (fun h2=>?_) <;> conv=>whnf
 ·exact⟨_,ri,rfl⟩
 ·exfalso;omega
theorem VP (a b:List UInt8):Fn Tryz.prog 206 [bA a,bA b] fun r=>r = .v (.bool (decide (a=b))):=by
 refine⟨⟨_,Tryz.func206,rfl,by decide⟩,fun c0 us hd hM _ hr=>?_⟩;obtain⟨u1,u2,rfl,h1,h2⟩:=Z6 hr;refine(T2 u1 u2 a b c0.w c0.M c0.M (IF h1) (IF h2)).mono ?_;rintro e w' ⟨rfl,rfl⟩;exact⟨_,_,rfl,rfl,Below.refl _ _,Mg _⟩
def Ui {α:Type} (p:α->Bool) (l:List α):Int:=if l.any p then ((l.findIdx p:Nat):Int) else -1
theorem HK {α:Type} {p:α->Bool} {l:List α} {k:Nat} {d:α} (hk:k<l.length) (h:(l.take k).any p=false) (hp:p (l.getD k d)=true):Ui p l=k:=by
 rw [Ab,Ae hk] at hp;have hp:p l[k]=true:=hp;unfold Ui;rw [De.2 ⟨l[k],Cy hk,hp⟩];simp only [if_true,Int.natCast_inj];refine(List.findIdx_eq hk).2 ⟨hp,fun j hj=>?_⟩;rw [List.any_eq_false] at h;have:=h l[j] (List.mem_take_iff_getElem.2 ⟨j,by omega,rfl⟩);simpa using this
theorem Gx {α:Type} {p:α->Bool} {l:List α} (h:l.any p=false):Ui p l = -1:=by
 unfold Ui;rw [h];try rfl
theorem JG {α:Type} {p:α->Bool} {l:List α}:decide (0<=Ui p l)=l.any p:=by
 unfold Ui;cases h:l.any p with
 | true=>simp
 | false=>rfl
theorem DN {α:Type} {p:α->Bool} {l:List α} {k:Nat} {d:α} (hk:k<l.length) (h:(l.take k).any p=false) (hp:p (l.getD k d)=false):(l.take (k+1)).any p=false:=by
 rw [AN hk,List.any_append,h];rw [Ab,Ae hk] at hp;simpa using hp
def CX (x:Ent):List AV:= [iv x.stamp,iv x.sum, .v (.bool x.lost)]
def BP (l:List Ent):AV:= .sl 3 l.length fun i=>CX (l.getD i ⟨0,0,false⟩)
theorem WJ (n:Int):Fn Tryz.prog 259 [iv n] fun r=>r = .v (.bool (Hr n)):=by
 refine zT Tryz.func259 rfl ?_;conv=>whnf
 repeat' (first | (refine Am (fun h=>?_) (fun h=>?_) <;> (try simp at h) <;> conv=>whnf) | (refine zJ tys_ok mixed (by kernel_rfl) ?_;conv=>whnf) | (refine zZ ?_;conv=>whnf) | (refine Af (by omega) ?_;conv=>whnf))
 all_goals exact⟨_,ri,by simp [Hr,C2, *] <;> omega⟩
theorem Um (x:Ent):Fn Tryz.prog 258 [.ag (CX x)] fun r=>r = .v (.bool (!DD x)):=by
 refine zT Tryz.func258 rfl ?_;conv=>whnf
 repeat' (first | (refine Am (fun h=>?_) (fun h=>?_) <;> (try simp at h) <;> conv=>whnf) | (refine zJ tys_ok mixed (by kernel_rfl) ?_;conv=>whnf) | (refine zZ ?_;conv=>whnf) | (refine z_ (WJ _) ?_;conv=>whnf) | (refine Af (by omega) ?_;conv=>whnf))
 all_goals exact⟨_,ri,by simp [DD, *]⟩
theorem Y_ (l:List Ent)  (hl:l.length<=1000000):Fn Tryz.prog 278 [BP l, .v (.func (.func 258) #[] #[])] fun r=>r = iv (Ui (fun x=>!DD x) l):=by
 refine zT Tryz.func278 rfl ?_;conv=>whnf
 refine zP Nat (fun k=>([(0,BP l),(1, .v (.func (.func 258) #[] #[])),(7,iv l.length),(8,iv k)], [])) (fun k=>k<=l.length/\(l.take k).any (fun x=>!DD x)=false) (fun k=>l.length - k) 0 ⟨Aj _,by simp⟩ ⟨[],tv,tA,tv,rfl,rfl,rfl⟩ ?_;rintro k ⟨hk,hI⟩;conv=>whnf
 refine Am (fun h2=>?_) (fun h2=>?_) <;> simp at h2 <;> conv=>whnf
 ·refine⟨by first | omega | (refine⟨rfl,?_,?_⟩ <;> first | omega | (simp only [Ac];done) | (simp only [Ac];omega)) | (simp only [Ac];omega),?_⟩;conv=>whnf
  refine z_ (Um (l.getD k ⟨0,0,false⟩)) ?_;conv=>whnf
  refine Am (fun h3=>?_) (fun h3=>?_) <;> conv=>whnf
  ·exact⟨_,ri,by rw [HK (d:=⟨0,0,false⟩) h2 hI (by first | exact h3 | (rw [Aa] at h3;exact h3) | simpa using h3)]⟩
  ·refine⟨k+1,⟨by omega,DN (d:=⟨0,0,false⟩) h2 hI (by first | exact h3 | (rw [Aa] at h3;exact h3) | simpa using h3)⟩,by omega, [],tv,⟨rfl,rfl,rfl,AR (by omega),tv⟩,tv,rfl,rfl,rfl⟩
 ·exact⟨_,ri,by rw [Aw h2] at hI;rw [Gx hI]⟩
theorem Za (l:List Ent)  (hl:l.length<=1000000):Fn Tryz.prog 260 [BP l, .v (.func (.func 258) #[] #[])] fun r=>r = .v (.bool (l.any (fun x=>!DD x))):=by
 refine zT Tryz.func260 rfl ?_;conv=>whnf
 refine z_ (Y_ l  hl) ?_;exact⟨_,ri,by rw [JG]⟩

theorem Mx (g:Geo) (l:List Ent) (hl:l.length<=1000000):Fn Tryz.prog 226 [.ag (Ba g), .ag [BP l]] fun r=>r = .v (Fv (FB g l)):=by
 have hG:Fn Tryz.prog 51 [.ag (Ba g)] fun r=>r = .v (Fv (Bq g)):=DC g.z g.d g.sp g.sl g.an
 cases hg:Bq g with
 | false=>
  rw [hg] at hG;rw [show FB g l=false by simp [FB,hg]];refine zT Tryz.func226 rfl ?_;conv=>whnf
  refine z_ hG ?_;exact⟨_,ri,rfl⟩
 | true=>
  rw [hg] at hG;obtain⟨h1,h2,h3,h4,h5⟩:=Ar.1 hg;have hw:IntKind.i64.wrap (g.d+1)=g.d+1:=IntWalk.i64_in _ (by omega);by_cases hn:(l.length:Int)=g.d+1
  ·have hc:=Za l hl;cases ha:l.any (fun x=>!DD x) with
   | true=>
    rw [ha] at hc;rw [show FB g l=false by rw [FB];simp only [Bool.and_eq_false_iff];refine .inl (.inr ?_);rw [Ce,ha];try rfl];refine zT Tryz.func226 rfl ?_;conv=>whnf
    refine z_ hG ?_;conv=>whnf
    rw [hw,show ((l.length:Int) != g.d+1)=false by rw [hn];exact bne_self_eq_false _];conv=>whnf
    refine z_ hc ?_;exact⟨_,ri,rfl⟩
   | false=>
    rw [ha] at hc;have hal:l.all DD=true:=by rw [Ce,ha];try rfl
    have hlo:Gf l g.d.toNat=(l.getD g.d.toNat ⟨0,0,false⟩).lost:=by
     rw [Gf,Ab,Ae (by omega)];try rfl
    rw [show FB g l = !(l.getD g.d.toNat ⟨0,0,false⟩).lost by rw [FB,hg,hal,decide_eq_true hn,hlo];try rfl];refine zT Tryz.func226 rfl ?_;conv=>whnf
    refine z_ hG ?_;conv=>whnf
    rw [hw,show ((l.length:Int) != g.d+1)=false by rw [hn];exact bne_self_eq_false _];conv=>whnf
    refine z_ hc ?_;refine⟨by omega,?_⟩;conv=>whnf
    refine Am (fun h=>?_) (fun h=>?_) <;> conv=>whnf
    ·exact⟨_,ri,by rw [h];try rfl⟩
    ·exact⟨_,ri,by rw [h];try rfl⟩
  ·rw [show FB g l=false by simp [FB,hn]];refine zT Tryz.func226 rfl ?_;conv=>whnf
   refine z_ hG ?_;conv=>whnf
   rw [hw,show ((l.length:Int) != g.d+1)=true from bne_iff_ne.2 hn];exact⟨_,ri,rfl⟩
theorem My (g:Geo) (l:List Ent) (hl:l.length<=1000):Fn Tryz.prog 205 [.ag (Ba g), .ag [BP l]] fun r=>r = .tp [bA (if FB g l then CL l else []), .v (Fv (FB g l))]:=by
 have hc:=Mx g l (by omega);cases hok:FB g l with
 | false=>
  rw [hok] at hc;refine zT Tryz.func205 rfl ?_;conv=>whnf
  refine z_ hc ?_;exact⟨.tp [bA [],iv 1],fun c v h=>by
   simp only [Rd,RdL] at h |-
   obtain⟨xs,rfl,y,ys,rfl,rfl,h⟩:=h;exact⟨_,rfl,_,_,rfl,Bn 1 (fun i=> [.v (.int .u8 (([]:List UInt8).getD i 0).toNat)]) c (.slice none 0 0) (by simp [Rd]),h⟩,rfl⟩
 | true=>
  rw [hok] at hc;have hall:∀ x∈l,DD x=true:=by
   simp only [FB,Ad] at hok;exact fun x hx=>Av.1 hok.1.2 x hx
  refine zT Tryz.func205 rfl ?_;conv=>whnf
  refine z_ hc ?_;conv=>whnf
  refine zq Nat (fun k=>([(7, .ow 2 (CL (l.take k)).length),(20,BP l),(21,iv l.length),(22,iv k)], [.dead, .dead, .row 5 1 ((CL (l.take k)).map Eo)])) (fun k=>k<=l.length) (fun k=>l.length - k) 0 (Aj _) (zI ⟨[(7,5,1)],tA,tA,tA,rfl,rfl,rfl⟩) ?_;rintro k hk;conv=>whnf
  refine A6 (fun h2=>?_) (fun h2=>?_) <;> (repeat rw [Aa] at h2) <;> conv=>whnf
  ·have hk':k<l.length:=by omega
   have hx:=hall _ (A5 (d:=⟨0,0,false⟩) hk');have hst:=Mz hk';have e9:l.getD k ⟨0,0,false⟩=l[k]:=by rw [Ab,Ae hk'];try rfl
   rw [<-e9] at hst;have hr:=NF [(l.getD k ⟨0,0,false⟩).stamp,(l.getD k ⟨0,0,false⟩).sum,CV (l.getD k ⟨0,0,false⟩).lost] [4,4,1] rfl (by show 3<=1000;decide) (VR hx);refine zZ ?_;refine⟨by omega,?_⟩;conv=>whnf
   rw [Aa];refine zZ ?_;conv=>whnf
   refine Am (fun hx2=>?_) (fun hx2=>?_) <;> conv=>whnf
   ·rw [hx2] at hr;refine zQ hr.go ?_;refine⟨rfl,?_⟩;refine⟨rfl,?_⟩;conv=>whnf
    refine zY [iA [(l.getD k ⟨0,0,false⟩).stamp,(l.getD k ⟨0,0,false⟩).sum,CV true],iA [4,4,1]] ⟨(BT (l:= [(l.getD k ⟨0,0,false⟩).stamp,(l.getD k ⟨0,0,false⟩).sum,CV true]) rfl).1,(BT (l:= [4,4,1]) rfl).1,tv⟩ ?_;refine zW hr rfl ?_;rintro _ _ ⟨rfl,rfl⟩;refine⟨by simp,?_⟩;conv=>whnf
    refine Af ⟨by simp,by rw [E3,tot_rowB [(l.getD k ⟨0,0,false⟩).stamp,(l.getD k ⟨0,0,false⟩).sum,CV true] [4,4,1] rfl];simp [tot];omega⟩ ?_;conv=>whnf
    have he:I3 (l.getD k ⟨0,0,false⟩)=rowB [(l.getD k ⟨0,0,false⟩).stamp,(l.getD k ⟨0,0,false⟩).sum,CV true] [4,4,1]:=by rw [I3,hx2]
    refine⟨k+1,by omega,by omega,zI ⟨[],tv,⟨?_,rfl,rfl,AR (by omega),tv⟩,⟨?_,tv⟩,rfl,rfl,rfl⟩⟩
    ·rw [hst,he,Ai];try rfl
    ·rw [hst,he,A0]
   ·rw [hx2] at hr;refine zQ hr.go ?_;refine⟨rfl,?_⟩;refine⟨rfl,?_⟩;conv=>whnf
    refine zY [iA [(l.getD k ⟨0,0,false⟩).stamp,(l.getD k ⟨0,0,false⟩).sum,CV false],iA [4,4,1]] ⟨(BT (l:= [(l.getD k ⟨0,0,false⟩).stamp,(l.getD k ⟨0,0,false⟩).sum,CV false]) rfl).1,(BT (l:= [4,4,1]) rfl).1,tv⟩ ?_;refine zW hr rfl ?_;rintro _ _ ⟨rfl,rfl⟩;refine⟨by simp,?_⟩;conv=>whnf
    refine Af ⟨by simp,by rw [E3,tot_rowB [(l.getD k ⟨0,0,false⟩).stamp,(l.getD k ⟨0,0,false⟩).sum,CV false] [4,4,1] rfl];simp [tot];omega⟩ ?_;conv=>whnf
    have he:I3 (l.getD k ⟨0,0,false⟩)=rowB [(l.getD k ⟨0,0,false⟩).stamp,(l.getD k ⟨0,0,false⟩).sum,CV false] [4,4,1]:=by rw [I3,hx2]
    refine⟨k+1,by omega,by omega,zI ⟨[],tv,⟨?_,rfl,rfl,AR (by omega),tv⟩,⟨?_,tv⟩,rfl,rfl,rfl⟩⟩
    ·rw [hst,he,Ai];try rfl
    ·rw [hst,he,A0]
  ·have hk2:k=l.length:=by omega
   subst hk2;rw [Ay];refine⟨by simp,?_⟩;exact⟨.tp [bA (CL l),iv 0],fun c v h=>by
    simp only [Rd,RdL] at h |-
    obtain⟨xs,rfl,y,ys,rfl,h1,h⟩:=h;exact⟨_,rfl,y,ys,rfl,zH (u:=y) rfl (fun i hi=>Bf (f:=Eo) (l:=CL l) (d:=0) hi) (by simp only [Rd];exact h1),h⟩,rfl⟩
theorem ConvH.sealBox {H:List AB} (j k:Nat) {t t':TypeId} {sz':Nat} {cs cs2:List AV} {es':List (List AV)} (hj:H[j]? = some (.box t cs)) (hk:H[k]? = some (.row t' sz' es'))
  (he:cs.map (AV.slIn k es'.length (.sl sz' es'.length fun i=>es'.getD i []))=cs2):ConvH H ((H.set k .dead).set j (.box t cs2)):=by
 intro w0 M0 c hs;subst he;have hjk:j≠k:=by rintro rfl;rw [hj] at hk;cases hk
 obtain⟨c1,e1,s1,x1,r1⟩:=hs.freeze hk;have hj1:(H.set k .dead)[j]? = some (.box t cs):=by rw [AC (Ne.symm hjk)];exact hj
 refine⟨c1,e1,s1.recell hj1 rfl ?_,x1⟩;rintro⟨g,xs,h1,h2,_,h4⟩;obtain⟨g0,ys,q1,q2,q3,_⟩:=hs.blk j _ hj;have hg:=x1.box j _ (hs.klt hj) q1;rw [h1] at hg;injection hg with hg
 injection hg with hg
 injection hg with hg
 subst hg;rw [e1,q2] at h2;injection h2 with h2
 have hxy:ys.toArray=xs.toArray:=by injection h2
 have hxy:ys=xs:=by simpa using hxy
 subst hxy;refine⟨g,ys,h1,by rw [e1];exact q2,?_,h4⟩;have h8:∀ (l:List AV) (us:List Value),RdL l c us->RdL (l.map (AV.slIn k es'.length (.sl sz' es'.length fun i=>es'.getD i []))) c1 us:=by
  intro l;induction l with
  | nil=>intro us h;simp only [RdL] at h;subst h;simp [RdL]
  | cons x l ih=>
   intro us h;simp only [RdL] at h;obtain⟨u,vs,rfl,a1,a2⟩:=h;simp only [A8,RdL];refine⟨u,vs,rfl,?_,ih vs a2⟩;unfold AV.slIn;split
   ·rename_i i n;split
    ·rename_i hik;subst hik;split
     ·rename_i hn;subst hn;exact r1 u a1
     ·simp [Rd]
    ·exact Rd.ext _ x1 a1
   ·exact Rd.ext _ x1 a1
 exact h8 _ _ q3
def zo:=@ConvH.sealBox
def DG (g:Geo) (b:List UInt8):Int:=if Bq g=false then 1 else if (Cb g b).isSome then 0 else 4
theorem K0 (e:Int) (c:Ctx) (v:Value) (h:Rd (.tp [.ag [.v (.slice none 0 0)],iv e]) c v):Rd (.tp [.ag [BP []],iv e]) c v:=by
 have e1:SubL [.ag [.v (.slice none 0 0)],iv e] [.ag [BP []],iv e]:=⟨Bk ⟨fun c u h=>Bn 3 _ c u h,tv⟩,ri,tv⟩;simp only [Rd] at h |-
 obtain⟨xs,rfl,h⟩:=h;exact⟨_,rfl,e1.rdl (c:=c) (xs:=xs) (by simpa only [RdL,Rd] using h)⟩
def ZI (g:Geo) (b:List UInt8) (k:Nat):Bool->List AB
 | false=> [.box 23 (Ba g), .box 70 [.v (.slice none 0 0)], .box 70 [.ow 3 k], .row 97 3 ((entsOf k b).map CX)]
 | true=> [.box 23 (Ba g), .box 70 [.v (.slice none 0 0)], .box 70 [.sl 3 ((entsOf k b).map CX).length fun i=>((entsOf k b).map CX).getD i []], .dead]
theorem KN (g:Geo) (b:List UInt8) (hl:b.length<=100000):Fn Tryz.prog 135 [.ag (Ba g),bA b] fun r=>r = .tp [.ag [BP (if Bq g then (Cb g b).getD [] else [])],iv (DG g b)]:=by
 have hG:Fn Tryz.prog 51 [.ag (Ba g)] fun r=>r = .v (Fv (Bq g)):=DC g.z g.d g.sp g.sl g.an
 cases hg:Bq g with
 | false=>
  rw [hg] at hG;rw [show DG g b=1 by rw [DG,if_pos hg]];refine zT Tryz.func135 rfl ?_;conv=>whnf
  refine z_ hG ?_;exact⟨_,K0 1,rfl⟩
 | true=>
  rw [hg] at hG;obtain⟨h1,h2,h3,h4,h5⟩:=Ar.1 hg;obtain⟨n,hn⟩:∃ n:Nat,g.d+1=n:=⟨(g.d+1).toNat,by omega⟩;have hnn:(g.d+1).toNat=n:=by omega
  have hw:IntKind.i64.wrap (g.d+1)=(n:Int):=by rw [IntWalk.i64_in _ (by omega),hn]
  by_cases hs:9*n<=b.length
  ·refine zT Tryz.func135 rfl ?_;conv=>whnf
   refine z_ hG ?_;conv=>whnf
   refine zq (Nat × Bool) (fun s=>([(1,bA b),(2, .bp 0 0),(4, .bp 1 0),(5,iv 0),(6, .bp 2 0),(7,bA (b.drop (9*s.1))),(20,iv n),(21,iv s.1)],ZI g b s.1 s.2)) (fun s=>s.1<=n/\(s.2=false->s.1<n)/\(s.2=true->s.1=n)) (fun s=>n - s.1) (0,false) ⟨Aj _,fun _=>by show 0<n;omega,fun h=>by cases h⟩ (zI ⟨[(1002000,97,3)],tA,⟨rfl,rfl,rfl,rfl,rfl,rfl,congrArg (fun x=>AV.v (.int .i64 x)) hw,rfl,tv⟩,tA,rfl,rfl,rfl⟩) ?_;rintro⟨k,sd⟩ ⟨hk,hf,ht⟩;simp only at hk hf ht;cases sd with
   | false=>
    have hk1:=hf rfl;obtain⟨x,y,z,hxy,hen⟩:=Vm (b.drop (9*k));have hu:=Jt (b.drop (9*k)) [4,4,1] (by decide) (by rw [Ak];omega) (by show 3<=1000;decide) (by rw [Ak];show 9<=_;omega);rw [hxy] at hu;have hst:=entsOf_step k b;have hel:=entsOf_len k b;conv=>whnf
    refine A6 (fun h6=>?_) (fun h6=>?_) <;> (repeat rw [Aa] at h6) <;> conv=>whnf
    ·refine zQ hu.go ?_;refine⟨rfl,?_⟩;conv=>whnf
     refine zY [bA (b.drop (9*k)),iA [4,4,1]] ⟨ri,(BT (l:= [4,4,1]) rfl).1,tv⟩ ?_;refine zW (hu) rfl ?_;rintro _ _ ⟨rfl,rfl⟩;conv=>whnf
     apply zz (0) tys_ok mixed (.o [0,1,2,3,4,5,6,7,8,9,10,11,12,13,14,15,16] .fin) [33,34,35,36,37,38,39,40,41,42,43,44,45,46,47,48] (by kernel_rfl)
     ·conv=>whnf
      try (first | (refine Af ⟨by decide,by decide⟩ ?_;(conv=>whnf);refine Af ⟨rfl,rfl,by decide⟩ ?_;(conv=>whnf)) | skip;conv=>whnf)
      try (refine tI ?_;conv=>whnf)
      try (first | (refine Af ⟨by decide,by decide⟩ ?_;(conv=>whnf);refine Af ⟨rfl,rfl,by decide⟩ ?_;(conv=>whnf)) | skip;conv=>whnf)
      try (refine tI ?_;conv=>whnf)
      try (first | (refine Af ⟨by decide,by decide⟩ ?_;(conv=>whnf);refine Af ⟨rfl,rfl,by decide⟩ ?_;(conv=>whnf)) | skip;conv=>whnf)
      try (refine tI ?_;conv=>whnf)
      try (first | (refine Af ⟨by decide,by decide⟩ ?_;(conv=>whnf);refine Af ⟨rfl,rfl,by decide⟩ ?_;(conv=>whnf)) | skip;conv=>whnf)
      try (refine tJ ?_;conv=>whnf)
      try (refine tK ?_;conv=>whnf)
      try (refine tS ?_;conv=>whnf)
      (skip)
      exact tA
     conv=>whnf
     have hes:(entsOf k b).map CX ++ [[iv x,iv y, .v (.bool (z == 1))]]=(entsOf (k+1) b).map CX:=by rw [hst,A0,hen];try rfl
     have hdr:bA ((b.drop (9*k)).drop 9)=bA (b.drop (9*(k+1))):=by rw [AT];try rfl
     by_cases hlast:k+1<n
     ·exact⟨(k+1,false),⟨by show k+1<=n;omega,fun _=>hlast,fun h=>by cases h⟩,by show n - (k+1)<n - k;omega,zI ⟨[],tv,⟨rfl,rfl,rfl,rfl,rfl,hdr,rfl,AR (by omega),tv⟩,⟨rfl,rfl,rfl,congrArg (AB.row _ _) hes.symm,tv⟩,rfl,rfl,rfl⟩⟩
     ·refine⟨(k+1,true),⟨by show k+1<=n;omega,(fun h=>by cases h),fun _=>by show k+1=n;omega⟩,by show n - (k+1)<n - k;omega,_,zo 2 3 (es':=(entsOf (k+1) b).map CX) (cs2:= [.sl 3 ((entsOf (k+1) b).map CX).length fun i=>((entsOf (k+1) b).map CX).getD i []]) rfl (congrArg (fun e=>some (AB.row _ _ e)) hes) ?_, [],tv,⟨rfl,rfl,rfl,rfl,rfl,hdr,rfl,AR (by omega),tv⟩,tA,rfl,rfl,rfl⟩;have hel2:k+1=((entsOf (k+1) b).map CX).length:=by rw [Ac,entsOf_len]
      show [AV.slIn 3 _ _ (.ow 3 (k+1))]=_;rw [AV.slIn,if_pos rfl,if_pos hel2]
    ·exfalso;omega
   | true=>
    have hk1:=ht rfl;subst hk1;have hlen:=entsOf_len k b;have esub:∀ (c:Ctx) (u:Value),Rd (.sl 3 ((entsOf k b).map CX).length fun i=>((entsOf k b).map CX).getD i []) c u->Rd (BP (entsOf k b)) c u:=fun c u h=>
     zH (by rw [Ac]) (fun i hi=>Bf (f:=CX) (d:=⟨0,0,false⟩) (by rw [Ac] at hi;exact hi)) h
    have hb:=My g (entsOf k b) (by omega);have hq:=VP (CL (entsOf k b)) b;have hRR:Cb g b=if FB g (entsOf k b)=true/\CL (entsOf k b)=b then some (entsOf k b) else none:=by rw [Cb,hnn]
    conv=>whnf
    refine A6 (fun h6=>?_) (fun h6=>?_) <;> (repeat rw [Aa] at h6) <;> conv=>whnf
    ·exfalso;omega
    ·refine zY [.ag (Ba g), .ag [BP (entsOf k b)]] ⟨ri,Bk ⟨esub,tv⟩,tv⟩ ?_;cases hok:FB g (entsOf k b) with
     | false=>
      rw [hok] at hb;have hN:Cb g b=none:=by rw [hRR,if_neg (fun h=>by rw [hok] at h;cases h.1)]
      rw [show DG g b=4 by rw [DG,if_neg (by rw [hg];decide),hN];try rfl,hN];refine z_ hb ?_;exact⟨_,K0 4,rfl⟩
     | true=>
      rw [hok] at hb;by_cases he:CL (entsOf k b)=b
      ·have hN:Cb g b=some (entsOf k b):=by rw [hRR,if_pos ⟨hok,he⟩]
       rw [show DG g b=0 by rw [DG,if_neg (by rw [hg];decide),hN];try rfl,hN];rw [decide_eq_true he] at hq;refine z_ hb ?_;conv=>whnf
       refine z_ hq ?_;exact⟨.tp [.ag [BP (entsOf k b)],iv 0],fun c v h=>by
        have e1:SubL [.ag [.sl 3 ((entsOf k b).map CX).length fun i=>((entsOf k b).map CX).getD i []],iv 0] [.ag [BP (entsOf k b)],iv 0]:=⟨Bk ⟨esub,tv⟩,ri,tv⟩;simp only [Rd] at h |-
        obtain⟨xs,rfl,h⟩:=h;exact⟨_,rfl,e1.rdl (c:=c) (xs:=xs) (by simpa only [RdL,Rd] using h)⟩,rfl⟩
      ·have hN:Cb g b=none:=by rw [hRR,if_neg (fun h=>he h.2)]
       rw [show DG g b=4 by rw [DG,if_neg (by rw [hg];decide),hN];try rfl,hN];rw [decide_eq_false he] at hq;refine z_ hb ?_;conv=>whnf
       refine z_ hq ?_;exact⟨_,K0 4,rfl⟩
  ·have hN:Cb g b=none:=OP (by rw [hnn];omega);rw [show DG g b=4 by rw [DG,if_neg (by rw [hg];decide),hN];try rfl,hN];refine zT Tryz.func135 rfl ?_;conv=>whnf
   refine z_ hG ?_;conv=>whnf
   refine zq Nat (fun k=>([(1,bA b),(2, .bp 0 0),(4, .bp 1 0),(5,iv 0),(6, .bp 2 0),(7,bA (b.drop (9*k))),(20,iv n),(21,iv k)],ZI g b k false)) (fun k=>k<=n/\9*k<=b.length) (fun k=>n - k) 0 ⟨Aj _,Aj _⟩ (zI ⟨[(1002000,97,3)],tA,⟨rfl,rfl,rfl,rfl,rfl,rfl,congrArg (fun x=>AV.v (.int .i64 x)) hw,rfl,tv⟩,tA,rfl,rfl,rfl⟩) ?_;rintro k ⟨hk,hkb⟩;conv=>whnf
   refine A6 (fun h6=>?_) (fun h6=>?_) <;> (repeat rw [Aa] at h6) <;> conv=>whnf
   ·by_cases h9:9*(k+1)<=b.length
    ·obtain⟨x,y,z,hxy,hen⟩:=Vm (b.drop (9*k));have hu:=Jt (b.drop (9*k)) [4,4,1] (by decide) (by rw [Ak];omega) (by show 3<=1000;decide) (by rw [Ak];show 9<=_;omega);rw [hxy] at hu;have hst:=entsOf_step k b;have hel:=entsOf_len k b;refine zQ hu.go ?_;refine⟨rfl,?_⟩;conv=>whnf
     refine zY [bA (b.drop (9*k)),iA [4,4,1]] ⟨ri,(BT (l:= [4,4,1]) rfl).1,tv⟩ ?_;refine zW (hu) rfl ?_;rintro _ _ ⟨rfl,rfl⟩;conv=>whnf
     apply zz (0) tys_ok mixed (.o [0,1,2,3,4,5,6,7,8,9,10,11,12,13,14,15,16] .fin) [33,34,35,36,37,38,39,40,41,42,43,44,45,46,47,48] (by kernel_rfl)
     ·conv=>whnf
      try (first | (refine Af ⟨by decide,by decide⟩ ?_;(conv=>whnf);refine Af ⟨rfl,rfl,by decide⟩ ?_;(conv=>whnf)) | skip;conv=>whnf)
      try (refine tI ?_;conv=>whnf)
      try (first | (refine Af ⟨by decide,by decide⟩ ?_;(conv=>whnf);refine Af ⟨rfl,rfl,by decide⟩ ?_;(conv=>whnf)) | skip;conv=>whnf)
      try (refine tI ?_;conv=>whnf)
      try (first | (refine Af ⟨by decide,by decide⟩ ?_;(conv=>whnf);refine Af ⟨rfl,rfl,by decide⟩ ?_;(conv=>whnf)) | skip;conv=>whnf)
      try (refine tI ?_;conv=>whnf)
      try (first | (refine Af ⟨by decide,by decide⟩ ?_;(conv=>whnf);refine Af ⟨rfl,rfl,by decide⟩ ?_;(conv=>whnf)) | skip;conv=>whnf)
      try (refine tJ ?_;conv=>whnf)
      try (refine tK ?_;conv=>whnf)
      try (refine tS ?_;conv=>whnf)
      (skip)
      exact tA
     conv=>whnf
     have hes:(entsOf k b).map CX ++ [[iv x,iv y, .v (.bool (z == 1))]]=(entsOf (k+1) b).map CX:=by rw [hst,A0,hen];try rfl
     have hdr:bA ((b.drop (9*k)).drop 9)=bA (b.drop (9*(k+1))):=by rw [AT];try rfl
     exact⟨k+1,⟨by omega,h9⟩,by omega,zI ⟨[],tv,⟨rfl,rfl,rfl,rfl,rfl,hdr,rfl,AR (by omega),tv⟩,⟨rfl,rfl,rfl,congrArg (AB.row _ _) hes.symm,tv⟩,rfl,rfl,rfl⟩⟩
    ·have hu:=Ut (b.drop (9*k)) [4,4,1] (by decide) (by rw [Ak];omega) (by show 3<=1000;decide) (by rw [Ak];show _<9;omega);refine zQ hu.go ?_;refine⟨rfl,?_⟩;conv=>whnf
     refine zY [bA (b.drop (9*k)),iA [4,4,1]] ⟨ri,(BT (l:= [4,4,1]) rfl).1,tv⟩ ?_;refine z_ hu ?_;exact⟨_,K0 4,rfl⟩
   ·exfalso;have:k=n:=by omega
    subst this;omega
theorem JH (g:Geo) (x:Img) (hl:x.bytes.length<=100000):Fn Tryz.prog 125 [.ag (Ba g), .ag (Dv x)] fun r=>r = .v (Fv (Bz g x)):=by
 have hG:Fn Tryz.prog 51 [.ag (Ba g)] fun r=>r = .v (Fv (Bq g)):=DC g.z g.d g.sp g.sl g.an
 have ht:=KN g x.bytes hl;cases hg:Bq g with
 | false=>
  rw [hg] at hG;rw [show Bz g x=false by simp [Bz,hg]];refine zT Tryz.func125 rfl ?_;conv=>whnf
  refine z_ hG ?_;exact⟨_,ri,rfl⟩
 | true=>
  rw [hg] at hG ht;obtain⟨h1,h2,h3,h4,h5⟩:=Ar.1 hg;have hwz:IntKind.i64.wrap (g.z - 1)=g.z - 1:=IntWalk.i64_in _ (by omega);have hwd:IntKind.i64.wrap (g.d - 1)=g.d - 1:=IntWalk.i64_in _ (by omega);have hi1:=Ik x.zone 0 (g.z - 1);have hi2:=Ik x.what (-1) (g.d - 1);have hE:Bz g x=(C2 x.zone 0 (g.z - 1)&&(if x.what=255 then (Cb g x.bytes).isSome else C2 x.what (-1) (g.d - 1)&&decide (x.bytes.length=8))):=by rw [Bz,hg];try rfl
  rw [hE];cases hz:C2 x.zone 0 (g.z - 1) with
  | false=>
   rw [hz] at hi1;refine zT Tryz.func125 rfl ?_;conv=>whnf
   refine z_ hG ?_;conv=>whnf
   rw [hwz];refine z_ hi1 ?_;exact⟨_,ri,rfl⟩
  | true=>
   rw [hz] at hi1;by_cases hw:x.what=255
   ·rw [if_pos hw];cases hr:Cb g x.bytes with
    | none=>
     rw [show DG g x.bytes=4 by rw [DG,if_neg (by rw [hg];decide),hr];try rfl] at ht;refine zT Tryz.func125 rfl ?_;conv=>whnf
     refine z_ hG ?_;conv=>whnf
     rw [hwz];refine z_ hi1 ?_;conv=>whnf
     refine A6 (fun h=>?_) (fun h=>?_) <;> conv=>whnf
     ·refine z_ ht ?_;exact⟨_,ri,rfl⟩
     ·exact absurd hw h
    | some l=>
     rw [show DG g x.bytes=0 by rw [DG,if_neg (by rw [hg];decide),hr];try rfl] at ht;refine zT Tryz.func125 rfl ?_;conv=>whnf
     refine z_ hG ?_;conv=>whnf
     rw [hwz];refine z_ hi1 ?_;conv=>whnf
     refine A6 (fun h=>?_) (fun h=>?_) <;> conv=>whnf
     ·refine z_ ht ?_;exact⟨_,ri,rfl⟩
     ·exact absurd hw h
   ·rw [if_neg hw];cases hh:C2 x.what (-1) (g.d - 1) with
    | false=>
     rw [hh] at hi2;refine zT Tryz.func125 rfl ?_;conv=>whnf
     refine z_ hG ?_;conv=>whnf
     rw [hwz];refine z_ hi1 ?_;conv=>whnf
     refine A6 (fun h=>?_) (fun h=>?_) <;> conv=>whnf
     ·exact absurd h hw
     rw [hwd];refine z_ hi2 ?_;exact⟨_,ri,rfl⟩
    | true=>
     rw [hh] at hi2;refine zT Tryz.func125 rfl ?_;conv=>whnf
     refine z_ hG ?_;conv=>whnf
     rw [hwz];refine z_ hi1 ?_;conv=>whnf
     refine A6 (fun h=>?_) (fun h=>?_) <;> conv=>whnf
     ·exact absurd h hw
     rw [hwd];refine z_ hi2 ?_;conv=>whnf
     refine A6 (fun h=>?_) (fun h=>?_) <;> conv=>whnf
     ·exact⟨_,ri,by rw [decide_eq_false (by omega)];try rfl⟩
     ·exact⟨_,ri,by rw [decide_eq_true (by omega)];try rfl⟩
theorem Xn (x:Img):Fn Tryz.prog 279 [.ag (Dv x)] fun r=>r = .v (.bool (FC x)):=by
 refine zT Tryz.func279 rfl ?_;conv=>whnf
 repeat' (first | (refine Am (fun h=>?_) (fun h=>?_) <;> (try simp at h) <;> conv=>whnf) | (refine zJ tys_ok mixed (by kernel_rfl) ?_;conv=>whnf) | (refine zZ ?_;conv=>whnf) | (refine Af (by omega) ?_;conv=>whnf))
 all_goals exact⟨_,ri,by simp [FC, *]⟩
def Hd (r:Rc):AV:=if r.kind=0 then .v .nilIface else if r.kind=1 then .ic 344 [.ag (Dv r.img)] else if r.kind=2 then .ic 341 [.ag []] else .v .nilIface
theorem Ua (g:Geo) (r:Rc) (hl:r.img.bytes.length<=100000):Fn Tryz.prog 266 [.ag (Ba g), .ag (FQ r)] fun x=>x = .tp [Hd r, .v (.bool (Ef g r))]:=by
 have hi:=JH g r.img hl;have hn:=Xn r.img;have hw:C2 r.of_ 2 30=true->IntKind.i64.wrap (r.of_ - 2)=r.of_ - 2/\IntKind.i64.wrap (r.of_ - 1)=r.of_ - 1:=fun h=>by
  have:=AD.1 h;rw [IntKind.wrap_i64,IntKind.wrap_i64];omega
 by_cases h0:r.kind=0
 ·rw [show Hd r = .v .nilIface by rw [Hd,if_pos h0],Ef,if_pos h0];refine zT Tryz.func266 rfl ?_;conv=>whnf
  repeat' (first | (refine Am (fun h=>?_) (fun h=>?_) <;> (try simp at h) <;> conv=>whnf) | (refine zJ tys_ok mixed (by kernel_rfl) ?_;conv=>whnf) | (refine zZ ?_;conv=>whnf) | (refine z_ hn ?_;conv=>whnf) | (refine Af (by omega) ?_;conv=>whnf))
  all_goals first | (exfalso;simp_all;done) | (refine⟨_,fun _ _ h=>h,?_⟩;simp [*];done)
 by_cases h1:r.kind=1
 ·rw [show Hd r = .ic 344 [.ag (Dv r.img)] by rw [Hd,if_neg h0,if_pos h1],Ef,if_neg h0,if_pos h1];cases hI:Bz g r.img <;> rw [hI] at hi;all_goals
   refine zT Tryz.func266 rfl ?_;conv=>whnf
   repeat' (first | (refine Am (fun h=>?_) (fun h=>?_) <;> (try simp at h) <;> conv=>whnf) | (refine zJ tys_ok mixed (by kernel_rfl) ?_;conv=>whnf) | (refine zZ ?_;conv=>whnf) | (refine z_ (Ik _ _ _) ?_;conv=>whnf) | (refine z_ hi ?_;conv=>whnf) | (refine Af (by omega) ?_;conv=>whnf))
   all_goals first | (exfalso;simp_all;done) | (refine⟨.tp [.ic 344 [.ag (Dv r.img)], .v (.bool _)],fun _ _ h=>h,?_⟩;simp_all [EO];done) | trace_state
 by_cases h2:r.kind=2
 ·rw [show Hd r = .ic 341 [.ag []] by rw [Hd,if_neg h0,if_neg h1,if_pos h2],Ef,if_neg h0,if_neg h1,if_pos h2];refine zT Tryz.func266 rfl ?_;conv=>whnf
  repeat' (first | (refine Am (fun h=>?_) (fun h=>?_) <;> (try simp at h) <;> conv=>whnf) | (refine zJ tys_ok mixed (by kernel_rfl) ?_;conv=>whnf) | (refine zZ ?_;conv=>whnf) | (refine z_ (Ik _ _ _) ?_;conv=>whnf) | (refine z_ hn ?_;conv=>whnf) | (refine Af (by omega) ?_;conv=>whnf))
  all_goals first | (exfalso;simp_all;done) | (refine⟨.tp [.ic 341 [.ag []], .v (.bool _)],fun _ _ h=>h,?_⟩;simp_all [EO];done) | trace_state
 ·rw [show Hd r = .v .nilIface by rw [Hd,if_neg h0,if_neg h1,if_neg h2],Ef,if_neg h0,if_neg h1,if_neg h2];refine zT Tryz.func266 rfl ?_;conv=>whnf
  repeat' (first | (refine Am (fun h=>?_) (fun h=>?_) <;> (try simp at h) <;> conv=>whnf) | (refine zJ tys_ok mixed (by kernel_rfl) ?_;conv=>whnf) | (refine zZ ?_;conv=>whnf) | (refine z_ (Ik _ _ _) ?_;conv=>whnf) | (refine z_ hn ?_;conv=>whnf) | (refine Af (by omega) ?_;conv=>whnf))
  all_goals first | (exfalso;simp_all;done) | (refine⟨_,fun _ _ h=>h,?_⟩;rfl)
theorem sizes_own:ACalls Tryz.prog false 267 [] [] fun r H=>r = .ow 0 5/\H=[.row 3 1 (szR.map On)]:=by
 refine z7 tys_ok Tryz.func267 rfl rfl (Ag rfl) ?_;exact⟨.ow 0 5,_, [.row 3 1 (szR.map On)],fun _ _ h=>h,zI ⟨[],tv,tA,tA,rfl,rfl,rfl⟩,rfl,rfl⟩
theorem SM (g:Geo) (r:Rc) (hl:r.img.bytes.length<=100000):Fn Tryz.prog 237 [.ag (Ba g), .ag (FQ r)] fun x=>x = .tp [bA (if DP g r then Ek r else []), .v (Fv (DP g r))]:=by
 have hb:=Ua g r hl;have hG:Fn Tryz.prog 51 [.ag (Ba g)] fun r=>r = .v (Fv (Bq g)):=DC g.z g.d g.sp g.sl g.an
 have no:∀ (c:Ctx) (v:Value),Rd (.tp [.v (.slice none 0 0),iv 1]) c v->Rd (.tp [bA [],iv 1]) c v:=fun c v h=>by
  simp only [Rd,RdL] at h |-
  obtain⟨xs,rfl,y,ys,rfl,rfl,h⟩:=h;exact⟨_,rfl,_,_,rfl,Bn 1 (fun i=> [.v (.int .u8 (([]:List UInt8).getD i 0).toNat)]) c (.slice none 0 0) (by simp [Rd]),h⟩
 have hk:Hd r = .v .nilIface\/Hd r = .ic 344 [.ag (Dv r.img)]\/Hd r = .ic 341 [.ag []]:=by
  unfold Hd;split
  ·exact .inl rfl
  ·split
   ·exact .inr (.inl rfl)
   ·split
    ·exact .inr (.inr rfl)
    ·exact .inl rfl
 cases hok:DP g r with
 | false=>
  cases hg:Bq g with
  | false=>
   rw [hg] at hG;rcases hk with hk | hk | hk <;> rw [hk] at hb
   all_goals
    refine zT Tryz.func237 rfl ?_;conv=>whnf
    refine z_ hb ?_;conv=>whnf
    refine z_ hG ?_;exact⟨_,no,rfl⟩
  | true=>
   rw [hg] at hG;have hbo:Ef g r=false:=by simpa [DP,hg] using hok
   rw [hbo] at hb;rcases hk with hk | hk | hk <;> rw [hk] at hb
   all_goals
    refine zT Tryz.func237 rfl ?_;conv=>whnf
    refine z_ hb ?_;conv=>whnf
    refine z_ hG ?_;exact⟨_,no,rfl⟩
 | true=>
  have hg:Bq g=true:=by simp only [DP,Ad] at hok;exact hok.1
  have hbo:Ef g r=true:=by simp only [DP,Ad] at hok;exact hok.2
  rw [hg] at hG;rw [hbo] at hb;have hrow:=NF (Cu r) szR rfl (by show 5<=1000;decide) (ON hok);have fin0:∀ (L:List UInt8) (n:Nat) (es:List (List AV)),n=L.length->es=L.map Eo->∀ (c:Ctx) (v:Value),Rd (.tp [.sl 1 n fun i=>es.getD i [],iv 0]) c v->Rd (.tp [bA L,iv 0]) c v:=fun L n es hn he c v h=>by
   subst he;simp only [Rd,RdL] at h |-
   obtain⟨xs,rfl,y,ys,rfl,h1,h⟩:=h;exact⟨_,rfl,y,ys,rfl,zH (u:=y) hn (fun i hi=>Bf (f:=Eo) (l:=L) (d:=0) (hn ▸ hi)) (by simp only [Rd];exact h1),h⟩
  by_cases h1:r.kind=1
  ·have hI:Bz g r.img=true:=by
    rw [Ef,if_neg (by omega),if_pos h1] at hbo;simp only [Ad] at hbo;exact hbo.2.2
   have hs:=HM hI;have e1:=IP r;have e2:(rowB [r.img.zone,Da r.img.what] [1,1]).length=2:=by rw [tot_rowB [r.img.zone,Da r.img.what] [1,1] rfl];try rfl
   have hhead:=NF [r.img.zone,Da r.img.what] [1,1] rfl (by show 2<=1000;decide) (Pt hI);have hpart:=Vf r.img.bytes (by omega);rw [show Hd r = .ic 344 [.ag (Dv r.img)] by rw [Hd,if_neg (by omega),if_pos h1]] at hb;refine zT Tryz.func237 rfl ?_;conv=>whnf
   refine z_ hb ?_;conv=>whnf
   refine z_ hG ?_;conv=>whnf
   apply zV (0) tys_ok mixed (.o [0,1,2,3,4,5,6,7,8,9] (.two 10 (.o [11,12,13,14,15,16,17] .fin) 11 (.o [10,12,13,14,15,16,17] .fin))) (by kernel_rfl);refine Af ?_ ?_;conv=>whnf
   (refine zW sizes_own rfl ?_;rintro _ _ ⟨rfl,rfl⟩)
   conv=>whnf
   (refine zQ hrow.go ?_;(conv=>whnf);refine Af rfl ?_;(conv=>whnf);refine Af rfl ?_;(conv=>whnf);refine zY [iA (Cu r),iA szR] ⟨(BT (l:=Cu r) rfl).1,(BT (l:=szR) rfl).1,tv⟩ ?_;refine zW hrow rfl ?_;rintro _ _ ⟨rfl,rfl⟩)
   conv=>whnf
   rotate_left 1;conv=>whnf
   (refine zW sizes_own rfl ?_;rintro _ _ ⟨rfl,rfl⟩)
   conv=>whnf
   (refine zQ hrow.go ?_;(conv=>whnf);refine Af rfl ?_;(conv=>whnf);refine Af rfl ?_;(conv=>whnf);refine zY [iA (Cu r),iA szR] ⟨(BT (l:=Cu r) rfl).1,(BT (l:=szR) rfl).1,tv⟩ ?_;refine zW hrow rfl ?_;rintro _ _ ⟨rfl,rfl⟩)
   conv=>whnf
   rotate_left 1;all_goals
    refine zZ ?_;conv=>whnf
    refine A6 (fun h2=>?_) (fun h2=>?_) <;> conv=>whnf
    ·have hz:Da r.img.what=254:=by rw [Da,if_pos h2]
     refine zQ hhead.go ?_;refine⟨rfl,?_⟩;refine⟨rfl,?_⟩;conv=>whnf
     refine zY [iA [r.img.zone,Da r.img.what],iA [1,1]] ⟨(BT (l:= [r.img.zone,Da r.img.what]) (by rw [hz];try rfl)).1,(BT (l:= [1,1]) rfl).1,tv⟩ ?_;refine zW hhead rfl ?_;rintro _ _ ⟨rfl,rfl⟩;conv=>whnf
     refine zW (hpart) rfl ?_;rintro _ _ ⟨rfl,rfl⟩;refine⟨by simp,?_⟩;refine⟨⟨by simp,by omega⟩,?_⟩;refine⟨by simp,?_⟩;conv=>whnf
     refine Af ⟨by simp,by simp only [Ap];omega⟩ ?_;conv=>whnf
     refine Af (by simp;omega) ?_;conv=>whnf
     exact⟨.tp [bA (Ek r),iv 0],fin0 _ _ _ (by rw [Ek,if_pos h1,Hw];simp;omega) (by rw [Ek,if_pos h1,Hw];simp),rfl⟩
    ·have hz:Da r.img.what=r.img.what:=by rw [Da,if_neg h2]
     refine zQ hhead.go ?_;refine⟨rfl,?_⟩;refine⟨rfl,?_⟩;conv=>whnf
     refine zY [iA [r.img.zone,Da r.img.what],iA [1,1]] ⟨(BT (l:= [r.img.zone,Da r.img.what]) (by rw [hz];try rfl)).1,(BT (l:= [1,1]) rfl).1,tv⟩ ?_;refine zW hhead rfl ?_;rintro _ _ ⟨rfl,rfl⟩;conv=>whnf
     refine zW (hpart) rfl ?_;rintro _ _ ⟨rfl,rfl⟩;refine⟨by simp,?_⟩;refine⟨⟨by simp,by omega⟩,?_⟩;refine⟨by simp,?_⟩;conv=>whnf
     refine Af ⟨by simp,by simp only [Ap];omega⟩ ?_;conv=>whnf
     refine Af (by simp;omega) ?_;conv=>whnf
     exact⟨.tp [bA (Ek r),iv 0],fin0 _ _ _ (by rw [Ek,if_pos h1,Hw];simp;omega) (by rw [Ek,if_pos h1,Hw];simp),rfl⟩
  have hk2:Hd r = .v .nilIface\/Hd r = .ic 341 [.ag []]:=by
   rcases hk with h | h | h
   ·exact .inl h
   ·exfalso;unfold Hd at h;rw [if_neg h1] at h;split at h
    ·cases h
    ·split at h <;> simp at h
   ·exact .inr h
  rcases hk2 with hk | hk <;> rw [hk] at hb
  ·refine zT Tryz.func237 rfl ?_;conv=>whnf
   refine z_ hb ?_;conv=>whnf
   refine z_ hG ?_;conv=>whnf
   apply zV (0) tys_ok mixed (.o [0,1,2,3,4,5,6,7,8,9] (.two 10 (.o [11,12,13,14,15,16,17] .fin) 11 (.o [10,12,13,14,15,16,17] .fin))) (by kernel_rfl);refine Af ?_ ?_;conv=>whnf
   (refine zW sizes_own rfl ?_;rintro _ _ ⟨rfl,rfl⟩)
   conv=>whnf
   (refine zQ hrow.go ?_;(conv=>whnf);refine Af rfl ?_;(conv=>whnf);refine Af rfl ?_;(conv=>whnf);refine zY [iA (Cu r),iA szR] ⟨(BT (l:=Cu r) rfl).1,(BT (l:=szR) rfl).1,tv⟩ ?_;refine zW hrow rfl ?_;rintro _ _ ⟨rfl,rfl⟩)
   conv=>whnf
   rotate_left 1;conv=>whnf
   (refine zW sizes_own rfl ?_;rintro _ _ ⟨rfl,rfl⟩)
   conv=>whnf
   (refine zQ hrow.go ?_;(conv=>whnf);refine Af rfl ?_;(conv=>whnf);refine Af rfl ?_;(conv=>whnf);refine zY [iA (Cu r),iA szR] ⟨(BT (l:=Cu r) rfl).1,(BT (l:=szR) rfl).1,tv⟩ ?_;refine zW hrow rfl ?_;rintro _ _ ⟨rfl,rfl⟩)
   conv=>whnf
   rotate_left 1;all_goals
    refine⟨by simp,?_⟩;conv=>whnf
    exact⟨.tp [bA (rowB (Cu r) szR),iv 0],fin0 _ _ _ rfl rfl,by simp only [Ek,if_neg h1,AM,if_true];rfl⟩
  ·refine zT Tryz.func237 rfl ?_;conv=>whnf
   refine z_ hb ?_;conv=>whnf
   refine z_ hG ?_;conv=>whnf
   apply zV (0) tys_ok mixed (.o [0,1,2,3,4,5,6,7,8,9] (.two 10 (.o [11,12,13,14,15,16,17] .fin) 11 (.o [10,12,13,14,15,16,17] .fin))) (by kernel_rfl);refine Af ?_ ?_;conv=>whnf
   (refine zW sizes_own rfl ?_;rintro _ _ ⟨rfl,rfl⟩)
   conv=>whnf
   (refine zQ hrow.go ?_;(conv=>whnf);refine Af rfl ?_;(conv=>whnf);refine Af rfl ?_;(conv=>whnf);refine zY [iA (Cu r),iA szR] ⟨(BT (l:=Cu r) rfl).1,(BT (l:=szR) rfl).1,tv⟩ ?_;refine zW hrow rfl ?_;rintro _ _ ⟨rfl,rfl⟩)
   conv=>whnf
   rotate_left 1;conv=>whnf
   (refine zW sizes_own rfl ?_;rintro _ _ ⟨rfl,rfl⟩)
   conv=>whnf
   (refine zQ hrow.go ?_;(conv=>whnf);refine Af rfl ?_;(conv=>whnf);refine Af rfl ?_;(conv=>whnf);refine zY [iA (Cu r),iA szR] ⟨(BT (l:=Cu r) rfl).1,(BT (l:=szR) rfl).1,tv⟩ ?_;refine zW hrow rfl ?_;rintro _ _ ⟨rfl,rfl⟩)
   conv=>whnf
   rotate_left 1;all_goals
    refine⟨by simp,?_⟩;conv=>whnf
    exact⟨.tp [bA (rowB (Cu r) szR),iv 0],fin0 _ _ _ rfl rfl,by simp only [Ek,if_neg h1,AM,if_true];rfl⟩

theorem Vd (l:List Int) (j:Nat) (h:j<l.length):QE (l.take (j+1))=QE (l.take j) ++ leB 1 (l.getD j 0).toNat:=by
 have e:∀ n,n<=l.length->QE (l.take n)=rowB (l.take n) ((Fy l.length).take n):=fun n hn=>by
  rw [QE,As,Dr hn,Fy,Fy,List.take_replicate,Dr hn]
 rw [e _ (by omega),e _ (by omega),rowB_step l (Fy l.length) j h (by rw [IU];exact h)];simp [Fy,Ab,Ae h]
theorem RN (l:List Int):(QE l).length=l.length:=by rw [QE,tot_rowB _ _ (IU _).symm,tot_ones]
def I7 (a:An) (k:Nat):List UInt8:=rowB (Mp a) szA ++ HY a.label ++ ((a.homes.take k).map NX).flatten
theorem Ud (a:An) (k:Nat) (h:k<a.homes.length):I7 a (k+1)=I7 a k ++ NX (a.homes.getD k ⟨[],0,0⟩):=by
 rw [I7,I7,AN h,A0,BY,A7];simp only [A8,BM,AP,List.flatten_nil,AM,Ab,Ae h,BE,A7]
theorem Wz (a:An):I7 a a.homes.length=LY a:=by rw [I7,Ay,LY]
theorem Z3 {g:Geo} {a:An} (hg:Bq g=true) (ha:Bv g a=true):∀ k (_:k<(Mp a).length) (_:k<szA.length),EK szA[k]/\0<=(Mp a)[k]/\(Mp a)[k]<Df szA[k]:=by
 obtain⟨g1,g2,g3,g4,g5⟩:=Ar.1 hg;simp only [Bv,Ad,decide_eq_true_eq,AX,BD,Bx,AD,Av] at ha;obtain⟨⟨q1,q2,q3,q4⟩,_,_,q5,q6,q7,q8⟩:=ha;intro k p _;have hk:k=0\/k=1\/k=2\/k=3\/k=4:=by simp [Mp] at p;omega
 have l4:Df 4=4294967296:=rfl;have l1:Df 1=256:=rfl;rcases hk with rfl | rfl | rfl | rfl | rfl
 ·exact⟨.inr (.inr rfl),q1.1,by show a.gen<Df 4;omega⟩
 ·exact⟨.inr (.inr rfl),q2.1,by show a.epoch<Df 4;omega⟩
 ·exact⟨.inr (.inr rfl),q3.1,by show a.seq<Df 4;omega⟩
 ·exact⟨.inr (.inr rfl),q4.1,by show a.last<Df 4;omega⟩
 ·exact⟨.inl rfl,q5.1,by show a.pos<Df 1;omega⟩
theorem G4 {g:Geo} {a:An} (hg:Bq g=true) (ha:Bv g a=true) (k:Nat) (hk:k<=a.homes.length):(I7 a k).length<=200/\a.homes.length<=4/\FF a.label.data.toList=0/\a.label.size<=24/\(∀ h∈a.homes,DL g h=true):=by
 obtain⟨g1,g2,g3,g4,g5⟩:=Ar.1 hg;simp only [Bv,Ad,decide_eq_true_eq,AX,BD,Bx,AD,Av] at ha;obtain⟨_,_,_,q5,q6,q7,q8⟩:=ha;have h24:=I_ q6;have hs:a.label.size=a.label.data.toList.length:=rfl;have hr:(rowB (Mp a) szA).length=17:=tot_rowB _ _ rfl;have hm:((a.homes.take k).map NX).flatten.length=(a.homes.take k).length*(g.d.toNat+6):=(K7 hg (a.homes.take k) fun h hh=>q8 h (Cf hh)).2;have hk4:(a.homes.take k).length<=4:=by rw [As];omega
 have hmul:(a.homes.take k).length*(g.d.toNat+6)<=4*10:=Dh hk4 (by omega);refine⟨?_,by omega,q6,by omega,q8⟩;rw [I7,Ai,Ai,hr,Gv,hm];omega
theorem Rl {L:List UInt8} {n:Nat} {es:List (List AV)} (hn:n=L.length) (he:es=L.map Eo) (c:Ctx) (v:Value) (h:Rd (.sl 1 n fun i=>es.getD i []) c v):Rd (bA L) c v:=by
 subst he;exact zH hn (fun i hi=>Bf (f:=Eo) (l:=L) (d:=0) (hn ▸ hi)) h
theorem Ho {α:Type} {d:α} {β:Type} (f:α->β) (l:List α):(List.range l.length).map (fun i=>f (l.getD i d))=l.map f:=by
 refine List.ext_getElem (by simp) fun i h1 h2=>?_
 simp only [Ac,Cc] at h1;simp [Ab,Ae h1]
theorem Wh (L:List UInt8):((List.range L.length).map fun i=> [AV.v (Value.int IntKind.u8 ((L.getD i 0).toNat:Int))])=L.map Eo:=Ho (d:=0) Eo L
section
variable {P:Program} {T:Tys} {w0:Fl} {M0:Ms} {n d0:Nat} {ce:Ctx} {l m:Nat}
theorem NE {row:String} {args:Array Value} {w:World} {R:Value->World->Prop} (h:Rows P row args w R):RowsIn (Fence.wide.inRound l) m P row args w R:=
 fun c cs _=>let ⟨v,w',r,s⟩:=h c cs;⟨v,w',r,stepsIn_wide.2 s⟩
theorem GF {o:Oper} {a:Act} {w:World} {next:Act->World->Prop} {Q:Exit->Act->World->Prop} (hd:∀ c,o.op≠ .defer c) (h:o.wp P a w next Q):o.wpIn (Fence.wide.inRound l) m P a w next Q:=by
 refine⟨fun _ _=>trivial,?_⟩;rw [show (Fence.wide.inRound l).round=some l from rfl,Oper.semAt_some l a.eval o hd];unfold Oper.wp at h;revert h;generalize (execOp a.eval o).run P w=r;intro h;cases r with
 | ok x w'=>
  cases x with
  | value v=>exact h
  | skip=>exact h
  | defer d=>exact h
  | enter f args=>exact⟨fun e=>(by cases e),CallsIn.inRound l (callsIn_wide.2 h)⟩
  | row r args=>exact⟨fun e=>(by cases e),NE h⟩
  | _=>exact h.elim
 | halt x w'=>
  cases x with
  | panic v=>exact h
  | _=>exact h.elim
def roundOk:Code->Bool
 | .skip=>true
 | .exit _=>true
 | .ret=>true
 | .region _ ops draw=>!draw&&ops.toList.all Zi
 | .seq a b=>roundOk a&&roundOk b
 | .cond _ a b=>roundOk a&&roundOk b
 | .block _ c=>roundOk c
 | .rangeFunc _ _ _ body=>noRF body
 | _=>false
theorem Yx {o:Oper} (h:Zi o=true):∀ c,o.op≠ .defer c:=by
 intro c e;unfold Zi at h;rw [e] at h;cases h
theorem Io (hT:TOk P T) {ops:Array Oper} {K:Fr->List AB->Prop} {Q:Exit->Act->World->Prop} (hq:∀ a w,DQ w0 M0 ce n K a w->Q .normal a w) :
  ∀ (r:List Oper) (c:Ctx) (fr:Fr) (H:List AB) (a:Act),r.all Zi=true->HS w0 M0 c H->FR w0 c n fr a->Ext ce c->NO P T n ops.toList r fr H K->wpListIn (Fence.wide.inRound l) m P ops Q r a c.w
 | [],c,fr,H,a,_,hs,hf,he,h=>hq _ _ ⟨c,fr,H,rfl,h,hs,hf,he⟩
 | o::r,c,fr,H,a,hr,hs,hf,he,h=>by
  simp only [AX,Ad] at hr;simp only [NO] at h;unfold wpListIn;rcases Dw (ops:=ops) hf h with ⟨hw,fr',hf',h⟩ | ⟨hw,fr',hf',h⟩
  ·rw [if_pos hw];refine GF (Yx hr.1) (Fm hT hs hf' he h ?_);rintro a' w' ⟨c',fr2,H',rfl,h1,h2,h3,h4⟩ -
   exact Io hT hq r c' fr2 H' a' hr.2 h2 h3 h4 h1
  ·rw [if_neg (by rw [hw];simp)];obtain⟨fr2,h1,h2⟩:=Ct (v:=undef) hf' (by simp [Rd]) h;exact⟨fun _ _=>trivial,Io hT hq r c fr2 H _ hr.2 hs h2 he h1⟩
theorem Cw (hT:TOk P T) (hd:ce.dom=d0):∀ (cd:Code) (Q:QA) (Q':Exit->Act->World->Prop) (c:Ctx) (fr:Fr) (H:List AB) (a:Act),roundOk cd=true->(noRF cd=true\/(3<=m/\∃ r,ce.w.heap[l]? = some (.loop r)/\¬ce.M l))->(∀ e a w,LiftQ w0 M0 ce n Q e a w->Q' e a w)->HS w0 M0 c H->FR w0 c n fr a->Ext ce c->
  Cp P T n d0 cd Q fr H->cd.wpIn (Fence.wide.inRound l) m P Q' a c.w
 | .skip,Q,Q',c,fr,H,a,_,_,hq,hs,hf,he,h=>wpIn_skip (hq .normal _ _ ⟨c,fr,H,rfl,h,hs,hf,he⟩)
 | .region id ops draw,Q,Q',c,fr,H,a,hr,hm,hq,hs,hf,he,h=>by
  simp only [roundOk,Ad,Bp] at hr;obtain⟨rfl,hr⟩:=hr;simp only [Cp] at h;exact wpIn_region_list (Io hT (fun a w hl=>hq .normal a w hl) ops.toList c fr H a hr hs hf he h)
 | .seq x y,Q,Q',c,fr,H,a,hr,hm,hq,hs,hf,he,h=>by
  simp only [roundOk,Ad] at hr;have hm1:=hm.imp_left fun h=>(by simp only [noRF,Ad] at h;exact h.1)
  have hm2:=hm.imp_left fun h=>(by simp only [noRF,Ad] at h;exact h.2)
  simp only [Cp] at h;have plain:Cp P T n d0 x (EX.then (fun fr H=>Cp P T n d0 y Q fr H) Q) fr H->(Code.seq x y).wpIn (Fence.wide.inRound l) m P Q' a c.w:=by
   intro h;refine wpIn_seq_k fun K hK=>Cw hT hd x _ _ c fr H a hr.1 hm1 (zF ?_ hq) hs hf he h
   rintro a' w' ⟨c',fr',H',rfl,h1,h2,h3,h4⟩;exact hK _ _ (Cw hT hd y Q Q' c' fr' H' a' hr.2 hm2 hq h2 h3 h4 h1)
  split at h
  ·rcases h.ex with h | ⟨ι,st,I,h,hk⟩ | ⟨ι,st,I,h,hk⟩ | ⟨ι,st,I,h,hk⟩
   ·exact plain h
   ·refine wpIn_seq_k fun K hK=>Cw hT hd x _ _ c fr H a hr.1 hm1 (zF ?_ hq) hs hf he h
    rintro a' w' ⟨c',fr',H',rfl,⟨z,hI,hw⟩,h2,h3,h4⟩;obtain⟨c4,e4,hs4,hf4,he4⟩:=hw.sound hd h2 h3 h4;rw [<-e4];exact hK _ _ (Cw hT hd y Q Q' c4 _ _ a' hr.2 hm2 hq hs4 hf4 he4 (hk z hI))
   ·refine wpIn_seq_k fun K hK=>Cw hT hd x _ _ c fr H a hr.1 hm1 (zF ?_ hq) hs hf he h
    rintro a' w' ⟨c',fr',H',rfl,⟨z,hI,hw⟩,h2,h3,h4⟩;obtain⟨c4,e4,hs4,hf4,he4⟩:=hw.sound hd h2 h3 h4;rw [<-e4];exact hK _ _ (Cw hT hd y Q Q' c4 _ _ a' hr.2 hm2 hq hs4 hf4 he4 (hk z hI))
   ·refine wpIn_seq_k fun K hK=>Cw hT hd x _ _ c fr H a hr.1 hm1 (zF ?_ hq) hs hf he h
    rintro a' w' ⟨c',fr',H',rfl,⟨z,hI,hw⟩,h2,h3,h4⟩;obtain⟨c4,e4,hs4,hf4,he4⟩:=hw.sound hd h2 h3 h4;rw [<-e4];exact hK _ _ (Cw hT hd y Q Q' c4 _ _ a' hr.2 hm2 hq hs4 hf4 he4 (hk z hI))
  ·exact plain h
 | .cond x y z,Q,Q',c,fr,H,a,hr,hm,hq,hs,hf,he,h=>by
  simp only [roundOk,Ad] at hr;have hm1:=hm.imp_left fun h=>(by simp only [noRF,Ad] at h;exact h.1)
  have hm2:=hm.imp_left fun h=>(by simp only [noRF,Ad] at h;exact h.2)
  simp only [Cp] at h;split at h
  ·rename_i t ht;have hrd:=hf.ev x;rw [ht] at hrd;simp only [Rd] at hrd;obtain⟨h1,h2⟩:=E1 h;refine wpIn_cond_split hrd (fun e=>?_) fun e=>?_
   ·exact Cw hT hd y Q Q' c fr H a hr.1 hm1 hq hs hf he (h1 e)
   ·exact Cw hT hd z Q Q' c fr H a hr.2 hm2 hq hs hf he (h2 e)
  ·exact h.elim
 | .block id x,Q,Q',c,fr,H,a,hr,hm,hq,hs,hf,he,h=>by
  simp only [roundOk] at hr;simp only [noRF] at hm;simp only [Cp] at h;refine wpIn_block (Cw hT hd x _ _ c fr H a hr hm ?_ hs hf he h);intro e a' w' hl;cases e with
  | normal=>exact hq .normal _ _ hl
  | exit i=>
   simp only [Exit.inBlock];have hl:DQ w0 M0 ce n (match Nat.beq i id with | true=>Q .normal | false=>Q (.exit i)) a' w':=by
    have e:(EX.inBlock id Q (EX.exit i))=(match Nat.beq i id with | true=>Q .normal | false=>Q (.exit i)):=by
     funext fr H;simp only [EX.inBlock];cases Nat.beq i id <;> rfl
    rw [<-e];exact hl
   by_cases hi:i=id
   ·subst hi;rw [if_pos rfl];rw [Nat.beq_refl] at hl;exact hq .normal _ _ hl
   ·rw [if_neg hi];have hb:Nat.beq i id=false:=by
     cases hq:Nat.beq i id with
     | true=>exact absurd (Al hq) hi
     | false=>rfl
    rw [hb] at hl;exact hq (.exit i) _ _ hl
  | ret=>exact hq .ret _ _ hl
  | _=>exact hl.elim
 | .exit id,Q,Q',c,fr,H,a,_,_,hq,hs,hf,he,h=>wpIn_exit (hq (.exit id) _ _ ⟨c,fr,H,rfl,h,hs,hf,he⟩)
 | .ret,Q,Q',c,fr,H,a,_,_,hq,hs,hf,he,h=>wpIn_ret (hq .ret _ _ ⟨c,fr,H,rfl,h,hs,hf,he⟩)
 | .loop _,_,_,_,_,_,_,hr,_,_,_,_,_,_=>by simp [roundOk] at hr
 | .rangeFunc g ps asg body,Q,Q',c,fr,H,a,hr,hm,hq,hs,hf,he,h=>by
  simp only [roundOk] at hr;rcases hm with hm | ⟨hm,r,h1,h2⟩
  ·simp [noRF] at hm
  ·simp only [Cp] at h;have hk:=he.keep l (Au.1 h1).1 h2;exact h.wpR hr w0 M0 ce c a hs hf he hd l r m (hk.2.trans h1) hm Q' fun ex c' fr' H' a' q1 q2 q3 q4=>by
    cases ex <;> exact hq _ _ _ ⟨c',fr',H',rfl,q1,q2,q3,q4⟩
 | .label _,_,_,_,_,_,_,hr,_,_,_,_,_,_=>by simp [roundOk] at hr
 | .goto _,_,_,_,_,_,_,hr,_,_,_,_,_,_=>by simp [roundOk] at hr
 | .scope _,_,_,_,_,_,_,hr,_,_,_,_,_,_=>by simp [roundOk] at hr
 | .refuse _,_,_,_,_,_,_,hr,_,_,_,_,_,_=>by simp [roundOk] at hr
end
def Dc (n j:Nat):List Nat:=(List.range j).map fun i=>n - 1 - i
structure IsBack (P:Program) (gf:FuncId) (sz:Nat):Prop where
 enters:∀ args w,(callFunc gf args).run P w = .ok (.enter gf args) w
 seq:∀ (m:Nat),1<=m->∀ (B:Nat) (a:Option Addr) (len cap:Nat) (X:Nat->List Value) (w:World),len<=1000000000->w.cell? ⟨B,0,none⟩=some (.slice a len cap)->(∀ j,(X j).length=sz)->
  (0<len->∃ b off,a=some ⟨b,off,none⟩/\b<w.heap.size/\∀ j,j<len->∀ (i:Nat) (u:Value),(X j)[i]? = some u->w.cell? ⟨b,off+j*sz+i,none⟩=some u)->
  SeqStopsK Fence.wide m P gf #[.pointer (some ⟨B,0,none⟩)] (fun x:Fin len=> #[Value.int .i64 x.val, .agg (X x.val).toArray]) (Below w.heap.size) (fun ys=>ys.map Fin.val=Dc len len) (fun pre=>∃ k,k<=len/\pre.map Fin.val=Dc len k) len w

section
variable {P:Program} {T:Tys} {w0:Fl} {M0:Ms} {n d0:Nat} {ce:Ctx}
theorem RdAt.raw:∀ (l:List AV) {c:Ctx} {b off:Nat},RdAt l c b off->RdL l c ((List.range' off l.length).map fun i=>(c.w.cell? ⟨b,i,none⟩).getD undef)
 | [],_,_,_,_=>by simp [RdL]
 | x::l,c,b,off,h=>by
  simp only [RdAt] at h;obtain⟨⟨u,h1,_,h3⟩,h4⟩:=h;simp only [Ap,List.range'_succ,A8,RdL];exact⟨_,_,rfl,by rw [h1];exact h3,RdAt.raw l h4⟩
theorem RdAt.some:∀ (l:List AV) {c:Ctx} {b off:Nat},RdAt l c b off->∀ i,i<l.length->∃ u,c.w.cell? ⟨b,off+i,none⟩=some u
 | [],_,_,_,_,i,hi=>by simp at hi
 | x::l,c,b,off,h,i,hi=>by
  simp only [RdAt] at h;obtain⟨⟨u,h1,_,h3⟩,h4⟩:=h;cases i with
  | zero=>exact⟨u,h1⟩
  | succ i=>
   obtain⟨v,hv⟩:=RdAt.some l h4 i (by simpa using hi);exact⟨v,by rw [show off+(i+1)=off+1+i by omega];exact hv⟩
def noIter:List AB->Bool
 | []=>true
 | .iter _ _::_=>false
 | _::r=>noIter r
theorem noIter_get:∀ {H:List AB},noIter H=true->∀ (k:Nat) (s:ByteArray) (p:Nat),H[k]? ≠some (.iter s p)
 | [],_,_,_,_,h=>by simp at h
 | x::r,h,k,s,p,hk=>by
  cases k with
  | zero=>simp at hk;subst hk;simp [noIter] at h
  | succ k=>
   simp at hk;refine noIter_get (H:=r) ?_ k s p hk;cases x <;> first | exact h | (simp [noIter] at h)
theorem HS.cells {c:Ctx} {H:List AB} (h:HS w0 M0 c H) (hni:noIter H=true) {k:Nat} {x:AB} {g:Nat} (hk:H[k]? = some x) (hl:x.live=true) (hg:oB (c.rho k)=some g):∃ o:Obj,c.w.heap[g]? = some o/\o.isCells=true:=by
 have hx:=h.blk k x hk;cases x with
 | dead=>cases hl
 | iter s p=>exact absurd hk (noIter_get hni k s p)
 | box t cs=>
  obtain⟨g',xs,h1,h2,_⟩:=hx;rw [h1] at hg;simp only [oB,Option.some.injEq] at hg;subst hg;exact⟨_,h2,rfl⟩
 | row t sz es=>
  obtain⟨_,_,_,xs,⟨_,h4⟩,_⟩:=hx;rcases h4 with ⟨e,_⟩ | ⟨g',cap,cur,e,_,hh,_⟩
  ·rw [e] at hg;cases hg
  ·rw [e] at hg;simp only [oB,Option.some.injEq] at hg;subst hg;exact⟨_,hh,rfl⟩
 | rowo t sz es m=>
  obtain⟨_,_,_,_,xs,⟨_,h4⟩,_⟩:=hx;rcases h4 with ⟨e,_⟩ | ⟨g',cap,cur,e,_,hh,_⟩
  ·rw [e] at hg;cases hg
  ·rw [e] at hg;simp only [oB,Option.some.injEq] at hg;subst hg;exact⟨_,hh,rfl⟩
theorem HS.turn {c:Ctx} {H:List AB} (h:HS w0 M0 c H) (hni:noIter H=true) {B0:Nat} (hB:w0.w.heap.size<=B0) {W':World} {row:Option Nat} (hg:c.w.grownBy W' row) (hr:∀ r,row=some r->B0<=r/\∃ o:Obj,c.w.heap[r]? = some o/\o.isCells=false) :
  HS w0 M0 { c with w:=W' } H/\Like c { c with w:=W' }:=by
 have hoth:∀ (g:Nat) (o:Obj),c.w.heap[g]? = some o->o.isCells=true->W'.heap[g]? = c.w.heap[g]? :=by
  intro g o ho hc;refine hg.block g (Au.1 ho).1 fun e=>?_
  obtain⟨_,o',ho',hc'⟩:=hr g e.symm;rw [ho] at ho';cases ho';rw [hc] at hc';cases hc'
 have hl:Like c { c with w:=W' }:=by
  refine⟨rfl,hg.size,fun a u hu=>?_,rfl,rfl,rfl⟩;obtain⟨o,ho,hc⟩:=cells_of_cell hu;exact(World.cell?_of_block (hoth _ _ ho hc)).trans hu
 refine⟨⟨⟨hg.os.trans h.low.os,hg.tape.trans h.low.tape,hg.output.trans h.low.output,Bo h.low.size hg.size,fun b hb=>?_⟩,h.base,h.dom,h.foreign,fun b hm=>Aq (h.lt b hm) hg.size,fun k x hk=>?_,h.own,h.dis⟩,hl⟩
 ·rw [<-h.low.block b hb];have hb':=w0.lt b hb;refine hg.block b (Aq hb' h.low.size) fun e=>?_
  have:=(hr b e.symm).1;omega
 ·have hx:=h.blk k x hk;cases x with
  | dead=>trivial
  | iter s p=>exact absurd hk (noIter_get hni k s p)
  | box t cs=>
   obtain⟨g,xs,h1,h2,h3,h4⟩:=hx;exact⟨g,xs,h1,(hoth g _ h2 rfl).trans h2,RdL.like cs hl h3,h4⟩
  | row t sz es=>
   obtain⟨h1,h2,h3,xs,h4,h5,h6⟩:=hx;refine⟨h1,h2,h3,xs,?_,RdL.like _ hl.closed h5,h6⟩;refine⟨h4.1,h4.2.imp id ?_⟩;rintro⟨g,cap,cur,q1,q2,q3,q4⟩;exact⟨g,cap,cur,q1,q2,(hoth g _ q3 rfl).trans q3,q4⟩
  | rowo t sz es m=>
   obtain⟨h1,h2,h3,h3',xs,h4,h5,h6⟩:=hx;refine⟨h1,h2,h3,h3',xs,?_,RdL.like _ hl h5,h6⟩;refine⟨h4.1,h4.2.imp id ?_⟩;rintro⟨g,cap,cur,q1,q2,q3,q4⟩;exact⟨g,cap,cur,q1,q2,(hoth g _ q3 rfl).trans q3,q4⟩
theorem Ext.turn {c0 c:Ctx} (h:Ext c0 c) {B0:Nat} (hB:c0.w.heap.size<=B0) {W':World} {row:Option Nat} (hg:c.w.grownBy W' row) (hr:∀ r,row=some r->B0<=r/\∃ o:Obj,c.w.heap[r]? = some o/\o.isCells=false):Ext c0 { c with w:=W' }:=
 ⟨hg.os.trans h.os,hg.tape.trans h.tape,hg.output.trans h.output,Bo h.size hg.size,fun b hb hm=>⟨(h.keep b hb hm).1,(hg.block b (Aq hb h.size) fun e=>by have:=(hr b e.symm).1;omega).trans (h.keep b hb hm).2⟩,h.dom,h.len,h.rho,h.box⟩
def Ctx.slim (c:Ctx) (B0:Nat) (H:List AB):Ctx:={ c with M:=fun b=>c.M b/\(b<B0\/∃ (j:Nat) (y:AB),H[j]? = some y/\y.live=true/\oB (c.rho j)=some b) }
theorem HS.slim {c:Ctx} {H:List AB} (h:HS w0 M0 c H) {B0:Nat} (hB:w0.w.heap.size<=B0):HS w0 M0 (c.slim B0 H) H/\Ext c (c.slim B0 H):=by
 have he:Ext c (c.slim B0 H):=⟨rfl,rfl,rfl,Ah _,fun b _ hm=>⟨fun h=>hm h.1,rfl⟩,Ah _,fun _ _=>Ah _,fun _ _ _=>rfl,fun _ _ _ h=>h⟩;refine⟨⟨h.low,h.base,h.dom,fun b hb=>⟨fun hm=>(h.foreign b hb).1 hm.1,fun hm=>⟨(h.foreign b hb).2 hm, .inl (Aq (w0.lt b hb) hB)⟩⟩,fun b hm=>h.lt b hm.1,fun k x hk=>?_,fun k x g hk hl ho=>⟨⟨(h.own k x g hk hl ho).1, .inr ⟨k,x,hk,hl,ho⟩⟩,(h.own k x g hk hl ho).2⟩,h.dis⟩,he⟩;have hx:=h.blk k x hk;cases x with
 | dead=>trivial
 | iter s p=>exact hx
 | box t cs=>
  obtain⟨g,xs,h1,h2,h3,h4⟩:=hx;exact⟨g,xs,h1,h2,RdL.ext cs he h3,h4⟩
 | row t sz es=>
  obtain⟨h1,h2,h3,xs,h4,h5,h6⟩:=hx;exact⟨h1,h2,h3,xs,h4,RdL.ext _ he.closed h5,h6⟩
 | rowo t sz es m=>
  obtain⟨h1,h2,h3,h3',xs,h4,h5,h6⟩:=hx;exact⟨h1,h2,h3,h3',xs,h4,RdL.ext _ he h5,h6⟩
theorem KV {c:Ctx} {H:List AB} (h:HS w0 M0 c H) (hni:noIter H=true) {B0 b:Nat} (hb:B0<=b) (hm:(c.slim B0 H).M b):∃ o:Obj,c.w.heap[b]? = some o/\o.isCells=true:=by
 obtain⟨_,h1 | ⟨j,y,h1,h2,h3⟩⟩:=hm
 ·omega
 ·exact h.cells hni h1 h2 h3
def G3 (T:Tys) (n:Nat):Code->Fr->List AB->(Fr->List AB->Prop)->Prop
 | .skip,fr,H,K=>K fr H
 | .region _ ops false,fr,H,K=>match ops.toList with
  | [o1]=>match o1.op,o1.dst,o1.guard with
   | .assign (.tmp s),some d,none=>match Nat.blt d n with
    | true=>Do (fget fr s) fun x=>K ((d,x)::fr) H
    | false=>False
   | _,_,_=>False
  | [o1,o2]=>match o1.op,o1.dst,o1.guard,o2.op,o2.dst,o2.guard with
   | .alloc t,some d,none, .store t' (.tmp d') (.tmp s),none,none=>match Nat.beq t t'&&Nat.beq d d'&&!Nat.beq s d&&Nat.blt d n with
    | true=>match tget T t with
     | some ty=>match ty.zero.all (·.oneCell')&&Nat.beq ty.zero.length ty.sz with
      | true=>Do (fget fr s) fun x=>match cellsOk x&&Nat.beq (cells1 x).length ty.sz with
       | true=>snocK H (.box t (cells1 x)) 0 fun k H=>K ((d, .bp k 0)::fr) H
       | false=>False
      | false=>False
     | none=>False
    | false=>False
   | _,_,_,_,_,_=>False
  | _=>False
 | .seq x y,fr,H,K=>G3 T n x fr H fun fr H=>G3 T n y fr H K
 | _,_,_,_=>False
theorem NV (hT:TOk P T) {l m:Nat} {ops:Array Oper} {o1 o2:Oper} {t:TypeId} {d s:Nat} {ty:Ty} (h1:o1.op = .alloc t) (h1d:o1.dst=some d) (h1g:o1.guard=none) (h2:o2.op = .store t (.tmp d) (.tmp s)) (h2d:o2.dst=none) (h2g:o2.guard=none) (hne:s≠d) (hd:d<n)
  (ht:tget T t=some ty) (hz:ty.zero.all (·.oneCell')=true) (hzl:ty.zero.length=ty.sz) {K:Fr->List AB->Prop} {Q:Exit->Act->World->Prop} {c:Ctx} {fr:Fr} {H:List AB} {a:Act} (hs:HS w0 M0 c H) (hf:FR w0 c n fr a) (he:Ext ce c)
  (hok:(cellsOk (fget fr s)&&Nat.beq (cells1 (fget fr s)).length ty.sz)=true) (h:K ((d, .bp H.length 0)::fr) (H ++ [.box t (cells1 (fget fr s))])) (hq:∀ a w,DQ w0 M0 ce n K a w->Old c.w w->Q .normal a w):wpListIn (Fence.wide.inRound l) m P ops Q [o1,o2] a c.w:=by
 simp only [Ad] at hok;have hsz:=Al hok.2;obtain⟨i,dd,z,hp⟩:=(hT.get ht).parts;have hxl0:ty.zero.length=ty.sz:=hzl;obtain⟨c1,e1,e2,e3,e4⟩:=hs.box t (cs:=ty.zero.map .v) (xs:=ty.zero) (IA _) (fun u hu=>Av.1 hz u hu);have hrun:(execOp a.eval o1).run P c.w = .ok (.value (.pointer (some ⟨c.w.heap.size,0,none⟩))) c1.w:=by
  have hzc:z.cells=ty.zero.toArray:=Array.ext' (by simpa using hp.zc);simp [execOp,h1,Instr.alloc,zeroValue,typeInfo,hp.info,hp.zero,Ij,e1,hzc]
 unfold wpListIn;rw [if_pos (by simp [Region.wanted,h1g])];refine GF (by intro c e;rw [h1] at e;cases e) ?_;unfold Oper.wp;rw [hrun,Oper.upon_value,h1d];unfold wpListIn;rw [if_pos (by simp [Region.wanted,h2g])];refine GF (by intro c e;rw [h2] at e;cases e) ?_;have hf1:FR w0 c1 n ((d, .bp H.length 0)::fr) (a.put (some d) (.pointer (some ⟨c.w.heap.size,0,none⟩))):=(hf.ext e3).put hd e4;have hfs:fget ((d, .bp H.length 0)::fr) s=fget fr s:=by
  show (bif Nat.beq d s then AV.bp H.length 0 else fget fr s)=fget fr s;cases hb:Nat.beq d s with
  | true=>exact absurd (Al hb).symm hne
  | false=>rfl
 have hev:Rd (fget fr s) c1 ((a.put (some d) (.pointer (some ⟨c.w.heap.size,0,none⟩))).eval (.tmp s)):=by
  rw [<-hfs];exact hf1.get s
 have hevd:(a.put (some d) (.pointer (some ⟨c.w.heap.size,0,none⟩))).eval (.tmp d) = .pointer (some ⟨c.w.heap.size,0,none⟩):=by
  have hsz':=hf.size;simp only [Act.eval,Act.put];rw [AJ,CF (by omega)];try rfl
 generalize hav:a.put (some d) (.pointer (some ⟨c.w.heap.size,0,none⟩))=a1 at hf1 hev hevd |-
 obtain⟨hc1,hc2⟩:=HT hev hok.1;have hcl:=hc1.length;have hcs:(a1.eval (.tmp s)).cells.size=ty.sz:=by rw [<-hsz,<-hcl];simp
 have hj:(H ++ [AB.box t (ty.zero.map .v)])[H.length]? = some (.box t (ty.zero.map .v)):=by simp
 obtain⟨g,xs,q1,q2,q3,q4⟩:=e2.blk _ _ hj;have hg:g=c.w.heap.size:=by
  simp only [Rd] at e4;obtain⟨_,g',hg',hu⟩:=e4;rw [q1] at hg';cases hg';simpa using hu.symm
 subst hg;have hxl:xs.length=ty.sz:=by rw [<-hxl0];have:=q3.length;simpa using this
 obtain⟨w',r1,r2,r3,r4,r5,r6,r7⟩:=DU (P:=P) (a1.eval (.tmp s)).cells.toList (i:=0) (off:=0) q2 hc2 (by simp;omega);have hrun2:(execOp a1.eval o2).run P c1.w = .ok .skip w':=by
  have:=F1 (a:=⟨c.w.heap.size,0,none⟩) (hT.get ht) hcs r1;simp [execOp,h2,Instr.storeAt,hevd,Instr.sureAddr,this]
 unfold Oper.wp;rw [hrun2,Oper.upon_skip,h2d];have hE:Ext c1 { c1 with w:=w' }:=⟨r5,r6,r7,by simp [r4],fun b _ hm=>⟨hm,r3 b fun e=>hm (e ▸ (e2.own _ _ c.w.heap.size hj rfl (by rw [q1];try rfl)).1)⟩,Ah _,fun _ _=>Ah _,fun _ _ _=>rfl,fun _ _ _ h=>h⟩;have hset:=e2.set_ (y:= .box t (cells1 (fget fr s))) hj rfl rfl (g:=c.w.heap.size) (by rw [q1];try rfl) r3 r4 r5 r6 r7 (by
  refine⟨c.w.heap.size,(a1.eval (.tmp s)).cells.toList,q1,?_,RdL.ext _ hE hc1,hc2⟩;have hlen:(a1.eval (.tmp s)).cells.toList.length=xs.length:=by simp;omega
  rw [C5,List.take_zero,Bu,Az,AG (by omega),AM] at r2;exact r2)
 unfold wpListIn;refine hq _ _ ⟨{ c1 with w:=w' },_,_,rfl,h,?_,hf1.ext hE,(he.trans e3).trans hE⟩ ?_
 ·have:=hset.1;rwa [List.set_append_right _ _ (Ah _),CI,List.set_cons_zero] at this
 ·intro b hb;rw [r3 b (by omega),e1];exact((Below.refl c.w.heap.size c.w).alloc (Ah _) _).block b hb
theorem Oj {l m:Nat} {ops:Array Oper} {o1:Oper} {d s:Nat} (h1:o1.op = .assign (.tmp s)) (h1d:o1.dst=some d) (h1g:o1.guard=none) (hd:d<n) {K:Fr->List AB->Prop} {Q:Exit->Act->World->Prop} {c:Ctx} {fr:Fr} {H:List AB} {a:Act} (hs:HS w0 M0 c H) (hf:FR w0 c n fr a) (he:Ext ce c)
  (h:K ((d,fget fr s)::fr) H) (hq:∀ a w,DQ w0 M0 ce n K a w->Old c.w w->Q .normal a w):wpListIn (Fence.wide.inRound l) m P ops Q [o1] a c.w:=by
 unfold wpListIn;rw [if_pos (by simp [Region.wanted,h1g])];refine GF (by intro c e;rw [h1] at e;cases e) ?_;unfold Oper.wp;rw [show (execOp a.eval o1).run P c.w = .ok (.value (a.eval (.tmp s))) c.w by simp [execOp,h1],Oper.upon_value,h1d];unfold wpListIn;exact hq _ _ ⟨c,_,H,rfl,h,hs,hf.put hd (hf.get s),he⟩ (zy _)
theorem GU (hT:TOk P T) {l m:Nat}:∀ {asg:Code} {K:Fr->List AB->Prop} {Q:Exit->Act->World->Prop} {c:Ctx} {fr:Fr} {H:List AB} {a:Act},HS w0 M0 c H->FR w0 c n fr a->Ext ce c->G3 T n asg fr H K->
  (∀ a w,DQ w0 M0 ce n K a w->Old c.w w->Q .normal a w)->asg.wpIn (Fence.wide.inRound l) m P Q a c.w
 | .skip,K,Q,c,fr,H,a,hs,hf,he,h,hq=>wpIn_skip (hq _ _ ⟨c,fr,H,rfl,h,hs,hf,he⟩ (zy _))
 | .seq x y,K,Q,c,fr,H,a,hs,hf,he,h,hq=>by
  simp only [G3] at h;refine wpIn_seq_k fun KK hK=>GU hT (asg:=x) hs hf he h ?_
  rintro a' w' ⟨c',fr',H',rfl,h1,h2,h3,h4⟩ hold;exact hK _ _ (GU hT (asg:=y) h2 h3 h4 h1 fun a2 w2 hl ho=>hq a2 w2 hl (hold.trans ho))
 | .region id ops draw,K,Q,c,fr,H,a,hs,hf,he,h,hq=>by
  cases draw with
  | true=>simp [G3] at h
  | false=>
  simp only [G3] at h;split at h
  ·rename_i o1 hops;split at h
   ·rename_i s d h1 h1d h1g;split at h
    ·rename_i hb;have h:=BI h;refine wpIn_region_list ?_;rw [hops];exact Oj h1 h1d h1g (by simpa using hb) hs hf he h hq
    ·exact h.elim
   ·exact h.elim
  ·rename_i o1 o2 hops;split at h
   ·rename_i t d t' d' s h1 h1d h1g h2 h2d h2g;split at h
    ·rename_i hb;simp only [Ad,Bp] at hb;obtain⟨⟨⟨hb1,hb2⟩,hb3⟩,hb4⟩:=hb;have:=Al hb1;subst this;have:=Al hb2;subst this;have hne:s≠d:=fun e=>by subst e;rw [Nat.beq_refl] at hb3;cases hb3
     split at h
     ·rename_i ty ht;split at h
      ·rename_i hz;simp only [Ad] at hz;have h:=BI h;split at h
       ·rename_i hok;have h:=snocK_iff h;rw [Az] at h;refine wpIn_region_list ?_;rw [hops];exact NV hT h1 h1d h1g h2 h2d h2g hne (by simpa using hb4) ht hz.1 (Al hz.2) hs hf he hok h hq
       ·exact h.elim
      ·exact h.elim
     ·exact h.elim
    ·exact h.elim
   ·exact h.elim
  ·exact h.elim
 | .cond _ _ _,_,_,_,_,_,_,_,_,_,h,_=>by simp [G3] at h
 | .block _ _,_,_,_,_,_,_,_,_,_,h,_=>by simp [G3] at h
 | .exit _,_,_,_,_,_,_,_,_,_,h,_=>by simp [G3] at h
 | .ret,_,_,_,_,_,_,_,_,_,h,_=>by simp [G3] at h
 | .loop _,_,_,_,_,_,_,_,_,_,h,_=>by simp [G3] at h
 | .rangeFunc _ _ _ _,_,_,_,_,_,_,_,_,_,h,_=>by simp [G3] at h
 | .label _,_,_,_,_,_,_,_,_,_,h,_=>by simp [G3] at h
 | .goto _,_,_,_,_,_,_,_,_,_,h,_=>by simp [G3] at h
 | .scope _,_,_,_,_,_,_,_,_,_,h,_=>by simp [G3] at h
 | .refuse _,_,_,_,_,_,_,_,_,_,h,_=>by simp [G3] at h
def KB (H:List AB) (x:AV) (sz len:Nat) (E:Nat->List AV):Prop:=
 match x with
 | .ow k n'=>n'=len/\∃ t es,hget H k=some (.row t sz es)/\es.length=len/\E=fun i=>es.getD i []
 | .sl sz' n' get=>sz'=sz/\n'=len/\E=get
 | .v (.slice none 0 0)=>len=0
 | _=>False
theorem Mk {c:Ctx} {H:List AB} (hs:HS w0 M0 c H) {x:AV} {sz len:Nat} {E:Nat->List AV} (h:KB H x sz len E) {u:Value} (hr:Rd x c u) :
  ∃ a cap,u = .slice a len cap/\(0<len->∃ b off,a=some ⟨b,off,none⟩/\b<c.w.heap.size/\∀ i,i<len->(E i).length=sz/\RdAt (E i) c.closed b (off+i*sz)):=by
 unfold KB at h;split at h
 ·obtain⟨rfl,t,es,hk,hl,rfl⟩:=h;rename_i k n';rw [hget_eq] at hk;obtain⟨h1,h2,h3,xs,h4,h5,h6⟩:=hs.blk _ _ hk;simp only [Rd] at hr;obtain⟨_,_,⟨a,p,rfl,ha⟩,he⟩:=hr;refine⟨a,p,rfl,fun hp=>?_⟩;have hrho:=he (by rw [h1,hl]);obtain⟨g,rfl⟩:=ha (by omega);have hgl:g<c.w.heap.size:=by
   rcases h4.2 with ⟨e,_⟩ | ⟨g',cap,cur,e,_,hh,_⟩
   ·rw [<-hrho] at e;cases e
   ·rw [<-hrho] at e;cases e;exact(Au.1 hh).1
  have hat:=RdAt.of (b:=g) (off:=0) h5 h6 fun j u hu=>by rw [Az];exact G9 (hl ▸ h4) hrho.symm hu
  exact⟨g,0,rfl,hgl,fun i hi=>⟨h3 _ (by simp only [Ab];rw [Ae (by omega)];exact Cy _),by rw [Az];exact Ie h3 hat (by omega)⟩⟩
 ·obtain⟨rfl,rfl,rfl⟩:=h;simp only [Rd] at hr;obtain⟨a,k,rfl,h1,h2,h3⟩:=hr;refine⟨a,k,rfl,fun hp=>?_⟩;rcases h3 with h3 | ⟨b,off,rfl,_,hb,hc⟩
  ·omega
  ·exact⟨b,off,rfl,hb,hc⟩
 ·subst h;simp only [Rd] at hr;subst hr;exact⟨none,0,rfl,fun hp=>absurd hp (Nat.lt_irrefl _)⟩
 ·exact h.elim
end
section
variable {P:Program} {T:Tys} {w0:Fl} {M0:Ms} {n d0:Nat} {ce:Ctx}
def Fl.off (w0:Fl):Fl:=⟨w0.w,w0.old,w0.lt,w0.gl,False⟩
theorem HS.off {c:Ctx} {H:List AB} (h:HS w0 M0 c H):HS w0.off M0 c H:=⟨⟨h.low.os,h.low.tape,h.low.output,h.low.size,h.low.block⟩,h.base,h.dom,h.foreign,h.lt,h.blk,h.own,h.dis⟩
theorem HS.on {c:Ctx} {H:List AB} (h:HS w0.off M0 c H):HS w0 M0 c H:=⟨⟨h.low.os,h.low.tape,h.low.output,h.low.size,h.low.block⟩,h.base,h.dom,h.foreign,h.lt,h.blk,h.own,h.dis⟩
theorem FR.off {c:Ctx} {fr:Fr} {a:Act} (h1:a.tmps.size=n) (h2:∀ i,Rd (fget fr i) c (a.tmps.getD i undef)) (hc:¬w0.chk):FR w0 c n fr a:=⟨h1,DfOk.free hc,h2⟩
def frozen (fr:Fr) (H:List AB):Fr->Prop
 | []=>True
 | (i,x)::r=>((x.lt 0=true/\fget fr i=x)\/∃ kk tt cs,x = .rp cs/\AV.ltL cs 0=true/\fget fr i = .bp kk 0/\hget H kk=some (.box tt cs))/\frozen fr H r
def Ctx.calm (c:Ctx) (w:World):Ctx:=⟨w,0,fun _=>False,c.rho,c.len,0⟩
theorem MZ {c:Ctx} {H:List AB} (hs:HS w0 M0 c H) {fr:Fr} {us:Array Value} (hf:∀ i,Rd (fget fr i) c (us.getD i undef)):∀ {frz:Fr},frozen fr H frz->∀ i,Rd (fget frz i) (c.calm c.w) (us.getD i undef)
 | [],_,i=>by simp [fget,Rd]
 | (j,x)::r,h,i=>by
  have hcut:Cut c (c.calm c.w):=⟨⟨rfl,rfl,rfl,Ah _,fun _ _ _=>⟨fun h=>h,rfl⟩,Ah _,fun k hk=>absurd hk (Ao k),fun k hk=>absurd hk (Ao k),fun k _ hk=>absurd hk (Ao k)⟩,fun _ _=>tA⟩;unfold fget;cases hb:Nat.beq j i with
  | false=>exact MZ hs hf h.2 i
  | true=>
   have:=Al hb;subst this;simp only [cond_true];rcases h.1 with ⟨h1,h2⟩ | ⟨kk,tt,cs,rfl,h1,h2,h3⟩
   ·refine Rd.cut x hcut h1 ?_;rw [<-h2];exact hf j
   ·have hr:=hf j;rw [h2] at hr;simp only [Rd] at hr;obtain⟨_,g,hg,hu⟩:=hr;rw [hget_eq] at h3;obtain⟨g',xs,q1,q2,q3,q4⟩:=hs.blk _ _ h3;rw [q1] at hg;cases hg;rw [hu];simp only [Rd];refine⟨g,0,rfl,fun h=>h,(Au.1 q2).1,?_⟩;exact RdAt.of (c:=(c.calm c.w).closed) (b:=g) (off:=0) (RdL.cut cs hcut h1 q3) q4 fun j u hu=>by rw [Az];show c.w.cell? _=_;rw [cell_of_row _ g _ _ tt (0,0) q2];simpa using hu
def EX.code:EX->Code
 | .normal=> .skip
 | .exit id=> .exit id
 | .ret=> .ret
theorem MK {W W':World} {c:Ctx} (hB:c.w.heap.size<=W.heap.size) (ho:Old W W') (h1:W'.os=W.os) (h2:W'.tape=W.tape) (h3:W'.output=W.output) (h4:W.heap.size<=W'.heap.size):Below c.w.heap.size W W':=
 ⟨h1,h2,h3,h4,fun b hb=>ho b (Aq hb hB)⟩
theorem Rb {len k:Nat} (hk:k<=len) {pre:List Nat} {x:Nat} (h:pre ++ [x]=Dc len k) {p:Nat->Prop} (hp:∀ y∈pre,p y):∀ j,x<j->j<len->p j:=by
 intro j hj hl;have h1:k=pre.length+1:=by have:=congrArg List.length h;simpa [Dc] using this.symm
 subst h1;have hx:x=len - 1 - pre.length:=by
  have:=congrArg (fun l=>l[pre.length]?) h;simp [Dc] at this;exact this
 have hi:len - 1 - j<pre.length:=by omega
 have h2:=congrArg (fun l=>l[len - 1 - j]?) h;simp only [Dc,AA hi,AZ,Br (show len - 1 - j<pre.length+1 by omega),Dq] at h2;rw [show len - 1 - (len - 1 - j)=j by omega] at h2;exact hp j (D3 h2)
theorem DfOk.lt {c:Ctx} (hc:w0.chk):∀ {l:List Deferred},DfOk w0 c l->∀ e∈l,∃ b,e.target = .collected b/\b<c.w.heap.size
 | d::r,h,e,he=>by
  rcases Bb.1 he with rfl | he
  ·obtain⟨b,rfl,_,_,h4,_⟩:=h.1 hc;exact⟨b,rfl,(Au.1 h4).1⟩
  ·exact DfOk.lt hc h.2 e he
theorem T9 {len:Nat} {i:Nat} (hi:i<len):i∈Dc len len:=by
 rw [Dc,AK];exact⟨len - 1 - i,by simp;omega,by omega⟩

def WA (P:Program) (n:Nat) (w0:Fl) (M0:Ms) (c:Ctx) (a:Act) (gf:FuncId) (g:Operand) (p1 p2:Nat) (asg body:Code) (Q:QA) (fr:Fr) (len:Nat) (hit:Nat->Bool):Prop:=
 ∃ (gB:Nat) (X:Nat->List Value) (I:List (Fin len)->World->Prop) (Ix:Code->List (Fin len)->World->Prop) (Ax:Fin len->Act->World->Prop),
  a.eval g = .func (.func gf) #[] #[.pointer (some ⟨gB,0,none⟩)]/\
  (∀ m,1<=m->SeqStopsK Fence.wide m P gf #[.pointer (some ⟨gB,0,none⟩)] (fun x:Fin len=> #[Value.int .i64 x.val, .agg (X x.val).toArray]) (Below c.w.heap.size) (fun ys=>ys.map Fin.val=Dc len len) (fun pre=>∃ k,k<=len/\pre.map Fin.val=Dc len k) len c.w)/\
  OwnFrom c.w.heap.size I/\(∀ cd,OwnFrom c.w.heap.size (Ix cd))/\I [] c.w/\(∀ x a',OwnFrom c.w.heap.size (fun(_:Unit) W=>Ax x a' W))/\
  (∀ (k l:Nat) (pre:List (Fin len)) (y:Fin len) (W:World) (K:Act->World->Prop),I pre W->(∀ a' W',KeepsFrom c.w.heap.size W W'->Below c.w.heap.size W W'->I pre W'->Ax y a' W'->K a' W')->
   asg.wpIn (Fence.wide.inRound l) k P (Exit.then K (fun _ _ _=>False)) { tmps:=((#[p1,p2]:Array Tmp).zip #[Value.int .i64 y.val, .agg (X y.val).toArray]).foldl (fun t (p,v)=>t.setIfInBounds p v) a.tmps,defers:= [] } W)/\
  (∀ (k:Nat),(noRF body=true\/3<=k)->∀ (l:Nat) (pre:List (Fin len)) (y:Fin len) (a':Act) (W:World),c.w.heap.size<=l->(∃ r,W.heap[l]? = some (.loop r))->I pre W->Ax y a' W->pre.length<len->
   body.wpIn (Fence.wide.inRound l) k P (ownPostG c.w.heap.size (Below c.w.heap.size) I Ix (pre ++ [y]) W) a' W)/\
  (∀ (ys:List (Fin len)) (W:World),ys.map Fin.val=Dc len len->I ys W->Below c.w.heap.size c.w W/\∀ i,i<len->hit i=false)/\
  (∀ (cd:Code) (pre:List (Fin len)) (W:World),(∃ k,k<=len/\pre.map Fin.val=Dc len k)->Ix cd pre W->∃ ex c' H',cd=EX.code ex/\ex≠ .normal/\Q ex fr H'/\c'.w=W/\HS w0 M0 c' H'/\Ext c c'/\noIter H'=true/\(∀ b,c.w.heap.size<=b->c'.M b->∃ (j:Nat) (y:AB),H'[j]? = some y/\y.live=true/\oB (c'.rho j)=some b))
theorem Uc (hT:TOk P T) {gf:FuncId} {sz:Nat} (hgf:IsBack P gf sz) {g:Operand} {p1 p2:Nat} {asg body:Code} {Q:QA} {fr:Fr} {H:List AB} {B len:Nat} {tb:TypeId} {x:AV} {E:Nat->List AV}
  (hg:ev fr g = .fn gf [.bp B 0]) (hB:hget H B=some (.box tb [x])) (hx:KB H x sz len E) (hbig:len<=1000000000) (_hni:noIter H=true) (hp:p1<n/\p2<n) (hrb:roundOk body=true)
  (frz:Fr) (hfz:frozen fr H frz) (hit:Nat->Bool)
  (hskip:∀ i,i<len->hit i=false->G3 T n asg ((p2, .ag (E i))::(p1,iv i)::frz) [] fun fr' H'=>noIter H'=true/\Cp P T n 0 body (fun ex _ _=>ex = .normal) fr' H')
  (hhit:∀ i,i<len->hit i=true->G3 T n asg ((p2, .ag (E i))::(p1,iv i)::fr) H fun fr' H'=>noIter H'=true/\Cp P T n H.length body (fun ex _ H'=>ex≠ .normal/\noIter H'=true/\((∀ j,i<j->j<len->hit j=false)->Q ex fr H')) fr' H')
  (w0:Fl) (M0:Ms) (c:Ctx) (a:Act) (hs:HS w0 M0 c H) (hf:FR w0 c n fr a):WA P n w0 M0 c a gf g p1 p2 asg body Q fr len hit:=by
 have hgv:=hf.ev g;rw [hg] at hgv;simp only [Rd,RdL] at hgv;obtain⟨_,hgv,_,_,rfl,⟨hBd,gB,hgB,rfl⟩,rfl⟩:=hgv;rw [hget_eq] at hB;obtain⟨g',xs,q1,q2,q3,q4⟩:=hs.blk _ _ hB;rw [hgB] at q1;cases q1;simp only [RdL] at q3;obtain⟨u,_,rfl,hu,rfl⟩:=q3;obtain⟨ad,cap,rfl,hel⟩:=Mk hs hx hu;have hcB:c.w.cell? ⟨gB,0,none⟩=some (.slice ad len cap):=by rw [cell_of_row _ gB _ _ tb (0,0) q2];try rfl
 obtain⟨X,hXl,hXr,hXc⟩:∃ X:Nat->List Value,(∀ j,(X j).length=sz)/\(∀ i,i<len->RdL (E i) c.closed (X i))/\(0<len->∃ b off,ad=some ⟨b,off,none⟩/\b<c.w.heap.size/\∀ j,j<len->∀ (i:Nat) (u:Value),(X j)[i]? = some u->c.w.cell? ⟨b,off+j*sz+i,none⟩=some u):=by
  rcases Nat.eq_zero_or_pos len with h0 | h0
  ·exact⟨fun _=>List.replicate sz undef,by simp,fun i hi=>by omega,fun h=>by omega⟩
  ·obtain⟨b,off,h1,h2,h3⟩:=hel h0;refine⟨fun j=>(List.range' (off+j*sz) sz).map fun i=>(c.w.cell? ⟨b,i,none⟩).getD undef,by simp,fun i hi=>?_,fun _=>⟨b,off,h1,h2,fun j hj i u hi=>?_⟩⟩
   ·have:=RdAt.raw _ (h3 i hi).2;rw [(h3 i hi).1] at this;exact this
   ·obtain⟨v,hv⟩:=RdAt.some _ (h3 j hj).2 i (by
     rw [(h3 j hj).1];have:=(At.1 hi).1;simpa using this)
    have hv':c.w.cell? ⟨b,off+j*sz+i,none⟩=some v:=hv;rw [hv'];have hil:i<sz:=by
     have:=(At.1 hi).1;simpa using this
    rw [AZ,List.getElem?_range' hil] at hi;simp only [Dq,Nat.one_mul,Option.some.injEq] at hi;rw [hv'] at hi;simpa using hi
 have hseq:=fun(m:Nat) (hm:1<=m)=>hgf.seq m hm gB ad len cap X c.w hbig hcB hXl hXc
 have hgl:=hs.glob;have hlow:=hs.low.size
 -- the two memories of a round
 let wS:Fl:=(Fl.all c.w hgl).off;have hskipHS:∀ W,Below c.w.heap.size c.w W->HS wS (fun _=>False) (c.calm W) []:=fun W hW=>
  ⟨⟨hW.os,hW.tape,hW.output,hW.size,fun b hb=>hW.block b hb⟩,rfl,rfl,fun _ _=>Iff.rfl,fun _ h=>h.elim,by simp,by simp,by simp⟩
 have hcalm:∀ W,Below c.w.heap.size c.w W->Ext (c.calm c.w) (c.calm W):=fun W hW=>
  ⟨hW.os,hW.tape,hW.output,hW.size,fun b hb _=>⟨fun h=>h,hW.block b hb⟩,Ah _,fun k hk=>absurd hk (Ao k),fun k hk=>absurd hk (Ao k),fun k _ hk=>absurd hk (Ao k)⟩
 have hclcalm:Ext c.closed (c.calm c.w):=⟨rfl,rfl,rfl,Ah _,fun _ _ _=>⟨fun h=>h,rfl⟩,Ah _,fun k hk=>absurd hk (Ao k),fun k hk=>absurd hk (Ao k),fun k _ hk=>absurd hk (Ao k)⟩;refine⟨gB,X,(fun pre W=>Below c.w.heap.size c.w W/\∀ y∈pre,hit y.val=false),
  (fun cd pre W=>∃ ex pr y c' H',pre=pr ++ [y]/\(∀ z∈pr,hit z.val=false)/\cd=ex.code/\ex≠ .normal/\((∀ j,y.val<j->j<len->hit j=false)->Q ex fr H')/\c'.w=W/\HS w0 M0 c' H'/\Ext c c'/\noIter H'=true/\(∀ b,c.w.heap.size<=b->c'.M b->∃ (j:Nat) (y:AB),H'[j]? = some y/\y.live=true/\oB (c'.rho j)=some b)),
  (fun y a' W=>(hit y.val=false->∃ c' fr' H',c'.w=W/\HS wS (fun _=>False) c' H'/\noIter H'=true/\a'.tmps.size=n/\(∀ i,Rd (fget fr' i) c' (a'.tmps.getD i undef))/\(∀ b,c.w.heap.size<=b->c'.M b->∃ o:Obj,c'.w.heap[b]? = some o/\o.isCells=true)/\Cp P T n 0 body (fun ex _ _=>ex = .normal) fr' H'/\c'.dom=H'.length)/\
   (hit y.val=true->∃ c' fr' H',c'.w=W/\HS w0 M0 c' H'/\noIter H'=true/\a'.tmps.size=n/\(∀ i,Rd (fget fr' i) c' (a'.tmps.getD i undef))/\Ext c c'/\(∀ b,c.w.heap.size<=b->c'.M b->∃ o:Obj,c'.w.heap[b]? = some o/\o.isCells=true)/\Cp P T n H.length body (fun ex _ H'=>ex≠ .normal/\noIter H'=true/\((∀ j,y.val<j->j<len->hit j=false)->Q ex fr H')) fr' H')),hgv,hseq,?hI,?hIx,⟨Below.refl _ _,by simp⟩,?hAx,?assign,?body,?done,?stop⟩
 case hI=>exact OwnFrom.and (ownFrom_below (Ah _) (Ah _)) (ownFrom_pure _ _)
 case hIx=>
  rintro cd s W W' row ⟨ex,pr,y,c',H',h1,h2,h3,h4,h5,rfl,h6,h7,h8,h9⟩ hgr hrow;obtain⟨k1,k2⟩:=h6.turn h8 hlow hgr hrow;exact⟨ex,pr,y,_,H',h1,h2,h3,h4,h5,rfl,k1,h7.turn (Ah _) hgr hrow,h8,h9⟩
 case hAx=>
  have keep:∀ (c':Ctx) {W':World} {row:Option Nat},c'.w.grownBy W' row->(∀ r,row=some r->c.w.heap.size<=r/\∃ o:Obj,c'.w.heap[r]? = some o/\o.isCells=false)->(∀ b,c.w.heap.size<=b->c'.M b->∃ o:Obj,c'.w.heap[b]? = some o/\o.isCells=true)->∀ b,c.w.heap.size<=b->c'.M b->∃ o:Obj,W'.heap[b]? = some o/\o.isCells=true:=by
   intro c' W' row hgr hrow h b hb hm;obtain⟨o,h1,h2⟩:=h b hb hm;refine⟨o,(hgr.block b (Au.1 h1).1 fun e=>?_).trans h1,h2⟩;obtain⟨_,o',h3,h4⟩:=hrow b e.symm;rw [h1] at h3;cases h3;rw [h2] at h4;cases h4
  rintro y a' s W W' row ⟨hA,hC⟩ hgr hrow;refine⟨fun hh=>?_,fun hh=>?_⟩
  ·obtain⟨c',fr',H',rfl,h1,h2,h3,h4,h5,h6,h7⟩:=hA hh;obtain⟨k1,k2⟩:=h1.turn h2 (Ah _) hgr hrow;exact⟨_,fr',H',rfl,k1,h2,h3,fun i=>Rd.like _ k2 (h4 i),keep c' hgr hrow h5,h6,h7⟩
  ·obtain⟨c',fr',H',rfl,h1,h2,h3,h4,h5,h6,h7⟩:=hC hh;obtain⟨k1,k2⟩:=h1.turn h2 hlow hgr hrow;exact⟨_,fr',H',rfl,k1,h2,h3,fun i=>Rd.like _ k2 (h4 i),h5.turn (Ah _) hgr hrow,keep c' hgr hrow h6,h7⟩
 case assign=>
  rintro _ l pre y W K ⟨hW,hpre⟩ hK;have hput:∀ (c1:Ctx) (fr1:Fr) (w1:Fl),¬w1.chk->(∀ i,Rd (fget fr1 i) c1 (a.tmps.getD i undef))->Rd (.ag (E y.val)) c1 (.agg (X y.val).toArray)->
    FR w1 c1 n ((p2, .ag (E y.val))::(p1,iv (y.val:Nat))::fr1) { tmps:=((#[p1,p2]:Array Tmp).zip #[Value.int .i64 y.val, .agg (X y.val).toArray]).foldl (fun t (p,v)=>t.setIfInBounds p v) a.tmps,defers:= [] }:=by
   intro c1 fr1 w1 hc hr1 hr2;have h0:FR w1 c1 n fr1 { tmps:=a.tmps,defers:= [] }:=FR.off hf.size hr1 hc;have h1:=h0.put (d:=p1) (x:= iv (y.val:Nat)) (v:= .int .i64 (y.val:Nat)) hp.1 (by simp [Rd]);have e:∀ (u v:Value),((#[p1,p2]:Array Tmp).zip #[u,v]).foldl (fun t (p,v)=>t.setIfInBounds p v) a.tmps=(a.tmps.setIfInBounds p1 u).setIfInBounds p2 v:=by intro u v;simp
   rw [e];exact h1.put (d:=p2) (x:= .ag (E y.val)) (v:= .agg (X y.val).toArray) hp.2 hr2
  have hWs:=hW.size;cases hh:hit y.val with
  | false=>
   have hE:Rd (.ag (E y.val)) (c.calm W) (.agg (X y.val).toArray):=by
    simp only [Rd];exact⟨_,rfl,RdL.ext _ (hclcalm.trans (hcalm W hW)) (hXr y.val y.isLt)⟩
   have hfr:=hput (c.calm W) frz wS (fun h=>h) (fun i=>Rd.ext _ (hcalm W hW) (MZ hs hf.get hfz i)) hE;refine GU (w0:=wS) (M0:=fun _=>False) (ce:=c.calm W) hT (c:=c.calm W) (hskipHS W hW) hfr (zN _) (hskip y.val y.isLt hh) ?_;rintro a' W' ⟨c',fr',H',rfl,⟨k1,k2⟩,k3,k4,k5⟩ hold;have hb:=MK (c:=c) hWs hold k5.os k5.tape k5.output k5.size;obtain⟨s1,s2⟩:=k3.slim (B0:=c.w.heap.size) (Ah _);refine hK a' c'.w ⟨k5.size,fun k o _ h1 _=>(hold k (Au.1 h1).1).trans h1⟩ hb ⟨hW.trans hb,hpre⟩ ⟨fun _=>⟨c'.slim c.w.heap.size H',fr',H',rfl,s1,k1,k4.size,(k4.ext s2).get,fun b hb' hm=>KV k3 k1 hb' hm,k2,s1.dom⟩,fun e=>by rw [hh] at e;cases e⟩
  | true=>
   obtain⟨g1,g2⟩:=hs.grow hW;have hE:Rd (.ag (E y.val)) { c with w:=W } (.agg (X y.val).toArray):=by
    simp only [Rd];exact⟨_,rfl,RdL.ext _ ((zD c).trans g2) (hXr y.val y.isLt)⟩
   have hfr:=hput { c with w:=W } fr w0.off (fun h=>h) (fun i=>Rd.ext _ g2 (hf.get i)) hE;refine GU (w0:=w0.off) (M0:=M0) (ce:={ c with w:=W }) hT (c:={ c with w:=W }) g1.off hfr (zN _) (hhit y.val y.isLt hh) ?_;rintro a' W' ⟨c',fr',H',rfl,⟨k1,k2⟩,k3,k4,k5⟩ hold;have hb:=MK (c:=c) hWs hold k5.os k5.tape k5.output k5.size;obtain⟨s1,s2⟩:=k3.slim (B0:=c.w.heap.size) hlow;refine hK a' c'.w ⟨k5.size,fun k o _ h1 _=>(hold k (Au.1 h1).1).trans h1⟩ hb ⟨hW.trans hb,hpre⟩ ⟨fun e=>(by rw [hh] at e;cases e),fun _=>⟨c'.slim c.w.heap.size H',fr',H',rfl,s1.on,k1,k4.size,(k4.ext s2).get,(g2.trans k5).trans s2,fun b hb' hm=>KV k3 k1 hb' hm,k2⟩⟩
 case body=>
  rintro _ hk l pre y a' W hl ⟨rl,hrl⟩ ⟨hW,hpre⟩ ⟨hA,hC⟩ hlt;cases hh:hit y.val with
  | false=>
   obtain⟨c',fr',H',rfl,h1,h2,h3,h4,h5,h6,h7⟩:=hA hh;refine Cw (w0:=wS) (M0:=fun _=>False) (ce:={ c' with dom:=0 }) (d0:=0) hT rfl body _ _ c' fr' H' a' hrb (hk.imp_right fun q=>⟨q,rl,hrl,fun hM=>(by
    obtain⟨o',q1,q2⟩:=h5 l hl hM;rw [hrl] at q1;cases q1;cases q2)⟩) ?_ h1 (FR.off h3 h4 fun h=>h) (zD c') h6
   intro e a3 W3 hl3;have go:∀ ex:EX,DQ wS (fun _=>False) { c' with dom:=0 } n (fun _ _=>ex = .normal) a3 W3->ex = .normal/\KeepsFrom c.w.heap.size c'.w W3/\Below c.w.heap.size c'.w W3:=by
    rintro ex ⟨c3,fr3,H3,rfl,e1,e2,e3,e4⟩;have hlw:=e2.low;refine⟨e1,⟨e4.size,fun k o hk ho hc=>?_⟩,⟨e4.os,e4.tape,e4.output,e4.size,fun b hb=>(hlw.block b hb).trans (hW.block b hb).symm⟩⟩;refine(e4.keep k (Au.1 ho).1 fun hm=>?_).2.trans ho;obtain⟨o',q1,q2⟩:=h5 k hk hm;rw [ho] at q1;cases q1;rw [hc] at q2;cases q2
   cases e with
   | normal=>
    obtain⟨_,k1,k2⟩:=go .normal hl3;exact⟨k1,k2,hW.trans k2,fun z hz=>by
     rcases A3.1 hz with h | h
     ·exact hpre z h
     ·simp at h;subst h;exact hh⟩
   | exit id=>exact absurd (go (.exit id) hl3).1 (by simp)
   | ret=>exact absurd (go .ret hl3).1 (by simp)
   | _=>exact hl3.elim
  | true=>
   obtain⟨c',fr',H',rfl,h1,h2,h3,h4,h5,h6,h7⟩:=hC hh;have hce:Ext c { c' with dom:=H.length }:=⟨h5.os,h5.tape,h5.output,h5.size,h5.keep,by show c.dom<=H.length;rw [hs.dom];exact Ah _,h5.len,h5.rho,h5.box⟩;have hce2:Ext { c' with dom:=H.length } c':=⟨rfl,rfl,rfl,Ah _,fun _ _ h=>⟨h,rfl⟩,by show H.length<=c'.dom;rw [<-hs.dom];exact h5.dom,fun _ _=>Ah _,fun _ _ _=>rfl,fun _ _ _ h=>h⟩;refine Cw (w0:=w0.off) (M0:=M0) (ce:={ c' with dom:=H.length }) (d0:=H.length) hT rfl body _ _ c' fr' H' a' hrb (hk.imp_right fun q=>⟨q,rl,hrl,fun hM=>(by
    obtain⟨o',q1,q2⟩:=h6 l hl hM;rw [hrl] at q1;cases q1;cases q2)⟩) ?_ h1.off (FR.off h3 h4 fun h=>h) hce2 h7
   intro e a3 W3 hl3;have go:∀ ex:EX,DQ w0.off M0 { c' with dom:=H.length } n (fun _ H'=>ex≠ .normal/\noIter H'=true/\((∀ j,y.val<j->j<len->hit j=false)->Q ex fr H')) a3 W3->ex≠ .normal/\KeepsFrom c.w.heap.size c'.w W3/\∃ c3 H3,c3.w=W3/\HS w0.off M0 c3 H3/\Ext { c' with dom:=H.length } c3/\noIter H3=true/\((∀ j,y.val<j->j<len->hit j=false)->Q ex fr H3):=by
    rintro ex ⟨c3,fr3,H3,rfl,⟨e0,e1,e5⟩,e2,e3,e4⟩;refine⟨e0,⟨e4.size,fun k o hk ho hc=>?_⟩,c3,H3,rfl,e2,e4,e1,e5⟩;refine(e4.keep k (Au.1 ho).1 fun hm=>?_).2.trans ho;obtain⟨o',q1,q2⟩:=h6 k hk hm;rw [ho] at q1;cases q1;rw [hc] at q2;cases q2
   have mk:∀ ex:EX,DQ w0.off M0 { c' with dom:=H.length } n (fun _ H'=>ex≠ .normal/\noIter H'=true/\((∀ j,y.val<j->j<len->hit j=false)->Q ex fr H')) a3 W3->ex≠ .normal/\KeepsFrom c.w.heap.size c'.w W3/\∃ ex' pr y' c'' H'',pre ++ [y]=pr ++ [y']/\(∀ z∈pr,hit z.val=false)/\ex.code=ex'.code/\ex'≠ .normal/\((∀ j,y'.val<j->j<len->hit j=false)->Q ex' fr H'')/\c''.w=W3/\HS w0 M0 c'' H''/\Ext c c''/\noIter H''=true/\(∀ b,c.w.heap.size<=b->c''.M b->∃ (j:Nat) (y:AB),H''[j]? = some y/\y.live=true/\oB (c''.rho j)=some b):=by
    intro ex hl4;obtain⟨k0,k1,c3,H3,rfl,k2,k3,k4,k5⟩:=go ex hl4;obtain⟨s1,s2⟩:=k2.slim (B0:=c.w.heap.size) hlow;exact⟨k0,k1,ex,pre,y,c3.slim c.w.heap.size H3,H3,rfl,hpre,rfl,k0,k5,rfl,s1.on,(hce.trans k3).trans s2,k4,fun b hb hm=>hm.2.resolve_left (by omega)⟩
   cases e with
   | normal=>exact absurd rfl (mk .normal hl3).1
   | exit id=>exact(mk (.exit id) hl3).2
   | ret=>exact(mk .ret hl3).2
   | _=>exact hl3.elim
 case done=>
  rintro ys W hys ⟨hW,hpre⟩;refine⟨hW,fun i hi=>?_⟩;have:=T9 hi;rw [<-hys,AK] at this;obtain⟨y,hy,rfl⟩:=this;exact hpre y hy
 case stop=>
  rintro cd pre W ⟨k,hk,hpre⟩ ⟨ex,pr,y,c',H',rfl,h2,rfl,h4,h5,rfl,h6,h7,h8,h9⟩;refine⟨ex,c',H',rfl,h4,h5 (Rb hk (pre:=pr.map Fin.val) (x:=y.val) (by rw [<-hpre];simp) (p:=fun j=>hit j=false) (by
   intro z hz;obtain⟨z',hz',rfl⟩:=AK.1 hz;exact h2 z' hz')),rfl,h6,h7,h8,h9⟩
theorem aRF.back (hT:TOk P T) {gf:FuncId} {sz:Nat} (hgf:IsBack P gf sz) {g:Operand} {p1 p2:Nat} {asg body:Code} {Q:QA} {fr:Fr} {H:List AB} {B len:Nat} {tb:TypeId} {x:AV} {E:Nat->List AV}
  (hg:ev fr g = .fn gf [.bp B 0]) (hB:hget H B=some (.box tb [x])) (hx:KB H x sz len E) (hbig:len<=1000000000) (_hni:noIter H=true) (hp:p1<n/\p2<n) (hrb:roundOk body=true)
  (frz:Fr) (hfz:frozen fr H frz) (hit:Nat->Bool)
  (hskip:∀ i,i<len->hit i=false->G3 T n asg ((p2, .ag (E i))::(p1,iv i)::frz) [] fun fr' H'=>noIter H'=true/\Cp P T n 0 body (fun ex _ _=>ex = .normal) fr' H')
  (hhit:∀ i,i<len->hit i=true->G3 T n asg ((p2, .ag (E i))::(p1,iv i)::fr) H fun fr' H'=>noIter H'=true/\Cp P T n H.length body (fun ex _ H'=>ex≠ .normal/\noIter H'=true/\((∀ j,i<j->j<len->hit j=false)->Q ex fr H')) fr' H')
  (hdone:(∀ i,i<len->hit i=false)->Q .normal fr H):aRF P T n d0 g #[p1,p2] asg body Q fr H:=by
 have core:=fun w0 M0 c a hs hf=>Uc hT hgf (Q:=Q) hg hB hx hbig _hni hp hrb frz hfz hit hskip hhit (w0:=w0) (M0:=M0) (c:=c) (a:=a) hs hf
 refine⟨fun w0 M0 ce c a hs hf he hd Q' hQ=>?_,fun hb w0 M0 ce c a hs hf he hd l0 r0 m hl0 hm Q' hQ=>?_⟩
 ·have hlow:=hs.low.size;obtain⟨gB,X,I,Ix,Ax,k1,k2,k3,k4,k5,k6,k7,k8,k9,k10⟩:=core w0 M0 c a hs hf;refine(wpIn_wide (n:=9)).1 ?_;refine wpIn_rangeFunc_ownH (F:=Fence.wide) (n:=9) rfl (by omega) (gf:=gf) (lb:= #[.pointer (some ⟨gB,0,none⟩)]) k1 trivial hgf.enters (k2 8 (by omega)) (fun h k=>h.trans k)
   (fun W l o o' hl ho _ _=>(Below.refl _ W).grown (grownBy_putObj' W l o') (Bo hl (Nat.le_of_lt (Au.1 ho).1)) (fun k e=>by cases e;exact hl)) (Below.refl _ _) (fun _=>rfl)
   I Ix k3 k4 k5 Ax k6 (k7 7) (k8 7 (.inr (by omega))) ?_ ?_
  ·rintro D ys W hD hys hI hdef;obtain⟨hW,hall⟩:=k9 ys W hys hI;obtain⟨g1,g2⟩:=hs.grow hW;refine hQ .normal { c with w:=W } fr H _ (hdone hall) g1 ⟨hf.size,⟨fun _=>⟨D,rfl,Bo hlow hD,fun hm=>by have:=hs.lt D hm;omega,hdef,?_⟩,hf.defers.ext g2⟩,(hf.ext g2).get⟩ (he.trans g2);rename_i hck;intro e he';obtain⟨b,hb,hlt⟩:=hf.defers.lt hck e he';rw [hb];intro e';injection e' with e'
   omega
  ·rintro D cd pre W hD hk hIx hdef;obtain⟨ex,c',H',rfl,h4,hq,rfl,h6,h7,h8,h9⟩:=k10 cd pre W hk hIx;have hM:¬c'.M D:=by
    intro hm;obtain⟨j,y',q1,q2,q3⟩:=h9 D hD hm;obtain⟨o,q4,q5⟩:=h6.cells h8 q1 q2 q3;rw [hdef] at q4;cases q4;cases q5
   have hfr:FR w0 c' n fr { a with defers:={ target:= .collected D,args:= #[] }::a.defers }:=by
    refine⟨hf.size,⟨fun hck=>⟨D,rfl,Bo hlow hD,hM,hdef,?_⟩,hf.defers.ext h7⟩,(hf.ext h7).get⟩;intro e he';obtain⟨b,hb,hlt⟩:=hf.defers.lt hck e he';rw [hb];intro e';injection e' with e'
    omega
   cases ex with
   | normal=>exact absurd rfl h4
   | exit id=>exact wpIn_exit (hQ (.exit id) c' fr H' _ hq h6 hfr (he.trans h7))
   | ret=>exact wpIn_ret (hQ .ret c' fr H' _ hq h6 hfr (he.trans h7))
 ·obtain⟨gB,X,I,Ix,Ax,k1,k2,k3,k4,k5,k6,k7,k8,k9,k10⟩:=core w0 M0 c a hs hf;refine wpIn_rangeFunc_ownN (F:=Fence.wide.inRound l0) (n:=m) (l₀:=l0) (r₀:=r0) rfl hl0 (by omega) (gf:=gf) (lb:= #[.pointer (some ⟨gB,0,none⟩)]) k1 trivial hgf.enters (k2 (m - 1) (by omega)) (fun h k=>h.trans k)
   (fun W l o o' hl ho _ _=>(Below.refl _ W).grown (grownBy_putObj' W l o') (Bo hl (Nat.le_of_lt (Au.1 ho).1)) (fun k e=>by cases e;exact hl)) (Below.refl _ _) (fun _=>rfl)
   I Ix k3 k4 k5 Ax k6 (k7 (m - 1 - 1)) (k8 (m - 1 - 1) (.inl hb)) ?_ ?_
  ·rintro ys W hys hI;obtain⟨hW,hall⟩:=k9 ys W hys hI;obtain⟨g1,g2⟩:=hs.grow hW;exact hQ .normal { c with w:=W } fr H _ (hdone hall) g1 (hf.ext g2) (he.trans g2)
  ·rintro cd pre W hk hIx;obtain⟨ex,c',H',rfl,h4,hq,rfl,h6,h7,h8,h9⟩:=k10 cd pre W hk hIx;cases ex with
   | normal=>exact absurd rfl h4
   | exit id=>exact wpIn_exit (hQ (.exit id) c' fr H' _ hq h6 (hf.ext h7) (he.trans h7))
   | ret=>exact wpIn_ret (hQ .ret c' fr H' _ hq h6 (hf.ext h7) (he.trans h7))
end
end
section
open Go.RowKit Go.Shelf
attribute [local go_sem] Oper.semAt_some

theorem Fe (n j:Nat):Dc n (j+1)=Dc n j ++ [n - 1 - j]:=by simp [Dc,Bh]
theorem GS (n j:Nat):(Dc n j).length=j:=by simp [Dc]

theorem Wq (F:Fence) (n:Nat) (h7:F.fn 274) (hro:F.round=none) (hn:1<=n) (l Bs n₀ b off len cap:Nat) (X Y:Nat->Value) (hlen:len<=1000000000) (hb:b<n₀) (hBn:Bs<n₀) (J Jx:List Nat->World->Prop)
  (hY:∀ pre x W,J pre W->pre.length<len->x<len->YieldAt F (n - 1) Tryz.prog l #[.int .i64 (x:Nat), .agg #[X x,Y x]] W fun e W'=>
   (e = .returned (.bool true)/\J (pre ++ [x]) W'/\Below n₀ W W')\/(e = .returned (.bool false)/\Jx (pre ++ [x]) W'))
  (W:World) (hBs:W.cell? ⟨Bs,0,none⟩=some (.slice (some ⟨b,off,none⟩) len cap)) (hc0:∀ j,j<len->W.cell? ⟨b,off+j*2,none⟩=some (X j)) (hc1:∀ j,j<len->W.cell? ⟨b,off+j*2+1,none⟩=some (Y j)) (h0:J [] W) :
  CallsIn F n Tryz.prog 274 #[.func (.yield l) #[] #[], .pointer (some ⟨Bs,0,none⟩)] W fun e W'=>(∃ v,e = .returned v)/\
   ((∃ ys,ys=Dc len len/\J ys W')\/(∃ pre,(∃ k,k<=len/\pre=Dc len k)/\Jx pre W')):=by
 have Hc0:=Lib.hid hc0;have Hc1:=Lib.hid hc1;clear hc0 hc1;refine callsIn_of_wp Tryz.func274 rfl h7 ?_ hro;simp only [Tryz.ntmps274,BR,Ap,Bd,Nat.reduceAdd,Nat.reduceSub,CR,CQ,Dz,CZ,Bu,Bl]
 gi_wp2
 gi_loopw [3] (fun i wr=>∃ k:Nat,k<=len/\i = .int .i64 ((len:Int) - 1 - k)/\J (Dc len k) wr/\Below n₀ W wr)
  (fun i _=>(intOf i+1).toNat)
 case atStart=>exact⟨0,Aj _,by simp,h0,Below.refl _ _⟩
 case round=>
  obtain⟨k,hk,rfl,hJs,hnx⟩:=hrel;by_cases hlt:k<len
  ·obtain⟨m,hmk⟩:∃ m,len=k+1+m:=⟨len - (k+1),by omega⟩;rw [show (len:Int) - 1 - k=(m:Int) by omega];obtain⟨fn,tmps,assign,body,hy,hR⟩:=hY _ m wr hJs (by rw [GS];exact hlt) (by omega);have e0:=(hnx.cell (p:=⟨b,off+m*2,none⟩) hb).trans (Hc0.out m (by omega));have e1:=(hnx.cell (p:=⟨b,off+m*2+1,none⟩) hb).trans (Hc1.out m (by omega));have eb:=(hnx.cell (p:=⟨Bs,0,none⟩) hBn).trans hBs;have hm:(m:Int)<(len:Int):=by omega
   have Hm:=Lib.hid hmk;clear hmk
   gi_wp2
   refine hR.mono ?_;rintro e W3 (⟨rfl,hJ3,hk3⟩ | ⟨rfl,hJx3⟩)
   ·gi_wp2
    go_roundw
    case rel=>exact⟨k+1,by omega,congrArg (Value.int .i64) (by have:=Hm.out;omega),by rw [Fe,show len - 1 - k=m by have:=Hm.out;omega];exact hJ3,hnx.trans hk3⟩
    case measure=>simp [intOf]
   ·gi_wp2
    refine bodyPost_ret (results_none rfl _ _ _) rfl ?_;exact⟨⟨_,rfl⟩, .inr ⟨_,⟨k+1,by omega,by rw [Fe,show len - 1 - k=m by have:=Hm.out;omega]⟩,hJx3⟩⟩
  ·obtain rfl:k=len:=by omega
   rw [show ((k:Nat):Int) - 1 - k = -1 by omega]
   gi_wp2
   go_end0
   exact⟨⟨_,rfl⟩, .inl ⟨_,rfl,hJs⟩⟩

theorem Ws (F:Fence) (n:Nat) (h7:F.fn 274) (hro:F.round=none) (l Bs:Nat) (a:Option Addr) (cap:Nat) (J:List Nat->World->Prop) (W:World) (hBs:W.cell? ⟨Bs,0,none⟩=some (.slice a 0 cap)) (h0:J [] W) :
  CallsIn F n Tryz.prog 274 #[.func (.yield l) #[] #[], .pointer (some ⟨Bs,0,none⟩)] W fun e W'=>(∃ v,e = .returned v)/\J [] W':=by
 refine callsIn_of_wp Tryz.func274 rfl h7 ?_ hro;simp only [Tryz.ntmps274,BR,Ap,Bd,Nat.reduceAdd,Nat.reduceSub,CR,CQ,Dz,CZ,Bu,Bl]
 gi_wp2
 gi_loopw [3] (fun i wr=>i = .int .i64 (-1)/\J [] wr) (fun _ _=>0)
 case atStart=>exact⟨rfl,h0⟩
 case round=>
  obtain⟨rfl,hJs⟩:=hrel
  gi_wp2
  go_end0
  exact⟨⟨_,rfl⟩,hJs⟩

theorem Rt (F:Fence) (n:Nat) (h7:F.fn 274) (hro:F.round=none) (hn:1<=n) (Bs n₀:Nat) (a:Option Addr) (len cap:Nat) (X Y:Nat->Value) (hlen:len<=1000000000) (w:World) (hBs:Bs<n₀) (hn₀:n₀<=w.heap.size)
  (hc:w.cell? ⟨Bs,0,none⟩=some (.slice a len cap)) (hI:0<len->∃ b off,a=some ⟨b,off,none⟩/\b<n₀/\∀ j,j<len->w.cell? ⟨b,off+j*2,none⟩=some (X j)/\w.cell? ⟨b,off+j*2+1,none⟩=some (Y j)) :
  SeqStopsK F n Tryz.prog 274 #[.pointer (some ⟨Bs,0,none⟩)] (fun x:Fin len=> #[Value.int .i64 x.val, .agg #[X x,Y x]]) (Below n₀) (fun ys=>ys.map Fin.val=Dc len len) (fun pre=>∃ k,k<=len/\pre.map Fin.val=Dc len k) len w:=fun l J Jx W hW _ _ hY h0=>by
 have hc':=(hW.cell (p:=⟨Bs,0,none⟩) (by show Bs<_;omega)).trans hc;rcases Nat.eq_zero_or_pos len with rfl | hp
 ·exact(Ws F n h7 hro l Bs a cap (fun _ W=>J [] W) W hc' h0).mono fun e W' ⟨he,hj⟩=>⟨he, .inl ⟨[],rfl,hj⟩⟩
 ·obtain⟨b,off,rfl,hb,hj⟩:=hI hp;refine(Wq F n h7 hro hn l Bs n₀ b off len cap X Y hlen hb hBs (fun pre W=>∃ q:List (Fin len),q.map Fin.val=pre/\J q W) (fun pre W=>∃ q:List (Fin len),q.map Fin.val=pre/\Jx q W) ?_ W hc' (fun j h=>(hW.cell (p:=⟨b,off+j*2,none⟩) (by show b<_;omega)).trans (hj j h).1) (fun j h=>(hW.cell (p:=⟨b,off+j*2+1,none⟩) (by show b<_;omega)).trans (hj j h).2) ⟨[],rfl,h0⟩).mono ?_
  ·rintro pre x W1 ⟨q,hq,hJ⟩ hlt hx;obtain⟨fn,tmps,assign,body,hy,hR⟩:=hY q ⟨x,hx⟩ W1 hJ (by rw [<-hq,Ac] at hlt;exact hlt);refine⟨fn,tmps,assign,body,hy,hR.mono ?_⟩;rintro e W' (⟨he,h1,h2⟩ | ⟨he,h1⟩)
   ·exact .inl ⟨he,⟨_,by simp [hq],h1⟩,h2⟩
   ·exact .inr ⟨he,⟨_,by simp [hq],h1⟩⟩
  ·rintro e W' ⟨he,⟨ys,rfl,q,hq,hJ⟩ | ⟨pre,⟨k,hk,rfl⟩,q,hq,hJ⟩⟩
   ·exact⟨he, .inl ⟨q,hq,hJ⟩⟩
   ·exact⟨he, .inr ⟨q,⟨k,hk,hq⟩,hJ⟩⟩

theorem back_is:IsBack Tryz.prog 274 2:=by
 refine⟨enters_of Tryz.func274 (by kernel_rfl) rfl,fun m hm B a len cap X w hlen hc hl hI=>?_⟩;have e:(fun x:Fin len=>(#[Value.int .i64 x.val, .agg (X x.val).toArray]:Array Value))=fun x:Fin len=> #[Value.int .i64 x.val, .agg #[(X x.val).getD 0 undef,(X x.val).getD 1 undef]]:=by
  funext x;have:=hl x.val;match h:X x.val with
  | [u,v]=>rfl
  | []=>rw [h] at this;simp at this
  | [_]=>rw [h] at this;simp at this
  | _::_::_::_=>rw [h] at this;simp at this
 rw [e];refine Rt Fence.wide m trivial rfl hm B w.heap.size a len cap (fun j=>(X j).getD 0 undef) (fun j=>(X j).getD 1 undef) hlen w (World.block_lt_of_cell? w _ hc) (Ah _) hc fun hp=>?_
 obtain⟨b,off,h1,h2,h3⟩:=hI hp;refine⟨b,off,h1,h2,fun j hj=>?_⟩;have h4:=hl j;match h:X j with
 | [u,v]=>exact⟨h3 j hj 0 u (by rw [h];rfl),h3 j hj 1 v (by rw [h];rfl)⟩
 | []=>rw [h] at h4;simp at h4
 | [_]=>rw [h] at h4;simp at h4
 | _::_::_::_=>rw [h] at h4;simp at h4
end
section
open Go.RowKit
structure Cel where
 state:Int
 bytes:List UInt8
 old:List UInt8
 deriving DecidableEq
def B5 (x:Cel):List AV:= [iv x.state,bA x.bytes,bA x.old]
structure Dk where
 cells:List Cel
 cache:List Wr
 reqs:Int
 left:Int
 deriving DecidableEq
@[reducible] def H0 (x y:AV) (reqs left:Int):List AV:= [x,y,iv reqs,iv left]
@[reducible] def dkH (d:Dk):List AB:= [.box 185 (H0 (.ow 1 d.cells.length) (.ow 2 d.cache.length) d.reqs d.left), .row 128 3 (d.cells.map B5), .row 134 2 (d.cache.map DR)]
def Dk.req (d:Dk):Dk:={ d with reqs:=if 1048576<IntKind.i64.wrap (d.reqs+1) then 1048576 else IntKind.i64.wrap (d.reqs+1),left:=if d.left > 0 then d.left - 1 else d.left }

theorem GA (d:Dk) (hl : -1<=d.left/\d.left<=1048576):ACalls Tryz.prog false 183 [.bp 0 0] (dkH d) fun r H=>r = .v (.bool (decide (d.left≠0)))/\H=dkH (if d.left=0 then d else d.req):=by
 refine zk tys_ok Tryz.func183 rfl rfl (by decide) ?_;conv=>whnf
 refine A6 (fun h=>?_) (fun h=>?_) <;> (repeat rw [Aa] at h) <;> conv=>whnf
 ·exact⟨_,dkH d,fun _ _ h=>h,tA,rfl,tA,by simp [h],by rw [if_pos h]⟩
 ·have hw:IntKind.i64.wrap (d.left - 1)=d.left - 1:=by rw [IntKind.wrap_i64];omega
  refine zZ ?_;conv=>whnf
  refine A6 (fun h2=>?_) (fun h2=>?_) <;> (repeat rw [Aa] at h2) <;> conv=>whnf
  ·exact⟨_,dkH d.req,fun _ _ h=>h,⟨by simp [Dk.req,h2,hw],rfl,rfl,tv⟩,rfl,tA,by simp [h],by rw [if_neg h]⟩
  ·exact⟨_,dkH d.req,fun _ _ h=>h,⟨by simp [Dk.req];omega,rfl,rfl,tv⟩,rfl,tA,by simp [h],by rw [if_neg h]⟩

theorem Wp (a:Option Addr) (len cap:Nat) (w:World) :
  Calls Tryz.prog 252 #[.slice a len cap] w fun e w'=>e = .returned (.func (.func 274) #[] #[.pointer (some ⟨w.heap.size,0,none⟩)])/\w.alloc (.cells #[.slice a len cap] 41)=w':=by
 go_enter Tryz.func252,Tryz.ntmps252
 go_wp2
 go_ret
 exact tA

theorem PU (x:AV) (Hin:List AB) (hx:∀ c u,Rd x c u->∃ a len cap,u = .slice a len cap):ACalls Tryz.prog false 252 [x] Hin fun r H=>r = .fn 274 [.bp Hin.length 0]/\H=Hin ++ [.box 41 [x]]:=by
 refine⟨⟨_,Tryz.func252,rfl,by decide⟩,fun w0 M0 c us hs hr=>?_⟩;have hr0:=hr;simp only [RdL] at hr;obtain⟨u,_,rfl,hu,rfl⟩:=hr;obtain⟨a,len,cap,rfl⟩:=hx _ _ hu;obtain⟨c',e1,e2,e3,e4⟩:=hs.box 41 hr0 (by simp [Value.oneCell']);refine(Wp a len cap c.w).mono ?_;rintro e w' ⟨rfl,rfl⟩;refine⟨_,c',_,_,rfl,by rw [e1],tA,e2,e3,?_,fun e=>by cases e⟩;simp only [Rd,RdL];exact⟨_,rfl,_,_,rfl,by simpa only [Rd] using e4,rfl⟩
def PK (l:List Cel):AV:= .sl 3 l.length fun i=>B5 (l.getD i ⟨0, [], []⟩)
theorem L5 (l:List Int) (hl:l.length<=1000000000):ACalls Tryz.prog false 118 [iA l] [] fun r H=>r = .ow 0 l.length/\H=[.row 3 1 (l.map On)]:=by
 refine z7 tys_ok Tryz.func118 rfl rfl (by show 1<=_;decide) ?_;refine Af (fun h=>?_) ?_
 ·conv=>whnf
  have h0:=AQ.1 h;subst h0;exact⟨_, .ow 0 0, [.row 3 1 []],fun _ _ h=>h,zI ⟨[(0,3,1)],tA,tA,tA,rfl,rfl,rfl⟩,rfl,rfl⟩
 ·refine⟨⟨rfl,by omega⟩,?_⟩;exact⟨.ow 0 l.length, .ow 0 l.length, [.row 3 1 (l.map On)],fun _ _ h=>by rwa [Az] at h,zI ⟨[],tv,tA,⟨(congrArg (AB.row _ _) (Ho (d:=0) On l)).symm,tv⟩,rfl,rfl,rfl⟩,rfl,rfl⟩
theorem Tk (l:List Hm) (hl:l.length<=1000000000):ACalls Tryz.prog false 187 [Ku l] [] fun r H=>r = .ow 0 l.length/\H=[.row 177 3 (l.map Jq)]:=by
 refine z7 tys_ok Tryz.func187 rfl rfl (by show 1<=_;decide) ?_;refine Af (fun h=>?_) ?_
 ·conv=>whnf
  have h0:=AQ.1 h;subst h0;exact⟨_, .ow 0 0, [.row 177 3 []],fun _ _ h=>h,zI ⟨[(0,177,3)],tA,tA,tA,rfl,rfl,rfl⟩,rfl,rfl⟩
 ·refine⟨⟨rfl,by omega⟩,?_⟩;exact⟨.ow 0 l.length, .ow 0 l.length, [.row 177 3 (l.map Jq)],fun _ _ h=>by rwa [Az] at h,zI ⟨[],tv,tA,⟨(congrArg (AB.row _ _) (Ho (d:=⟨[],0,0⟩) Jq l)).symm,tv⟩,rfl,rfl,rfl⟩,rfl,rfl⟩
theorem Mv (l:List Tx) (hl:l.length<=1000000000):ACalls Tryz.prog false 188 [Eg l] [] fun r H=>r = .ow 0 l.length/\H=[.row 112 4 (l.map Eb)]:=by
 refine z7 tys_ok Tryz.func188 rfl rfl (by show 1<=_;decide) ?_;refine Af (fun h=>?_) ?_
 ·conv=>whnf
  have h0:=AQ.1 h;subst h0;exact⟨_, .ow 0 0, [.row 112 4 []],fun _ _ h=>h,zI ⟨[(0,112,4)],tA,tA,tA,rfl,rfl,rfl⟩,rfl,rfl⟩
 ·refine⟨⟨rfl,by omega⟩,?_⟩;exact⟨.ow 0 l.length, .ow 0 l.length, [.row 112 4 (l.map Eb)],fun _ _ h=>by rwa [Az] at h,zI ⟨[],tv,tA,⟨(congrArg (AB.row _ _) (Ho (d:=⟨0,0,0, []⟩) Eb l)).symm,tv⟩,rfl,rfl,rfl⟩,rfl,rfl⟩
theorem MV (l:List Img) (hl:l.length<=1000000000):ACalls Tryz.prog false 189 [Ee l] [] fun r H=>r = .ow 0 l.length/\H=[.row 166 3 (l.map Dv)]:=by
 refine z7 tys_ok Tryz.func189 rfl rfl (by show 1<=_;decide) ?_;refine Af (fun h=>?_) ?_
 ·conv=>whnf
  have h0:=AQ.1 h;subst h0;exact⟨_, .ow 0 0, [.row 166 3 []],fun _ _ h=>h,zI ⟨[(0,166,3)],tA,tA,tA,rfl,rfl,rfl⟩,rfl,rfl⟩
 ·refine⟨⟨rfl,by omega⟩,?_⟩;exact⟨.ow 0 l.length, .ow 0 l.length, [.row 166 3 (l.map Dv)],fun _ _ h=>by rwa [Az] at h,zI ⟨[],tv,tA,⟨(congrArg (AB.row _ _) (Ho (d:=⟨0,0, []⟩) Dv l)).symm,tv⟩,rfl,rfl,rfl⟩,rfl,rfl⟩
theorem I5 (l:List Cel) (hl:l.length<=1000000000):ACalls Tryz.prog false 162 [PK l] [] fun r H=>r = .ow 0 l.length/\H=[.row 128 3 (l.map B5)]:=by
 refine z7 tys_ok Tryz.func162 rfl rfl (by show 1<=_;decide) ?_;refine Af (fun h=>?_) ?_
 ·conv=>whnf
  have h0:=AQ.1 h;subst h0;exact⟨_, .ow 0 0, [.row 128 3 []],fun _ _ h=>h,zI ⟨[(0,128,3)],tA,tA,tA,rfl,rfl,rfl⟩,rfl,rfl⟩
 ·refine⟨⟨rfl,by omega⟩,?_⟩;exact⟨.ow 0 l.length, .ow 0 l.length, [.row 128 3 (l.map B5)],fun _ _ h=>by rwa [Az] at h,zI ⟨[],tv,tA,⟨(congrArg (AB.row _ _) (Ho (d:=⟨0, [], []⟩) B5 l)).symm,tv⟩,rfl,rfl,rfl⟩,rfl,rfl⟩
theorem Js (l:List Wr) (hl:l.length<=1000000000):ACalls Tryz.prog false 163 [Ma l] [] fun r H=>r = .ow 0 l.length/\H=[.row 134 2 (l.map DR)]:=by
 refine z7 tys_ok Tryz.func163 rfl rfl (by show 1<=_;decide) ?_;refine Af (fun h=>?_) ?_
 ·conv=>whnf
  have h0:=AQ.1 h;subst h0;exact⟨_, .ow 0 0, [.row 134 2 []],fun _ _ h=>h,zI ⟨[(0,134,2)],tA,tA,tA,rfl,rfl,rfl⟩,rfl,rfl⟩
 ·refine⟨⟨rfl,by omega⟩,?_⟩;exact⟨.ow 0 l.length, .ow 0 l.length, [.row 134 2 (l.map DR)],fun _ _ h=>by rwa [Az] at h,zI ⟨[],tv,tA,⟨(congrArg (AB.row _ _) (Ho (d:=⟨0, []⟩) DR l)).symm,tv⟩,rfl,rfl,rfl⟩,rfl,rfl⟩
theorem SubL.app:∀ {a b x y:List AV},SubL a b->SubL x y->SubL (a ++ x) (b ++ y)
 | [], [],_,_,_,k=>k
 | _::_,_::_,_,_,h,k=>⟨h.1,SubL.app h.2 k⟩
 | [],_::_,_,_,h,_=>h.elim
 | _::_, [],_,_,h,_=>h.elim
theorem SubL.flat:∀ {a b:List (List AV)},a.length=b.length->(∀ i,SubL (a.getD i []) (b.getD i []))->SubL a.flatten b.flatten
 | [], [],_,_=>trivial
 | x::a,y::b,hl,h=>by
  rw [AP,AP];exact SubL.app (h 0) (SubL.flat (by simpa using hl) fun i=>h (i+1))
 | [],_::_,hl,_=>by simp at hl
 | _::_, [],hl,_=>by simp at hl
theorem ConvH.subRow {H:List AB} {k:Nat} {t:TypeId} {sz:Nat} {es es':List (List AV)} (hk:H[k]? = some (.row t sz es)) (hl:es.length=es'.length) (h:∀ i,SubL (es.getD i []) (es'.getD i [])):ConvH H (H.set k (.row t sz es')):=fun _ _ c hs=>
 ⟨c,rfl,hs.recell hk rfl fun⟨h1,h2,h3,xs,h4,h5,h6⟩=>⟨h1.trans hl,h2,fun e he=>by
  obtain⟨i,hi,rfl⟩:=List.mem_iff_getElem.1 he;have:=(h i).len;rw [Ab,Ab,Ae hi,Ae (by omega)] at this;simp only [BE] at this;rw [<-this];exact h3 _ (Cy _),xs,by rw [<-hl];exact h4,(SubL.flat hl h).rdl h5,h6⟩,zN c⟩
def z8:=@ConvH.subRow
theorem ConvH.subRowo {H:List AB} {k:Nat} {t:TypeId} {sz m m':Nat} {es es':List (List AV)} (hk:H[k]? = some (.rowo t sz es m)) (hl:es.length=es'.length) (h:∀ i,SubL (es.getD i []) (es'.getD i [])) (hm:AV.ltL es'.flatten m'=true):ConvH H (H.set k (.rowo t sz es' m')):=fun _ _ c hs=>
 ⟨c,rfl,hs.recell hk rfl fun⟨h1,h2,h3,h7,xs,h4,h5,h6⟩=>⟨h1.trans hl,h2,fun e he=>by
  obtain⟨i,hi,rfl⟩:=List.mem_iff_getElem.1 he;have:=(h i).len;rw [Ab,Ab,Ae hi,Ae (by omega)] at this;simp only [BE] at this;rw [<-this];exact h3 _ (Cy _),hm,xs,by rw [<-hl];exact h4,(SubL.flat hl h).rdl h5,h6⟩,zN c⟩
theorem O9 {α:Type} {d x:α} {l:List α} {i k:Nat} (h:i≠k):(l.set i x).getD k d=l.getD k d:=by
 rw [Ab,AC h,<-Ab]
theorem Bm {α:Type} {d x:α} {l:List α} {i:Nat} (h:i<l.length):(l.set i x).getD i d=x:=by
 rw [Ab,AE h];try rfl
theorem ConvH.last {H:List AB} (k:Nat) {t:TypeId} {sz:Nat} {es:List (List AV)} {e e':List AV} (hk:H[k]? = some (.row t sz (es ++ [e]))) (h:SubL e e'):ConvH H (H.set k (.row t sz (es ++ [e']))):=
 z8 hk (by simp) fun i=>by
  by_cases hi:i<es.length
  ·rw [Jc hi,Jc hi];exact SubL.refl _
  ·rw [HN (by omega),HN (by omega)];cases h2:i - es.length with
   | zero=>exact h
   | succ j=>exact SubL.refl _
def AV.mv (k d:Nat):AV->AV
 | .ow j n=> .ow (bif Nat.beq j k then d else j) n
 | x=>x
theorem Rd.mv {c c':Ctx} {k:Nat} (e:Ext c c') (hd:c.dom<c'.dom) (hr:c'.rho c.dom=c.rho k) (hl:c'.len c.dom=c.len k):∀ (x:AV) {u:Value},Rd x c u->Rd (x.mv k c.dom) c' u
 | .ow j n,u,h=>by
  show Rd (.ow (bif Nat.beq j k then c.dom else j) n) c' u;cases hb:Nat.beq j k with
  | true=>
   have:=Al hb;subst this;simp only [Rd] at h;simp only [cond_true,Rd];exact⟨hd,by rw [hl];exact h.2.1,h.2.2.1,fun e=>by rw [hr];exact h.2.2.2 (by rw [<-hl];exact e)⟩
  | false=>exact Rd.ext _ e h
 | .top,_,h=>Rd.ext _ e h
 | .v _,_,h=>Rd.ext _ e h
 | .sl _ _ _,_,h=>Rd.ext _ e h
 | .rp _,_,h=>Rd.ext _ e h
 | .bp _ _,_,h=>Rd.ext _ e h
 | .ep _ _ _ _ _,_,h=>Rd.ext _ e h
 | .ag _,_,h=>Rd.ext _ e h
 | .tp _,_,h=>Rd.ext _ e h
 | .fn _ _,_,h=>Rd.ext _ e h
 | .ic _ _,_,h=>Rd.ext _ e h
theorem RdL.mv {c c':Ctx} {k:Nat} (e:Ext c c') (hd:c.dom<c'.dom) (hr:c'.rho c.dom=c.rho k) (hl:c'.len c.dom=c.len k):∀ (l:List AV) {us:List Value},RdL l c us->RdL (l.map (AV.mv k c.dom)) c' us
 | [],_,h=>h
 | x::l,_,h=>by
  simp only [RdL] at h;obtain⟨y,ys,rfl,h1,h2⟩:=h;simp only [A8,RdL];exact⟨y,ys,rfl,Rd.mv e hd hr hl x h1,RdL.mv e hd hr hl l h2⟩
theorem ConvH.move {H:List AB} (i k:Nat) {t ti:TypeId} {sz:Nat} {es:List (List AV)} {cs:List AV} (hik:i≠k) (hi:H[i]? = some (.box ti cs)) (hk:H[k]? = some (.row t sz es)) :
  ConvH H (((H.set k .dead).set i (.box ti (cs.map (AV.mv k H.length)))) ++ [.row t sz es]):=fun w0 M0 c hs=>by
 have hil:=(At.1 hi).1;have hkl:=(At.1 hk).1;have hdom:=hs.dom;let c':Ctx:={ c with rho:=fun j=>if j=c.dom then c.rho k else c.rho j,len:=fun j=>if j=c.dom then c.len k else c.len j,dom:=c.dom+1 };have hn:∀ j,j<c.dom->c'.rho j=c.rho j/\c'.len j=c.len j:=fun j hj=>⟨if_neg (by omega),if_neg (by omega)⟩
 have e:Ext c c':=⟨rfl,rfl,rfl,Ah _,fun _ _ h=>⟨h,rfl⟩,Nat.le_succ _,fun j hj=>by rw [(hn j hj).2];exact Ah _,fun j hj _=>(hn j hj).1,fun j g hj h=>by rw [(hn j hj).1];exact h⟩;have hr:c'.rho c.dom=c.rho k:=if_pos rfl;have hl:c'.len c.dom=c.len k:=if_pos rfl;have get:∀ j x,(((H.set k .dead).set i (.box ti (cs.map (AV.mv k H.length)))) ++ [.row t sz es])[j]? = some x->x.live=true->(j=c.dom/\x = .row t sz es)\/(j<c.dom/\j=i/\x = .box ti (cs.map (AV.mv k c.dom)))\/(j<c.dom/\j≠i/\j≠k/\H[j]? = some x):=fun j x hj hx=>by
  rw [hdom];by_cases h1:j<H.length
  ·rw [AA (by simpa using h1)] at hj;by_cases h2:j=i
   ·subst h2;rw [AE (by simpa using h1)] at hj;exact .inr (.inl ⟨h1,rfl,(Option.some.inj hj).symm⟩)
   ·rw [AC (Ne.symm h2)] at hj;by_cases h3:j=k
    ·subst h3;rw [AE h1] at hj;rw [<-Option.some.inj hj] at hx;cases hx
    ·rw [AC (Ne.symm h3)] at hj;exact .inr (.inr ⟨h1,h2,h3,hj⟩)
  ·rw [A9 (by simpa using h1)] at hj;simp only [AW] at hj;cases h2:j - H.length with
   | zero=>rw [h2] at hj;exact .inl ⟨by omega,(Option.some.inj hj).symm⟩
   | succ m=>rw [h2] at hj;simp at hj
 have org:∀ j x,(((H.set k .dead).set i (.box ti (cs.map (AV.mv k H.length)))) ++ [.row t sz es])[j]? = some x->x.live=true->∃ j' y,H[j']? = some y/\y.live=true/\c'.rho j=c.rho j'/\((j=c.dom/\j'=k)\/(j<c.dom/\j'=j/\j≠k)):=fun j x hj hx=>by
  rcases get j x hj hx with ⟨rfl,rfl⟩ | ⟨h1,rfl,rfl⟩ | ⟨h1,h2,h3,h4⟩
  ·exact⟨k,_,hk,rfl,hr, .inl tA⟩
  ·exact⟨j,_,hi,rfl,(hn j h1).1, .inr ⟨h1,rfl,hik⟩⟩
  ·exact⟨j,_,h4,hx,(hn j h1).1, .inr ⟨h1,rfl,h3⟩⟩
 refine⟨c',rfl,⟨hs.low,hs.base,by simp [c',hdom],hs.foreign,hs.lt,fun j x hj=>?_,fun j x g hj hx ho=>?_,fun j1 j2 x y g h1 h2 hx hy o1 o2=>?_⟩,e⟩
 ·cases hx:x.live with
  | false=>cases x <;> first | trivial | cases hx
  | true=>
   rcases get j x hj hx with ⟨rfl,rfl⟩ | ⟨h1,rfl,rfl⟩ | ⟨h1,h2,h3,h4⟩
   ·obtain⟨q1,q2,q3,xs,q4,q5,q6⟩:=hs.blk k _ hk;exact⟨by rw [hl];exact q1,q2,q3,xs,by rw [hr];exact q4,RdL.ext _ e.closed q5,q6⟩
   ·obtain⟨g,xs,q1,q2,q3,q4⟩:=hs.blk j _ hi;exact⟨g,xs,by rw [(hn j h1).1];exact q1,q2,RdL.mv e (Nat.lt_succ_self _) hr hl _ q3,q4⟩
   ·exact zu e rfl h1 (hn j h1).2 (fun _ _ _=>rfl) (hs.blk j x h4)
 ·obtain⟨j',y,h1,h2,h3,_⟩:=org j x hj hx;exact hs.own j' y g h1 h2 (by rw [<-h3];exact ho)
 ·obtain⟨a,y1,p1,p2,p3,p4⟩:=org j1 x h1 hx;obtain⟨b,y2,r1,r2,r3,r4⟩:=org j2 y h2 hy;have:=hs.dis a b y1 y2 g p1 r1 p2 r2 (by rw [<-p3];exact o1) (by rw [<-r3];exact o2);omega

def zw:=@ConvH.move
def Zp (T:Tys) (m:Nat) (rs:List ResultVar) (K:AV->List AB->Prop):QA:=fun ex fr H=>match ex with
 | .exit _=>False
 | _=>HV T rs fr H fun x=>∃ y r H2,(∀ c v,Rd x c v->Rd y c v)/\WkR m [(0,y)] H [(0,r)] H2/\K r H2
theorem ACalls.ofR {P : Program} {T : Tys} (hT : TOk P T) {f : FuncId} {fn : Func} {body : Code} {args : List AV} {Hin : List AB} {K : AV → List AB → Prop} (hf : P.funcs[f]? = some fn) (hb : fn.body = some body) (hname : (fn.name == "runtime.NumGoroutine") = false) (hn : args.length ≤ fn.ntmps)
  (h:Cp P T fn.ntmps Hin.length body (Zp T Hin.length fn.results.toList K) (frOf 0 args) Hin):ACalls P false f args Hin K:=by
 refine⟨⟨fn,hf,by rw [hb];try rfl,hname⟩,fun w0 M0 c0 us hs0 hr=>?_⟩;have hlen:=hr.length;have hFR:FR (w0.at c0.w hs0.low) c0 fn.ntmps (frOf 0 args) { tmps:=us.toArray ++ Array.replicate (fn.ntmps - us.toArray.size) undef,defers:= [] }:=by
  refine⟨by simp;omega,tv,fun i=>?_⟩;have:=GM (c:=c0) (m:=fn.ntmps - us.length) (l:=args) (i:=0) (pre:= []) rfl hr i;rw [AJ];have e:(us.toArray ++ Array.replicate (fn.ntmps - us.toArray.size) undef)[i]? = ([] ++ us ++ List.replicate (fn.ntmps - us.length) undef)[i]? :=by
   have:(us.toArray ++ Array.replicate (fn.ntmps - us.toArray.size) undef)=([] ++ us ++ List.replicate (fn.ntmps - us.length) undef).toArray:=Array.ext' (by simp);rw [this];simp only [Co]
  rw [e];exact this
 have fin:∀ a w,DQ (w0.at c0.w hs0.low) M0 c0 fn.ntmps (fun fr H=>HV T fn.results.toList fr H fun x=>∃ y r H2,(∀ c v,Rd x c v->Rd y c v)/\WkR Hin.length [(0,y)] H [(0,r)] H2/\K r H2) a w->∃ v,(results fn a.tmps).run P w = .ok v w/\∃ v' c' r H',Ending.returned v = .returned v'/\c'.w=w/\K r H'/\HS w0 M0 c' H'/\Ext c0 c'/\Rd r c' v'/\(false=true->Old c0.w w):=by
  rintro a w ⟨c,fr,H,rfl,h1,h2,h3,h4⟩;obtain⟨x,v,⟨y,r,H2,o1,o2,o3⟩,q2,q3⟩:=Es hT h2 h3 h1;have hfr:FR (w0.at c0.w hs0.low) c 1 [(0,y)] { tmps:= #[v],defers:= [] }:=by
   refine⟨rfl,tv,fun i=>?_⟩;unfold fget;cases i with
   | zero=>exact o1 _ _ q2
   | succ i=>show Rd .top c _;simp [Rd]
  obtain⟨c',e1,e2,e3,e4⟩:=o2.sound hs0.dom h2 hfr h4;have hr':=e3.get 0;refine⟨v,q3,v,c',r,H2,rfl,e1,o3,⟨zn e2.low,e2.base,e2.dom,e2.foreign,e2.lt,e2.blk,e2.own,e2.dis⟩,e4,?_,fun e=>by cases e⟩;simpa [fget] using hr'
 refine Ea hf hb trivial (Ah _) fin ?_;refine B7 (w0:=w0.at c0.w hs0.low) (M0:=M0) (ce:=c0) hT hs0.dom body _ _ c0 _ Hin _ (E_ rfl rfl fun _ _ _ h=>h) hs0.toAt hFR (zN _) h
def zS:=@ACalls.ofR
def Id (l:List Wr) (a:Int):Option Wr:=l.foldl (fun r w=>if w.addr=a then some w else r) none
theorem MQ (a:Int):Id [] a=none:=rfl
theorem Is (l:List Wr) (w:Wr) (a:Int):Id (l ++ [w]) a=if w.addr=a then some w else Id l a:=by simp [Id]
theorem JE {a:Int}:∀ (n:Nat) (l:List Wr),l.length=n->∀ i,i<l.length->(l.getD i ⟨0, []⟩).addr=a->(∀ j,i<j->j<l.length->(l.getD j ⟨0, []⟩).addr≠a)->Id l a=some (l.getD i ⟨0, []⟩)
 | 0,l,hn,i,hi,_,_=>by omega
 | n+1,l,hn,i,hi,h1,h2=>by
  rcases CB l with rfl | ⟨m,w,rfl⟩
  ·simp at hn
  ·simp only [CC] at *
   simp at hn hi;rw [Is];by_cases he:i=m.length
   ·subst he;simp only [Ab,A9 (Ah _),CI,CW,BE] at h1 |-
    rw [if_pos h1]
   ·have hm:∀ j,j<m.length->(m ++ [w]).getD j ⟨0, []⟩=m.getD j ⟨0, []⟩:=fun j hj=>by simp only [Ab,AA hj]
    have hw:=h2 m.length (by omega) (by simp);simp only [Ab,A9 (Ah _),CI,CW,BE] at hw;rw [if_neg hw,hm i (by omega)];rw [hm i (by omega)] at h1;exact JE n m hn i (by omega) h1 fun j q1 q2=>by rw [<-hm j q2];exact h2 j q1 (by simp;omega)
theorem It {a:Int}:∀ (n:Nat) (l:List Wr),l.length=n->(∀ j,j<l.length->(l.getD j ⟨0, []⟩).addr≠a)->Id l a=none
 | 0,l,hn,_=>by rw [AQ.1 hn];rfl
 | n+1,l,hn,h=>by
  rcases CB l with rfl | ⟨m,w,rfl⟩
  ·rfl
  ·simp only [CC] at *
   simp at hn;rw [Is];have hw:=h m.length (by simp);simp only [Ab,A9 (Ah _),CI,CW,BE] at hw;rw [if_neg hw];exact It n m hn fun j q=>by
    have:=h j (by simp;omega);simpa only [Ab,AA q] using this
def Dk.got (d:Dk) (a:Int):List UInt8 × Int:=
 match Id d.cache a with
 | some w=>(w.bytes,0)
 | none=>if (d.cells.getD a.toNat ⟨0, [], []⟩).state=0 then ((d.cells.getD a.toNat ⟨0, [], []⟩).bytes,0) else ([],6)
def Dk.read (d:Dk) (a:Int):Dk × List UInt8 × Int:=if d.left=0 then (d, [],8) else (d.req,d.got a)

theorem Vp (e:Int) (c:Ctx) (v:Value) (h:Rd (.tp [.v (.slice none 0 0),iv e]) c v):Rd (.tp [bA [],iv e]) c v:=by
 simp only [Rd,RdL] at h |-
 obtain⟨xs,rfl,y,ys,rfl,rfl,h⟩:=h;exact⟨_,rfl,_,_,rfl,Bn 1 (fun i=> [.v (.int .u8 (([]:List UInt8).getD i 0).toNat)]) c (.slice none 0 0) (by simp [Rd]),h⟩
theorem MO {m:Nat} (h:Nat.ble 3 m=true):∀ z∈ [0,1,2],z<m:=fun z hz=>by
 have:=Ag h;simp at hz;omega
theorem VU (hcl:∀ b:List UInt8,b.length<=1000000000->Fn Tryz.prog 96 [bA b] fun r=>r=bA b) (d:Dk) (a:Int) (hl : -1<=d.left/\d.left<=1048576) (ha:0<=a/\a<d.cells.length) (hc:d.cache.length<=2000) (hb:∀ c∈d.cells,c.bytes.length<=100000) (hw:∀ w∈d.cache,w.bytes.length<=100000) :
  ACalls Tryz.prog false 208 [.bp 0 0,iv a] (dkH d) fun r H=>r = .tp [bA (d.read a).2.1, .v (.int .i64 (d.read a).2.2)]/\H=dkH (d.read a).1:=by
 refine zk tys_ok Tryz.func208 rfl rfl (by show 2<=_;decide) ?_;have hq:=GA d hl;conv=>whnf
 by_cases h0:d.left=0
 ·rw [if_pos h0] at hq;refine zh [0,1,2] hq ?_;rintro _ _ ⟨rfl,rfl⟩;rw [show decide (d.left≠0)=false by simp [h0]];exact⟨.tp [bA [],iv 8],dkH d,Vp 8,tA,rfl,tA,by simp [Dk.read,h0],by simp [Dk.read,h0]⟩
 ·rw [if_neg h0] at hq;refine zh [0,1,2] hq ?_;rintro _ _ ⟨rfl,rfl⟩;rw [show decide (d.left≠0)=true by simp [h0]];conv=>whnf
  refine(PU (.ow 2 d.req.cache.length) _ (fun c u hu=>by simp only [Rd] at hu;obtain⟨_,_,⟨a,p,h,_⟩,_⟩:=hu;exact⟨_,_,_,h⟩)).mono ?_;rintro _ _ ⟨rfl,rfl⟩;conv=>whnf
  have hE:∀ i,i<d.cache.length->(d.cache.map DR).getD i []=DR (d.cache.getD i ⟨0, []⟩):=fun i hi=>Bf hi
  refine aRF.back tys_ok back_is (B:=6) (len:=d.cache.length) (E:=fun i=>(d.cache.map DR).getD i []) rfl rfl ⟨rfl,_,_,rfl,by simp [Dk.req],rfl⟩ (by omega) rfl (by decide) rfl [(3, .rp [iv a])] ⟨.inr ⟨3,_,_,rfl,rfl,rfl,rfl⟩,tv⟩ (fun i=>decide ((d.cache.getD i ⟨0, []⟩).addr=a)) ?_ ?_ ?_
  ·intro i hi hh;rw [hE i hi];refine⟨rfl,?_⟩;have hh':(d.cache.getD i ⟨0, []⟩).addr≠a:=by simpa using hh
   conv=>whnf
   refine A6 (fun h1=>?_) (fun h1=>?_) <;> (repeat rw [Aa] at h1) <;> conv=>whnf
   ·exact absurd h1 hh'
  ·intro i hi hh;rw [hE i hi];refine⟨rfl,?_⟩;have hh':(d.cache.getD i ⟨0, []⟩).addr=a:=by simpa using hh
   have hcw:=hcl (d.cache.getD i ⟨0, []⟩).bytes (by have:=hw _ (A5 (d:=⟨0, []⟩) hi);omega);conv=>whnf
   refine A6 (fun h1=>?_) (fun h1=>?_) <;> (repeat rw [Aa] at h1) <;> conv=>whnf
   ·refine z_ hcw ?_;conv=>whnf
    refine⟨by simp,rfl,fun hord=>?_⟩;conv=>whnf
    have hg:d.got a=((d.cache.getD i ⟨0, []⟩).bytes,0):=by
     unfold Dk.got;rw [JE _ _ rfl i hi hh' fun j q1 q2=>by simpa using hord j q1 q2]
    exact⟨_,dkH d.req,fun _ _ h=>h,tA,rfl,tA,by simp [Dk.read,h0,hg,bA],by simp [Dk.read,h0]⟩
   ·exact absurd hh' h1
  ·intro hh;have hg:d.got a=if (d.cells.getD a.toNat ⟨0, [], []⟩).state=0 then ((d.cells.getD a.toNat ⟨0, [], []⟩).bytes,0) else ([],6):=by
    unfold Dk.got;rw [It _ _ rfl fun j q=>by simpa using hh j q]
   have hgc:(d.cells.map B5).getD a.toNat []=B5 (d.cells.getD a.toNat ⟨0, [], []⟩):=Bf (by omega);have hgc':(d.req.cells.map B5).getD a.toNat []=B5 (d.cells.getD a.toNat ⟨0, [], []⟩):=hgc;have hcb:=hcl (d.cells.getD a.toNat ⟨0, [], []⟩).bytes (by have:=hb _ (A5 (d:=⟨0, [], []⟩) (show a.toNat<d.cells.length by omega));omega);conv=>whnf
   refine zA tys_ok mixed [0,1,2,3,4,5,6,7,8,9] (by kernel_rfl) ?_;refine⟨ha,?_⟩;refine⟨⟨rfl,(Ac _).symm,show a.toNat<d.cells.length by omega⟩,?_⟩;conv=>whnf
   first | rw [hgc] | rw [hgc']
   conv=>whnf
   refine A6 (fun h1=>?_) (fun h1=>?_) <;> (repeat rw [Aa] at h1) <;> conv=>whnf
   ·rw [if_neg h1] at hg;exact⟨.tp [bA [],iv 6],dkH d.req,Vp 6,tA,rfl,tA,by simp only [Dk.read,if_neg h0,hg],by simp only [Dk.read,if_neg h0]⟩
   ·refine z_ hcb ?_;conv=>whnf
    conv=>whnf
    rw [if_pos h1] at hg;exact⟨_,dkH d.req,fun _ _ h=>h,tA,rfl,tA,by simp only [Dk.read,if_neg h0,hg,bA],by simp only [Dk.read,if_neg h0]⟩
def Dk.write (d:Dk) (a:Int) (b:List UInt8):Dk × Int:=
 if d.left=0 then (d,8) else if (d.cells.getD a.toNat ⟨0, [], []⟩).state=2\/(2000:Int)<=d.cache.length then (d.req,7) else ({ d.req with cache:=d.cache ++ [⟨a,b⟩] },0)

theorem T6 (hcl:∀ b:List UInt8,b.length<=1000000000->Fn Tryz.prog 96 [bA b] fun r=>r=bA b) (d:Dk) (a:Int) (b:List UInt8) (hl : -1<=d.left/\d.left<=1048576) (ha:0<=a/\a<d.cells.length) (hc:d.cache.length<=2000) (hb:b.length<=100000) :
  ACalls Tryz.prog false 239 [.bp 0 0,iv a,bA b] (dkH d) fun r H=>r = .v (.int .i64 (d.write a b).2)/\H=dkH (d.write a b).1:=by
 refine zk tys_ok Tryz.func239 rfl rfl (by show 3<=_;decide) ?_;have hq:=GA d hl;have hcb:=hcl b (by omega);conv=>whnf
 by_cases h0:d.left=0
 ·rw [if_pos h0] at hq;refine hq.mono ?_;rintro _ _ ⟨rfl,rfl⟩;rw [show decide (d.left≠0)=false by simp [h0]];exact⟨_,dkH d,fun _ _ h=>h,tA,rfl,tA,by simp only [Dk.write,if_pos h0],by simp only [Dk.write,if_pos h0]⟩
 ·rw [if_neg h0] at hq;refine hq.mono ?_;rintro _ _ ⟨rfl,rfl⟩;rw [show decide (d.left≠0)=true by simp [h0]];have hgc:(d.cells.map B5).getD a.toNat []=B5 (d.cells.getD a.toNat ⟨0, [], []⟩):=Bf (by omega);have hgc':(d.req.cells.map B5).getD a.toNat []=B5 (d.cells.getD a.toNat ⟨0, [], []⟩):=hgc;refine⟨ha,?_⟩;refine⟨⟨rfl,(Ac _).symm,show a.toNat<d.cells.length by omega⟩,?_⟩;conv=>whnf
  first | rw [hgc] | rw [hgc']
  conv=>whnf
  refine A6 (fun h1=>?_) (fun h1=>?_) <;> (repeat rw [Aa] at h1) <;> conv=>whnf
  ·exact⟨_,dkH d.req,fun _ _ h=>h,tA,rfl,tA,by simp only [Dk.write,if_neg h0,if_pos (Or.inl h1)],by simp only [Dk.write,if_neg h0,if_pos (Or.inl h1)]⟩
  ·by_cases h2:(2000:Int)<=d.cache.length
   ·rw [show decide ((d.req.cache.length:Int)>=2000)=true from decide_eq_true h2];exact⟨_,dkH d.req,fun _ _ h=>h,tA,rfl,tA,by simp only [Dk.write,if_neg h0,if_pos (Or.inr h2)],by simp only [Dk.write,if_neg h0,if_pos (Or.inr h2)]⟩
   ·rw [show decide ((d.req.cache.length:Int)>=2000)=false from decide_eq_false h2];have hc':d.req.cache.length<=2000:=hc;have h3:¬((d.cells.getD a.toNat ⟨0, [], []⟩).state=2\/(2000:Int)<=d.cache.length):=fun h=>h.elim h1 h2
    conv=>whnf
    apply zL tys_ok mixed (.o [0,1,2,3,4,5,6,7,8,9,10,11,12,13,14,15] .fin) [31,32,33,34,35,36,37,38,39,40,41,42,43,44,45] (by kernel_rfl)
    ·conv=>whnf
     refine z_ hcb ?_;conv=>whnf
     try (refine tJ ?_;conv=>whnf)
     try (refine tK ?_;conv=>whnf)
     try (refine tS ?_;conv=>whnf)
     exact tA
    conv=>whnf
    have e:dkH { d.req with cache:=d.cache ++ [⟨a,b⟩] }=[.box 185 (H0 (.ow 1 d.cells.length) (.ow 2 (d.cache.length+1)) d.req.reqs d.req.left), .row 128 3 (d.cells.map B5), .row 134 2 (d.cache.map DR ++ [DR ⟨a,b⟩])]:=by
     unfold dkH;simp only [Ai,Dl,A0,A8,BM];rfl
    refine⟨_,dkH { d.req with cache:=d.cache ++ [⟨a,b⟩] },fun _ _ h=>h,?_,rfl,tA,by simp only [Dk.write,if_neg h0,if_neg h3],by simp only [Dk.write,if_neg h0,if_neg h3]⟩;rw [e];exact tA
def cz:Cel:=⟨0, [], []⟩
def Dk.fin (d:Dk) (w:Wr):Dk:=
 if (d.cells.getD w.addr.toNat cz).state=2 then d else { d with cells:=d.cells.set w.addr.toNat ⟨0,w.bytes,(d.cells.getD w.addr.toNat cz).bytes⟩ }

theorem VZ (d:Dk) (w:Wr) (ha:0<=w.addr/\w.addr<d.cells.length) :
  ACalls Tryz.prog false 184 [.bp 0 0, .ag (DR w)] (dkH d) fun r H=>r = .tp []/\H=dkH (d.fin w):=by
 refine zk tys_ok Tryz.func184 rfl rfl (by show 2<=_;decide) ?_;have hgc:(d.cells.map B5).getD w.addr.toNat []=B5 (d.cells.getD w.addr.toNat cz):=Bf (by omega);conv=>whnf
 refine zA tys_ok mixed [0,1,2,3,4,5,6,7,8] (by kernel_rfl) ?_;refine⟨(show 0<=w.addr/\w.addr<d.cells.length from ha),?_⟩;refine⟨⟨rfl,(Ac _).symm,show w.addr.toNat<d.cells.length by omega⟩,?_⟩;conv=>whnf
 rw [hgc];conv=>whnf
 refine A6 (fun h1=>?_) (fun h1=>?_) <;> (repeat rw [Aa] at h1) <;> conv=>whnf
 ·refine zA tys_ok mixed [0,1,2,3,4,5,6,7,8,9] (by kernel_rfl) ?_;refine⟨⟨rfl,(Ac _).symm,show w.addr.toNat<d.cells.length by omega⟩,?_⟩;conv=>whnf
  rw [hgc];refine⟨⟨rfl,(Ac _).symm,show w.addr.toNat<d.cells.length by omega⟩,?_⟩;conv=>whnf
  rw [hgc];conv=>whnf
  have hmem:w.addr.toNat<d.cells.length:=by omega
  refine⟨_,dkH { d with cells:=d.cells.set w.addr.toNat ⟨0,w.bytes,(d.cells.getD w.addr.toNat cz).bytes⟩ },fun _ _ h=>h,?_,rfl,tA,rfl,by simp only [Dk.fin,if_neg h1]⟩;have e:dkH { d with cells:=d.cells.set w.addr.toNat ⟨0,w.bytes,(d.cells.getD w.addr.toNat cz).bytes⟩ }=[.box 185 (H0 (.ow 1 d.cells.length) (.ow 2 d.cache.length) d.reqs d.left), .row 128 3 ((d.cells.map B5).set w.addr.toNat (B5 ⟨0,w.bytes,(d.cells.getD w.addr.toNat cz).bytes⟩)), .row 134 2 (d.cache.map DR)]:=by
   unfold dkH;simp only [AW,C6]
  rw [e];exact tA
 ·refine⟨_,dkH d,fun _ _ h=>h,tA,rfl,tA,rfl,by simp only [Dk.fin,if_pos h1]⟩
@[reducible] def dkF (d:Dk):List AB:= [.box 185 (H0 (.ow 1 d.cells.length) (.ow 3 0) d.reqs d.left), .row 128 3 (d.cells.map B5), .dead, .row 134 2 []]
def Dk.allFin (d:Dk) (l:List Wr):Dk:=l.foldl Dk.fin d
theorem XC (d:Dk) (w:Wr):(d.fin w).cells.length=d.cells.length:=by unfold Dk.fin;split <;> simp
theorem Tz (d:Dk) (w:Wr):(d.fin w).cache=d.cache/\(d.fin w).reqs=d.reqs/\(d.fin w).left=d.left:=by unfold Dk.fin;split <;> simp
theorem I8 (l:List Wr):∀ (d:Dk),(d.allFin l).cells.length=d.cells.length/\(d.allFin l).cache=d.cache/\(d.allFin l).reqs=d.reqs/\(d.allFin l).left=d.left:=by
 induction l with
 | nil=>intro d;exact⟨rfl,rfl,rfl,rfl⟩
 | cons w r ih=>
  intro d;obtain⟨h1,h2,h3,h4⟩:=ih (d.fin w);have:=Tz d w;exact⟨h1.trans (XC d w),h2.trans this.1,h3.trans this.2.1,h4.trans this.2.2⟩
theorem Kp (d:Dk) {l:List Wr} {k:Nat} (h:k<l.length):d.allFin (l.take (k+1))=(d.allFin (l.take k)).fin (l.getD k ⟨0, []⟩):=by
 unfold Dk.allFin;rw [Bi,Cd,Ae h];simp [Ab,Ae h]
def Dk.flush (d:Dk):Dk:={ d.req.allFin d.cache with cache:= [] }

theorem Rf (d:Dk) (hl : -1<=d.left/\d.left<=1048576) (h0:d.left=0) :
  ACalls Tryz.prog false 112 [.bp 0 0] (dkH d) fun r H=>r = iv 8/\H=dkH d:=by
 refine ACalls.ofW tys_ok Tryz.func112 rfl rfl (by show 1<=_;decide) ?_;have hq:=GA d hl;rw [if_pos h0,show decide (d.left≠0)=false by simp [h0]] at hq;conv=>whnf
 refine hq.mono ?_;rintro _ _ ⟨rfl,rfl⟩;exact⟨_,_,dkH d,fun _ _ h=>h,⟨[],tv,tA,tA,rfl,rfl,rfl⟩,rfl,rfl⟩
theorem TA (d:Dk) (hl : -1<=d.left/\d.left<=1048576) (h0:d.left≠0) (hc:d.cache.length<=2000) (ha:∀ w∈d.cache,0<=w.addr/\w.addr<d.cells.length) :
  ACalls Tryz.prog false 112 [.bp 0 0] (dkH d) fun r H=>r = iv 0/\H=dkF d.flush:=by
 refine ACalls.ofW tys_ok Tryz.func112 rfl rfl (by show 1<=_;decide) ?_;have hq:=GA d hl;rw [if_neg h0,show decide (d.left≠0)=true by simp [h0]] at hq;conv=>whnf
 refine hq.mono ?_;rintro _ _ ⟨rfl,rfl⟩;conv=>whnf
 have hE:∀ i,i<d.cache.length->(d.cache.map DR).getD i []=DR (d.cache.getD i ⟨0, []⟩):=fun i hi=>Bf hi
 refine zP Nat (fun k=>([(0, .bp 0 0),(12, .ow 2 d.cache.length),(13,iv d.cache.length),(14,iv k),(2,iv 0)],dkH (d.req.allFin (d.cache.take k)))) (fun k=>k<=d.cache.length) (fun k=>d.cache.length - k) 0 (Aj _) ⟨[],tv,tA,tA,rfl,rfl,rfl⟩ ?_;rintro k hk;have hall:=I8 (d.cache.take k) d.req;have hnext:k<d.cache.length->d.req.allFin (d.cache.take (k+1))=(d.req.allFin (d.cache.take k)).fin (d.cache.getD k ⟨0, []⟩):=fun h=>Kp d.req h
 have hlast:k=d.cache.length->d.flush={ d.req.allFin (d.cache.take k) with cache:= [] }:=fun h=>by rw [h,Ay];try rfl
 generalize d.req.allFin (d.cache.take k)=X at hall hnext hlast |-
 obtain⟨xc,xw,xr,xl⟩:=X;simp only at hall;obtain⟨q1,q2,q3,q4⟩:=hall;have q2:xw=d.cache:=q2;subst q2;have q1':xc.length=d.cells.length:=q1;conv=>whnf
 refine A6 (fun h=>?_) (fun h=>?_) <;> (repeat rw [Aa] at h) <;> conv=>whnf
 ·have hd:=VZ ⟨xc,d.cache,xr,xl⟩ (d.cache.getD k ⟨0, []⟩) (by have:=ha _ (A5 (d:=⟨0, []⟩) (show k<d.cache.length by omega));show _/\_<((xc.length:Nat):Int);rw [q1'];exact this);refine⟨⟨by omega,by omega⟩,?_⟩;refine⟨⟨rfl,(Ac _).symm,by simpa using h⟩,?_⟩;conv=>whnf
  rw [show ((k:Int)).toNat=k from Aa k,hE k (by omega)];conv=>whnf
  refine zh [0,1,2] hd ?_;rintro _ _ ⟨rfl,rfl⟩;refine⟨k+1,by omega,by omega, [],tv,⟨rfl,rfl,rfl,AR (by omega),rfl,tv⟩,?_,rfl,rfl,rfl⟩;rw [hnext (by omega)];exact tA
 ·conv=>whnf
  have ek:k=d.cache.length:=by omega
  rw [hlast ek];exact⟨iv 0,iv 0,dkF { cells:=xc,cache:= [],reqs:=xr,left:=xl },fun _ _ h=>h,⟨[(1000001,134,2)],tA,tA,tA,rfl,rfl,rfl⟩,rfl,rfl⟩
theorem SL (N:Nat) (hr:N<4294967296):Fn Tryz.prog 276 [iv N] fun r=>r = iv (F7 N:Nat):=by
 refine zT Tryz.func276 rfl ?_;refine⟨by decide,?_⟩;conv=>whnf
 have ht:(N:Int).tmod 2=((N % 2:Nat):Int):=by rw [AI (by omega)];omega
 have hd:IntKind.i64.wrap ((N:Int).tdiv 2)=((N / 2:Nat):Int):=by rw [Bj (by omega),wi (by omega)];omega
 by_cases h2:N % 2=1
 ·have hs:F7 N=N / 2 ^^^ 2197175160:=by unfold F7;rw [if_pos h2];try rfl
  rw [ht,h2,show (((1:Nat):Int) == 1)=true from rfl];refine⟨by decide,?_⟩;conv=>whnf
  rw [hd];exact⟨_,ri,by rw [hs,<-RV (N / 2) 2197175160 (by omega) (by omega)];try rfl⟩
 ·have h0:N % 2=0:=by omega
  have hs:F7 N=N / 2:=by unfold F7;rw [if_neg h2,Nat.xor_zero]
  rw [ht,h0,show (((0:Nat):Int) == 1)=false from rfl];refine⟨by decide,?_⟩;exact⟨_,ri,by rw [hs,hd]⟩
theorem Q1 (r:Nat) (hr:r<4294967296):Fn Tryz.prog 254 [iv r] fun q=>q = iv (Fc r:Nat):=by
 refine zT Tryz.func254 rfl ?_;conv=>whnf
 refine zU Nat (fun k=>([(0,iv (stepsC k r:Nat)),(3,iv k)], [])) (fun k=>k<=8) (fun k=>8 - k) 0 (Aj _)
  (zR (s:= []) tA) ?_
 intro k hk;conv=>whnf
 refine A6 (fun h6=>?_) (fun h6=>?_) <;> (repeat rw [Aa] at h6) <;> conv=>whnf
 ·have hdn:=SL (stepsC k r) (stepsC_lt k hr);refine z_ hdn ?_;exact⟨k+1,by omega,by omega,zR (s:= []) ⟨⟨rfl,AR (by omega),tv⟩,tv,rfl,rfl,rfl,rfl,rfl⟩⟩
 ·have ek:k=8:=by omega
  subst ek;exact⟨_,ri,rfl⟩
theorem SB (b:List UInt8) (hb:b.length<=1000000000):Fn Tryz.prog 214 [iv 0,bA b] fun r=>r = iv (CS b:Nat):=by
 refine zT Tryz.func214 rfl ?_;conv=>whnf
 rw [show IntKind.i64.wrap (4294967295 - 0)=4294967295 by decide];refine zU Nat (fun k=>([(1,bA b),(5,iv (FH 4294967295 (b.take k):Nat)),(6,iv k)], [])) (fun k=>k<=b.length) (fun k=>b.length - k) 0 (Aj _)
  (zR (s:= []) tA) ?_
 intro k hk;conv=>whnf
 refine A6 (fun h6=>?_) (fun h6=>?_) <;> (repeat rw [Aa] at h6) <;> conv=>whnf
 ·have hk':k<b.length:=by omega
  have hst:=LB (r:=4294967295) hk';have hlt:=foldC_lt (b.take k) (r:=4294967295) (by omega);refine⟨⟨by omega,by omega⟩,?_⟩;conv=>whnf
  have hb':b.getD (k:Int).toNat 0=b[k]:=by rw [Aa,Ab,Ae hk'];try rfl
  have hy:=b[k].toNat_lt;have hx:IntKind.i64.wrap ((BitVec.ofInt IntKind.i64.bits ((FH 4294967295 (b.take k):Nat):Int) ^^^ BitVec.ofInt IntKind.i64.bits (IntKind.i64.wrap ((b.getD (k:Int).toNat 0).toNat:Int))).toNat:Int)=((FH 4294967295 (b.take k) ^^^ b[k].toNat:Nat):Int):=by
   rw [hb',wi (n:=((b[k].toNat:Nat):Int)) (by omega)];exact RV _ _ hlt (by omega)
  rw [hx];have h8:=Q1 _ (KG hlt (show b[k].toNat<4294967296 by omega));rw [<-hst] at h8;refine z_ h8 ?_;exact⟨k+1,hk',by omega,zR (s:= []) ⟨⟨rfl,rfl,AR (by omega),tv⟩,tv,rfl,rfl,rfl,rfl,rfl⟩⟩
 ·have ek:k=b.length:=by omega
  subst ek;have hlt:=foldC_lt b (r:=4294967295) (by omega);exact⟨_,ri,congrArg (fun n=>AV.v (.int .i64 n)) (by rw [Ay];unfold CS;rw [wi (by omega)];omega)⟩
theorem OG (b:List UInt8) (hb:b.length<=1000000000):Fn Tryz.prog 150 [bA b] fun r=>r = iv (CS b:Nat):=by
 have h:=SB b hb;refine zT Tryz.func150 rfl ?_;conv=>whnf
 refine z_ h ?_;exact⟨_,ri,rfl⟩
theorem B4 {α:Type} {f:α->List AV} {d:α} {sz:Nat} {es:List (List AV)} {n:Nat} (l:List α) (hn:n=l.length) (he:es=l.map f) (c:Ctx) (u:Value) (h:Rd (.sl sz n fun i=>es.getD i []) c u):Rd (.sl sz l.length fun i=>f (l.getD i d)) c u:=
 zH hn (fun i hi=>by rw [he,Bf (d:=d) (by omega)]) h
theorem TW {n:Nat} {es:List (List AV)} (l:List UInt8) (hn:n=l.length) (he:es=l.map fun x=> [.v (.int .u8 x.toNat)]) (c:Ctx) (u:Value) (hr:Rd (.sl 1 n fun i=>es.getD i []) c u):Rd (bA l) c u:=
 B4 (f:=fun x:UInt8=> [.v (.int .u8 x.toNat)]) l hn he c u hr
theorem RE (L:List UInt8):((List.range L.length).map fun i=> [AV.v (Value.int IntKind.u8 ((L.getD i 0).toNat:Int))])=L.map Eo:=by
 apply List.ext_getElem
 ·simp
 ·intro i h1 h2;simp only [Ac,Cc] at h1;simp [Eo,Ab,Ae h1]
theorem H9 {L:List UInt8} {n:Nat} {es:List (List AV)} (hn:n=L.length) (he:es=L.map Eo) (c:Ctx) (v:Value) (h:Rd (.sl 1 n fun i=>es.getD i []) c v):Rd (bA L) c v:=B4 (f:=Eo) L hn he c v h
theorem Ss (b:List UInt8) (hb:b.length<=1000000000):ACalls Tryz.prog false 62 [bA b] [] fun r H=>r = .ow 0 b.length/\H=[.row 5 1 (b.map Eo)]:=by
 refine z7 tys_ok Tryz.func62 rfl rfl (Ag rfl) ?_;refine⟨hb,?_⟩;exact⟨.ow 0 b.length, .ow 0 b.length, [.row 5 1 (b.map Eo)],fun _ _ h=>h,zI ⟨[],tv,tA,⟨congrArg (AB.row 5 1) (RE b).symm,tv⟩,rfl,rfl,rfl⟩,rfl,rfl⟩
theorem Hk (l:List UInt8) (n:Int) (m:Nat) (hl:l.length<=1000000) (hn:0<=n/\n<=4294967295) (hm:m<=4):ACalls Tryz.prog false 203 [bA l,iv n,iv m] [] fun r H=>r = .ow 0 (l ++ leB m n.toNat).length/\H=[.row 5 1 ((l ++ leB m n.toNat).map Eo)]:=by
 have htw:=Ss l (by omega);obtain⟨q,rfl⟩:∃ q:Nat,n=q:=⟨n.toNat,by omega⟩;rw [Aa];refine z7 tys_ok Tryz.func203 rfl rfl (Ag rfl) ?_;conv=>whnf
 refine zW (htw) rfl ?_;rintro _ _ ⟨rfl,rfl⟩;conv=>whnf
 refine zU Nat (fun k=>([(1,iv (q / 256 ^ k:Nat)),(2,iv m),(7, .ow 0 (l ++ leB k q).length),(8,iv k)], [.row 5 1 ((l ++ leB k q).map Eo)])) (fun k=>k<=m) (fun k=>m - k) 0 (Aj _)
  (zR (s:= [0]) ⟨⟨congrArg (fun n:Nat=>AV.v (.int .i64 n)) (show q=q / 256 ^ 0 by simp),rfl,congrArg (fun n:Nat=>AV.ow 0 n) (show l.length=(l ++ leB 0 q).length by simp [leB]),rfl,tv⟩,⟨show some (AB.row 5 1 (l.map Eo))=some (AB.row 5 1 ((l ++ leB 0 q).map Eo)) by simp [leB],tv⟩,rfl,rfl,rfl,rfl,rfl⟩) ?_
 intro k hk;have hstep:=leB_step k q;have hq:q / 256 ^ k<=4294967295:=Bo (Nat.div_le_self _ _) (by omega);have hdiv:q / 256 ^ k / 256=q / 256 ^ (k+1):=by rw [Nat.div_div_eq_div_mul,Nat.pow_succ]
 have hlen:(l ++ leB k q).length<=1000004:=by rw [Ai,leB_len];omega
 generalize q / 256 ^ k=Q at hstep hq hdiv;conv=>whnf
 refine A6 (fun h6=>?_) (fun h6=>?_) <;> (repeat rw [Aa] at h6) <;> conv=>whnf
 ·refine⟨rfl,?_⟩;refine⟨⟨by rw [Ac],by omega⟩,?_⟩;refine⟨by decide,?_⟩;conv=>whnf
  have htd:IntKind.i64.wrap ((Q:Int).tdiv 256)=((Q / 256:Nat):Int):=by rw [Bj (by omega),wi (by omega)];omega
  have hU : [[AV.v (Value.int IntKind.u8 (IntKind.u8.wrap (Q:Int)))]]=[UInt8.ofNat (Q % 256)].map Eo:=by
   show _=[[AV.v (.int .u8 ((UInt8.ofNat (Q % 256)).toNat:Nat))]];rw [B8 (show Q % 256<256 by omega),IntKind.wrap_u8];try rfl
  refine⟨k+1,by omega,by omega,zR (s:= [0]) ⟨⟨congrArg (fun n:Int=>AV.v (.int .i64 n)) (by rw [htd,hdiv]),rfl,congrArg (fun n:Nat=>AV.ow 0 n) (show (l ++ leB k q).length+1=(l ++ leB (k+1) q).length by rw [hstep];simp;omega),AR (by omega),tv⟩,⟨?_,tv⟩,rfl,rfl,rfl,rfl,rfl⟩⟩;rw [hstep,<-A7,A0,<-hU];try rfl
 ·have ek:k=m:=by omega
  subst ek;exact⟨.ow 0 (l ++ leB k q).length, .ow 0 (l ++ leB k q).length, [.row 5 1 ((l ++ leB k q).map Eo)],fun _ _ h=>h,zI ⟨[],tv,tA,tA,rfl,rfl,rfl⟩,rfl,rfl⟩
theorem NC (l:List UInt8) (n m:Nat) (hl:l.length<=1000000) (hn:n<=4294967295) (hm:m<=4):Fn Tryz.prog 203 [bA l,iv n,iv m] fun r=>r=bA (l ++ leB m n):=by
 refine ACalls.fn (Hk l n m hl (by omega) hm) ?_;rintro _ _ ⟨rfl,rfl⟩;refine⟨_,z6 _,?_⟩;refine Af (Ac _).symm ?_;exact⟨bA (l ++ leB m n),H9 rfl rfl,rfl⟩
theorem Ej (l:List UInt8) (n:Int) (m:Nat) (hl:l.length<=1000000) (hn:0<=n/\n<=4294967295) (hm:m<=4):Fn Tryz.prog 203 [bA l,iv n,iv m] fun r=>r=bA (l ++ leB m n.toNat):=by
 have:=NC l n.toNat m hl (by omega) hm;rwa [BZ hn.1] at this
theorem Lc (l:List UInt8) (hl:l.length<=255):ACalls Tryz.prog false 215 [bA l] [] fun r H=>r = .ow 0 (UInt8.ofNat l.length::l).length/\H=[.row 5 1 ((UInt8.ofNat l.length::l).map Eo)]:=by
 refine z7 tys_ok Tryz.func215 rfl rfl (Ag rfl) ?_;refine⟨⟨rfl,by omega⟩,?_⟩;conv=>whnf
 have e : [[AV.v (Value.int IntKind.u8 (IntKind.u8.wrap (l.length:Int)))]] ++ (List.range l.length).map (fun i=> [AV.v (Value.int IntKind.u8 ((l.getD i 0).toNat:Int))])=(UInt8.ofNat l.length::l).map Eo:=by
  rw [RE,A8,List.singleton_append,Eo,B8 (show l.length<256 by omega),IntKind.wrap_u8];congr 4;omega
 exact⟨.ow 0 (1+l.length), .ow 0 (1+l.length), [.row 5 1 ((UInt8.ofNat l.length::l).map Eo)],fun _ _ h=>h,zI ⟨[],tv,tA,⟨congrArg (AB.row 5 1) e.symm,tv⟩,rfl,rfl,rfl⟩,congrArg (AV.ow 0) (by rw [Ap];omega),rfl⟩
theorem S5 (addr stamp:Int) (p:List UInt8) (hok:WC addr stamp p):Fn Tryz.prog 166 [.ag [iv addr,iv stamp,bA p]] fun r=>r=bA (CA addr stamp p):=by
 obtain⟨q1,q2,q3,q4,q5⟩:=hok;have hp:=Lc p (by omega);have a1:=Ej (UInt8.ofNat p.length::p) addr 2 (by simp;omega) (by omega) (by decide);have a2:=Ej ((UInt8.ofNat p.length::p) ++ leB 2 addr.toNat) stamp 4 (by simp [leB_len];omega) (by omega) (by decide);have a3:=OG ((UInt8.ofNat p.length::p) ++ leB 2 addr.toNat ++ leB 4 stamp.toNat) (by simp [leB_len];omega);have a4:=NC ((UInt8.ofNat p.length::p) ++ leB 2 addr.toNat ++ leB 4 stamp.toNat) (CS ((UInt8.ofNat p.length::p) ++ leB 2 addr.toNat ++ leB 4 stamp.toNat)) 4 (by simp [leB_len];omega) (by unfold CS;omega) (by decide);have e:CA addr stamp p=(((UInt8.ofNat p.length::p) ++ leB 2 addr.toNat) ++ leB 4 stamp.toNat) ++ leB 4 (CS (((UInt8.ofNat p.length::p) ++ leB 2 addr.toNat) ++ leB 4 stamp.toNat)):=rfl;rw [e];refine zT Tryz.func166 rfl ?_;conv=>whnf
 apply zz (0) tys_ok mixed (.o [0,1,3,4,6,7,2,5,8,9] .fin) [3,4,5,6,7,8,9,10,11,12] (by kernel_rfl)
 ·conv=>whnf
  (refine zW hp rfl ?_;rintro _ _ ⟨rfl,rfl⟩)
  conv=>whnf
  (refine zQ a1.go ?_;(conv=>whnf);refine Af (Ac _).symm ?_;(conv=>whnf);refine zY [bA (UInt8.ofNat p.length::p),iv addr,iv 2] ⟨H9 rfl rfl,ri,ri,tv⟩ ?_;refine z_ a1 ?_)
  conv=>whnf
  refine z_ a2 ?_;exact tA
 conv=>whnf
 conv=>whnf
 refine zY [bA (UInt8.ofNat p.length::p ++ leB 2 addr.toNat ++ leB 4 stamp.toNat)] ⟨ri,tv⟩ ?_;refine z_ a3 ?_;conv=>whnf
 refine z_ a4 ?_;exact⟨_,ri,rfl⟩
theorem HG (addr stamp:Int) (p:List UInt8) (hok:WC addr stamp p):Fn Tryz.prog 99 [iv addr,iv stamp,bA p] fun r=>r=bA (CA addr stamp p):=by
 have h:=S5 addr stamp p hok;refine zT Tryz.func99 rfl ?_;conv=>whnf
 refine z_ h ?_;exact⟨_,ri,rfl⟩
end
end Go.Proofs.YtepdhdfoipephaaGreatDoor.A
namespace Go.Proofs.YtepdhdfoipephaaGreatDoor
section
open Go.RowKit
def CU (b:List UInt8):Int:=
 if b.length<11\/107<b.length then 4
 else if leN (b.drop (b.length - 4))≠CS (b.take (b.length - 4)) then 5
 else if ES b=true/\Cg b=b.length - 11 then 0 else 4
def C9 (b:List UInt8):Int:=(leN ((b.drop (b.length - 10)).take 2):Nat)
def Cj (b:List UInt8):Int:=(leN ((b.drop (b.length - 8)).take 4):Nat)
def Cz (b:List UInt8):List UInt8:=(b.drop 1).take (b.length - 11)
end
end Go.Proofs.YtepdhdfoipephaaGreatDoor
namespace Go.Proofs.YtepdhdfoipephaaGreatDoor.A
section
open Go.RowKit
def DA (r:Rc) (a:An) (seq at_ of_ left:Int):Bool:=decide (r.kind≠0/\r.seq=seq/\r.at_=at_/\(of_=0->r.of_<=left)/\(of_≠0->r.of_=of_)/\(r.epoch=a.epoch\/seq<=a.last/\r.epoch<=a.epoch))
theorem RF (r:Rc) (a:An) (seq at_ of_ left:Int):Fn Tryz.prog 273 [.ag (FQ r), .ag (EJ a),iv seq,iv at_,iv of_,iv left] fun x=>x = .v (.bool (DA r a seq at_ of_ left)):=by
 by_cases h1:(r.kind≠0/\r.seq=seq/\r.at_=at_/\(of_=0->r.of_<=left)/\(of_≠0->r.of_=of_)/\(r.epoch=a.epoch\/seq<=a.last/\r.epoch<=a.epoch))
 ·have e:DA r a seq at_ of_ left=true:=decide_eq_true h1;rw [e];refine zT Tryz.func273 rfl ?_;conv=>whnf
  repeat' (refine Am (fun h=>?_) (fun h=>?_) <;> simp at h <;> conv=>whnf)
  all_goals first | (exfalso;omega) | exact⟨_,ri,rfl⟩ | exact⟨_,ri,by simp;omega⟩
 ·have e:DA r a seq at_ of_ left=false:=decide_eq_false h1;rw [e];refine zT Tryz.func273 rfl ?_;conv=>whnf
  repeat' (refine Am (fun h=>?_) (fun h=>?_) <;> simp at h <;> conv=>whnf)
  all_goals first | (exfalso;omega) | exact⟨_,ri,rfl⟩ | exact⟨_,ri,by simp;omega⟩
theorem IH (b:List UInt8):Fn Tryz.prog 225 [bA b] fun r=>r = iv (CS b:Nat):=by
 refine⟨⟨_,Tryz.func225,rfl,by decide⟩,fun c0 us hd hM _ hr=>?_⟩;obtain⟨u1,rfl,h1⟩:=Z0 hr;refine(M3 u1 b c0.w c0.M (IF h1)).mono ?_;rintro e w' ⟨rfl,rfl⟩;exact⟨_,_,rfl,rfl,Below.refl _ _,Mg _⟩
theorem EH {b:List UInt8} {n k:Nat} (hn:n=k) (hk:k<=b.length) (c:Ctx) (u:Value) (h:Rd (.sl 1 n fun i=> [.v (.int .u8 (b.getD (i+0) 0).toNat)]) c u):Rd (bA (b.take k)) c u:=
 zH (by rw [As];omega) (fun i hi=>by rw [Ab,Ab,BJ (by omega),C5]) h
theorem IK (e:Int) (c:Ctx) (v:Value) (h:Rd (.tp [.ag [iv 0,iv 0, .v (.slice none 0 0)],iv e]) c v):Rd (.tp [.ag (N7 ⟨0,0, []⟩),iv e]) c v:=by
 have e1:SubL [.ag [iv 0,iv 0, .v (.slice none 0 0)],iv e] [.ag (N7 ⟨0,0, []⟩),iv e]:=⟨Bk ⟨ri,ri,fun c u h=>Bn 1 _ c u h,tv⟩,ri,tv⟩;simp only [Rd] at h |-
 obtain⟨xs,rfl,h⟩:=h;exact⟨_,rfl,e1.rdl (c:=c) (xs:=xs) (by simpa only [RdL,Rd] using h)⟩
theorem U6 (b:List UInt8) (hl:b.length<=100000):Fn Tryz.prog 253 [bA b] fun r=>r = .tp [.ag (if CU b=0 then N7 ⟨C9 b,Cj b,Cz b⟩ else N7 ⟨0,0, []⟩),iv (CU b)]:=by
 have e4:IntKind.i64.wrap ((b.length:Int) - 4)=(b.length:Int) - 4:=IntWalk.i64_in _ (by omega);have e11:IntKind.i64.wrap ((b.length:Int) - 11)=(b.length:Int) - 11:=IntWalk.i64_in _ (by omega);have em:((b.length:Int) - 4).toNat=b.length - 4:=by omega
 by_cases hB:b.length<11\/107<b.length
 ·have hE:CU b=4:=by rw [CU,if_pos hB]
  rw [hE,if_neg (by decide)];refine zT Tryz.func253 rfl ?_;conv=>whnf
  refine A6 (fun h=>?_) (fun h=>?_) <;> conv=>whnf
  ·exact⟨_,IK 4,rfl⟩
  refine A6 (fun h2=>?_) (fun h2=>?_) <;> conv=>whnf
  ·exact⟨_,IK 4,rfl⟩
  ·exfalso;omega
 have hg:=NY (b.drop (b.length - 4)) 4 (.inr (.inr rfl)) (by rw [Ak];omega) (by rw [Ak];omega);rw [show (b.drop (b.length - 4)).take (4:Int).toNat=b.drop (b.length - 4) from Aw (by rw [Ak];show _<=4;omega)] at hg;have hs:=IH (b.take (b.length - 4));by_cases hS:leN (b.drop (b.length - 4))=CS (b.take (b.length - 4))
 ·cases hp:ES b with
  | false=>
   have hE:CU b=4:=by rw [CU,if_neg hB,if_neg (fun h=>h hS),hp];try rfl
   rw [hE,if_neg (by decide)];refine zT Tryz.func253 rfl ?_;conv=>whnf
   refine A6 (fun h=>?_) (fun h=>?_) <;> conv=>whnf
   ·exfalso;omega
   refine A6 (fun h=>?_) (fun h=>?_) <;> conv=>whnf
   ·exfalso;omega
   rw [e4];refine⟨by omega,?_⟩;conv=>whnf
   rw [em];refine zY [bA (b.drop (b.length - 4)),iv 4] ⟨AS (by omega),ri,tv⟩ ?_;refine z_ hg ?_;refine⟨by omega,?_⟩;conv=>whnf
   rw [em];refine zY [bA (b.take (b.length - 4))] ⟨EH (by omega) (by omega),tv⟩ ?_;refine z_ hs ?_;conv=>whnf
   refine A6 (fun h=>?_) (fun h=>?_) <;> conv=>whnf
   ·exfalso;omega
   refine z_ (Sp b hp) ?_;exact⟨_,IK 4,rfl⟩
  | true=>
   have hpp:=hp;simp only [ES,decide_eq_true_eq] at hpp;have hlen:((b.drop 1).take (Cg b)).length=Cg b:=by rw [As,Ak];omega
   by_cases hn:Cg b=b.length - 11
   ·have hE:CU b=0:=by rw [CU,if_neg hB,if_neg (fun h=>h hS),if_pos ⟨hp,hn⟩]
    have hu:=Jt (b.drop (1+Cg b)) [2,4] (fun s h=>by simp at h;rcases h with rfl | rfl;exact .inr (.inl rfl);exact .inr (.inr rfl)) (by rw [Ak];omega) (by show 2<=1000;decide) (by rw [Ak];show 6<=_;omega);have hnum:nums [2,4] (b.drop (1+Cg b))=[C9 b,Cj b]:=by
     rw [C9,Cj,show b.length - 10=1+Cg b by omega,show b.length - 8=(1+Cg b)+2 by omega,show b.drop ((1+Cg b)+2)=(b.drop (1+Cg b)).drop 2 by rw [AT]];try rfl
    rw [hnum] at hu;have hpay:Cz b=(b.drop 1).take (Cg b):=by rw [Cz,hn]
    rw [hE,if_pos rfl,hpay];refine zT Tryz.func253 rfl ?_;conv=>whnf
    refine A6 (fun h=>?_) (fun h=>?_) <;> conv=>whnf
    ·exfalso;omega
    refine A6 (fun h=>?_) (fun h=>?_) <;> conv=>whnf
    ·exfalso;omega
    rw [e4];refine⟨by omega,?_⟩;conv=>whnf
    rw [em];refine zY [bA (b.drop (b.length - 4)),iv 4] ⟨AS (by omega),ri,tv⟩ ?_;refine z_ hg ?_;refine⟨by omega,?_⟩;conv=>whnf
    rw [em];refine zY [bA (b.take (b.length - 4))] ⟨EH (by omega) (by omega),tv⟩ ?_;refine z_ hs ?_;conv=>whnf
    refine A6 (fun h=>?_) (fun h=>?_) <;> conv=>whnf
    ·exfalso;omega
    refine z_ (KL b (by omega) hp) ?_;conv=>whnf
    rw [e11];refine A6 (fun h=>?_) (fun h=>?_) <;> conv=>whnf
    ·exfalso;omega
    refine zQ hu.go ?_;refine⟨rfl,?_⟩;conv=>whnf
    refine zY [bA (b.drop (1+Cg b)),iA [2,4]] ⟨ri,(BT (l:= [2,4]) rfl).1,tv⟩ ?_;refine zW (hu) rfl ?_;rintro _ _ ⟨rfl,rfl⟩;conv=>whnf
    refine zA tys_ok mixed [0,1,2,3,4,5,6,7,8,9] (by kernel_rfl) ?_;refine⟨⟨by decide,by decide⟩,?_⟩;refine⟨⟨rfl,rfl,by decide⟩,?_⟩;refine⟨⟨by decide,by decide⟩,?_⟩;refine⟨⟨rfl,rfl,by decide⟩,?_⟩;exact⟨_,ri,rfl⟩
   ·have hE:CU b=4:=by rw [CU,if_neg hB,if_neg (fun h=>h hS),if_neg (fun h=>hn h.2)]
    rw [hE,if_neg (by decide)];refine zT Tryz.func253 rfl ?_;conv=>whnf
    refine A6 (fun h=>?_) (fun h=>?_) <;> conv=>whnf
    ·exfalso;omega
    refine A6 (fun h=>?_) (fun h=>?_) <;> conv=>whnf
    ·exfalso;omega
    rw [e4];refine⟨by omega,?_⟩;conv=>whnf
    rw [em];refine zY [bA (b.drop (b.length - 4)),iv 4] ⟨AS (by omega),ri,tv⟩ ?_;refine z_ hg ?_;refine⟨by omega,?_⟩;conv=>whnf
    rw [em];refine zY [bA (b.take (b.length - 4))] ⟨EH (by omega) (by omega),tv⟩ ?_;refine z_ hs ?_;conv=>whnf
    refine A6 (fun h=>?_) (fun h=>?_) <;> conv=>whnf
    ·exfalso;omega
    refine z_ (KL b (by omega) hp) ?_;conv=>whnf
    rw [e11];refine A6 (fun h=>?_) (fun h=>?_) <;> conv=>whnf
    ·exact⟨_,IK 4,rfl⟩
    ·exfalso;omega
 ·have hE:CU b=5:=by rw [CU,if_neg hB,if_pos hS]
  rw [hE,if_neg (by decide)];refine zT Tryz.func253 rfl ?_;conv=>whnf
  refine A6 (fun h=>?_) (fun h=>?_) <;> conv=>whnf
  ·exfalso;omega
  refine A6 (fun h=>?_) (fun h=>?_) <;> conv=>whnf
  ·exfalso;omega
  rw [e4];refine⟨by omega,?_⟩;conv=>whnf
  rw [em];refine zY [bA (b.drop (b.length - 4)),iv 4] ⟨AS (by omega),ri,tv⟩ ?_;refine z_ hg ?_;refine⟨by omega,?_⟩;conv=>whnf
  rw [em];refine zY [bA (b.take (b.length - 4))] ⟨EH (by omega) (by omega),tv⟩ ?_;refine z_ hs ?_;conv=>whnf
  refine A6 (fun h=>?_) (fun h=>?_) <;> conv=>whnf
  ·exact⟨_,IK 5,rfl⟩
  ·exfalso;omega

theorem Iz (n lo hi:Int):Fn Tryz.prog 121 [iv n,iv lo,iv hi] fun r=>r = .v (.bool (C2 n lo hi)):=by
 refine zT Tryz.func121 rfl ?_;conv=>whnf
 repeat' (first | (refine Am (fun h=>?_) (fun h=>?_) <;> (try simp at h) <;> conv=>whnf) | (refine zJ tys_ok mixed (by kernel_rfl) ?_;conv=>whnf) | (refine zZ ?_;conv=>whnf) | (refine Af (by omega) ?_;conv=>whnf))
 all_goals exact⟨_,ri,by simp [C2, *] <;> omega⟩
theorem IE (g:Geo) (n:Int) (b:Bool):Fn Tryz.prog 191 [.ag (Ba g),iv n, .v (.bool b)] fun r=>r = .tp [iv (if Bq g&&b then n else 0),iv (if Bq g&&b then 0 else 1)]:=by
 have s1:Fn Tryz.prog 51 [.ag (Ba g)] fun r=>r = .v (Fv (Bq g)):=DC g.z g.d g.sp g.sl g.an
 cases hg:Bq g <;> cases b;all_goals
  rw [hg] at s1;refine zT Tryz.func191 rfl ?_;conv=>whnf
  refine z_ s1 ?_;exact⟨_,ri,rfl⟩
theorem QM (g:Geo) (copy slot:Int):Fn Tryz.prog 180 [.ag (Ba g),iv copy,iv slot] fun r=>r = .tp [iv (if Bq g&&Hp g copy slot then AU g copy slot else 0),iv (if Bq g&&Hp g copy slot then 0 else 1)]:=by
 refine zT Tryz.func180 rfl ?_;conv=>whnf
 refine zA tys_ok mixed [0,1,2,3,4,5,6,7,8,9,10,11,12,13,14,15,16,17,18,19,20,21,22,23] (by kernel_rfl) ?_;conv=>whnf
 refine z_ (Iz _ _ _) ?_;conv=>whnf
 refine Am (fun t1=>?_) (fun t1=>?_) <;> conv=>whnf
 ·refine z_ (Iz _ _ _) ?_;conv=>whnf
  refine z_ (IE g _ _) ?_;refine⟨_,fun _ _ h=>h,?_⟩;cases hg:Bq g with
  | false=>rfl
  | true=>
   obtain⟨h1,h2,h3,h4,h5⟩:=Ar.1 hg;rw [wi (n:=g.sl - 1) (by omega)];have e:Hp g copy slot=C2 slot 0 (g.sl - 1):=by rw [Hp,t1];try rfl
   rw [e];cases hb:C2 slot 0 (g.sl - 1) with
   | false=>rfl
   | true=>
    obtain⟨c1,c2⟩:=AD.1 t1;obtain⟨b1,b2⟩:=AD.1 hb;have hm:0<=copy*g.sl/\copy*g.sl<=30:=by
     rcases(show copy=0\/copy=1 by omega) with rfl | rfl
     ·omega
     ·omega
    rw [wi (n:=copy*g.sl) (by omega),wi (n:=g.an+copy*g.sl) (by omega),wi (n:=g.an+copy*g.sl+slot) (by omega)];try rfl
 ·refine z_ (IE g _ _) ?_;refine⟨_,fun _ _ h=>h,?_⟩;have e:Hp g copy slot=false:=by rw [Hp,t1];try rfl
  rw [e];cases Bq g <;> rfl
def DK (g:Geo) (x:Gt) (copy slot:Int):Option Rc:=
 if Bq g&&Hp g copy slot&&decide (x.err=0)&&decide (CU x.bytes=0)&&decide (C9 x.bytes=AU g copy slot) then
  match F9 g (Cz x.bytes) with
  | some r=>if r.seq=Cj x.bytes then some r else none
  | none=>none
 else none
theorem BL {l m:List AV} (h:SubL l m) (c:Ctx) (u:Value) (hr:Rd (.tp l) c u):Rd (.tp m) c u:=by
 simp only [Rd] at hr |-
 obtain⟨xs,rfl,h1⟩:=hr;exact⟨xs,rfl,h.rdl h1⟩
theorem KD (c:Ctx) (u:Value) (b:Bool) (h:Rd (.tp [.ag [iv 0,iv 0,iv 0,iv 0,iv 0,iv 0,iv 0, .v (.slice none 0 0)], .v (.bool b)]) c u):Rd (.tp [.ag (FQ zeroC), .v (.bool b)]) c u:=by
 refine BL ?_ c u h;exact⟨Bk ⟨ri,ri,ri,ri,ri,ri,ri,Bn _ _,tv⟩,ri,tv⟩
theorem U7 (addr stamp:Int) (p:List UInt8) (hok:WC addr stamp p):Fn Tryz.prog 238 [.ag [iv addr,iv stamp,bA p]] fun r=>r = .tp [bA (CA addr stamp p),iv 0]:=by
 refine⟨⟨_,Tryz.func238,rfl,by decide⟩,fun c0 us hd hM _ hr=>?_⟩;obtain⟨u,rfl,h⟩:=Z0 hr;simp only [Rd,RdL] at h;obtain⟨xs,rfl,a,_,rfl,rfl,b,_,rfl,rfl,d,_,rfl,h3,rfl⟩:=h;refine(Vs addr stamp d p c0.w c0.M (IF (by simpa only [Rd,bA] using h3)) hok).mono ?_;rintro e w' ⟨q,rfl,ho,hB⟩;exact⟨_,_,rfl,rfl,hB,Vl (XU ho hM) (Mg _)⟩
theorem OR (g:Geo) (x:Rc) (copy slot:Int) (hl:x.img.bytes.length<=100000):Fn Tryz.prog 181 [.ag (Ba g), .ag (FQ x),iv copy,iv slot] fun r=>r = .tp [bA (if DP g x&&Hp g copy slot then BV g x copy slot else []), .v (Fv (DP g x&&Hp g copy slot))]:=by
 have hb:=SM g x hl;have hL:=QM g copy slot;have no:∀ (c:Ctx) (v:Value),Rd (.tp [.v (.slice none 0 0),iv 1]) c v->Rd (.tp [bA [],iv 1]) c v:=fun c v h=>by
  simp only [Rd,RdL] at h |-
  obtain⟨xs,rfl,y,ys,rfl,rfl,h⟩:=h;exact⟨_,rfl,_,_,rfl,Bn 1 (fun i=> [.v (.int .u8 (([]:List UInt8).getD i 0).toNat)]) c (.slice none 0 0) (by simp [Rd]),h⟩
 cases hok:DP g x with
 | false=>
  rw [hok] at hb;refine zT Tryz.func181 rfl ?_;conv=>whnf
  refine z_ hb ?_;exact⟨_,no,rfl⟩
 | true=>
  have hg:Bq g=true:=by simp only [DP,Ad] at hok;exact hok.1
  rw [hok] at hb;rw [hg] at hL;cases hl2:Hp g copy slot with
  | false=>
   rw [hl2] at hL;refine zT Tryz.func181 rfl ?_;conv=>whnf
   refine z_ hb ?_;conv=>whnf
   refine z_ hL ?_;exact⟨_,no,rfl⟩
  | true=>
   rw [hl2] at hL;have h1:=GK hg hl2;have h2:=NR hok;have h3:=Et hok;have hm:=U7 (AU g copy slot) x.seq (Ek x) ⟨h1.1,h1.2,h2.1,h2.2,by omega⟩;refine zT Tryz.func181 rfl ?_;conv=>whnf
   refine z_ hb ?_;conv=>whnf
   refine z_ hL ?_;conv=>whnf
   refine z_ hm ?_;exact⟨_,ri,rfl⟩
def CG (g:Geo):Int:=g.d+1+g.sp
def A4 (g:Geo):Int:=g.an+2*g.sl+2*g.z+g.z*CG g
def By (g:Geo) (z k:Int):Int:=g.an+2*g.sl+2*z+k
def Cs (g:Geo) (z s:Int):Int:=g.an+2*g.sl+2*g.z+z*CG g+s
theorem GD {g:Geo} (hg:Bq g=true):2<=CG g/\CG g<=7:=by
 obtain⟨h1,h2,h3,h4,h5⟩:=Ar.1 hg;unfold CG;omega
theorem G5 {g:Geo} (hg:Bq g=true) {z:Int} (hz:0<=z/\z<=4):0<=z*CG g/\z*CG g<=28:=by
 obtain⟨p1,p2⟩:=GD hg;rcases(show z=0\/z=1\/z=2\/z=3\/z=4 by omega) with rfl | rfl | rfl | rfl | rfl <;> omega
theorem H4 {g:Geo} (hg:Bq g=true):32<=A4 g/\A4 g<=99:=by
 obtain⟨h1,h2,h3,h4,h5⟩:=Ar.1 hg;obtain⟨p1,p2⟩:=GD hg;have:=G5 hg (z:=g.z) (by omega);unfold A4;rcases(show g.z=1\/g.z=2\/g.z=3\/g.z=4 by omega) with h | h | h | h <;> rw [h] at this |- <;> omega
theorem L7 (g:Geo) (hg:Bq g=true):Fn Tryz.prog 207 [.ag (Ba g)] fun r=>r = iv (g.an+2*g.sl):=by
 obtain⟨h1,h2,h3,h4,h5⟩:=Ar.1 hg;refine zT Tryz.func207 rfl ?_;exact⟨_,ri,by rw [wi (n:=2*g.sl) (by omega),wi (by omega)]⟩
theorem JK (g:Geo) (hg:Bq g=true):Fn Tryz.prog 241 [.ag (Ba g)] fun r=>r = iv (CG g):=by
 obtain⟨h1,h2,h3,h4,h5⟩:=Ar.1 hg;refine zT Tryz.func241 rfl ?_;conv=>whnf
 exact⟨_,ri,by rw [wi (n:=g.d+1) (by omega),wi (by omega)];try rfl⟩
theorem L8 (g:Geo) (hg:Bq g=true):Fn Tryz.prog 240 [.ag (Ba g)] fun r=>r = iv (g.an+2*g.sl+2*g.z):=by
 obtain⟨h1,h2,h3,h4,h5⟩:=Ar.1 hg;refine zT Tryz.func240 rfl ?_;conv=>whnf
 apply zL tys_ok mixed (.o [0,2,3,4,1,5,6] .fin) [2,3,4,5,6,7,8] (by kernel_rfl)
 ·conv=>whnf
  refine z_ (L7 g hg) ?_;exact tA
 exact⟨_,ri,by rw [wi (n:=2*g.z) (by omega),wi (by omega)]⟩
theorem QV (g:Geo) (hg:Bq g=true):Fn Tryz.prog 192 [.ag (Ba g)] fun r=>r = iv (A4 g):=by
 obtain⟨h1,h2,h3,h4,h5⟩:=Ar.1 hg;have hz:=G5 hg (z:=g.z) (by omega);have hc:=H4 hg;refine zT Tryz.func192 rfl ?_;conv=>whnf
 apply zL tys_ok mixed (.o [0,2,3,4,1,5,6,7,8] .fin) [2,3,4,5,6,7,8,9,10] (by kernel_rfl)
 ·conv=>whnf
  refine z_ (L8 g hg) ?_;conv=>whnf
  refine z_ (JK g hg) ?_;exact tA
 conv=>whnf
 exact⟨_,ri,by rw [wi (n:=g.z*CG g) (by omega),wi (by omega)];try rfl⟩
theorem Tp (g:Geo) (hg:Bq g=true):Fn Tryz.prog 122 [.ag (Ba g)] fun r=>r = .tp [iv (A4 g),iv 0]:=by
 have ht:=IE g (A4 g) true;rw [hg] at ht;refine zT Tryz.func122 rfl ?_;conv=>whnf
 apply zL tys_ok mixed (.o [0,1,2,3,4,5,6,7] .fin) [2,3,4,5,6,7,8,9] (by kernel_rfl)
 ·conv=>whnf
  refine z_ (QV g hg) ?_;conv=>whnf
  refine z_ ht ?_;exact tA
 exact⟨_,ri,rfl⟩
theorem Tl (g:Geo) (z k:Int) (hg:Bq g=true) (hz:0<=z/\z<g.z) (hk:0<=k/\k<=1):Fn Tryz.prog 137 [.ag (Ba g),iv z,iv k] fun r=>r = .tp [iv (By g z k),iv 0]:=by
 obtain⟨h1,h2,h3,h4,h5⟩:=Ar.1 hg;have e:IntKind.i64.wrap (IntKind.i64.wrap (g.an+2*g.sl+IntKind.i64.wrap (2*z))+k)=By g z k:=by
  rw [wi (n:=2*z) (by omega),wi (n:=g.an+2*g.sl+2*z) (by omega),wi (by omega)];try rfl
 have ht:=IE g (IntKind.i64.wrap (IntKind.i64.wrap (g.an+2*g.sl+IntKind.i64.wrap (2*z))+k)) true;rw [hg] at ht;have hw:IntKind.i64.wrap (g.z - 1)=g.z - 1:=wi (by omega);have hn:=Iz z 0 (IntKind.i64.wrap (g.z - 1));rw [show C2 z 0 (IntKind.i64.wrap (g.z - 1))=true from AD.2 (by rw [hw];omega)] at hn;have hn2:=Iz k 0 1;rw [show C2 k 0 1=true from AD.2 hk] at hn2;refine zT Tryz.func137 rfl ?_;conv=>whnf
 apply zL tys_ok mixed (.o [0,1,3,4,6,8,9,10,11,2,5,7,12,13,14,15,16,17,18,19,20,21] .fin) [6,7,8,9,10,11,12,13,14,15,16,17,18,19,20,21,22,23,24,25,26,27] (by kernel_rfl)
 ·conv=>whnf
  refine z_ (L7 g hg) ?_;conv=>whnf
  refine z_ hn ?_;conv=>whnf
  refine z_ hn2 ?_;conv=>whnf
  refine z_ ht ?_;exact tA
 conv=>whnf
 exact⟨_,ri,by simp only [Bool.and_self,if_true];rw [e]⟩
theorem V6 (g:Geo) (z s:Int) (hg:Bq g=true) (hz:0<=z/\z<g.z) (hs:0<=s/\s<CG g):Fn Tryz.prog 224 [.ag (Ba g),iv z,iv s] fun r=>r = .tp [iv (Cs g z s),iv 0]:=by
 obtain⟨h1,h2,h3,h4,h5⟩:=Ar.1 hg;have hzp:=G5 hg (z:=z) (by omega);have hp:=GD hg;have e:IntKind.i64.wrap (IntKind.i64.wrap (g.an+2*g.sl+2*g.z+IntKind.i64.wrap (z*CG g))+s)=Cs g z s:=by
  rw [wi (n:=z*CG g) (by omega),wi (n:=g.an+2*g.sl+2*g.z+z*CG g) (by omega),wi (by omega)];try rfl
 have ht:=IE g (IntKind.i64.wrap (IntKind.i64.wrap (g.an+2*g.sl+2*g.z+IntKind.i64.wrap (z*CG g))+s)) true;rw [hg] at ht;have hw:IntKind.i64.wrap (g.z - 1)=g.z - 1:=wi (by omega);have hn:=Iz z 0 (IntKind.i64.wrap (g.z - 1));rw [show C2 z 0 (IntKind.i64.wrap (g.z - 1))=true from AD.2 (by rw [hw];omega)] at hn;have hw2:IntKind.i64.wrap (CG g - 1)=CG g - 1:=wi (by omega);have hn2:=Iz s 0 (IntKind.i64.wrap (CG g - 1));rw [show C2 s 0 (IntKind.i64.wrap (CG g - 1))=true from AD.2 (by rw [hw2];omega)] at hn2;refine zT Tryz.func224 rfl ?_;conv=>whnf
 apply zL tys_ok mixed (.o [0,1,3,4,8,10,11,12,13,2,5,6,7,9,14,15,16,17,18,19,20,21,22,23,24,25,26] .fin) [6,7,8,9,10,11,12,13,14,15,16,17,18,19,20,21,22,23,24,25,26,27,28,29,30,31,32] (by kernel_rfl)
 ·conv=>whnf
  refine z_ (L8 g hg) ?_;conv=>whnf
  refine z_ (JK g hg) ?_;conv=>whnf
  refine z_ hn ?_;conv=>whnf
  refine z_ (JK g hg) ?_;conv=>whnf
  refine z_ hn2 ?_;conv=>whnf
  refine z_ ht ?_;exact tA
 conv=>whnf
 exact⟨_,ri,by simp only [Bool.and_self,if_true];rw [e]⟩
theorem ND (g:Geo) (hg:Bq g=true):Fn Tryz.prog 39 [.ag (Ba g)] fun r=>r = iv (CG g):=by
 obtain⟨h1,h2,h3,h4,h5⟩:=Ar.1 hg;refine zT Tryz.func39 rfl ?_;conv=>whnf
 exact⟨_,ri,by rw [wi (n:=g.d+1) (by omega),wi (by omega)];try rfl⟩
theorem Q9 (g:Geo) (hg:Bq g=true):Fn Tryz.prog 10 [.ag (Ba g)] fun r=>r = iv (A4 g):=by
 obtain⟨h1,h2,h3,h4,h5⟩:=Ar.1 hg;have hz:=G5 hg (z:=g.z) (by omega);have hc:=H4 hg;refine zT Tryz.func10 rfl ?_;conv=>whnf
 apply zL tys_ok mixed (.o [0,1,2,3,4,5,6,7,8,9,10,11,12,13,14,15,16] .fin) [2,3,4,5,6,7,8,9,10,11,12,13,14,15,16,17,18] (by kernel_rfl)
 ·conv=>whnf
  refine z_ (ND g hg) ?_;exact tA
 conv=>whnf
 exact⟨_,ri,by rw [wi (n:=g.z*CG g) (by omega),wi (n:=2*g.sl) (by omega),wi (n:=2*g.z) (by omega),wi (n:=g.an+2*g.sl) (by omega),wi (n:=g.an+2*g.sl+2*g.z) (by omega),wi (by omega)];try rfl⟩
theorem S4 (g:Geo) (z k:Int) (hg:Bq g=true) (hz:0<=z/\z<g.z) (hk:0<=k/\k<=1):Fn Tryz.prog 77 [.ag (Ba g),iv z,iv k] fun r=>r = iv (By g z k):=by
 obtain⟨h1,h2,h3,h4,h5⟩:=Ar.1 hg;refine zT Tryz.func77 rfl ?_;conv=>whnf
 exact⟨_,ri,by rw [wi (n:=2*g.sl) (by omega),wi (n:=2*z) (by omega),wi (n:=g.an+2*g.sl) (by omega),wi (n:=g.an+2*g.sl+2*z) (by omega),wi (by omega)];try rfl⟩
theorem UJ (g:Geo) (z s:Int) (hg:Bq g=true) (hz:0<=z/\z<g.z) (hs:0<=s/\s<CG g):Fn Tryz.prog 37 [.ag (Ba g),iv z,iv s] fun r=>r = iv (Cs g z s):=by
 obtain⟨h1,h2,h3,h4,h5⟩:=Ar.1 hg;have hzp:=G5 hg (z:=z) (by omega);have hp:=GD hg;refine zT Tryz.func37 rfl ?_;conv=>whnf
 apply zL tys_ok mixed (.o [0,1,2,3,4,5,6,7,8,9,10,11,15,12,13,14,16,17] .fin) [6,7,8,9,10,11,12,13,14,15,16,17,18,19,20,21,22,23] (by kernel_rfl)
 ·conv=>whnf
  refine z_ (ND g hg) ?_;exact tA
 conv=>whnf
 exact⟨_,ri,by rw [wi (n:=z*CG g) (by omega),wi (n:=2*g.sl) (by omega),wi (n:=2*g.z) (by omega),wi (n:=g.an+2*g.sl) (by omega),wi (n:=g.an+2*g.sl+2*g.z) (by omega),wi (n:=g.an+2*g.sl+2*g.z+z*CG g) (by omega),wi (by omega)];try rfl⟩
theorem Wy (a:An):rowB (Mp a) szA=leB 4 a.gen.toNat ++ (leB 4 a.epoch.toNat ++ (leB 4 a.seq.toNat ++ (leB 4 a.last.toNat ++ leB 1 a.pos.toNat))):=by
 simp [rowB,Mp,szA]
theorem Xe (g:Geo) (a:An) (hg:Bq g=true) (ha:Bv g a=true):Fn Tryz.prog 202 [.ag (EJ a)] fun r=>r=bA (LY a):=by
 obtain⟨g1,g2,g3,g4,g5⟩:=Ar.1 hg;obtain⟨q1,q2,q3,q4,q5⟩:=G4 hg ha 0 (Aj _);have ha0:=ha;simp only [Bv,Ad,decide_eq_true_eq,AX,BD,Bx,AD,Av] at ha;obtain⟨⟨w1,w2,w3,w4⟩,_,_,w5,_,_,_⟩:=ha;have p1:=Ej [] a.gen 4 (by simp) w1 (by decide);have p2:=Ej (leB 4 a.gen.toNat) a.epoch 4 (by rw [leB_len];decide) w2 (by decide);have p3:=Ej (leB 4 a.gen.toNat ++ leB 4 a.epoch.toNat) a.seq 4 (by simp [leB_len]) w3 (by decide);have p4:=Ej (leB 4 a.gen.toNat ++ leB 4 a.epoch.toNat ++ leB 4 a.seq.toNat) a.last 4 (by simp [leB_len]) w4 (by decide);have p5:=Hk (leB 4 a.gen.toNat ++ leB 4 a.epoch.toNat ++ leB 4 a.seq.toNat ++ leB 4 a.last.toNat) a.pos 1 (by simp [leB_len]) (by omega) (by decide);have hlb:=US a.label (by omega);refine zT Tryz.func202 rfl ?_;conv=>whnf
 refine zY [bA [],iv a.gen,iv 4] ⟨Bn 1 _,ri,ri,tv⟩ ?_;refine z_ p1 ?_;conv=>whnf
 refine z_ p2 ?_;conv=>whnf
 refine z_ p3 ?_;conv=>whnf
 refine z_ p4 ?_;conv=>whnf
 apply zV (0) tys_ok mixed (.o [0,1,2,4,5,3,6,7,8] .fin) (by kernel_rfl);conv=>whnf
 (refine zW p5 rfl ?_;rintro _ _ ⟨rfl,rfl⟩)
 conv=>whnf
 refine z_ hlb ?_;conv=>whnf
 try (refine tJ ?_;conv=>whnf)
 try (refine tK ?_;conv=>whnf)
 have eR:leB 4 a.gen.toNat ++ leB 4 a.epoch.toNat ++ leB 4 a.seq.toNat ++ leB 4 a.last.toNat ++ leB 1 a.pos.toNat=rowB (Mp a) szA:=by rw [Wy];simp
 rw [eR];have hr17:(rowB (Mp a) szA).length=17:=tot_rowB _ _ rfl;refine Af ⟨by simp,by rw [hr17,Gv];omega⟩ ?_;conv=>whnf
 have e0:(rowB (Mp a) szA).map Eo ++ ((List.range (HY a.label).length).map fun i=> [AV.v (Value.int IntKind.u8 (((HY a.label).getD i 0).toNat:Int))])=(I7 a 0).map Eo:=by
  rw [Wh,<-A0];simp [I7]
 have e1:(rowB (Mp a) szA).length+(HY a.label).length=(I7 a 0).length:=by simp [I7]
 refine aLoop.ruleR Nat (fun k=>([(1, .bp 0 0),(3, .ow 1 (I7 a k).length),(4,iv k)], [.box 33 (EJ a), .row 5 1 ((I7 a k).map Eo)])) (fun k=>k<=a.homes.length) (fun k=>a.homes.length - k) 0 (Aj _)
  (zI ⟨[],tv,⟨rfl,congrArg (AV.ow 1) e1,rfl,tv⟩,⟨rfl,congrArg (AB.row _ _) e0.symm,tv⟩,rfl,rfl,rfl⟩) ?_
 intro k hk;conv=>whnf
 refine A6 (fun h6=>?_) (fun h6=>?_) <;> (repeat rw [Aa] at h6) <;> conv=>whnf
 ·have hk':k<a.homes.length:=by omega
  have hh4:=q5 _ (A5 (d:=(⟨[],0,0⟩:Hm)) hk');obtain⟨f1,f2,f3,f4,f5⟩:=QU hg hh4;have hst:=Ud a k hk';have hB:=(G4 hg ha0 k hk).1;have hB2:=(G4 hg ha0 (k+1) hk').1;obtain⟨h,hh⟩:∃ h,h=a.homes.getD k ⟨[],0,0⟩:=⟨_,rfl⟩;rw [<-hh] at hh4 f1 f2 f3 f4 f5 hst;generalize hX:I7 a k=X at hst hB |-
  have hlm:(NX h).length=h.places.length+5:=by rw [K8,tot_rowB _ _ (by rw [Ai,K1];try rfl),Kz]
  rw [hst,Ai,hlm] at hB2;refine aLoop.ruleR Nat (fun j=>([(1, .bp 0 0),(3, .ow 1 (X ++ QE (h.places.take j)).length),(4,iv k),(5,iv j)], [.box 33 (EJ a), .row 5 1 ((X ++ QE (h.places.take j)).map Eo)])) (fun j=>j<=h.places.length) (fun j=>h.places.length - j) 0 (Aj _)
   (zI ⟨[],tv,⟨rfl,congrArg (fun l=>AV.ow 1 (List.length l)) (AM X).symm,rfl,rfl,tv⟩,⟨rfl,congrArg (fun l=>AB.row _ _ (List.map Eo l)) (AM X),tv⟩,rfl,rfl,rfl⟩) ?_
  intro j hj;conv=>whnf
  have hgk:a.homes.getD (k:Int).toNat ⟨[],0,0⟩=h:=by rw [Aa,hh]
  refine⟨by first | omega | (refine⟨rfl,?_,?_⟩ <;> first | omega | (simp only [Ac];done) | (simp only [Ac];omega)) | (simp only [Ac];omega),?_⟩;conv=>whnf
  rw [hgk];refine A6 (fun h7=>?_) (fun h7=>?_) <;> (repeat rw [Aa] at h7) <;> conv=>whnf
  ·refine⟨by first | omega | (refine⟨rfl,?_,?_⟩ <;> first | omega | (simp only [Ac];done) | (simp only [Ac];omega)) | (simp only [Ac];omega),?_⟩;conv=>whnf
   rw [hgk];refine⟨by first | omega | (refine⟨rfl,?_,?_⟩ <;> first | omega | (simp only [Ac];done) | (simp only [Ac];omega)) | (simp only [Ac];omega),?_⟩;conv=>whnf
   rw [Aa];have hj':j<h.places.length:=by omega
   have hp:=f2 _ (A5 (d:=(0:Int)) hj');have hpl:=RN (h.places.take j);have hps:=Vd h.places j hj';have hput:=Hk (X ++ QE (h.places.take j)) (h.places.getD j 0) 1 (by rw [Ai,hpl,As];omega) (by omega) (by decide);rw [A7,<-hps] at hput;refine zQ (hput).go ?_;conv=>whnf
   repeat' (refine Af (by first | rfl | omega | (simp;done) | (simp only [Ac];omega) | (simp;omega)) ?_;conv=>whnf)
   refine zY [bA (X ++ QE (h.places.take j)),iv (h.places.getD j 0),iv 1] ⟨Rl rfl rfl,ri,ri,tv⟩ ?_;refine zW (hput) rfl ?_;rintro _ _ ⟨rfl,rfl⟩;refine⟨j+1,by omega,by omega,zR (s:= [0,2]) ⟨⟨rfl,rfl,rfl,AR (by omega),tv⟩,tA,rfl,rfl,rfl,rfl,rfl⟩⟩
  ·have ej:j=h.places.length:=by omega
   subst ej;have hpl:=RN (h.places.take h.places.length);rw [Ay] at hpl |-
   have hp1:=Ej (X ++ QE h.places) h.next 1 (by rw [Ai,hpl];omega) (by omega) (by decide);have hp2:=Hk (X ++ QE h.places ++ leB 1 h.next.toNat) h.root 4 (by rw [Ai,Ai,hpl,leB_len];omega) (by omega) (by decide);have eY:X ++ QE h.places ++ leB 1 h.next.toNat ++ leB 4 h.root.toNat=X ++ NX h:=by simp [NX,rowB]
   rw [eY] at hp2;apply zV (0) tys_ok mixed (.o [0,1,2,3,4,5,6,8,9,10,11,12,13,7,14,15] .fin) (by kernel_rfl);conv=>whnf
   try (refine tI ?_;conv=>whnf)
   try (refine tI ?_;conv=>whnf)
   (rw [hgk];refine zQ hp1.go ?_;(conv=>whnf);refine Af (by simp) ?_;(conv=>whnf);refine zY [bA (X ++ QE h.places),iv h.next,iv 1] ⟨Rl rfl rfl,ri,ri,tv⟩ ?_;refine z_ hp1 ?_)
   conv=>whnf
   (refine zW hp2 rfl ?_;rintro _ _ ⟨rfl,rfl⟩)
   refine⟨k+1,hk',by omega,zR (s:= [0,2]) ⟨⟨rfl,congrArg (AV.ow 2) (by rw [hst]),AR (by omega),tv⟩,⟨rfl,congrArg (fun l=>some (AB.row _ _ l)) (by rw [hst]),tv⟩,rfl,rfl,rfl,rfl,rfl⟩⟩
 ·have ek:k=a.homes.length:=by omega
  subst ek;rw [Wz];refine⟨by simp,?_⟩;exact⟨bA (LY a),Rl rfl rfl,rfl⟩
def Dg (a:An) (i:Int):List UInt8:=CA i a.gen (LY a)
theorem JP {g:Geo} {a:An} (hg:Bq g=true) (ha:Bv g a=true):(LY a).length<=82:=by
 obtain⟨g1,g2,g3,g4,g5⟩:=Ar.1 hg;have hz:=ha;simp only [Bv,Ad,decide_eq_true_eq,AX,BD,Bx,AD,Av] at hz;obtain⟨_,_,_,_,q6,q7,q8⟩:=hz;have h24:=I_ q6;have hs:a.label.size=a.label.data.toList.length:=rfl;have hr:(rowB (Mp a) szA).length=17:=tot_rowB _ _ rfl;have hm:=(K7 hg a.homes q8).2;have hmul:a.homes.length*(g.d.toNat+6)<=4*10:=Dh (by omega) (by omega);rw [LY,Ai,Ai,hr,Gv,hm];omega
theorem PW {g:Geo} {a:An} (ha:Bv g a=true):0<=a.gen/\a.gen<=4294967295:=by
 simp only [Bv,Ad,decide_eq_true_eq,AX,BD,Bx,AD,Av] at ha;exact ha.1.1
theorem Nt {g:Geo} {a:An} (hg:Bq g=true) (ha:Bv g a=true) {i:Int} (hi:0<=i/\i<=65535):WC i a.gen (LY a):=
 ⟨hi.1,hi.2,(PW ha).1,(PW ha).2,by have:=JP hg ha;omega⟩
theorem Lj (g:Geo) (a:An) (i:Int) (hg:Bq g=true) (ha:Bv g a=true) (hi:0<=i/\i<=65535):Fn Tryz.prog 130 [.ag (EJ a),iv i] fun r=>r=bA (Dg a i):=by
 have h1:=Xe g a hg ha;have h2:=HG i a.gen (LY a) (Nt hg ha hi);refine zT Tryz.func130 rfl ?_;conv=>whnf
 apply zL tys_ok mixed (.o [0,1,2,3,4,5,6] .fin) [4,5,6,7,8,9,10] (by kernel_rfl)
 ·conv=>whnf
  refine z_ h1 ?_;conv=>whnf
  refine z_ h2 ?_;exact tA
 exact⟨_,ri,rfl⟩
end
end Go.Proofs.YtepdhdfoipephaaGreatDoor.A
namespace Go.Proofs.YtepdhdfoipephaaGreatDoor
section
open Go.RowKit



end
end Go.Proofs.YtepdhdfoipephaaGreatDoor
namespace Go.Proofs.YtepdhdfoipephaaGreatDoor.A
section
open Go.RowKit

theorem QT (n k:Nat) (c:List UInt8):En n (k+1) c=En n k c ++ [JI n (c.drop ((n+5)*k))]:=by
 rw [En,En,Bh,A0];try rfl
theorem MX (n k:Nat) (c:List UInt8):(En n k c).length=k:=by simp [En]
theorem RU {L:List Int} {n:Nat} {es:List (List AV)} (hn:n=L.length) (he:es=L.map On) (c:Ctx) (v:Value) (h:Rd (.sl 1 n fun i=>es.getD i []) c v):Rd (iA L) c v:=by
 subst he;exact zH hn (fun i hi=>Bf (f:=On) (l:=L) (d:=0) (hn ▸ hi)) h
theorem Fo {α:Type} {f:α->List AV} {d:α} {l:List α} {k:Nat} {e:List AV} (hk:k<l.length) (h:SubL e (f (l.getD k d))) (i:Nat):SubL (((l.map f).set k e).getD i []) ((l.map f).getD i []):=by
 by_cases hi:k=i
 ·subst hi;rw [Bm (by simpa using hk),Bf (d:=d) hk];exact h
 ·rw [O9 hi];exact SubL.refl _
theorem Y8 (h:Hm):SubL [.sl 1 h.places.length fun i=>(h.places.map On).getD i [],iv h.next,iv h.root] (Jq h):=
 ⟨RU rfl rfl,fun _ _ h=>h,fun _ _ h=>h,tv⟩
theorem PV (a:An) (hh:a.homes.length<=1000) (hp:∀ h∈a.homes,h.places.length<=1000000):Fn Tryz.prog 116 [.ag (EJ a)] fun r=>r = .ag (EJ a):=by
 have hc:=Tk a.homes (by omega);refine zT Tryz.func116 rfl ?_;conv=>whnf
 refine zW hc rfl ?_;rintro _ _ ⟨rfl,rfl⟩;conv=>whnf
 refine zU Nat (fun k=>([(1, .bp 0 0),(2, .bp 1 0),(10,iv a.homes.length),(11,iv k)], [.box 33 [iv a.gen,iv a.epoch,iv a.pos,iv a.seq,iv a.last, .v (.string a.label), .ow 2 a.homes.length], .box 33 [iv 0,iv 0,iv 0,iv 0,iv 0, .v (.string ⟨#[]⟩), .v (.slice none 0 0)], .row 177 3 (a.homes.map Jq)])) (fun k=>k<=a.homes.length) (fun k=>a.homes.length - k) 0 (Aj _)
  (zR (s:= [0,1,2]) tA) ?_
 intro k hk;conv=>whnf
 refine A6 (fun h6=>?_) (fun h6=>?_) <;> (repeat rw [Aa] at h6) <;> conv=>whnf
 ·have hk':k<a.homes.length:=by omega
  have hi:=L5 (a.homes.getD k ⟨[],0,0⟩).places (by have:=hp _ (A5 (d:=(⟨[],0,0⟩:Hm)) hk');omega);have hE:(a.homes.map Jq).getD (k:Int).toNat []=Jq (a.homes.getD k ⟨[],0,0⟩):=by rw [Aa];exact Bf hk'
  apply zV (0) tys_ok mixed (.o [0,1,2,3,4,5,6,7,8,9,10,11,12] .fin) (by kernel_rfl);conv=>whnf
  try (first | (refine Af ⟨rfl,(Ac _).symm,by omega⟩ ?_;(conv=>whnf);rw [hE]) | skip;conv=>whnf)
  try (first | (refine Af ⟨rfl,(Ac _).symm,by omega⟩ ?_;(conv=>whnf);rw [hE]) | skip;conv=>whnf)
  try (refine tI ?_;conv=>whnf)
  try (first | (refine Af ⟨rfl,(Ac _).symm,by omega⟩ ?_;(conv=>whnf);rw [hE]) | skip;conv=>whnf)
  (refine zW hi rfl ?_;rintro _ _ ⟨rfl,rfl⟩)
  conv=>whnf
  try (refine tI ?_;conv=>whnf)
  try (refine tS ?_;conv=>whnf)
  (refine Af (Ac _).symm ?_;(conv=>whnf);refine Af ⟨rfl,(Ac _).symm,by omega⟩ ?_;(conv=>whnf);rw [hE])
  refine⟨k+1,hk',by omega,zC (zK (z8 (k:=2) rfl (es':=a.homes.map Jq) (by simp) ?_)) (s:= [0,1,2]) ⟨⟨rfl,rfl,rfl,AR (by omega),tv⟩,tA,rfl,rfl,rfl,rfl,rfl⟩⟩;rw [Aa];exact Fo (d:=(⟨[],0,0⟩:Hm)) hk' (Y8 _)
 ·have ek:k=a.homes.length:=by omega
  refine Af (Ac _).symm ?_;exact⟨.ag (EJ a),Bk ⟨ri,ri,ri,ri,ri,ri,B4 (f:=Jq) a.homes rfl rfl,tv⟩,rfl⟩
def Eh (d:Dk):List AV:= [PK d.cells,Ma d.cache,iv d.reqs,iv d.left]
theorem XE (d:Dk) (h1:d.cells.length<=1000000000) (h2:d.cache.length<=1000000000):ACalls Tryz.prog false 102 [.ag (Eh d)] [] fun r H=>r = .bp 0 0/\H=dkH d:=by
 have c1:=I5 d.cells h1;have c2:=Js d.cache h2;refine zS tys_ok Tryz.func102 rfl rfl (Ag rfl) ?_;conv=>whnf
 apply zV (0) tys_ok mixed (.o [0,1,3,4,2,6,5,7,8,9] .fin) (by kernel_rfl);conv=>whnf
 (refine zW c1 rfl ?_;rintro _ _ ⟨rfl,rfl⟩)
 conv=>whnf
 (refine zW c2 rfl ?_;rintro _ _ ⟨rfl,rfl⟩)
 conv=>whnf
 try (refine tS ?_;conv=>whnf)
 try (refine tS ?_;conv=>whnf)
 exact⟨_, .bp 0 0,dkH d,fun _ _ h=>h,zR (s:= [3,1,2]) tA,rfl,rfl⟩
theorem PA (d:Dk) (h1:d.cells.length<=1000000000) (h2:d.cache.length<=1000000000) (hb:∀ c∈d.cells,c.bytes.length<=1000000000/\c.old.length<=1000000000) (hw:∀ w∈d.cache,w.bytes.length<=1000000000):Fn Tryz.prog 94 [.ag (Eh d)] fun r=>r = .ag (Eh d):=by
 have c1:=I5 d.cells h1;have c2:=Js d.cache h2;refine zT Tryz.func94 rfl ?_;conv=>whnf
 apply zV (0) tys_ok mixed (.o [0,1,3,4,2,6,5,7,8,9] .fin) (by kernel_rfl);conv=>whnf
 (refine zW c1 rfl ?_;rintro _ _ ⟨rfl,rfl⟩)
 conv=>whnf
 (refine zW c2 rfl ?_;rintro _ _ ⟨rfl,rfl⟩)
 conv=>whnf
 try (refine tS ?_;conv=>whnf)
 try (refine tS ?_;conv=>whnf)
 refine zU Nat (fun k=>([(1, .bp 0 0),(2, .bp 1 0),(16, .ow 2 d.cells.length),(17,iv d.cells.length),(18,iv k)], [.box 43 (H0 (.ow 2 d.cells.length) (.ow 3 d.cache.length) d.reqs d.left), .box 43 [.v (.slice none 0 0), .v (.slice none 0 0),iv 0,iv 0], .row 128 3 (d.cells.map B5), .row 134 2 (d.cache.map DR)])) (fun k=>k<=d.cells.length) (fun k=>d.cells.length - k) 0 (Aj _)
  (zR (s:= [0,1,2,3]) tA) ?_
 intro k hk;conv=>whnf
 refine A6 (fun h6=>?_) (fun h6=>?_) <;> (repeat rw [Aa] at h6) <;> conv=>whnf
 ·have hk':k<d.cells.length:=by omega
  have hm:=hb _ (A5 (d:=(⟨0, [], []⟩:Cel)) hk');have b1:=BK (d.cells.getD k ⟨0, [], []⟩).bytes hm.1;have b2:=BK (d.cells.getD k ⟨0, [], []⟩).old hm.2;have hE:(d.cells.map B5).getD (k:Int).toNat []=B5 (d.cells.getD k ⟨0, [], []⟩):=by rw [Aa];exact Bf hk'
  refine⟨⟨by omega,by omega⟩,?_⟩;conv=>whnf
  refine Af ⟨rfl,(Ac _).symm,by rw [Aa];exact hk'⟩ ?_;conv=>whnf
  rw [hE];conv=>whnf
  apply zV (16) tys_ok mixed (.o [0,1,2,3,5,6,7,9,10] (.two 4 (.o [8,11,12,13,14,15,16,17] .fin) 8 (.two 4 (.o [11,12,13,14,15,16,17] .fin) 11 (.o [12,13] (.two 4 (.o [14,15,16,17] .fin) 14 (.o [4,15,16,17] .fin)))))) (by kernel_rfl);refine Af ?_ ?_;conv=>whnf
  refine z_ b1 ?_;conv=>whnf
  refine z_ b2 ?_;conv=>whnf
  try (refine tI ?_;conv=>whnf)
  try (refine tS ?_;conv=>whnf)
  (first | rw [hE] | rw [Bm (by rw [Aa,Ac];exact hk')] | skip)
  conv=>whnf
  try (refine tI ?_;conv=>whnf)
  try (refine tS ?_;conv=>whnf)
  (first | rw [hE] | rw [Bm (by rw [Aa,Ac];exact hk')] | skip)
  conv=>whnf
  rotate_left 1;conv=>whnf
  refine z_ b1 ?_;refine Af ?_ ?_;conv=>whnf
  refine z_ b2 ?_;conv=>whnf
  try (refine tI ?_;conv=>whnf)
  try (refine tS ?_;conv=>whnf)
  (first | rw [hE] | rw [Bm (by rw [Aa,Ac];exact hk')] | skip)
  conv=>whnf
  try (refine tI ?_;conv=>whnf)
  try (refine tS ?_;conv=>whnf)
  (first | rw [hE] | rw [Bm (by rw [Aa,Ac];exact hk')] | skip)
  conv=>whnf
  rotate_left 1;conv=>whnf
  refine z_ b2 ?_;conv=>whnf
  try (refine tI ?_;conv=>whnf)
  refine Af ?_ ?_;conv=>whnf
  try (refine tS ?_;conv=>whnf)
  (first | rw [hE] | rw [Bm (by rw [Aa,Ac];exact hk')] | skip)
  conv=>whnf
  try (refine tI ?_;conv=>whnf)
  try (refine tS ?_;conv=>whnf)
  (first | rw [hE] | rw [Bm (by rw [Aa,Ac];exact hk')] | skip)
  conv=>whnf
  rotate_left 1;conv=>whnf
  try (refine tS ?_;conv=>whnf)
  (first | rw [hE] | rw [Bm (by rw [Aa,Ac];exact hk')] | skip)
  conv=>whnf
  try (refine tI ?_;conv=>whnf)
  try (refine tS ?_;conv=>whnf)
  (first | rw [hE] | rw [Bm (by rw [Aa,Ac];exact hk')] | skip)
  conv=>whnf
  rotate_left 1;all_goals refine⟨k+1,hk',by omega,zC (zK (z8 (k:=2) rfl (es':=d.cells.map B5) (by simp) ?_)) (s:= [0,1,2,3]) ⟨⟨rfl,rfl,rfl,rfl,AR (by omega),tv⟩,tA,rfl,rfl,rfl,rfl,rfl⟩⟩
  all_goals
   intro i;rw [List.set_set,Aa];refine Fo (f:=B5) (d:=(⟨0, [], []⟩:Cel)) hk' ?_ i;exact⟨fun _ _ h=>h,fun _ _ h=>h,fun _ _ h=>h,tv⟩
 ·refine zU Nat (fun k=>([(1, .bp 0 0),(2, .bp 1 0),(41, .ow 3 d.cache.length),(42,iv d.cache.length),(43,iv k)], [.box 43 (H0 (.ow 2 d.cells.length) (.ow 3 d.cache.length) d.reqs d.left), .box 43 [.v (.slice none 0 0), .v (.slice none 0 0),iv 0,iv 0], .row 128 3 (d.cells.map B5), .row 134 2 (d.cache.map DR)])) (fun k=>k<=d.cache.length) (fun k=>d.cache.length - k) 0 (Aj _)
   (zR (s:= [0,1,2,3]) tA) ?_
  intro k hk;conv=>whnf
  refine A6 (fun h7=>?_) (fun h7=>?_) <;> (repeat rw [Aa] at h7) <;> conv=>whnf
  ·have hk':k<d.cache.length:=by omega
   have hm:=hw _ (A5 (d:=(⟨0, []⟩:Wr)) hk');have b1:=BK (d.cache.getD k ⟨0, []⟩).bytes hm;have hE:(d.cache.map DR).getD (k:Int).toNat []=DR (d.cache.getD k ⟨0, []⟩):=by rw [Aa];exact Bf hk'
   refine⟨⟨by omega,by omega⟩,?_⟩;conv=>whnf
   refine Af ⟨rfl,(Ac _).symm,by rw [Aa];exact hk'⟩ ?_;conv=>whnf
   rw [hE];conv=>whnf
   apply zV (0) tys_ok mixed (.o [0,1,2,3,4,5,6,7,8] .fin) (by kernel_rfl);conv=>whnf
   refine z_ b1 ?_;conv=>whnf
   try (refine tI ?_;conv=>whnf)
   try (refine tS ?_;conv=>whnf)
   (first | rw [hE] | skip)
   conv=>whnf
   all_goals refine⟨k+1,hk',by omega,zC (zK (z8 (k:=3) rfl (es':=d.cache.map DR) (by simp) ?_)) (s:= [0,1,2,3]) ⟨⟨rfl,rfl,rfl,rfl,AR (by omega),tv⟩,tA,rfl,rfl,rfl,rfl,rfl⟩⟩
   all_goals
    intro i;rw [Aa];refine Fo (f:=DR) (d:=(⟨0, []⟩:Wr)) hk' ?_ i;exact⟨fun _ _ h=>h,fun _ _ h=>h,tv⟩
  ·refine Af (Ac _).symm ?_;refine Af (Ac _).symm ?_;exact⟨.ag (Eh d),Bk ⟨B4 (f:=B5) d.cells rfl rfl,B4 (f:=DR) d.cache rfl rfl,ri,ri,tv⟩,rfl⟩
def Ha (c:Cel):Bool:=C2 c.state 0 2&&(decide (c.bytes.length<=200)&&decide (c.old.length<=200))
def KH (n:Nat) (w:Wr):Bool:=C2 w.addr 0 ((n:Int) - 1)&&decide (w.bytes.length<=200)
def Mj (d:Dk):Bool:=(C2 d.cells.length 1 300&&(decide (d.cache.length<=2000)&&(C2 d.reqs 0 1048576&&C2 d.left (-1) 1048576)))&&(d.cells.all Ha&&d.cache.all (KH d.cells.length))
theorem LS (n lo hi:Int):Fn Tryz.prog 93 [iv n,iv lo,iv hi] fun r=>r = .v (.bool (C2 n lo hi)):=by
 refine zT Tryz.func93 rfl ?_;conv=>whnf
 repeat' (first | (refine Am (fun h=>?_) (fun h=>?_) <;> (try simp at h) <;> conv=>whnf) | (refine zJ tys_ok mixed (by kernel_rfl) ?_;conv=>whnf) | (refine zZ ?_;conv=>whnf) | (refine Af (by omega) ?_;conv=>whnf))
 all_goals exact⟨_,ri,by simp [C2, *] <;> omega⟩
theorem V_ (c:Cel):Fn Tryz.prog 159 [.ag (B5 c)] fun r=>r = .v (.bool (Ha c)):=by
 refine zT Tryz.func159 rfl ?_;conv=>whnf
 repeat' (first | (refine Am (fun h=>?_) (fun h=>?_) <;> (try simp at h) <;> conv=>whnf) | (refine zJ tys_ok mixed (by kernel_rfl) ?_;conv=>whnf) | (refine zZ ?_;conv=>whnf) | (refine z_ (LS _ _ _) ?_;conv=>whnf) | (refine Af (by omega) ?_;conv=>whnf))
 all_goals exact⟨_,ri,by congr 2;rw [Dt];simp [Ha, *] <;> omega⟩
theorem TG (c:Cel):Fn Tryz.prog 158 [.ag (B5 c)] fun r=>r = .v (.bool (!Ha c)):=by
 refine zT Tryz.func158 rfl ?_;conv=>whnf
 refine z_ (V_ c) ?_;exact⟨_,ri,rfl⟩
theorem YE (l:List Cel)  (hl:l.length<=1000000):Fn Tryz.prog 217 [PK l, .v (.func (.func 158) #[] #[])] fun r=>r = iv (Ui (fun c=>!Ha c) l):=by
 refine zT Tryz.func217 rfl ?_;conv=>whnf
 refine zP Nat (fun k=>([(0,PK l),(1, .v (.func (.func 158) #[] #[])),(7,iv l.length),(8,iv k)], [])) (fun k=>k<=l.length/\(l.take k).any (fun c=>!Ha c)=false) (fun k=>l.length - k) 0 ⟨Aj _,by simp⟩ ⟨[],tv,tA,tv,rfl,rfl,rfl⟩ ?_;rintro k ⟨hk,hI⟩;conv=>whnf
 refine Am (fun h2=>?_) (fun h2=>?_) <;> simp at h2 <;> conv=>whnf
 ·refine⟨by first | omega | (refine⟨rfl,?_,?_⟩ <;> first | omega | (simp only [Ac];done) | (simp only [Ac];omega)) | (simp only [Ac];omega),?_⟩;conv=>whnf
  refine z_ (TG (l.getD k ⟨0, [], []⟩)) ?_;conv=>whnf
  refine Am (fun h3=>?_) (fun h3=>?_) <;> conv=>whnf
  ·exact⟨_,ri,by rw [HK (d:=⟨0, [], []⟩) h2 hI (by first | exact h3 | (rw [Aa] at h3;exact h3) | simpa using h3)]⟩
  ·refine⟨k+1,⟨by omega,DN (d:=⟨0, [], []⟩) h2 hI (by first | exact h3 | (rw [Aa] at h3;exact h3) | simpa using h3)⟩,by omega, [],tv,⟨rfl,rfl,rfl,AR (by omega),tv⟩,tv,rfl,rfl,rfl⟩
 ·exact⟨_,ri,by rw [Aw h2] at hI;rw [Gx hI]⟩
theorem YF (l:List Cel)  (hl:l.length<=1000000):Fn Tryz.prog 157 [PK l, .v (.func (.func 158) #[] #[])] fun r=>r = .v (.bool (l.any (fun c=>!Ha c))):=by
 refine zT Tryz.func157 rfl ?_;conv=>whnf
 refine z_ (YE l  hl) ?_;exact⟨_,ri,by rw [JG]⟩

theorem TF (d:Dk) (w:Wr) (hn:d.cells.length<=1000000):Fn Tryz.prog 161 [.ag (DR w), .rp (Eh d)] fun r=>r = .v (.bool (!KH d.cells.length w)):=by
 have w1:IntKind.i64.wrap ((d.cells.length:Int) - 1)=d.cells.length - 1:=wi (by omega);refine zT Tryz.func161 rfl ?_;conv=>whnf
 rw [w1];repeat' (first | (refine Am (fun h=>?_) (fun h=>?_) <;> (try simp at h) <;> conv=>whnf) | (refine zJ tys_ok mixed (by kernel_rfl) ?_;conv=>whnf) | (refine zZ ?_;conv=>whnf) | (refine z_ (LS _ _ _) ?_;conv=>whnf) | (refine Af (by omega) ?_;conv=>whnf))
 all_goals exact⟨_,ri,by congr 2;rw [Dt];simp [KH, *] <;> omega⟩
theorem YB (l:List Wr) (d:Dk) (hn:d.cells.length<=1000000) (hl:l.length<=1000000):Fn Tryz.prog 218 [Ma l, .fn 161 [.rp (Eh d)]] fun r=>r = iv (Ui (fun w=>!KH d.cells.length w) l):=by
 refine zT Tryz.func218 rfl ?_;conv=>whnf
 refine zP Nat (fun k=>([(0,Ma l),(1, .fn 161 [.rp (Eh d)]),(7,iv l.length),(8,iv k)], [])) (fun k=>k<=l.length/\(l.take k).any (fun w=>!KH d.cells.length w)=false) (fun k=>l.length - k) 0 ⟨Aj _,by simp⟩ ⟨[],tv,tA,tv,rfl,rfl,rfl⟩ ?_;rintro k ⟨hk,hI⟩;conv=>whnf
 refine Am (fun h2=>?_) (fun h2=>?_) <;> simp at h2 <;> conv=>whnf
 ·refine⟨by first | omega | (refine⟨rfl,?_,?_⟩ <;> first | omega | (simp only [Ac];done) | (simp only [Ac];omega)) | (simp only [Ac];omega),?_⟩;conv=>whnf
  refine z_ (TF d (l.getD k ⟨0, []⟩) hn) ?_;conv=>whnf
  refine Am (fun h3=>?_) (fun h3=>?_) <;> conv=>whnf
  ·exact⟨_,ri,by rw [HK (d:=⟨0, []⟩) h2 hI (by first | exact h3 | (rw [Aa] at h3;exact h3) | simpa using h3)]⟩
  ·refine⟨k+1,⟨by omega,DN (d:=⟨0, []⟩) h2 hI (by first | exact h3 | (rw [Aa] at h3;exact h3) | simpa using h3)⟩,by omega, [],tv,⟨rfl,rfl,rfl,AR (by omega),tv⟩,tv,rfl,rfl,rfl⟩
 ·exact⟨_,ri,by rw [Aw h2] at hI;rw [Gx hI]⟩
theorem YC (l:List Wr) (d:Dk) (hn:d.cells.length<=1000000) (hl:l.length<=1000000):Fn Tryz.prog 160 [Ma l, .fn 161 [.rp (Eh d)]] fun r=>r = .v (.bool (l.any (fun w=>!KH d.cells.length w))):=by
 refine zT Tryz.func160 rfl ?_;conv=>whnf
 refine z_ (YB l d hn hl) ?_;exact⟨_,ri,by rw [JG]⟩

theorem Nn (d:Dk) (h1:d.cells.length<=1000000) (h2:d.cache.length<=1000000):Fn Tryz.prog 92 [.ag (Eh d)] fun r=>r = .v (Fv (Mj d)):=by
 have c1:=YF d.cells h1;have c2:=YC d.cache d h1 h2;rw [show (d.cells.any fun c=>!Ha c) = !d.cells.all Ha by rw [Ce,Bool.not_not]] at c1;rw [show (d.cache.any fun w=>!KH d.cells.length w) = !d.cache.all (KH d.cells.length) by rw [Ce,Bool.not_not]] at c2;obtain⟨A,hA⟩:∃ A,A=d.cells.all Ha:=⟨_,rfl⟩;obtain⟨B,hB⟩:∃ B,B=d.cache.all (KH d.cells.length):=⟨_,rfl⟩;have hok:Mj d=((C2 d.cells.length 1 300&&(decide (d.cache.length<=2000)&&(C2 d.reqs 0 1048576&&C2 d.left (-1) 1048576)))&&(A&&B)):=by rw [Mj,hA,hB]
 rw [<-hA] at c1;rw [<-hB] at c2;rw [hok];clear hok hA hB;refine zT Tryz.func92 rfl ?_;conv=>whnf
 repeat' (first | (refine Am (fun h=>?_) (fun h=>?_) <;> (try simp at h) <;> conv=>whnf) | (refine zJ tys_ok mixed (by kernel_rfl) ?_;conv=>whnf) | (refine zZ ?_;conv=>whnf) | (refine z_ (LS _ _ _) ?_;conv=>whnf) | (refine z_ c1 ?_;conv=>whnf) | (refine z_ c2 ?_;conv=>whnf) | (refine Af (by omega) ?_;conv=>whnf))
 all_goals exact⟨_,ri,by
  first
   | (rw [show ((C2 d.cells.length 1 300&&(decide (d.cache.length<=2000)&&(C2 d.reqs 0 1048576&&C2 d.left (-1) 1048576)))&&(A&&B))=false by rw [<-BF];simp [*] <;> omega];rfl)
   | (rw [show ((C2 d.cells.length 1 300&&(decide (d.cache.length<=2000)&&(C2 d.reqs 0 1048576&&C2 d.left (-1) 1048576)))&&(A&&B))=true by simp [*] <;> omega];rfl)⟩

def cel0:List AV:= [iv 0, .v (.slice none 0 0), .v (.slice none 0 0)]
theorem UP (n:Nat) (hn:1<=n/\n<=300):ACalls Tryz.prog false 128 [iv n] [] fun r H=>r = .ag [.ow 0 n, .v (.slice none 0 0),iv 0,iv (-1)]/\H=[.row 128 3 (List.replicate n cel0)]:=by
 refine zS tys_ok Tryz.func128 rfl rfl (Ag rfl) ?_;refine⟨⟨rfl,by omega,by omega⟩,?_⟩;conv=>whnf
 exact⟨_, .ag [.ow 0 n, .v (.slice none 0 0),iv 0,iv (-1)], [.row 128 3 (List.replicate n cel0)],fun _ _ h=>h,zR (s:= [1]) ⟨⟨by rw [Aa];try rfl,tv⟩,⟨by rw [Aa];try rfl,tv⟩,rfl,rfl,rfl,rfl,rfl⟩,rfl,rfl⟩
@[reducible] def dkG (d:Dk):List AB:= [.box 185 (H0 (.ow 1 d.cells.length) (.ow 3 d.cache.length) d.reqs d.left), .row 128 3 (d.cells.map B5), .dead, .row 134 2 (d.cache.map DR)]
theorem YD (d:Dk):ConvH (dkH d) (dkG d):=zw (H:=dkH d) 0 2 (by decide) rfl rfl
theorem Re (d:Dk) (hl : -1<=d.left/\d.left<=1048576) (hc:d.cache.length<=2000) (ha:∀ w∈d.cache,0<=w.addr/\w.addr<d.cells.length) :
  ACalls Tryz.prog false 112 [.bp 0 0] (dkH d) fun r H=>r = iv (if d.left=0 then 8 else 0)/\H=dkG (if d.left=0 then d else d.flush):=by
 by_cases h0:d.left=0
 ·rw [if_pos h0,if_pos h0];exact(Rf d hl h0).conv fun r H ⟨h1,h2⟩=>⟨_,h2 ▸ YD d,h1,rfl⟩
 ·rw [if_neg h0,if_neg h0];exact(TA d hl h0 hc ha).conv fun r H ⟨h1,h2⟩=>⟨_,h2 ▸ z6 _,h1,rfl⟩
theorem Ge {α β:Type} {f:α->β} {d:α} {l:List α} {k:Nat} (h:k<l.length):(l.take (k+1)).map f=(l.take k).map f ++ [f (l.getD k d)]:=by
 rw [AN h,A0,Ab,Ae h];try rfl
theorem Tb (d:Dk) (h1:d.cells.length<=1000000) (h2:d.cache.length<=1000000) (hb:∀ c∈d.cells,c.bytes.length<=1000000000/\c.old.length<=1000000000) (hw:∀ w∈d.cache,w.bytes.length<=1000000000) :
  ACalls Tryz.prog false 23 [.ag (Eh d)] [] fun r H=>r = .ag (H0 (.ow 0 d.cells.length) (.ow 1 d.cache.length) d.reqs d.left)/\H=[.row 128 3 (d.cells.map B5), .row 134 2 (d.cache.map DR)]:=by
 refine zS tys_ok Tryz.func23 rfl rfl (Ag rfl) ?_;conv=>whnf
 refine zU Nat (fun k=>([(1, .bp 0 0),(2, .bp 1 0),(3, .bp 2 0),(4,iv k)], [.box 43 (Eh d), .box 43 [.v (.slice none 0 0), .v (.slice none 0 0),iv 0,iv 0], .box 43 [.ow 3 k, .v (.slice none 0 0),iv d.reqs,iv d.left], .row 128 3 ((d.cells.take k).map B5)])) (fun k=>k<=d.cells.length) (fun k=>d.cells.length - k) 0 (Aj _)
  ⟨_,_,zB _ _, [(1002000,128,3)],tA, [0,1,2,3],tA⟩ ?_
 intro k hk;conv=>whnf
 refine A6 (fun h6=>?_) (fun h6=>?_) <;> (repeat rw [Aa] at h6) <;> conv=>whnf
 ·have hk':k<d.cells.length:=by omega
  obtain⟨c,hc⟩:∃ c,c=d.cells.getD k ⟨0, [], []⟩:=⟨_,rfl⟩;have hm:=hb _ (A5 (d:=(⟨0, [], []⟩:Cel)) hk');rw [<-hc] at hm;have b1:=Fh c.bytes hm.1;have b2:=Fh c.old hm.2;rw [hc] at b1 b2;have hl:k=((d.cells.take k).map B5).length:=by simp;omega
  apply zV (0) tys_ok mixed (.o [0,1,2,3,4,5,6,7,8,9,10,11,12,13,15,16,17,18,19,20,14,21,22,23,24,25,26] .fin) (by kernel_rfl);conv=>whnf
  try (refine tI ?_;conv=>whnf)
  try (refine tI ?_;conv=>whnf)
  try (refine tI ?_;conv=>whnf)
  refine z_ b1 ?_;conv=>whnf
  refine z_ b2 ?_;conv=>whnf
  try (refine tJ ?_;conv=>whnf)
  try (refine tK ?_;conv=>whnf)
  try (refine tS ?_;conv=>whnf)
  exact⟨k+1,hk',by omega,zR (s:= [0,1,2,3]) ⟨⟨rfl,rfl,rfl,AR (by omega),tv⟩,⟨rfl,rfl,rfl,congrArg (fun l=>some (AB.row _ _ l)) (Ge hk').symm,tv⟩,rfl,rfl,rfl,rfl,rfl⟩⟩
 ·have ek:k=d.cells.length:=by omega
  subst ek;refine zU Nat (fun k=>([(1, .bp 0 0),(2, .bp 1 0),(3, .bp 2 0),(5,iv k)], [.box 43 (Eh d), .box 43 [.v (.slice none 0 0), .v (.slice none 0 0),iv 0,iv 0], .box 43 [.ow 3 d.cells.length, .ow 4 k,iv d.reqs,iv d.left], .row 128 3 (d.cells.map B5), .row 134 2 ((d.cache.take k).map DR)])) (fun k=>k<=d.cache.length) (fun k=>d.cache.length - k) 0 (Aj _)
   ⟨_,_,zB _ _, [(1002001,134,2)],tA, [0,1,2,3,4],⟨tA,⟨rfl,rfl,rfl,by rw [Ay];try rfl,rfl,tv⟩,rfl,rfl,rfl,rfl,rfl⟩⟩ ?_
  intro k hk;conv=>whnf
  refine A6 (fun h7=>?_) (fun h7=>?_) <;> (repeat rw [Aa] at h7) <;> conv=>whnf
  ·have hk':k<d.cache.length:=by omega
   have hm:=hw _ (A5 (d:=(⟨0, []⟩:Wr)) hk');have b1:=Fh (d.cache.getD k ⟨0, []⟩).bytes hm;have hl:k=((d.cache.take k).map DR).length:=by simp;omega
   apply zV (0) tys_ok mixed (.o [0,1,2,3,4,5,6,7,8,9,10,11,12,13,14,15,16,17,18,19] .fin) (by kernel_rfl);conv=>whnf
   try (refine tI ?_;conv=>whnf)
   try (refine tI ?_;conv=>whnf)
   refine z_ b1 ?_;conv=>whnf
   try (refine tJ ?_;conv=>whnf)
   try (refine tK ?_;conv=>whnf)
   try (refine tS ?_;conv=>whnf)
   exact⟨k+1,hk',by omega,zR (s:= [0,1,2,3,4]) ⟨⟨rfl,rfl,rfl,AR (by omega),tv⟩,⟨rfl,rfl,rfl,rfl,congrArg (fun l=>some (AB.row _ _ l)) (Ge hk').symm,tv⟩,rfl,rfl,rfl,rfl,rfl⟩⟩
  ·have ek:k=d.cache.length:=by omega
   subst ek;exact⟨_, .ag (H0 (.ow 0 d.cells.length) (.ow 1 d.cache.length) d.reqs d.left), [.row 128 3 (d.cells.map B5), .row 134 2 (d.cache.map DR)],fun _ _ h=>h,zR (s:= [3,4]) ⟨tA,⟨rfl,by rw [Ay];try rfl,tv⟩,rfl,rfl,rfl,rfl,rfl⟩,rfl,rfl⟩
@[reducible] def rkH (d:Dk):List AB:= [.box 85 (H0 (.ow 1 d.cells.length) (.ow 2 d.cache.length) d.reqs d.left), .row 128 3 (d.cells.map B5), .row 134 2 (d.cache.map DR)]
theorem WU (d:Dk) (h1:d.cells.length<=1000000) (h2:d.cache.length<=1000000) (hb:∀ c∈d.cells,c.bytes.length<=1000000000/\c.old.length<=1000000000) (hw:∀ w∈d.cache,w.bytes.length<=1000000000) :
  ACalls Tryz.prog false 73 [.ag (Eh d)] [] fun r H=>r = .bp 0 0/\H=rkH d:=by
 have c1:=Tb d h1 h2 hb hw;refine zS tys_ok Tryz.func73 rfl rfl (Ag rfl) ?_;conv=>whnf
 refine zW c1 rfl ?_;rintro _ _ ⟨rfl,rfl⟩;exact⟨_, .bp 0 0,rkH d,fun _ _ h=>h,zR (s:= [3,1,2]) tA,rfl,rfl⟩
theorem NB (d:Dk) (hl : -1<=d.left/\d.left<=1048576):ACalls Tryz.prog false 213 [.bp 0 0] (rkH d) fun r H=>r = .v (.bool (decide (d.left≠0)))/\H=rkH (if d.left=0 then d else d.req):=by
 refine zS tys_ok Tryz.func213 rfl rfl (Ag rfl) ?_;conv=>whnf
 refine A6 (fun h=>?_) (fun h=>?_) <;> (repeat rw [Aa] at h) <;> conv=>whnf
 ·exact⟨_, .v (.bool false),rkH d,fun _ _ h=>h,zR (s:= [0,1,2]) tA,by simp [h],by rw [if_pos h]⟩
 ·have hw:IntKind.i64.wrap (d.left - 1)=d.left - 1:=by rw [IntKind.wrap_i64];omega
  try
   refine zZ ?_;conv=>whnf
  refine A6 (fun h2=>?_) (fun h2=>?_) <;> (repeat rw [Aa] at h2) <;> conv=>whnf
  ·exact⟨_, .v (.bool true),rkH d.req,fun _ _ h=>h,zR (s:= [0,1,2]) ⟨tA,⟨congrArg (fun x=>some (AB.box 85 (H0 (.ow 1 d.cells.length) (.ow 2 d.cache.length) d.req.reqs x))) (show IntKind.i64.wrap (d.left - 1)=d.req.left by simp [Dk.req,h2,hw]),rfl,rfl,tv⟩,rfl,rfl,rfl,rfl,rfl⟩,by simp [h],by rw [if_neg h]⟩
  ·exact⟨_, .v (.bool true),rkH d.req,fun _ _ h=>h,zR (s:= [0,1,2]) ⟨tA,⟨congrArg (fun x=>some (AB.box 85 (H0 (.ow 1 d.cells.length) (.ow 2 d.cache.length) d.req.reqs x))) (show d.left=d.req.left by simp [Dk.req];omega),rfl,rfl,tv⟩,rfl,rfl,rfl,rfl,rfl⟩,by simp [h],by rw [if_neg h]⟩
theorem UM (d:Dk) (a:Int) (hl : -1<=d.left/\d.left<=1048576) (ha:0<=a/\a<d.cells.length) (hc:d.cache.length<=2000) (hb:∀ c∈d.cells,c.bytes.length<=100000) (hw:∀ w∈d.cache,w.bytes.length<=100000) :
  ACalls Tryz.prog false 146 [.bp 0 0,iv a] (rkH d) fun r H=>r = .ag (DB ⟨(d.read a).2.2,(d.read a).2.1⟩)/\H=rkH (d.read a).1:=by
 have hq:=NB d hl;have no:∀ (e:Int) (c:Ctx) (v:Value),Rd (.ag [iv e, .v (.slice none 0 0)]) c v->Rd (.ag (DB ⟨e, []⟩)) c v:=fun e=>Bk ⟨ri,Bn 1 _,tv⟩
 by_cases h0:d.left=0
 ·rw [if_pos h0,show decide (d.left≠0)=false by simp [h0]] at hq;refine zS tys_ok Tryz.func146 rfl rfl (Ag rfl) ?_;conv=>whnf
  refine zh [0,1,2] hq ?_;rintro _ _ ⟨rfl,rfl⟩;exact⟨.ag (DB ⟨8, []⟩), .ag (DB ⟨8, []⟩),rkH d,no 8,zR (s:= [0,1,2]) tA,by simp [Dk.read,h0],by simp [Dk.read,h0]⟩
 ·rw [if_neg h0,show decide (d.left≠0)=true by simp [h0]] at hq;have hE:∀ i,i<d.cache.length->(d.cache.map DR).getD i []=DR (d.cache.getD i ⟨0, []⟩):=fun i hi=>Bf hi
  have w1:IntKind.i64.wrap ((d.req.cache.length:Int) - 1)=(d.cache.length:Int) - 1:=by show IntKind.i64.wrap ((d.cache.length:Int) - 1)=_;exact wi (by omega)
  refine zS tys_ok Tryz.func146 rfl rfl (Ag rfl) ?_;conv=>whnf
  refine zh [0,1,2] hq ?_;rintro _ _ ⟨rfl,rfl⟩;conv=>whnf
  refine zU Nat (fun k=>([(0, .bp 0 0),(1,iv a),(4, .bp 3 0),(5,iv ((k:Int) - 1))], [.box 85 (H0 (.ow 1 d.cells.length) (.ow 2 d.cache.length) d.req.reqs d.req.left), .row 128 3 (d.cells.map B5), .row 134 2 (d.cache.map DR), .box 151 [iv 0, .v (.slice none 0 0)]])) (fun k=>k<=d.cache.length/\∀ j,k<=j->j<d.cache.length->(d.cache.getD j ⟨0, []⟩).addr≠a) (fun k=>k) d.cache.length ⟨Ah _,fun j h1 h2=>absurd h2 (by omega)⟩
   (zR (s:= [0,1,2,3]) ⟨⟨rfl,rfl,rfl,congrArg (fun x=>AV.v (.int .i64 x)) w1,tv⟩,tA,rfl,rfl,rfl,rfl,rfl⟩) ?_
  rintro k ⟨hk,hI⟩;conv=>whnf
  refine A6 (fun h6=>?_) (fun h6=>?_) <;> (repeat rw [Aa] at h6) <;> conv=>whnf
  ·have hk':k - 1<d.cache.length:=by omega
   have ek:((k:Int) - 1).toNat=k - 1:=by omega
   have hE':(d.cache.map DR).getD ((k:Int) - 1).toNat []=DR (d.cache.getD (k - 1) ⟨0, []⟩):=by rw [ek];exact Bf hk'
   have hcw:=Fh (d.cache.getD (k - 1) ⟨0, []⟩).bytes (by have:=hw _ (A5 (d:=⟨0, []⟩) hk');omega);refine⟨⟨by omega,by omega⟩,?_⟩;refine⟨⟨rfl,(Ac _).symm,by omega⟩,?_⟩;conv=>whnf
   rw [hE'];conv=>whnf
   refine A6 (fun h7=>?_) (fun h7=>?_) <;> (repeat rw [Aa] at h7) <;> conv=>whnf
   ·refine⟨⟨by omega,by omega⟩,?_⟩;refine⟨⟨rfl,(Ac _).symm,by omega⟩,?_⟩;conv=>whnf
    rw [hE'];conv=>whnf
    refine z_ hcw ?_;conv=>whnf
    have hg:d.got a=((d.cache.getD (k - 1) ⟨0, []⟩).bytes,0):=by
     unfold Dk.got;rw [JE _ _ rfl (k - 1) hk' h7 fun j q1 q2=>hI j (by omega) q2]
    exact⟨_, .ag (DB ⟨0,(d.cache.getD (k - 1) ⟨0, []⟩).bytes⟩),rkH d.req,fun _ _ h=>h,zR (s:= [0,1,2]) tA,by simp [Dk.read,h0,hg],by simp [Dk.read,h0]⟩
   ·refine⟨k - 1,⟨by omega,fun j q1 q2=>?_⟩,by omega,zR (s:= [0,1,2,3]) ⟨⟨rfl,rfl,rfl,congrArg (fun x=>AV.v (.int .i64 x)) (show IntKind.i64.wrap ((k:Int) - 1 - 1)=((k - 1:Nat):Int) - 1 by rw [wi (by omega)];omega),tv⟩,tA,rfl,rfl,rfl,rfl,rfl⟩⟩;by_cases hj:j=k - 1
    ·rw [hj];exact h7
    ·exact hI j (by omega) q2
  ·have hg:d.got a=if (d.cells.getD a.toNat ⟨0, [], []⟩).state=0 then ((d.cells.getD a.toNat ⟨0, [], []⟩).bytes,0) else ([],6):=by
    unfold Dk.got;rw [It _ _ rfl fun j q=>hI j (by omega) q]
   have hgc:(d.cells.map B5).getD a.toNat []=B5 (d.cells.getD a.toNat ⟨0, [], []⟩):=Bf (by omega);have hcb:=Fh (d.cells.getD a.toNat ⟨0, [], []⟩).bytes (by have:=hb _ (A5 (d:=⟨0, [], []⟩) (show a.toNat<d.cells.length by omega));omega);refine⟨ha,?_⟩;refine⟨⟨rfl,(Ac _).symm,show a.toNat<d.cells.length by omega⟩,?_⟩;conv=>whnf
   rw [hgc];conv=>whnf
   refine A6 (fun h1=>?_) (fun h1=>?_) <;> (repeat rw [Aa] at h1) <;> conv=>whnf
   ·rw [if_neg h1] at hg;exact⟨.ag (DB ⟨6, []⟩), .ag (DB ⟨6, []⟩),rkH d.req,no 6,zR (s:= [0,1,2]) tA,by simp only [Dk.read,if_neg h0,hg],by simp only [Dk.read,if_neg h0]⟩
   ·rw [if_pos h1] at hg;refine⟨ha,?_⟩;refine⟨⟨rfl,(Ac _).symm,show a.toNat<d.cells.length by omega⟩,?_⟩;conv=>whnf
    rw [hgc];conv=>whnf
    refine z_ hcb ?_;exact⟨_, .ag (DB ⟨0,(d.cells.getD a.toNat ⟨0, [], []⟩).bytes⟩),rkH d.req,fun _ _ h=>h,zR (s:= [0,1,2]) tA,by simp only [Dk.read,if_neg h0,hg],by simp only [Dk.read,if_neg h0]⟩
theorem S0 (d:Dk) (a:Int) (b:List UInt8) (hl : -1<=d.left/\d.left<=1048576) (ha:0<=a/\a<d.cells.length) (hc:d.cache.length<=2000) (hb:b.length<=100000) :
  ACalls Tryz.prog false 154 [.bp 0 0,iv a,bA b] (rkH d) fun r H=>r = .v (.int .i64 (d.write a b).2)/\H=rkH (d.write a b).1:=by
 have hq:=NB d hl;have hcb:=Fh b (by omega);by_cases h0:d.left=0
 ·rw [if_pos h0,show decide (d.left≠0)=false by simp [h0]] at hq;refine zS tys_ok Tryz.func154 rfl rfl (Ag rfl) ?_;conv=>whnf
  refine hq.mono ?_;rintro _ _ ⟨rfl,rfl⟩;exact⟨_,iv 8,rkH d,fun _ _ h=>h,zR (s:= [0,1,2]) tA,by simp only [Dk.write,if_pos h0],by simp only [Dk.write,if_pos h0]⟩
 ·rw [if_neg h0,show decide (d.left≠0)=true by simp [h0]] at hq;have hgc:(d.cells.map B5).getD a.toNat []=B5 (d.cells.getD a.toNat ⟨0, [], []⟩):=Bf (by omega);have hgc':(d.req.cells.map B5).getD a.toNat []=B5 (d.cells.getD a.toNat ⟨0, [], []⟩):=hgc;refine zS tys_ok Tryz.func154 rfl rfl (Ag rfl) ?_;conv=>whnf
  refine hq.mono ?_;rintro _ _ ⟨rfl,rfl⟩;refine⟨ha,?_⟩;refine⟨⟨rfl,(Ac _).symm,show a.toNat<d.cells.length by omega⟩,?_⟩;conv=>whnf
  first | rw [hgc] | rw [hgc']
  conv=>whnf
  refine A6 (fun h1=>?_) (fun h1=>?_) <;> (repeat rw [Aa] at h1) <;> conv=>whnf
  ·exact⟨_,iv 7,rkH d.req,fun _ _ h=>h,zR (s:= [0,1,2]) tA,by simp only [Dk.write,if_neg h0,if_pos (Or.inl h1)],by simp only [Dk.write,if_neg h0,if_pos (Or.inl h1)]⟩
  ·by_cases h2:(2000:Int)<=d.cache.length
   ·rw [show decide ((d.req.cache.length:Int)>=2000)=true from decide_eq_true h2];exact⟨_,iv 7,rkH d.req,fun _ _ h=>h,zR (s:= [0,1,2]) tA,by simp only [Dk.write,if_neg h0,if_pos (Or.inr h2)],by simp only [Dk.write,if_neg h0,if_pos (Or.inr h2)]⟩
   ·rw [show decide ((d.req.cache.length:Int)>=2000)=false from decide_eq_false h2];have hc':d.req.cache.length<=2000:=hc;have h3:¬((d.cells.getD a.toNat ⟨0, [], []⟩).state=2\/(2000:Int)<=d.cache.length):=fun h=>h.elim h1 h2
    conv=>whnf
    apply zV (0) tys_ok mixed (.o [0,1,2,3,4,5,6,7,8,9,10,11,12,13,14,15] .fin) (by kernel_rfl);conv=>whnf
    refine z_ hcb ?_;conv=>whnf
    try (refine tJ ?_;conv=>whnf)
    try (refine tK ?_;conv=>whnf)
    try (refine tS ?_;conv=>whnf)
    have e:rkH { d.req with cache:=d.cache ++ [⟨a,b⟩] }=[.box 85 (H0 (.ow 1 d.cells.length) (.ow 2 (d.cache.length+1)) d.req.reqs d.req.left), .row 128 3 (d.cells.map B5), .row 134 2 (d.cache.map DR ++ [DR ⟨a,b⟩])]:=by
     unfold rkH;simp only [Ai,Dl,A0,A8,BM];rfl
    refine⟨_,iv 0,rkH { d.req with cache:=d.cache ++ [⟨a,b⟩] },fun _ _ h=>h,zR (s:= [0,1,2]) ?_,by simp only [Dk.write,if_neg h0,if_neg h3],by simp only [Dk.write,if_neg h0,if_neg h3]⟩;rw [e];exact tA
theorem Vb (d:Dk) (w:Wr) (ha:0<=w.addr/\w.addr<d.cells.length) (hb:w.bytes.length<=100000) :
  ACalls Tryz.prog false 216 [.bp 0 0, .ag (DR w)] (rkH d) fun r H=>r = .tp []/\H=rkH (d.fin w):=by
 have hgc:(d.cells.map B5).getD w.addr.toNat []=B5 (d.cells.getD w.addr.toNat cz):=Bf (by omega);have hcb:=Fh w.bytes (by omega);refine zS tys_ok Tryz.func216 rfl rfl (Ag rfl) ?_;conv=>whnf
 apply zV (0) tys_ok mixed (.o [0,1,2,3,4,5,6,7,8] .fin) (by kernel_rfl);conv=>whnf
 try (refine tI ?_;conv=>whnf)
 refine⟨⟨rfl,(Ac _).symm,show w.addr.toNat<d.cells.length by omega⟩,?_⟩;conv=>whnf
 rw [hgc];conv=>whnf
 refine A6 (fun h1=>?_) (fun h1=>?_) <;> (repeat rw [Aa] at h1) <;> conv=>whnf
 ·exact⟨_, .tp [],rkH d,fun _ _ h=>h,zR (s:= [0,1,2]) tA,rfl,by simp only [Dk.fin,if_pos h1]⟩
 ·have hmem:w.addr.toNat<d.cells.length:=by omega
  apply zV (0) tys_ok mixed (.o [0,1,2,3,4,5,6,7,8,9,10,11,12,13,14,15,16,17,18] .fin) (by kernel_rfl);conv=>whnf
  try (first | (refine Af ⟨rfl,(Ac _).symm,hmem⟩ ?_;(conv=>whnf);rw [hgc]) | (refine Af ⟨rfl,by simp,hmem⟩ ?_;(conv=>whnf);rw [Bm (by simpa using hmem)]) | skip;conv=>whnf)
  try (first | (refine Af ⟨rfl,(Ac _).symm,hmem⟩ ?_;(conv=>whnf);rw [hgc]) | (refine Af ⟨rfl,by simp,hmem⟩ ?_;(conv=>whnf);rw [Bm (by simpa using hmem)]) | skip;conv=>whnf)
  refine z_ hcb ?_;conv=>whnf
  try (refine tS ?_;conv=>whnf)
  (first | rw [hgc] | rw [Bm (by simpa using hmem)] | skip)
  conv=>whnf
  try (refine tS ?_;conv=>whnf)
  (first | rw [hgc] | rw [Bm (by simpa using hmem)] | skip)
  conv=>whnf
  try (refine tS ?_;conv=>whnf)
  (first | rw [hgc] | rw [Bm (by simpa using hmem)] | skip)
  conv=>whnf
  have e:rkH (d.fin w)=[.box 85 (H0 (.ow 1 d.cells.length) (.ow 2 d.cache.length) d.reqs d.left), .row 128 3 ((d.cells.map B5).set w.addr.toNat (B5 ⟨0,w.bytes,(d.cells.getD w.addr.toNat cz).bytes⟩)), .row 134 2 (d.cache.map DR)]:=by
   rw [Dk.fin,if_neg h1];unfold rkH;simp only [AW,C6]
  refine⟨_, .tp [],rkH (d.fin w),fun _ _ h=>h,zR (s:= [0,1,2]) ?_,rfl,rfl⟩;rw [e];exact⟨tA,⟨rfl,congrArg (fun l=>some (AB.row _ _ l)) (by rw [List.set_set,List.set_set];try rfl),rfl,tv⟩,rfl,rfl,rfl,rfl,rfl⟩
@[reducible] def rkG (d:Dk):List AB:= [.box 85 (H0 (.ow 1 d.cells.length) (.ow 3 d.cache.length) d.reqs d.left), .row 128 3 (d.cells.map B5), .dead, .row 134 2 (d.cache.map DR)]
theorem Yr (d:Dk):ConvH (rkH d) (rkG d):=zw (H:=rkH d) 0 2 (by decide) rfl rfl
theorem SE (d:Dk) (hl : -1<=d.left/\d.left<=1048576) (hc:d.cache.length<=2000) (ha:∀ w∈d.cache,0<=w.addr/\w.addr<d.cells.length) (hb:∀ w∈d.cache,w.bytes.length<=100000) :
  ACalls Tryz.prog false 156 [.bp 0 0] (rkH d) fun r H=>r = iv (if d.left=0 then 8 else 0)/\H=rkG (if d.left=0 then d else d.flush):=by
 have hq:=NB d hl;by_cases h0:d.left=0
 ·rw [if_pos h0,show decide (d.left≠0)=false by simp [h0]] at hq;rw [if_pos h0,if_pos h0];refine zS tys_ok Tryz.func156 rfl rfl (Ag rfl) ?_;conv=>whnf
  refine hq.mono ?_;rintro _ _ ⟨rfl,rfl⟩;exact⟨_,iv 8,rkG d,fun _ _ h=>h,zC (zK (Yr d)) (s:= [0,1,2,3]) tA,rfl,rfl⟩
 ·rw [if_neg h0,show decide (d.left≠0)=true by simp [h0]] at hq;rw [if_neg h0,if_neg h0];have hE:∀ i,i<d.cache.length->(d.cache.map DR).getD i []=DR (d.cache.getD i ⟨0, []⟩):=fun i hi=>Bf hi
  refine zS tys_ok Tryz.func156 rfl rfl (Ag rfl) ?_;conv=>whnf
  refine hq.mono ?_;rintro _ _ ⟨rfl,rfl⟩;conv=>whnf
  refine zU Nat (fun k=>([(0, .bp 0 0),(2,iv 0),(3,iv k)],rkH (d.req.allFin (d.cache.take k)))) (fun k=>k<=d.cache.length) (fun k=>d.cache.length - k) 0 (Aj _)
   (zR (s:= [0,1,2]) tA) ?_
  intro k hk;have hall:=I8 (d.cache.take k) d.req;have hnext:k<d.cache.length->d.req.allFin (d.cache.take (k+1))=(d.req.allFin (d.cache.take k)).fin (d.cache.getD k ⟨0, []⟩):=fun h=>Kp d.req h
  have hlast:k=d.cache.length->d.flush={ d.req.allFin (d.cache.take k) with cache:= [] }:=fun h=>by rw [h,Ay];try rfl
  generalize d.req.allFin (d.cache.take k)=X at hall hnext hlast |-
  obtain⟨xc,xw,xr,xl⟩:=X;simp only at hall;obtain⟨q1,q2,q3,q4⟩:=hall;have q2:xw=d.cache:=q2;subst q2;have q1':xc.length=d.cells.length:=q1;conv=>whnf
  refine A6 (fun h=>?_) (fun h=>?_) <;> (repeat rw [Aa] at h) <;> conv=>whnf
  ·have hk':k<d.cache.length:=h;have hd:=Vb ⟨xc,d.cache,xr,xl⟩ (d.cache.getD k ⟨0, []⟩) (by have:=ha _ (A5 (d:=⟨0, []⟩) hk');show _/\_<((xc.length:Nat):Int);rw [q1'];exact this) (hb _ (A5 (d:=⟨0, []⟩) hk'));refine⟨⟨by omega,by omega⟩,?_⟩;refine⟨⟨rfl,(Ac _).symm,by simpa using hk'⟩,?_⟩;conv=>whnf
   rw [show ((k:Int)).toNat=k from Aa k,hE k hk'];conv=>whnf
   refine zh [0,1,2] hd ?_;rintro _ _ ⟨rfl,rfl⟩;refine⟨k+1,hk',by omega,zR (s:= [0,1,2]) ?_⟩;rw [hnext hk'];exact⟨⟨rfl,rfl,AR (by omega),tv⟩,tA,rfl,rfl,rfl,rfl,rfl⟩
  ·have ek:k=d.cache.length:=Nat.le_antisymm hk h;rw [hlast ek];exact⟨_,iv 0,rkG { cells:=xc,cache:= [],reqs:=xr,left:=xl },fun _ _ h=>h,⟨_,_,zB _ _, [(1000001,134,2)],tA, [0,1,2,3],tA⟩,rfl,rfl⟩
structure DkOk (d:Dk):Prop where
 n:1<=d.cells.length/\d.cells.length<=300
 m:d.cache.length<=2000
 r:0<=d.reqs/\d.reqs<=1048576
 l : -1<=d.left/\d.left<=1048576
 c:∀ c∈d.cells,(0<=c.state/\c.state<=2)/\c.bytes.length<=200/\c.old.length<=200
 w:∀ w∈d.cache,(0<=w.addr/\w.addr<d.cells.length)/\w.bytes.length<=200
theorem Lq {d:Dk}:Mj d=true↔DkOk d:=by
 constructor
 ·intro h;simp only [Mj,Ad,AD,decide_eq_true_eq,Av,Ha,KH] at h;obtain⟨⟨h1,h2,h3,h4⟩,h5,h6⟩:=h;exact⟨by omega,h2,h3,h4,fun c hc=>h5 c hc,fun w hw=>⟨by have:=(h6 w hw).1;omega,(h6 w hw).2⟩⟩
 ·intro h;simp only [Mj,Ad,AD,decide_eq_true_eq,Av,Ha,KH];exact⟨⟨by have:=h.n;omega,h.m,h.r,h.l⟩,fun c hc=>h.c c hc,fun w hw=>⟨by have:=(h.w w hw).1;omega,(h.w w hw).2⟩⟩
theorem DkOk.req {d:Dk} (h:DkOk d):DkOk d.req:=by
 have hr:=h.r;have hl:=h.l;refine⟨h.n,h.m,?_,?_,h.c,h.w⟩
 ·show 0<=(if 1048576<IntKind.i64.wrap (d.reqs+1) then 1048576 else IntKind.i64.wrap (d.reqs+1))/\(if 1048576<IntKind.i64.wrap (d.reqs+1) then 1048576 else IntKind.i64.wrap (d.reqs+1))<=1048576;rw [wi (by omega)];split <;> omega
 ·show -1<=(if d.left > 0 then d.left - 1 else d.left)/\(if d.left > 0 then d.left - 1 else d.left)<=1048576;split <;> omega
theorem Tn {d:Dk} (h:DkOk d) (a:Int):(d.got a).1.length<=200:=by
 unfold Dk.got;cases hl:Id d.cache a with
 | some w=>
  have:∀ (l:List Wr) (r:Option Wr),(∀ x∈l,x.bytes.length<=200)->(∀ x,r=some x->x.bytes.length<=200)->∀ x,l.foldl (fun r w=>if w.addr=a then some w else r) r=some x->x.bytes.length<=200:=by
   intro l;induction l with
   | nil=>intro r _ h2 x hx;exact h2 x hx
   | cons y l ih=>
    intro r h1 h2 x hx;refine ih _ (fun x hx=>h1 x (AY _ hx)) (fun x hx=>?_) x hx;simp only at hx;split at hx
    ·cases hx;exact h1 y (by simp)
    ·exact h2 x hx
  exact this d.cache none (fun x hx=>(h.w x hx).2) (fun x hx=>by cases hx) w hl
 | none=>
  simp only;split
  ·by_cases ha:a.toNat<d.cells.length
   ·exact(h.c _ (A5 (d:=⟨0, [], []⟩) ha)).2.1
   ·rw [Ab,AH (by omega)];simp
  ·simp
theorem DkOk.read {d:Dk} (h:DkOk d) (a:Int):DkOk (d.read a).1:=by
 unfold Dk.read;split
 ·exact h
 ·exact h.req
theorem DkOk.write {d:Dk} (h:DkOk d) {a:Int} {b:List UInt8} (ha:0<=a/\a<d.cells.length) (hb:b.length<=200):DkOk (d.write a b).1:=by
 unfold Dk.write;split
 ·exact h
 ·split
  ·exact h.req
  ·rename_i h1;have h2:=h.req;refine⟨h2.n,?_,h2.r,h2.l,h2.c,fun w hw=>?_⟩
   ·simp only [Ai,Dl];omega
   ·rcases A3.1 hw with hw | hw
    ·exact h.w w hw
    ·simp at hw;subst hw;exact⟨ha,hb⟩
theorem DkOk.fin {d:Dk} (h:DkOk d) {w:Wr} (hb:w.bytes.length<=200):DkOk (d.fin w):=by
 unfold Dk.fin;split
 ·exact h
 ·refine⟨by simpa using h.n,h.m,h.r,h.l,fun c hc=>?_,fun x hx=>by simpa using h.w x hx⟩;rcases Cm hc with hc | rfl
  ·exact h.c c hc
  ·refine⟨⟨C7 _,show (0:Int)<=2 by decide⟩,hb,?_⟩;show (d.cells.getD w.addr.toNat cz).bytes.length<=200;by_cases ha:w.addr.toNat<d.cells.length
   ·exact(h.c _ (A5 (d:=cz) ha)).2.1
   ·rw [Ab,AH (by omega)];simp [cz]
theorem DkOk.allFin (l:List Wr):∀ {d:Dk},DkOk d->(∀ w∈l,w.bytes.length<=200)->DkOk (d.allFin l):=by
 induction l with
 | nil=>intro d h _;exact h
 | cons w l ih=>intro d h hw;exact ih (h.fin (hw w (by simp))) fun x hx=>hw x (AY _ hx)
theorem DkOk.flush {d:Dk} (h:DkOk d):DkOk d.flush:=by
 have h1:=h.req.allFin d.cache (fun w hw=>(h.w w hw).2);exact⟨h1.n,by simp [Dk.flush],h1.r,h1.l,h1.c,fun w hw=>by simp [Dk.flush] at hw⟩
theorem Kx (d:Dk) (a:Int) (b:List UInt8):(d.write a b).1.cells.length=d.cells.length:=by
 unfold Dk.write;split
 ·rfl
 ·split <;> rfl
theorem XA (d:Dk):d.flush.cells.length=d.cells.length:=(I8 d.cache d.req).1
def Dk.adv:Nat->Dk->Dk
 | 0,d=>d
 | k+1,d=>let e:=Dk.adv k d;if e.left=0 then e else e.req
def Dk.live (k:Nat) (d:Dk):Prop:=d.left<0\/(k:Int)<=d.left
instance (k:Nat) (d:Dk):Decidable (d.live k):=by unfold Dk.live;infer_instance
theorem FN (k:Nat) (d:Dk):(d.adv k).cells=d.cells/\(d.adv k).cache=d.cache:=by
 induction k with
 | zero=>exact tA
 | succ k ih=>show (if _ then _ else _:Dk).cells=_/\(if _ then _ else _:Dk).cache=_;split <;> exact ih
theorem PZ (k:Nat) (d:Dk) (h:d.live k):(d.adv k).left=if d.left<0 then d.left else d.left - k:=by
 induction k with
 | zero=>show d.left=_;simp
 | succ k ih=>
  have h':d.live k:=by unfold Dk.live at *;omega
  have ih:=ih h';have h0:¬(d.adv k).left=0:=by rw [ih];unfold Dk.live at h;split <;> omega
  show (if (d.adv k).left=0 then d.adv k else (d.adv k).req).left=_;rw [if_neg h0];show (if (d.adv k).left > 0 then (d.adv k).left - 1 else (d.adv k).left)=_;rw [ih];unfold Dk.live at h;split <;> split <;> omega
theorem W6 (k:Nat) (d:Dk) (h:¬d.live (k+1)) (h':d.live k):(d.adv k).left=0:=by
 rw [PZ k d h'];unfold Dk.live at *
 split <;> omega
theorem Jo (k n:Nat) (d:Dk) (h:(d.adv k).left=0) (hn:k<=n):d.adv n=d.adv k:=by
 induction n with
 | zero=>rw [show k=0 by omega]
 | succ n ih=>
  by_cases e:k=n+1
  ·rw [e]
  ·have:=ih (by omega);show (if (d.adv n).left=0 then d.adv n else (d.adv n).req)=_;rw [this,if_pos h]
theorem W4 (k:Nat) (d:Dk) (h:¬(d.adv k).left=0):d.adv (k+1)=(d.adv k).req:=if_neg h
theorem PY (k:Nat) (d:Dk) (hl : -1<=d.left) (h:d.live k):(d.adv k).left=0↔¬d.live (k+1):=by
 rw [PZ k d h];unfold Dk.live at *
 split <;> omega
theorem DkOk.adv {d:Dk} (h:DkOk d) (k:Nat):DkOk (d.adv k):=by
 induction k with
 | zero=>exact h
 | succ k ih=>show DkOk (if _ then _ else _);split;exact ih;exact ih.req
theorem XQ (k:Nat) (d:Dk) (a:Int):(d.adv k).got a=d.got a:=by
 unfold Dk.got;rw [(FN k d).1,(FN k d).2]
def To (d:Dk) (a:Int):Gt:=⟨(d.got a).2,(d.got a).1⟩
theorem X6 (d:Dk) (a:Int):(d.got a).2=0\/(d.got a).2=6:=by
 unfold Dk.got;cases Id d.cache a with
 | some w=>exact .inl rfl
 | none=>simp only;split;exact .inl rfl;exact .inr rfl
def Fx (s:Dk × Nat × Bool) (w:Wr):Dk × Nat × Bool:=
 if s.2.2 then s else
 match s.1.write w.addr w.bytes with
 | (d,e)=>if e=8 then (d,s.2.1,true) else (d,s.2.1+(if e=0 then 1 else 0),false)
def Dk.writes (d:Dk) (l:List Wr):Dk × Nat × Bool:=l.foldl Fx (d,0,false)
def Dk.putAll (d:Dk) (l:List Wr):Dk × Nat × Bool:=
 match d.writes l with
 | (d1,n,dead)=>if dead then (d1,n,true) else if d1.left=0 then (d1,n,true) else (d1.flush,n,false)
theorem FV (d:Dk) {l:List Wr} {k:Nat} (h:k<l.length):d.writes (l.take (k+1))=Fx (d.writes (l.take k)) (l.getD k ⟨0, []⟩):=by
 unfold Dk.writes;rw [Bi,Cd,Ae h];simp [Ab,Ae h]
theorem Ot {s:Dk × Nat × Bool} (w:Wr) (h:s.2.2=true):Fx s w=s:=by unfold Fx;rw [if_pos h]
theorem Qb {P:Dk->Prop} (l:List Wr) (hw:∀ d,P d->∀ w∈l,P (d.write w.addr w.bytes).1) {d:Dk} (h:P d) (k:Nat):P (d.writes (l.take k)).1:=by
 induction k with
 | zero=>simpa [Dk.writes] using h
 | succ k ih=>
  by_cases hk:k<l.length
  ·rw [FV d hk];unfold Fx;split
   ·exact ih
   ·have:=hw _ ih _ (A5 (d:=(⟨0, []⟩:Wr)) hk);simp only;split <;> exact this
  ·rw [Aw (by omega)];rwa [Aw (by omega)] at ih
def an0:An:=⟨0,0,0,0,0,⟨#[]⟩, []⟩
theorem an0_sub:SubL [iv 0,iv 0,iv 0,iv 0,iv 0, .v (.string ⟨#[]⟩), .v (.slice none 0 0)] (EJ an0):=
 ⟨fun _ _ h=>h,fun _ _ h=>h,fun _ _ h=>h,fun _ _ h=>h,fun _ _ h=>h,fun _ _ h=>h,Bn 3 _,tv⟩
end
end Go.Proofs.YtepdhdfoipephaaGreatDoor.A
