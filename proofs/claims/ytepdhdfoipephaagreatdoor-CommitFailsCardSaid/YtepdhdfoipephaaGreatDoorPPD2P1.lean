/-
Several texts in one.
-/
import Derived.Test.YtepdhdfoipephaaGreatDoorPPD2P0
import Derived.Test.YtepdhdfoipephaaGreatDoorProg
import Derived.Ground.NamesProg
import Derived.Shelf.Unicode.ValidAny
import Derived.Lib.IndexBytes
import Derived.Lib.AppendZeros
import Derived.Deep.LoopGhost
import Derived.Laws.BitsLemmas
import Derived.Shelf.Abstract
import Derived.Laws.BytesArg
import Derived.Lib.Strings
import Derived.Lib.Slices
import Derived.Lib.Walk
import Derived.Lib.Bytes
import Derived.Laws.MakeOwn
import Derived.Lib.MapLaws
import Derived.Laws.Cover4
import Derived.Lib.AppendStr
import Derived.Laws.IdiomStrings
import Derived.Deep.DeepCutAuto
import Derived.Laws.BitsAllLaws
set_option linter.defProp false
set_option maxRecDepth 100000
set_option maxHeartbeats 8000000
set_option linter.unusedSimpArgs false
set_option linter.unusedVariables false
set_option linter.deprecated false
namespace Go.Proofs.YtepdhdfoipephaaGreatDoor.A
section
open Go.RowKit

def ZL (B:List Nat) (l:List Edge):Nat:=l.foldl (fun s e=>s ||| (match Region.binds .any e with | true=>2 ^ e.on ||| B.getD e.on 0 | false=>0)) 0
def JO (ops:Array Oper):List Nat:=ops.toList.foldl (fun B o=>B ++ [ZL B o.after.toList]) []
def F_ (ops:Array Oper) (B:List Nat):Bool:=
 (List.range ops.size).all fun j=>match ops[j]? with
  | none=>true
  | some o=>o.after.toList.all (fun e=>!Region.binds .any e || Nat.blt e.on j)&&Nat.beq (B.getD j 0) (ZL B o.after.toList)
def Pl (ops:Array Oper) (B:List Nat) (j:Nat):Bool:=
 (List.range ops.size).any fun i=>!(((ops[i]?).map fun o=>isEff o.op || pureOp o.op).getD true)&&i != j&&!(B.getD j 0).testBit i&&!(B.getD i 0).testBit j
theorem RP {B:List Nat} {i:Nat}:∀ (l:List Edge) (s:Nat),(l.foldl (fun s e=>s ||| (match Region.binds .any e with | true=>2 ^ e.on ||| B.getD e.on 0 | false=>0)) s).testBit i=true->
  s.testBit i=true\/∃ e∈l,Region.binds .any e=true/\(e.on=i\/(B.getD e.on 0).testBit i=true)
 | [],s,h=> .inl h
 | e::l,s,h=>by
  rw [List.foldl_cons] at h;rcases RP l _ h with h | ⟨x,hx,h1,h2⟩
  ·rw [Nat.testBit_or,C8] at h;rcases h with h | h
   ·exact .inl h
   ·cases hb:Region.binds .any e with
    | false=>rw [hb] at h;simp at h
    | true=>
     rw [hb] at h;simp only [Nat.testBit_or,C8,Nat.testBit_two_pow,decide_eq_true_eq] at h;exact .inr ⟨e,by simp,hb,h⟩
  ·exact .inr ⟨x,by simp [hx],h1,h2⟩

section
variable {P:Program} {ops:Array Oper} {B:List Nat} {Q:Exit->Act->World->Prop}
def Cl (ops:Array Oper) (l:Array Bool):Prop:=∀ j o,ops[j]? = some o->l.getD j false=true->∀ e∈o.after,Region.binds .any e=true->l.getD e.on false=true
theorem Z2 (hB:F_ ops B=true) {l:Array Bool} (hl:Cl ops l):∀ (j:Nat) (o:Oper),ops[j]? = some o->(∀ e∈o.after,Region.binds .any e=true->l.getD e.on false=true)->∀ i,(B.getD j 0).testBit i=true->l.getD i false=true:=by
 intro j;induction j using Nat.strongRecOn with
 | _ j ih=>
  intro o ho hall i hi;have h1:=Av.1 hB j (AO.2 (Au.1 ho).1);rw [ho] at h1;simp only [Ad] at h1;obtain⟨h2,h3⟩:=h1;rw [Al h3] at hi;rcases RP _ _ hi with h | ⟨e,he,hb,h⟩
  ·simp at h
  ·have he':e∈o.after:=by simpa using he
   have hl1:=hall e he' hb;rcases h with rfl | h
   ·exact hl1
   ·have hlt:=Av.1 h2 e he;simp only [hb,Bool.not_true,Bool.false_or] at hlt;have hlt:e.on<j:=by simpa using hlt
    have hsz:e.on<ops.size:=Nat.lt_trans hlt (Au.1 ho).1;exact ih e.on hlt ops[e.on] (Dp hsz) (fun e' he2 hb2=>hl e.on _ (Dp hsz) hl1 e' he2 hb2) i h
theorem Cl.set {l:Array Bool} (hl:Cl ops l) {j:Nat} (hj:j∈Region.ready .any ops l):Cl ops (l.setIfInBounds j true):=by
 obtain⟨hjun,oj,hoj,hall⟩:=mem_ready.1 hj;intro k o hk hlk e he hb;refine getD_set_true ?_;by_cases hkj:k=j
 ·subst hkj;rw [hoj] at hk;cases hk;exact hall e he hb
 ·rw [getD_set_ne false (Ne.symm hkj)] at hlk;exact hl k o hk hlk e he hb
def HeldR (P:Program) (ops:Array Oper) (B:List Nat) (Q:Exit->Act->World->Prop):Nat->Array Bool->Act->World->Prop
 | 0,l,a,w=>Region.ready .any ops l=[]/\Q .normal a w
 | n+1,l,a,w=>(Region.ready .any ops l=[]->Q .normal a w)/\
   ∀ i∈Region.ready .any ops l,wpOp P ops Q i (fun a' w'=>(Pl ops B i=true->Old w w')/\HeldR P ops B Q n (l.setIfInBounds i true) a' w') a w
theorem HeldR.any:∀ (n:Nat) (l:Array Bool) (a:Act) (w:World),HeldR P ops B Q n l a w->wpAny P .any ops Q n l a w
 | 0,_,_,_,h=>h
 | n+1,_,_,_,h=>⟨h.1,fun i hi=>wpOp_mono (fun a' w' h'=>HeldR.any n _ a' w' h'.2) (h.2 i hi)⟩
theorem HeldR.first (hB:F_ ops B=true) {i:Nat} {oi:Oper} {v:Value} (hi:ops[i]? = some oi) (hdet:isEff oi.op=false)
  (hsel:∀ (j:Nat) (o:Oper) cs b,ops[j]? = some o->o.op≠ .select cs b)
  (hQ:∀ c a w,Q (.panic c) (a.put oi.dst v) w->Q (.panic c) a w) {S:World->Prop} (hk:∀ w w',S w->(pureOp oi.op=false->Old w w')->S w'):∀ (n:Nat) (l:Array Bool) (a:Act) (w:World),Cl ops l->
   (∀ j oj,ops[j]? = some oj->j≠i->l.getD j true=false->(∀ e∈oj.after,Region.binds .any e=true->e.on≠i)->oi.apart ops oj=true)->
   i∈Region.ready .any ops l->YieldsIf P ops S oi v a->S w->HeldR P ops B Q n (l.setIfInBounds i true) (a.put oi.dst v) w->HeldR P ops B Q (n+1) l a w:=by
 intro n;induction n with
 | zero=>
  intro l a w _ _ hr hy hS H;refine⟨fun h=>(by rw [h] at hr;cases hr),fun j hj=>?_⟩;by_cases hji:j=i
  ·subst hji;exact hy.wpOp hi hS ⟨fun _=>zy _,H⟩
  ·have h1:=ready_mono hj hji;rw [H.1] at h1;cases h1
 | succ n ih=>
  intro l a w hcl hfree hr hy hS H;refine⟨fun h=>(by rw [h] at hr;cases hr),fun j hj=>?_⟩;by_cases hji:j=i
  ·subst hji;exact hy.wpOp hi hS ⟨fun _=>zy _,H⟩
  have h1:=H.2 j (ready_mono hj hji);obtain⟨hjun,oj,hoj,hall⟩:=mem_ready.1 hj;obtain⟨hiun,oi',hoi',halli⟩:=mem_ready.1 hr;rw [hi] at hoi';cases hoi';have unl:∀ k,l.getD k true=false->l.getD k false=true->False:=by
   intro k h1 h2;rcases BU k l.size with h' | h'
   ·simp [h'] at h1 h2;rw [h1] at h2;cases h2
   ·simp [BH h'] at h2
  have hnot:∀ e∈oj.after,Region.binds .any e=true->e.on≠i:=fun e he hb heq=>unl i hiun (heq ▸ hall e he hb)
  have hmay:pureOp oi.op=false->Pl ops B j=true:=by
   intro hpu;refine De.2 ⟨i,AO.2 (Au.1 hi).1,?_⟩;have hne:(i != j)=true:=by rw [bne_iff_ne];exact fun h=>hji h.symm
   have b1:(B.getD j 0).testBit i=false:=by
    rw [<-BF];exact fun h=>unl i hiun (Z2 hB hcl j oj hoj hall i h)
   have b2:(B.getD i 0).testBit j=false:=by
    rw [<-BF];exact fun h=>unl j hjun (Z2 hB hcl i oi hi halli j h)
   simp only [hi,Dq,BE,hdet,hpu,hne,b1,b2,Bool.or_false,Bool.not_false,Bx]
  have h2:=wpOp_putIf hoj (hfree j oj hoj hji hjun hnot) (fun cs b=>hsel i oi cs b hi) (fun cs b=>hsel j oj cs b hoj) hQ hy h1;refine wpOp_mono (fun a' w' h3=>⟨h3.2.1,ih (l.setIfInBounds j true) a' w' (hcl.set hj) (fun k ok hk hki hun hno=>?_) (ready_mono hr (Ne.symm hji)) h3.1 (hk _ _ hS fun hp=>h3.2.1 (hmay hp)) ?_⟩) h2
  ·refine hfree k ok hk hki ?_ hno;by_cases hjk:j=k
   ·subst hjk;exact hjun
   ·rw [getD_set_ne true hjk] at hun;exact hun
  ·rw [Array.setIfInBounds_comm _ _ hji];exact h3.2.2

theorem HeldR.first1 (hB:F_ ops B=true) {i:Nat} {oi:Oper} {v:Value} (hi:ops[i]? = some oi) (hdet:isEff oi.op=false)
  (hsel:∀ (j:Nat) (o:Oper) cs b,ops[j]? = some o->o.op≠ .select cs b)
  (hQ:∀ c a w,Q (.panic c) (a.put oi.dst v) w->Q (.panic c) a w) (n:Nat) (l:Array Bool) (a:Act) (w:World) (hcl:Cl ops l)
  (hfree:∀ j oj,ops[j]? = some oj->j≠i->l.getD j true=false->(∀ e∈oj.after,Region.binds .any e=true->e.on≠i)->oi.apart ops oj=true)
  (hr:i∈Region.ready .any ops l) (hy:YieldsIf P ops (fun w'=>pureOp oi.op=true\/Old w w') oi v a) (H:HeldR P ops B Q n (l.setIfInBounds i true) (a.put oi.dst v) w):HeldR P ops B Q (n+1) l a w:=by
 refine HeldR.first hB hi hdet hsel hQ (S:=fun w'=>pureOp oi.op=true\/Old w w') (fun _ _ h1 h2=>?_) n l a w hcl hfree hr hy (.inr (zy w)) H;rcases h1 with h1 | h1
 ·exact .inl h1
 ·cases hp:pureOp oi.op with
  | true=>exact .inl rfl
  | false=>exact .inr (h1.trans (h2 hp))

def qOf:Op->Bool
 | .store _ _ _=>false
 | .call ⟨.builtin .append,_,_⟩=>false
 | _=>true
def LR (ops:Array Oper) (B:List Nat):List Nat->Array Bool->Bool
 | [],l=>(Region.ready .any ops l).isEmpty
 | i::r,l=>(match ops[i]? with
   | none=>false
   | some o=>match isEff o.op with
    | true=>(match Region.ready .any ops l with | [j]=>Nat.beq i j | _=>false)&&(qOf o.op || !Pl ops B i)
    | false=>Region.free .any ops l i&&(Region.ready .any ops l).contains i)&&LR ops B r (l.setIfInBounds i true)
def QG (P:Program) (T:Tys) (n:Nat) (ops:Array Oper):List Nat->Fr->List AB->(Fr->List AB->Prop)->Prop
 | [],fr,H,K=>K fr H
 | i::r,fr,H,K=>match JD ops.toList i with
  | none=>False
  | some o=>Iy ops.toList o fr (fun fr=>Hf P T n (qOf o.op) o fr H fun fr H=>QG P T n ops r fr H K) fun fr=>NM n o.dst (.v undef) fr fun fr=>QG P T n ops r fr H K
variable {T:Tys} {w0:Fl} {M0:Ms} {n d0:Nat} {ce:Ctx}
theorem Dw {c:Ctx} {fr:Fr} {a:Act} (hf:FR w0 c n fr a) {o:Oper} {run skip:Fr->Prop} (h:Iy ops.toList o fr run skip) :
  (Region.wanted o (yielded ops a.tmps)=true/\∃ fr',FR w0 c n fr' a/\run fr')\/(Region.wanted o (yielded ops a.tmps)=false/\∃ fr',FR w0 c n fr' a/\skip fr'):=by
 unfold Iy at h;split at h
 ·rename_i hg;exact .inl ⟨by simp [Region.wanted,hg],fr,hf,h⟩
 ·rename_i j want hg;rw [Ec] at h;split at h
  ·rename_i oj hj;have hj':ops[j]? = some oj:=by simpa using hj
   split at h
   ·rename_i d hd;have hgd:=hf.get d;split at h
    ·rename_i t ht;rw [ht] at hgd;simp only [Rd] at hgd;have hy:yielded ops a.tmps j=some t:=by
      unfold yielded;simp only [hj',Option.bind_some,hd];have:a.tmps[d]? = some (.bool t):=by
       rw [AJ] at hgd;cases hq:a.tmps[d]? with
       | none=>rw [hq] at hgd;simp [undef] at hgd
       | some x=>rw [hq] at hgd;simp at hgd;rw [hgd]
      rw [this]
     have hl:=hf.lit ht;split at h
     ·obtain⟨h1,h2⟩:=E1 h;cases t with
      | true=>exact .inl ⟨by simp [Region.wanted,hg,hy],_,hl,h1 rfl⟩
      | false=>exact .inr ⟨by simp [Region.wanted,hg,hy],_,hl,h2 rfl⟩
     ·obtain⟨h1,h2⟩:=E1 h;cases t with
      | true=>exact .inr ⟨by simp [Region.wanted,hg,hy],_,hl,h1 rfl⟩
      | false=>exact .inl ⟨by simp [Region.wanted,hg,hy],_,hl,h2 rfl⟩
    ·rename_i vs ht;rw [ht] at hgd;simp only [Rd] at hgd;have hy:yielded ops a.tmps j=none:=by
      unfold yielded;simp only [hj',Option.bind_some,hd];rw [AJ] at hgd;cases hq:a.tmps[d]? with
      | none=>rfl
      | some x=>rw [hq] at hgd;simp at hgd;rw [hgd]
     exact .inr ⟨by simp [Region.wanted,hg,hy],fr,hf,h⟩
    ·exact h.elim
   ·exact h.elim
  ·exact h.elim
theorem GE (hT:TOk P T) (hB:F_ ops B=true) (hns:Region.noSelect ops=true) {K:Fr->List AB->Prop} (hq:∀ a w,DQ w0 M0 ce n K a w->Q .normal a w) (hpan:∀ c a w,¬Q (.panic c) a w) :
  ∀ (r:List Nat) (m:Nat) (l:Array Bool) (c:Ctx) (fr:Fr) (H:List AB) (a:Act),r.length<=m->Cl ops l->LR ops B r l=true->HS w0 M0 c H->FR w0 c n fr a->Ext ce c->QG P T n ops r fr H K->HeldR P ops B Q m l a c.w
 | [],m,l,c,fr,H,a,hm,hcl,hd,hs,hf,he,h=>by
  simp only [LR,List.isEmpty_iff] at hd;cases m with
  | zero=>exact⟨hd,hq _ _ ⟨c,fr,H,rfl,h,hs,hf,he⟩⟩
  | succ m=>exact⟨fun _=>hq _ _ ⟨c,fr,H,rfl,h,hs,hf,he⟩,by rw [hd];simp⟩
 | i::r,m,l,c,fr,H,a,hm,hcl,hd,hs,hf,he,h=>by
  cases m with
  | zero=>simp at hm
  | succ m=>
   simp only [Ap,Nat.add_le_add_iff_right] at hm;simp only [LR,Ad] at hd;obtain⟨hd1,hd2⟩:=hd;simp only [QG,Ec] at h;cases ho:ops[i]? with
   | none=>rw [ho] at hd1;simp at hd1
   | some o=>
    rw [ho] at hd1;simp only at hd1;rw [show ops.toList[i]? = some o by simpa using ho] at h;simp only at h;cases hE:isEff o.op with
    | true=>
     rw [hE] at hd1;simp only [Ad] at hd1;obtain⟨hr,hmq⟩:=hd1;have hr':Region.ready .any ops l=[i]:=by
      split at hr
      ·rename_i j hj;rw [hj,Al hr]
      ·cases hr
     have hri:i∈Region.ready .any ops l:=by rw [hr'];simp
     refine⟨fun h0=>(by rw [hr'] at h0;cases h0),fun j hj=>?_⟩;rw [hr',AF] at hj;subst hj;refine wpOp_step ho fun KK hK=>?_
     rcases Dw hf h with ⟨hw,fr',hf',h⟩ | ⟨hw,fr',hf',h⟩
     ·rw [if_pos hw];refine Fm hT hs hf' he h ?_;rintro a' w' ⟨c',fr2,H',rfl,h1,h2,h3,h4⟩ hold;refine hK _ _ ⟨fun hmay=>hold ?_,GE hT hB hns hq hpan r m _ c' fr2 H' a' hm (hcl.set hri) hd2 h2 h3 h4 h1⟩;rw [hmay] at hmq;simpa using hmq
     ·rw [if_neg (by rw [hw];simp)];obtain⟨fr2,h1,h2⟩:=Ct (v:=undef) hf' (by simp [Rd]) h;exact hK _ _ ⟨fun _=>zy _,GE hT hB hns hq hpan r m _ c fr2 H _ hm (hcl.set hri) hd2 hs h2 he h1⟩
    | false=>
     rw [hE] at hd1;simp only [Ad] at hd1;obtain⟨hfree,hr⟩:=hd1;have hri:i∈Region.ready .any ops l:=by simpa using hr
     have step:∀ v fr2,YieldsIf P ops (fun w'=>pureOp o.op=true\/Old c.w w') o v a->FR w0 c n fr2 (a.put o.dst v)->QG P T n ops r fr2 H K->HeldR P ops B Q (m+1) l a c.w:=by
      intro v fr2 hy hf2 h2;exact HeldR.first1 hB ho hE (Region.noSelect_spec hns) (fun c a w h=>(hpan _ _ _ h).elim) m l a c.w hcl (Region.free_spec ho hfree) hri hy
       (GE hT hB hns hq hpan r m _ c fr2 H _ hm (hcl.set hri) hd2 hs hf2 he h2)
     rcases Dw hf h with ⟨hw,fr',hf',h⟩ | ⟨hw,fr',hf',h⟩
     ·unfold Hf at h;rw [hE] at h;obtain⟨rr,v,h1,h2,h3⟩:=(G2 hT hs hf' h).y;obtain⟨fr2,h4,h5⟩:=Ct hf' h3 h1;exact step v fr2 (.inl ⟨hw,h2⟩) h5 h4
     ·obtain⟨fr2,h4,h5⟩:=Ct (v:=undef) hf' (by simp [Rd]) h;exact step undef fr2 (.inr ⟨hw,rfl⟩) h5 h4
def Oe (ops:Array Oper) (ord:List Nat):Bool:=F_ ops (JO ops)&&Region.noSelect ops&&Nat.ble ord.length ops.size&&LR ops (JO ops) ord (Array.replicate ops.size false)
theorem aDraw.of (hT:TOk P T) (hm:P.follows .mixedOrders=true) {id:Nat} {K:Fr->List AB->Prop} {fr:Fr} {H:List AB} (ord:List Nat) (hok:Oe ops ord=true) (h:QG P T n ops ord fr H K):aDraw P T n d0 id ops K fr H:=by
 simp only [Oe,Ad] at hok;obtain⟨⟨⟨hB,hns⟩,hlen⟩,hok⟩:=hok;refine⟨fun w0 M0 ce c a hs hf he hd Q hQ=>?_⟩;refine wp_mono (Q:=fun e a w=>e = .normal/\DQ w0 M0 ce n K a w) ?_ ?_
 ·refine wp_region_any hm (HeldR.any (B:=JO ops) _ _ _ _ ?_);have hb:=(Below.refl c.w.heap.size c.w).drew;obtain⟨h1,h2⟩:=hs.grow hb;refine GE (w0:=w0) (M0:=M0) (ce:=ce) hT hB hns (fun a w hl=>⟨rfl,hl⟩) (fun c a w h=>by cases h.1) ord _ _ { c with w:=c.w.drew } fr H a (Ag hlen) ?_ hok h1 (hf.ext h2) (he.trans h2) h;intro j o hj hlj;rcases BU j ops.size with h' | h'
  ·simp [h'] at hlj
  ·simp [BH h'] at hj
 ·rintro e a w ⟨rfl,c',fr',H',rfl,h1,h2,h3,h4⟩;exact hQ c' fr' H' a h1 h2 h3 h4
def zA:=@aDraw.of
end
open Go.RowKit
theorem aLoop.rule {d0:Nat} {body:QA->Fr->List AB->Prop} {Q:QA} {fr:Fr} {H:List AB} (ι:Type) (st:ι->Fr × List AB) (I:ι->Prop) (μ:ι->Nat) (x0:ι) (h0:I x0) (hw:Wk d0 fr H (st x0).1 (st x0).2)
  (round:∀ x,I x->body (fun ex fr' H'=>match ex with | .normal=>∃ x',I x'/\μ x'<μ x/\Wk d0 fr' H' (st x').1 (st x').2 | e=>Q e fr' H') (st x).1 (st x).2):aLoop d0 body Q fr H:=
 ⟨.inr (.inl ⟨ι,st,I,μ,⟨x0,h0,hw⟩,round⟩)⟩
def zP:=@aLoop.rule
theorem aDraw.seq {P:Program} {T:Tys} {n d0:Nat} (hT:TOk P T) (hm:P.follows .mixedOrders=true) {id:Nat} {ops:Array Oper} {K:Fr->List AB->Prop} {fr:Fr} {H:List AB} (hok:Oe ops (List.range ops.size)=true) (h:QG P T n ops (List.range ops.size) fr H K):aDraw P T n d0 id ops K fr H:=
 zA hT hm _ hok h
def zJ:=@aDraw.seq
end
section
open Go.RowKit
class Say (b:Bool) (p q:outParam Prop):Prop where
 yes:b=true->p
 no:b=false->q
theorem A6 {t:Bool} {p q A B:Prop} [h:Say t p q] (h1:p->A) (h2:q->B):Km t A B:=Am (fun e=>h1 (h.yes e)) fun e=>h2 (h.no e)
instance (priority:=10) sayAny (b:Bool):Say b (b=true) (b=false):=⟨id,id⟩
instance (priority:=100) sayDec (p:Prop) [Decidable p]:Say (decide p) p (¬p):=⟨of_decide_eq_true,of_decide_eq_false⟩
instance sayLt (a b:Int):Say (decide (a<b)) (a<b) (b<=a):=⟨of_decide_eq_true,fun h=>Int.not_lt.1 (of_decide_eq_false h)⟩
instance sayLe (a b:Int):Say (decide (a<=b)) (a<=b) (b<a):=⟨of_decide_eq_true,fun h=>Int.not_le.1 (of_decide_eq_false h)⟩
instance sayGt (a b:Int):Say (decide (a > b)) (b<a) (a<=b):=⟨of_decide_eq_true,fun h=>Int.not_lt.1 (of_decide_eq_false h)⟩
instance sayGe (a b:Int):Say (decide (a>=b)) (b<=a) (a<b):=⟨of_decide_eq_true,fun h=>Int.not_le.1 (of_decide_eq_false h)⟩
instance (priority:=2000) sayLtN (a b:Nat):Say (decide ((a:Int)<(b:Int))) (a<b) (b<=a):=⟨fun h=>Int.ofNat_lt.1 (of_decide_eq_true h),fun h=>Int.ofNat_le.1 (Int.not_lt.1 (of_decide_eq_false h))⟩
instance (priority:=2000) sayLeN (a b:Nat):Say (decide ((a:Int)<=(b:Int))) (a<=b) (b<a):=⟨fun h=>Int.ofNat_le.1 (of_decide_eq_true h),fun h=>Int.ofNat_lt.1 (Int.not_le.1 (of_decide_eq_false h))⟩
instance (priority:=2000) sayGtN (a b:Nat):Say (decide ((a:Int) > (b:Int))) (b<a) (a<=b):=⟨fun h=>Int.ofNat_lt.1 (of_decide_eq_true h),fun h=>Int.ofNat_le.1 (Int.not_lt.1 (of_decide_eq_false h))⟩
instance (priority:=2000) sayGeN (a b:Nat):Say (decide ((a:Int)>=(b:Int))) (b<=a) (a<b):=⟨fun h=>Int.ofNat_le.1 (of_decide_eq_true h),fun h=>Int.ofNat_lt.1 (Int.not_le.1 (of_decide_eq_false h))⟩
instance (priority:=2000) sayEqN (a b:Nat):Say ((a:Int) == (b:Int)) (a=b) (a≠b):=⟨fun h=>Int.ofNat.inj (eq_of_beq h),fun h e=>ne_of_beq_false h (by rw [e])⟩
instance (priority:=2000) sayNeN (a b:Nat):Say ((a:Int) != (b:Int)) (a≠b) (a=b):=⟨fun h e=>bne_iff_ne.1 h (by rw [e]),fun h=>Int.ofNat.inj (by simpa using h)⟩
instance sayEq {α:Type} [BEq α] [LawfulBEq α] (a b:α):Say (a == b) (a=b) (a≠b):=⟨eq_of_beq,fun h=>ne_of_beq_false h⟩
instance sayNe {α:Type} [BEq α] [LawfulBEq α] (a b:α):Say (a != b) (a≠b) (a=b):=⟨fun h=>bne_iff_ne.1 h,fun h=>by simpa using h⟩
instance sayNot (b:Bool) (p q:Prop) [h:Say b p q]:Say (!b) q p:=⟨fun e=>h.no (by simpa using e),fun e=>h.yes (by simpa using e)⟩

inductive Tr where
 | fin
 | one (i:Nat) (r:Tr)
 | two (i:Nat) (a:Tr) (j:Nat) (b:Tr)
def Tr.o (l:List Nat) (t:Tr):Tr:=l.foldr .one t
def Tr.depth:Tr->Nat
 | .fin=>0
 | .one _ r=>r.depth+1
 | .two _ a _ b=>max a.depth b.depth+1
section
variable {P:Program} {ops:Array Oper} {B:List Nat} {Q:Exit->Act->World->Prop}
def XD (ops:Array Oper) (B:List Nat) (i:Nat):Bool:=match ops[i]? with | some o=>isEff o.op&&(qOf o.op || !Pl ops B i) | none=>false
def G6 (ops:Array Oper) (B:List Nat):Tr->Array Bool->Bool
 | .fin,l=>(Region.ready .any ops l).isEmpty
 | .one i r,l=>(match ops[i]? with
   | none=>false
   | some o=>match isEff o.op with
    | true=>(match Region.ready .any ops l with | [j]=>Nat.beq i j | _=>false)&&(qOf o.op || !Pl ops B i)
    | false=>Region.free .any ops l i&&(Region.ready .any ops l).contains i)&&G6 ops B r (l.setIfInBounds i true)
 | .two i a j b,l=>(match Region.ready .any ops l with | [x,y]=>Nat.beq x i&&Nat.beq y j | _=>false)&&XD ops B i&&XD ops B j&&G6 ops B a (l.setIfInBounds i true)&&G6 ops B b (l.setIfInBounds j true)
def KT (P:Program) (T:Tys) (n:Nat) (ops:Array Oper) (i:Nat) (fr:Fr) (H:List AB) (K:Fr->List AB->Prop):Prop:=
 match JD ops.toList i with
 | none=>False
 | some o=>Iy ops.toList o fr (fun fr=>Hf P T n (qOf o.op) o fr H K) fun fr=>NM n o.dst (.v undef) fr fun fr=>K fr H
def NN (P:Program) (T:Tys) (n:Nat) (ops:Array Oper):Tr->Fr->List AB->(Fr->List AB->Prop)->Prop
 | .fin,fr,H,K=>K fr H
 | .one i r,fr,H,K=>KT P T n ops i fr H fun fr H=>NN P T n ops r fr H K
 | .two i a j b,fr,H,K=>(KT P T n ops i fr H fun fr H=>NN P T n ops a fr H K)/\(KT P T n ops j fr H fun fr H=>NN P T n ops b fr H K)
variable {T:Tys} {w0:Fl} {M0:Ms} {n d0:Nat} {ce:Ctx}
theorem LP (hT:TOk P T) {i:Nat} {o:Oper} (ho:ops[i]? = some o) {m:Nat} {l:Array Bool} (hmq:(qOf o.op || !Pl ops B i)=true) {c:Ctx} {fr:Fr} {H:List AB} {a:Act} (hs:HS w0 M0 c H) (hf:FR w0 c n fr a) (he:Ext ce c) {K:Fr->List AB->Prop}
  (hk:∀ (c':Ctx) (fr':Fr) (H':List AB) (a':Act),HS w0 M0 c' H'->FR w0 c' n fr' a'->Ext ce c'->K fr' H'->HeldR P ops B Q m (l.setIfInBounds i true) a' c'.w)
  (h:KT P T n ops i fr H K):wpOp P ops Q i (fun a' w'=>(Pl ops B i=true->Old c.w w')/\HeldR P ops B Q m (l.setIfInBounds i true) a' w') a c.w:=by
 simp only [KT,Ec] at h;rw [show ops.toList[i]? = some o by simpa using ho] at h;simp only at h;refine wpOp_step ho fun KK hK=>?_
 rcases Dw hf h with ⟨hw,fr',hf',h⟩ | ⟨hw,fr',hf',h⟩
 ·rw [if_pos hw];refine Fm hT hs hf' he h ?_;rintro a' w' ⟨c',fr2,H',rfl,h1,h2,h3,h4⟩ hold;refine hK _ _ ⟨fun hmay=>hold ?_,hk c' fr2 H' a' h2 h3 h4 h1⟩;rw [hmay] at hmq;simpa using hmq
 ·rw [if_neg (by rw [hw];simp)];obtain⟨fr2,h1,h2⟩:=Ct (v:=undef) hf' (by simp [Rd]) h;exact hK _ _ ⟨fun _=>zy _,hk c fr2 H _ hs h2 he h1⟩
theorem FA (hT:TOk P T) (hB:F_ ops B=true) (hns:Region.noSelect ops=true) {K:Fr->List AB->Prop} (hq:∀ a w,DQ w0 M0 ce n K a w->Q .normal a w) (hpan:∀ c a w,¬Q (.panic c) a w) :
  ∀ (r:Tr) (m:Nat) (l:Array Bool) (c:Ctx) (fr:Fr) (H:List AB) (a:Act),r.depth<=m->Cl ops l->G6 ops B r l=true->HS w0 M0 c H->FR w0 c n fr a->Ext ce c->NN P T n ops r fr H K->HeldR P ops B Q m l a c.w
 | .fin,m,l,c,fr,H,a,hm,hcl,hd,hs,hf,he,h=>by
  simp only [G6,List.isEmpty_iff] at hd;cases m with
  | zero=>exact⟨hd,hq _ _ ⟨c,fr,H,rfl,h,hs,hf,he⟩⟩
  | succ m=>exact⟨fun _=>hq _ _ ⟨c,fr,H,rfl,h,hs,hf,he⟩,by rw [hd];simp⟩
 | .two i x j y,m,l,c,fr,H,a,hm,hcl,hd,hs,hf,he,h=>by
  cases m with
  | zero=>simp [Tr.depth] at hm
  | succ m=>
   simp only [Tr.depth] at hm;simp only [G6,Ad] at hd;obtain⟨⟨⟨⟨hr,hi⟩,hj⟩,hx⟩,hy⟩:=hd;have hr':Region.ready .any ops l=[i,j]:=by
    split at hr
    ·rename_i p q hpq;simp only [Ad] at hr;rw [hpq,Al hr.1,Al hr.2]
    ·cases hr
   obtain⟨h1,h2⟩:=h;have go:∀ k r,XD ops B k=true->r.depth<=m->k∈Region.ready .any ops l->G6 ops B r (l.setIfInBounds k true)=true->(KT P T n ops k fr H fun fr H=>NN P T n ops r fr H K)->(∀ (c:Ctx) (fr:Fr) (H:List AB) (a:Act),HS w0 M0 c H->FR w0 c n fr a->Ext ce c->NN P T n ops r fr H K->HeldR P ops B Q m (l.setIfInBounds k true) a c.w)->
     wpOp P ops Q k (fun a' w'=>(Pl ops B k=true->Old c.w w')/\HeldR P ops B Q m (l.setIfInBounds k true) a' w') a c.w:=by
    intro k r hk _ _ _ hst hrec;unfold XD at hk;split at hk
    ·rename_i o ho;simp only [Ad] at hk;exact LP hT ho hk.2 hs hf he hrec hst
    ·cases hk
   refine⟨fun h0=>(by rw [hr'] at h0;cases h0),fun k hk=>?_⟩;have hi':i∈Region.ready .any ops l:=by rw [hr'];simp
   have hj':j∈Region.ready .any ops l:=by rw [hr'];simp
   rw [hr',Bb,AF] at hk;rcases hk with rfl | rfl
   ·exact go k x hi (by omega) hi' hx h1 fun c' fr' H' a' q1 q2 q3 q4=>FA hT hB hns hq hpan x m _ c' fr' H' a' (by omega) (hcl.set hi') hx q1 q2 q3 q4
   ·exact go k y hj (by omega) hj' hy h2 fun c' fr' H' a' q1 q2 q3 q4=>FA hT hB hns hq hpan y m _ c' fr' H' a' (by omega) (hcl.set hj') hy q1 q2 q3 q4
 | .one i r,m,l,c,fr,H,a,hm,hcl,hd,hs,hf,he,h=>by
  cases m with
  | zero=>simp [Tr.depth] at hm
  | succ m=>
   simp only [Tr.depth,Nat.add_le_add_iff_right] at hm;simp only [G6,Ad] at hd;obtain⟨hd1,hd2⟩:=hd;simp only [NN] at h;cases ho:ops[i]? with
   | none=>rw [ho] at hd1;simp at hd1
   | some o=>
    rw [ho] at hd1;simp only at hd1;cases hE:isEff o.op with
    | true=>
     rw [hE] at hd1;simp only [Ad] at hd1;obtain⟨hr,hmq⟩:=hd1;have hr':Region.ready .any ops l=[i]:=by
      split at hr
      ·rename_i j hj;rw [hj,Al hr]
      ·cases hr
     have hri:i∈Region.ready .any ops l:=by rw [hr'];simp
     refine⟨fun h0=>(by rw [hr'] at h0;cases h0),fun j hj=>?_⟩;rw [hr',AF] at hj;subst hj;exact LP hT ho hmq hs hf he (fun c' fr' H' a' q1 q2 q3 q4=>FA hT hB hns hq hpan r m _ c' fr' H' a' hm (hcl.set hri) hd2 q1 q2 q3 q4) h
    | false=>
     rw [hE] at hd1;simp only [Ad] at hd1;obtain⟨hfree,hr⟩:=hd1;have hri:i∈Region.ready .any ops l:=by simpa using hr
     simp only [KT,Ec] at h;rw [show ops.toList[i]? = some o by simpa using ho] at h;simp only at h;have step:∀ v fr2,YieldsIf P ops (fun w'=>pureOp o.op=true\/Old c.w w') o v a->FR w0 c n fr2 (a.put o.dst v)->NN P T n ops r fr2 H K->HeldR P ops B Q (m+1) l a c.w:=by
      intro v fr2 hy hf2 h2;exact HeldR.first1 hB ho hE (Region.noSelect_spec hns) (fun c a w h=>(hpan _ _ _ h).elim) m l a c.w hcl (Region.free_spec ho hfree) hri hy
       (FA hT hB hns hq hpan r m _ c fr2 H _ hm (hcl.set hri) hd2 hs hf2 he h2)
     rcases Dw hf h with ⟨hw,fr',hf',h⟩ | ⟨hw,fr',hf',h⟩
     ·unfold Hf at h;rw [hE] at h;obtain⟨rr,v,h1,h2,h3⟩:=(G2 hT hs hf' h).y;obtain⟨fr2,h4,h5⟩:=Ct hf' h3 h1;exact step v fr2 (.inl ⟨hw,h2⟩) h5 h4
     ·obtain⟨fr2,h4,h5⟩:=Ct (v:=undef) hf' (by simp [Rd]) h;exact step undef fr2 (.inr ⟨hw,rfl⟩) h5 h4
def canonK:List Nat->Fr->(Fr->Prop)->Prop
 | [],_,k=>k []
 | d::r,fr,k=>Do (fget fr d) fun x=>canonK r fr fun l=>k ((d,x)::l)
theorem canonK_iff:∀ {ds:List Nat} {fr:Fr} {k:Fr->Prop},canonK ds fr k->k (ds.map fun d=>(d,fget fr d))
 | [],_,_,h=>h
 | d::r,fr,k,h=>by simp only [canonK] at h;exact canonK_iff (ds:=r) (k:=fun l=>k ((d,fget fr d)::l)) (BI h)
theorem Nq (fr:Fr):∀ (ds:List Nat) (i:Nat),fget (ds.map fun d=>(d,fget fr d)) i = .top\/fget (ds.map fun d=>(d,fget fr d)) i=fget fr i
 | [],_=> .inl rfl
 | d::r,i=>by
  simp only [A8,fget];cases hb:Nat.beq d i with
  | true=>have:=Al hb;subst this;exact .inr rfl
  | false=>exact Nq fr r i
theorem FR.canon {c:Ctx} {fr:Fr} {a:Act} (h:FR w0 c n fr a) (ds:List Nat):FR w0 c n (ds.map fun d=>(d,fget fr d)) a:=by
 refine⟨h.size,h.defers,fun i=>?_⟩;rcases Nq fr ds i with e | e <;> rw [e]
 ·simp [Rd]
 ·exact h.get i
def slots:Fr->List Nat
 | []=> []
 | (i,_)::r=>i::slots r
def R3 (ops:Array Oper) (tr:Tr):Bool:=F_ ops (JO ops)&&Region.noSelect ops&&Nat.ble tr.depth ops.size&&G6 ops (JO ops) tr (Array.replicate ops.size false)
theorem aDraw.tree (hT:TOk P T) (hm:P.follows .mixedOrders=true) {id:Nat} {K:Fr->List AB->Prop} {fr:Fr} {H:List AB} (tr:Tr) (ds:List Nat) {F:Fr} {H2:List AB} (hok:R3 ops tr=true)
  (h:NN P T n ops tr fr H fun fr' H'=>canonK (ds ++ slots fr) fr' fun l=>l=F/\H'=H2) (hk:K F H2):aDraw P T n d0 id ops K fr H:=by
 simp only [R3,Ad] at hok;obtain⟨⟨⟨hB,hns⟩,hlen⟩,hok⟩:=hok;refine⟨fun w0 M0 ce c a hs hf he hd Q hQ=>?_⟩;refine wp_mono (Q:=fun e a w=>e = .normal/\DQ w0 M0 ce n (fun fr' H'=>canonK (ds ++ slots fr) fr' fun l=>l=F/\H'=H2) a w) ?_ ?_
 ·refine wp_region_any hm (HeldR.any (B:=JO ops) _ _ _ _ ?_);have hb:=(Below.refl c.w.heap.size c.w).drew;obtain⟨h1,h2⟩:=hs.grow hb;refine FA (w0:=w0) (M0:=M0) (ce:=ce) hT hB hns (fun a w hl=>⟨rfl,hl⟩) (fun c a w h=>by cases h.1) tr _ _ { c with w:=c.w.drew } fr H a (Ag hlen) ?_ hok h1 (hf.ext h2) (he.trans h2) h;intro j o hj hlj;rcases BU j ops.size with h' | h'
  ·simp [h'] at hlj
  ·simp [BH h'] at hj
 ·rintro e a w ⟨rfl,c',fr',H',rfl,h1,h2,h3,h4⟩;obtain⟨e1,rfl⟩:=canonK_iff h1;exact hQ c' F H' a hk h2 (e1 ▸ h3.canon _) h4
def zL:=@aDraw.tree
end
def tys:Tys:= [
 (2,⟨1,false, [.int .i64 0], .int .i64⟩),
 (3,⟨1,false, [.int .i64 0], .int .i64⟩),
 (4,⟨1,false, [.bool false], .bool⟩),
 (5,⟨1,false, [.int .u8 0], .int .u8⟩),
 (6,⟨1,false, [.int .u8 0], .int .u8⟩),
 (7,⟨4,true, [.int .i64 0, .int .i64 0, .bool false, .int .u8 0], .struct [(0,1),(1,1),(2,1),(3,1)]⟩),
 (8,⟨4,true, [.int .i64 0, .int .i64 0, .bool false, .int .u8 0], .struct [(0,1),(1,1),(2,1),(3,1)]⟩),
 (9,⟨1,false, [.string ⟨#[]⟩], .str⟩),
 (10,⟨1,false, [.string ⟨#[]⟩], .str⟩),
 (11,⟨1,false, [.string ⟨#[]⟩], .str⟩),
 (12,⟨1,false, [.int .u64 0], .int .u64⟩),
 (13,⟨2,true, [.string ⟨#[]⟩, .int .u64 0], .struct [(0,1),(1,1)]⟩),
 (14,⟨2,true, [.string ⟨#[]⟩, .int .u64 0], .struct [(0,1),(1,1)]⟩),
 (15,⟨1,false, [.pointer none], .other⟩),
 (16,⟨1,false, [.pointer none], .other⟩),
 (17,⟨1,false, [.pointer none], .other⟩),
 (18,⟨1,true, [.pointer none], .struct [(0,1)]⟩),
 (19,⟨1,true, [.pointer none], .struct [(0,1)]⟩),
 (20,⟨1,false, [.nilIface], .ifc true⟩),
 (21,⟨1,false, [.int .i32 0], .int .i32⟩),
 (22,⟨5,true, [.int .i64 0, .int .i64 0, .int .i64 0, .int .i64 0, .int .i64 0], .struct [(0,1),(1,1),(2,1),(3,1),(4,1)]⟩),
 (23,⟨5,true, [.int .i64 0, .int .i64 0, .int .i64 0, .int .i64 0, .int .i64 0], .struct [(0,1),(1,1),(2,1),(3,1),(4,1)]⟩),
 (24,⟨1,false, [.slice none 0 0], .slice 100 2⟩),
 (25,⟨1,false, [.slice none 0 0], .slice 30 4⟩),
 (28,⟨1,false, [.slice none 0 0], .slice 4 1⟩),
 (29,⟨1,false, [.int .u64 0], .int .u64⟩),
 (30,⟨4,true, [.int .i64 0, .int .i64 0, .int .i64 0, .int .i64 0], .arr 4 3 1⟩),
 (31,⟨1,false, [.slice none 0 0], .slice 177 3⟩),
 (32,⟨7,true, [.int .i64 0, .int .i64 0, .int .i64 0, .int .i64 0, .int .i64 0, .string ⟨#[]⟩, .slice none 0 0], .struct [(0,1),(1,1),(2,1),(3,1),(4,1),(5,1),(6,1)]⟩),
 (33,⟨7,true, [.int .i64 0, .int .i64 0, .int .i64 0, .int .i64 0, .int .i64 0, .string ⟨#[]⟩, .slice none 0 0], .struct [(0,1),(1,1),(2,1),(3,1),(4,1),(5,1),(6,1)]⟩),
 (34,⟨1,false, [.slice none 0 0], .slice 112 4⟩),
 (35,⟨1,false, [.slice none 0 0], .slice 3 1⟩),
 (36,⟨4,true, [.int .i64 0, .int .i64 0, .int .i64 0, .slice none 0 0], .struct [(0,1),(1,1),(2,1),(3,1)]⟩),
 (37,⟨4,true, [.int .i64 0, .int .i64 0, .int .i64 0, .slice none 0 0], .struct [(0,1),(1,1),(2,1),(3,1)]⟩),
 (38,⟨14,true, [.int .i64 0, .int .i64 0, .int .i64 0, .int .i64 0, .int .i64 0, .string ⟨#[]⟩, .slice none 0 0, .slice none 0 0, .bool false, .int .i64 0, .int .i64 0, .int .i64 0, .int .i64 0, .slice none 0 0], .struct [(0,7),(7,1),(8,1),(9,1),(10,4)]⟩),
 (39,⟨14,true, [.int .i64 0, .int .i64 0, .int .i64 0, .int .i64 0, .int .i64 0, .string ⟨#[]⟩, .slice none 0 0, .slice none 0 0, .bool false, .int .i64 0, .int .i64 0, .int .i64 0, .int .i64 0, .slice none 0 0], .struct [(0,7),(7,1),(8,1),(9,1),(10,4)]⟩),
 (40,⟨1,false, [.slice none 0 0], .slice 128 3⟩),
 (41,⟨1,false, [.slice none 0 0], .slice 134 2⟩),
 (42,⟨4,true, [.slice none 0 0, .slice none 0 0, .int .i64 0, .int .i64 0], .struct [(0,1),(1,1),(2,1),(3,1)]⟩),
 (43,⟨4,true, [.slice none 0 0, .slice none 0 0, .int .i64 0, .int .i64 0], .struct [(0,1),(1,1),(2,1),(3,1)]⟩),
 (44,⟨1,false, [.slice none 0 0], .slice 47 1⟩),
 (47,⟨1,false, [.slice none 0 0], .slice 5 1⟩),
 (48,⟨1,false, [.int .i64 0], .int .i64⟩),
 (68,⟨1,false, [.slice none 0 0], .slice 97 3⟩),
 (69,⟨1,true, [.slice none 0 0], .struct [(0,1)]⟩),
 (70,⟨1,true, [.slice none 0 0], .struct [(0,1)]⟩),
 (77,⟨1,false, [.pointer none], .other⟩),
 (81,⟨1,false, [.pointer none], .other⟩),
 (82,⟨21,true, [.int .i64 0, .int .i64 0, .int .i64 0, .int .i64 0, .int .i64 0, .pointer none, .int .i64 0, .int .i64 0, .int .i64 0, .int .i64 0, .int .i64 0, .string ⟨#[]⟩, .slice none 0 0, .slice none 0 0, .bool false, .int .i64 0, .int .i64 0, .int .i64 0, .int .i64 0, .slice none 0 0, .int .i64 0], .struct [(0,5),(5,1),(6,14),(20,1)]⟩),
 (83,⟨21,true, [.int .i64 0, .int .i64 0, .int .i64 0, .int .i64 0, .int .i64 0, .pointer none, .int .i64 0, .int .i64 0, .int .i64 0, .int .i64 0, .int .i64 0, .string ⟨#[]⟩, .slice none 0 0, .slice none 0 0, .bool false, .int .i64 0, .int .i64 0, .int .i64 0, .int .i64 0, .slice none 0 0, .int .i64 0], .struct [(0,5),(5,1),(6,14),(20,1)]⟩),
 (84,⟨4,true, [.slice none 0 0, .slice none 0 0, .int .i64 0, .int .i64 0], .struct [(0,4)]⟩),
 (85,⟨4,true, [.slice none 0 0, .slice none 0 0, .int .i64 0, .int .i64 0], .struct [(0,4)]⟩),
 (96,⟨3,true, [.int .i64 0, .int .i64 0, .bool false], .struct [(0,1),(1,1),(2,1)]⟩),
 (97,⟨3,true, [.int .i64 0, .int .i64 0, .bool false], .struct [(0,1),(1,1),(2,1)]⟩),
 (100,⟨2,true, [.int .i64 0, .int .i64 0], .arr 2 3 1⟩),
 (104,⟨1,false, [.pointer none], .other⟩),
 (110,⟨1,false, [.slice none 0 0], .slice 166 3⟩),
 (111,⟨4,true, [.int .i64 0, .int .i64 0, .int .i64 0, .slice none 0 0], .struct [(0,1),(1,1),(2,1),(3,1)]⟩),
 (112,⟨4,true, [.int .i64 0, .int .i64 0, .int .i64 0, .slice none 0 0], .struct [(0,1),(1,1),(2,1),(3,1)]⟩),
 (114,⟨1,false, [.pointer none], .other⟩),
 (115,⟨20,true, [.int .i64 0, .int .i64 0, .int .i64 0, .int .i64 0, .int .i64 0, .pointer none, .int .i64 0, .int .i64 0, .int .i64 0, .int .i64 0, .int .i64 0, .string ⟨#[]⟩, .slice none 0 0, .slice none 0 0, .bool false, .int .i64 0, .int .i64 0, .int .i64 0, .int .i64 0, .slice none 0 0], .struct [(0,5),(5,1),(6,14)]⟩),
 (116,⟨20,true, [.int .i64 0, .int .i64 0, .int .i64 0, .int .i64 0, .int .i64 0, .pointer none, .int .i64 0, .int .i64 0, .int .i64 0, .int .i64 0, .int .i64 0, .string ⟨#[]⟩, .slice none 0 0, .slice none 0 0, .bool false, .int .i64 0, .int .i64 0, .int .i64 0, .int .i64 0, .slice none 0 0], .struct [(0,5),(5,1),(6,14)]⟩),
 (127,⟨3,true, [.int .i64 0, .slice none 0 0, .slice none 0 0], .struct [(0,1),(1,1),(2,1)]⟩),
 (128,⟨3,true, [.int .i64 0, .slice none 0 0, .slice none 0 0], .struct [(0,1),(1,1),(2,1)]⟩),
 (133,⟨2,true, [.int .i64 0, .slice none 0 0], .struct [(0,1),(1,1)]⟩),
 (134,⟨2,true, [.int .i64 0, .slice none 0 0], .struct [(0,1),(1,1)]⟩),
 (150,⟨2,true, [.int .i64 0, .slice none 0 0], .struct [(0,1),(1,1)]⟩),
 (151,⟨2,true, [.int .i64 0, .slice none 0 0], .struct [(0,1),(1,1)]⟩),
 (162,⟨1,false, [.slice none 0 0], .slice 168 8⟩),
 (165,⟨3,true, [.int .i64 0, .int .i64 0, .slice none 0 0], .struct [(0,1),(1,1),(2,1)]⟩),
 (166,⟨3,true, [.int .i64 0, .int .i64 0, .slice none 0 0], .struct [(0,1),(1,1),(2,1)]⟩),
 (167,⟨8,true, [.int .i64 0, .int .i64 0, .int .i64 0, .int .i64 0, .int .i64 0, .int .i64 0, .int .i64 0, .slice none 0 0], .struct [(0,1),(1,1),(2,1),(3,1),(4,1),(5,3)]⟩),
 (168,⟨8,true, [.int .i64 0, .int .i64 0, .int .i64 0, .int .i64 0, .int .i64 0, .int .i64 0, .int .i64 0, .slice none 0 0], .struct [(0,1),(1,1),(2,1),(3,1),(4,1),(5,3)]⟩),
 (171,⟨1,false, [.pointer none], .other⟩),
 (176,⟨3,true, [.slice none 0 0, .int .i64 0, .int .i64 0], .struct [(0,1),(1,1),(2,1)]⟩),
 (177,⟨3,true, [.slice none 0 0, .int .i64 0, .int .i64 0], .struct [(0,1),(1,1),(2,1)]⟩),
 (185,⟨4,true, [.slice none 0 0, .slice none 0 0, .int .i64 0, .int .i64 0], .struct [(0,4)]⟩),
 (218,⟨3,true, [.int .i64 0, .int .i64 0, .slice none 0 0], .struct [(0,1),(1,1),(2,1)]⟩),
 (219,⟨3,true, [.int .i64 0, .int .i64 0, .slice none 0 0], .struct [(0,1),(1,1),(2,1)]⟩),
 (237,⟨1,false, [.int .u32 0], .int .u32⟩),
 (245,⟨1,false, [.pointer none], .other⟩),
 (266,⟨1,false, [.slice none 0 0], .slice 151 2⟩),
 (283,⟨1,false, [.pointer none], .other⟩),
 (286,⟨1,false, [.nilFunc], .other⟩),
 (289,⟨1,false, [.nilFunc], .other⟩),
 (297,⟨3,true, [.int .i64 0, .slice none 0 0, .slice none 0 0], .struct [(0,1),(1,1),(2,1)]⟩),
 (298,⟨3,true, [.int .i64 0, .slice none 0 0, .slice none 0 0], .struct [(0,1),(1,1),(2,1)]⟩),
 (303,⟨1,false, [.map none], .other⟩),
 (325,⟨1,false, [.nilFunc], .other⟩),
 (340,⟨0,true, [], .struct []⟩),
 (341,⟨0,true, [], .struct []⟩),
 (343,⟨3,true, [.int .i64 0, .int .i64 0, .slice none 0 0], .struct [(0,1),(1,1),(2,1)]⟩),
 (344,⟨3,true, [.int .i64 0, .int .i64 0, .slice none 0 0], .struct [(0,1),(1,1),(2,1)]⟩),
 (361,⟨2,true, [.int .u8 0, .int .u8 0], .struct [(0,1),(1,1)]⟩),
 (362,⟨2,true, [.int .u8 0, .int .u8 0], .struct [(0,1),(1,1)]⟩),
 (363,⟨32,true, [.int .u8 0, .int .u8 0, .int .u8 0, .int .u8 0, .int .u8 0, .int .u8 0, .int .u8 0, .int .u8 0, .int .u8 0, .int .u8 0, .int .u8 0, .int .u8 0, .int .u8 0, .int .u8 0, .int .u8 0, .int .u8 0, .int .u8 0, .int .u8 0, .int .u8 0, .int .u8 0, .int .u8 0, .int .u8 0, .int .u8 0, .int .u8 0, .int .u8 0, .int .u8 0, .int .u8 0, .int .u8 0, .int .u8 0, .int .u8 0, .int .u8 0, .int .u8 0], .arr 16 362 2⟩),
 (367,⟨1,false, [.int .u16 0], .int .u16⟩),
 (371,⟨1,false, [.int .u64 0], .int .u64⟩),
 (374,⟨4,true, [.pointer none, .pointer none, .pointer none, .string ⟨#[]⟩], .struct [(0,1),(1,1),(2,1),(3,1)]⟩),
 (375,⟨4,true, [.pointer none, .pointer none, .pointer none, .string ⟨#[]⟩], .struct [(0,1),(1,1),(2,1),(3,1)]⟩),
 (380,⟨1,false, [.int .u8 0], .int .u8⟩),
 (381,⟨1,false, [.int .u8 0], .int .u8⟩),
 (383,⟨1,false, [.pointer none], .other⟩),
 (384,⟨1,false, [.int .i32 0], .int .i32⟩),
 (385,⟨1,false, [.int .i32 0], .int .i32⟩),
 (389,⟨1,false, [.pointer none], .other⟩)]
theorem tys_ok:TOk Tryz.prog tys:=by
 refine⟨?_,?_,?_,?_,?_,?_,?_,?_,?_,?_,?_,?_,?_,?_,?_,?_,?_,?_,?_,?_,?_,?_,?_,?_,?_,?_,?_,?_,?_,?_,?_,?_,?_,?_,?_,?_,?_,?_,?_,?_,?_,?_,?_,?_,?_,?_,?_,?_,?_,?_,?_,?_,?_,?_,?_,?_,?_,?_,?_,?_,?_,?_,?_,?_,?_,?_,?_,?_,?_,?_,?_,?_,?_,?_,?_,?_,?_,?_,?_,?_,?_,?_,?_,?_,?_,?_,?_,?_,?_,?_,?_,?_,?_,?_,?_,?_,?_,?_,?_,?_,?_,?_,?_,?_,?_,?_,tv⟩ <;> (unfold TyOk;kernel_rfl)
theorem ri {A:AV} (c:Ctx) (v:Value) (h:Rd A c v):Rd A c v:=h
theorem Fn.st {f:FuncId} {fn:Func} {body:Code} {args:List AV} {K:AV→Prop} (hf:Tryz.prog.funcs[f]? = some fn) (hb:fn.body=some body) (h:Cp Tryz.prog tys fn.ntmps 0 body (Zn tys fn.results.toList K) (frOf 0 args) []) (hname:(fn.name == "runtime.NumGoroutine")=false:=by rfl) (hn:Nat.ble args.length fn.ntmps=true:=by rfl):Fn Tryz.prog f args K:=Fn.of tys_ok hf hb hname (Ag hn) h
def zT:=@Fn.st
theorem mixed:Tryz.prog.follows .mixedOrders=true:=by kernel_rfl
def bA (b:List UInt8):AV:= .sl 1 b.length fun i=> [.v (.int .u8 (b.getD i 0).toNat)]
def iA (l:List Int):AV:= .sl 1 l.length fun i=> [iv (l.getD i 0)]
def Dv (x:Img):List AV:= [iv x.zone,iv x.what,bA x.bytes]
def Ee (l:List Img):AV:= .sl 3 l.length fun i=>Dv (l.getD i ⟨0,0, []⟩)
def FQ (x:Rc):List AV:= [iv x.kind,iv x.seq,iv x.epoch,iv x.at_,iv x.of_,iv x.img.zone,iv x.img.what,bA x.img.bytes]
def RI (l:List Rc):AV:= .sl 8 l.length fun i=>FQ (l.getD i ⟨0,0,0,0,0,⟨0,0, []⟩⟩)
def Ba (g:Geo):List AV:= [iv g.z,iv g.d,iv g.sp,iv g.sl,iv g.an]

theorem wi {n:Int} (h : -9223372036854775808<=n/\n<=9223372036854775807):IntKind.i64.wrap n=n:=IntWalk.i64_in n h
theorem AR {k:Nat} (h:k<1000000000000):AV.v (.int .i64 (IntKind.i64.wrap ((k:Int)+1))) = iv ((k+1:Nat):Int):=by
 rw [wi (by omega)];try rfl

theorem IF {c:Ctx} {u:Value} {b:List UInt8} (h:Rd (bA b) c u):SlR c.w c.M u b:=by
 simp only [bA,Rd] at h;obtain⟨a,k,rfl,h1,h2,h3⟩:=h;refine⟨a,k,b.map fun x=> .int .u8 x.toNat,rfl,h1,h2,?_,fun hne=>?_⟩
 ·refine Elems.of_get (by simp [Rp.sz]) fun i x hx=>⟨[.int .u8 x.toNat],rfl,rfl,fun j hj=>?_⟩
  have hj:j<1:=hj;obtain rfl:j=0:=by omega
  simp [Rp.sz,hx]
 ·rcases h3 with h3 | ⟨bl,off,rfl,hm,hb,hc⟩
  ·exact absurd (Bc h3) hne
  ·refine⟨bl,off,rfl,hm,fun j u hu=>?_⟩;rw [AZ] at hu;cases hq:b[j]? with
   | none=>rw [hq] at hu;simp at hu
   | some x=>
    rw [hq] at hu;simp at hu;subst hu;have hlt:=(At.1 hq).1;have:=(hc j hlt).2;simp only [RdAt,Rd] at this;obtain⟨⟨u,e1,_,rfl⟩,_⟩:=this;rw [Nat.mul_one] at e1;rw [show b.getD j 0=x by rw [Ab,hq];try rfl] at e1;exact e1
theorem ofBytes {c:Ctx} {u:Value} {b:List UInt8} (h:SlR c.w c.M u b):Rd (bA b) c u:=by
 obtain⟨a,k,xs,rfl,h1,h2,h3,h4⟩:=h;simp only [bA,Rd];refine⟨a,k,rfl,h1,h2,?_⟩;by_cases hne:b=[]
 ·exact .inl (by rw [hne];try rfl)
 ·obtain⟨bl,off,rfl,hm,hc⟩:=h4 hne;have cell:∀ i,i<b.length->c.w.cell? ⟨bl,off+i,none⟩=some (.int .u8 (b.getD i 0).toNat):=by
   intro i hi;obtain⟨cs,e1,e2,e3⟩:=h3.get (Ae hi);have e2:cs=[.int .u8 b[i].toNat]:=e2;subst e2;have:=hc (i*1+0) _ ((e3 0 (by decide)).trans rfl);rw [show b.getD i 0=b[i] by rw [Ab,Ae hi];try rfl];simpa using this
  have h0:=cell 0 (D6.2 hne);refine .inr ⟨bl,off,rfl,hm,World.block_lt_of_cell? _ _ h0,fun i hi=>⟨rfl,?_⟩⟩;simp only [RdAt,Rd,Nat.mul_one,and_true];exact⟨_,cell i hi,rfl,rfl⟩
theorem XU {c0:Ctx} {w':World} {t:TypeId} {u:Value} {b:List UInt8} (h:OwR w' noM c0.w.heap.size t u b) (hM:∀ b,c0.M b->b<c0.w.heap.size):Rd (bA b) { c0 with w:=w' } u:=by
 refine ofBytes (c:={ c0 with w:=w' }) ?_;have h':OwR w' c0.M c0.w.heap.size t u b:=by
  obtain⟨xs,h1,h2⟩:=h;exact⟨xs,h1,h2.mono fun cs x _ h=>h⟩
 exact h'.sl fun b hb hm=>by have:=hM b hm;omega
theorem N1 {α:Type} {d:α} {a b:List α} {k:Nat} (h:a.take k=b.take k) (ha:k<a.length) (hb:k<b.length) (e:a.getD k d=b.getD k d):a.take (k+1)=b.take (k+1):=by
 rw [AN ha,AN hb,h];rw [Ab,Ab,Ae ha,Ae hb] at e;simp only [BE] at e;rw [e]
theorem QI {α:Type} {d:α} {a b:List α} {k:Nat} (e:a.getD k d≠b.getD k d):a≠b:=fun h=>e (by rw [h])
theorem QZ {α:Type} {a b:List α} {k:Nat} (h:a.take k=b.take k) (ha:a.length<=k) (hb:b.length<=k):a=b:=by
 rwa [Aw ha,Aw hb] at h
theorem XR {a b:UInt8}:((a.toNat:Int) != b.toNat)=(a != b):=by
 rw [Dt,bne_iff_ne,bne_iff_ne,ne_eq,ne_eq,Int.natCast_inj,UInt8.toNat_inj]

theorem A5 {α:Type} {d:α} {l:List α} {k:Nat} (h:k<l.length):l.getD k d∈l:=by
 rw [Ab,Ae h];exact Cy h
theorem Eu {α:Type} {d:α} {f:Nat->α} {n i:Nat} (h:i<n):((List.range n).map f).getD i d=f i:=by
 rw [Ab,AZ,Br h];try rfl
theorem Ia {α β:Type} {d:α} {f:α->β} {l:List α} {k:Nat} (h:k<l.length):(l.take (k+1)).map f=(l.take k).map f ++ [f (l.getD k d)]:=by
 rw [AN h,A0,Ab,Ae h];try rfl
theorem Me {α β:Type} {d:α} {e:β} {f:α->β} {l:List α} {k i:Nat} (h:i<l.length) (hk:i<k):((l.take k).map f).getD i e=f (l.getD i d):=by
 rw [Ab,Ab,AZ,BJ hk,Ae h];try rfl
theorem Rd.congr {c:Ctx} {sz n n':Nat} {get get':Nat->List AV} {u:Value} (hn:n=n') (hg:∀ i,i<n->get i=get' i) (h:Rd (.sl sz n get) c u):Rd (.sl sz n' get') c u:=by
 subst hn;simp only [Rd] at h |-
 obtain⟨a,k,rfl,h1,h2,h3⟩:=h;refine⟨a,k,rfl,h1,h2,h3.imp id ?_⟩;rintro⟨b,off,rfl,q1,q2,q3⟩;exact⟨b,off,rfl,q1,q2,fun i hi=>by rw [<-hg i hi];exact q3 i hi⟩
def zH:=@Rd.congr
theorem PN (a b:List UInt8) (ha:a.length<=100000000000):Fn Tryz.prog 14 [bA a,bA b] fun r=>r = .v (.bool (decide (a=b))):=by
 refine Fn.of tys_ok Tryz.func14 rfl rfl (by show 2<=26;decide) ?_;conv=>whnf
 refine Am (fun h=>?_) (fun h=>?_) <;> conv=>whnf
 ·exact⟨_,ri,by simp at h;rw [decide_eq_false (fun e=>h (by rw [e]))]⟩
 simp at h;refine zP Nat (fun k=>([(0,bA a),(1,bA b),(5,iv k)], [])) (fun k=>k<=a.length/\a.take k=b.take k) (fun k=>a.length - k) 0 ⟨Aj _,by simp⟩ ⟨[],tv,tA,tv,rfl,rfl,rfl⟩ ?_;rintro k ⟨hk,hI⟩;conv=>whnf
 refine Am (fun h2=>?_) (fun h2=>?_) <;> simp at h2 <;> conv=>whnf
 ·refine zJ tys_ok mixed (by kernel_rfl) ?_;refine⟨⟨by omega,by omega⟩,?_⟩;refine⟨⟨by omega,by omega⟩,?_⟩;conv=>whnf
  refine Am (fun h3=>?_) (fun h3=>?_) <;> conv=>whnf
  ·exact⟨_,ri,by simp only [XR,bne_iff_ne,Aa] at h3;rw [decide_eq_false (QI h3)]⟩
  ·simp only [XR,bne_eq_false_iff_eq,Aa] at h3;exact⟨k+1,⟨by omega,N1 hI (by omega) (by omega) h3⟩,by omega,⟨[],tv,⟨rfl,rfl,AR (by omega),tv⟩,tv,rfl,rfl,rfl⟩⟩
 ·exact⟨_,ri,by rw [decide_eq_true (QZ hI (by omega) (by omega))]⟩
theorem Fh (b:List UInt8) (hb:b.length<=1000000000):Fn Tryz.prog 62 [bA b] fun r=>r=bA b:=by
 refine Fn.of tys_ok Tryz.func62 rfl rfl (by show 1<=7;decide) ?_;refine⟨hb,?_⟩;refine⟨by simp,?_⟩;exact⟨bA b,fun c v h=>zH rfl (fun i hi=>Eu hi) h,rfl⟩
theorem V2 (x y:Img) (hx:x.bytes.length<=100000000000):Fn Tryz.prog 190 [.ag (Dv x), .ag (Dv y)] fun r=>r = .v (.bool (decide (x=y))):=by
 obtain⟨x1,x2,x3⟩:=x;obtain⟨y1,y2,y3⟩:=y;refine Fn.of tys_ok Tryz.func190 rfl rfl (by show 2<=24;decide) ?_;conv=>whnf
 repeat' (first | (refine Am (fun h=>?_) (fun h=>?_) <;> simp at h <;> conv=>whnf) | (refine z_ (PN x3 y3 hx) ?_;conv=>whnf))
 all_goals exact⟨_,ri,by simp [*]⟩
theorem Mb (l:List Img) (hl:l.length<=1000000) (hb:∀ x∈l,x.bytes.length<=1000000000):Fn Tryz.prog 134 [Ee l] fun r=>r=Ee l:=by
 refine Fn.of tys_ok Tryz.func134 rfl rfl (by show 1<=32;decide) ?_;conv=>whnf
 refine zP Nat (fun k=>([(0,Ee l),(3, .ow 0 k),(4,iv k)], [.row 166 3 ((l.take k).map Dv)])) (fun k=>k<=l.length) (fun k=>l.length - k) 0 (Aj _) ⟨[(3,166,3)],tA,tA,tA,rfl,rfl,rfl⟩ ?_;rintro k hk;conv=>whnf
 refine Am (fun h2=>?_) (fun h2=>?_) <;> simp at h2 <;> conv=>whnf
 ·refine zJ tys_ok mixed (by kernel_rfl) ?_;refine⟨⟨by omega,by omega⟩,?_⟩;refine⟨⟨by omega,by omega⟩,?_⟩;refine⟨⟨by omega,by omega⟩,?_⟩;conv=>whnf
  refine zM (Fh (l.getD k ⟨0,0, []⟩).bytes (hb _ (A5 h2))) rfl ?_;rintro _ rfl;refine⟨rfl,?_⟩;conv=>whnf
  refine⟨⟨by simp;omega,by omega⟩,?_⟩;exact⟨k+1,by omega,by omega, [],tv,⟨rfl,rfl,AR (by omega),tv⟩,⟨congrArg (AB.row _ _) (Ia h2),tv⟩,rfl,rfl,rfl⟩
 ·refine⟨by simp;omega,?_⟩;exact⟨Ee l,fun c v h=>zH (by omega) (fun i hi=>Me (by omega) (by omega)) h,rfl⟩
structure Gt where
 err:Int
 bytes:List UInt8
 deriving DecidableEq
structure Sec where
 addr:Int
 stamp:Int
 pay:List UInt8
 deriving DecidableEq
structure Wr where
 addr:Int
 bytes:List UInt8
 deriving DecidableEq
structure Tx where
 seq:Int
 pos:Int
 n:Int
 images:List Img
 deriving DecidableEq
structure Hm where
 places:List Int
 next:Int
 root:Int
 deriving DecidableEq
structure An where
 gen:Int
 epoch:Int
 pos:Int
 seq:Int
 last:Int
 label:ByteArray
 homes:List Hm
 deriving DecidableEq
instance:Inhabited Gt:=⟨⟨0, []⟩⟩
instance:Inhabited Wr:=⟨⟨0, []⟩⟩
instance:Inhabited Tx:=⟨⟨0,0,0, []⟩⟩
instance:Inhabited Hm:=⟨⟨[],0,0⟩⟩
def DB (x:Gt):List AV:= [iv x.err,bA x.bytes]
def FG (l:List Gt):AV:= .sl 2 l.length fun i=>DB (l.getD i ⟨0, []⟩)
def N7 (x:Sec):List AV:= [iv x.addr,iv x.stamp,bA x.pay]
def DR (x:Wr):List AV:= [iv x.addr,bA x.bytes]
def Ma (l:List Wr):AV:= .sl 2 l.length fun i=>DR (l.getD i ⟨0, []⟩)
def Eb (x:Tx):List AV:= [iv x.seq,iv x.pos,iv x.n,Ee x.images]
def Eg (l:List Tx):AV:= .sl 4 l.length fun i=>Eb (l.getD i ⟨0,0,0, []⟩)
def Jq (x:Hm):List AV:= [iA x.places,iv x.next,iv x.root]
def Ku (l:List Hm):AV:= .sl 3 l.length fun i=>Jq (l.getD i ⟨[],0,0⟩)
def EJ (x:An):List AV:= [iv x.gen,iv x.epoch,iv x.pos,iv x.seq,iv x.last, .v (.string x.label),Ku x.homes]

theorem UW (s:ByteArray) (hv:Fn Tryz.prog 270 [.v (.string s)] fun r=>r = .v (.bool (Lib.validD s.data.toList))):Fn Tryz.prog 244 [.v (.string s)] fun r=>r = .v (.bool (SQ s.data.toList&&Lib.validD s.data.toList)):=by
 refine zT Tryz.func244 rfl ?_;conv=>whnf
 refine zP Nat (fun p=>([(0, .v (.string s)),(6, .bp 0 0)], [.iter s p])) (fun p=>SQ s.data.toList=SQ (s.data.toList.drop p)) (fun p=>s.size - p) 0 rfl ⟨[],tv,tA,tA,rfl,rfl,rfl⟩ ?_;intro p hI;conv=>whnf
 have hd:=Kj s p;refine Am (fun hp=>?_) (fun hp=>?_) <;> simp only [decide_eq_true_eq,decide_eq_false_iff_not] at hp <;> conv=>whnf
 ·have hne:¬s.data.toList.drop p=[]:=by
   intro e;have:=congrArg List.length e;rw [Ak,Er] at this;simp at this;omega
  have hstep:=Lo _ hne;rw [<-hd] at hstep;have hw:1<=(Utf8.decode s p).2:=by rw [hd];exact Lib.decodeL_width _
  refine Am (fun h1=>?_) (fun h1=>?_) <;> simp at h1 <;> conv=>whnf
  ·have h1':(Utf8.decode s p).1<32:=by omega
   exact⟨_,ri,by rw [hI,hstep];simp [Mn,h1']⟩
  refine Am (fun h2=>?_) (fun h2=>?_) <;> simp at h2 <;> conv=>whnf
  ·exact⟨_,ri,by rw [hI,hstep];simp [Mn];omega⟩
  ·refine⟨p+(Utf8.decode s p).2,?_,by omega, [],tv,tA,tA,rfl,rfl,rfl⟩;rw [hI,hstep,AT];simp [Mn];omega
 ·have hnil:s.data.toList.drop p=[]:=AG (by rw [Er];omega);refine z_ hv ?_;conv=>whnf
  exact⟨_,ri,by rw [hI,hnil,okW_nil];try rfl⟩
theorem UG (s:ByteArray) (hs:s.size<=1000000):Fn Tryz.prog 245 [.v (.string s)] fun r=>r = iv (E9 s.data.toList):=by
 refine zT Tryz.func245 rfl ?_;conv=>whnf
 refine zP (Nat × Nat) (fun q=>([(3,iv q.2),(5, .bp 0 0)], [.iter s q.1])) (fun q=>E9 s.data.toList=q.2+E9 (s.data.toList.drop q.1)/\q.2<=q.1/\q.2<=s.size) (fun q=>s.size - q.1) (0,0) ⟨by simp,Ah _,Aj _⟩ ⟨[],tv,tA,tA,rfl,rfl,rfl⟩ ?_;rintro⟨p,n⟩ ⟨hI,hn,hn2⟩;conv=>whnf
 have hd:=Kj s p;refine Am (fun hp=>?_) (fun hp=>?_) <;> simp only [decide_eq_true_eq,decide_eq_false_iff_not] at hp <;> conv=>whnf
 ·have hne:¬s.data.toList.drop p=[]:=by
   intro e;have:=congrArg List.length e;rw [Ak,Er] at this;simp at this;omega
  have hstep:=Hi _ hne;rw [<-hd] at hstep;have hw:1<=(Utf8.decode s p).2:=by rw [hd];exact Lib.decodeL_width _
  refine⟨(p+(Utf8.decode s p).2,n+1),⟨?_,?_,?_⟩,?_, [],tv,⟨AR ?_,rfl,tv⟩,tA,rfl,rfl,rfl⟩
  ·simp only at hI |-
   rw [hI,hstep,AT];omega
  ·simp only at hn |-;omega
  ·simp only at hn |-;omega
  ·simp only;omega
  ·simp only at hn2;omega
 ·have hnil:s.data.toList.drop p=[]:=AG (by rw [Er];omega);exact⟨_,ri,by simp only at hI;rw [hI,hnil,runesW_nil];try rfl⟩
theorem SZ (s:ByteArray) (hs:s.size<=1000000) (hv:Fn Tryz.prog 270 [.v (.string s)] fun r=>r = .v (.bool (Lib.validD s.data.toList))):Fn Tryz.prog 195 [.v (.string s)] fun r=>r = iv (FF s.data.toList):=by
 refine zT Tryz.func195 rfl ?_;conv=>whnf
 refine z_ (UW s hv) ?_;conv=>whnf
 refine Am (fun h=>?_) (fun h=>?_) <;> conv=>whnf
 ·exact⟨_,ri,by simp only [FF,h,if_true]⟩
 refine z_ (UG s hs) ?_;conv=>whnf
 refine Am (fun h2=>?_) (fun h2=>?_) <;> simp at h2 <;> conv=>whnf
 ·exact⟨_,ri,by simp only [FF,h];rw [if_neg (by simp),if_pos (by omega)]⟩
 ·exact⟨_,ri,by simp only [FF,h];rw [if_neg (by simp),if_neg (by omega)]⟩
end
end Go.Proofs.YtepdhdfoipephaaGreatDoor.A
section
namespace Go.Proofs
open Go.RowKit Go.Shelf Go.Lib

def Tryz.laysValid_ren:Go.Shelf.Ren:=⟨fun | 196=>270 | 259=>283 | n=>n,fun | 9=>9 | 4=>4 | 3=>3 | 5=>5 | 12=>12 | 119=>360 | 0=>0 | 46=>29 | 139=>363 | 138=>362 | 53=>371 | n=>n,fun | 3=>0 | 4=>1 | n=>n⟩
theorem Tryz.laysValid:Go.Proofs.Lays.n196 Tryz.prog Tryz.laysValid_ren where
 mixed:=by kernel_rfl
 f196:=Tryz.func270.trans (congrArg some (by kernel_rfl))
 f259:=Tryz.func283.trans (congrArg some (by kernel_rfl))
 t0:=Tryz.underlying0
 a0:=Tryz.isAgg0
 z0:=Tryz.sizeOf0
 v0:=Tryz.zeroValue0
 t3:=Tryz.underlying3
 a3:=Tryz.isAgg3
 z3:=Tryz.sizeOf3
 v3:=Tryz.zeroValue3
 t4:=Tryz.underlying4
 a4:=Tryz.isAgg4
 z4:=Tryz.sizeOf4
 v4:=Tryz.zeroValue4
 t5:=Tryz.underlying5
 a5:=Tryz.isAgg5
 z5:=Tryz.sizeOf5
 v5:=Tryz.zeroValue5
 t9:=Tryz.underlying9
 a9:=Tryz.isAgg9
 z9:=Tryz.sizeOf9
 v9:=Tryz.zeroValue9
 t12:=Tryz.underlying12
 a12:=Tryz.isAgg12
 z12:=Tryz.sizeOf12
 v12:=Tryz.zeroValue12
 t46:=Tryz.underlying29
 a46:=Tryz.isAgg29
 z46:=Tryz.sizeOf29
 v46:=Tryz.zeroValue29
 t53:=Tryz.underlying371
 a53:=Tryz.isAgg371
 z53:=Tryz.sizeOf371
 v53:=Tryz.zeroValue371
 t119:=Tryz.underlying360
 a119:=Tryz.isAgg360
 z119:=Tryz.sizeOf360
 t138:=Tryz.underlying362
 a138:=Tryz.isAgg362
 z138:=Tryz.sizeOf362
 v138:=Tryz.zeroValue362
 t139:=Tryz.underlying363
 a139:=Tryz.isAgg363
 z139:=Tryz.sizeOf363
 v139:=Tryz.zeroValue363
 g3:=by kernel_rfl
 g4:=by kernel_rfl
end Go.Proofs
namespace Go.Proofs.YtepdhdfoipephaaGreatDoor.A
open Go.RowKit

theorem Ur (s:ByteArray) (hs:s.size<=1000000):Fn Tryz.prog 270 [.v (.string s)] fun r=>r = .v (.bool (Lib.validD s.data.toList)):=by
 refine⟨⟨_,Tryz.func270,rfl,by decide⟩,fun c0 us hd hM hg hr=>?_⟩;simp only [RdL,Rd] at hr;obtain⟨u,l,rfl,rfl,rfl⟩:=hr;have hT:Lib.Utf8Tabs (Tryz.laysValid_ren.g 3) (Tryz.laysValid_ren.g 4) c0.w:=hg;refine Calls.mono (show Calls Tryz.prog 270 #[.string s] c0.w _ from Any.utf8_ValidString Tryz.laysValid s c0.w (by omega) hT) ?_;rintro e w' ⟨rfl,hb⟩;exact⟨_,_,rfl,rfl,hb,by simp [Rd]⟩
theorem QN (s:ByteArray) (hs:s.size<=1000000):Fn Tryz.prog 195 [.v (.string s)] fun r=>r = iv (FF s.data.toList):=SZ s hs (Ur s hs)
end Go.Proofs.YtepdhdfoipephaaGreatDoor.A
end
namespace Go.Proofs.YtepdhdfoipephaaGreatDoor.A
section
open Go.RowKit
def Jj (a:Nat):Nat:=if 192<=a/\a<224 then 2 else if 224<=a/\a<240 then 3 else if 240<=a/\a<248 then 4 else 0
def rb (k a:Nat):Int:=if k=2 then (a:Int) - 192 else if k=3 then (a:Int) - 224 else if k=4 then (a:Int) - 240 else 0
def lb (k:Nat):Int:=if k=2 then 128 else if k=3 then 2048 else if k=4 then 65536 else 0
def MB (a0:Int) (l:List UInt8):Nat->Int
 | 0=>a0
 | 1=>a0
 | n+2=>64*MB a0 l (n+1)+(l.getD (n+1) 0).toNat - 128
def EI (k:Nat) (r:Int):Prop:=r<lb k\/r > 1114111\/(55296<=r/\r<57344)
def E7 (l:List UInt8):Int:=if Ck l then 0 else (Lib.decodeL l).2
def Fp (l:List UInt8):Int:=if Ck l then 0 else (Lib.decodeL l).1
theorem Qt {l:List UInt8} (h:(l.getD 0 0).toNat<128):E7 l=1/\Fp l=(l.getD 0 0).toNat:=by
 have e:Lib.decodeL l=((l.getD 0 0).toNat,1):=by rw [Lib.decodeL_N];unfold Lib.decodeN;rw [if_pos h]
 have hi:Ck l=false:=by simp only [Ck,e];rw [decide_eq_false];omega
 simp [E7,Fp,hi,e]
theorem MA {l:List UInt8} (h:128<=(l.getD 0 0).toNat) (hk:Jj (l.getD 0 0).toNat=0\/l.length<Jj (l.getD 0 0).toNat):E7 l=0/\Fp l=0:=by
 have e:Lib.decodeL l=(65533,1):=by
  rw [Lib.decodeL_N];unfold Jj at hk;unfold Lib.decodeN;generalize (l.getD 0 0).toNat=a at *
  repeat' split
  all_goals first | rfl | (exfalso;split at hk <;> (try split at hk) <;> (try split at hk) <;> omega)
 have hi:Ck l=true:=by simp [Ck,e]
 simp [E7,Fp,hi]
theorem OF {l:List UInt8} {j:Nat} (h:128<=(l.getD 0 0).toNat) (h1:1<=j) (hj:j<Jj (l.getD 0 0).toNat) (hb:(l.getD j 0).toNat<128\/192<=(l.getD j 0).toNat):E7 l=0/\Fp l=0:=by
 have e:Lib.decodeL l=(65533,1):=by
  rw [Lib.decodeL_N];unfold Jj at hj;unfold Lib.decodeN;have hj':j=1\/j=2\/j=3:=by
   split at hj <;> (try split at hj) <;> (try split at hj) <;> omega
  generalize (l.getD 0 0).toNat=a at *
  rcases hj' with rfl | rfl | rfl
  all_goals
   repeat' split
   all_goals first | rfl | (exfalso;split at hj <;> (try split at hj) <;> (try split at hj) <;> omega)
 have hi:Ck l=true:=by simp [Ck,e]
 simp [E7,Fp,hi]
theorem Qs {l:List UInt8} (_h:128<=(l.getD 0 0).toNat) (h0:Jj (l.getD 0 0).toNat≠0) (hl:Jj (l.getD 0 0).toNat<=l.length) (hb:∀ j,1<=j->j<Jj (l.getD 0 0).toNat->128<=(l.getD j 0).toNat/\(l.getD j 0).toNat<192) :
  (EI (Jj (l.getD 0 0).toNat) (MB (rb (Jj (l.getD 0 0).toNat) (l.getD 0 0).toNat) l (Jj (l.getD 0 0).toNat))->E7 l=0/\Fp l=0)/\
  (¬EI (Jj (l.getD 0 0).toNat) (MB (rb (Jj (l.getD 0 0).toNat) (l.getD 0 0).toNat) l (Jj (l.getD 0 0).toNat))->E7 l=Jj (l.getD 0 0).toNat/\Fp l=MB (rb (Jj (l.getD 0 0).toNat) (l.getD 0 0).toNat) l (Jj (l.getD 0 0).toNat)):=by
 have hd:=Lib.decodeL_N l;generalize (l.getD 0 0).toNat=a at *
 have hk:(192<=a/\a<224/\Jj a=2)\/(224<=a/\a<240/\Jj a=3)\/(240<=a/\a<248/\Jj a=4):=by
  unfold Jj at h0 |-
  repeat' split at h0
  all_goals first | (exfalso;omega) | skip
  all_goals (repeat' split) <;> omega
 rcases hk with ⟨q1,q2,e⟩ | ⟨q1,q2,e⟩ | ⟨q1,q2,e⟩
 ·rw [e] at hb hl |-
  have b1:=hb 1 (by omega) (by omega);have er:MB (rb 2 a) l 2=64*((a:Int) - 192)+(l.getD 1 0).toNat - 128:=rfl;rw [er];generalize hv:64*(a - 192)+(l.getD 1 0).toNat - 128=v at *
  have hN:Lib.decodeL l=if v>=128 then (v,2) else (65533,1):=by
   rw [hd];unfold Lib.decodeN;rw [if_neg (by omega),if_pos (by omega),show a % 32*64+(l.getD 1 0).toNat % 64=v by omega]
  have ev:64*((a:Int) - 192)+(l.getD 1 0).toNat - 128=(v:Int):=by omega
  have hv2:v<=2047:=by omega
  rw [ev];refine⟨fun hbad=>?_,fun hok=>?_⟩
  ·rw [if_neg (by simp only [EI,lb] at hbad;simp at hbad;omega)] at hN;simp [E7,Fp,Ck,hN]
  ·rw [if_pos (by simp only [EI,lb] at hok;simp at hok;omega)] at hN;have hi:Ck l=false:=by simp [Ck,hN]
   simp [E7,Fp,hi,hN]
 ·rw [e] at hb hl |-
  have b1:=hb 1 (by omega) (by omega);have b2:=hb 2 (by omega) (by omega);have er:MB (rb 3 a) l 3=64*(64*((a:Int) - 224)+(l.getD 1 0).toNat - 128)+(l.getD 2 0).toNat - 128:=rfl;rw [er];generalize hv:64*(64*(a - 224)+(l.getD 1 0).toNat - 128)+(l.getD 2 0).toNat - 128=v at *
  have hN:Lib.decodeL l=if v>=2048/\(v<55296\/(57344<=v/\v<=1114111)) then (v,3) else (65533,1):=by
   rw [hd];unfold Lib.decodeN;rw [if_neg (by omega),if_neg (by omega),if_pos (by omega),show a % 16*4096+(l.getD 1 0).toNat % 64*64+(l.getD 2 0).toNat % 64=v by omega]
  have ev:64*(64*((a:Int) - 224)+(l.getD 1 0).toNat - 128)+(l.getD 2 0).toNat - 128=(v:Int):=by omega
  rw [ev];refine⟨fun hbad=>?_,fun hok=>?_⟩
  ·rw [if_neg (by simp only [EI,lb] at hbad;simp at hbad;omega)] at hN;simp [E7,Fp,Ck,hN]
  ·rw [if_pos (by simp only [EI,lb] at hok;simp at hok;omega)] at hN;have hi:Ck l=false:=by simp [Ck,hN]
   simp [E7,Fp,hi,hN]
 ·rw [e] at hb hl |-
  have b1:=hb 1 (by omega) (by omega);have b2:=hb 2 (by omega) (by omega);have b3:=hb 3 (by omega) (by omega);have er:MB (rb 4 a) l 4=64*(64*(64*((a:Int) - 240)+(l.getD 1 0).toNat - 128)+(l.getD 2 0).toNat - 128)+(l.getD 3 0).toNat - 128:=rfl;rw [er];generalize hv:64*(64*(64*(a - 240)+(l.getD 1 0).toNat - 128)+(l.getD 2 0).toNat - 128)+(l.getD 3 0).toNat - 128=v at *
  have hN:Lib.decodeL l=if v>=65536/\(v<55296\/(57344<=v/\v<=1114111)) then (v,4) else (65533,1):=by
   rw [hd];unfold Lib.decodeN;rw [if_neg (by omega),if_neg (by omega),if_neg (by omega),if_pos (by omega),show a % 8*262144+(l.getD 1 0).toNat % 64*4096+(l.getD 2 0).toNat % 64*64+(l.getD 3 0).toNat % 64=v by omega]
  have ev:64*(64*(64*((a:Int) - 240)+(l.getD 1 0).toNat - 128)+(l.getD 2 0).toNat - 128)+(l.getD 3 0).toNat - 128=(v:Int):=by omega
  rw [ev];refine⟨fun hbad=>?_,fun hok=>?_⟩
  ·rw [if_neg (by simp only [EI,lb] at hbad;simp at hbad;omega)] at hN;simp [E7,Fp,Ck,hN]
  ·rw [if_pos (by simp only [EI,lb] at hok;simp at hok;omega)] at hN;have hi:Ck l=false:=by simp [Ck,hN]
   simp [E7,Fp,hi,hN]
theorem Yc {k:Nat} (h:k<9223372036854775807):AV.v (.int .i64 (IntKind.i64.wrap ((k:Int)+1))) = iv ((k+1:Nat):Int):=by
 rw [wi (by omega)];try rfl
theorem UH (s:ByteArray) (h0:0<s.size) (hs:s.size<=9223372036854775807):Fn Tryz.prog 210 [.v (.string s)] fun r=>r = .tp [iv (E7 s.data.toList),iv (Fp s.data.toList)]:=by
 refine zT Tryz.func210 rfl ?_;refine⟨⟨by omega,by omega⟩,?_⟩;conv=>whnf
 obtain⟨a,ha⟩:∃ a,a=(s.data.toList.getD 0 0).toNat:=⟨_,rfl⟩;have hal:a<256:=by rw [ha];exact UInt8.toNat_lt _
 have hw:IntKind.i64.wrap (((s.data.toList.getD (Int.toNat 0) 0).toNat:Nat):Int)=a:=by rw [show Int.toNat 0=0 from rfl,<-ha];exact wi (by omega)
 refine aSeq.cut Nat (fun k=>([(0, .v (.string s)),(5,iv k),(6,iv (rb k a)),(7,iv (lb k))], [])) (fun k=>k=Jj a/\128<=a) ?_ ?_
 ·conv=>whnf
  refine Am (fun h1=>?_) (fun h1=>?_) <;> simp only [hw,decide_eq_true_eq,decide_eq_false_iff_not] at h1 <;> conv=>whnf
  ·obtain⟨e1,e2⟩:=Qt (l:=s.data.toList) (by omega);exact⟨_,ri,by rw [e1,e2,hw,ha]⟩
  repeat' (refine Am (fun h=>?_) (fun h=>?_) <;> simp only [hw,decide_eq_true_eq,decide_eq_false_iff_not,ge_iff_le] at h <;> conv=>whnf)
  all_goals first
   | (exfalso;omega)
   | exact⟨2,⟨by unfold Jj;rw [if_pos (by omega)],by omega⟩, [],tv,⟨rfl,rfl,by rw [hw];exact congrArg (fun n=>AV.v (.int .i64 n)) (wi (by omega)),rfl,tv⟩,tv,rfl,rfl,rfl⟩
   | exact⟨3,⟨by unfold Jj;rw [if_neg (by omega),if_pos (by omega)],by omega⟩, [],tv,⟨rfl,rfl,by rw [hw];exact congrArg (fun n=>AV.v (.int .i64 n)) (wi (by omega)),rfl,tv⟩,tv,rfl,rfl,rfl⟩
   | exact⟨4,⟨by unfold Jj;rw [if_neg (by omega),if_neg (by omega),if_pos (by omega)],by omega⟩, [],tv,⟨rfl,rfl,by rw [hw];exact congrArg (fun n=>AV.v (.int .i64 n)) (wi (by omega)),rfl,tv⟩,tv,rfl,rfl,rfl⟩
   | exact⟨0,⟨by unfold Jj;rw [if_neg (by omega),if_neg (by omega),if_neg (by omega)],by omega⟩, [],tv,tA,tv,rfl,rfl,rfl⟩
 ·rintro k ⟨hk,ha2⟩;obtain⟨l,hl⟩:∃ l,l=s.data.toList:=⟨_,rfl⟩;have hll:l.length=s.size:=by rw [hl,Er]
  rw [<-hl] at ha |-
  have h128:128<=(l.getD 0 0).toNat:=by omega
  have hk':k=Jj (l.getD 0 0).toNat:=by rw [hk,ha]
  have hk4:k<=4:=by rw [hk];unfold Jj;(repeat' split) <;> omega
  conv=>whnf
  refine Am (fun h1=>?_) (fun h1=>?_) <;> simp at h1 <;> conv=>whnf
  ·obtain⟨e1,e2⟩:=MA h128 (.inl (by omega));exact⟨_,ri,by rw [e1,e2]⟩
  refine Am (fun h2=>?_) (fun h2=>?_) <;> simp only [decide_eq_true_eq,decide_eq_false_iff_not] at h2 <;> conv=>whnf
  ·obtain⟨e1,e2⟩:=MA h128 (.inr (by omega));exact⟨_,ri,by rw [e1,e2]⟩
  have hrb:0<=rb k a/\rb k a<=31:=by
   rw [hk];unfold rb Jj;repeat' split
   all_goals omega
  refine zP Nat (fun i=>([(0, .v (.string s)),(5,iv k),(6,iv (MB (rb k a) l i)),(7,iv (lb k)),(8,iv i)], [])) (fun i=>1<=i/\i<=k/\0<=MB (rb k a) l i/\(i=1->MB (rb k a) l i<=31)/\(i=2->MB (rb k a) l i<=2047)/\(i=3->MB (rb k a) l i<=131071)/\(i=4->MB (rb k a) l i<=8388607)/\∀ j,1<=j->j<i->128<=(l.getD j 0).toNat/\(l.getD j 0).toNat<192) (fun i=>k - i) 1 ⟨Ah _,by omega,hrb.1,fun _=>hrb.2,by omega,by omega,by omega,by omega⟩ ⟨[],tv,tA,tv,rfl,rfl,rfl⟩ ?_;rintro i ⟨hi1,hik,hr0,hr1,hr2,hr3,hr4,hI⟩;conv=>whnf
  refine Am (fun h3=>?_) (fun h3=>?_) <;> simp only [decide_eq_true_eq,decide_eq_false_iff_not] at h3 <;> conv=>whnf
  ·refine⟨⟨by omega,by omega⟩,?_⟩;conv=>whnf
   obtain⟨b,hb⟩:∃ b,b=(l.getD i 0).toNat:=⟨_,rfl⟩;have hbl:b<256:=by rw [hb];exact UInt8.toNat_lt _
   have hwb:IntKind.i64.wrap (((s.data.toList.getD (Int.toNat (i:Int)) 0).toNat:Nat):Int)=b:=by rw [Aa,<-hl,<-hb];exact wi (by omega)
   refine Am (fun h4=>?_) (fun h4=>?_) <;> simp only [hwb,decide_eq_true_eq,decide_eq_false_iff_not] at h4 <;> conv=>whnf
   ·obtain⟨e1,e2⟩:=OF (j:=i) h128 hi1 (by omega) (.inl (by omega));exact⟨_,ri,by rw [e1,e2]⟩
   refine Am (fun h5=>?_) (fun h5=>?_) <;> simp only [hwb,decide_eq_true_eq,decide_eq_false_iff_not] at h5 <;> conv=>whnf
   ·obtain⟨e1,e2⟩:=OF (j:=i) h128 hi1 (by omega) (.inr (by omega));exact⟨_,ri,by rw [e1,e2]⟩
   have hst:MB (rb k a) l (i+1)=64*MB (rb k a) l i+b - 128:=by
    obtain⟨m,rfl⟩:∃ m,i=m+1:=⟨i - 1,by omega⟩;rw [hb];try rfl
   have hR:MB (rb k a) l i<=131071:=by
    rcases(show i=1\/i=2\/i=3 by omega) with e | e | e
    ·have:=hr1 e;omega
    ·have:=hr2 e;omega
    ·exact hr3 e
   refine⟨i+1,⟨by omega,by omega,by omega,by omega,fun e=>?_,fun e=>?_,fun e=>?_,fun j h1 h2=>?_⟩,by omega, [],tv,⟨rfl,rfl,?_,rfl,AR (by omega),tv⟩,tv,rfl,rfl,rfl⟩
   ·have:=hr1 (by omega);omega
   ·have:=hr2 (by omega);omega
   ·have:=hr3 (by omega);omega
   ·rcases BU j i with h | h
    ·exact hI j h1 h
    ·obtain rfl:j=i:=by omega
     rw [<-hb];omega
   ·rw [hwb,hst,wi (n:=64*MB (rb k a) l i) (by omega),wi (n:=64*MB (rb k a) l i+b) (by omega),wi (n:=64*MB (rb k a) l i+b - 128) (by omega)];try rfl
  ·obtain rfl:i=k:=by omega
   have hW:=Qs h128 (by omega) (by omega) (fun j h1 h2=>hI j h1 (by omega));rw [<-hk',<-ha] at hW;by_cases hbad:EI i (MB (rb i a) l i)
   ·obtain⟨e1,e2⟩:=hW.1 hbad;unfold EI at hbad;repeat' (refine Am (fun h=>?_) (fun h=>?_) <;> simp only [decide_eq_true_eq,decide_eq_false_iff_not,ge_iff_le,gt_iff_lt] at h <;> conv=>whnf)
    all_goals first | (exfalso;omega) | exact⟨_,ri,by rw [e1,e2]⟩
   ·obtain⟨e1,e2⟩:=hW.2 hbad;unfold EI at hbad;repeat' (refine Am (fun h=>?_) (fun h=>?_) <;> simp only [decide_eq_true_eq,decide_eq_false_iff_not,ge_iff_le,gt_iff_lt] at h <;> conv=>whnf)
    all_goals first | (exfalso;omega) | exact⟨_,ri,by rw [e1,e2]⟩
theorem MC (s:ByteArray) (hs:s.size<=9223372036854775807):Fn Tryz.prog 141 [.v (.string s)] fun r=>r = iv (FF s.data.toList):=by
 refine zT Tryz.func141 rfl ?_;conv=>whnf
 refine zP (Nat × Nat) (fun q=>([(0, .v (.string s)),(3,iv q.2),(4,iv q.1)], [])) (fun q=>FF s.data.toList=Iu (s.data.toList.drop q.1) q.2/\q.1<=s.size/\q.2<=q.1) (fun q=>s.size - q.1) (0,0) ⟨by rw [<-MS];try rfl,Aj _,Ah _⟩ ⟨[],tv,tA,tv,rfl,rfl,rfl⟩ ?_;rintro⟨p,n⟩ ⟨hI,hp,hn⟩;simp only at hI hp hn;conv=>whnf
 refine Am (fun h1=>?_) (fun h1=>?_) <;> simp only [decide_eq_true_eq,decide_eq_false_iff_not] at h1 <;> conv=>whnf
 ·refine⟨⟨by simp only;omega,by simp only;omega,by omega⟩,?_⟩;conv=>whnf
  have hx:(s.extract p s.size).data.toList=s.data.toList.drop p:=Lib.extract_to_end s p;have hxs:(s.extract p s.size).size=s.size - p:=by rw [<-Er,hx,Ak,Er]
  have hr:=UH (s.extract p s.size) (by omega) (by omega);rw [hx] at hr;refine z_ hr ?_;conv=>whnf
  have hne:¬s.data.toList.drop p=[]:=by
   intro e;have:=congrArg List.length e;rw [Ak,Er] at this;simp at this;omega
  have hstep:Iu (s.data.toList.drop p) n=if Ck (s.data.toList.drop p) || Mn (Lib.decodeL (s.data.toList.drop p)).1 then 3 else Iu ((s.data.toList.drop p).drop (Lib.decodeL (s.data.toList.drop p)).2) (n+1):=by rw [Iu,dif_neg hne]
  have hw:=Lib.decodeL_width (s.data.toList.drop p);obtain⟨D,hD⟩:∃ D,D=s.data.toList.drop p:=⟨_,rfl⟩;rw [<-hD] at hstep hw hI |-
  have hwl:(Lib.decodeL D).2<=D.length:=by
   have hpos:0<D.length:=by rw [hD,Ak,Er];omega
   rw [Lib.decodeL_N];unfold Lib.decodeN;repeat' split
   all_goals (simp only;omega)
  cases hinv:Ck D with
  | true=>
   have e1:E7 D=0:=by simp [E7,hinv]
   rw [hinv,Bool.true_or,if_pos rfl] at hstep;refine Am (fun h2=>?_) (fun h2=>?_) <;> conv=>whnf
   ·exact⟨_,ri,by rw [hI,hstep]⟩
   ·exfalso;rw [e1] at h2;simp at h2
  | false=>
   have e1:E7 D=(Lib.decodeL D).2:=by simp [E7,hinv]
   have e2:Fp D=(Lib.decodeL D).1:=by simp [Fp,hinv]
   rw [hinv,Bool.false_or] at hstep;refine Am (fun h2=>?_) (fun h2=>?_) <;> conv=>whnf
   ·exfalso;rw [e1] at h2;simp at h2;omega
   refine Am (fun h3=>?_) (fun h3=>?_) <;> simp only [e2,decide_eq_true_eq,decide_eq_false_iff_not] at h3 <;> conv=>whnf
   ·exact⟨_,ri,by rw [hI,hstep,if_pos (by simp [Mn];omega)]⟩
   refine Am (fun h4=>?_) (fun h4=>?_) <;> simp only [e2,beq_iff_eq,beq_eq_false_iff_ne] at h4 <;> conv=>whnf
   ·exact⟨_,ri,by rw [hI,hstep,if_pos (by simp [Mn];omega)]⟩
   ·rw [if_neg (by simp [Mn];omega)] at hstep;have hDl:D.length=s.size - p:=by rw [hD,Ak,Er]
    refine⟨(p+(Lib.decodeL D).2,n+1),⟨?_,?_,?_⟩,?_, [],tv,⟨rfl,Yc ?_,?_,tv⟩,tv,rfl,rfl,rfl⟩
    ·simp only;rw [hI,hstep,hD,AT]
    ·simp only;omega
    ·simp only;omega
    ·simp only;omega
    ·simp only;omega
    ·rw [e1];exact congrArg (fun n=>AV.v (.int .i64 n)) (wi (by simp only;omega))
 ·refine Am (fun h2=>?_) (fun h2=>?_) <;> simp at h2 <;> conv=>whnf
  ·exact⟨_,ri,by rw [hI,AG (by rw [Er];omega),Iu];simp;omega⟩
  ·exact⟨_,ri,by rw [hI,AG (by rw [Er];omega),Iu];simp;omega⟩
end
end Go.Proofs.YtepdhdfoipephaaGreatDoor.A
namespace Go.Proofs.YtepdhdfoipephaaGreatDoor
section
open Go.RowKit
def C2 (n lo hi:Int):Bool:=decide (lo<=n)&&decide (n<=hi)
theorem AD {n lo hi:Int}:C2 n lo hi=true↔lo<=n/\n<=hi:=by simp [C2]
def Fv (b:Bool):Value:= .int .i64 (if b then 0 else 1)
def Bq (g:Geo):Bool:=C2 g.z 1 4&&C2 g.d 1 4&&C2 g.sp 0 2&&C2 g.sl 14 30&&C2 g.an 1 3
theorem Ar {g:Geo}:Bq g=true↔(1<=g.z/\g.z<=4)/\(1<=g.d/\g.d<=4)/\(0<=g.sp/\g.sp<=2)/\(14<=g.sl/\g.sl<=30)/\(1<=g.an/\g.an<=3):=by
 simp only [Bq,Ad,AD,and_assoc]

def Hr (n:Int):Bool:=C2 n 0 4294967295
end
section
open Go.RowKit
attribute [local go_sem ↓] Go.wp_at_zero Go.wp_at_succ

def Df (size:Int):Int:=if size=1 then 256 else if size=2 then 65536 else 4294967296
def EK (size:Int):Prop:=size=1\/size=2\/size=4
def F8 (n size:Int):Value:=if size=1 then .iface 5 (.int .u8 n) else if size=2 then .iface 367 (.int .u16 n) else .iface 237 (.int .u32 n)
theorem ZU (w:World) (v:Value):(Instr.typeAssert (.iface 5 v) 20 5 true).run Tryz.prog w = .ok (.tuple #[v, .bool true]) w:=by kernel_rfl
theorem XP (w:World) (v:Value):(Instr.typeAssert (.iface 367 v) 20 5 true).run Tryz.prog w = .ok (.tuple #[.int .u8 0, .bool false]) w:=by kernel_rfl
theorem XO (w:World) (v:Value):(Instr.typeAssert (.iface 237 v) 20 5 true).run Tryz.prog w = .ok (.tuple #[.int .u8 0, .bool false]) w:=by kernel_rfl
theorem ZE (w:World) (v:Value):(Instr.typeAssert (.iface 367 v) 20 367 true).run Tryz.prog w = .ok (.tuple #[v, .bool true]) w:=by kernel_rfl
theorem Ww (w:World) (v:Value):(Instr.typeAssert (.iface 237 v) 20 367 true).run Tryz.prog w = .ok (.tuple #[.int .u16 0, .bool false]) w:=by kernel_rfl
theorem ZD (w:World) (v:Value):(Instr.typeAssert (.iface 237 v) 20 237 false).run Tryz.prog w = .ok v w:=by kernel_rfl
attribute [local go_sem] ZU XP XO ZE Ww ZD
def leB:Nat->Nat->List UInt8
 | 0,_=> []
 | k+1,n=>UInt8.ofNat (n % 256)::leB k (n / 256)
theorem leB_len:∀ (k n:Nat),(leB k n).length=k
 | 0,_=>rfl
 | k+1,n=>by simp [leB,leB_len k]

theorem OwR.litB (w:World) (M:Ms) (l:List UInt8) (hl:l.length<=1000):OwR (w.alloc (.cells (l.map fun x=>Value.int .u8 x.toNat).toArray 5)) M w.heap.size 5 (.slice (some ⟨w.heap.size,0,none⟩) l.length l.length) l:=by
 refine⟨l.map fun x=>Value.int .u8 x.toNat,⟨by simp [Rp.sz], .inr ⟨w.heap.size,l.length,_,rfl,Ah _,heap_alloc_new w _,Ah _,by unfold maxLen;omega,by simp [Rp.sz],?_⟩⟩,?_⟩
 ·simp only [Rp.sz,Nat.mul_one];exact Aw (by simp)
 ·clear hl;induction l with
  | nil=>rfl
  | cons x l ih=>exact⟨[.int .u8 x.toNat],_,rfl,rfl,rfl,ih⟩

def zl:=@OwR.litB
theorem Sy (n size:Int) (w:World) (hs:EK size):Calls Tryz.prog 280 #[.int .i64 n, .int .i64 size] w fun e w'=>e = .returned (if 0<=n/\n<Df size then F8 n size else .nilIface)/\w'=w:=by
 by_cases h0:0<=n
 ·by_cases h1:n<Df size
  ·have w8:size=1->IntKind.u8.wrap n=n:=fun h=>by subst h;simp [Df] at h1;rw [IntKind.wrap_u8];omega
   have w16:size=2->IntKind.u16.wrap n=n:=fun h=>by subst h;simp [Df] at h1;rw [IntKind.wrap_u16];omega
   have w32:size=4->IntKind.u32.wrap n=n:=fun h=>by subst h;simp [Df] at h1;rw [IntKind.wrap_u32];omega
   have hE:=Lib.hid (show (if 0<=n/\n<Df size then F8 n size else .nilIface)=F8 n size from if_pos ⟨h0,h1⟩);rw [hE.out];rcases hs with rfl | rfl | rfl
   ·have h2:n<256:=h1;have w0:=w8 rfl;clear h1 w8 w16 w32 hE
    go_enter Tryz.func280,Tryz.ntmps280
    go_wp2
    go_ret
    exact tA
   ·have h2:n<65536:=h1;have w0:=w16 rfl;clear h1 w8 w16 w32 hE
    go_enter Tryz.func280,Tryz.ntmps280
    go_wp2
    go_ret
    exact tA
   ·have h2:n<4294967296:=h1;have w0:=w32 rfl;clear h1 w8 w16 w32 hE
    go_enter Tryz.func280,Tryz.ntmps280
    go_wp2
    go_ret
    exact tA
  ·have hE:=Lib.hid (show (if 0<=n/\n<Df size then F8 n size else .nilIface) = .nilIface from if_neg (by omega));rw [hE.out];rcases hs with rfl | rfl | rfl
   ·have h2:¬n<256:=h1;clear h1 hE
    go_enter Tryz.func280,Tryz.ntmps280
    go_wp2
    go_ret
    exact tA
   ·have h2:¬n<65536:=h1;clear h1 hE
    go_enter Tryz.func280,Tryz.ntmps280
    go_wp2
    go_ret
    exact tA
   ·have h2:¬n<4294967296:=h1;clear h1 hE
    go_enter Tryz.func280,Tryz.ntmps280
    go_wp2
    go_ret
    exact tA
 ·have hE:=Lib.hid (show (if 0<=n/\n<Df size then F8 n size else .nilIface) = .nilIface from if_neg (by omega));rw [hE.out];clear hE;rcases hs with rfl | rfl | rfl
  ·go_enter Tryz.func280,Tryz.ntmps280
   go_wp2
   go_ret
   exact tA
  ·go_enter Tryz.func280,Tryz.ntmps280
   go_wp2
   go_ret
   exact tA
  ·go_enter Tryz.func280,Tryz.ntmps280
   go_wp2
   go_ret
   exact tA

theorem PO (n size:Int) (w:World) (M:Ms) (hs:EK size) (h0:0<=n) (h1:n<Df size):Calls Tryz.prog 282 #[F8 n size] w fun e w'=>∃ r,e = .returned r/\OwR w' M w.heap.size 5 r (leB size.toNat n.toNat)/\Below w.heap.size w w':=by
 have hB:=fun o=>(Below.refl w.heap.size w).alloc (Ah _) o
 obtain⟨m,rfl⟩:∃ m:Nat,n=m:=⟨n.toNat,by omega⟩;rcases hs with rfl | rfl | rfl
 ·have h2:(m:Int)<256:=h1;have hL:=Lib.hid (zl w M (leB 1 m) (by rw [leB_len];omega));have e:(UInt8.ofNat (m % 256)).toNat=m:=by simp;omega
  simp only [leB,A8,BM,e,Ap,Bd] at hL;have HB:=Lib.hid hB;clear hB h1 e h0;unfold F8;simp only [if_true]
  go_enter Tryz.func282,Tryz.ntmps282
  go_wp2
  go_ret
  exact⟨_,rfl,hL.out,HB.out _⟩
 ·have h2:(m:Int)<65536:=h1;have hL:=Lib.hid (zl w M (leB 2 m) (by rw [leB_len];omega));have e0:((UInt8.ofNat (m % 256)).toNat:Int)=(m:Int) % 256:=by simp
  have e1:((UInt8.ofNat (m / 256 % 256)).toNat:Int)=(m:Int) / 256:=by simp;omega
  simp only [leB,A8,BM,e0,e1,Ap,Bd] at hL;have HB:=Lib.hid hB;clear hB h1 e0 e1 h0;unfold F8;simp only [if_true];rw [if_neg (by decide)]
  go_enter Tryz.func282,Tryz.ntmps282
  go_wp2
  go_ret
  exact⟨_,rfl,hL.out,HB.out _⟩
 ·have h2:(m:Int)<4294967296:=h1;have hL:=Lib.hid (zl w M (leB 4 m) (by rw [leB_len];omega));have e0:((UInt8.ofNat (m % 256)).toNat:Int)=(m:Int) % 256:=by simp
  have e1:((UInt8.ofNat (m / 256 % 256)).toNat:Int)=(m:Int) / 256 % 256:=by simp
  have e2:((UInt8.ofNat (m / 256 / 256 % 256)).toNat:Int)=(m:Int) / 65536 % 256:=by simp;omega
  have e3:((UInt8.ofNat (m / 256 / 256 / 256 % 256)).toNat:Int)=(m:Int) / 16777216:=by simp;omega
  simp only [leB,A8,BM,e0,e1,e2,e3,Ap,Bd] at hL;have HB:=Lib.hid hB;clear hB h1 e0 e1 e2 e3 h0;unfold F8;rw [if_neg (by decide),if_neg (by decide)]
  go_enter Tryz.func282,Tryz.ntmps282
  go_wp2
  go_ret
  exact⟨_,rfl,hL.out,HB.out _⟩
end
section
open Go.RowKit
attribute [local go_sem ↓] Go.wp_at_zero Go.wp_at_succ

theorem V7 (n:Nat) (w:World) (M:Ms) (hn:n<=1000000000):Calls Tryz.prog 286 #[.slice none 0 0, .int .i64 n] w fun e w'=>∃ r,e = .returned r/\OwR w' M w.heap.size 5 r ([]:List UInt8)/\Below w.heap.size w w':=by
 have hn0:¬(n:Int)<0:=by omega
 by_cases h0:n=0
 ·subst h0;clear hn
  go_enter Tryz.func286,Tryz.ntmps286
  go_wp2
  go_ret
  exact⟨_,rfl,OwR.nil _ _ _ _,Below.refl _ _⟩
 ·obtain⟨i0,hi0,hz0,hz1,hz2⟩:=info_parts (show (Tryz.prog.info? 5).map (fun i=>(i.zero,i.size,i.bytes))=some (some (.int .u8 0),1,1) by kernel_rfl);have hrz:∀ ty,_:=fun ty=>Lib.run_append_nil_zeros (P:=Tryz.prog) w 47 3 ty 5 i0 _ .i64 .i64 Tryz.underlying47 Tryz.underlying3 hi0 hz0 n (by omega) (by omega) (by omega) (by rw [hz2];omega)
  have hG:=grownCap_ge w n 0 5;have hGm:=grownCap_le_maxLen w n 0 5 (by unfold maxLen;omega);obtain⟨G,hGe⟩:∃ G,G=grownCap w n 0 5:=⟨_,rfl⟩;rw [<-hGe] at hG hGm;simp only [<-hGe] at hrz;obtain⟨Z,hZ⟩:∃ Z,Z=Builtin.zeroCells (Value.int .u8 0).cells n ++ Builtin.zeroCells (Value.int .u8 0).cells (G - n):=⟨_,rfl⟩;have hZs:Z.size=G*1:=by
   rw [hZ,Array.size_append,size_zeroCells,size_zeroCells];simp [Value.cells];omega
  rw [<-hZ] at hrz;have hO:=Lib.hid (show OwR (w.drew.alloc (.cells Z 5)) M w.heap.size 5 (.slice (some ⟨w.heap.size,0,none⟩) 0 G) ([]:List UInt8) from ⟨[],World.ownsRow_made w.drew Z G (Ah _) hGm hZs,rfl⟩);have hB:=Lib.hid ((Rs w).trans ((Below.refl w.drew.heap.size w.drew).alloc (Ah _) (.cells Z 5)));have h0':(0:Int)<n:=by omega
  unfold maxLen at hGm;have hGi:(n:Int)<=G:=by omega
  clear hi0 hz0 hz1 hz2 hZ hZs hGe h0 hn
  go_enter Tryz.func286,Tryz.ntmps286
  go_wp2_with (with_reducible refine Lib.wpList_append_run w rfl (.tmp 20) (.tmp 21) _ _ rfl _ _ rfl rfl _ _ (hrz _) ?_)
  go_ret
  exact⟨_,rfl,hO.out,hB.out⟩
theorem G9 {α:Type} [Rp α] {w:World} {M:Ms} {a:Option Addr} {n c k:Nat} {l:List (List α)} (h:SlR w M (.slice a n c) l) (hk:k<l.length):∃ b off A C,a=some ⟨b,off,none⟩/\¬M b/\w.cell? ⟨b,off+k,none⟩=some (.slice A l[k].length C)/\SlR w M (.slice A l[k].length C) l[k]:=by
 obtain⟨b,off,cs,rfl,hm,he,hc⟩:=h.at_ hk;obtain⟨v,rfl,hv⟩:=he;obtain⟨A,C,rfl⟩:=hv.form;refine⟨b,off,A,C,rfl,hm,?_,hv⟩;have:=hc 0 _ rfl;simpa [Rp.sz] using this
theorem Keep.own {α:Type} [Rp α] {w w4:World} {M:Ms} {e:TypeId} {v:Value} {L:List α} (hb:Below w.heap.size w w4) (ho:OwR w4 M w.heap.size e v L):Keep w noM w4 (fun b=>noM b\/v.ownBlock=some b):=fun b hlt _=>
 ⟨fun h=>h.elim (fun h=>h) (fun h=>by have:=ho.own_ge h;omega),hb.block b hlt⟩
theorem Nf {α:Type} {ls:List (List α)} {k:Nat} (hk:k<ls.length):(ls.take (k+1)).flatten=(ls.take k).flatten ++ ls[k]:=by
 rw [Bi,Ae hk,BY];simp
theorem R_ {α:Type} {ls:List (List α)} (k:Nat):(ls.take k).flatten.length<=ls.flatten.length:=by
 conv=>rhs;rw [<-Ca k ls]
 rw [BY,Ai];omega

theorem Ri (v:Value) (ls:List (List UInt8)) (w:World) (M Mi:Ms) (h:SlR w Mi v ls) (hl:ls.flatten.length<=1000000000) (hn:ls.length<=1000000) :
  Calls Tryz.prog 281 #[v] w fun e w'=>∃ r,e = .returned r/\OwR w' M w.heap.size 5 r ls.flatten/\Below w.heap.size w w':=by
 obtain⟨a,c,rfl⟩:=h.form;have H:=Lib.hid h.bare;have HL:=Lib.hid hl;clear h hl
 go_enter Tryz.func281,Tryz.ntmps281
 go_wp2
 go_loopg [3,11] ls.length (fun g s3 s11 wr=>∃ k s:Nat,s11 = .int .i64 k/\s3 = .int .i64 s/\k<=ls.length/\ls.length - k<=g/\Hid (s=(ls.take k).flatten.length)/\wr=w)
 case atStart=>exact⟨0,0,rfl,rfl,Aj _,by omega,Lib.hid (by simp),rfl⟩
 case round=>
  obtain⟨k,s,rfl,rfl,hkl,hg,hs,rfl⟩:=hrel;by_cases hlt:k<ls.length
  ·obtain⟨b,off,A,C,rfl, -,x1, -⟩:=G9 H.out hlt;have hlt':(k:Int)<ls.length:=by omega
   have hst:=Lib.hid (Nf hlt);have hb:s+ls[k].length<=1000000000:=by
    have h1:=R_ (ls:=ls) (k+1);rw [hst.out,Ai,<-hs.out] at h1;have:=HL.out;omega
   have hw1:IntKind.i64.wrap ((s:Int)+ls[k].length)=((s+ls[k].length:Nat):Int):=by rw [IntKind.wrap_i64];omega
   have hw0:¬(((s+ls[k].length:Nat):Int)<0):=by omega
   go_wp2
   go_roundg (ls.length - (k+1))
   case measure=>omega
   case rel=>exact⟨k+1,s+ls[k].length,by go_num,by first | rfl | go_num,by omega,by omega,Lib.hid (by rw [hst.out,Ai,hs.out]),rfl⟩
  ·obtain rfl:k=ls.length:=by omega
   have hb:s<=1000000000:=by
    have:=hs.out;rw [Ay] at this;have:=HL.out;omega
   obtain⟨w0,rfl⟩:∃ w0,w0=wr:=⟨_,rfl⟩;have hgr:=Lib.hid (V7 s w0 noM hb);clear hb hs
   go_wp2_with (go_at_call 286;go_must (with_reducible refine hgr.out.mono ?_);rintro e w2 ⟨r,rfl,ho2,hB2⟩)
   have HO:=Lib.hid (Af ho2 hB2);clear ho2 hB2 hgr
   go_loopg [6,27] ls.length (fun g s6 s27 w3=>∃ k:Nat,s27 = .int .i64 k/\k<=ls.length/\ls.length - k<=g/\Hid (OwR w3 noM w0.heap.size 5 s6 ((ls.take k).flatten)/\Below w0.heap.size w0 w3))
   case atStart=>exact⟨0,rfl,Aj _,by omega,Lib.hid (by simpa using HO.out)⟩
   case round=>
    obtain⟨k,rfl,hkl,hg,hI⟩:=hrel;by_cases hlt:k<ls.length
    ·obtain⟨ho,hB⟩:=hI.out;obtain⟨b,off,A,C,rfl, -,x0,x2⟩:=G9 H.out hlt;have x1:=(zr (M:=noM) hB).cell (fun h=>h) x0;have hS:=Lib.hid (x2.mono (Keep.own hB ho));have O3:=Lib.hid ho;have HB3:=Lib.hid hB;have hlt':(k:Int)<ls.length:=by omega
     have hst:=Lib.hid (Nf hlt);have hb:((ls.take k).flatten).length+ls[k].length<=1000000000:=by
      have h1:=R_ (ls:=ls) (k+1);rw [hst.out,Ai] at h1;have:=HL.out;omega
     clear x0 x2 ho hB hI
     go_wp2_with (at_builtin;go_must (refine GV (α:=UInt8) (M:=noM) (base:=w0.heap.size) (l:=(ls.take k).flatten) (m:=ls[k]) rfl (by rfl) tyB (by rfl) O3.out (by rfl) hS.out hb HB3.out.size ?_);intro v4 w4 ho4 hg4 hat4)
     go_roundg (ls.length - (k+1))
     case measure=>omega
     case rel=>exact⟨k+1,by go_num,by omega,by omega,Lib.hid ⟨by rw [hst.out];exact ho4,HB3.out.grown hg4 HB3.out.size (fun b e=>O3.out.own_ge e)⟩⟩
    ·obtain rfl:k=ls.length:=by omega
     obtain⟨ho,hB⟩:=hI.out;rw [Ay] at ho;have HF:=Lib.hid (Af (OwR.plain (M':=M) (fun _ _ _ _ _ h=>h) ho) hB);clear ho hB hI
     go_wp2
     go_ret
     exact⟨_,rfl,HF.out.1,HF.out.2⟩
end
section
open Go.RowKit
attribute [local go_sem ↓] Go.wp_at_zero Go.wp_at_succ

theorem OwR.pair {w:World} {v1 v2:Value} {l1 l2:List UInt8} (h1:SlR w noM v1 l1) (h2:SlR w noM v2 l2) (t:TypeId):OwR (w.alloc (.cells #[v1,v2] t)) noM w.heap.size t (.slice (some ⟨w.heap.size,0,none⟩) 2 2) [l1,l2]:=
 ⟨[v1,v2],⟨rfl, .inr ⟨_,2,_,rfl,Ah _,heap_alloc_new w _,Ah _,by unfold maxLen;omega,rfl,rfl⟩⟩,⟨[v1], [v2],rfl,rfl,⟨v1,rfl,h1.mono Keep.ownNew⟩,⟨[v2], [],rfl,rfl,⟨v2,rfl,h2.mono Keep.ownNew⟩,rfl⟩⟩⟩
theorem O7 (n size:Int):∃ t u,F8 n size = .iface t u:=by
 unfold F8;split
 ·exact⟨_,_,rfl⟩
 ·split <;> exact⟨_,_,rfl⟩

theorem K4 (v:Value) (l:List UInt8) (n size:Int) (w:World) (M Mi:Ms) (h:SlR w Mi v l) (hs:EK size) (hl:l.length<=1000000) (h0:0<=n) (h1:n<Df size) :
  Calls Tryz.prog 269 #[v, .int .i64 n, .int .i64 size] w fun e w'=>∃ r,e = .returned (.tuple #[r, .int .i64 0])/\OwR w' M w.heap.size 5 r (l ++ leB size.toNat n.toNat)/\Below w.heap.size w w':=by
 obtain⟨a,c,rfl⟩:=h.form;have H:=Lib.hid h.bare;have hsz:=Lib.hid (Sy n size w hs);rw [if_pos ⟨h0,h1⟩] at hsz;have hby:=Lib.hid (PO n size w noM hs h0 h1);obtain⟨t,u,e⟩:=O7 n size;rw [e] at hsz hby;have hlb:(leB size.toNat n.toNat).length<=4:=by rw [leB_len];rcases hs with rfl | rfl | rfl <;> decide
 obtain⟨L,hL⟩:∃ L,L=leB size.toNat n.toNat:=⟨_,rfl⟩;rw [<-hL] at hby hlb |-
 clear e hs h0 h1 h hL
 go_enter Tryz.func269,Tryz.ntmps269
 go_wp2_with fail
 ((with_reducible refine hsz.out.mono ?_);rintro e w1 ⟨rfl,rfl⟩)
 go_wp2_with fail
 ((with_reducible refine hby.out.mono ?_);rintro e w2 ⟨r1,rfl,ho1,hB1⟩);obtain⟨A1,C1,rfl⟩:=ho1.form;have HB1:=Lib.hid hB1;have HA:=Lib.hid ((Below.refl w2.heap.size w2).alloc (Ah _) (.cells #[.slice a l.length c, .slice A1 L.length C1] 47));have hcc:=Lib.hid (Ri _ [l,L] (w2.alloc (.cells #[.slice a l.length c, .slice A1 L.length C1] 47)) M noM ((OwR.pair (H.out.mono (zr hB1)) (ho1.sl (fun _ _ h=>h)) 47).sl (fun _ _ h=>h)) (by simp;omega) (by simp));clear ho1 hB1 hby hsz
 go_wp2_with fail
 ((with_reducible refine hcc.out.mono ?_);rintro e w3 ⟨r3,rfl,ho3,hB3⟩);have HO:=Lib.hid (ho3.mono_base (base':=w1.heap.size) (Bo HB1.out.size HA.out.size));have HF:=Lib.hid (HB1.out.trans ((HA.out.trans (hB3.mono HA.out.size)).mono HB1.out.size));clear ho3 hB3 hcc
 go_wp2
 go_ret2
 refine⟨_,rfl,?_,HF.out⟩;have:=HO.out;simpa using this
end
section
open Go.RowKit
attribute [local go_sem ↓] Go.wp_at_zero Go.wp_at_succ

def rowB:List Int->List Int->List UInt8
 | n::ns,s::ss=>leB s.toNat n.toNat ++ rowB ns ss
 | _,_=> []
theorem rowB_step:∀ (ns ss:List Int) (k:Nat) (h1:k<ns.length) (h2:k<ss.length),rowB (ns.take (k+1)) (ss.take (k+1))=rowB (ns.take k) (ss.take k) ++ leB ss[k].toNat ns[k].toNat
 | n::ns,s::ss,0,_,_=>by simp [rowB]
 | n::ns,s::ss,k+1,h1,h2=>by
  have:=rowB_step ns ss k (by simpa using h1) (by simpa using h2);simp only [CY,rowB,List.getElem_cons_succ,A7];rw [this]
theorem rowB_len:∀ (ns ss:List Int),(∀ s∈ss,EK s)->(rowB ns ss).length<=4*ss.length
 | [],ss,_=>by simp [rowB]
 | n::ns, [],_=>by simp [rowB]
 | n::ns,s::ss,h=>by
  have:=rowB_len ns ss (fun x hx=>h x (by simp [hx]));have h1:s.toNat<=4:=by rcases h s (by simp) with rfl | rfl | rfl <;> decide
  simp only [rowB,Ai,leB_len,Ap];omega

theorem WV (v1 v2:Value) (ns ss:List Int) (w:World) (M M1 M2:Ms) (h1:SlR w M1 v1 ns) (h2:SlR w M2 v2 ss) (hl:ns.length=ss.length) (hn:ns.length<=1000)
  (hf:∀ k (a:k<ns.length) (b:k<ss.length),EK ss[k]/\0<=ns[k]/\ns[k]<Df ss[k]) :
  Calls Tryz.prog 251 #[v1,v2] w fun e w'=>∃ r,e = .returned (.tuple #[r, .int .i64 0])/\OwR w' M w.heap.size 5 r (rowB ns ss)/\Below w.heap.size w w':=by
 obtain⟨a1,c1,rfl⟩:=h1.form;obtain⟨a2,c2,rfl⟩:=h2.form;have H1:=Lib.hid h1.bare;have H2:=Lib.hid h2.bare;have HF:=Lib.hid hf;have hlen':((ns.length:Int) != ss.length)=false:=by simp [hl]
 have Hl:=Lib.hid hl;have Hss:Hid (∀ s∈ss,EK s):=Lib.hid fun s hs=>by
  obtain⟨k,hk,rfl⟩:=List.getElem_of_mem hs;exact(hf k (by omega) hk).1
 clear h1 h2 hf hl
 go_enter Tryz.func251,Tryz.ntmps251
 go_wp2
 clear hlen'
 go_loopg [6,18] ns.length (fun g s6 s18 wr=>∃ k:Nat,s18 = .int .i64 k/\k<=ns.length/\ns.length - k<=g/\Hid (OwR wr noM w.heap.size 5 s6 (rowB (ns.take k) (ss.take k))/\Below w.heap.size w wr))
 case atStart=>exact⟨0,rfl,Aj _,by omega,Lib.hid ⟨OwR.nil _ _ _ _,Below.refl _ _⟩⟩
 case round=>
  obtain⟨k,rfl,hkl,hg,hI⟩:=hrel;by_cases hlt:k<ns.length
  ·obtain⟨ho,hB⟩:=hI.out;have hl:=Hl.out;have hlt2:k<ss.length:=by omega
   have hl2:(ss.take k).length<=1000:=by rw [As];omega
   obtain⟨b1,o1,rfl, -,x1⟩:=NW (H1.out.mono (zr hB)) hlt;obtain⟨b2,o2,rfl, -,x2⟩:=NW (H2.out.mono (zr hB)) hlt2;have hlt':(k:Int)<ns.length:=by omega
   have hlt2':(k:Int)<ss.length:=by omega
   obtain⟨f1,f2,f3⟩:=HF.out k hlt hlt2;have hle:=rowB_len (ns.take k) (ss.take k) (fun s hs=>Hss.out s (Cf hs));have hp:=Lib.hid (K4 _ _ ns[k] ss[k] wr noM noM (ho.sl (fun _ _ h=>h)) f1 (by omega) f2 f3);have hst:=Lib.hid (rowB_step ns ss k hlt hlt2);have HB:=Lib.hid hB;clear f1 f2 f3 ho hB hI hle hl hl2
   go_wp2_with (go_at_call 269;go_must (with_reducible refine hp.out.mono ?_);rintro e w2 ⟨r,rfl,ho2,hB2⟩)
   go_roundg (ns.length - (k+1))
   case measure=>omega
   case rel=>exact⟨k+1,by go_num,by omega,by omega,Lib.hid ⟨by rw [hst.out];exact ho2.mono_base HB.out.size,HB.out.trans (hB2.mono HB.out.size)⟩⟩
  ·obtain rfl:k=ns.length:=by omega
   obtain⟨ho,hB⟩:=hI.out;rw [Ay,Hl.out,Ay] at ho;have HX:=Lib.hid (Af (OwR.plain (M':=M) (fun _ _ _ _ _ h=>h) ho) hB);clear ho hB hI
   go_wp2
   go_ret2
   exact⟨_,rfl,HX.out.1,HX.out.2⟩
end
section
open Go.RowKit
attribute [local go_sem ↓] Go.wp_at_zero Go.wp_at_succ

theorem O_ (v:Value) (l:List UInt8) (w:World) (M Mi:Ms) (h:SlR w Mi v l) (hl:l.length<=255) :
  Calls Tryz.prog 268 #[v] w fun e w'=>∃ r,e = .returned (.tuple #[r, .int .i64 0])/\OwR w' M w.heap.size 5 r (UInt8.ofNat l.length::l)/\Below w.heap.size w w':=by
 obtain⟨a,c,rfl⟩:=h.form;have hL:=zl w noM [UInt8.ofNat l.length] (by simp);have e:((UInt8.ofNat l.length).toNat:Int)=(l.length:Int):=by simp;omega
 simp only [A8,BM,e,Ap,Bd] at hL;have hL:=Lib.hid hL;have hS:=Lib.hid (h.bare.mono (Keep.ownNew (o:= .cells #[Value.int .u8 (l.length:Int)] 5) (n:=1) (c:=1)));have HB:=Lib.hid ((Below.refl w.heap.size w).alloc (Ah _) (.cells #[Value.int .u8 (l.length:Int)] 5));have hl':¬(255:Int)<l.length:=by omega
 have hw8:IntKind.u8.wrap (l.length:Int)=l.length:=by rw [IntKind.wrap_u8];omega
 have hb : [UInt8.ofNat l.length].length+l.length<=1000000000:=by simp;omega
 clear h e hl
 go_enter Tryz.func268,Tryz.ntmps268
 go_wp2_with (at_builtin;go_must (refine GV (α:=UInt8) (M:=noM) (base:=w.heap.size) (l:= [UInt8.ofNat l.length]) (m:=l) rfl (by rfl) tyB (by rfl) hL.out (by rfl) hS.out hb HB.out.size ?_);intro v4 w4 ho4 hg4 hat4)
 have HO:=Lib.hid (Af (OwR.plain (M':=M) (fun _ _ _ _ _ h=>h) ho4) (HB.out.grown hg4 HB.out.size (fun b e=>hL.out.own_ge e)));clear ho4 hg4 hat4
 go_wp2
 go_ret2
 exact⟨_,rfl,HO.out.1,HO.out.2⟩
end
section
open Go.RowKit
theorem Xh (a x k:Nat) (ha:a<256 ^ k) (hx:x<256) (hk:k<4):bits BinOp.or IntKind.i64 (a:Int) (wrap64 ((x:Int)*2 ^ (8*k)))=((a+256 ^ k*x:Nat):Int):=by
 have e:(256:Nat) ^ k=2 ^ (8*k):=by rw [Nat.pow_mul]
 have h1:256 ^ k<=16777216:=by
  rcases k with _ | _ | _ | _ | k
  all_goals first | decide | omega
 have h2:256 ^ k*x<4294967296:=by
  have:256 ^ k*x<=16777216*255:=Dh h1 (by omega);omega
 have hw:wrap64 ((x:Int)*2 ^ (8*k))=((256 ^ k*x:Nat):Int):=by
  have:(x:Int)*2 ^ (8*k)=((256 ^ k*x:Nat):Int):=by rw [e];push_cast;rw [Int.mul_comm]
  rw [this];unfold wrap64;omega
 rw [hw];have h62:(4294967296:Nat)<2 ^ 62:=by decide
 rw [(bits_nat .i64 62 (by decide) (fun n h0 h1=>by rw [IntKind.wrap_i64];omega) a (256 ^ k*x) (by omega) (by omega)).2];rw [e] at ha |-
 rw [Nat.or_comm,<-Nat.two_pow_add_eq_or_of_lt ha x,CJ]
theorem SlR.cap {α:Type} [Rp α] {w:World} {M:Ms} {a:Option Addr} {n c:Nat} {l:List α} (h:SlR w M (.slice a n c) l):n=l.length/\l.length<=c/\c<=9223372036854775807:=by
 obtain⟨a',c',xs,e,h1,h2,_⟩:=h;cases e;exact⟨rfl,h1,by unfold maxLen at h2;omega⟩
theorem Elems.drop_ {α:Type} {sz:Nat} {E:List Value->α->Prop}:∀ {l:List α} {xs:List Value} (i:Nat),Elems sz E xs l->i<=l.length->Elems sz E (xs.drop (i*sz)) (l.drop i)
 | l,xs,0,h,_=>by simpa using h
 | x::l,_,i+1,⟨cs,ys,e,hc,he,hy⟩,hi=>by
  subst e;have e1:(i+1)*sz=cs.length+i*sz:=by rw [hc,Bw];omega
  rw [e1,Ch,AG (by omega),Bu,List.drop_succ_cons];rw [show cs.length+i*sz - cs.length=i*sz by omega];exact Elems.drop_ i hy (by simpa using hi)
 | [],xs,i+1,h,hi=>by simp at hi
theorem SlR.drop_ {α:Type} [Rp α] {w:World} {M:Ms} {b off n c i:Nat} {l:List α} (h:SlR w M (.slice (some ⟨b,off,none⟩) n c) l) (hi:i<=l.length):SlR w M (.slice (if c=i then some ⟨b,off,none⟩ else some ⟨b,off+i*Rp.sz α,none⟩) (n - i) (c - i)) (l.drop i):=by
 obtain⟨a',c',xs,e,h1,h2,h3,h4⟩:=h;cases e;have hl:(l.drop i).length=l.length - i:=by rw [Ak]
 refine⟨_,c - i,xs.drop (i*Rp.sz α),by rw [hl],by omega,by omega,h3.drop_ i hi,fun hne=>?_⟩;have hci:c≠i:=fun e=>hne (by rw [AG (by omega)])
 rw [if_neg hci];obtain⟨b',off',e,hm,hc⟩:=h4 (by intro e;rw [e] at hne;simp at hne);cases e;refine⟨b,off+i*Rp.sz α,rfl,hm,fun j u hu=>?_⟩;rw [BB] at hu;have:=hc _ u hu;rwa [<-Nat.add_assoc] at this
def leN:List UInt8->Nat
 | []=>0
 | x::l=>x.toNat+256*leN l
theorem leN_lt:∀ l:List UInt8,leN l<256 ^ l.length
 | []=>by simp [leN]
 | x::l=>by
  have:=leN_lt l;have:=x.toNat_lt;simp only [leN,Ap,Nat.pow_succ];omega
theorem leN_snoc:∀ (l:List UInt8) (x:UInt8),leN (l ++ [x])=leN l+256 ^ l.length*x.toNat
 | [],x=>by simp [leN]
 | y::l,x=>by
  simp only [Bl,leN,leN_snoc l x,Ap,Nat.pow_succ,Nat.mul_add];rw [<-Nat.add_assoc,<-Nat.mul_assoc,Nat.mul_comm 256 (256 ^ l.length)]

theorem V8 {l:List UInt8} {k:Nat} (hk:k<l.length) (h4:k<4):bits BinOp.or IntKind.i64 ((leN (l.take k):Nat):Int) (wrap64 ((l[k].toNat:Int)*2 ^ (8*k)))=((leN (l.take (k+1)):Nat):Int):=by
 have hlen:(l.take k).length=k:=by rw [As];omega
 have:=leN_lt (l.take k);rw [hlen] at this;rw [Xh _ _ k this l[k].toNat_lt h4,Bi,Ae hk];show _=((leN (l.take k ++ [l[k]]):Nat):Int);rw [leN_snoc,hlen]

abbrev OM (M:Ms) (v:Value):Ms:=fun b=>M b\/v.ownBlock=some b
theorem OwR.own_ne {α β:Type} [Rp α] [Rp β] {w:World} {M1 M2:Ms} {n1 n2:Nat} {e1 e2:TypeId} {v1 v2:Value} {l1:List α} {l2:List β} (h1:OwR w M1 n1 e1 v1 l1) (h2:OwR w M2 n2 e2 v2 l2) (hne:e1≠e2) :
  v2.ownBlock=none\/v2.ownBlock≠v1.ownBlock:=by
 obtain⟨xs,ho',_⟩:=h1;obtain⟨ys,ho'',_⟩:=h2;rcases ho''.2 with ⟨rfl,_⟩ | ⟨g2,cap2,cur2,rfl,_,hh2,_⟩
 ·exact .inl (by simp [Value.ownBlock])
 ·refine .inr fun e=>?_
  rcases ho'.2 with ⟨rfl,_⟩ | ⟨g1,cap,cur,rfl,_,hh,_⟩
  ·simp [Value.ownBlock] at e
  ·simp [Value.ownBlock] at e;subst e;rw [hh] at hh2;injection hh2 with hh2
   injection hh2 with _ ht
   exact hne ht
theorem OwR.own_new {α β:Type} [Rp α] [Rp β] {w w':World} {M1 M2:Ms} {n1:Nat} {e1 e2:TypeId} {v1 v2:Value} {l1:List α} {l2:List β} (h1:OwR w M1 n1 e1 v1 l1) (h2:OwR w' M2 w.heap.size e2 v2 l2) :
  v2.ownBlock=none\/v2.ownBlock≠v1.ownBlock:=by
 cases h:v2.ownBlock with
 | none=>exact .inl rfl
 | some g=>
  refine .inr fun e=>?_
  have a:=h2.own_ge h;have b:=h1.own_lt e.symm;omega
theorem OwR.own_old {α β:Type} [Rp α] [Rp β] {w w':World} {M1 M2:Ms} {n1:Nat} {e1 e2:TypeId} {v1 v2:Value} {l1:List α} {l2:List β} (h1:OwR w M1 n1 e1 v1 l1) (h2:OwR w' M2 w.heap.size e2 v2 l2) :
  v1.ownBlock=none\/v1.ownBlock≠v2.ownBlock:=by
 cases h:v1.ownBlock with
 | none=>exact .inl rfl
 | some g=>
  refine .inr fun e=>?_
  have a:=h2.own_ge e.symm;have b:=h1.own_lt h;omega
abbrev W8 (α:Type) [Rp α]:Prop:=∀ w M w' M' cs (x:α),Rp.E w M cs x->Rp.E w' M' cs x
section
variable {α:Type} [Rp α] {w w':World} {M M':Ms} {base:Nat} {e:TypeId} {v:Value} {l:List α}
theorem OwR.pl (hp:W8 α) (h:OwR w M base e v l):OwR w M' base e v l:=OwR.plain (fun _ _ _ _ _ h=>hp _ _ _ _ _ _ h) h
theorem OwR.keptP (hp:W8 α) {row:Option Nat} (h:OwR w M base e v l) (hg:w.grownBy w' row) (hne:v.ownBlock=none\/v.ownBlock≠row):OwR w' M base e v l:=
 OwR.pl (M:=fun _=>True) hp ((OwR.pl hp h).kept hg hne fun _ _=>trivial)
theorem OwR.setP (hp:W8 α) (h:OwR w M base e v l) {p:Addr} (hne:v.ownBlock≠some p.block) (u:Value):OwR (w.setCell p u) M base e v l:=
 OwR.pl (M:=fun _=>True) hp ((OwR.pl hp h).setCell hne trivial u)
theorem OwR.sl' (h:OwR w M base e v l) (hM:∀ b,v.ownBlock=some b->¬M b):SlR w M v l:=by
 obtain⟨xs,ho,he⟩:=h;have he':Elems (Rp.sz α) (Rp.E w M) xs l:=he.mono fun cs x _=>Rp.mono fun b _ hb=>⟨fun hm=>hb (.inl hm),rfl⟩
 rcases ho.2 with ⟨rfl,hn⟩ | ⟨g,cap,cur,rfl,hb,hg,hnc,hcm,hcs,ht⟩
 ·have:l=[]:=Bc hn;subst this;exact⟨none,0,xs,rfl,by simp,by simp [maxLen],he',fun h=>absurd rfl h⟩
 ·refine⟨_,cap,xs,rfl,hnc,hcm,he',fun _=>⟨g,0,rfl,hM g rfl,fun j u hu=>?_⟩⟩;have:=ho.cells (g:=g) rfl j u hu;rwa [Addr.add_lit] at this
end
theorem Elems.take_ {α:Type} {sz:Nat} {E:List Value->α->Prop}:∀ {l:List α} {xs:List Value} (i:Nat),Elems sz E xs l->i<=l.length->Elems sz E (xs.take (i*sz)) (l.take i)
 | l,xs,0,_,_=>by simp [Elems]
 | x::l,_,i+1,⟨cs,ys,e,hc,he,hy⟩,hi=>by
  subst e;have e1:(i+1)*sz=cs.length+i*sz:=by rw [hc,Bw];omega
  rw [e1,List.take_append,Aw (by omega),CY];rw [show cs.length+i*sz - cs.length=i*sz by omega];exact⟨cs,_,rfl,hc,he,Elems.take_ i hy (by simpa using hi)⟩
 | [],xs,i+1,h,hi=>by simp at hi
theorem SlR.take_ {α:Type} [Rp α] {w:World} {M:Ms} {a:Option Addr} {n c i:Nat} {l:List α} (h:SlR w M (.slice a n c) l) (hi:i<=l.length):SlR w M (.slice a i c) (l.take i):=by
 obtain⟨a',c',xs,e,h1,h2,h3,h4⟩:=h;cases e;have hl:(l.take i).length=i:=by rw [As];omega
 refine⟨a,c,xs.take (i*Rp.sz α),by rw [hl],by omega,h2,h3.take_ i hi,fun hne=>?_⟩;obtain⟨b,off,e,hm,hc⟩:=h4 (by intro e;rw [e] at hne;simp at hne);refine⟨b,off,e,hm,fun j u hu=>hc j u ?_⟩;rw [List.getElem?_take] at hu;split at hu
 ·exact hu
 ·cases hu
theorem SlR.dropN {α:Type} [Rp α] {w:World} {M:Ms} {n c:Nat} {l:List α} (h:SlR w M (.slice none n c) l):l=[]/\n=0:=by
 obtain⟨a',c',xs,e,h1,h2,h3,h4⟩:=h;cases e;by_cases hl:l=[]
 ·subst hl;exact tA
 ·obtain⟨b,off,e,_⟩:=h4 hl;cases e
theorem Pv (w:World) (g i:Nat) (u:Value):w.grownBy (w.setCell ⟨g,i,none⟩ u) (some g):=
 ⟨rfl,rfl,rfl,by simp,fun k _ hne=>Below.heap_setCell _ _ _ _ (fun e=>hne (by rw [e]))⟩
theorem OwR.setF {α:Type} [Rp α] {w:World} {M:Ms} {base g c j f:Nat} {e:TypeId} {n:Nat} {l:List α} (h:OwR w M base e (.slice (some ⟨g,0,none⟩) n c) l) (hj:j<l.length) (hf:f<Rp.sz α) (u:Value) (y:α)
  (hE:∀ cs,Rp.E w (OM M (.slice (some ⟨g,0,none⟩) n c)) cs l[j]->Rp.E w (OM M (.slice (some ⟨g,0,none⟩) n c)) (cs.set f u) y) :
  OwR (w.setCell ⟨g,j*Rp.sz α+f,none⟩ u) M base e (.slice (some ⟨g,0,none⟩) n c) (l.set j y):=by
 have hgr:=Pv w g (j*Rp.sz α+f) u;obtain⟨A',c',hv⟩:=h.form;simp only [Value.slice.injEq] at hv;obtain⟨-,hnl, -⟩:=hv;subst hnl;obtain⟨xs,ho,he⟩:=h;have s1:=(ho.stored (j*Rp.sz α+f) u).1;obtain⟨cs,hcl,hEcs,hcj⟩:=he.get (Ae hj);have hkeep:Keep w (OM M (.slice (some ⟨g,0,none⟩) l.length c)) (w.setCell ⟨g,j*Rp.sz α+f,none⟩ u) (OM M (.slice (some ⟨g,0,none⟩) l.length c)):=
  fun b hb hm=>⟨hm,hgr.block b hb (fun e=>hm (.inr (by simpa [Value.ownBlock] using e.symm)))⟩
 have hlen:=he.length;have hlt:j*Rp.sz α+Rp.sz α<=xs.length:=by
  have:(j+1)*Rp.sz α<=l.length*Rp.sz α:=Cx _ hj;rw [Nat.succ_mul] at this;omega
 have hp:=Elems.put (xs':=xs.set (j*Rp.sz α+f) u) (y:=y) (cs:=cs.set f u) (he.mono fun cs x _=>Rp.mono hkeep) hj (by simp)
  (fun i hi=>AC (by omega)) (by simp [hcl]) (Rp.mono hkeep (hE cs hEcs)) (fun i hi=>by
   by_cases hif:f=i
   ·subst hif;rw [AE (by omega),AE (by omega)]
   ·rw [AC (by omega),AC hif];exact hcj i hi)
 exact⟨_,by rw [AW];exact s1,hp⟩
theorem OwR.setI {w:World} {M:Ms} {base g c j n:Nat} {e:TypeId} {l:List Int} (h:OwR w M base e (.slice (some ⟨g,0,none⟩) n c) l) (hj:j<l.length) (y:Int) :
  OwR (w.setCell ⟨g,j,none⟩ (.int .i64 y)) M base e (.slice (some ⟨g,0,none⟩) n c) (l.set j y):=by
 have:=h.setF hj (f:=0) (show 0<1 by omega) (.int .i64 y) y (fun cs hcs=>by
  have hcs':cs=[.int .i64 l[j]]:=hcs;subst hcs';rfl)
 rwa [show j*Rp.sz Int+0=j by show j*1+0=j;omega] at this
theorem OwR.litI (w:World) (M:Ms) (l:List Int) (hl:l.length<=1000):OwR (w.alloc (.cells (l.map (Value.int .i64)).toArray 3)) M w.heap.size 3 (.slice (some ⟨w.heap.size,0,none⟩) l.length l.length) l:=by
 refine⟨l.map (Value.int .i64),⟨by simp [Rp.sz], .inr ⟨w.heap.size,l.length,_,rfl,Ah _,heap_alloc_new w _,Ah _,by unfold maxLen;omega,by simp [Rp.sz],?_⟩⟩,?_⟩
 ·simp only [Rp.sz,Nat.mul_one];exact Aw (by simp)
 ·clear hl;induction l with
  | nil=>rfl
  | cons x l ih=>exact⟨[.int .i64 x],_,rfl,rfl,rfl,ih⟩
end
section

def tot:List Int->Nat
 | []=>0
 | s::ss=>s.toNat+tot ss
def nums:List Int->List UInt8->List Int
 | [],_=> []
 | s::ss,b=>((leN (b.take s.toNat):Nat):Int)::nums ss (b.drop s.toNat)
theorem tot_step:∀ (ss:List Int) (k:Nat) (h:k<ss.length),tot (ss.take (k+1))=tot (ss.take k)+ss[k].toNat
 | s::ss,0,_=>by simp [tot]
 | s::ss,k+1,h=>by
  have:=tot_step ss k (by simpa using h);simp only [CY,tot,List.getElem_cons_succ];omega
theorem tot_take_le:∀ (ss:List Int) (k:Nat),tot (ss.take k)<=tot ss
 | [],_=>by simp
 | s::ss,0=>by simp [tot]
 | s::ss,k+1=>by
  have:=tot_take_le ss k;simp only [CY,tot];omega
theorem nums_step:∀ (ss:List Int) (b:List UInt8) (k:Nat) (h:k<ss.length),nums (ss.take (k+1)) b=nums (ss.take k) b ++ [((leN ((b.drop (tot (ss.take k))).take ss[k].toNat):Nat):Int)]
 | s::ss,b,0,_=>by simp [nums,tot]
 | s::ss,b,k+1,h=>by
  have:=nums_step ss (b.drop s.toNat) k (by simpa using h);simp only [CY,nums,tot,List.getElem_cons_succ,Bl];rw [this,AT]
theorem nums_len:∀ (ss:List Int) (b:List UInt8),(nums ss b).length=ss.length
 | [],_=>rfl
 | s::ss,b=>by simp [nums,nums_len ss]
theorem leN_leB:∀ (k n:Nat),n<256 ^ k->leN (leB k n)=n
 | 0,n,h=>by simp at h;simp [leB,leN,h]
 | k+1,n,h=>by
  have h2:n / 256<256 ^ k:=by rw [Nat.pow_succ] at h;omega
  simp only [leB,leN,leN_leB k (n / 256) h2];simp;omega
theorem leB_leN:∀ (l:List UInt8),leB l.length (leN l)=l
 | []=>rfl
 | x::l=>by
  have hx:=x.toNat_lt;have e1:(x.toNat+256*leN l) % 256=x.toNat:=by omega
  have e2:(x.toNat+256*leN l) / 256=leN l:=by omega
  simp only [Ap,leB,leN,e1,e2,leB_leN l];simp
theorem RT {s:Int} (h:EK s):Df s=((256 ^ s.toNat:Nat):Int):=by rcases h with rfl | rfl | rfl <;> decide
theorem tot_rowB:∀ (ns ss:List Int),ns.length=ss.length->(rowB ns ss).length=tot ss
 | [], [],_=>rfl
 | n::ns,s::ss,h=>by
  have:=tot_rowB ns ss (by simpa using h);simp [rowB,tot,leB_len,this]
theorem nums_rowB:∀ (ns ss:List Int) (r:List UInt8),ns.length=ss.length->(∀ k (a:k<ns.length) (b:k<ss.length),EK ss[k]/\0<=ns[k]/\ns[k]<Df ss[k])->nums ss (rowB ns ss ++ r)=ns
 | [], [],_,_,_=>rfl
 | n::ns,s::ss,r,h,hf=>by
  have ih:=nums_rowB ns ss r (by simpa using h) (fun k a b=>hf (k+1) (by simp;omega) (by simp;omega));obtain⟨h1,h2,h3⟩:=hf 0 (by simp) (by simp);simp only [List.getElem_cons_zero] at h1 h2 h3;rw [RT h1] at h3;have e1:((leB s.toNat n.toNat ++ rowB ns ss) ++ r).take s.toNat=leB s.toNat n.toNat:=by
   rw [A7,List.take_append_of_le_length (by rw [leB_len];exact Ah _),Aw (by rw [leB_len];exact Ah _)]
  have e2:((leB s.toNat n.toNat ++ rowB ns ss) ++ r).drop s.toNat=rowB ns ss ++ r:=by
   rw [A7,Ch,AG (by rw [leB_len];exact Ah _),leB_len];simp
  simp only [rowB,nums,e1,e2,ih,leN_leB _ _ (show n.toNat<256 ^ s.toNat by omega)];rw [BZ h2]
theorem rowB_nums:∀ (ss:List Int) (b:List UInt8),tot ss<=b.length->rowB (nums ss b) ss=b.take (tot ss)
 | [],b,_=>by simp [rowB,tot,nums]
 | s::ss,b,h=>by
  simp only [tot] at h;have ih:=rowB_nums ss (b.drop s.toNat) (by rw [Ak];omega);have hl:(b.take s.toNat).length=s.toNat:=by rw [As];omega
  have e:=leB_leN (b.take s.toNat);rw [hl] at e;simp only [nums,rowB,ih,tot,Aa,e];rw [<-List.take_add]
theorem nums_fit:∀ (ss:List Int) (b:List UInt8),(∀ s∈ss,EK s)->∀ k (a:k<(nums ss b).length) (c:k<ss.length),EK ss[k]/\0<=(nums ss b)[k]/\(nums ss b)[k]<Df ss[k]
 | [],_,_,k,a,c=>by simp at c
 | s::ss,b,h,0,a,c=>by
  have h1:=h s (by simp);refine⟨h1,by simp [nums],?_⟩;simp only [nums,List.getElem_cons_zero,RT h1];have:=leN_lt (b.take s.toNat);have h2:256 ^ (b.take s.toNat).length<=256 ^ s.toNat:=Nat.pow_le_pow_right (by omega) (by rw [As];omega);omega
 | s::ss,b,h,k+1,a,c=>by
  have:=nums_fit ss (b.drop s.toNat) (fun x hx=>h x (by simp [hx])) k (by simpa [nums] using a) (by simpa using c);simpa [nums] using this
end
section
open Go.RowKit

theorem SlR.dropU {w:World} {M:Ms} {b off n c i:Nat} {l:List UInt8} (h:SlR w M (.slice (some ⟨b,off,none⟩) n c) l) (hi:i<=l.length):SlR w M (.slice (if c=i then some ⟨b,off,none⟩ else some ⟨b,off+i,none⟩) (n - i) (c - i)) (l.drop i):=by
 have:=h.drop_ hi;rwa [show Rp.sz UInt8=1 from rfl,Nat.mul_one] at this
def Cg (b:List UInt8):Nat:=(b.headD 0).toNat
def ES (b:List UInt8):Bool:=decide (1<=b.length/\1+Cg b<=b.length)
def ev (x:Ent):Value:= .agg #[.int .i64 x.stamp, .int .i64 x.sum, .bool x.lost]
def DD (x:Ent):Bool:=Hr x.stamp&&Hr x.sum
def Gf (l:List Ent) (k:Nat):Bool:=(l[k]?.map Ent.lost).getD true
def FB (g:Geo) (l:List Ent):Bool:=Bq g&&decide ((l.length:Int)=g.d+1)&&l.all DD&&!Gf l g.d.toNat
def CV (b:Bool):Int:=if b then 1 else 0
def I3 (x:Ent):List UInt8:=rowB [x.stamp,x.sum,CV x.lost] [4,4,1]
def CL (l:List Ent):List UInt8:=(l.map I3).flatten
theorem Mz {l:List Ent} {k:Nat} (hk:k<l.length):CL (l.take (k+1))=CL (l.take k) ++ I3 l[k]:=by
 unfold CL;rw [Bi,Ae hk,A0,BY];simp
theorem Ji (x:Ent):(I3 x).length=9:=by simp [I3,tot_rowB,tot]
theorem E3 (l:List Ent):(CL l).length=9*l.length:=by
 unfold CL;induction l with
 | nil=>rfl
 | cons x l ih=>simp only [A8,AP,Ai,Ji,ih,Ap];omega
theorem SS {n:Int}:Hr n=true↔0<=n/\n<4294967296:=by unfold Hr;rw [AD];omega
theorem VR {x:Ent} (h:DD x=true):∀ k (_:k < [x.stamp,x.sum,CV x.lost].length) (b:k < [(4:Int),4,1].length),EK [(4:Int),4,1][k]/\0<= [x.stamp,x.sum,CV x.lost][k]/\ [x.stamp,x.sum,CV x.lost][k]<Df [(4:Int),4,1][k]:=by
 simp only [DD,Ad,SS] at h;intro k a _;match k,a with
 | 0,_=>exact⟨.inr (.inr rfl),h.1.1,h.1.2⟩
 | 1,_=>exact⟨.inr (.inr rfl),h.2.1,h.2.2⟩
 | 2,_=>refine⟨.inl rfl,?_,?_⟩ <;> (simp only [List.getElem_cons_succ,List.getElem_cons_zero];unfold CV;split <;> decide)
end
section
open Go.RowKit
attribute [local go_sem ↓] Go.wp_at_zero Go.wp_at_succ

theorem PG (v:Value) (l:List UInt8) (w:World) (Mi:Ms) (h:SlR w Mi v l):(convert 47 9 v).run Tryz.prog w = .ok (.string (strOfNums (l.map fun x=>(x.toNat:Int)))) w:=by
 by_cases hl:l=[]
 ·subst hl;obtain⟨a,c,rfl⟩:=h.form;rw [Bd,run_convert_bytes_string w 47 9 5 _ 0 c Tryz.underlying47 Tryz.underlying5 Tryz.underlying9];cases a <;> simp [Conv.bytesToString,loadCells];all_goals rfl
 ·have hpos:0<l.length:=D6.2 hl;obtain⟨a,c,rfl⟩:=h.form;obtain⟨b,off,rfl, -, -⟩:=Uw h hpos;refine run_convert_bytes_arg (P:=Tryz.prog) w 47 5 Tryz.underlying47 Tryz.underlying5 b off l.length c _ (by simp) (fun i hi=>?_) 9 Tryz.underlying9;obtain⟨b',off',e, -,x⟩:=Uw h hi;cases e;rw [x,Ab,AZ,Ae hi];try rfl
theorem KS (l:List UInt8):Lib.bytesOf (l.map fun x=>(x.toNat:Int))=l:=by
 unfold Lib.bytesOf;rw [List.map_map];conv=>rhs;rw [<-List.map_id l]
 apply Cn;intro x _;simp

theorem T2 (v1 v2:Value) (l1 l2:List UInt8) (w:World) (M1 M2:Ms) (h1:SlR w M1 v1 l1) (h2:SlR w M2 v2 l2) :
  Calls Tryz.prog 206 #[v1,v2] w fun e w'=>e = .returned (.bool (decide (l1=l2)))/\w'=w:=by
 have c1:=PG v1 l1 w M1 h1;have c2:=PG v2 l2 w M2 h2;have hE:decide (l1=l2)=(Lib.bytesOf (l1.map fun x=>(x.toNat:Int)) == Lib.bytesOf (l2.map fun x=>(x.toNat:Int))):=by rw [KS,KS];by_cases h:l1=l2 <;> simp [h]
 rw [hE,<-Lib.strOfNums_toList,<-Lib.strOfNums_toList];obtain⟨s1,hs1⟩:∃ s,s=strOfNums (l1.map fun x=>(x.toNat:Int)):=⟨_,rfl⟩;obtain⟨s2,hs2⟩:∃ s,s=strOfNums (l2.map fun x=>(x.toNat:Int)):=⟨_,rfl⟩;rw [<-hs1] at c1 |-
 rw [<-hs2] at c2 |-
 clear hE hs1 hs2 h1 h2
 go_enter Tryz.func206,Tryz.ntmps206
 go_wp2
 go_ret
 exact tA
end
section
open Go.RowKit
def If (b:List UInt8):Ent:=⟨(nums [4,4,1] b).getD 0 0,(nums [4,4,1] b).getD 1 0,(nums [4,4,1] b).getD 2 0 == 1⟩
def entsOf:Nat->List UInt8->List Ent
 | 0,_=> []
 | n+1,b=>If b::entsOf n (b.drop 9)
theorem entsOf_step:∀ (n:Nat) (b:List UInt8),entsOf (n+1) b=entsOf n b ++ [If (b.drop (9*n))]
 | 0,b=>by simp [entsOf]
 | n+1,b=>by
  rw [entsOf,entsOf_step n (b.drop 9),entsOf,AT];simp only [Bl];rw [show 9+9*n=9*(n+1) by omega]
theorem entsOf_len:∀ (n:Nat) (b:List UInt8),(entsOf n b).length=n
 | 0,_=>rfl
 | n+1,b=>by simp [entsOf,entsOf_len n]
def Cb (g:Geo) (b:List UInt8):Option (List Ent):=if FB g (entsOf (g.d+1).toNat b)=true/\CL (entsOf (g.d+1).toNat b)=b then some (entsOf (g.d+1).toNat b) else none
theorem OP {g:Geo} {b:List UInt8} (h:b.length<9*(g.d+1).toNat):Cb g b=none:=by
 unfold Cb;rw [if_neg];rintro⟨-,h2⟩;have:=congrArg List.length h2;rw [E3,entsOf_len] at this;omega
theorem OwR.int3 {w:World} {M:Ms} {base:Nat} {e:TypeId} {v:Value} {x y z:Int} (h:OwR w M base e v [x,y,z]):∃ B c,v = .slice (some ⟨B,0,none⟩) 3 c/\base<=B/\w.cell? ⟨B,0,none⟩=some (.int .i64 x)/\w.cell? ⟨B,1,none⟩=some (.int .i64 y)/\w.cell? ⟨B,2,none⟩=some (.int .i64 z):=by
 obtain⟨B,c,cs,rfl,hb, -, -,he,hc⟩:=h.at_ (k:=0) (by simp);obtain⟨B1,c1,cs1,e1, -, -, -,he1,hc1⟩:=h.at_ (k:=1) (by simp);obtain⟨B2,c2,cs2,e2, -, -, -,he2,hc2⟩:=h.at_ (k:=2) (by simp);cases e1;cases e2;have he:cs=[.int .i64 x]:=he;have he1:cs1=[.int .i64 y]:=he1;have he2:cs2=[.int .i64 z]:=he2;subst he he1 he2;exact⟨B,c,rfl,hb,hc 0 _ rfl,hc1 0 _ rfl,hc2 0 _ rfl⟩
theorem Vm (b:List UInt8):∃ x y z,nums [4,4,1] b=[x,y,z]/\If b=⟨x,y,z == 1⟩:=⟨_,_,_,rfl,rfl⟩
instance (s:Int):Decidable (EK s):=inferInstanceAs (Decidable (s=1\/s=2\/s=4))
def FC (x:Img):Bool:=x.zone == 0&&(x.what == 0&&(x.bytes.length:Int) == 0)
def Bz (g:Geo) (x:Img):Bool:=Bq g&&(C2 x.zone 0 (g.z - 1)&&(if x.what=255 then (Cb g x.bytes).isSome else C2 x.what (-1) (g.d - 1)&&decide (x.bytes.length=8)))
def EO (r:Rc):Bool:=C2 r.seq 0 4294967295&&(C2 r.epoch 0 4294967295&&C2 r.of_ 2 30)
def Ef (g:Geo) (r:Rc):Bool:=
 if r.kind=0 then r.seq == 0&&(r.epoch == 0&&(r.at_ == 0&&(r.of_ == 0&&FC r.img)))
 else if r.kind=1 then EO r&&(C2 r.at_ 0 (r.of_ - 2)&&Bz g r.img)
 else if r.kind=2 then EO r&&(r.at_ == r.of_ - 1&&FC r.img)
 else false
def DP (g:Geo) (r:Rc):Bool:=Bq g&&Ef g r
def Da (n:Int):Int:=if n = -1 then 254 else n
abbrev szR:List Int:= [1,4,4,1,1]
def Cu (r:Rc):List Int:= [r.kind,r.seq,r.epoch,r.at_,r.of_]
def Hw (x:Img):List UInt8:=rowB [x.zone,Da x.what] [1,1] ++ (UInt8.ofNat x.bytes.length::x.bytes)
def Ek (r:Rc):List UInt8:=rowB (Cu r) szR ++ (if r.kind=1 then Hw r.img else [])

theorem FY {g:Geo} {x:Img} (h:Bz g x=true):Bq g=true/\(0<=x.zone/\x.zone<=g.z - 1)/\((x.what=255/\∃ l,Cb g x.bytes=some l)\/(x.what≠255/\(-1<=x.what/\x.what<=g.d - 1)/\x.bytes.length=8)):=by
 simp only [Bz,Ad] at h;obtain⟨h1,h2,h3⟩:=h;refine⟨h1,AD.1 h2,?_⟩;by_cases hw:x.what=255
 ·rw [if_pos hw] at h3;exact .inl ⟨hw,Cq.1 h3⟩
 ·rw [if_neg hw] at h3;simp only [Ad,decide_eq_true_eq] at h3;exact .inr ⟨hw,AD.1 h3.1,h3.2⟩
theorem SJ {g:Geo} {b:List UInt8} {l:List Ent} (h:Cb g b=some l):b.length=9*(g.d+1).toNat:=by
 unfold Cb at h;split at h
 ·rename_i h2;have:=congrArg List.length h2.2;rw [E3,entsOf_len] at this;exact this.symm
 ·cases h
theorem HM {g:Geo} {x:Img} (h:Bz g x=true):x.bytes.length<=45:=by
 obtain⟨h1, -,h3⟩:=FY h;obtain⟨-,hd, -⟩:=Ar.1 h1;rcases h3 with ⟨-,l,hl⟩ | ⟨-, -,h8⟩
 ·have:=SJ hl;omega
 ·omega
theorem Pt {g:Geo} {x:Img} (h:Bz g x=true):∀ k (_:k < [x.zone,Da x.what].length) (b:k < [(1:Int),1].length),EK [(1:Int),1][k]/\0<= [x.zone,Da x.what][k]/\ [x.zone,Da x.what][k]<Df [(1:Int),1][k]:=by
 obtain⟨h1,h2,h3⟩:=FY h;obtain⟨hz,hd, -⟩:=Ar.1 h1;intro k a _;match k,a with
 | 0,_=>
  refine⟨.inl rfl,h2.1,?_⟩;show x.zone<256;omega
 | 1,_=>
  refine⟨.inl rfl,?_,?_⟩
  ·show 0<=Da x.what;unfold Da;split <;> omega
  ·show Da x.what<256;unfold Da;split <;> omega
theorem EY {g:Geo} {r:Rc} (h:DP g r=true):Bq g=true/\
    ((r.kind=0/\r.seq=0/\r.epoch=0/\r.at_=0/\r.of_=0/\r.img.zone=0/\r.img.what=0/\r.img.bytes=[])\/
     (r.kind=1/\(0<=r.seq/\r.seq<=4294967295)/\(0<=r.epoch/\r.epoch<=4294967295)/\(2<=r.of_/\r.of_<=30)/\(0<=r.at_/\r.at_<=r.of_ - 2)/\Bz g r.img=true)\/
     (r.kind=2/\(0<=r.seq/\r.seq<=4294967295)/\(0<=r.epoch/\r.epoch<=4294967295)/\(2<=r.of_/\r.of_<=30)/\r.at_=r.of_ - 1/\r.img.zone=0/\r.img.what=0/\r.img.bytes=[])):=by
  simp only [DP,Ad] at h;refine⟨h.1,?_⟩;have h2:=h.2;unfold Ef at h2;split at h2
  · rename_i hk;simp [FC] at h2;exact .inl ⟨hk,h2.1,h2.2.1,h2.2.2.1,h2.2.2.2.1,h2.2.2.2.2.1,h2.2.2.2.2.2.1,h2.2.2.2.2.2.2⟩
  · split at h2
    · rename_i hk;simp only [EO,Ad,AD] at h2;exact .inr (.inl ⟨hk,h2.1.1,h2.1.2.1,h2.1.2.2,h2.2.1,h2.2.2⟩)
    · split at h2
      · rename_i hk;simp only [EO,FC,Ad,AD,beq_iff_eq] at h2;refine .inr (.inr ⟨hk,h2.1.1,h2.1.2.1,h2.1.2.2,h2.2.1,h2.2.2.1,h2.2.2.2.1,?_⟩);exact Bc (by omega)
      · cases h2
theorem ON {g:Geo} {r:Rc} (h:DP g r=true):∀ k (_:k<(Cu r).length) (b:k<szR.length),EK szR[k]/\0<=(Cu r)[k]/\(Cu r)[k]<Df szR[k]:=by
 obtain⟨-,h⟩:=EY h;intro k a _;have e1:Df 1=256:=rfl;have e4:Df 4=4294967296:=rfl;match k,a with
 | 0,_=>exact⟨.inl rfl,by show 0<=r.kind;omega,by show r.kind<Df 1;omega⟩
 | 1,_=>exact⟨.inr (.inr rfl),by show 0<=r.seq;omega,by show r.seq<Df 4;omega⟩
 | 2,_=>exact⟨.inr (.inr rfl),by show 0<=r.epoch;omega,by show r.epoch<Df 4;omega⟩
 | 3,_=>exact⟨.inl rfl,by show 0<=r.at_;omega,by show r.at_<Df 1;omega⟩
 | 4,_=>exact⟨.inl rfl,by show 0<=r.of_;omega,by show r.of_<Df 1;omega⟩
theorem Zv (w:World):(Instr.typeAssert .nilIface 20 341 true).run Tryz.prog w = .ok (.tuple #[.agg #[], .bool false]) w:=by kernel_rfl
theorem Zw (w:World) (v:Value):(Instr.typeAssert (.iface 344 v) 20 341 true).run Tryz.prog w = .ok (.tuple #[.agg #[], .bool false]) w:=by kernel_rfl
theorem Zx (w:World) (v:Value):(Instr.typeAssert (.iface 341 v) 20 341 true).run Tryz.prog w = .ok (.tuple #[v, .bool true]) w:=by kernel_rfl
theorem ZQ (w:World) (v:Value):(Instr.typeAssert (.iface 344 v) 20 344 false).run Tryz.prog w = .ok v w:=by kernel_rfl
theorem Pu (x:Img):(Hw x).length=3+x.bytes.length:=by
 simp only [Hw,Ai,tot_rowB [x.zone,Da x.what] [1,1] rfl,Ap];have:tot [1,1]=2:=rfl;omega
theorem IP (r:Rc):(rowB (Cu r) szR).length=11:=by rw [tot_rowB (Cu r) szR rfl];try rfl
def H_ (n:Int):Int:=if n=254 then -1 else n
def IJ (b:List UInt8):Bool:=decide (2<=b.length)&&ES (b.drop 2)
def GZ (b:List UInt8):Img:=⟨(nums [1,1] b).getD 0 0,H_ ((nums [1,1] b).getD 1 0),((b.drop 2).drop 1).take (Cg (b.drop 2))⟩
theorem OwR.int2 {w:World} {M:Ms} {base:Nat} {e:TypeId} {v:Value} {x y:Int} (h:OwR w M base e v [x,y]):∃ B c,v = .slice (some ⟨B,0,none⟩) 2 c/\base<=B/\B<w.heap.size/\(∀ i,w.frozen? ⟨B,i,none⟩=false)/\w.cell? ⟨B,0,none⟩=some (.int .i64 x)/\w.cell? ⟨B,1,none⟩=some (.int .i64 y):=by
 obtain⟨B,c,cs,rfl,hb, -,hf,he,hc⟩:=h.at_ (k:=0) (by simp);obtain⟨B1,c1,cs1,e1, -, -, -,he1,hc1⟩:=h.at_ (k:=1) (by simp);cases e1;have he:cs=[.int .i64 x]:=he;have he1:cs1=[.int .i64 y]:=he1;subst he he1;exact⟨B,c,rfl,hb,World.block_lt_of_cell? _ _ (hc 0 _ rfl),hf,hc 0 _ rfl,hc1 0 _ rfl⟩
def noImg:Img:=⟨0,0, []⟩
def D8 (b:List UInt8):Rc:=⟨(nums szR b).getD 0 0,(nums szR b).getD 1 0,(nums szR b).getD 2 0,(nums szR b).getD 3 0,(nums szR b).getD 4 0,if (nums szR b).getD 0 0=1 then GZ (b.drop 11) else noImg⟩
def F9 (g:Geo) (b:List UInt8):Option Rc:=
 if 11<=b.length/\((D8 b).kind=1->IJ (b.drop 11)=true)/\DP g (D8 b)=true/\Ek (D8 b)=b then some (D8 b) else none
theorem XV (b:List UInt8):∃ k s e a o,nums szR b=[k,s,e,a,o]/\D8 b=⟨k,s,e,a,o,if k=1 then GZ (b.drop 11) else noImg⟩:=⟨_,_,_,_,_,rfl,rfl⟩
theorem OwR.int5 {w:World} {M:Ms} {base:Nat} {e:TypeId} {v:Value} {x0 x1 x2 x3 x4:Int} (h:OwR w M base e v [x0,x1,x2,x3,x4]):∃ B c,v = .slice (some ⟨B,0,none⟩) 5 c/\base<=B/\∀ i,i<5->w.cell? ⟨B,i,none⟩ = #[.int .i64 x0, .int .i64 x1, .int .i64 x2, .int .i64 x3, .int .i64 x4][i]? :=by
 obtain⟨B,c,cs,rfl,hb, -, -,he,hc⟩:=h.at_ (k:=0) (by simp);refine⟨B,c,rfl,hb,fun i hi=>?_⟩;obtain⟨b',off,e1, -,x1⟩:=NW (h.sl' (M:=noM) (fun _ _ h=>h)) (k:=i) (by simpa using hi);cases e1;rw [Az] at x1;match i,hi with
 | 0,_=>exact x1
 | 1,_=>exact x1
 | 2,_=>exact x1
 | 3,_=>exact x1
 | 4,_=>exact x1
theorem OwR.box {α:Type} [Rp α] {w w':World} {M:Ms} {base g:Nat} {e:TypeId} {v:Value} {l:List α} (h:OwR w M base e v l) (hb:Below w.heap.size w w') (hg:w.heap.size<=g):OwR w' (Ms.and M g) base e v l:=by
 obtain⟨xs,ho,he⟩:=h;refine⟨xs,(ho.kept (row:=none) ⟨hb.os,hb.tape,hb.output,hb.size,fun k hk _=>hb.block k hk⟩ (by cases v.ownBlock <;> simp)),he.mono fun cs x _=>Rp.mono fun b hb' hm=>⟨fun h'=>?_,hb.block b hb'⟩⟩;rcases h' with (h' | h') | h'
 ·exact hm (.inl h')
 ·omega
 ·exact hm (.inr h')

def Iw (seq epoch of_:Int) (k:Nat) (l:List Img):List Rc:=((l.take k).zipIdx).map fun p=>⟨1,seq,epoch,(p.2:Nat),of_,p.1⟩
theorem Th (seq epoch of_:Int) {k:Nat} {l:List Img} (hk:k<l.length):Iw seq epoch of_ (k+1) l=Iw seq epoch of_ k l ++ [⟨1,seq,epoch,(k:Nat),of_,l[k]⟩]:=by
 unfold Iw;rw [Bi,Ae hk,List.zipIdx_append,A0];simp [Dr (Nat.le_of_lt hk)]
theorem Jb (seq epoch of_:Int) (k:Nat) (l:List Img):(Iw seq epoch of_ k l).length=min k l.length:=by
 unfold Iw;simp
def CE (seq epoch:Int) (l:List Img):List Rc:=Iw seq epoch (l.length+1) l.length l ++ [⟨2,seq,epoch,l.length,l.length+1,noImg⟩]
def Kq (g:Geo) (seq epoch:Int) (l:List Img):Int:=
 if (Bq g&&(C2 seq 0 4294967295&&C2 epoch 0 4294967295))=false then 1
 else if l.all (Bz g)=false then 1
 else if C2 l.length 1 29=false then 2 else 0
end
section

theorem IR {g:Geo} {r:Rc} (_h:DP g r=true):(Ek r).length=if r.kind=1 then 14+r.img.bytes.length else 11:=by
 unfold Ek;rw [Ai,IP];split
 ·rw [Pu];omega
 ·rfl
theorem Et {g:Geo} {r:Rc} (h:DP g r=true):11<=(Ek r).length/\(Ek r).length<=59:=by
 rw [IR h];split
 ·rename_i hk;rcases(EY h).2 with h' | h' | h'
  ·omega
  ·have:=HM h'.2.2.2.2.2;omega
  ·omega
 ·omega
theorem SR {g:Geo} {r:Rc} (h:DP g r=true) (t:List UInt8):nums szR (Ek r ++ t)=Cu r:=by
 unfold Ek;rw [A7];exact nums_rowB _ _ _ rfl (fun k a b=>ON h k a b)
theorem Nm (r:Rc):(Ek r).drop 11=if r.kind=1 then Hw r.img else []:=by
 unfold Ek;rw [Ch,IP,AG (by rw [IP];exact Ah _)];simp
theorem Ow {g:Geo} {x:Img} (h:Bz g x=true):H_ (Da x.what)=x.what:=by
 obtain⟨h1, -,h3⟩:=FY h;obtain⟨-,hd, -⟩:=Ar.1 h1;unfold H_ Da;split
 ·split at * <;> omega
 ·split at * <;> omega
theorem L3 (x:Img):(Hw x).drop 2=UInt8.ofNat x.bytes.length::x.bytes:=by
 unfold Hw;have hl:(rowB [x.zone,Da x.what] [1,1]).length=2:=by rw [tot_rowB [x.zone,Da x.what] [1,1] rfl];try rfl
 rw [Ch,hl,AG (by rw [hl];exact Ah _)];try rfl
theorem QQ {g:Geo} {x:Img} (h:Bz g x=true):GZ (Hw x)=x:=by
 have h1:nums [1,1] (Hw x)=[x.zone,Da x.what]:=by
  unfold Hw;exact nums_rowB [x.zone,Da x.what] [1,1] _ rfl (fun k a b=>Pt h k a b)
 have hs:=HM h;have hp:Cg (UInt8.ofNat x.bytes.length::x.bytes)=x.bytes.length:=by
  simp only [Cg,List.headD_cons];simp;omega
 unfold GZ;rw [h1,L3,hp];simp [Ow h]
theorem Qm {g:Geo} {x:Img} (h:Bz g x=true):IJ (Hw x)=true:=by
 have hs:=HM h;have hp:Cg (UInt8.ofNat x.bytes.length::x.bytes)=x.bytes.length:=by
  simp only [Cg,List.headD_cons];simp;omega
 have hl:=Pu x;simp only [IJ,ES,L3,hp,Ap,Ad,decide_eq_true_eq];omega
theorem QF {g:Geo} {r:Rc} (h:DP g r=true):D8 (Ek r)=r:=by
 have hn:=SR h [];rw [AM] at hn;unfold D8;rw [hn,Nm];obtain⟨kind,seq,epoch,at_,of_,⟨zone,what,bytes⟩⟩:=r;simp only [Cu];rcases(EY h).2 with h' | h' | h'
 ·simp only at h';obtain⟨rfl,rfl,rfl,rfl,rfl,rfl,rfl,rfl⟩:=h';simp [noImg]
 ·simp only at h';obtain⟨rfl, -, -, -, -,hi⟩:=h';simp [QQ hi]
 ·simp only at h';obtain⟨rfl, -, -, -,rfl,rfl,rfl,rfl⟩:=h';simp [noImg]
theorem Q6 {g:Geo} {r:Rc} (h:DP g r=true):F9 g (Ek r)=some r:=by
 unfold F9;rw [QF h,if_pos];refine⟨(Et h).1,fun hk=>?_,h,rfl⟩;rw [Nm,if_pos hk];rcases(EY h).2 with h' | h' | h'
 ·omega
 ·exact Qm h'.2.2.2.2.2
 ·omega
theorem Q5 {g:Geo} {b:List UInt8} {r:Rc} (h:F9 g b=some r):DP g r=true/\Ek r=b:=by
 unfold F9 at h;split at h
 ·rename_i h';cases h;exact h'.2.2
 ·cases h
end
section
open Go.RowKit

theorem ZZ (w:World):(Instr.makeSlice 47 (.int .i64 8) (.int .i64 8)).run Tryz.prog w = .ok (.slice (some ⟨w.heap.size,0,none⟩) 8 8) (w.alloc (.cells #[.int .u8 0, .int .u8 0, .int .u8 0, .int .u8 0, .int .u8 0, .int .u8 0, .int .u8 0, .int .u8 0] 5)):=by
 obtain⟨i,h1,h2,h3,h4⟩:=info_parts (show (Tryz.prog.info? 5).map (fun i=>(i.zero,i.size,i.bytes))=some (some (.int .u8 0),1,1) by kernel_rfl);have:=run_make (P:=Tryz.prog) w 47 5 i (.int .u8 0) (by kernel_rfl) h1 h2 .i64 .i64 8 8 (by omega) (by omega) (by rw [h4];omega) (by omega);rw [h3] at this;rw [show madeCells (Value.int IntKind.u8 0).cells (Int.toNat 8*1) = #[.int .u8 0, .int .u8 0, .int .u8 0, .int .u8 0, .int .u8 0, .int .u8 0, .int .u8 0, .int .u8 0] by kernel_rfl] at this;exact this

def MP (x:List UInt8):Int:=(nums [4,4,1] x).getD 2 0
def K6 (n:Nat) (b:List UInt8):Prop:=∀ i,i<n->MP (b.drop (9*i))<=1
theorem Pn {x:List UInt8} (h:9<=x.length):MP x=(x[8].toNat:Int):=by
 have e:(x.drop 8).take 1=[x[8]]:=by
  rw [A_ (by omega)];try rfl
 show (((leN (((x.drop (Int.toNat 4)).drop (Int.toNat 4)).take (Int.toNat 1)):Nat):Int))=_;rw [AT];show (((leN ((x.drop 8).take 1):Nat):Int))=_;rw [e];simp [leN]
theorem P5 {x:List UInt8} (h:9<=x.length):I3 (If x)=x.take 9↔MP x<=1:=by
 obtain⟨a,b,c,hn,he⟩:=Vm x;have hl:MP x=c:=by simp [MP,hn]
 have hr:=rowB_nums [4,4,1] x (by simpa [tot] using h);rw [hn] at hr;have hf:=nums_fit [4,4,1] x (by decide);rw [hl,he];constructor
 ·intro e;have h9:(x.take 9).length=9:=by rw [As];omega
  have e2:rowB [a,b,CV (c == 1)] [4,4,1]=rowB [a,b,c] [4,4,1]:=by
   rw [hr];exact e
  have f0:=hf 0 (by rw [hn];simp) (by simp);have f1:=hf 1 (by rw [hn];simp) (by simp);have f2:=hf 2 (by rw [hn];simp) (by simp);simp only [hn] at f0 f1 f2;have n1:=nums_rowB [a,b,CV (c == 1)] [4,4,1] [] rfl (by
   intro k h1 _;match k,h1 with
   | 0,_=>exact f0
   | 1,_=>exact f1
   | 2,_=>exact⟨.inl rfl,by show 0<=CV _;unfold CV;split <;> decide,by show CV _<Df 1;unfold CV;split <;> decide⟩)
  have n2:=nums_rowB [a,b,c] [4,4,1] [] rfl (by
   intro k h1 _;match k,h1 with
   | 0,_=>exact f0
   | 1,_=>exact f1
   | 2,_=>exact f2)
  rw [e2,n2] at n1;injection n1 with _ n1
  injection n1 with _ n1
  injection n1 with n1
  rw [n1];unfold CV;split <;> decide
 ·intro hc;have f2:=hf 2 (by rw [hn];simp) (by simp);simp only [hn] at f2;have hc0:0<=c:=f2.2.1;have:CV (c == 1)=c:=by
   unfold CV;by_cases h1:c=1
   ·simp [h1]
   ·have:c=0:=by omega
    simp [this]
  show rowB [a,b,CV (c == 1)] [4,4,1]=x.take 9;rw [this,hr];try rfl
theorem tblB_iff:∀ (n:Nat) (b:List UInt8),9*n<=b.length->(CL (entsOf n b)=b.take (9*n)↔K6 n b)
 | 0,b,_=>⟨fun _ i hi=>absurd hi (Ao _),fun _=>by simp [entsOf,CL]⟩
 | n+1,b,h=>by
  have ih:=tblB_iff n (b.drop 9) (by rw [Ak];omega);have e1:CL (entsOf (n+1) b)=I3 (If b) ++ CL (entsOf n (b.drop 9)):=by simp [entsOf,CL]
  have e2:b.take (9*(n+1))=b.take 9 ++ (b.drop 9).take (9*n):=by
   rw [show 9*(n+1)=9+9*n by omega,List.take_add]
  rw [e1,e2];constructor
  ·intro e;have h1:=List.append_inj e (by rw [Ji,As];omega);intro i hi;cases i with
   | zero=>simpa using (P5 (by omega)).1 h1.1
   | succ i=>
    have:=ih.1 h1.2 i (by omega);rw [AT] at this;rwa [show 9*(i+1)=9+9*i by omega]
  ·intro hall;rw [(P5 (by omega)).2 (by simpa using hall 0 (by omega)),ih.2 (fun i hi=>by
    have:=hall (i+1) (by omega);rw [AT];rwa [show 9*(i+1)=9+9*i by omega] at this)]
theorem SI {g:Geo} {b:List UInt8} (hl:b.length=9*(g.d+1).toNat) (hall:K6 (g.d+1).toNat b):Cb g b=if FB g (entsOf (g.d+1).toNat b)=true then some (entsOf (g.d+1).toNat b) else none:=by
 have:=(tblB_iff (g.d+1).toNat b (by omega)).2 hall;rw [Aw (by omega)] at this;unfold Cb;simp only [this,and_true]
theorem J3 {g:Geo} {b:List UInt8} (h:b.length≠9*(g.d+1).toNat\/¬K6 (g.d+1).toNat b):Cb g b=none:=by
 unfold Cb;rw [if_neg];rintro⟨-,h2⟩;have hl:=congrArg List.length h2;rw [E3,entsOf_len] at hl;rcases h with h | h
 ·exact h hl.symm
 ·apply h;apply (tblB_iff (g.d+1).toNat b (by omega)).1;rw [h2,Aw (by omega)]
theorem SlR.dropU' {w:World} {M:Ms} {b off n c i:Nat} {l:List UInt8} (h:SlR w M (.slice (some ⟨b,off,none⟩) n c) l) (hi:i<=l.length) (hc:¬c=i):SlR w M (.slice (some ⟨b,off+i,none⟩) (n - i) (c - i)) (l.drop i):=by
 have:=h.dropU hi;rwa [if_neg hc] at this


end
end Go.Proofs.YtepdhdfoipephaaGreatDoor
namespace Go.Proofs.YtepdhdfoipephaaGreatDoor.A
section
open Go.RowKit
theorem DC (z d sp sl an:Int):Fn Tryz.prog 51 [.ag (Ba ⟨z,d,sp,sl,an⟩)] fun r=>r = .v (Fv (Bq ⟨z,d,sp,sl,an⟩)):=by
 have hin:∀ n lo hi,Fn Tryz.prog 121 [iv n,iv lo,iv hi] fun r=>r = .v (.bool (C2 n lo hi)):=by
  intro n lo hi;refine zT Tryz.func121 rfl ?_;conv=>whnf
  repeat' (first | (refine Am (fun h=>?_) (fun h=>?_) <;> (try simp at h) <;> conv=>whnf) | (refine zJ tys_ok mixed (by kernel_rfl) ?_;conv=>whnf) | (refine zZ ?_;conv=>whnf) | (refine Af (by omega) ?_;conv=>whnf))
  all_goals exact⟨_,ri,by simp [C2, *] <;> omega⟩
 refine zT Tryz.func51 rfl ?_;conv=>whnf
 repeat' (first | (refine Am (fun h=>?_) (fun h=>?_) <;> (try simp at h) <;> conv=>whnf) | (refine zJ tys_ok mixed (by kernel_rfl) ?_;conv=>whnf) | (refine zZ ?_;conv=>whnf) | (refine z_ (hin _ _ _) ?_;conv=>whnf) | (refine Af (by omega) ?_;conv=>whnf))
 all_goals exact⟨_,ri,by simp [Bq,Fv, *]⟩
theorem Ik (n lo hi:Int):Fn Tryz.prog 179 [iv n,iv lo,iv hi] fun r=>r = .v (.bool (C2 n lo hi)):=by
 refine zT Tryz.func179 rfl ?_;conv=>whnf
 repeat' (first | (refine Am (fun h=>?_) (fun h=>?_) <;> (try simp at h) <;> conv=>whnf) | (refine zJ tys_ok mixed (by kernel_rfl) ?_;conv=>whnf) | (refine zZ ?_;conv=>whnf) | (refine Af (by omega) ?_;conv=>whnf))
 all_goals exact⟨_,ri,by simp [C2, *] <;> omega⟩
theorem Bf {α β:Type} {d:α} {e:β} {f:α->β} {l:List α} {i:Nat} (h:i<l.length):(l.map f).getD i e=f (l.getD i d):=by
 rw [Ab,Ab,AZ,Ae h];try rfl
theorem Zg {t sz:Nat} {a b c:List (List AV)} (h:a=b ++ c):AB.row t sz a = .row t sz (b ++ c):=by rw [h]
theorem Jc {α:Type} {d:α} {a b:List α} {i:Nat} (h:i<a.length):(a ++ b).getD i d=a.getD i d:=by
 rw [Ab,Ab,AA h]
theorem HN {α:Type} {d:α} {a b:List α} {i:Nat} (h:a.length<=i):(a ++ b).getD i d=b.getD (i - a.length) d:=by
 rw [Ab,Ab,A9 h]
def SubL:List AV->List AV->Prop
 | [], []=>True
 | x::l,y::m=>(∀ c u,Rd x c u->Rd y c u)/\SubL l m
 | _,_=>False
theorem SubL.refl:∀ l,SubL l l
 | []=>trivial
 | _::l=>⟨ri,SubL.refl l⟩
theorem SubL.len:∀ {l m},SubL l m->l.length=m.length
 | [], [],_=>rfl
 | _::_,_::_,h=>by simp [SubL.len h.2]
 | [],_::_,h=>h.elim
 | _::_, [],h=>h.elim
theorem SubL.rd:∀ {l m} {c:Ctx} {b off:Nat},SubL l m->RdAt l c b off->RdAt m c b off
 | [], [],_,_,_,_,_=>by simp [RdAt]
 | x::l,y::m,c,b,off,h,hr=>by
  simp only [RdAt] at hr |-
  obtain⟨⟨u,h1,h2,h3⟩,h4⟩:=hr;exact⟨⟨u,h1,h2,h.1 _ _ h3⟩,SubL.rd h.2 h4⟩
 | [],_::_,_,_,_,h,_=>h.elim
 | _::_, [],_,_,_,h,_=>h.elim
theorem Rd.sub {c:Ctx} {sz n n':Nat} {get get':Nat->List AV} {u:Value} (hn:n=n') (hg:∀ i,i<n->SubL (get i) (get' i)) (h:Rd (.sl sz n get) c u):Rd (.sl sz n' get') c u:=by
 subst hn;simp only [Rd] at h |-
 obtain⟨a,k,rfl,h1,h2,h3⟩:=h;refine⟨a,k,rfl,h1,h2,h3.imp id ?_⟩;rintro⟨b,off,rfl,q1,q2,q3⟩;exact⟨b,off,rfl,q1,q2,fun i hi=>⟨by rw [<-(hg i hi).len];exact(q3 i hi).1,(hg i hi).rd (q3 i hi).2⟩⟩
theorem Bn (sz:Nat) (get:Nat->List AV) (c:Ctx) (u:Value) (h:Rd (.v (.slice none 0 0)) c u):Rd (.sl sz 0 get) c u:=by
 simp only [Rd] at h |-
 exact⟨none,0,h,by omega,by simp [maxLen], .inl trivial⟩
theorem SubL.rdl:∀ {l m} {c:Ctx} {xs:List Value},SubL l m->RdL l c xs->RdL m c xs
 | [], [],_,_,_,h=>h
 | x::l,y::m,c,xs,h,hr=>by
  simp only [RdL] at hr |-
  obtain⟨u,us,rfl,h1,h2⟩:=hr;exact⟨u,us,rfl,h.1 _ _ h1,SubL.rdl h.2 h2⟩
 | [],_::_,_,_,h,_=>h.elim
 | _::_, [],_,_,h,_=>h.elim
theorem Bk {l m:List AV} (h:SubL l m) (c:Ctx) (u:Value) (hr:Rd (.ag l) c u):Rd (.ag m) c u:=by
 simp only [Rd] at hr |-
 obtain⟨xs,rfl,h1⟩:=hr;exact⟨xs,rfl,h.rdl h1⟩
theorem ACalls.sub {P:Program} {q:Bool} {f:FuncId} {args:List AV} {H:List AB} {k:AV->List AB->Prop} (args':List AV) (hs:SubL args args') (h:ACalls P q f args' H k):ACalls P q f args H k:=
 ⟨h.go,fun w0 M0 c us h1 h2=>h.calls w0 M0 c us h1 (hs.rdl h2)⟩
def zY:=@ACalls.sub
theorem BT {es:List (List AV)} {l:List Int} (h:es=l.map fun x=> [iv x]):SubL [.sl 1 l.length fun i=>es.getD i []] [iA l]:=
 ⟨fun _ _ hr=>zH rfl (fun i hi=>by rw [h,Bf (d:=0) hi]) hr,tv⟩
theorem Om (n lo hi:Int):Fn Tryz.prog 194 [iv n,iv lo,iv hi] fun r=>r = .v (.bool (C2 n lo hi)):=by
 refine zT Tryz.func194 rfl ?_;conv=>whnf
 repeat' (first | (refine Am (fun h=>?_) (fun h=>?_) <;> (try simp at h) <;> conv=>whnf) | (refine zJ tys_ok mixed (by kernel_rfl) ?_;conv=>whnf) | (refine zZ ?_;conv=>whnf) | (refine Af (by omega) ?_;conv=>whnf))
 all_goals exact⟨_,ri,by simp [C2, *] <;> omega⟩
theorem Xl (n:Int):Fn Tryz.prog 243 [iv n] fun r=>r = .v (.bool (!C2 n 0 4294967295)):=by
 refine zT Tryz.func243 rfl ?_;conv=>whnf
 refine z_ (Om n 0 4294967295) ?_;exact⟨_,ri,rfl⟩
theorem Vz (l:List Int) (hl:l.length<=1000000):Fn Tryz.prog 185 [iA l, .v (.func (.func 243) #[] #[])] fun r=>∃ n:Int,r = iv n/\decide (0<=n)=l.any (fun x=>!C2 x 0 4294967295):=by
 refine zT Tryz.func185 rfl ?_;conv=>whnf
 refine zP Nat (fun k=>([(0,iA l),(1, .v (.func (.func 243) #[] #[])),(7,iv l.length),(8,iv k)], [])) (fun k=>k<=l.length/\(l.take k).any (fun x=>!C2 x 0 4294967295)=false) (fun k=>l.length - k) 0 ⟨Aj _,by simp⟩ ⟨[],tv,tA,tv,rfl,rfl,rfl⟩ ?_;rintro k ⟨hk,hI⟩;conv=>whnf
 refine Am (fun h2=>?_) (fun h2=>?_) <;> simp at h2 <;> conv=>whnf
 ·refine⟨by first | omega | (refine⟨rfl,?_,?_⟩ <;> first | omega | (simp only [Ac];done) | (simp only [Ac];omega)) | (simp only [Ac];omega),?_⟩;conv=>whnf
  refine z_ (Xl (l.getD k 0)) ?_;conv=>whnf
  refine Am (fun h3=>?_) (fun h3=>?_) <;> conv=>whnf
  ·exact⟨_,ri,_,rfl,by
    rw [De.2 ⟨l.getD k 0,A5 h2,h3⟩,decide_eq_true];omega⟩
  ·refine⟨k+1,⟨by omega,?_⟩,by omega, [],tv,⟨rfl,rfl,rfl,AR (by omega),tv⟩,tv,rfl,rfl,rfl⟩;rw [AN h2,List.any_append,hI];rw [Ab,Ae h2] at h3;simpa using h3
 ·exact⟨_,ri,_,rfl,by rw [Aw h2] at hI;rw [hI];try rfl⟩
theorem NU (l:List Int) (hl:l.length<=1000000):Fn Tryz.prog 193 [iA l] fun r=>r = .v (.bool (l.all fun x=>C2 x 0 4294967295)):=by
 have hc:Fn Tryz.prog 242 [iA l, .v (.func (.func 243) #[] #[])] fun r=>r = .v (.bool (l.any fun x=>!C2 x 0 4294967295)):=by
  refine zT Tryz.func242 rfl ?_;conv=>whnf
  refine zM (Vz l hl) rfl ?_;rintro _ ⟨n,rfl,hn⟩;exact⟨_,ri,by rw [<-hn]⟩
 refine zT Tryz.func193 rfl ?_;conv=>whnf
 refine z_ hc ?_;exact⟨_,ri,by rw [Ce]⟩
theorem Tm (g:Geo) (hg:Bq g=true):Fn Tryz.prog 241 [.ag (Ba g)] fun r=>r = iv (g.d+1+g.sp):=by
 obtain⟨h1,h2,h3,h4,h5⟩:=Ar.1 hg;refine zT Tryz.func241 rfl ?_;exact⟨_,ri,by rw [wi (n:=g.d+1) (by omega),wi (by omega)]⟩
theorem Ps (l:List Int) (p:Int) (hl:l.length<=1000000):Fn Tryz.prog 115 [iA l,iv p] fun r=>r = .v (.bool (l.any fun x=>p == x)):=by
 have hx:Fn Tryz.prog 186 [iA l,iv p] fun r=>∃ n:Int,r = iv n/\decide (0<=n)=l.any (fun x=>p == x):=by
  refine zT Tryz.func186 rfl ?_;conv=>whnf
  refine zP Nat (fun k=>([(0,iA l),(1,iv p),(7,iv l.length),(8,iv k)], [])) (fun k=>k<=l.length/\(l.take k).any (fun x=>p == x)=false) (fun k=>l.length - k) 0 ⟨Aj _,by simp⟩ ⟨[],tv,tA,tv,rfl,rfl,rfl⟩ ?_;rintro k ⟨hk,hI⟩;conv=>whnf
  refine Am (fun h2=>?_) (fun h2=>?_) <;> simp at h2 <;> conv=>whnf
  ·refine⟨by first | omega | (refine⟨rfl,?_,?_⟩ <;> first | omega | (simp only [Ac];done) | (simp only [Ac];omega)) | (simp only [Ac];omega),?_⟩;conv=>whnf
   refine Am (fun h3=>?_) (fun h3=>?_) <;> conv=>whnf
   ·exact⟨_,ri,_,rfl,by
     rw [De.2 ⟨l.getD k 0,A5 h2,h3⟩,decide_eq_true];omega⟩
   ·refine⟨k+1,⟨by omega,?_⟩,by omega, [],tv,⟨rfl,rfl,rfl,AR (by omega),tv⟩,tv,rfl,rfl,rfl⟩;rw [AN h2,List.any_append,hI];have h3:(p == l.getD k 0)=false:=h3;rw [Ab,Ae h2] at h3;simpa using h3
  ·exact⟨_,ri,_,rfl,by rw [Aw h2] at hI;rw [hI];try rfl⟩
 refine zT Tryz.func115 rfl ?_;conv=>whnf
 refine zM hx rfl ?_;rintro _ ⟨n,rfl,hn⟩;exact⟨_,ri,by rw [<-hn]⟩
def OV (l:List Int) (n:Int):Bool:=(List.range l.length).all fun i=>C2 (l.getD i 0) 0 (n - 1)&&!(l.take i).any fun x=>l.getD i 0 == x
def DL (g:Geo) (h:Hm):Bool:=decide ((h.places.length:Int)=g.d+1)&&(C2 h.next (g.d+1) (g.d+1+g.sp)&&(C2 h.root 0 4294967295&&OV h.places h.next))
theorem K5 {l:List Int} {n:Int} {k:Nat} (hk:k<l.length) (h:(C2 (l.getD k 0) 0 (n - 1)&&!(l.take k).any fun x=>l.getD k 0 == x)=false):OV l n=false:=by
 unfold OV;rw [List.all_eq_false];exact⟨k,by simpa using hk,by rw [h];simp⟩
theorem Xx (g:Geo) (h:Hm) (hg:Bq g=true):Fn Tryz.prog 198 [.ag (Ba g), .ag (Jq h)] fun r=>r = .v (.bool (DL g h)):=by
 obtain⟨h1,h2,h3,h4,h5⟩:=Ar.1 hg;refine zT Tryz.func198 rfl ?_;conv=>whnf
 refine zA tys_ok mixed [0,1,2,3,4,5,6,7,8,9,10,11,12,13,14,15,16,17,18,19,20,21,22,23,24] (by kernel_rfl) ?_;conv=>whnf
 have w1:IntKind.i64.wrap (g.d+1)=g.d+1:=wi (by omega);refine Am (fun t1=>?_) (fun t1=>?_) <;> simp only [w1,bne_iff_ne,ne_eq,bne_eq_false_iff_eq] at t1 <;> conv=>whnf
 ·exact⟨_,ri,by simp [DL,t1]⟩
 refine z_ (Tm g hg) ?_;conv=>whnf
 refine z_ (Om _ _ _) ?_;conv=>whnf
 refine Am (fun t2=>?_) (fun t2=>?_) <;> simp only [w1,Bp,B6] at t2 <;> conv=>whnf
 ·exact⟨_,ri,by simp [DL,t2]⟩
 refine zQ (NU [h.root] (by simp)).go ?_;refine⟨rfl,?_⟩;conv=>whnf
 refine zY [iA [h.root]] (BT (l:= [h.root]) (es:= [[iv h.root]]) rfl) ?_;refine z_ (NU [h.root] (by simp)) ?_;conv=>whnf
 refine Am (fun t3=>?_) (fun t3=>?_) <;> simp only [AX,BD,Bx,Bp,B6] at t3 <;> conv=>whnf
 ·exact⟨_,ri,by simp [DL,t3]⟩
 refine zP Nat (fun k=>([(2, .bp 0 0),(3, .bp 1 0),(33,iA h.places),(34,iv h.places.length),(35,iv k)], [.box 23 (Ba g), .box 177 (Jq h)])) (fun k=>k<=h.places.length/\(List.range k).all (fun i=>C2 (h.places.getD i 0) 0 (h.next - 1)&&!(h.places.take i).any fun x=>h.places.getD i 0 == x)=true) (fun k=>h.places.length - k) 0 ⟨Aj _,by simp⟩ ⟨[],tv,tA,tA,rfl,rfl,rfl⟩ ?_;rintro k ⟨hk,hI⟩;conv=>whnf
 refine Am (fun h6=>?_) (fun h6=>?_) <;> simp at h6 <;> conv=>whnf
 ·refine⟨by first | omega | (refine⟨rfl,?_,?_⟩ <;> first | omega | (simp only [Ac];done) | (simp only [Ac];omega)) | (simp only [Ac];omega),?_⟩;conv=>whnf
  refine z_ (Om _ _ _) ?_;conv=>whnf
  have hnx:0<=h.next/\h.next<=100:=by
   have:=AD.1 t2;omega
  have w2:IntKind.i64.wrap (h.next - 1)=h.next - 1:=wi (by omega);refine Am (fun t4=>?_) (fun t4=>?_) <;> simp only [w2,Aa,Bp,B6] at t4 <;> conv=>whnf
  ·exact⟨_,ri,by rw [DL,K5 h6 (by rw [t4];try rfl)];simp⟩
  refine⟨⟨by omega,by omega,by omega,by omega⟩,?_⟩;conv=>whnf
  refine zY [iA (h.places.take k),iv (h.places.getD k 0)] ⟨fun c u hr=>zH (by simp;omega) (fun i hi=>by simp at hi;simp [BJ hi]) hr,fun _ _ hr=>hr,tv⟩ ?_;refine z_ (Ps (h.places.take k) (h.places.getD k 0) (by simp;omega)) ?_;conv=>whnf
  refine Am (fun t5=>?_) (fun t5=>?_) <;> conv=>whnf
  ·exact⟨_,ri,by rw [DL,K5 h6 (by rw [t5];simp)];simp⟩
  ·refine⟨k+1,⟨by omega,?_⟩,by omega, [],tv,⟨rfl,rfl,rfl,rfl,AR (by omega),tv⟩,tA,rfl,rfl,rfl⟩;rw [Bh,List.all_append,hI];have t5:((h.places.take k).any fun x=>h.places.getD k 0 == x)=false:=t5;simp only [AX,BD,t4,t5];rfl
 ·have e:k=h.places.length:=by omega
  rw [e] at hI;exact⟨_,ri,by rw [DL,t2,t3,decide_eq_true t1,OV,hI];try rfl⟩
theorem TI (g:Geo) (h:Hm) (hg:Bq g=true):Fn Tryz.prog 197 [.ag (Jq h), .rp (Ba g)] fun r=>r = .v (.bool (!DL g h)):=by
 refine zT Tryz.func197 rfl ?_;conv=>whnf
 refine z_ (Xx g h hg) ?_;exact⟨_,ri,rfl⟩
theorem TU (g:Geo) (l:List Hm) (hg:Bq g=true) (hl:l.length<=1000000):Fn Tryz.prog 196 [Ku l, .fn 197 [.rp (Ba g)]] fun r=>r = .v (.bool (l.any fun h=>!DL g h)):=by
 have hx:Fn Tryz.prog 246 [Ku l, .fn 197 [.rp (Ba g)]] fun r=>∃ n:Int,r = iv n/\decide (0<=n)=l.any (fun h=>!DL g h):=by
  refine zT Tryz.func246 rfl ?_;conv=>whnf
  refine zP Nat (fun k=>([(0,Ku l),(1, .fn 197 [.rp (Ba g)]),(7,iv l.length),(8,iv k)], [])) (fun k=>k<=l.length/\(l.take k).any (fun h=>!DL g h)=false) (fun k=>l.length - k) 0 ⟨Aj _,by simp⟩ ⟨[],tv,tA,tv,rfl,rfl,rfl⟩ ?_;rintro k ⟨hk,hI⟩;conv=>whnf
  refine Am (fun h2=>?_) (fun h2=>?_) <;> simp at h2 <;> conv=>whnf
  ·refine⟨by first | omega | (refine⟨rfl,?_,?_⟩ <;> first | omega | (simp only [Ac];done) | (simp only [Ac];omega)) | (simp only [Ac];omega),?_⟩;conv=>whnf
   refine z_ (TI g (l.getD k ⟨[],0,0⟩) hg) ?_;conv=>whnf
   refine Am (fun h3=>?_) (fun h3=>?_) <;> conv=>whnf
   ·exact⟨_,ri,_,rfl,by
     rw [De.2 ⟨l.getD k ⟨[],0,0⟩,A5 h2,h3⟩,decide_eq_true];omega⟩
   ·refine⟨k+1,⟨by omega,?_⟩,by omega, [],tv,⟨rfl,rfl,rfl,AR (by omega),tv⟩,tv,rfl,rfl,rfl⟩;rw [AN h2,List.any_append,hI];rw [Ab,Ae h2] at h3;simpa using h3
  ·exact⟨_,ri,_,rfl,by rw [Aw h2] at hI;rw [hI];try rfl⟩
 refine zT Tryz.func196 rfl ?_;conv=>whnf
 refine zM hx rfl ?_;rintro _ ⟨n,rfl,hn⟩;exact⟨_,ri,by rw [<-hn]⟩
def Bv (g:Geo) (a:An):Bool:=([a.gen,a.epoch,a.seq,a.last].all fun x=>C2 x 0 4294967295)&&(decide (1<=a.seq)&&(decide (a.seq - 1<=a.last)&&(C2 a.pos 0 (g.sl - 1)&&(decide (FF a.label.data.toList=0)&&(decide ((a.homes.length:Int)=g.z)&&a.homes.all (DL g))))))
theorem Nv (g:Geo) (a:An) (hl:a.label.size<=1000000) (hh:a.homes.length<=1000000):Fn Tryz.prog 123 [.ag (Ba g), .ag (EJ a)] fun r=>r = .v (Fv (Bq g&&Bv g a)):=by
 have s1:Fn Tryz.prog 51 [.ag (Ba g)] fun r=>r = .v (Fv (Bq g)):=DC g.z g.d g.sp g.sl g.an
 cases hg:Bq g with
 | false=>
  rw [hg] at s1;refine zT Tryz.func123 rfl ?_;conv=>whnf
  refine zZ ?_;conv=>whnf
  refine zZ ?_;conv=>whnf
  refine z_ s1 ?_;exact⟨_,ri,rfl⟩
 | true=>
  rw [hg] at s1;obtain⟨h1,h2,h3,h4,h5⟩:=Ar.1 hg;have w1:IntKind.i64.wrap (g.sl - 1)=g.sl - 1:=wi (by omega);refine zT Tryz.func123 rfl ?_;conv=>whnf
  refine zZ ?_;conv=>whnf
  refine zZ ?_;conv=>whnf
  refine z_ s1 ?_;conv=>whnf
  refine zQ (NU [a.gen,a.epoch,a.seq,a.last] (by simp)).go ?_;refine⟨rfl,?_⟩;conv=>whnf
  refine zY [iA [a.gen,a.epoch,a.seq,a.last]] (BT (l:= [a.gen,a.epoch,a.seq,a.last]) (es:= [[iv a.gen], [iv a.epoch], [iv a.seq], [iv a.last]]) rfl) ?_;refine z_ (NU [a.gen,a.epoch,a.seq,a.last] (by simp)) ?_;conv=>whnf
  refine Am (fun t1=>?_) (fun t1=>?_) <;> simp only [Bp,B6] at t1 <;> conv=>whnf
  ·exact⟨_,ri,by rw [Bv,t1];try rfl⟩
  have hseq:0<=a.seq/\a.seq<=4294967295:=AD.1 (Av.1 t1 a.seq (by simp));have w2:IntKind.i64.wrap (a.seq - 1)=a.seq - 1:=wi (by omega);refine Am (fun t2=>?_) (fun t2=>?_) <;> simp only [decide_eq_true_eq,decide_eq_false_iff_not] at t2 <;> conv=>whnf
  ·exact⟨_,ri,by rw [Bv,decide_eq_false (show ¬1<=a.seq by omega)];simp [Fv]⟩
  refine Am (fun t3=>?_) (fun t3=>?_) <;> simp only [w2,decide_eq_true_eq,decide_eq_false_iff_not] at t3 <;> conv=>whnf
  ·exact⟨_,ri,by rw [Bv,decide_eq_false (show ¬a.seq - 1<=a.last by omega)];simp [Fv]⟩
  refine z_ (Om _ _ _) ?_;conv=>whnf
  refine Am (fun t4=>?_) (fun t4=>?_) <;> simp only [w1,Bp,B6] at t4 <;> conv=>whnf
  ·exact⟨_,ri,by rw [Bv,t4];simp [Fv]⟩
  refine z_ (QN a.label hl) ?_;conv=>whnf
  refine Am (fun t5=>?_) (fun t5=>?_) <;> simp only [bne_iff_ne,ne_eq,bne_eq_false_iff_eq] at t5 <;> conv=>whnf
  ·exact⟨_,ri,by rw [Bv,decide_eq_false t5];simp [Fv]⟩
  refine Am (fun t6=>?_) (fun t6=>?_) <;> simp only [bne_iff_ne,ne_eq,bne_eq_false_iff_eq] at t6 <;> conv=>whnf
  ·exact⟨_,ri,by rw [Bv,decide_eq_false t6];simp [Fv]⟩
  refine z_ (TU g a.homes hg hh) ?_;conv=>whnf
  have hA:Bv g a=a.homes.all (DL g):=by
   rw [Bv,t1,t4,decide_eq_true (show 1<=a.seq by omega),decide_eq_true (show a.seq - 1<=a.last by omega),decide_eq_true t5,decide_eq_true t6];simp
  rw [Ce] at hA;refine Am (fun t7=>?_) (fun t7=>?_) <;> conv=>whnf
  ·exact⟨_,ri,by rw [hA,t7];try rfl⟩
  ·exact⟨_,ri,by rw [hA,t7];try rfl⟩
theorem Hv (n lo hi:Int):Fn Tryz.prog 45 [iv n,iv lo,iv hi] fun r=>r = .v (.bool (C2 n lo hi)):=by
 refine zT Tryz.func45 rfl ?_;conv=>whnf
 repeat' (first | (refine Am (fun h=>?_) (fun h=>?_) <;> (try simp at h) <;> conv=>whnf) | (refine zJ tys_ok mixed (by kernel_rfl) ?_;conv=>whnf) | (refine zZ ?_;conv=>whnf) | (refine Af (by omega) ?_;conv=>whnf))
 all_goals exact⟨_,ri,by simp [C2, *] <;> omega⟩
theorem Wx {l:List Int} {p:Int} {k:Nat} (hk:k<l.length) (h:((l.take k).any fun x=>p == x)=false) (e:(l.getD k 0 == p)=false):((l.take (k+1)).any fun x=>p == x)=false:=by
 rw [AN hk,List.any_append,h];rw [Ab,Ae hk] at e;simp at e |-
 exact fun h=>e h.symm
theorem YS {l:List Int} {p:Int} {k i:Nat} (hk:k<l.length) (hki:k<i) (e:(l.getD k 0 == p)=true):((l.take i).any fun x=>p == x)=true:=by
 refine De.2 ⟨l.getD k 0,?_,by simpa using (beq_iff_eq.1 e).symm⟩;rw [Ab,Ae hk];have:(l.take i)[k]? = some l[k]:=by rw [BJ hki,Ae hk]
 exact D3 this
theorem QD (g:Geo) (a:An) (hg:Bq g=true) (hl:a.label.size<=1000000):Fn Tryz.prog 69 [.ag (Ba g), .ag (EJ a)] fun r=>r = .v (.bool (Bv g a)):=by
 obtain⟨h1,h2,h3,h4,h5⟩:=Ar.1 hg;have w1:IntKind.i64.wrap (g.sl - 1)=g.sl - 1:=wi (by omega);have w3:IntKind.i64.wrap (g.d+1)=g.d+1:=wi (by omega);have w4:IntKind.i64.wrap (g.d+1+g.sp)=g.d+1+g.sp:=wi (by omega);refine zT Tryz.func69 rfl ?_;conv=>whnf
 refine z_ (Hv _ _ _) ?_;conv=>whnf
 refine Am (fun t1=>?_) (fun t1=>?_) <;> simp only [Bp,B6] at t1 <;> conv=>whnf
 ·exact⟨_,ri,by simp [Bv,t1]⟩
 refine z_ (Hv _ _ _) ?_;conv=>whnf
 refine Am (fun t2=>?_) (fun t2=>?_) <;> simp only [Bp,B6] at t2 <;> conv=>whnf
 ·exact⟨_,ri,by simp [Bv,t2]⟩
 refine z_ (Hv _ _ _) ?_;conv=>whnf
 refine Am (fun t3=>?_) (fun t3=>?_) <;> simp only [Bp,B6] at t3 <;> conv=>whnf
 ·refine⟨_,fun _ _ h=>h,?_⟩;have:(C2 a.seq 0 4294967295&&decide (1<=a.seq))=false:=by
   cases h:C2 a.seq 0 4294967295&&decide (1<=a.seq) with
   | false=>rfl
   | true=>
    simp only [Ad,AD,decide_eq_true_eq] at h;have:C2 a.seq 1 4294967295=true:=AD.2 ⟨h.2,h.1.2⟩;rw [this] at t3;cases t3
  simp only [Bool.and_eq_false_iff] at this;rcases this with h | h <;> simp [Bv,h]
 have hseq:=AD.1 t3;have t3':C2 a.seq 0 4294967295=true:=AD.2 ⟨by omega,hseq.2⟩;have w2:IntKind.i64.wrap (a.seq - 1)=a.seq - 1:=wi (by omega);refine z_ (Hv _ _ _) ?_;conv=>whnf
 refine Am (fun t4=>?_) (fun t4=>?_) <;> simp only [Bp,B6] at t4 <;> conv=>whnf
 ·exact⟨_,ri,by simp [Bv,t4]⟩
 refine Am (fun t5=>?_) (fun t5=>?_) <;> simp only [w2,decide_eq_true_eq,decide_eq_false_iff_not] at t5 <;> conv=>whnf
 ·exact⟨_,ri,by rw [Bv,decide_eq_false (show ¬a.seq - 1<=a.last by omega)];simp⟩
 refine z_ (Hv _ _ _) ?_;conv=>whnf
 refine Am (fun t6=>?_) (fun t6=>?_) <;> simp only [w1,Bp,B6] at t6 <;> conv=>whnf
 ·exact⟨_,ri,by rw [Bv,t6];simp⟩
 refine z_ (MC a.label (by omega)) ?_;conv=>whnf
 refine Am (fun t7=>?_) (fun t7=>?_) <;> simp only [bne_iff_ne,ne_eq,bne_eq_false_iff_eq] at t7 <;> conv=>whnf
 ·exact⟨_,ri,by rw [Bv,decide_eq_false t7];simp⟩
 refine Am (fun t8=>?_) (fun t8=>?_) <;> simp only [bne_iff_ne,ne_eq,bne_eq_false_iff_eq] at t8 <;> conv=>whnf
 ·exact⟨_,ri,by rw [Bv,decide_eq_false t8];simp⟩
 have hA:Bv g a=a.homes.all (DL g):=by
  rw [Bv,t6,decide_eq_true (show 1<=a.seq by omega),decide_eq_true (show a.seq - 1<=a.last by omega),decide_eq_true t7,decide_eq_true t8];simp [t1,t2,t3',t4]
 rw [hA];refine zP Nat (fun z=>([(2, .bp 0 0),(3, .bp 1 0),(5,iv z)], [.box 23 (Ba g), .box 33 (EJ a)])) (fun z=>z<=a.homes.length/\(a.homes.take z).all (DL g)=true) (fun z=>a.homes.length - z) 0 ⟨Aj _,by simp⟩ ⟨[],tv,tA,tA,rfl,rfl,rfl⟩ ?_;rintro z ⟨hz,hZ⟩;conv=>whnf
 refine Am (fun hz2=>?_) (fun hz2=>?_) <;> simp at hz2 <;> conv=>whnf
 ·have hno:DL g (a.homes.getD z ⟨[],0,0⟩)=false->a.homes.all (DL g)=false:=fun h=>List.all_eq_false.2 ⟨_,A5 hz2,by rw [h];simp⟩
  refine⟨by first | omega | (refine⟨rfl,?_,?_⟩ <;> first | omega | (simp only [Ac];done) | (simp only [Ac];omega)) | (simp only [Ac];omega),?_⟩;conv=>whnf
  have ez:((z:Nat):Int).toNat=z:=Aa z;refine Am (fun u1=>?_) (fun u1=>?_) <;> simp only [ez,w3,bne_iff_ne,ne_eq,bne_eq_false_iff_eq] at u1 <;> conv=>whnf
  ·exact⟨_,ri,by rw [hno (by rw [DL,decide_eq_false u1];try rfl)]⟩
  refine z_ (Hv _ _ _) ?_;conv=>whnf
  refine Am (fun u2=>?_) (fun u2=>?_) <;> simp only [ez,w3,w4,Bp,B6] at u2 <;> conv=>whnf
  ·exact⟨_,ri,by rw [hno (by rw [DL,u2];simp only [CP,Bool.and_false])]⟩
  refine z_ (Hv _ _ _) ?_;conv=>whnf
  refine Am (fun u3=>?_) (fun u3=>?_) <;> simp only [ez,Bp,B6] at u3 <;> conv=>whnf
  ·exact⟨_,ri,by rw [hno (by rw [DL,u3];simp only [CP,Bool.and_false])]⟩
  have hnx:0<=(a.homes.getD z ⟨[],0,0⟩).next/\(a.homes.getD z ⟨[],0,0⟩).next<=100:=by
   have:=AD.1 u2;omega
  have w5:IntKind.i64.wrap ((a.homes.getD z ⟨[],0,0⟩).next - 1)=(a.homes.getD z ⟨[],0,0⟩).next - 1:=wi (by omega);have hno2:OV (a.homes.getD z ⟨[],0,0⟩).places (a.homes.getD z ⟨[],0,0⟩).next=false->a.homes.all (DL g)=false:=fun h=>hno (by rw [DL,h];simp)
  refine zP Nat (fun i=>([(2, .bp 0 0),(3, .bp 1 0),(5,iv z),(6, .bp 2 0),(7,iv i)], [.box 23 (Ba g), .box 33 (EJ a), .box 177 (Jq (a.homes.getD z ⟨[],0,0⟩))])) (fun i=>i<=(a.homes.getD z ⟨[],0,0⟩).places.length/\(List.range i).all (fun i=>C2 ((a.homes.getD z ⟨[],0,0⟩).places.getD i 0) 0 ((a.homes.getD z ⟨[],0,0⟩).next - 1)&&!((a.homes.getD z ⟨[],0,0⟩).places.take i).any fun x=>(a.homes.getD z ⟨[],0,0⟩).places.getD i 0 == x)=true) (fun i=>(a.homes.getD z ⟨[],0,0⟩).places.length - i) 0 ⟨Aj _,by simp⟩ ⟨[],tv,tA,tA,rfl,rfl,rfl⟩ ?_;rintro i ⟨hi,hI⟩;conv=>whnf
  refine Am (fun hi2=>?_) (fun hi2=>?_) <;> simp only [decide_eq_true_eq,decide_eq_false_iff_not,Int.ofNat_lt] at hi2 <;> conv=>whnf
  ·refine zA tys_ok mixed [0,1,2,3,4,5,6,7,8,9] (by kernel_rfl) ?_;refine⟨⟨by omega,by omega⟩,?_⟩;conv=>whnf
   have ei:((i:Nat):Int).toNat=i:=Aa i;refine z_ (Hv _ _ _) ?_;conv=>whnf
   refine Am (fun u4=>?_) (fun u4=>?_) <;> simp only [ei,w5,Bp,B6] at u4 <;> conv=>whnf
   ·exact⟨_,ri,by rw [hno2 (K5 hi2 (by rw [u4];try rfl))]⟩
   refine zP Nat (fun k=>([(2, .bp 0 0),(3, .bp 1 0),(5,iv z),(6, .bp 2 0),(7,iv i),(8,iv k)], [.box 23 (Ba g), .box 33 (EJ a), .box 177 (Jq (a.homes.getD z ⟨[],0,0⟩))])) (fun k=>k<=i/\(((a.homes.getD z ⟨[],0,0⟩).places.take k).any fun x=>(a.homes.getD z ⟨[],0,0⟩).places.getD i 0 == x)=false) (fun k=>i - k) 0 ⟨Aj _,by simp⟩ ⟨[],tv,tA,tA,rfl,rfl,rfl⟩ ?_;rintro k ⟨hk,hK⟩;conv=>whnf
   refine Am (fun hk2=>?_) (fun hk2=>?_) <;> simp only [decide_eq_true_eq,decide_eq_false_iff_not,Int.ofNat_lt] at hk2 <;> conv=>whnf
   ·refine zA tys_ok mixed [0,1,2,3,4,5,6,7,8,9,10] (by kernel_rfl) ?_;refine⟨⟨by omega,by omega⟩,?_⟩;refine⟨⟨by omega,by omega⟩,?_⟩;conv=>whnf
    have ek:((k:Nat):Int).toNat=k:=Aa k;refine Am (fun u5=>?_) (fun u5=>?_) <;> simp only [ei,ek] at u5 <;> conv=>whnf
    ·exact⟨_,ri,by rw [hno2 (K5 hi2 (by rw [YS (show k<(a.homes.getD z ⟨[],0,0⟩).places.length by omega) hk2 u5];simp))]⟩
    ·exact⟨k+1,⟨by omega,Wx (by omega) hK u5⟩,by omega, [],tv,⟨rfl,rfl,rfl,rfl,rfl,AR (by omega),tv⟩,tA,rfl,rfl,rfl⟩
   ·have e:k=i:=by omega
    subst e;refine⟨k+1,⟨by omega,?_⟩,by omega, [],tv,⟨rfl,rfl,rfl,rfl,AR (by omega),tv⟩,tA,rfl,rfl,rfl⟩;rw [Bh,List.all_append,hI];simp only [AX,BD,u4,hK];rfl
  ·have e:i=(a.homes.getD z ⟨[],0,0⟩).places.length:=by omega
   rw [e] at hI;refine⟨z+1,⟨by omega,?_⟩,by omega, [],tv,⟨rfl,rfl,AR (by omega),tv⟩,tA,rfl,rfl,rfl⟩;rw [AN hz2,List.all_append,hZ];have hok:DL g (a.homes.getD z ⟨[],0,0⟩)=true:=by rw [DL,u2,u3,decide_eq_true u1,OV,hI];try rfl
   rw [Ab,Ae hz2] at hok;simpa using hok
 ·have e:z=a.homes.length:=by omega
  rw [e,Ay] at hZ;exact⟨_,ri,by rw [hZ]⟩
end
section
open Go.RowKit Go.Lib
def HY (s:ByteArray):List UInt8:=UInt8.ofNat s.size::s.data.toList
theorem Gv (s:ByteArray):(HY s).length=1+s.size:=by simp [HY,CJ]
theorem PE (l:List UInt8):(decodeL l).2<=4:=by
 rw [decodeL_N];rcases decodeN_shape l.length (l.getD 0 0).toNat (l.getD 1 0).toNat (l.getD 2 0).toNat (l.getD 3 0).toNat with ⟨_,e⟩ | ⟨_,_,_,_,e⟩ | ⟨_,_,_,_,_,_,e⟩ | ⟨_,_,_,_,_,_,_,e⟩ | e <;> rw [e] <;> simp
theorem S2 (n:Nat):∀ l:List UInt8,l.length=n->l.length<=4*E9 l:=by
 induction n using Nat.strongRecOn with
 | ind n ih=>
  intro l hl;by_cases h:l=[]
  ·subst h;simp
  ·have h1:=KC h;have h2:=ih _ (by rw [<-hl];exact h1) _ rfl;have h3:=PE l;rw [Hi l h];rw [Ak] at h2;omega
theorem I_ {l:List UInt8} (h:FF l=0):l.length<=24:=by
 have h1:=S2 _ l rfl;unfold FF at h;split at h
 ·cases h
 ·split at h
  ·cases h
  ·omega
def Iv (b:List UInt8):Option (ByteArray × Nat):=
 if b.length<1+(b.getD 0 0).toNat then none
 else if FF ((b.drop 1).take (b.getD 0 0).toNat)=0 then some (⟨((b.drop 1).take (b.getD 0 0).toNat).toArray⟩,1+(b.getD 0 0).toNat) else none
theorem MT {b:List UInt8} {s:ByteArray} {n:Nat} (h:Iv b=some (s,n)):n<=b.length/\HY s=b.take n/\n=1+s.size/\FF s.data.toList=0:=by
 unfold Iv at h;split at h
 ·cases h
 ·rename_i h1;split at h
  ·rename_i h2;simp only [Option.some.injEq,Prod.mk.injEq] at h;obtain⟨rfl,rfl⟩:=h;have hl:((b.drop 1).take (b.getD 0 0).toNat).length=(b.getD 0 0).toNat:=by rw [As,Ak];omega
   have hb:b=b.getD 0 0::b.drop 1:=by
    cases b with
    | nil=>simp at h1
    | cons x r=>rfl
   refine⟨by omega,?_,by show _=1+(List.toArray _).size;simp only [BR,hl],h2⟩;have e:(⟨((b.drop 1).take (b.getD 0 0).toNat).toArray⟩:ByteArray).size=(b.getD 0 0).toNat:=by show (List.toArray _).size=_;simp only [BR,hl]
   unfold HY;rw [e];simp only;rw [CJ,hb];simp
  ·cases h
theorem Ta {s:ByteArray} (h:FF s.data.toList=0) (r:List UInt8):Iv (HY s ++ r)=some (s,1+s.size):=by
 have h24:=I_ h;have hs:s.size=s.data.toList.length:=rfl;have e0:((HY s ++ r).getD 0 0).toNat=s.size:=by
  show (UInt8.ofNat s.size).toNat=s.size;simp;omega
 have e1:((HY s ++ r).drop 1).take s.size=s.data.toList:=by
  show (s.data.toList ++ r).take s.size=_;rw [List.take_append_of_le_length (by omega),Aw (by omega)]
 unfold Iv;rw [e0,e1,if_neg (by rw [Ai,Gv];omega),if_pos h]

def Fy (n:Nat):List Int:=List.replicate n 1
def szA:List Int:= [4,4,4,4,1]
def Mp (a:An):List Int:= [a.gen,a.epoch,a.seq,a.last,a.pos]
def QE (l:List Int):List UInt8:=rowB l (Fy l.length)
def NX (h:Hm):List UInt8:=QE h.places ++ rowB [h.next,h.root] [1,4]
def LY (a:An):List UInt8:=rowB (Mp a) szA ++ HY a.label ++ (a.homes.map NX).flatten
def Qi (n:Nat):List Int:=Fy (n+1) ++ [4]
def JI (n:Nat) (c:List UInt8):Hm:=⟨(nums (Qi n) c).take n,(nums (Qi n) c).getD n 0,(nums (Qi n) c).getD (n+1) 0⟩
def En (n k:Nat) (c:List UInt8):List Hm:=(List.range k).map fun i=>JI n (c.drop ((n+5)*i))
def LW (n k:Nat) (b:List UInt8) (s:ByteArray) (u:Nat):An:=⟨(nums szA b).getD 0 0,(nums szA b).getD 1 0,(nums szA b).getD 4 0,(nums szA b).getD 2 0,(nums szA b).getD 3 0,s,En n k (b.drop (17+u))⟩
def EM (g:Geo) (b:List UInt8):Option An:=
 if b.length<17 then none else
 match Iv (b.drop 17) with
 | none=>none
 | some (s,u)=>if b.length≠17+u+g.z.toNat*(g.d.toNat+6) then none
  else if Bv g (LW (g.d.toNat+1) g.z.toNat b s u) then some (LW (g.d.toNat+1) g.z.toNat b s u) else none

theorem tot_ones:∀ n,tot (Fy n)=n
 | 0=>rfl
 | n+1=>by show 1+tot (Fy n)=n+1;rw [tot_ones n];omega
theorem tot_app:∀ (a b:List Int),tot (a ++ b)=tot a+tot b
 | [],b=>by simp [tot]
 | x::a,b=>by simp only [Bl,tot,tot_app a b];omega
theorem Kz (n:Nat):tot (Qi n)=n+5:=by rw [Qi,tot_app,tot_ones];try rfl
theorem K1 (n:Nat):(Qi n).length=n+2:=by simp [Qi,Fy]
theorem IU (n:Nat):(Fy n).length=n:=by simp [Fy]
theorem rowB_app:∀ (a s b t:List Int),a.length=s.length->rowB (a ++ b) (s ++ t)=rowB a s ++ rowB b t
 | [], [],b,t,_=>rfl
 | x::a,y::s,b,t,h=>by simp only [Bl,rowB,rowB_app a s b t (by simpa using h),A7]
theorem MJ (n:Nat):Fy (n+1)=Fy n ++ [1]:=by simp [Fy,List.replicate_succ']
theorem K8 (h:Hm):NX h=rowB (h.places ++ [h.next,h.root]) (Qi h.places.length):=by
 rw [Qi,MJ,A7,rowB_app _ _ _ _ (IU _).symm];try rfl
theorem Pq {l:List Int} {n:Nat} (h:l.length=n+2):l=l.take n ++ [l.getD n 0,l.getD (n+1) 0]:=by
 have h1:n<l.length:=by omega
 have h2:n+1<l.length:=by omega
 conv=>lhs;rw [<-Ca n l]
 congr 1;rw [A_ h1,A_ h2,AG (by omega)];simp [Ab,Ae h1,Ae h2]
theorem V5 (n:Nat) (c:List UInt8) (hc:n+5<=c.length):NX (JI n c)=c.take (n+5):=by
 have hl:(nums (Qi n) c).length=n+2:=by rw [nums_len,K1]
 have hp:(JI n c).places.length=n:=by show ((nums (Qi n) c).take n).length=n;rw [As];omega
 rw [K8,hp,show (JI n c).places ++ [(JI n c).next,(JI n c).root]=nums (Qi n) c from (Pq hl).symm,rowB_nums _ _ (by rw [Kz];exact hc),Kz]
theorem RW (n:Nat):∀ (k:Nat) (c:List UInt8),(n+5)*k<=c.length->((En n k c).map NX).flatten=c.take ((n+5)*k)
 | 0,c,_=>by simp [En]
 | k+1,c,h=>by
  have h':(n+5)*k+(n+5)<=c.length:=by rw [Nat.mul_succ] at h;exact h
  have ih:=RW n k c (by omega);rw [En,Bh,A0,A0,BY,show ((List.map (fun i=>JI n (List.drop ((n+5)*i) c)) (List.range k)).map NX).flatten=_ from ih];simp only [A8,BM,AP,List.flatten_nil,AM];rw [V5 n _ (by rw [Ak];omega),Nat.mul_succ,<-List.take_add]
theorem W0 (n k:Nat) (b:List UInt8) (s:ByteArray) (u:Nat) (h17:17<=b.length) (hl:Iv (b.drop 17)=some (s,u)) (hk:17+u+(n+5)*k<=b.length):LY (LW n k b s u)=b.take (17+u+(n+5)*k):=by
 obtain⟨h1,h2,h3,h4⟩:=MT hl;have e1:Mp (LW n k b s u)=nums szA b:=rfl;have e2:rowB (nums szA b) szA=b.take 17:=rowB_nums szA b h17;have e3:=RW n k (b.drop (17+u)) (by rw [Ak];omega);rw [LY,e1,e2,show (LW n k b s u).homes=En n k (b.drop (17+u)) from rfl,e3,show HY (LW n k b s u).label=HY s from rfl,h2,<-List.take_add,<-List.take_add]

theorem QU {g:Geo} {h:Hm} (hg:Bq g=true) (hh:DL g h=true):h.places.length=g.d.toNat+1/\(∀ p∈h.places,0<=p/\p<256)/\(0<=h.next/\h.next<256)/\0<=h.root/\h.root<4294967296:=by
 obtain⟨h1,h2,h3,h4,h5⟩:=Ar.1 hg;simp only [DL,Ad,decide_eq_true_eq,AD,OV,Av,AO] at hh;obtain⟨q1,q2,q3,q4⟩:=hh;refine⟨by omega,fun p hp=>?_,by omega,by omega⟩;obtain⟨i,hi,rfl⟩:=List.getElem_of_mem hp;have:=(q4 i hi).1;rw [Ab,Ae hi] at this;simp only [BE] at this;omega
theorem Vj {l:List Int} (h:∀ p∈l,0<=p/\p<256):∀ k (a:k<l.length) (b:k<(Fy l.length).length),EK (Fy l.length)[k]/\0<=l[k]/\l[k]<Df (Fy l.length)[k]:=fun k a b=>by
 have e:(Fy l.length)[k]=1:=by simp [Fy]
 rw [e];exact⟨.inl rfl,h _ (Cy a)⟩
theorem XB {a s b t:List Int} (ha:a.length=s.length) (h1:∀ k (p:k<a.length) (q:k<s.length),EK s[k]/\0<=a[k]/\a[k]<Df s[k]) (h2:∀ k (p:k<b.length) (q:k<t.length),EK t[k]/\0<=b[k]/\b[k]<Df t[k]) :
  ∀ k (p:k<(a ++ b).length) (q:k<(s ++ t).length),EK (s ++ t)[k]/\0<=(a ++ b)[k]/\(a ++ b)[k]<Df (s ++ t)[k]:=fun k p q=>by
 by_cases hk:k<a.length
 ·rw [List.getElem_append_left hk,List.getElem_append_left (by omega)];exact h1 k hk (by omega)
 ·rw [List.getElem_append_right (by omega),List.getElem_append_right (by omega)];have:=h2 (k - a.length) (by rw [Ai] at p;omega) (by rw [Ai] at q;omega);simpa only [ha] using this
theorem WI {x y:Int} (h1:0<=x/\x<256) (h2:0<=y/\y<4294967296):∀ k (_:k < [x,y].length) (_:k<([1,4]:List Int).length),EK ([1,4]:List Int)[k]/\0<= [x,y][k]/\ [x,y][k]<Df ([1,4]:List Int)[k]:=fun k p _=>by
 have hk:k=0\/k=1:=by simp at p;omega
 rcases hk with rfl | rfl
 ·exact⟨.inl rfl,h1⟩
 ·exact⟨.inr (.inr rfl),h2⟩
theorem Xz {g:Geo} {h:Hm} (hg:Bq g=true) (hh:DL g h=true):(NX h).length=g.d.toNat+6:=by
 obtain⟨h1,_⟩:=QU hg hh;rw [K8,tot_rowB _ _ (by rw [Ai,K1];try rfl),Kz,h1]
theorem V4 {g:Geo} {h:Hm} (hg:Bq g=true) (hh:DL g h=true) (r:List UInt8):JI (g.d.toNat+1) (NX h ++ r)=h:=by
 obtain⟨h1,h2,h3,h4⟩:=QU hg hh;have e:nums (Qi (g.d.toNat+1)) (NX h ++ r)=h.places ++ [h.next,h.root]:=by
  rw [<-h1,K8];refine nums_rowB _ _ _ (by rw [Ai,K1];try rfl) ?_;rw [Qi,MJ,A7];exact XB (IU _).symm (Vj h2) (WI h3 h4)
 unfold JI;rw [e,<-h1];obtain⟨p,n,ro⟩:=h;simp [Ab]
theorem K7 {g:Geo} (hg:Bq g=true):∀ (l:List Hm),(∀ h∈l,DL g h=true)->En (g.d.toNat+1) l.length (l.map NX).flatten=l/\(l.map NX).flatten.length=l.length*(g.d.toNat+6)
 | [],_=>⟨rfl,by simp⟩
 | h::l,hh=>by
  obtain⟨ih,ih2⟩:=K7 hg l fun x hx=>hh x (by simp [hx])
  have hB:=Xz hg (hh h (by simp));refine⟨?_,by simp only [A8,AP,Ai,ih2,hB,Ap,Bw];omega⟩;simp only [En,A8,AP,Ap,List.range_succ_eq_map,List.map_map];rw [Nat.mul_zero,List.drop_zero,V4 hg (hh h (by simp))];congr 1;refine Eq.trans (Cn fun i _=>?_) ih;simp only [Function.comp,Nat.succ_eq_add_one];rw [show (g.d.toNat+1+5)*(i+1)=(NX h).length+(g.d.toNat+1+5)*i by rw [hB,Nat.mul_succ];omega,Ch];rw [AG (by omega),Bu,Nat.add_sub_cancel_left]
theorem SK {g:Geo} {a:An} (hg:Bq g=true) (ha:Bv g a=true):EM g (LY a)=some a:=by
 obtain⟨g1,g2,g3,g4,g5⟩:=Ar.1 hg;have ha0:=ha;simp only [Bv,Ad,decide_eq_true_eq,AX,BD,Bx,AD,Av] at ha;obtain⟨⟨q1,q2,q3,q4⟩,_,_,q5,q6,q7,q8⟩:=ha;have hz:a.homes.length=g.z.toNat:=by omega
 obtain⟨e1,e2⟩:=K7 hg a.homes q8;have hf:∀ k (p:k<(Mp a).length) (q:k<szA.length),EK szA[k]/\0<=(Mp a)[k]/\(Mp a)[k]<Df szA[k]:=fun k p q=>by
  have hk:k=0\/k=1\/k=2\/k=3\/k=4:=by simp [Mp] at p;omega
  have l4:Df 4=4294967296:=rfl;have l1:Df 1=256:=rfl;rcases hk with rfl | rfl | rfl | rfl | rfl
  ·exact⟨.inr (.inr rfl),q1.1,by show a.gen<Df 4;omega⟩
  ·exact⟨.inr (.inr rfl),q2.1,by show a.epoch<Df 4;omega⟩
  ·exact⟨.inr (.inr rfl),q3.1,by show a.seq<Df 4;omega⟩
  ·exact⟨.inr (.inr rfl),q4.1,by show a.last<Df 4;omega⟩
  ·exact⟨.inl rfl,q5.1,by show a.pos<Df 1;omega⟩
 have hn:nums szA (LY a)=Mp a:=by
  rw [LY,A7];exact nums_rowB _ _ _ rfl hf
 have h17:(rowB (Mp a) szA).length=17:=tot_rowB _ _ rfl;have hd:(LY a).drop 17=HY a.label ++ (a.homes.map NX).flatten:=by
  rw [LY,A7,<-h17,Ch,AG (Ah _),CI];simp
 have hlen:(LY a).length=17+(1+a.label.size)+g.z.toNat*(g.d.toNat+6):=by
  rw [LY,Ai,Ai,h17,Gv,e2,hz]
 have hdu:(LY a).drop (17+(1+a.label.size))=(a.homes.map NX).flatten:=by
  rw [<-AT,hd,<-Gv,Ch,AG (Ah _),CI];simp
 have ho:LW (g.d.toNat+1) g.z.toNat (LY a) a.label (1+a.label.size)=a:=by
  unfold LW;rw [hn,hdu,<-hz,e1];try rfl
 unfold EM;rw [if_neg (by omega),hd,Ta q6];simp only;rw [if_neg (by omega),ho,if_pos ha0]
theorem Q7 {g:Geo} {b:List UInt8} {a:An} (hg:Bq g=true) (h:EM g b=some a):Bv g a=true/\LY a=b:=by
 obtain⟨g1,g2,g3,g4,g5⟩:=Ar.1 hg;unfold EM at h;split at h
 ·cases h
 ·rename_i h17;split at h
  ·cases h
  ·rename_i s u hl;split at h
   ·cases h
   ·rename_i hlen;split at h
    ·rename_i hok;cases h;refine⟨hok,?_⟩;have hm:(g.d.toNat+1+5)*g.z.toNat=g.z.toNat*(g.d.toNat+6):=Nat.mul_comm _ _;rw [W0 _ _ _ _ _ (by omega) hl (by omega),Aw (by omega)]
    ·cases h
end
section
open Go.Lib

end
end Go.Proofs.YtepdhdfoipephaaGreatDoor.A
namespace Go.Proofs.YtepdhdfoipephaaGreatDoor
section
open Go.RowKit
attribute [local go_sem ↓] Go.wp_at_zero Go.wp_at_succ

theorem Ih {P:Program} {w:World} {ops:Array Oper} {rest:List Oper} {o:Oper} {a:Act} {Q:Exit->Act->World->Prop} (hgd:o.guard=none) (d s:Operand) (t t':TypeId)
  (ho:o.op = .call { callee:= .builtin .append,args:= #[d,s],argTypes:= #[t,t'] }) {v u:Value} (hd:a.eval d=v) (hs:a.eval s=u) {v':Value} {w':World}
  (hr:(Builtin.append_ #[t,t'] o.type #[v,u]).run P w = .ok v' w') (h:wpList P ops Q rest (a.put o.dst v') w'):wpList P ops Q (o::rest) a w:=by
 refine wpList_plain hgd fun _ hK=>?_
 unfold Oper.wp execOp;simp only [ho,resolve,invoke,builtin,Sem.run_bind,Sem.run_pure,Result.andThen_ok,List.map_toArray,A8,BM,hd,hs,hr];exact hK _ _ h
theorem Ra (w:World) (M:Ms) (n:Int) (x:UInt8) (hx:n=(x.toNat:Int)) (s:ByteArray):Elems (Rp.sz UInt8) (Rp.E w M) ([Value.int .u8 n] ++ Lib.strCells s) (x::s.data.toList):=by
 subst hx;refine⟨[.int .u8 x.toNat],_,rfl,rfl,rfl,?_⟩;unfold Lib.strCells;induction s.data.toList with
 | nil=>rfl
 | cons y l ih=>exact⟨[.int .u8 y.toNat],_,rfl,rfl,rfl,ih⟩

theorem SC (s:ByteArray) (w:World) (M:Ms) (hs:s.size<=255) :
  Calls Tryz.prog 249 #[.string s] w fun e w'=>∃ r,e = .returned r/\OwR w' M w.heap.size 5 r (UInt8.ofNat s.size::s.data.toList)/\Below w.heap.size w w':=by
 obtain⟨i,h1,h2,h3,h4⟩:=info_parts (show (Tryz.prog.info? 5).map (fun i=>(i.zero,i.size,i.bytes))=some (some (.int .u8 0),1,1) by kernel_rfl);have hw8:IntKind.u8.wrap (s.size:Int)=s.size:=by rw [IntKind.wrap_u8];omega
 have hN:(s.size:Int)=((UInt8.ofNat s.size).toNat:Int):=by simp;omega
 have hB:=(Below.refl w.heap.size w).alloc (Ah _) (.cells #[Value.int .u8 (s.size:Int)] 5);have ho:(w.alloc (.cells #[Value.int .u8 (s.size:Int)] 5)).ownsRow w.heap.size 5 1 (.slice (some ⟨w.heap.size,0,none⟩) 1 1) 1 [.int .u8 (s.size:Int)]:=
  ⟨rfl, .inr ⟨w.heap.size,1,_,rfl,Ah _,heap_alloc_new w _,Ah _,by decide,rfl,rfl⟩⟩
 obtain⟨v',w',hr,hr2,hr3,_⟩:=Lib.run_append_own_string (P:=Tryz.prog) (w.alloc (.cells #[Value.int .u8 (s.size:Int)] 5)) w.heap.size 47 9 47 5 i Tryz.underlying47 Tryz.underlying9 h1 h2 h3 h4 _ 1 _ ho s (by unfold maxLen;omega) (by omega) hB.size;have HO:=Lib.hid (Af (⟨_,by simp only [Ap,Array.length_toList];rw [CJ];exact hr2,Ra _ _ _ _ hN s⟩:OwR w' M w.heap.size 5 v' (UInt8.ofNat s.size::s.data.toList)) (hB.grown hr3 hB.size (fun b e=>by cases e;exact Ah _)));clear hr2 hr3 ho hB hN h1 h2 h3 h4
 go_enter Tryz.func249,Tryz.ntmps249
 go_wp2_with (at_builtin;refine Ih rfl _ _ _ _ rfl (by rfl) (by rfl) hr ?_)
 go_ret
 exact⟨_,rfl,HO.out⟩
end
section

theorem Ox {n:Int} (h:0<=n):Da (H_ n)=n:=by
 unfold Da H_;split <;> split <;> omega
theorem Y1 (R:List UInt8):∃ x y:Nat,nums [1,1] R=[(x:Int),(y:Int)]:=⟨_,_,rfl⟩
theorem QR {R:List UInt8} (h:R.length=3+Cg (R.drop 2)):Hw (GZ R)=R:=by
 obtain⟨x,y,hxy⟩:=Y1 R;have h1:=rowB_nums [1,1] R (by show 2<=_;omega);rw [hxy] at h1;have h2:(R.take (tot [1,1]))=R.take 2:=rfl;rw [h2] at h1;have h3:GZ R=⟨x,H_ y,((R.drop 2).drop 1).take (Cg (R.drop 2))⟩:=by unfold GZ;rw [hxy];try rfl
 rw [h3,Hw];simp only;rw [Ox (by omega),h1];have hl:(R.drop 2).length=1+Cg (R.drop 2):=by rw [Ak];omega
 have h4:UInt8.ofNat (((R.drop 2).drop 1).take (Cg (R.drop 2))).length::((R.drop 2).drop 1).take (Cg (R.drop 2))=R.drop 2:=by
  cases hd:R.drop 2 with
  | nil=>rw [hd] at hl;simp at hl;omega
  | cons u t=>
   rw [hd] at hl;have hp:Cg (u::t)=u.toNat:=rfl;rw [hp] at hl |-
   have ht:t.length=u.toNat:=by simp at hl;omega
   show UInt8.ofNat (t.take u.toNat).length::t.take u.toNat=u::t;rw [Aw (by omega),ht];congr 1;simp
 rw [h4,Ca]
theorem OO {b:List UInt8} (h11:11<=b.length) (h:if (D8 b).kind=1 then b.length=14+Cg (b.drop 13) else b.length=11):Ek (D8 b)=b:=by
 obtain⟨k,s,e,a,o,hn,hp⟩:=XV b;have h1:=rowB_nums szR b (by show 11<=_;omega);have h2:(b.take (tot szR))=b.take 11:=rfl;rw [hn,h2] at h1;rw [hp] at h |-
 simp only at h;rw [Ek];show rowB [k,s,e,a,o] szR ++ _=b;rw [h1];simp only;by_cases hk:k=1
 ·rw [if_pos hk] at h |-
  rw [if_pos hk,QR (by simp only [Ak,AT,Nat.reduceAdd];omega),Ca]
 ·rw [if_neg hk] at h |-
  rw [AM,Aw (by omega)]
theorem ME {g:Geo} {b:List UInt8} (h11:11<=b.length) (h:if (D8 b).kind=1 then b.length=14+Cg (b.drop 13) else b.length=11) :
  F9 g b=if DP g (D8 b)=true then some (D8 b) else none:=by
 unfold F9;by_cases hok:DP g (D8 b)=true
 ·rw [if_pos hok,if_pos];refine⟨h11,fun hk=>?_,hok,OO h11 h⟩;rw [if_pos hk] at h;simp only [IJ,ES,Ad,decide_eq_true_eq,Ak,AT,Nat.reduceAdd];omega
 ·rw [if_neg hok,if_neg];exact fun h'=>hok h'.2.2.1
theorem OQ {g:Geo} {b:List UInt8} (h:b.length<11):F9 g b=none:=by
 unfold F9;rw [if_neg];omega
theorem J4 {g:Geo} {b:List UInt8} (_h11:11<=b.length) (h:¬(if (D8 b).kind=1 then b.length=14+Cg (b.drop 13) else b.length=11)):F9 g b=none:=by
 unfold F9;rw [if_neg];rintro⟨-,h2,h3,h4⟩;have hl:=IR h3;rw [h4] at hl;by_cases hk:(D8 b).kind=1
 ·rw [if_pos hk] at h hl;have hs:=h2 hk;simp only [IJ,ES,Ad,decide_eq_true_eq,Ak,AT,Nat.reduceAdd] at hs;have hi:(D8 b).img=GZ (b.drop 11):=by
   obtain⟨k,s,e,a,o,hn,hp⟩:=XV b;rw [hp] at hk |-
   simp only at hk |-
   rw [if_pos hk]
  rw [hi] at hl;simp only [GZ,As,Ak,AT,Nat.reduceAdd] at hl;omega
 ·rw [if_neg hk] at h hl;omega
theorem Pb {b:List UInt8} (h11:11<=b.length):D8 b=⟨(b[0].toNat:Nat),(leN ((b.drop 1).take 4):Nat),(leN ((b.drop 5).take 4):Nat),(b[9].toNat:Nat),(b[10].toNat:Nat),if (b[0].toNat:Int)=1 then GZ (b.drop 11) else noImg⟩:=by
 have e1:∀ i (h:i<b.length),leN ((b.drop i).take 1)=b[i].toNat:=fun i h=>by
  rw [A_ h];show b[i].toNat+256*0=b[i].toNat;omega
 have hn:nums szR b=[((leN (b.take 1):Nat):Int),((leN ((b.drop 1).take 4):Nat):Int),((leN ((b.drop 5).take 4):Nat):Int),((leN ((b.drop 9).take 1):Nat):Int),((leN ((b.drop 10).take 1):Nat):Int)]:=by
  simp [nums,AT]
 unfold D8;rw [hn];have e0:=e1 0 (by omega);rw [List.drop_zero] at e0;rw [e0,e1 9 (by omega),e1 10 (by omega)];try rfl
theorem F3 {b:List UInt8} (h:b.length=14+Cg (b.drop 13)):GZ (b.drop 11)=⟨((b[11]'(by omega)).toNat:Nat),H_ ((b[12]'(by omega)).toNat:Nat),b.drop 14⟩:=by
 have e1:∀ i (h:i<b.length),leN ((b.drop i).take 1)=b[i].toNat:=fun i h=>by
  rw [A_ h];show b[i].toNat+256*0=b[i].toNat;omega
 have hn:nums [1,1] (b.drop 11)=[((leN ((b.drop 11).take 1):Nat):Int),((leN ((b.drop 12).take 1):Nat):Int)]:=by
  simp [nums,AT]
 unfold GZ;rw [hn,e1 11 (by omega),e1 12 (by omega)];simp only [AT,Nat.reduceAdd];rw [Aw (by rw [Ak];omega)];try rfl
end
section
open Go.RowKit

theorem Pa {b:List UInt8} {i:Nat} (h:i<b.length):Cg (b.drop i)=b[i].toNat:=by
 rw [A_ h];try rfl
end
section

def polyN:Nat:=2197175160
def F7 (r:Nat):Nat:=r / 2 ^^^ (if r % 2=1 then polyN else 0)
def stepsC:Nat->Nat->Nat
 | 0,r=>r
 | k+1,r=>F7 (stepsC k r)
def Fc (r:Nat):Nat:=stepsC 8 r
def FH (r:Nat) (b:List UInt8):Nat:=b.foldl (fun r c=>Fc (r ^^^ c.toNat)) r
def CS (b:List UInt8):Nat:=4294967295 - FH 4294967295 b

theorem KG {a b:Nat} (ha:a<4294967296) (hb:b<4294967296):a ^^^ b<4294967296:=Nat.xor_lt_two_pow (n:=32) ha hb
theorem U3 {r:Nat} (h:r<4294967296):F7 r<4294967296:=by
 unfold F7;apply KG
 ·omega
 ·split <;> decide
theorem stepsC_lt:∀ (k:Nat) {r:Nat},r<4294967296->stepsC k r<4294967296
 | 0,_,h=>h
 | k+1,_,h=>U3 (stepsC_lt k h)
theorem Nl {r:Nat} (h:r<4294967296):Fc r<4294967296:=stepsC_lt 8 h
theorem foldC_lt:∀ (b:List UInt8) {r:Nat},r<4294967296->FH r b<4294967296
 | [],_,h=>h
 | c::b,r,h=>by
  have hc:c.toNat<4294967296:=by have:=c.toNat_lt;omega
  exact foldC_lt b (Nl (KG h hc))
theorem H8 (b:List UInt8):CS b<=4294967295:=by unfold CS;omega
theorem Uk (a b:Nat):(a ^^^ b) / 2=a / 2 ^^^ b / 2:=Nat.xor_div_two
theorem WE (a b:Nat):(a ^^^ b) % 2=(a+b) % 2:=by
 have h:=Nat.xor_mod_two_pow (a:=a) (b:=b) (n:=1);simp only [Nat.pow_one] at h;rw [h];rcases C4 a with ha | ha <;> rcases C4 b with hb | hb <;> rw [ha,hb] <;> (first | (show (0:Nat)=_;omega) | (show (1:Nat)=_;omega))
theorem Sx (a b:Nat):F7 (a ^^^ b)=F7 a ^^^ F7 b:=by
 unfold F7;rw [Uk,WE];have hx:∀ x y p q:Nat,(x ^^^ p) ^^^ (y ^^^ q)=(x ^^^ y) ^^^ (p ^^^ q):=fun x y p q=>by
  rw [Nat.xor_assoc,Nat.xor_assoc,<-Nat.xor_assoc p,Nat.xor_comm p y,Nat.xor_assoc]
 rw [hx];congr 1;rcases C4 a with ha | ha <;> rcases C4 b with hb | hb
 ·rw [if_neg (by omega),if_neg (by omega),if_neg (by omega)];try rfl
 ·rw [if_pos (by omega),if_neg (by omega),if_pos (by omega)];exact(Nat.zero_xor _).symm
 ·rw [if_pos (by omega),if_pos (by omega),if_neg (by omega)];exact(Nat.xor_zero _).symm
 ·rw [if_neg (by omega),if_pos (by omega),if_pos (by omega)];exact(Nat.xor_self _).symm
theorem stepsC_xor:∀ (k a b:Nat),stepsC k (a ^^^ b)=stepsC k a ^^^ stepsC k b
 | 0,_,_=>rfl
 | k+1,a,b=>by simp only [stepsC];rw [stepsC_xor k,Sx]
theorem Du (x:Nat):F7 (2*x)=x:=by
 unfold F7;rw [if_neg (by omega),Nat.mul_div_cancel_left x (by omega)];exact Nat.xor_zero x
theorem stepsC_succ:∀ (k r:Nat),stepsC (k+1) r=stepsC k (F7 r)
 | 0,_=>rfl
 | k+1,r=>by rw [stepsC,stepsC_succ k r];rfl
theorem P8 (x:Nat):Fc (256*x)=x:=by
 unfold Fc;rw [show 256*x=2*(128*x) by omega,stepsC_succ,Du,show 128*x=2*(64*x) by omega,stepsC_succ,Du,show 64*x=2*(32*x) by omega,stepsC_succ,Du,
  show 32*x=2*(16*x) by omega,stepsC_succ,Du,show 16*x=2*(8*x) by omega,stepsC_succ,Du,show 8*x=2*(4*x) by omega,stepsC_succ,Du,
  show 4*x=2*(2*x) by omega,stepsC_succ,Du,stepsC_succ,Du]
 rfl
theorem Ql (r:Nat):r=256*(r / 256) ^^^ r % 256:=by
 have h:r % 256<2 ^ 8:=by omega
 have h1:=Nat.two_pow_add_eq_or_of_lt h (r / 256);have h2:2 ^ 8*(r / 256) ||| r % 256=2 ^ 8*(r / 256) ^^^ r % 256:=by
  apply Nat.eq_of_testBit_eq;intro i;rw [Nat.testBit_or,Nat.testBit_xor];by_cases hi:i<8
  ·rw [Nat.testBit_two_pow_mul];simp [show ¬8<=i by omega]
  ·have:(r % 256).testBit i=false:=Nat.testBit_lt_two_pow (Aq h (Nat.pow_le_pow_right (by omega) (by omega)));rw [this];simp
 calc r=2 ^ 8*(r / 256)+r % 256:=by omega
  _=2 ^ 8*(r / 256) ||| r % 256:=h1
  _=256*(r / 256) ^^^ r % 256:=h2
theorem P9 (r c:Nat):Fc (r ^^^ c)=r / 256 ^^^ Fc (r % 256 ^^^ c):=by
 conv=>lhs;rw [Ql r,Nat.xor_assoc]
 unfold Fc;rw [stepsC_xor];congr 1;exact P8 _
theorem QW (r:Nat) (b:List UInt8) (c:UInt8):FH r (b ++ [c])=Fc (FH r b ^^^ c.toNat):=by simp [FH]
theorem LB {r:Nat} {b:List UInt8} {k:Nat} (hk:k<b.length):FH r (b.take (k+1))=Fc (FH r (b.take k) ^^^ b[k].toNat):=by
 rw [Bi,Ae hk];exact QW _ _ _
end
section
open Go.RowKit
attribute [local go_sem ↓] Go.wp_at_zero Go.wp_at_succ

theorem RV (a b:Nat) (ha:a<4294967296) (hb:b<4294967296):bits .xor .i64 (a:Int) (b:Int)=((a ^^^ b:Nat):Int):=by
 have ha':a % 2 ^ IntKind.i64.bits=a:=DE (show a<18446744073709551616 by omega);have hb':b % 2 ^ IntKind.i64.bits=b:=DE (show b<18446744073709551616 by omega);have h:=KG ha hb;simp only [bits,BitVec.ofInt_natCast,BitVec.toNat_xor,BitVec.toNat_ofNat,ha',hb'];rw [IntKind.wrap_i64];omega
theorem Xm (N:Nat) (h:N<4294967296):4294967295 ^^^ N=4294967295 - N:=by
 have e:=congrArg BitVec.toNat (BitVec.allOnes_xor (x:=BitVec.ofNat 32 N));rw [BitVec.toNat_xor,BitVec.toNat_not,BitVec.toNat_allOnes,BitVec.toNat_ofNat,DE h] at e;exact e
theorem Vn (N:Nat) (h:N<4294967296):bits .xor .u32 IntKind.u32.max (N:Int)=((4294967295 - N:Nat):Int):=by
 rw [<-Xm N h];exact u32_xor_nat 4294967295 N (by omega) h
theorem Xs (r:Nat):r&&&1=r % 2:=Nat.and_one_is_mod r
theorem Wg (r:Nat):r&&&255=r % 256:=Nat.and_two_pow_sub_one_eq_mod r 8

theorem VV (r:Nat) (w:World) (hr:r<4294967296):Calls Tryz.prog 277 #[.int .u32 r] w fun e w'=>e = .returned (.int .u32 (Fc r:Nat))/\w'=w:=by
 have hE:=Lib.hid (show Fc r=stepsC 8 r from rfl);rw [hE.out]
 go_enter Tryz.func277,Tryz.ntmps277
 go_wp2
 go_loopg [0,4] 8 (fun gk s0 s4 wr=>∃ k:Nat,s4 = .int .i64 k/\k<=8/\8 - k<=gk/\wr=w/\s0 = .int .u32 (stepsC k r:Nat))
 case atStart=>exact⟨0,rfl,by omega,by omega,rfl,rfl⟩
 case round=>
  obtain⟨k,rfl,hkl,hgk,rfl,rfl⟩:=hrel;by_cases hk:k<8
  ·have hk':(k:Int)<8:=by omega
   have hst:=Lib.hid (show stepsC (k+1) r=stepsC k r / 2 ^^^ (if stepsC k r % 2=1 then polyN else 0) from rfl);have hlt:=stepsC_lt k hr;obtain⟨N,hN⟩:∃ N,N=stepsC k r:=⟨_,rfl⟩;rw [<-hN] at hlt hst |-
   have hand:bits .and .u32 (N:Int) 1=((N % 2:Nat):Int):=by rw [<-Xs];exact u32_and_nat N 1 hlt (by omega)
   have hdiv:((N / 2:Nat):Int)=(N:Int) / 2:=by omega
   have hxor:bits .xor .u32 ((N:Int) / 2) 2197175160=((N / 2 ^^^ 2197175160:Nat):Int):=by rw [<-hdiv];exact u32_xor_nat (N / 2) 2197175160 (by omega) (by omega)
   have HD:=Lib.hid hdiv;clear hN hdiv;rcases C4 N with h2 | h2
   ·rw [h2,if_neg (by omega),Nat.xor_zero] at hst;rw [h2] at hand;have hand0:bits .and .u32 (N:Int) 1=0:=hand;clear h2 hxor hand
    go_wp2
    go_roundg (8 - (k+1))
    case measure=>omega
    case rel=>exact⟨k+1,by go_num,by omega,by omega,rfl,by rw [hst.out,HD.out]⟩
   ·rw [h2,if_pos rfl] at hst;rw [h2] at hand;have hand1:bits .and .u32 (N:Int) 1=1:=hand;clear h2 hand
    go_wp2
    go_roundg (8 - (k+1))
    case measure=>omega
    case rel=>exact⟨k+1,by go_num,by omega,by omega,rfl,by rw [hst.out];try rfl⟩
  ·obtain rfl:k=8:=by omega
   go_wp2
   go_ret
   exact tA

theorem Yz (v:Value) (b:List UInt8) (w:World) (Mi:Ms) (h:SlR w Mi v b):Calls Tryz.prog 257 #[.int .u32 4294967295,v] w fun e w'=>e = .returned (.int .u32 (FH 4294967295 b:Nat))/\w'=w:=by
 obtain⟨a,c,rfl⟩:=h.form;have hcap:=h.cap;have H:=Lib.hid h.bare;clear h
 go_enter Tryz.func257,Tryz.ntmps257
 go_wp2
 go_loopg [0,9] b.length (fun gk s0 s9 wr=>∃ k:Nat,s9 = .int .i64 k/\k<=b.length/\b.length - k<=gk/\wr=w/\s0 = .int .u32 (FH 4294967295 (b.take k):Nat))
 case atStart=>exact⟨0,rfl,by omega,by omega,rfl,rfl⟩
 case round=>
  obtain⟨k,rfl,hkl,hgk,rfl,rfl⟩:=hrel;by_cases hk:k<b.length
  ·have hk':(k:Int)<b.length:=by omega
   obtain⟨bb,off,rfl, -,x1⟩:=Uw H.out hk;have hst:=LB (r:=4294967295) hk;have hlt:=foldC_lt (b.take k) (r:=4294967295) (by omega);obtain⟨N,hN⟩:∃ N,N=FH 4294967295 (b.take k):=⟨_,rfl⟩;rw [<-hN] at hlt hst |-
   rw [P9] at hst;obtain⟨y,hy⟩:∃ y,y=b[k].toNat:=⟨_,rfl⟩;have hyl:y<256:=by rw [hy];exact b[k].toNat_lt
   rw [<-hy] at x1 hst;have hand:bits .and .u32 (N:Int) 255=((N % 256:Nat):Int):=by rw [<-Wg];exact u32_and_nat N 255 hlt (by omega)
   have hcy:IntKind.u32.wrap (y:Int)=y:=by rw [IntKind.wrap_u32];omega
   have hx1:bits .xor .u32 ((N % 256:Nat):Int) (y:Int)=((N % 256 ^^^ y:Nat):Int):=u32_xor_nat _ _ (by omega) (by omega);have hxl:N % 256 ^^^ y<4294967296:=KG (by omega) (by omega);obtain⟨X,hX⟩:∃ X,X=N % 256 ^^^ y:=⟨_,rfl⟩;rw [<-hX] at hx1 hxl hst;have hdn:=Lib.hid (VV X wr hxl);have hel:=Nl hxl;obtain⟨Z,hZ⟩:∃ Z,Z=Fc X:=⟨_,rfl⟩;rw [<-hZ] at hdn hel hst;have hdiv:((N / 256:Nat):Int)=(N:Int) / 256:=by omega
   have hx2:bits .xor .u32 ((N:Int) / 256) (Z:Int)=((N / 256 ^^^ Z:Nat):Int):=by rw [<-hdiv];exact u32_xor_nat _ _ (by omega) hel
   obtain⟨T,hT⟩:∃ T,T=N % 256:=⟨_,rfl⟩;rw [<-hT] at hand hx1;have hst:=Lib.hid hst;clear hN hy hX hZ hdiv hT
   go_wp2_with (go_at_call 277;go_must (with_reducible refine hdn.out.mono ?_);rintro e w1 ⟨rfl,rfl⟩)
   go_roundg (b.length - (k+1))
   case measure=>omega
   case rel=>exact⟨k+1,by go_num,by omega,by omega,rfl,by rw [hst.out]⟩
  ·obtain rfl:k=b.length:=by omega
   rw [Ay]
   go_wp2
   go_ret
   exact tA
theorem M3 (v:Value) (b:List UInt8) (w:World) (Mi:Ms) (h:SlR w Mi v b):Calls Tryz.prog 225 #[v] w fun e w'=>e = .returned (.int .i64 (CS b:Nat))/\w'=w:=by
 have hon:=Lib.hid (Yz v b w Mi h);have hE:=Lib.hid (show CS b=4294967295 - FH 4294967295 b from rfl);have hlt:=foldC_lt b (r:=4294967295) (by omega);obtain⟨N,hN⟩:∃ N,N=FH 4294967295 b:=⟨_,rfl⟩;rw [hE.out];rw [<-hN] at hon hlt |-
 obtain⟨a,c,rfl⟩:=h.form;have hnb:=Vn N hlt;obtain⟨T,hT⟩:∃ T,T=4294967295 - N:=⟨_,rfl⟩;have hTl:T<=4294967295:=by omega
 rw [<-hT] at hnb |-
 have hw:wrap64 (T:Int)=T:=by unfold wrap64;omega
 clear hE hN h hT
 go_enter Tryz.func225,Tryz.ntmps225
 go_wp2_with (go_at_call 257;go_must (with_reducible refine hon.out.mono ?_);rintro e w1 ⟨rfl,rfl⟩)
 go_ret
 exact tA
end
section
open Go.RowKit

end
section
open Go.RowKit
attribute [local go_sem ↓] Go.wp_at_zero Go.wp_at_succ

def Ei (addr stamp:Int) (p:List UInt8):List UInt8:=((UInt8.ofNat p.length::p) ++ leB 2 addr.toNat) ++ leB 4 stamp.toNat
def CA (addr stamp:Int) (p:List UInt8):List UInt8:=Ei addr stamp p ++ leB 4 (CS (Ei addr stamp p))
def WC (addr stamp:Int) (p:List UInt8):Prop:=0<=addr/\addr<=65535/\0<=stamp/\stamp<=4294967295/\p.length<=96

theorem Vs (addr stamp:Int) (v:Value) (p:List UInt8) (w:World) (Mi:Ms) (h:SlR w Mi v p) (hok:WC addr stamp p) :
  Calls Tryz.prog 238 #[.agg #[.int .i64 addr, .int .i64 stamp,v]] w fun e w'=>∃ r,e = .returned (.tuple #[r, .int .i64 0])/\OwR w' noM w.heap.size 5 r (CA addr stamp p)/\Below w.heap.size w w':=by
 obtain⟨a,c,rfl⟩:=h.form;obtain⟨h1,h2,h3,h4,h5⟩:=hok;have h1':¬addr<0:=by omega
 have h2':¬(65535:Int)<addr:=by omega
 have h3':¬stamp<0:=by omega
 have h4':¬(4294967295:Int)<stamp:=by omega
 have h5':¬(96:Int)<p.length:=by omega
 have hbA:=(Below.refl w.heap.size w).alloc (Ah _) (.cells #[.int .i64 addr, .int .i64 stamp, .slice a p.length c] 219);have HB:=Lib.hid hbA;have HQ:=Lib.hid (Blk.new w 219 #[.int .i64 addr, .int .i64 stamp, .slice a p.length c]);have hp1:=Lib.hid (O_ _ p (w.alloc (.cells #[.int .i64 addr, .int .i64 stamp, .slice a p.length c] 219)) noM noM (h.bare.mono (zr hbA)) (by omega));obtain⟨X1,hX1⟩:∃ X,X=UInt8.ofNat p.length::p:=⟨_,rfl⟩;rw [<-hX1] at hp1;have hl1:X1.length<=97:=by rw [hX1];simp;omega
 have HX1:=Lib.hid hX1;clear hX1 hbA h
 go_enter Tryz.func238,Tryz.ntmps238
 go_wp2_with fail
 ((with_reducible refine hp1.out.mono ?_);rintro e w1 ⟨r1,rfl,ho1,hB1⟩);have HB1:=Lib.hid (HB.out.trans (hB1.mono HB.out.size));have HQ1:=Lib.hid (HQ.out.below hB1);have hp2:=Lib.hid (K4 r1 X1 addr 2 w1 noM noM (ho1.sl (fun _ _ h=>h)) (.inr (.inl rfl)) (by omega) h1 (by show addr<65536;omega));obtain⟨X2,hX2⟩:∃ X,X=X1 ++ leB (Int.toNat 2) addr.toNat:=⟨_,rfl⟩;rw [<-hX2] at hp2;have hl2:X2.length<=99:=by rw [hX2,Ai,leB_len];show _+2<=_;omega
 have HX2:=Lib.hid hX2;clear hX2 hB1 hp1 ho1 HB HQ;obtain⟨q1,q2,q3⟩:=HQ1.out.all
 go_wp2_with fail
 clear q1 q2 q3;((with_reducible refine hp2.out.mono ?_);rintro e w2 ⟨r2,rfl,ho2,hB2⟩);have HB2:=Lib.hid (HB1.out.trans (hB2.mono HB1.out.size));have HQ2:=Lib.hid (HQ1.out.below hB2);have hp3:=Lib.hid (K4 r2 X2 stamp 4 w2 noM noM (ho2.sl (fun _ _ h=>h)) (.inr (.inr rfl)) (by omega) h3 (by show stamp<4294967296;omega));obtain⟨X3,hX3⟩:∃ X,X=X2 ++ leB (Int.toNat 4) stamp.toNat:=⟨_,rfl⟩;rw [<-hX3] at hp3;have hl3:X3.length<=103:=by rw [hX3,Ai,leB_len];show _+4<=_;omega
 have HX3:=Lib.hid hX3;clear hX3 hB2 hp2 ho2 HB1 HQ1;obtain⟨q1,q2,q3⟩:=HQ2.out.all
 go_wp2_with fail
 clear q1 q2 q3;((with_reducible refine hp3.out.mono ?_);rintro e w3 ⟨r3,rfl,ho3,hB3⟩);have HB3:=Lib.hid (HB2.out.trans (hB3.mono HB2.out.size));have hsm:=Lib.hid (M3 r3 X3 w3 noM (ho3.sl (fun _ _ h=>h)));have hsl:=H8 X3;have hp4:=Lib.hid (K4 r3 X3 (CS X3:Nat) 4 w3 noM noM (ho3.sl (fun _ _ h=>h)) (.inr (.inr rfl)) (by omega) (by omega) (by show ((CS X3:Nat):Int)<4294967296;omega));clear hB3 hp3 ho3 HB2 HQ2 hsl
 go_wp2_with fail
 ((with_reducible refine hsm.out.mono ?_);rintro e w4 ⟨rfl,rfl⟩)
 go_wp2_with fail
 ((with_reducible refine hp4.out.mono ?_);rintro e w5 ⟨r5,rfl,ho5,hB5⟩);have HX:=Lib.hid (Af (ho5.mono_base (base':=w.heap.size) HB3.out.size) (HB3.out.trans (hB5.mono HB3.out.size)));clear ho5 hB5 hp4
 go_wp2
 go_ret2
 refine⟨_,rfl,?_,HX.out.2⟩;have hf:=HX.out.1;rw [HX3.out,HX2.out,HX1.out] at hf;exact hf
end
section
open Go.RowKit
def Hp (g:Geo) (copy slot:Int):Bool:=C2 copy 0 1&&C2 slot 0 (g.sl - 1)
def AU (g:Geo) (copy slot:Int):Int:=g.an+copy*g.sl+slot
def BV (g:Geo) (r:Rc) (copy slot:Int):List UInt8:=CA (AU g copy slot) r.seq (Ek r)
theorem GK {g:Geo} {copy slot:Int} (hg:Bq g=true) (hl:Hp g copy slot=true):0<=AU g copy slot/\AU g copy slot<=65535:=by
 obtain⟨-, -, -,hs,ha⟩:=Ar.1 hg;simp only [Hp,Ad,AD] at hl;unfold AU;rcases(show copy=0\/copy=1 by omega) with rfl | rfl <;> omega
theorem NR {g:Geo} {r:Rc} (h:DP g r=true):0<=r.seq/\r.seq<=4294967295:=by
 rcases(EY h).2 with h' | h' | h' <;> omega
def zeroC:Rc:=⟨0,0,0,0,0,⟨0,0, []⟩⟩
end
end Go.Proofs.YtepdhdfoipephaaGreatDoor
namespace Go.Proofs.YtepdhdfoipephaaGreatDoor.A
section
open Go.RowKit
def RS (x:AV) (H R:List AB) (k:AV->List AB->List AB->Prop):Prop:=
 match x with
 | .v u=>k (.v u) H R
 | .sl sz n get=>k (.sl sz n get) H R
 | .ow j n=>match hget H j with
  | some (.row t sz es)=>setK j .dead H fun H=>snocK R (.row t sz es) 0 fun i R=>k (.ow i n) H R
  | _=>False
 | _=>False
def openC:List AV->List AB->List AB->(List AV->List AB->List AB->Prop)->Prop
 | [],H,R,k=>k [] H R
 | x::l,H,R,k=>RS x H R fun x H R=>openC l H R fun l H R=>k (x::l) H R
def RR (x:AV) (H R:List AB) (k:AV->List AB->List AB->Prop):Prop:=
 match x with
 | .ag cs=>openC cs H R fun cs H R=>k (.ag cs) H R
 | x=>RS x H R k
def openL:List AV->List AB->List AB->(List AV->List AB->List AB->Prop)->Prop
 | [],H,R,k=>k [] H R
 | x::l,H,R,k=>RR x H R fun x H R=>openL l H R fun l H R=>k (x::l) H R
def RQ (x:AV) (H:List AB) (k:AV->List AB->Prop):Prop:=
 match x with
 | .tp l=>openL l H [] fun l _ R=>k (.tp l) R
 | x=>RR x H [] fun x _ R=>k x R

section
variable {w0:Fl} {M0:Ms} {c cr:Ctx} {H R:List AB}
theorem HS.kill (h:HS w0 M0 c H) (k:Nat):HS w0 M0 c (H.set k .dead):=by
 have hget:∀ j y,(H.set k .dead)[j]? = some y->y.live=true->j≠k/\H[j]? = some y:=by
  intro j y hj hl;by_cases hjk:j=k
  ·subst hjk;by_cases hlt:j<H.length
   ·rw [AE hlt] at hj;cases hj;cases hl
   ·rw [AH (by simp;omega)] at hj;cases hj
  ·rw [AC (Ne.symm hjk)] at hj;exact⟨hjk,hj⟩
 refine⟨h.low,h.base,by simp [h.dom],h.foreign,h.lt,fun j y hj=>?_,fun j y g hj hl ho=>?_,fun i j y z g hi hj hly hlz hoi hoj=>?_⟩
 ·cases hy:y.live with
  | false=>cases y <;> simp [AB.live] at hy;trivial
  | true=>exact h.blk j y (hget j y hj hy).2
 ·exact h.own j y g (hget j y hj hl).2 hl ho
 ·exact h.dis i j y z g (hget i y hi hly).2 (hget j z hj hlz).2 hly hlz hoi hoj

structure OpenSt (w0:Fl) (M0:Ms) (c:Ctx) (H:List AB) (cr:Ctx) (R:List AB):Prop where
 hs:HS w0 M0 c H
 hr:HS w0 M0 cr R
 w:cr.w=c.w
 M:cr.M=c.M
 dis:∀ i k x y g,R[i]? = some x->H[k]? = some y->x.live=true->y.live=true->oB (cr.rho i)=some g->oB (c.rho k)=some g->False
 rows:∀ x∈R,∃ t sz es,x = .row t sz es
theorem OpenSt.ext (h:OpenSt w0 M0 c H cr R):Ext c.closed cr:=
 ⟨by simp [Ctx.closed,h.w],by simp [Ctx.closed,h.w],by simp [Ctx.closed,h.w],by simp [Ctx.closed,h.w],fun b _ hm=>⟨by rw [h.M];exact hm,by simp [Ctx.closed,h.w]⟩,Aj _,fun k hk=>absurd hk (Ao k),fun k hk=>absurd hk (Ao k),fun k _ hk=>absurd hk (Ao k)⟩
theorem OpenSt.take (h:OpenSt w0 M0 c H cr R) {j:Nat} {t:TypeId} {sz:Nat} {es:List (List AV)} (hj:H[j]? = some (.row t sz es)) :
  ∃ cr',OpenSt w0 M0 c (H.set j .dead) cr' (R ++ [.row t sz es])/\Ext cr cr'/\∀ n u,Rd (.ow j n) c u->Rd (.ow R.length n) cr' u:=by
 let cr':Ctx:={ cr with dom:=cr.dom+1,rho:=fun k=>if k=cr.dom then c.rho j else cr.rho k,len:=fun k=>if k=cr.dom then c.len j else cr.len k };have hrho:∀ k,k<cr.dom->cr'.rho k=cr.rho k:=fun k hk=>by simp only [cr'];rw [if_neg (by omega)]
 have hlen:∀ k,k<cr.dom->cr'.len k=cr.len k:=fun k hk=>by simp only [cr'];rw [if_neg (by omega)]
 have hrd:cr'.rho cr.dom=c.rho j:=by simp [cr']
 have hrl:cr'.len cr.dom=c.len j:=by simp [cr']
 have e:Ext cr cr':=⟨rfl,rfl,rfl,Ah _,fun _ _ hm=>⟨hm,rfl⟩,Nat.le_succ _,fun k hk=>by rw [hlen k hk];exact Ah _,fun k hk _=>hrho k hk,fun k g hk hg=>by rw [hrho k hk];exact hg⟩;have hget:∀ k y,(R ++ [AB.row t sz es])[k]? = some y->(k<cr.dom/\R[k]? = some y)\/(k=cr.dom/\y = .row t sz es):=by
  intro k y hk;rw [h.hr.dom];rcases Nat.lt_trichotomy k R.length with hlt | rfl | hgt
  ·rw [AA hlt] at hk;exact .inl ⟨hlt,hk⟩
  ·simp at hk;exact .inr ⟨rfl,hk.symm⟩
  ·rw [AH (by simp;omega)] at hk;cases hk
 have hset:∀ k y,(H.set j .dead)[k]? = some y->y.live=true->k≠j/\H[k]? = some y:=by
  intro k y hk hl;by_cases hjk:k=j
  ·subst hjk;rw [AE (At.1 hj).1] at hk;cases hk;cases hl
  ·rw [AC (Ne.symm hjk)] at hk;exact⟨hjk,hk⟩
 have hcl:Ext c.closed cr'.closed:=⟨by simp [Ctx.closed,cr',h.w],by simp [Ctx.closed,cr',h.w],by simp [Ctx.closed,cr',h.w],by simp [Ctx.closed,cr',h.w],fun b _ hm=>⟨by simp only [Ctx.closed,cr'];rw [h.M];exact hm,by simp [Ctx.closed,cr',h.w]⟩,Aj _,fun k hk=>absurd hk (Ao k),fun k hk=>absurd hk (Ao k),fun k _ hk=>absurd hk (Ao k)⟩;refine⟨cr',⟨h.hs.kill j,⟨h.hr.low,h.hr.base,by simp [cr',h.hr.dom],h.hr.foreign,h.hr.lt,fun k y hk=>?_,fun k y g hk hl ho=>?_,fun i k y z g hi hk hly hlz hoi hok=>?_⟩,h.w,h.M,fun i k x y g hi hk hlx hly hoi hok=>?_,fun x hx=>?_⟩,e,fun n u hu=>?_⟩
 ·rcases hget k y hk with ⟨hlt,hk'⟩ | ⟨rfl,rfl⟩
  ·exact zu e rfl hlt (hlen k hlt) (fun _ _ _=>rfl) (h.hr.blk k y hk')
  ·obtain⟨h1,h2,h3,xs,h4,h5,h6⟩:=h.hs.blk j _ hj;refine⟨by rw [hrl];exact h1,h2,h3,xs,?_,RdL.ext _ hcl h5,h6⟩;rw [hrd,show cr'.w=c.w from h.w,show cr'.base=c.base from h.hr.base.trans h.hs.base.symm];exact h4
 ·rcases hget k y hk with ⟨hlt,hk'⟩ | ⟨rfl,rfl⟩
  ·rw [hrho k hlt] at ho;exact h.hr.own k y g hk' hl ho
  ·rw [hrd] at ho;have:=h.hs.own j _ g hj rfl ho;exact⟨by show cr.M g;rw [h.M];exact this.1,this.2⟩
 ·rcases hget i y hi with ⟨hlt,hi'⟩ | ⟨rfl,rfl⟩ <;> rcases hget k z hk with ⟨hlt2,hk'⟩ | ⟨rfl,rfl⟩
  ·rw [hrho i hlt] at hoi;rw [hrho k hlt2] at hok;exact h.hr.dis i k y z g hi' hk' hly hlz hoi hok
  ·rw [hrho i hlt] at hoi;rw [hrd] at hok;exact(h.dis i j y _ g hi' hj hly rfl hoi hok).elim
  ·rw [hrd] at hoi;rw [hrho k hlt2] at hok;exact(h.dis k j z _ g hk' hj hlz rfl hok hoi).elim
  ·rfl
 ·obtain⟨hkj,hk'⟩:=hset k y hk hly;rcases hget i x hi with ⟨hlt,hi'⟩ | ⟨rfl,rfl⟩
  ·rw [hrho i hlt] at hoi;exact h.dis i k x y g hi' hk' hlx hly hoi hok
  ·rw [hrd] at hoi;exact hkj (h.hs.dis k j y _ g hk' hj hly rfl hok hoi)
 ·rcases A3.1 hx with hx | hx
  ·exact h.rows x hx
  ·exact⟨t,sz,es,by simpa using hx⟩
 ·simp only [Rd] at hu |-
  obtain⟨_,q2,q3,q4⟩:=hu;rw [<-h.hr.dom];exact⟨Nat.lt_succ_self _,by rw [hrl];exact q2,q3,by rw [hrl,hrd];exact q4⟩
theorem Kc (h:OpenSt w0 M0 c H cr R) {x:AV} {u:Value} (hr:Rd x c u) {k:AV->List AB->List AB->Prop} (hk:RS x H R k) :
  ∃ x' H' cr' R',k x' H' R'/\OpenSt w0 M0 c H' cr' R'/\Ext cr cr'/\Rd x' cr' u:=by
 unfold RS at hk;split at hk
 ·exact⟨_,H,cr,R,hk,h,zN _,by simpa [Rd] using hr⟩
 ·refine⟨_,H,cr,R,hk,h,zN _,Rd.ext _ h.ext ?_⟩;simp only [Rd] at hr |-
  exact hr
 ·rename_i j n;rw [hget_eq] at hk;split at hk
  ·rename_i t sz es hj;have hk:=snocK_iff (setK_iff hk);rw [Az] at hk;obtain⟨cr',q1,q2,q3⟩:=h.take hj;exact⟨_,_,cr',_,hk,q1,q2,q3 n u hr⟩
  ·exact hk.elim
 ·exact hk.elim
theorem openC_sound:∀ {l:List AV} {H R:List AB} {cr:Ctx} (_:OpenSt w0 M0 c H cr R) {us:List Value} (_:RdL l c us) {k:List AV->List AB->List AB->Prop} (_:openC l H R k),
  ∃ l' H' cr' R',k l' H' R'/\OpenSt w0 M0 c H' cr' R'/\Ext cr cr'/\RdL l' cr' us
 | [],H,R,cr,h,us,hr,k,hk=>⟨[],H,cr,R,hk,h,zN _,by simp only [RdL] at hr |-;exact hr⟩
 | x::l,H,R,cr,h,us,hr,k,hk=>by
  simp only [RdL] at hr;obtain⟨u,us,rfl,h1,h2⟩:=hr;simp only [openC] at hk;obtain⟨x',H1,c1,R1,q1,q2,q3,q4⟩:=Kc h h1 hk;obtain⟨l',H2,c2,R2,p1,p2,p3,p4⟩:=openC_sound q2 h2 q1;exact⟨_,H2,c2,R2,p1,p2,q3.trans p3,by simp only [RdL];exact⟨u,us,rfl,Rd.ext _ p3 q4,p4⟩⟩
theorem Kb (h:OpenSt w0 M0 c H cr R) {x:AV} {u:Value} (hr:Rd x c u) {k:AV->List AB->List AB->Prop} (hk:RR x H R k) :
  ∃ x' H' cr' R',k x' H' R'/\OpenSt w0 M0 c H' cr' R'/\Ext cr cr'/\Rd x' cr' u:=by
 unfold RR at hk;split at hk
 ·simp only [Rd] at hr;obtain⟨xs,rfl,hx⟩:=hr;obtain⟨l',H2,c2,R2,p1,p2,p3,p4⟩:=openC_sound h hx hk;exact⟨_,H2,c2,R2,p1,p2,p3,by simp only [Rd];exact⟨xs,rfl,p4⟩⟩
 ·exact Kc h hr hk
theorem openL_sound:∀ {l:List AV} {H R:List AB} {cr:Ctx} (_:OpenSt w0 M0 c H cr R) {us:List Value} (_:RdL l c us) {k:List AV->List AB->List AB->Prop} (_:openL l H R k),
  ∃ l' H' cr' R',k l' H' R'/\OpenSt w0 M0 c H' cr' R'/\Ext cr cr'/\RdL l' cr' us
 | [],H,R,cr,h,us,hr,k,hk=>⟨[],H,cr,R,hk,h,zN _,by simp only [RdL] at hr |-;exact hr⟩
 | x::l,H,R,cr,h,us,hr,k,hk=>by
  simp only [RdL] at hr;obtain⟨u,us,rfl,h1,h2⟩:=hr;simp only [openL] at hk;obtain⟨x',H1,c1,R1,q1,q2,q3,q4⟩:=Kb h h1 hk;obtain⟨l',H2,c2,R2,p1,p2,p3,p4⟩:=openL_sound q2 h2 q1;exact⟨_,H2,c2,R2,p1,p2,q3.trans p3,by simp only [RdL];exact⟨u,us,rfl,Rd.ext _ p3 q4,p4⟩⟩
def ZB (c:Ctx):Ctx:={ c with dom:=0 }
theorem OpenSt.begin (h:HS w0 M0 c H):OpenSt w0 M0 c H (ZB c) []:=
 ⟨h,⟨h.low,h.base,rfl,h.foreign,h.lt,by simp,by simp,by simp⟩,rfl,rfl,by simp,by simp⟩
theorem Pe (h:HS w0 M0 c H) {x:AV} {u:Value} (hr:Rd x c u) {k:AV->List AB->Prop} (hk:RQ x H k) :
  ∃ x' cr R,k x' R/\cr.w=c.w/\HS w0 M0 cr R/\Rd x' cr u/\∀ y∈R,∃ t sz es,y = .row t sz es:=by
 unfold RQ at hk;split at hk
 ·simp only [Rd] at hr;obtain⟨xs,rfl,hx⟩:=hr;obtain⟨l',H2,c2,R2,p1,p2,p3,p4⟩:=openL_sound (OpenSt.begin h) hx hk;exact⟨_,c2,R2,p1,p2.w,p2.hr,by simp only [Rd];exact⟨xs,rfl,p4⟩,p2.rows⟩
 ·obtain⟨x',H2,c2,R2,p1,p2,p3,p4⟩:=Kb (OpenSt.begin h) hr hk;exact⟨_,c2,R2,p1,p2.w,p2.hr,p4,p2.rows⟩
end

structure FnO (P:Program) (f:FuncId) (args:List AV) (K:AV->List AB->Prop):Prop where
 go:W9 P f
 calls:∀ (c0:Ctx) (us:List Value) (hg:globOk c0.w),c0.dom=0->(∀ b,c0.M b->b<c0.w.heap.size)->RdL args c0 us->
  Calls P f us.toArray c0.w fun e w'=>∃ v r c' R,e = .returned v/\K r R/\c'.w=w'/\HS (Fl.all c0.w hg) c0.M c' R/\Rd r c' v/\∀ y∈R,∃ t sz es,y = .row t sz es
theorem FnO.mono {P:Program} {f:FuncId} {args:List AV} {K K':AV->List AB->Prop} (h:FnO P f args K) (hk:∀ r R,K r R->K' r R):FnO P f args K':=
 ⟨h.1,fun c0 us hg h1 h2 h3=>(h.2 c0 us hg h1 h2 h3).mono fun _ _ ⟨v,r,c',R,h4,h5,h6⟩=>⟨v,r,c',R,h4,hk _ _ h5,h6⟩⟩
def Z7 (T:Tys) (rs:List ResultVar) (K:AV->List AB->Prop):QA:=fun ex fr H=>match ex with
 | .exit _=>False
 | _=>HV T rs fr H fun x=>RQ x H K
theorem FnO.of {P : Program} {T : Tys} (hT : TOk P T) {f : FuncId} {fn : Func} {body : Code} {args : List AV} {K : AV → List AB → Prop} (hf : P.funcs[f]? = some fn) (hb : fn.body = some body) (hname : (fn.name == "runtime.NumGoroutine") = false) (hn : args.length ≤ fn.ntmps)
  (h:Cp P T fn.ntmps 0 body (Z7 T fn.results.toList K) (frOf 0 args) []):FnO P f args K:=by
 refine⟨⟨fn,hf,by rw [hb];try rfl,hname⟩,fun c0 us hg hd hM hr=>?_⟩;let ce:Ctx:={ c0 with base:=0 };have hce:Ext c0 ce:=⟨rfl,rfl,rfl,Ah _,fun _ _ h=>⟨h,rfl⟩,Ah _,fun _ _=>Ah _,fun _ _ _=>rfl,fun _ _ _ h=>h⟩;have hHS:HS (Fl.all c0.w hg) c0.M ce []:=⟨zm _ hg,rfl,hd,fun _ _=>Iff.rfl,hM,by simp,by simp,by simp⟩;have hlen:=hr.length;have hFR:FR (Fl.all c0.w hg) ce fn.ntmps (frOf 0 args) { tmps:=us.toArray ++ Array.replicate (fn.ntmps - us.toArray.size) undef,defers:= [] }:=by
  refine⟨by simp;omega,tv,fun i=>?_⟩;have:=GM (c:=ce) (m:=fn.ntmps - us.length) (l:=args) (i:=0) (pre:= []) rfl (RdL.ext _ hce hr) i;rw [AJ];have e:(us.toArray ++ Array.replicate (fn.ntmps - us.toArray.size) undef)[i]? = ([] ++ us ++ List.replicate (fn.ntmps - us.length) undef)[i]? :=by
   have:(us.toArray ++ Array.replicate (fn.ntmps - us.toArray.size) undef)=([] ++ us ++ List.replicate (fn.ntmps - us.length) undef).toArray:=Array.ext' (by simp);rw [this];simp only [Co]
  rw [e];exact this
 have fin:∀ a w,DQ (Fl.all c0.w hg) c0.M ce fn.ntmps (fun fr H=>HV T fn.results.toList fr H fun x=>RQ x H K) a w->∃ v,(results fn a.tmps).run P w = .ok v w/\∃ v' r c' R,Ending.returned v = .returned v'/\K r R/\c'.w=w/\HS (Fl.all c0.w hg) c0.M c' R/\Rd r c' v'/\∀ y∈R,∃ t sz es,y = .row t sz es:=by
  rintro a w ⟨c,fr,H,rfl,h1,h2,h3,h4⟩;obtain⟨x,v,q1,q2,q3⟩:=Es hT h2 h3 h1;obtain⟨r,cr,R,p1,p2,p3,p4,p5⟩:=Pe h2 q2 q1;exact⟨v,q3,v,r,cr,R,rfl,p1,p2,p3,p4,p5⟩
 refine Ea hf hb trivial (Ah _) fin ?_;refine B7 (w0:=Fl.all c0.w hg) (M0:=c0.M) (ce:=ce) hT hd body _ _ ce _ [] _ (E_ rfl rfl fun _ _ _ h=>h) hHS hFR (zN _) h

mutual
def AV.shift (d:Nat):AV->AV
 | .ow k n=> .ow (k+d) n
 | .bp k o=> .bp (k+d) o
 | .ep k n i sz off=> .ep (k+d) n i sz off
 | .ag l=> .ag (AV.shiftL d l)
 | .tp l=> .tp (AV.shiftL d l)
 | .fn f l=> .fn f (AV.shiftL d l)
 | .ic f l=> .ic f (AV.shiftL d l)
 | .top=> .top
 | .v x=> .v x
 | .sl sz n get=> .sl sz n get
 | .rp cs=> .rp cs
def AV.shiftL (d:Nat):List AV->List AV
 | []=> []
 | x::l=>x.shift d::AV.shiftL d l
end
def Ctx.beside (c c':Ctx):Ctx:={ w:=c'.w,base:=c.base,M:=c'.M,dom:=c.dom+c'.dom,rho:=fun k=>if k<c.dom then c.rho k else c'.rho (k - c.dom),len:=fun k=>if k<c.dom then c.len k else c'.len (k - c.dom) }
theorem Ext.closedBeside (c c':Ctx):Ext c'.closed (c.beside c').closed:=⟨rfl,rfl,rfl,Ah _,fun _ _ h=>⟨h,rfl⟩,Aj _,fun k hk=>absurd hk (Ao k),fun k hk=>absurd hk (Ao k),fun k _ hk=>absurd hk (Ao k)⟩
def zt:=@Ext.closedBeside
mutual
theorem Rd.shift:∀ (x:AV) {c c':Ctx} {u:Value},Rd x c' u->Rd (x.shift c.dom) (c.beside c') u
 | .top,_,_,_,_=>by simp [AV.shift,Rd]
 | .v _,_,_,_,h=>by simpa [AV.shift,Rd] using h
 | .sl sz n get,c,c',u,h=>by
  simp only [AV.shift,Rd] at h |-
  obtain⟨a,k,rfl,h1,h2,h3⟩:=h;refine⟨a,k,rfl,h1,h2,h3.imp id ?_⟩;rintro⟨b,off,rfl,hm,hb,hc⟩;exact⟨b,off,rfl,hm,hb,fun i hi=>⟨(hc i hi).1,RdAt.ext (get i) (zt c c') hb hm (hc i hi).2⟩⟩
 | .rp cs,c,c',u,h=>by
  simp only [AV.shift,Rd] at h |-
  obtain⟨b,off,rfl,hm,hb,hc⟩:=h;exact⟨b,off,rfl,hm,hb,RdAt.ext cs (zt c c') hb hm hc⟩
 | .bp k off,c,c',u,h=>by
  simp only [AV.shift,Rd] at h |-
  obtain⟨h1,g,h2,h3⟩:=h;refine⟨by simp only [Ctx.beside];omega,g,?_,h3⟩;simp only [Ctx.beside];rw [if_neg (by omega),Di];exact h2
 | .ow k n,c,c',u,h=>by
  simp only [AV.shift,Rd] at h |-
  obtain⟨h1,h2,h3,h4⟩:=h;have e1:(c.beside c').len (k+c.dom)=c'.len k:=by simp only [Ctx.beside];rw [if_neg (by omega),Di]
  have e2:(c.beside c').rho (k+c.dom)=c'.rho k:=by simp only [Ctx.beside];rw [if_neg (by omega),Di]
  rw [e1,e2];exact⟨by simp only [Ctx.beside];omega,h2,h3,h4⟩
 | .ep k n i sz off,c,c',u,h=>by
  simp only [AV.shift,Rd] at h |-
  obtain⟨h1,h2,h3⟩:=h;have e1:(c.beside c').len (k+c.dom)=c'.len k:=by simp only [Ctx.beside];rw [if_neg (by omega),Di]
  have e2:(c.beside c').rho (k+c.dom)=c'.rho k:=by simp only [Ctx.beside];rw [if_neg (by omega),Di]
  rw [e1,e2];exact⟨by simp only [Ctx.beside];omega,h2,h3⟩
 | .ag l,c,c',u,h=>by
  simp only [AV.shift,Rd] at h |-
  obtain⟨xs,rfl,h1⟩:=h;exact⟨xs,rfl,RdL.shift l h1⟩
 | .tp l,c,c',u,h=>by
  simp only [AV.shift,Rd] at h |-
  obtain⟨xs,rfl,h1⟩:=h;exact⟨xs,rfl,RdL.shift l h1⟩
 | .fn f l,c,c',u,h=>by
  simp only [AV.shift,Rd] at h |-
  obtain⟨xs,rfl,h1⟩:=h;exact⟨xs,rfl,RdL.shift l h1⟩
 | .ic f l,c,c',u,h=>by
  simp only [AV.shift,Rd] at h |-
  obtain⟨xs,rfl,h1⟩:=h;exact⟨xs,rfl,RdL.shift l h1⟩
theorem RdL.shift:∀ (l:List AV) {c c':Ctx} {us:List Value},RdL l c' us->RdL (AV.shiftL c.dom l) (c.beside c') us
 | [],_,_,_,h=>by simp only [AV.shiftL,RdL] at h |-;exact h
 | x::l,c,c',us,h=>by
  simp only [AV.shiftL,RdL] at h |-
  obtain⟨u,us,rfl,h1,h2⟩:=h;exact⟨u,us,rfl,Rd.shift x h1,RdL.shift l h2⟩
end
theorem HS.beside {w0:Fl} {M0:Ms} {c c':Ctx} {H R:List AB} (h:HS w0 M0 c H) {hg:globOk c.w} (k:HS (Fl.all c.w hg) c.M c' R) (hR:∀ y∈R,∃ t sz es,y = .row t sz es) :
  HS w0 M0 (c.beside c') (H ++ R)/\Ext c (c.beside c'):=by
 have hsz:=h.low.size;have e:Ext c (c.beside c'):=by
  refine⟨k.low.os,k.low.tape,k.low.output,k.low.size,fun b hb hm=>⟨fun hm'=>hm ((k.foreign b hb).1 hm'),k.low.block b hb⟩,Nat.le_add_right _ _,fun i hi=>?_,fun i hi _=>?_,fun i g hi hg=>?_⟩
  ·simp only [Ctx.beside];rw [if_pos hi];exact Ah _
  ·simp only [Ctx.beside];rw [if_pos hi]
  ·simp only [Ctx.beside];rw [if_pos hi];exact hg
 have hrho:∀ i,i<c.dom->(c.beside c').rho i=c.rho i:=fun i hi=>by simp only [Ctx.beside];rw [if_pos hi]
 have hrho2:∀ i,¬i<c.dom->(c.beside c').rho i=c'.rho (i - c.dom):=fun i hi=>by simp only [Ctx.beside];rw [if_neg hi]
 have hget:∀ i y,(H ++ R)[i]? = some y->(i<c.dom/\H[i]? = some y)\/(¬i<c.dom/\R[i - c.dom]? = some y):=by
  intro i y hi;rw [h.dom];by_cases hlt:i<H.length
  ·rw [AA hlt] at hi;exact .inl ⟨hlt,hi⟩
  ·rw [A9 (by omega)] at hi;exact .inr ⟨hlt,hi⟩
 refine⟨⟨h.low.trans k.low.below,h.base,by simp [Ctx.beside,h.dom,k.dom],fun b hb=>?_,k.lt,fun i y hi=>?_,fun i y g hi hl ho=>?_,fun i j y z g hi hj hly hlz hoi hoj=>?_⟩,e⟩
 ·exact(k.foreign b (Aq (w0.lt b hb) hsz)).trans (h.foreign b hb)
 ·rcases hget i y hi with ⟨hlt,hi'⟩ | ⟨hge,hi'⟩
  ·exact zu e rfl hlt (by simp only [Ctx.beside];rw [if_pos hlt]) (fun g hl ho=>k.low.block g (h.sub hi' hl ho)) (h.blk i y hi')
  ·obtain⟨t,sz,es,rfl⟩:=hR y (D3 hi');obtain⟨h1,h2,h3,xs,h4,h5,h6⟩:=k.blk _ _ hi';refine⟨by simp only [Ctx.beside];rw [if_neg hge];exact h1,h2,h3,xs,?_,RdL.ext _ (zt c c') h5,h6⟩;rw [hrho2 i hge];refine⟨h4.1,h4.2.imp id ?_⟩;rintro⟨g,cap,cur,q1,q2,q3⟩;refine⟨g,cap,cur,q1,?_,q3⟩;show c.base<=g;rw [h.base];exact Aj _
 ·rcases hget i y hi with ⟨hlt,hi'⟩ | ⟨hge,hi'⟩
  ·rw [hrho i hlt] at ho;have:=h.own i y g hi' hl ho;exact⟨(k.foreign g (h.lt g this.1)).2 this.1,this.2⟩
  ·rw [hrho2 i hge] at ho;have:=k.own _ y g hi' hl ho;exact⟨this.1,fun ho=>this.2 (Aq (w0.lt g ho) hsz)⟩
 ·rcases hget i y hi with ⟨hlt,hi'⟩ | ⟨hge,hi'⟩ <;> rcases hget j z hj with ⟨hlt2,hj'⟩ | ⟨hge2,hj'⟩
  ·rw [hrho i hlt] at hoi;rw [hrho j hlt2] at hoj;exact h.dis i j y z g hi' hj' hly hlz hoi hoj
  ·rw [hrho i hlt] at hoi;rw [hrho2 j hge2] at hoj;have h1:=h.sub hi' hly hoi;exact((k.own _ z g hj' hlz hoj).2 h1).elim
  ·rw [hrho2 i hge] at hoi;rw [hrho j hlt2] at hoj;have h1:=h.sub hj' hlz hoj;exact((k.own _ y g hi' hly hoi).2 h1).elim
  ·rw [hrho2 i hge] at hoi;rw [hrho2 j hge2] at hoj;have:=k.dis _ _ y z g hi' hj' hly hlz hoi hoj;omega
def appK:List AB->List AB->Nat->(Nat->List AB->Prop)->Prop
 | [],R,n,k=>k n R
 | y::r,R,n,k=>appK r R (n+1) fun m l=>k m (y::l)
theorem appK_iff:∀ {H R:List AB} {n:Nat} {k:Nat->List AB->Prop},appK H R n k->k (n+H.length) (H ++ R)
 | [],_,_,_,h=>h
 | y::r,R,n,k,h=>by
  simp only [appK] at h;have:=appK_iff h;rw [Ap,show n+(r.length+1)=n+1+r.length by omega];exact this
theorem FnO.call {P:Program} {f:FuncId} {args:List AV} {H:List AB} {K:AV->List AB->Prop} {q:Bool} {k:AV->List AB->Prop} (h:FnO P f args K) (hc:AV.ltL args 0=true) (hk:∀ r R,K r R->appK H R 0 fun d H=>Do (r.shift d) fun r=>k r H):ACalls P q f args H k:=by
 refine⟨h.go,fun w0 M0 c us hs0 hr=>?_⟩;have hcut:Cut c c.closed:=⟨zN _,fun k hk=>absurd hk (Ao k)⟩;refine(h.calls c.closed us hs0.glob rfl hs0.lt (RdL.cut args hcut hc hr)).mono ?_;rintro e w' ⟨v,r,c',R,rfl,q1,rfl,q2,q3,q4⟩;obtain⟨p1,p2⟩:=hs0.beside (c':=c') q2 q4;have h1:=BI (appK_iff (hk r R q1));rw [Az,<-hs0.dom] at h1;exact⟨v,c.beside c',_,_,rfl,rfl,h1,p1,p2,Rd.shift r q3,fun _=>q2.low.below.old⟩
theorem FnO.fn1 {P:Program} {f:FuncId} {args:List AV} {t:TypeId} {sz n:Nat} {es:List (List AV)} (h:FnO P f args fun r R=>r = .ow 0 n/\R=[.row t sz es]/\n=es.length):Fn P f args fun r=>r = .sl sz n fun i=>es.getD i []:=by
 refine⟨h.go,fun c0 us hd hM hg hr=>(h.calls c0 us hg hd hM hr).mono ?_⟩;rintro e w' ⟨v,r,c',R,rfl,⟨rfl,rfl,rfl⟩,rfl,q2,q3,q4⟩;obtain⟨c2,e1,e2,e3,e4⟩:=q2.freeze (k:=0) rfl;refine⟨v,_,rfl,rfl,q2.low.below,?_⟩;have hE:Ext c2.closed { c0 with w:=c'.w }:=by
  refine⟨by simp [Ctx.closed,e1],by simp [Ctx.closed,e1],by simp [Ctx.closed,e1],by simp [Ctx.closed,e1],fun b hb hm=>⟨fun h=>hm ?_,by simp [Ctx.closed,e1]⟩,Aj _,fun k hk=>absurd hk (Ao k),fun k hk=>absurd hk (Ao k),fun k _ hk=>absurd hk (Ao k)⟩;exact(e2.foreign b (hM b h)).2 h
 refine Rd.ext _ hE ?_;have:=e4 v q3;simp only [Rd] at this |-
 exact this
def ixm:List Nat->Nat->Nat->Nat
 | [],d,i=>d+i
 | x::_,_,0=>x
 | _::r,d,i+1=>ixm r d i
theorem ixm_or:∀ (s:List Nat) (d i:Nat),(i<s.length/\ixm s d i∈s)\/(s.length<=i/\ixm s d i=d+(i - s.length))
 | [],d,i=> .inr ⟨Aj _,by simp [ixm]⟩
 | x::r,d,0=> .inl ⟨by simp,by simp [ixm]⟩
 | x::r,d,i+1=>by
  rcases ixm_or r d i with ⟨h1,h2⟩ | ⟨h1,h2⟩
  ·exact .inl ⟨by simp;omega,by simp only [ixm];exact AY _ h2⟩
  ·exact .inr ⟨by simp;omega,by simp only [ixm,h2,Ap];omega⟩
theorem ixm_inj:∀ {s:List Nat} {d i j:Nat},s.Nodup->(∀ x∈s,x<d)->ixm s d i=ixm s d j->i=j
 | [],d,i,j,_,_,h=>by simp only [ixm] at h;omega
 | x::r,d,0,0,_,_,_=>rfl
 | x::r,d,0,j+1,hn,hb,h=>by
  simp only [ixm] at h;have hx:=hb x (by simp);rcases ixm_or r d j with ⟨_,h2⟩ | ⟨_,h2⟩
  ·rw [<-h] at h2;exact((List.nodup_cons.1 hn).1 h2).elim
  ·omega
 | x::r,d,i+1,0,hn,hb,h=>by
  simp only [ixm] at h;have hx:=hb x (by simp);rcases ixm_or r d i with ⟨_,h2⟩ | ⟨_,h2⟩
  ·rw [h] at h2;exact((List.nodup_cons.1 hn).1 h2).elim
  ·omega
 | x::r,d,i+1,j+1,hn,hb,h=>by
  simp only [ixm] at h;rw [ixm_inj (List.nodup_cons.1 hn).2 (fun y hy=>hb y (AY _ hy)) h]
def Hs (f:Nat->Nat):List Nat->List AB->List AB->List AB
 | [],R,H=>H ++ R.map (AB.ren f)
 | x::s,y::R,H=>Hs f s R (H.set x (y.ren f))
 | _::_, [],H=>H
theorem Lx (f:Nat->Nat):∀ {s:List Nat} {R H:List AB},s.length<=R.length->(Hs f s R H).length=H.length+(R.length - s.length)
 | [],R,H,_=>by simp [Hs]
 | x::s,y::R,H,h=>by simp only [Hs];rw [Lx f (by simpa using h)];simp
 | _::_, [],_,h=>by simp at h
theorem FE (f:Nat->Nat):∀ {s:List Nat} {R H:List AB},s.length<=R.length->∀ {k:Nat} {y:AB},(Hs f s R H)[k]? = some y->
  (∃ j x,R[j]? = some x/\y=x.ren f/\k=ixm s H.length j)\/(k<H.length/\k ∉ s/\H[k]? = some y)
 | [],R,H,_,k,y,h=>by
  simp only [Hs] at h;by_cases hk:k<H.length
  ·rw [AA hk] at h;exact .inr ⟨hk,by simp,h⟩
  ·rw [A9 (by omega),AZ] at h;cases hx:R[k - H.length]? with
   | none=>rw [hx] at h;simp at h
   | some x=>
    rw [hx] at h;simp at h;exact .inl ⟨k - H.length,x,hx,h.symm,by simp only [ixm];omega⟩
 | x::s,y0::R,H,hl,k,y,h=>by
  simp only [Hs] at h;rcases FE f (by simpa using hl) h with ⟨j,z,h1,h2,h3⟩ | ⟨h1,h2,h3⟩
  ·exact .inl ⟨j+1,z,by simpa using h1,h2,by simpa [ixm] using h3⟩
  ·rw [AW] at h1;by_cases hkx:k=x
   ·subst hkx;rw [AE h1] at h3;cases h3;exact .inl ⟨0,y0,rfl,rfl,rfl⟩
   ·rw [AC (Ne.symm hkx)] at h3;exact .inr ⟨h1,by simp only [Bb,not_or];exact⟨hkx,h2⟩,h3⟩
 | _::_, [],_,hl,_,_,_=>by simp at hl
def Vc (f:Nat->Nat):List Nat->List AB->List AB->(List AB->Prop)->Prop
 | [],R,H,k=>appK H (R.map (AB.ren f)) 0 fun _ H=>k H
 | x::s,y::R,H,k=>setK x (y.ren f) H fun H=>Vc f s R H k
 | _::_, [],_,_=>False
theorem OT {f:Nat->Nat}:∀ {s:List Nat} {R H:List AB} {k:List AB->Prop},Vc f s R H k->s.length<=R.length/\k (Hs f s R H)
 | [],R,H,k,h=>⟨Aj _,appK_iff (k:=fun _ H=>k H) h⟩
 | x::s,y::R,H,k,h=>by
  simp only [Vc] at h;obtain⟨h1,h2⟩:=OT (setK_iff h);exact⟨by simpa using h1,h2⟩
 | _::_, [],_,_,h=>h.elim
def cntK:List AB->Nat->(Nat->Prop)->Prop
 | [],n,k=>k n
 | _::r,n,k=>cntK r (n+1) k
theorem cntK_iff:∀ {H:List AB} {n:Nat} {k:Nat->Prop},cntK H n k->k (n+H.length)
 | [],_,_,h=>h
 | _::r,n,k,h=>by
  have:=cntK_iff (H:=r) h;rw [Ap,show n+(r.length+1)=n+1+r.length by omega];exact this
def SelOk (H:List AB) (f:Nat->Nat):List AB->Nat->Prop
 | [],_=>True
 | x::r,i=>hget H (f i)=some (x.ren f)/\SelOk H f r (i+1)
theorem SelOk.get {H:List AB} {f:Nat->Nat}:∀ {R:List AB} {i j:Nat} {x:AB},SelOk H f R i->R[j]? = some x->H[f (i+j)]? = some (x.ren f)
 | [],_,_,_,_,h=>by simp at h
 | y::r,i,0,x,h,hx=>by
  simp at hx;subst hx;have:=h.1;rwa [hget_eq] at this
 | y::r,i,j+1,x,h,hx=>by
  have:=SelOk.get (j:=j) h.2 (by simpa using hx);rwa [show i+1+j=i+(j+1) by omega] at this

open Classical in
noncomputable def Ctx.after (c c':Ctx) (f:Nat->Nat) (n:Nat):Ctx:=
  { w:=c'.w,base:=c.base,M:=c'.M,dom:=n,
    rho:=fun k=>if h:∃ i,i<c'.dom/\f i=k then c'.rho h.choose else c.rho k,
    len:=fun k=>if h:∃ i,i<c'.dom/\f i=k then c'.len h.choose else c.len k }
def noO:List AB->Bool
 | []=>true
 | .rowo _ _ _ _::_=>false
 | _::r=>noO r
theorem noO_get:∀ {H:List AB},noO H=true->∀ {k:Nat} {t:TypeId} {sz:Nat} {es:List (List AV)} {m:Nat},H[k]? = some (.rowo t sz es m)->False
 | [],_,k,_,_,_,_,h=>by simp at h
 | x::r,h,k,t,sz,es,m,hk=>by
  cases k with
  | zero=>simp at hk;subst hk;simp [noO] at h
  | succ k=>
   simp at hk;refine noO_get (H:=r) ?_ hk;cases x <;> simp only [noO] at h <;> first | exact h | cases h
theorem ACalls.frame {P:Program} {q:Bool} {f:FuncId} {args:List AV} {H:List AB} {k:AV->List AB->Prop} (s:List Nat) {args':List AV} {Hin:List AB} {K:AV->List AB->Prop} (h:ACalls P q f args' Hin K)
  (ha:args=AV.renL (ixm s H.length) args') (hlt:AV.ltL args' Hin.length=true) (hin:NS Hin.length Hin=true) (hs:s.length=Hin.length) (hn:s.Nodup) (hb:∀ x∈s,x<H.length) (hsel:SelOk H (ixm s H.length) Hin 0)
  (hk:∀ r R,K r R->cntK H 0 fun d=>Vc (ixm s d) s R H fun H=>Do (r.ren (ixm s d)) fun r=>k r H) (hnr:noO Hin=true:=by rfl):ACalls P q f args H k:=by
 refine⟨h.go,fun w0 M0 c us hs0 hr=>?_⟩;let g:=ixm s H.length;have hginj:∀ {i j:Nat},g i=g j->i=j:=fun e=>ixm_inj hn hb e
 have hget0:∀ {i:Nat} {x:AB},Hin[i]? = some x->H[g i]? = some (x.ren g):=fun hx=>by have:=hsel.get hx;rwa [Az] at this
 have hlow:∀ {i:Nat},i<Hin.length->g i∈s:=fun hi=>by
  rcases ixm_or s H.length _ with ⟨_,h2⟩ | ⟨h1,_⟩
  ·exact h2
  ·omega
 have hhigh:∀ {i:Nat},g i<H.length->i<Hin.length:=fun {i} hi=>by
  rcases ixm_or s H.length i with ⟨h1,_⟩ | ⟨h1,h2⟩
  ·omega
  ·simp only [g] at hi;omega
 let cl:Ctx:={ w:=c.w,base:=c.base,M:=c.M,dom:=Hin.length,rho:=fun i=>c.rho (g i),len:=fun i=>c.len (g i) };let w1:Fl:=⟨c.w,fun b=>b<c.w.heap.size/\∀ i x,Hin[i]? = some x->x.live=true->oB (c.rho (g i))≠some b,fun _ h=>h.1,fun w' h1 h2=>w0.gl w' (Bo hs0.low.size h1) fun b hb'=>(h2 b ⟨Aq (w0.lt b hb') hs0.low.size,fun i x hx hl ho=>(hs0.own _ _ _ (hget0 hx) (by rw [zx];exact hl) ho).2 hb'⟩).trans (hs0.low.block b hb'),True⟩;have hcl:Ext c.closed cl.closed:=⟨rfl,rfl,rfl,Ah _,fun _ _ h=>⟨h,rfl⟩,Aj _,fun k hk=>absurd hk (Ao k),fun k hk=>absurd hk (Ao k),fun k _ hk=>absurd hk (Ao k)⟩;have hun:∀ k,k<cl.dom->cl.rho k=c.rho (g k)/\cl.len k=c.len (g k):=fun _ _=>tA
 have hown:∀ {i:Nat} {x:AB} {b:Nat},Hin[i]? = some x->x.live=true->oB (c.rho (g i))=some b->c.M b/\¬w0.old b:=fun hx hl ho=>hs0.own _ _ _ (hget0 hx) (by rw [zx];exact hl) ho
 have hHS:HS w1 c.M cl Hin:=by
  refine⟨⟨rfl,rfl,rfl,Ah _,fun _ _=>rfl⟩,hs0.base,rfl,fun _ _=>Iff.rfl,hs0.lt,fun i x hx=>?_,fun i x b hx hl ho=>⟨(hown hx hl ho).1,fun hold=>hold.2 i x hx hl ho⟩,fun i j x y b hi hj hx hy ho ho'=>?_⟩
  ·have hbk:=hs0.blk _ _ (hget0 hx);cases x with
   | dead=>trivial
   | box t cs=>
    obtain⟨b,xs,h1,h2,h3,h4⟩:=hbk;exact⟨b,xs,h1,h2,RdL.unren hun hcl cs (HI hin i t cs hx) h3,h4⟩
   | iter s pos=>
    obtain⟨b,h1,h2⟩:=hbk;exact⟨b,h1,h2⟩
   | row t sz es=>
    obtain⟨h1,h2,h3,xs,h4,h5,h6⟩:=hbk;exact⟨h1,h2,h3,xs,h4,RdL.ext _ hcl h5,h6⟩
   | rowo t sz es m=>
    obtain⟨h1,h2,h3,h3',xs,h4,h5,h6⟩:=hbk;exact(noO_get hnr hx).elim
  ·exact hginj (hs0.dis _ _ _ _ b (hget0 hi) (hget0 hj) (by rw [zx];exact hx) (by rw [zx];exact hy) ho ho')
 refine(h.calls w1 c.M cl us hHS (RdL.unren hun hcl args' hlt (by rw [<-ha];exact hr))).mono ?_;rintro e w' ⟨v,c',r,R,rfl,rfl,q1,q2,q3,q4,q5⟩;have h1:=cntK_iff (hk r R q1);rw [Az] at h1;obtain⟨hlen,h1⟩:=OT h1;have h1:=BI h1;have hdom:c'.dom=R.length:=q2.dom;have hmR:Hin.length<=R.length:=by omega
 let n:=H.length+(R.length - s.length);have hgn:∀ {i:Nat},i<R.length->g i<n:=fun {i} hi=>by
  rcases ixm_or s H.length i with ⟨_,h2⟩ | ⟨h2,h3⟩
  ·have:=hb _ h2;simp only [g,n];omega
  ·simp only [g,n,h3];omega
 let cj:=c.after c' g n;have hrho:∀ {i:Nat},i<c'.dom->cj.rho (g i)=c'.rho i/\cj.len (g i)=c'.len i:=fun {i} hi=>by
  have hex:∃ j,j<c'.dom/\g j=g i:=⟨i,hi,rfl⟩;have:=hginj hex.choose_spec.2;simp only [cj,Ctx.after];rw [dif_pos hex,dif_pos hex,this];exact tA
 have hrho2:∀ {k:Nat},k<H.length->k ∉ s->cj.rho k=c.rho k/\cj.len k=c.len k:=fun {k} hk hks=>by
  have hex:¬∃ j,j<c'.dom/\g j=k:=by
   rintro⟨j,_,rfl⟩;exact hks (hlow (hhigh hk))
  simp only [cj,Ctx.after];rw [dif_neg hex,dif_neg hex];exact tA
 have hmem:∀ {k:Nat},k∈s->∃ i,i<Hin.length/\g i=k:=by
  have:∀ (s:List Nat) (d k:Nat),k∈s->∃ i,i<s.length/\ixm s d i=k:=by
   intro s d k hk;induction s with
   | nil=>simp at hk
   | cons x r ih=>
    rcases Bb.1 hk with rfl | hk
    ·exact⟨0,by simp,rfl⟩
    ·obtain⟨i,h1,h2⟩:=ih hk;exact⟨i+1,by simp;omega,h2⟩
  intro k hk;obtain⟨i,h1,h2⟩:=this s H.length k hk;exact⟨i,by omega,h2⟩
 have hold:∀ {b:Nat},w0.old b->w1.old b:=fun {b} hb'=>⟨Aq (w0.lt b hb') hs0.low.size,fun i x hx hl ho=>(hown hx hl ho).2 hb'⟩
 have hold2:∀ {b:Nat},b<c.w.heap.size->¬c.M b->w1.old b:=fun {b} hb' hm=>⟨hb',fun i x hx hl ho=>hm (hown hx hl ho).1⟩
 have hold3:∀ {k:Nat} {y:AB} {b:Nat},k ∉ s->H[k]? = some y->y.live=true->oB (c.rho k)=some b->w1.old b:=fun {k y b} hks hy hl ho=>
  ⟨hs0.sub hy hl ho,fun i x hx hl' ho'=>by
   have:=hs0.dis k (g i) y _ b hy (hget0 hx) hl (by rw [zx];exact hl') ho ho';exact hks (this ▸ hlow (At.1 hx).1)⟩
 have hcj:Ext c'.closed cj.closed:=⟨rfl,rfl,rfl,Ah _,fun _ _ h=>⟨h,rfl⟩,Aj _,fun k hk=>absurd hk (Ao k),fun k hk=>absurd hk (Ao k),fun k _ hk=>absurd hk (Ao k)⟩;have hren:∀ k,k<c'.dom->g k<cj.dom/\cj.rho (g k)=c'.rho k/\cj.len (g k)=c'.len k:=fun k hk=>⟨hgn (by omega),hrho hk⟩
 have hE:Ext c cj:=by
  refine⟨q2.low.os,q2.low.tape,q2.low.output,q2.low.size,fun b hb' hm=>?_,?_,fun k hk=>?_,fun k hk hl=>?_,fun k b hk hg=>?_⟩
  ·have ho:=hold2 hb' hm;exact⟨fun hm'=>hm ((q2.foreign b ho).1 hm'),q2.low.block b ho⟩
  ·show c.dom<=n;rw [hs0.dom];exact Nat.le_add_right _ _
  ·rw [hs0.dom] at hk;by_cases hks:k∈s
   ·obtain⟨i,hi,rfl⟩:=hmem hks;rw [(hrho (by omega:i<c'.dom)).2];exact q3.len i hi
   ·rw [(hrho2 hk hks).2];exact Ah _
  ·rw [hs0.dom] at hk;by_cases hks:k∈s
   ·obtain⟨i,hi,rfl⟩:=hmem hks;rw [(hrho (by omega:i<c'.dom)).2] at hl;rw [(hrho (by omega:i<c'.dom)).1];exact q3.rho i hi hl
   ·exact(hrho2 hk hks).1
  ·rw [hs0.dom] at hk;by_cases hks:k∈s
   ·obtain⟨i,hi,rfl⟩:=hmem hks;rw [(hrho (by omega:i<c'.dom)).1];exact q3.box i b hi hg
   ·rw [(hrho2 hk hks).1];exact hg
 refine⟨v,cj,r.ren g,_,rfl,rfl,h1,?_,hE,Rd.ren hren hcj r q4,q5⟩;have hdj:∀ {j:Nat} {x:AB},R[j]? = some x->j<c'.dom:=fun hx=>by rw [hdom];exact(At.1 hx).1
 refine⟨⟨q2.low.os.trans hs0.low.os,q2.low.tape.trans hs0.low.tape,q2.low.output.trans hs0.low.output,Bo hs0.low.size q2.low.size,fun b hb'=>(q2.low.block b (hold hb')).trans (hs0.low.block b hb')⟩,hs0.base,(Lx _ hlen).symm,fun b hb'=>(q2.foreign b (hold hb')).trans (hs0.foreign b hb'),q2.lt,fun k y hy=>?_,fun k y b hy hl ho=>?_,fun i k y z b hi hk' hy hz hoi hok=>?_⟩
 ·rcases FE _ hlen hy with ⟨j,x,h2,rfl,rfl⟩ | ⟨h2,h3,h4⟩
  ·have hbk:=q2.blk j x h2;have hj:=hrho (hdj h2);cases x with
   | dead=>trivial
   | box t cs=>
    obtain⟨b,xs,h5,h6,h7,h8⟩:=hbk;exact⟨b,xs,hj.1.trans h5,h6,RdL.ren hren hcj cs h7,h8⟩
   | iter s pos=>
    obtain⟨b,h5,h6⟩:=hbk;exact⟨b,hj.1.trans h5,h6⟩
   | row t sz es=>
    obtain⟨h5,h6,h7,xs,h8,h9,h10⟩:=hbk;refine⟨hj.2.trans h5,h6,h7,xs,?_,RdL.ext _ hcj h9,h10⟩;have eb:cj.base=c'.base:=hs0.base.trans q2.base.symm;show c'.w.ownsRow cj.base t sz (cj.rho (g j)) es.length xs;rw [hj.1,eb];exact h8
   | rowo t sz es m=>
    obtain⟨h5,h6,h7,h7',xs,h8,h9,h10⟩:=hbk;refine⟨by rw [Ac];exact hj.2.trans h5,h6,fun e he=>?_,?_,xs,?_,?_,h10⟩
    ·obtain⟨e0,he0,rfl⟩:=AK.1 he;rw [AV.renL_len];exact h7 e0 he0
    ·rw [zp];exact AV.renL_lt _ h7'
    ·have eb:cj.base=c'.base:=hs0.base.trans q2.base.symm;show c'.w.ownsRow cj.base t sz (cj.rho (g j)) (es.map (AV.renL g)).length xs;rw [hj.1,eb,Ac];exact h8
    ·rw [zp];exact RdL.ren hren hcj _ h9
  ·have hkd:k<c.dom:=by rw [hs0.dom];exact h2
   exact zu hE rfl hkd (hrho2 h2 h3).2 (fun b hl ho=>q2.low.block b (hold3 h3 h4 hl ho)) (hs0.blk k y h4)
 ·rcases FE _ hlen hy with ⟨j,x,h2,rfl,rfl⟩ | ⟨h2,h3,h4⟩
  ·have ho':oB (cj.rho (g j))=some b:=ho;rw [(hrho (hdj h2)).1] at ho';have:=q2.own j x b h2 (by rw [zx] at hl;exact hl) ho';exact⟨this.1,fun hb'=>this.2 (hold hb')⟩
  ·rw [(hrho2 h2 h3).1] at ho;have ho2:=hold3 h3 h4 hl ho;have:=hs0.own k y b h4 hl ho;exact⟨(q2.foreign b ho2).2 this.1,this.2⟩
 ·rcases FE _ hlen hi with ⟨j,x,h2,rfl,rfl⟩ | ⟨h2,h3,h4⟩ <;> rcases FE _ hlen hk' with ⟨j',x',h2',rfl,rfl⟩ | ⟨h2',h3',h4'⟩
  ·have e1:oB (cj.rho (g j))=some b:=hoi;have e2:oB (cj.rho (g j'))=some b:=hok;rw [(hrho (hdj h2)).1] at e1;rw [(hrho (hdj h2')).1] at e2;rw [zx] at hy hz;rw [q2.dis j j' x x' b h2 h2' hy hz e1 e2]
  ·have e1:oB (cj.rho (g j))=some b:=hoi;rw [(hrho (hdj h2)).1] at e1;rw [(hrho2 h2' h3').1] at hok;rw [zx] at hy;exact((q2.own j x b h2 hy e1).2 (hold3 h3' h4' hz hok)).elim
  ·have e2:oB (cj.rho (g j'))=some b:=hok;rw [(hrho (hdj h2')).1] at e2;rw [(hrho2 h2 h3).1] at hoi;rw [zx] at hz;exact((q2.own j' x' b h2' hz e2).2 (hold3 h3 h4 hy hoi)).elim
  ·rw [(hrho2 h2 h3).1] at hoi;rw [(hrho2 h2' h3').1] at hok;exact hs0.dis i k y z b h4 h4' hy hz hoi hok

def zX:=@ACalls.frame
theorem zh {P:Program} {q:Bool} {f:FuncId} {args:List AV} {H:List AB} {k:AV->List AB->Prop} (s:List Nat) {args':List AV} {Hin:List AB} {K:AV->List AB->Prop} (h:ACalls P q f args' Hin K) (hk:∀ r R,K r R->cntK H 0 fun d=>Vc (ixm s d) s R H fun H=>Do (r.ren (ixm s d)) fun r=>k r H) (ha:args=AV.renL (ixm s H.length) args':=by rfl) (hlt:AV.ltL args' Hin.length=true:=by rfl) (hin:NS Hin.length Hin=true:=by rfl) (hs:s.length=Hin.length:=by rfl) (hn:s.Nodup:=by decide) (hb:(s.all fun x=>Nat.ble (x+1) H.length)=true:=by rfl) (hsel:SelOk H (ixm s H.length) Hin 0:=by exact tA) (hnr:noO Hin=true:=by rfl):ACalls P q f args H k:=ACalls.frame s h ha hlt hin hs hn (fun x hx=>Nat.le_of_ble_eq_true (List.all_eq_true.1 hb x hx)) hsel hk hnr
def RA (x:AV) (H:List AB) (k:AV->List AB->Prop):Prop:=
 match x with
 | .tp l=>sealA l H fun l H=>k (.tp l) H
 | x=>seal1 x H k
def Z8 (T:Tys) (m:Nat) (rs:List ResultVar) (K:AV->List AB->Prop):QA:=fun ex fr H=>match ex with
 | .exit _=>False
 | _=>HV T rs fr H fun x=>RA x H fun x H=>∃ r H2,(∀ c v,Rd x c v->Rd r c v)/\wkH H2 H/\NS H2.length H2=true/\Nat.ble m H2.length=true/\K r H2
theorem OD {w0:Fl} {M0:Ms} {c:Ctx} {H:List AB} {x:AV} {u:Value} {k:AV->List AB->Prop} (hs:HS w0 M0 c H) (hr:Rd x c u) (h:RA x H k) :
  ∃ r H' c',k r H'/\c'.w=c.w/\HS w0 M0 c' H'/\Ext c c'/\Rd r c'.closed u:=by
 unfold RA at h;split at h
 ·simp only [Rd] at hr;obtain⟨xs,rfl,hx⟩:=hr;obtain⟨l',H',c',q1,q2,q3,q4,q5,q6⟩:=sealA_sound hs hx h;exact⟨_,H',c',q1,q2,q3,q4,by simp only [Rd];exact⟨xs,rfl,q5⟩⟩
 ·obtain⟨r,H',c',q1,q2,q3,q4,q5,_⟩:=Hh hs hr h;exact⟨r,H',c',q1,q2,q3,q4,q5⟩
theorem ACalls.of {P : Program} {T : Tys} (hT : TOk P T) {f : FuncId} {fn : Func} {body : Code} {args : List AV} {Hin : List AB} {K : AV → List AB → Prop} (hf : P.funcs[f]? = some fn) (hb : fn.body = some body) (hname : (fn.name == "runtime.NumGoroutine") = false) (hn : args.length ≤ fn.ntmps)
  (h:Cp P T fn.ntmps Hin.length body (Z8 T Hin.length fn.results.toList K) (frOf 0 args) Hin):ACalls P false f args Hin K:=by
 refine⟨⟨fn,hf,by rw [hb];try rfl,hname⟩,fun w0 M0 c0 us hs0 hr=>?_⟩;have hlen:=hr.length;have hFR:FR (w0.at c0.w hs0.low) c0 fn.ntmps (frOf 0 args) { tmps:=us.toArray ++ Array.replicate (fn.ntmps - us.toArray.size) undef,defers:= [] }:=by
  refine⟨by simp;omega,tv,fun i=>?_⟩;have:=GM (c:=c0) (m:=fn.ntmps - us.length) (l:=args) (i:=0) (pre:= []) rfl hr i;rw [AJ];have e:(us.toArray ++ Array.replicate (fn.ntmps - us.toArray.size) undef)[i]? = ([] ++ us ++ List.replicate (fn.ntmps - us.length) undef)[i]? :=by
   have:(us.toArray ++ Array.replicate (fn.ntmps - us.toArray.size) undef)=([] ++ us ++ List.replicate (fn.ntmps - us.length) undef).toArray:=Array.ext' (by simp);rw [this];simp only [Co]
  rw [e];exact this
 have fin:∀ a w,DQ (w0.at c0.w hs0.low) M0 c0 fn.ntmps (fun fr H=>HV T fn.results.toList fr H fun x=>RA x H fun x H=>∃ r H2,(∀ c v,Rd x c v->Rd r c v)/\wkH H2 H/\NS H2.length H2=true/\Nat.ble Hin.length H2.length=true/\K r H2) a w->∃ v,(results fn a.tmps).run P w = .ok v w/\∃ v' c' r H',Ending.returned v = .returned v'/\c'.w=w/\K r H'/\HS w0 M0 c' H'/\Ext c0 c'/\Rd r c' v'/\(false=true->Old c0.w w):=by
  rintro a w ⟨c,fr,H,rfl,h1,h2,h3,h4⟩;obtain⟨x,v,q1,q2,q3⟩:=Es hT h2 h3 h1;obtain⟨x',H',c1,⟨r,H2,o1,o2,o3,o4,o5⟩,p2,p3,p4,p5⟩:=OD h2 q2 q1;have hcut:Cut c1 { c1 with dom:=H2.length }:=⟨⟨rfl,rfl,rfl,Ah _,fun _ _ h=>⟨h,rfl⟩,Ah _,fun k hk=>absurd hk (Ao k),fun k hk=>absurd hk (Ao k),fun k _ hk=>absurd hk (Ao k)⟩,fun _ _=>tA⟩;have hml:=Ag o4;have he:=h4.trans p4;refine⟨v,q3,v,{ c1 with dom:=H2.length },r,H2,rfl,p2,o5,⟨zn p3.low,p3.base,rfl,p3.foreign,p3.lt,fun k y hk=>?_,fun k y g hk hl ho=>p3.own k y g (wkH_get o2 k y hk hl) hl ho,fun j k y z g hj hk hy hz ho ho'=>p3.dis j k y z g (wkH_get o2 j y hj hy) (wkH_get o2 k z hk hz) hy hz ho ho'⟩,⟨he.os,he.tape,he.output,he.size,he.keep,by show c0.dom<=H2.length;rw [hs0.dom];exact hml,he.len,he.rho,he.box⟩,o1 _ _ (Rd.ext (c:=c1.closed) (c':={ c1 with dom:=H2.length }) _ ⟨rfl,rfl,rfl,Ah _,fun _ _ h=>⟨h,rfl⟩,Aj _,fun k hk=>absurd hk (Ao k),fun k hk=>absurd hk (Ao k),fun k _ hk=>absurd hk (Ao k)⟩ p5),fun e=>by cases e⟩;cases y with
  | dead=>trivial
  | box t cs=>
   obtain⟨g,xs,h1,h2,h3,h4⟩:=p3.blk k _ (wkH_get o2 k _ hk rfl);exact⟨g,xs,h1,h2,RdL.cut cs hcut (HI o3 k t cs hk) h3,h4⟩
  | iter s pos=>
   obtain⟨g,h1,h2⟩:=p3.blk k _ (wkH_get o2 k _ hk rfl);exact⟨g,h1,h2⟩
  | row t sz es=>
   obtain⟨h1,h2,h3,xs,h4,h5,h6⟩:=p3.blk k _ (wkH_get o2 k _ hk rfl);exact⟨h1,h2,h3,xs,h4,h5,h6⟩
  | rowo t sz es m=>
   obtain⟨h1,h2,h3,h3',xs,h4,h5,h6⟩:=p3.blk k _ (wkH_get o2 k _ hk rfl);exact⟨h1,h2,h3,h3',xs,h4,RdL.cut _ hcut (Hq o3 hk h3') h5,h6⟩
 refine Ea hf hb trivial (Ah _) fin ?_;refine B7 (w0:=w0.at c0.w hs0.low) (M0:=M0) (ce:=c0) hT hs0.dom body _ _ c0 _ Hin _ (E_ rfl rfl fun _ _ _ h=>h) hs0.toAt hFR (zN _) h
def Zq (T:Tys) (m:Nat) (rs:List ResultVar) (K:AV->List AB->Prop):QA:=fun ex fr H=>match ex with
 | .exit _=>False
 | _=>HV T rs fr H fun x=>∃ r H2,(∀ c v,Rd x c v->Rd r c v)/\wkH H2 H/\NS H2.length H2=true/\(Nat.ble m H2.length=true/\r.lt H2.length=true)/\K r H2
theorem ACalls.ofO {P : Program} {T : Tys} (hT : TOk P T) {f : FuncId} {fn : Func} {body : Code} {args : List AV} {Hin : List AB} {K : AV → List AB → Prop} (hf : P.funcs[f]? = some fn) (hb : fn.body = some body) (hname : (fn.name == "runtime.NumGoroutine") = false) (hn : args.length ≤ fn.ntmps)
  (h:Cp P T fn.ntmps Hin.length body (Zq T Hin.length fn.results.toList K) (frOf 0 args) Hin):ACalls P false f args Hin K:=by
 refine⟨⟨fn,hf,by rw [hb];try rfl,hname⟩,fun w0 M0 c0 us hs0 hr=>?_⟩;have hlen:=hr.length;have hFR:FR (w0.at c0.w hs0.low) c0 fn.ntmps (frOf 0 args) { tmps:=us.toArray ++ Array.replicate (fn.ntmps - us.toArray.size) undef,defers:= [] }:=by
  refine⟨by simp;omega,tv,fun i=>?_⟩;have:=GM (c:=c0) (m:=fn.ntmps - us.length) (l:=args) (i:=0) (pre:= []) rfl hr i;rw [AJ];have e:(us.toArray ++ Array.replicate (fn.ntmps - us.toArray.size) undef)[i]? = ([] ++ us ++ List.replicate (fn.ntmps - us.length) undef)[i]? :=by
   have:(us.toArray ++ Array.replicate (fn.ntmps - us.toArray.size) undef)=([] ++ us ++ List.replicate (fn.ntmps - us.length) undef).toArray:=Array.ext' (by simp);rw [this];simp only [Co]
  rw [e];exact this
 have fin:∀ a w,DQ (w0.at c0.w hs0.low) M0 c0 fn.ntmps (fun fr H=>HV T fn.results.toList fr H fun x=>∃ r H2,(∀ c v,Rd x c v->Rd r c v)/\wkH H2 H/\NS H2.length H2=true/\(Nat.ble Hin.length H2.length=true/\r.lt H2.length=true)/\K r H2) a w->∃ v,(results fn a.tmps).run P w = .ok v w/\∃ v' c' r H',Ending.returned v = .returned v'/\c'.w=w/\K r H'/\HS w0 M0 c' H'/\Ext c0 c'/\Rd r c' v'/\(false=true->Old c0.w w):=by
  rintro a w ⟨c,fr,H,rfl,h1,h2,h3,h4⟩;obtain⟨x,v,⟨r,H2,o1,o2,o3,⟨o4,o6⟩,o5⟩,q2,q3⟩:=Es hT h2 h3 h1;obtain⟨c1,p3,hcc⟩:∃ c1:Ctx,HS (w0.at c0.w hs0.low) M0 c1 H/\c1=c:=⟨c,h2,rfl⟩;subst hcc;have hcut:Cut c1 { c1 with dom:=H2.length }:=⟨⟨rfl,rfl,rfl,Ah _,fun _ _ h=>⟨h,rfl⟩,Ah _,fun k hk=>absurd hk (Ao k),fun k hk=>absurd hk (Ao k),fun k _ hk=>absurd hk (Ao k)⟩,fun _ _=>tA⟩;have hml:=Ag o4;have he:=h4;refine⟨v,q3,v,{ c1 with dom:=H2.length },r,H2,rfl,rfl,o5,⟨zn p3.low,p3.base,rfl,p3.foreign,p3.lt,fun k y hk=>?_,fun k y g hk hl ho=>p3.own k y g (wkH_get o2 k y hk hl) hl ho,fun j k y z g hj hk hy hz ho ho'=>p3.dis j k y z g (wkH_get o2 j y hj hy) (wkH_get o2 k z hk hz) hy hz ho ho'⟩,⟨he.os,he.tape,he.output,he.size,he.keep,by show c0.dom<=H2.length;rw [hs0.dom];exact hml,he.len,he.rho,he.box⟩,Rd.cut r hcut o6 (o1 _ _ q2),fun e=>by cases e⟩;cases y with
  | dead=>trivial
  | box t cs=>
   obtain⟨g,xs,h1,h2,h3,h4⟩:=p3.blk k _ (wkH_get o2 k _ hk rfl);exact⟨g,xs,h1,h2,RdL.cut cs hcut (HI o3 k t cs hk) h3,h4⟩
  | iter s pos=>
   obtain⟨g,h1,h2⟩:=p3.blk k _ (wkH_get o2 k _ hk rfl);exact⟨g,h1,h2⟩
  | row t sz es=>
   obtain⟨h1,h2,h3,xs,h4,h5,h6⟩:=p3.blk k _ (wkH_get o2 k _ hk rfl);exact⟨h1,h2,h3,xs,h4,h5,h6⟩
  | rowo t sz es m=>
   obtain⟨h1,h2,h3,h3',xs,h4,h5,h6⟩:=p3.blk k _ (wkH_get o2 k _ hk rfl);exact⟨h1,h2,h3,h3',xs,h4,RdL.cut _ hcut (Hq o3 hk h3') h5,h6⟩
 refine Ea hf hb trivial (Ah _) fin ?_;refine B7 (w0:=w0.at c0.w hs0.low) (M0:=M0) (ce:=c0) hT hs0.dom body _ _ c0 _ Hin _ (E_ rfl rfl fun _ _ _ h=>h) hs0.toAt hFR (zN _) h
def zk:=@ACalls.ofO
def Zo (T:Tys) (m:Nat) (rs:List ResultVar) (K:AV->List AB->Prop):QA:=fun ex fr H=>match ex with
 | .exit _=>False
 | _=>HV T rs fr H fun x=>∃ y r H2,(∀ c v,Rd x c v->Rd y c v)/\Wk m [(0,y)] H [(0,r)] H2/\K r H2
theorem ACalls.ofW {P : Program} {T : Tys} (hT : TOk P T) {f : FuncId} {fn : Func} {body : Code} {args : List AV} {Hin : List AB} {K : AV → List AB → Prop} (hf : P.funcs[f]? = some fn) (hb : fn.body = some body) (hname : (fn.name == "runtime.NumGoroutine") = false) (hn : args.length ≤ fn.ntmps)
  (h:Cp P T fn.ntmps Hin.length body (Zo T Hin.length fn.results.toList K) (frOf 0 args) Hin):ACalls P false f args Hin K:=by
 refine⟨⟨fn,hf,by rw [hb];try rfl,hname⟩,fun w0 M0 c0 us hs0 hr=>?_⟩;have hlen:=hr.length;have hFR:FR (w0.at c0.w hs0.low) c0 fn.ntmps (frOf 0 args) { tmps:=us.toArray ++ Array.replicate (fn.ntmps - us.toArray.size) undef,defers:= [] }:=by
  refine⟨by simp;omega,tv,fun i=>?_⟩;have:=GM (c:=c0) (m:=fn.ntmps - us.length) (l:=args) (i:=0) (pre:= []) rfl hr i;rw [AJ];have e:(us.toArray ++ Array.replicate (fn.ntmps - us.toArray.size) undef)[i]? = ([] ++ us ++ List.replicate (fn.ntmps - us.length) undef)[i]? :=by
   have:(us.toArray ++ Array.replicate (fn.ntmps - us.toArray.size) undef)=([] ++ us ++ List.replicate (fn.ntmps - us.length) undef).toArray:=Array.ext' (by simp);rw [this];simp only [Co]
  rw [e];exact this
 have fin:∀ a w,DQ (w0.at c0.w hs0.low) M0 c0 fn.ntmps (fun fr H=>HV T fn.results.toList fr H fun x=>∃ y r H2,(∀ c v,Rd x c v->Rd y c v)/\Wk Hin.length [(0,y)] H [(0,r)] H2/\K r H2) a w->∃ v,(results fn a.tmps).run P w = .ok v w/\∃ v' c' r H',Ending.returned v = .returned v'/\c'.w=w/\K r H'/\HS w0 M0 c' H'/\Ext c0 c'/\Rd r c' v'/\(false=true->Old c0.w w):=by
  rintro a w ⟨c,fr,H,rfl,h1,h2,h3,h4⟩;obtain⟨x,v,⟨y,r,H2,o1,o2,o3⟩,q2,q3⟩:=Es hT h2 h3 h1;have hfr:FR (w0.at c0.w hs0.low) c 1 [(0,y)] { tmps:= #[v],defers:= [] }:=by
   refine⟨rfl,tv,fun i=>?_⟩;unfold fget;cases i with
   | zero=>exact o1 _ _ q2
   | succ i=>show Rd .top c _;simp [Rd]
  obtain⟨c',e1,e2,e3,e4⟩:=o2.sound hs0.dom h2 hfr h4;have hr':=e3.get 0;refine⟨v,q3,v,c',r,H2,rfl,e1,o3,⟨zn e2.low,e2.base,e2.dom,e2.foreign,e2.lt,e2.blk,e2.own,e2.dis⟩,e4,?_,fun e=>by cases e⟩;simpa [fget] using hr'
 refine Ea hf hb trivial (Ah _) fin ?_;refine B7 (w0:=w0.at c0.w hs0.low) (M0:=M0) (ce:=c0) hT hs0.dom body _ _ c0 _ Hin _ (E_ rfl rfl fun _ _ _ h=>h) hs0.toAt hFR (zN _) h
theorem aLoop.ruleC {d0:Nat} {body:QA->Fr->List AB->Prop} {Q:QA} {fr:Fr} {H:List AB} (ι:Type) (st:ι->Fr × List AB) (I:ι->Prop) (μ:ι->Nat) (x0:ι) (h0:I x0) (hw:WkC d0 fr H (st x0).1 (st x0).2)
  (round:∀ x,I x->body (fun ex fr' H'=>match ex with | .normal=>∃ x',I x'/\μ x'<μ x/\WkC d0 fr' H' (st x').1 (st x').2 | e=>Q e fr' H') (st x).1 (st x).2):aLoop d0 body Q fr H:=
 ⟨.inr (.inr (.inl ⟨ι,st,I,μ,⟨x0,h0,hw⟩,round⟩))⟩
def zq:=@aLoop.ruleC
theorem aLoop.ruleR {d0:Nat} {body:QA->Fr->List AB->Prop} {Q:QA} {fr:Fr} {H:List AB} (ι:Type) (st:ι->Fr × List AB) (I:ι->Prop) (μ:ι->Nat) (x0:ι) (h0:I x0) (hw:WkC d0 fr H (st x0).1 (st x0).2)
  (round:∀ x,I x->body (fun ex fr' H'=>match ex with | .normal=>∃ x',I x'/\μ x'<μ x/\WkR d0 fr' H' (st x').1 (st x').2 | e=>Q e fr' H') (st x).1 (st x).2):aLoop d0 body Q fr H:=
 ⟨.inr (.inr (.inr ⟨ι,st,I,μ,⟨x0,h0, .inl hw⟩,round⟩))⟩
theorem aLoop.ruleRR {d0:Nat} {body:QA->Fr->List AB->Prop} {Q:QA} {fr:Fr} {H:List AB} (ι:Type) (st:ι->Fr × List AB) (I:ι->Prop) (μ:ι->Nat) (x0:ι) (h0:I x0) (hw:WkR d0 fr H (st x0).1 (st x0).2)
  (round:∀ x,I x->body (fun ex fr' H'=>match ex with | .normal=>∃ x',I x'/\μ x'<μ x/\WkR d0 fr' H' (st x').1 (st x').2 | e=>Q e fr' H') (st x).1 (st x).2):aLoop d0 body Q fr H:=
 ⟨.inr (.inr (.inr ⟨ι,st,I,μ,⟨x0,h0, .inr hw⟩,round⟩))⟩

def zU:=@aLoop.ruleRR
theorem ConvH.rowo {H:List AB} {k:Nat} {t:TypeId} {sz:Nat} {es:List (List AV)} (hk:H[k]? = some (.row t sz es)):ConvH H (H.set k (.rowo t sz es 0)):=fun _ _ c hs=>
 ⟨c,rfl,hs.recell hk rfl fun⟨h1,h2,h3,xs,h4,h5,h6⟩=>⟨h1,h2,h3,RdL.lt_dom _ h5,xs,h4,RdL.ext _ (zD c) h5,h6⟩,zN c⟩
theorem ConvH.row {H:List AB} {k:Nat} {t:TypeId} {sz m:Nat} {es:List (List AV)} (hk:H[k]? = some (.rowo t sz es m)) (hl:AV.ltL es.flatten 0=true):ConvH H (H.set k (.row t sz es)):=fun _ _ c hs=>
 ⟨c,rfl,hs.recell hk rfl fun⟨h1,h2,h3,_,xs,h4,h5,h6⟩=>⟨h1,h2,h3,xs,h4,RdL.cut (c:=c) (c':=c.closed) _ ⟨zN c.closed,fun k hk=>absurd hk (Ao k)⟩ hl h5,h6⟩,zN c⟩
def AV.slIn (k n:Nat) (s:AV) (x:AV):AV:=match x with
 | .ow j m=>if j=k then (if m=n then s else .top) else .ow j m
 | x=>x
theorem WQ {k n:Nat} {y:AV} (hs:y.lt 0=true) {m:Nat} {x:AV} (h:x.lt m=true):(AV.slIn k n y x).lt m=true:=by
 unfold AV.slIn;split
 ·split
  ·split
   ·exact AV.lt_mono y (Aj _) hs
   ·rfl
  ·exact h
 ·exact h
theorem ConvH.sealIn {H:List AB} (j k:Nat) {t t':TypeId} {sz sz' m:Nat} {es es' es2:List (List AV)} (hj:H[j]? = some (.rowo t sz es m)) (hk:H[k]? = some (.row t' sz' es'))
  (he:es.map (List.map (AV.slIn k es'.length (.sl sz' es'.length fun i=>es'.getD i [])))=es2):ConvH H ((H.set k .dead).set j (.rowo t sz es2 m)):=by
 intro w0 M0 c hs;subst he;have hjk:j≠k:=by rintro rfl;rw [hj] at hk;cases hk
 obtain⟨c1,e1,s1,x1,r1⟩:=hs.freeze hk;have hj1:(H.set k .dead)[j]? = some (.rowo t sz es m):=by rw [AC (Ne.symm hjk)];exact hj
 refine⟨c1,e1,s1.recell hj1 rfl ?_,x1⟩;rintro⟨h1,h2,h3,h4,_⟩;obtain⟨q0,_,_,_,ys,q1,q2,q3⟩:=hs.blk j _ hj;have hrho:=x1.rho j (hs.klt hj) (by omega);have hbase:c1.base=c.base:=s1.base.trans hs.base.symm;refine⟨by rw [Ac];exact h1,h2,fun e he=>?_,?_,ys,by rw [Ac,e1,hrho,hbase];exact q1,?_,q3⟩
 ·obtain⟨e0,h8,rfl⟩:=AK.1 he;rw [Ac];exact h3 e0 h8
 ·rw [<-List.map_flatten,Dj];intro x hx;obtain⟨y,hy,rfl⟩:=AK.1 hx;exact WQ rfl (Dj.1 h4 y hy)
 ·rw [<-List.map_flatten];have h8:∀ (l:List AV) (us:List Value),RdL l c us->RdL (l.map (AV.slIn k es'.length (.sl sz' es'.length fun i=>es'.getD i []))) c1 us:=by
   intro l;induction l with
   | nil=>intro us h;simp only [RdL] at h;subst h;simp [RdL]
   | cons x l ih=>
    intro us h;simp only [RdL] at h;obtain⟨u,vs,rfl,a1,a2⟩:=h;simp only [A8,RdL];refine⟨u,vs,rfl,?_,ih vs a2⟩;unfold AV.slIn;split
    ·rename_i i n;split
     ·rename_i hik;subst hik;split
      ·rename_i hn;subst hn;exact r1 u a1
      ·simp [Rd]
     ·exact Rd.ext _ x1 a1
    ·exact Rd.ext _ x1 a1
  exact h8 _ _ q2

def Zr (T:Tys) (m:Nat) (rs:List ResultVar) (K:AV->List AB->Prop):QA:=fun ex fr H=>match ex with
 | .exit _=>False
 | _=>HV T rs fr H fun x=>∃ y r H2,(∀ c v,Rd x c v->Rd y c v)/\WkC m [(0,y)] H [(0,r)] H2/\K r H2
theorem ACalls.ofC {P : Program} {T : Tys} (hT : TOk P T) {f : FuncId} {fn : Func} {body : Code} {args : List AV} {Hin : List AB} {K : AV → List AB → Prop} (hf : P.funcs[f]? = some fn) (hb : fn.body = some body) (hname : (fn.name == "runtime.NumGoroutine") = false) (hn : args.length ≤ fn.ntmps)
  (h:Cp P T fn.ntmps Hin.length body (Zr T Hin.length fn.results.toList K) (frOf 0 args) Hin):ACalls P false f args Hin K:=by
 refine⟨⟨fn,hf,by rw [hb];try rfl,hname⟩,fun w0 M0 c0 us hs0 hr=>?_⟩;have hlen:=hr.length;have hFR:FR (w0.at c0.w hs0.low) c0 fn.ntmps (frOf 0 args) { tmps:=us.toArray ++ Array.replicate (fn.ntmps - us.toArray.size) undef,defers:= [] }:=by
  refine⟨by simp;omega,tv,fun i=>?_⟩;have:=GM (c:=c0) (m:=fn.ntmps - us.length) (l:=args) (i:=0) (pre:= []) rfl hr i;rw [AJ];have e:(us.toArray ++ Array.replicate (fn.ntmps - us.toArray.size) undef)[i]? = ([] ++ us ++ List.replicate (fn.ntmps - us.length) undef)[i]? :=by
   have:(us.toArray ++ Array.replicate (fn.ntmps - us.toArray.size) undef)=([] ++ us ++ List.replicate (fn.ntmps - us.length) undef).toArray:=Array.ext' (by simp);rw [this];simp only [Co]
  rw [e];exact this
 have fin:∀ a w,DQ (w0.at c0.w hs0.low) M0 c0 fn.ntmps (fun fr H=>HV T fn.results.toList fr H fun x=>∃ y r H2,(∀ c v,Rd x c v->Rd y c v)/\WkC Hin.length [(0,y)] H [(0,r)] H2/\K r H2) a w->∃ v,(results fn a.tmps).run P w = .ok v w/\∃ v' c' r H',Ending.returned v = .returned v'/\c'.w=w/\K r H'/\HS w0 M0 c' H'/\Ext c0 c'/\Rd r c' v'/\(false=true->Old c0.w w):=by
  rintro a w ⟨c,fr,H,rfl,h1,h2,h3,h4⟩;obtain⟨x,v,⟨y,r,H2,o1,o2,o3⟩,q2,q3⟩:=Es hT h2 h3 h1;have hfr:FR (w0.at c0.w hs0.low) c 1 [(0,y)] { tmps:= #[v],defers:= [] }:=by
   refine⟨rfl,tv,fun i=>?_⟩;unfold fget;cases i with
   | zero=>exact o1 _ _ q2
   | succ i=>show Rd .top c _;simp [Rd]
  obtain⟨c',e1,e2,e3,e4⟩:=o2.sound hs0.dom h2 hfr h4;have hr':=e3.get 0;refine⟨v,q3,v,c',r,H2,rfl,e1,o3,⟨zn e2.low,e2.base,e2.dom,e2.foreign,e2.lt,e2.blk,e2.own,e2.dis⟩,e4,?_,fun e=>by cases e⟩;simpa [fget] using hr'
 refine Ea hf hb trivial (Ah _) fin ?_;refine B7 (w0:=w0.at c0.w hs0.low) (M0:=M0) (ce:=c0) hT hs0.dom body _ _ c0 _ Hin _ (E_ rfl rfl fun _ _ _ h=>h) hs0.toAt hFR (zN _) h

def z7:=@ACalls.ofC
theorem ACalls.fn {P:Program} {q:Bool} {f:FuncId} {args:List AV} {K:AV->List AB->Prop} {K':AV->Prop} (h:ACalls P q f args [] K) (hk:∀ r H,K r H->∃ Hc,ConvH H Hc/\OC r Hc fun x=>∃ y,(∀ c v,Rd x c v->Rd y c v)/\K' y):Fn P f args K':=by
 refine⟨h.go,fun c0 us hd hM hg hr=>?_⟩;let ce:Ctx:={ c0 with base:=0 };have hce:Ext c0 ce:=⟨rfl,rfl,rfl,Ah _,fun _ _ h=>⟨h,rfl⟩,Ah _,fun _ _=>Ah _,fun _ _ _=>rfl,fun _ _ _ h=>h⟩;have hHS:HS (Fl.all c0.w hg) c0.M ce []:=⟨zm _ hg,rfl,hd,fun _ _=>Iff.rfl,hM,by simp,by simp,by simp⟩;refine(h.calls (Fl.all c0.w hg) c0.M ce us hHS (RdL.ext _ hce hr)).mono ?_;rintro e w' ⟨v,c',r,H',rfl,rfl,q1,q2,q3,q4,_⟩;obtain⟨Hc,o1,o2⟩:=hk r H' q1;obtain⟨c1,e1,s1,x1⟩:=o1 _ _ c' q2;obtain⟨x,H2,c2,⟨y,p0,p1⟩,p2,p3,p4,p5⟩:=JV s1 (Rd.ext _ x1 q4) o2;refine⟨v,y,rfl,p1,q2.low.below,p0 _ _ ?_⟩;have e2:c2.w=c'.w:=p2.trans e1;have hE:Ext c2.closed { c0 with w:=c'.w }:=by
  refine⟨by simp [Ctx.closed,e2],by simp [Ctx.closed,e2],by simp [Ctx.closed,e2],by simp [Ctx.closed,e2],fun b hb hm=>⟨fun h=>hm ?_,by simp [Ctx.closed,e2]⟩,Aj _,fun k hk=>absurd hk (Ao k),fun k hk=>absurd hk (Ao k),fun k _ hk=>absurd hk (Ao k)⟩;exact(p3.foreign b (hM b h)).2 h
 exact Rd.ext _ hE p5
theorem ACalls.conv {P:Program} {q:Bool} {f:FuncId} {args:List AV} {H:List AB} {K K':AV->List AB->Prop} (h:ACalls P q f args H K) (hk:∀ r H',K r H'->∃ H'',ConvH H' H''/\K' r H''):ACalls P q f args H K':=by
 refine⟨h.go,fun w0 M0 c us hs hr=>(h.calls w0 M0 c us hs hr).mono ?_⟩;rintro e w' ⟨v,c',r,H',rfl,rfl,q1,q2,q3,q4,q5⟩;obtain⟨H'',o1,o2⟩:=hk r H' q1;obtain⟨c1,e1,s1,x1⟩:=o1 _ _ c' q2;exact⟨v,c1,r,H'',rfl,e1,o2,s1,q3.trans x1,Rd.ext _ x1 q4,q5⟩
mutual
theorem AV.ren_id {f:Nat->Nat}:∀ (x:AV),x.lt 0=true->x.ren f=x
 | .top,_=>rfl
 | .v _,_=>rfl
 | .sl _ _ _,_=>rfl
 | .rp _,_=>rfl
 | .bp k _,h=>by simp [AV.lt,Nat.blt] at h
 | .ow k _,h=>by simp [AV.lt,Nat.blt] at h
 | .ep k _ _ _ _,h=>by simp [AV.lt,Nat.blt] at h
 | .ag cs,h=>by simp only [AV.lt] at h;simp only [AV.ren,AV.renL_id cs h]
 | .tp cs,h=>by simp only [AV.lt] at h;simp only [AV.ren,AV.renL_id cs h]
 | .fn _ cs,h=>by simp only [AV.lt] at h;simp only [AV.ren,AV.renL_id cs h]
 | .ic _ cs,h=>by simp only [AV.lt] at h;simp only [AV.ren,AV.renL_id cs h]
theorem AV.renL_id {f:Nat->Nat}:∀ (l:List AV),AV.ltL l 0=true->AV.renL f l=l
 | [],_=>rfl
 | x::l,h=>by
  simp only [AV.ltL,Ad] at h;simp only [AV.renL,AV.ren_id x h.1,AV.renL_id l h.2]
end
theorem ACalls.quiet {P:Program} {q q':Bool} {f:FuncId} {args:List AV} {K:AV->List AB->Prop} (h:ACalls P q f args [] K):ACalls P q' f args [] K:=by
 refine⟨h.go,fun w0 M0 c us hs hr=>?_⟩;have hs1:HS (Fl.all c.w hs.glob) c.M c []:=⟨zm _ _,hs.base,hs.dom,fun _ _=>Iff.rfl,hs.lt,by simp,by simp,by simp⟩;refine(h.calls _ c.M c us hs1 hr).mono ?_;rintro e w' ⟨v,c',r,H',rfl,rfl,q1,q2,q3,q4,_⟩;have hlt:∀ b,w0.old b->b<c.w.heap.size:=fun b hb=>Aq (w0.lt b hb) hs.low.size
 exact⟨v,c',r,H',rfl,rfl,q1,⟨hs.low.trans q2.low.below,q2.base,q2.dom,fun b hb=>(q2.foreign b (hlt b hb)).trans (hs.foreign b hb),q2.lt,q2.blk,fun k x g hk hl ho=>⟨(q2.own k x g hk hl ho).1,fun hb=>(q2.own k x g hk hl ho).2 (hlt g hb)⟩,q2.dis⟩,q3,q4,fun _=>q2.low.below.old⟩
theorem ACalls.beside {P:Program} {q q':Bool} {f:FuncId} {args:List AV} {H:List AB} {k K:AV->List AB->Prop} (h:ACalls P q' f args [] K) (hc:AV.ltL args 0=true)
  (hk:∀ r R,K r R->cntK H 0 fun d=>Vc (ixm [] d) [] R H fun H=>Do (r.ren (ixm [] d)) fun r=>k r H):ACalls P q f args H k:=
 zX [] (h.quiet (q':=q)) (AV.renL_id args hc).symm hc rfl rfl List.nodup_nil (fun _ h=>by cases h) trivial hk
def zW:=@ACalls.beside
def flatV:AV->Bool
 | .v _=>true
 | .tp l=>l.all fun x=>match x with | .v _=>true | _=>false
 | _=>false
theorem VL {x:AV} (h:flatV x=true) {c c':Ctx} {v:Value} (hr:Rd x c v):Rd x c' v:=by
 unfold flatV at h;split at h
 ·simpa [Rd] using hr
 ·rename_i l;simp only [Rd] at hr |-
  obtain⟨xs,rfl,hx⟩:=hr;refine⟨xs,rfl,?_⟩;induction l generalizing xs with
  | nil=>simpa [RdL] using hx
  | cons x l ih=>
   simp only [AX,Ad] at h;simp only [RdL] at hx |-
   obtain⟨u,us,rfl,h1,h2⟩:=hx;refine⟨u,us,rfl,?_,ih h.2 us h2⟩;cases x <;> simp at h;simpa [Rd] using h1
 ·cases h
theorem Fn.lend {P:Program} {f:FuncId} {args args':List AV} {H:List AB} {K:AV->Prop} {q:Bool} {k:AV->List AB->Prop} (h:Fn P f args' K) (hs:sealA args H fun a _=>a=args') (hk:∀ r,K r->flatV r=true/\k r H):ACalls P q f args H k:=by
 refine⟨h.1,fun w0 M0 c us hs0 hr=>?_⟩;obtain⟨l',H',c',rfl,h2,h3,h4,h5,_⟩:=sealA_sound hs0 hr hs;have:=h.2 c'.closed us rfl h3.lt h3.glob h5;rw [show c'.closed.w=c.w from h2] at this;refine this.mono ?_;rintro e w' ⟨v,r,rfl,q1,q2,q3⟩;obtain⟨p1,p2⟩:=hs0.grow q2;obtain⟨p3,p4⟩:=hk r q1;exact⟨v,_,r,H,rfl,rfl,p4,p1,p2,VL p3 q3,fun _=>q2.old⟩

def zj:=@Fn.lend
end
end Go.Proofs.YtepdhdfoipephaaGreatDoor.A
namespace Go.Proofs.YtepdhdfoipephaaGreatDoor
section
open Go.RowKit
theorem leB_step:∀ (k n:Nat),leB (k+1) n=leB k n ++ [UInt8.ofNat (n / 256 ^ k % 256)]
 | 0,n=>by simp [leB]
 | k+1,n=>by
  show UInt8.ofNat (n % 256)::leB (k+1) (n / 256)=(UInt8.ofNat (n % 256)::leB k (n / 256)) ++ _;rw [leB_step k (n / 256),Nat.div_div_eq_div_mul,Nat.pow_succ,Nat.mul_comm 256];try rfl

theorem Qe (k:Nat) (h:k<256):((UInt8.ofNat k).toNat:Int)=(k:Int):=by rw [B8 h]
theorem OwR.lit1 (w:World) (k:Nat) (h:k<256):OwR (w.alloc (.cells #[.int .u8 (k:Int)] 5)) noM w.heap.size 5 (.slice (some ⟨w.heap.size,0,none⟩) 1 1) [UInt8.ofNat k]:=by
 have hL:=zl w noM [UInt8.ofNat k] (by simp);simpa only [A8,BM,Qe k h,Ap,Bd] using hL
theorem OwR.lit2 (w:World) (k m:Nat) (h:k<256) (h':m<256):OwR (w.alloc (.cells #[.int .u8 (k:Int), .int .u8 (m:Int)] 5)) noM w.heap.size 5 (.slice (some ⟨w.heap.size,0,none⟩) 2 2) [UInt8.ofNat k,UInt8.ofNat m]:=by
 have hL:=zl w noM [UInt8.ofNat k,UInt8.ofNat m] (by simp);simpa only [A8,BM,Qe k h,Qe m h',Ap,Bd] using hL
theorem Xj {g:Geo} {r:Rc} (h:DP g r=true):∃ K S E A O:Nat,r.kind=K/\r.seq=S/\r.epoch=E/\r.at_=A/\r.of_=O/\S<=4294967295/\E<=4294967295:=by
 obtain⟨-,h⟩:=EY h;refine⟨r.kind.toNat,r.seq.toNat,r.epoch.toNat,r.at_.toNat,r.of_.toNat,?_⟩;rcases h with h | h | h <;> omega
theorem Xk {g:Geo} {r:Rc} (h:DP g r=true) (hk:r.kind=1):∃ Z W:Nat,r.img.zone=Z/\Da r.img.what=W/\Z<=3/\r.img.bytes.length<=255:=by
 have hb:=Et h;rw [IR h,if_pos hk] at hb;obtain⟨hg,h⟩:=EY h;obtain⟨hz,hd, -⟩:=Ar.1 hg;rcases h with h | ⟨-, -, -, -, -,h⟩ | h
 ·omega
 ·obtain⟨-,h1,h2⟩:=FY h;refine⟨r.img.zone.toNat,(Da r.img.what).toNat,by omega,?_,by omega,by omega⟩;unfold Da;split
  ·rfl
  ·rcases h2 with ⟨h3, -⟩ | ⟨-,h3, -⟩ <;> omega
 ·omega

end
end Go.Proofs.YtepdhdfoipephaaGreatDoor
namespace Go.Proofs.YtepdhdfoipephaaGreatDoor.A
section
open Go.RowKit
theorem Z0 {a:AV} {c:Ctx} {us:List Value} (h:RdL [a] c us):∃ u,us=[u]/\Rd a c u:=by
 simp only [RdL] at h;obtain⟨u,r,rfl,h1,rfl⟩:=h;exact⟨u,rfl,h1⟩
theorem Z6 {a b:AV} {c:Ctx} {us:List Value} (h:RdL [a,b] c us):∃ u v,us=[u,v]/\Rd a c u/\Rd b c v:=by
 simp only [RdL] at h;obtain⟨u,r,rfl,h1,v,q,rfl,h2,rfl⟩:=h;exact⟨u,v,rfl,h1,h2⟩
theorem Vl {c:Ctx} {a b:AV} {u v:Value} (h:Rd a c u) (k:Rd b c v):Rd (.tp [a,b]) c (.tuple #[u,v]):=by
 simp only [Rd,RdL];exact⟨_,rfl,_,_,rfl,h,_,_,rfl,k,rfl⟩
theorem Mg {c:Ctx} (v:Value):Rd (.v v) c v:=by simp [Rd]
def ZN (b:List UInt8):AV:=match Iv b with
 | some (s,n)=> .tp [.v (.string s),iv n,iv 0]
 | none=> .tp [.v (.string ⟨#[]⟩),iv 0,iv 4]
theorem S7 (b:List UInt8) (hl:b.length<=100000):Fn Tryz.prog 284 [bA b] fun r=>r=match Iv b with | some (s,n)=> .tp [.v (.string s),iv n] | none=> .tp [.v (.string ⟨#[]⟩),iv 0]:=by
 have hb0:=(b.getD 0 0).toNat_lt;have hw:IntKind.i64.wrap (1+IntKind.i64.wrap ((b.getD 0 0).toNat:Int))=((1+(b.getD 0 0).toNat:Nat):Int):=by rw [wi (n:=((b.getD 0 0).toNat:Int)) (by omega),wi (by omega)];omega
 by_cases hs:b.length<1+(b.getD 0 0).toNat
 ·rw [show Iv b=none by rw [Iv,if_pos hs]];refine zT Tryz.func284 rfl ?_;conv=>whnf
  refine A6 (fun h=>?_) (fun h=>?_) <;> (repeat rw [Aa] at h) <;> conv=>whnf
  ·exact⟨_,ri,rfl⟩
  ·refine⟨by first | omega | (refine⟨rfl,?_,?_⟩ <;> first | omega | (simp only [Ac];done) | (simp only [Ac];omega)) | (simp only [Ac];omega),?_⟩;conv=>whnf
   refine A6 (fun h2=>?_) (fun h2=>?_) <;> (repeat rw [Aa] at h2) <;> conv=>whnf
   ·exact⟨_,ri,rfl⟩
   ·exfalso;have h2:IntKind.i64.wrap (1+IntKind.i64.wrap ((b.getD 0 0).toNat:Int))<=(b.length:Int):=h2;rw [hw] at h2;omega
 ·have hlen:((b.drop 1).take (b.getD 0 0).toNat).length=(b.getD 0 0).toNat:=by rw [As,Ak];omega
  have hsz:(⟨((b.drop 1).take (b.getD 0 0).toNat).toArray⟩:ByteArray).size=(b.getD 0 0).toNat:=by show (List.toArray _).size=_;simp only [BR,hlen]
  have hc:=MC ⟨((b.drop 1).take (b.getD 0 0).toNat).toArray⟩ (by rw [hsz];omega);have hw2:IntKind.i64.wrap (1+((⟨((b.drop 1).take (b.getD 0 0).toNat).toArray⟩:ByteArray).size:Int))=((1+(b.getD 0 0).toNat:Nat):Int):=by rw [hsz,wi (by omega)];omega
  refine zT Tryz.func284 rfl ?_;conv=>whnf
  refine A6 (fun h=>?_) (fun h=>?_) <;> (repeat rw [Aa] at h) <;> conv=>whnf
  ·exfalso;have h:(b.length:Int)=0:=h;omega
  ·refine⟨by first | omega | (refine⟨rfl,?_,?_⟩ <;> first | omega | (simp only [Ac];done) | (simp only [Ac];omega)) | (simp only [Ac];omega),?_⟩;conv=>whnf
   refine A6 (fun h2=>?_) (fun h2=>?_) <;> (repeat rw [Aa] at h2) <;> conv=>whnf
   ·exfalso;have h2:(b.length:Int)<IntKind.i64.wrap (1+IntKind.i64.wrap ((b.getD 0 0).toNat:Int)):=h2;rw [hw] at h2;omega
   ·refine⟨by first | omega | (refine⟨rfl,?_,?_⟩ <;> first | omega | (simp only [Ac];done) | (simp only [Ac];omega)) | (simp only [Ac];omega),?_⟩;conv=>whnf
    have hw':IntKind.i64.wrap (1+IntKind.i64.wrap ((b.getD (Int.toNat 0) 0).toNat:Int))=((1+(b.getD 0 0).toNat:Nat):Int):=hw;rw [hw'];refine⟨⟨by omega,by omega,by omega,by omega⟩,?_⟩;conv=>whnf
    refine⟨(b.drop 1).take (b.getD 0 0).toNat,⟨rfl,by rw [hlen];omega,fun i hi=>?_⟩,?_⟩
    ·have hi':i<(b.getD 0 0).toNat:=by omega
     show [AV.v (Value.int IntKind.u8 ((b.getD (i+1) 0).toNat:Int))]=_;rw [show ((b.drop 1).take (b.getD 0 0).toNat).getD i 0=b.getD (i+1) 0 by rw [Ab,BJ hi',BB,CJ];try rfl]
    conv=>whnf
    refine z_ hc ?_;conv=>whnf
    refine A6 (fun h3=>?_) (fun h3=>?_) <;> (repeat rw [Aa] at h3) <;> conv=>whnf
    ·have h3:FF ((b.drop 1).take (b.getD 0 0).toNat)≠0:=h3;exact⟨_,ri,by rw [Iv,if_neg hs,if_neg h3]⟩
    ·have h3:FF ((b.drop 1).take (b.getD 0 0).toNat)=0:=h3;exact⟨_,ri,by rw [Iv,if_neg hs,if_pos h3];simp only;rw [hw2]⟩
theorem US (s:ByteArray) (hs:s.size<=255):Fn Tryz.prog 249 [.v (.string s)] fun r=>r=bA (HY s):=by
 refine⟨⟨_,Tryz.func249,rfl,by decide⟩,fun c0 us hd hM _ hr=>?_⟩;obtain⟨u1,rfl,h1⟩:=Z0 hr;simp only [Rd] at h1;subst h1;refine(SC s c0.w noM hs).mono ?_;rintro e w' ⟨r,rfl,ho,hB⟩;exact⟨_,_,rfl,rfl,hB,XU ho hM⟩
def Eo (x:UInt8):List AV:= [.v (.int .u8 x.toNat)]
def On (x:Int):List AV:= [iv x]
theorem P7 {w:World} {M:Ms}:∀ {l:List UInt8} {xs:List Value},Elems (Rp.sz UInt8) (Rp.E w M) xs l->xs=l.map fun x=> .int .u8 x.toNat
 | [],_,h=>h
 | x::l,_,h=>by
  obtain⟨cs,ys,rfl,_,h2,h3⟩:=h;have h2:cs=[.int .u8 x.toNat]:=h2;rw [h2,P7 h3];try rfl
theorem RK (c:Ctx):∀ l:List UInt8,RdL (l.map Eo).flatten c (l.map fun x=> .int .u8 x.toNat)
 | []=>by simp [RdL]
 | x::l=>by
  simp only [A8,AP,Eo,Bl,Bu,RdL];exact⟨_,_,rfl,by simp [Rd],RK c l⟩
theorem HS.bytes {w0:Fl} {M0:Ms} {c:Ctx} {H:List AB} (h:HS w0 M0 c H) {w':World} (hb:Below c.w.heap.size c.w w') {M:Ms} {v:Value} {l:List UInt8} (ho:OwR w' M c.w.heap.size 5 v l) :
  ∃ c',c'.w=w'/\HS w0 M0 c' (H ++ [.row 5 1 (l.map Eo)])/\Ext c c'/\Rd (.ow H.length l.length) c' v:=by
 obtain⟨xs,h1,h2⟩:=ho;have hx:=P7 h2;subst hx;obtain⟨a,b,d⟩:=h.newrow (es:=l.map Eo) (t:=5) (sz:=1) hb (by omega) (fun e he=>by obtain⟨x,_,rfl⟩:=AK.1 he;rfl) (by rw [Ac];exact h1) (fun u hu=>by obtain⟨x,_,rfl⟩:=AK.1 hu;rfl) (RK _ l);rw [Ac] at a b d;exact⟨_,rfl,a,b,d⟩
theorem ACalls.ofBytes {P:Program} {f:FuncId} {args:List AV} {l:List UInt8} (hg:W9 P f)
  (h:∀ (c:Ctx) (us:List Value),RdL args c us->Calls P f us.toArray c.w fun e w'=>∃ r,e = .returned (.tuple #[r, .int .i64 0])/\OwR w' noM c.w.heap.size 5 r l/\Below c.w.heap.size c.w w') :
  ACalls P false f args [] fun r H=>r = .tp [.ow 0 l.length,iv 0]/\H=[.row 5 1 (l.map Eo)]:=by
 refine⟨hg,fun w0 M0 c us hs hr=>(h c us hr).mono ?_⟩;rintro e w' ⟨r,rfl,ho,hB⟩;obtain⟨c',e1,e2,e3,e4⟩:=hs.bytes hB ho;exact⟨_,c',_,_,rfl,e1,tA,e2,e3,Vl e4 (Mg _),fun h=>by cases h⟩
theorem Qh {c:Ctx} {u:Value} {b:List Int} (h:Rd (iA b) c u):SlR c.w c.M u b:=by
 simp only [iA,Rd] at h;obtain⟨a,k,rfl,h1,h2,h3⟩:=h;refine⟨a,k,b.map fun x=> .int .i64 x,rfl,h1,h2,?_,fun hne=>?_⟩
 ·refine Elems.of_get (by simp [Rp.sz]) fun i x hx=>⟨[.int .i64 x],rfl,rfl,fun j hj=>?_⟩
  have hj:j<1:=hj;obtain rfl:j=0:=by omega
  simp [Rp.sz,hx]
 ·rcases h3 with h3 | ⟨bl,off,rfl,hm,hb,hc⟩
  ·exact absurd (Bc h3) hne
  ·refine⟨bl,off,rfl,hm,fun j u hu=>?_⟩;rw [AZ] at hu;cases hq:b[j]? with
   | none=>rw [hq] at hu;simp at hu
   | some x=>
    rw [hq] at hu;simp at hu;subst hu;have hlt:=(At.1 hq).1;have:=(hc j hlt).2;simp only [RdAt,Rd] at this;obtain⟨⟨u,e1,_,rfl⟩,_⟩:=this;rw [Nat.mul_one] at e1;rw [show b.getD j 0=x by rw [Ab,hq];try rfl] at e1;exact e1
theorem NF (ns ss:List Int) (hl:ns.length=ss.length) (hn:ns.length<=1000) (hf:∀ k (a:k<ns.length) (b:k<ss.length),EK ss[k]/\0<=ns[k]/\ns[k]<Df ss[k]) :
  ACalls Tryz.prog false 251 [iA ns,iA ss] [] fun r H=>r = .tp [.ow 0 (rowB ns ss).length,iv 0]/\H=[.row 5 1 ((rowB ns ss).map Eo)]:=by
 refine ACalls.ofBytes ⟨_,Tryz.func251,rfl,by decide⟩ fun c us hr=>?_
 obtain⟨u1,u2,rfl,h1,h2⟩:=Z6 hr;exact WV u1 u2 ns ss c.w noM c.M c.M (Qh h1) (Qh h2) hl hn hf
theorem Vf (l:List UInt8) (hl:l.length<=255):ACalls Tryz.prog false 268 [bA l] [] fun r H=>r = .tp [.ow 0 (UInt8.ofNat l.length::l).length,iv 0]/\H=[.row 5 1 ((UInt8.ofNat l.length::l).map Eo)]:=by
 refine ACalls.ofBytes ⟨_,Tryz.func268,rfl,by decide⟩ fun c us hr=>?_
 obtain⟨u1,rfl,h1⟩:=Z0 hr;exact O_ u1 l c.w noM c.M (IF h1) hl
end
end Go.Proofs.YtepdhdfoipephaaGreatDoor.A
